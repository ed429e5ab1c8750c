/- The walks of size.N, Weak, Proof: of a size that may be, in floats. -/
import Derived.Test.YtgkhgjoggkcklaaENth
import Derived.Test.YtgkhgjoggkcklaaKit
import Derived.Laws.FloatArith
namespace Go.Proofs.Ytgkhgjoggkcklaa
open Go Go.RowKit
set_option maxRecDepth 100000
set_option maxHeartbeats 1000000

/-- what the floats make of so often F and so often T -/
def ofOk (F T : Int) (a b : Nat) (n : Int) : Bool :=
  match floatBits .mul .f64 (floatOfInt .f64 F) a, floatBits .mul .f64 (floatOfInt .f64 T) b with
  | some p, some q => match floatBits .add .f64 p q with
    | some r => decide (floatToIntVal .f64 r .i64 = some n)
    | none => false
  | _, _ => false
theorem ofOk_parts {F T : Int} {a b : Nat} {n : Int} (h : ofOk F T a b n = true) : ∃ p q r, floatBits .mul .f64 (floatOfInt .f64 F) a = some p ∧ floatBits .mul .f64 (floatOfInt .f64 T) b = some q ∧ floatBits .add .f64 p q = some r ∧ floatToIntVal .f64 r .i64 = some n := by
  unfold ofOk at h
  split at h
  · rename_i p q hp hq
    split at h
    · rename_i r hr
      exact ⟨p, q, r, hp, hq, hr, by simpa using h⟩
    · cases h
  · cases h
def SizeV (F T : Int) : Array Value := #[.int .i64 F, .int .i64 T]
def RightS (F T : Int) : Prop := 1 ≤ F ∧ F ≤ 5 ∧ 0 ≤ T ∧ T ≤ F
def sizes : List (Int × Int) := [(1, 0), (1, 1), (2, 0), (2, 1), (2, 2), (3, 0), (3, 1), (3, 2), (3, 3), (4, 0), (4, 1), (4, 2), (4, 3), (4, 4), (5, 0), (5, 1), (5, 2), (5, 3), (5, 4), (5, 5)]
theorem mem_sizes {F T : Int} (h : RightS F T) : (F, T) ∈ sizes := by
  obtain ⟨h1, h2, h3, h4⟩ := h
  have e : F = 1 ∨ F = 2 ∨ F = 3 ∨ F = 4 ∨ F = 5 := by omega
  have e2 : T = 0 ∨ T = 1 ∨ T = 2 ∨ T = 3 ∨ T = 4 ∨ T = 5 := by omega
  rcases e with rfl | rfl | rfl | rfl | rfl <;> rcases e2 with rfl | rfl | rfl | rfl | rfl | rfl <;> first | (exfalso; omega) | decide
theorem ok_N : sizes.all (fun x => ofOk x.1 x.2 4613937818241073152 4611686018427387904 (3 * x.1 + 2 * x.2)) = true := by kernel_rfl
theorem ok_P : sizes.all (fun x => ofOk x.1 x.2 4611686018427387904 4607182418800017408 (2 * x.1 + x.2)) = true := by kernel_rfl
theorem ok_W : sizes.all (fun x => ofOk x.1 x.2 4607182418800017408 0 x.1) = true := by kernel_rfl

theorem pair_any (F T : Int) (w : World) : Calls Try.prog 49 #[.agg (SizeV F T)] w fun e w' => e = .returned (.complex .f64 (floatOfInt .f64 F) (floatOfInt .f64 T)) ∧ Below w.heap.size w w' := by
  unfold SizeV
  go_enter Try.func49, Try.ntmps49
  go_wp2_with fail
  go_ret
  exact ⟨rfl, (Below.refl _ _).alloc (Nat.le_refl _) _⟩
theorem of_any (F T : Int) (a b : Nat) (n : Int) (w : World) (h : ofOk F T a b n = true) (hn : 0 ≤ n ∧ n ≤ 1000) :
    Calls Try.prog 35 #[.agg (SizeV F T), .complex .f64 a b] w fun e w' => e = .returned (.int .i64 (n + 1)) ∧ Below w.heap.size w w' := by
  obtain ⟨p, q, r, h1, h2, h3, h4⟩ := ofOk_parts h
  have HP := Lib.hid (fun w => pair_any F T w)
  obtain ⟨n0, n1⟩ := hn
  have k1 := fun w => run_float_arith (P := Try.prog) w .mul 87 .f64 _ _ _ h1
  have k2 := fun w => run_float_arith (P := Try.prog) w .mul 87 .f64 _ _ _ h2
  have k3 := fun w => run_float_arith (P := Try.prog) w .add 87 .f64 _ _ _ h3
  have k4 := fun w => run_convert_float_int (P := Try.prog) w 87 3 .f64 .i64 r n (by rw [Try.underlying87]; rfl) Try.underlying3 h4
  have HB0 : Hid (Below w.heap.size w (w.alloc (.cells (SizeV F T) 23))) := Lib.hid ((Below.refl _ _).alloc (Nat.le_refl _) _)
  clear h h1 h2 h3 h4
  unfold SizeV at *
  go_enter Try.func35, Try.ntmps35
  go_wp2_with (go_at_call 49; refine (HP.out _).mono ?_; rintro e w1 ⟨rfl, b1⟩; have HB1 := Lib.hid (HB0.out.trans (b1.mono HB0.out.size)); clear b1)
  go_ret
  exact ⟨rfl, HB1.out⟩
theorem N_any (F T : Int) (w : World) (h : RightS F T) : Calls Try.prog 42 #[.agg (SizeV F T)] w fun e w' => e = .returned (.int .i64 (3 * F + 2 * T + 1)) ∧ Below w.heap.size w w' := by
  have ho := List.all_eq_true.1 ok_N _ (mem_sizes h)
  obtain ⟨h1, h2, h3, h4⟩ := h
  have HO := Lib.hid (fun w => of_any F T _ _ _ w ho (by dsimp only; omega))
  have HB0 : Hid (Below w.heap.size w (w.alloc (.cells (SizeV F T) 23))) := Lib.hid ((Below.refl _ _).alloc (Nat.le_refl _) _)
  clear ho h1 h2 h3 h4
  unfold SizeV at *
  go_enter Try.func42, Try.ntmps42
  go_wp2_with (go_at_call 35; refine (HO.out _).mono ?_; rintro e w1 ⟨rfl, b1⟩; have HB1 := Lib.hid (HB0.out.trans (b1.mono HB0.out.size)); clear b1)
  go_ret
  exact ⟨rfl, HB1.out⟩
theorem Proof_any (F T : Int) (w : World) (h : RightS F T) : Calls Try.prog 16 #[.agg (SizeV F T)] w fun e w' => e = .returned (.int .i64 (2 * F + T + 1)) ∧ Below w.heap.size w w' := by
  have ho := List.all_eq_true.1 ok_P _ (mem_sizes h)
  obtain ⟨h1, h2, h3, h4⟩ := h
  have HO := Lib.hid (fun w => of_any F T _ _ _ w ho (by dsimp only; omega))
  have HB0 : Hid (Below w.heap.size w (w.alloc (.cells (SizeV F T) 23))) := Lib.hid ((Below.refl _ _).alloc (Nat.le_refl _) _)
  clear ho h1 h2 h3 h4
  unfold SizeV at *
  go_enter Try.func16, Try.ntmps16
  go_wp2_with (go_at_call 35; refine (HO.out _).mono ?_; rintro e w1 ⟨rfl, b1⟩; have HB1 := Lib.hid (HB0.out.trans (b1.mono HB0.out.size)); clear b1)
  go_ret
  exact ⟨rfl, HB1.out⟩
theorem Weak_any (F T : Int) (w : World) (h : RightS F T) : Calls Try.prog 14 #[.agg (SizeV F T)] w fun e w' => e = .returned (.int .i64 (F + 1)) ∧ Below w.heap.size w w' := by
  have ho := List.all_eq_true.1 ok_W _ (mem_sizes h)
  obtain ⟨h1, h2, h3, h4⟩ := h
  have HO := Lib.hid (fun w => of_any F T _ _ _ w ho (by dsimp only; omega))
  have HB0 : Hid (Below w.heap.size w (w.alloc (.cells (SizeV F T) 23))) := Lib.hid ((Below.refl _ _).alloc (Nat.le_refl _) _)
  clear ho h1 h2 h3 h4
  unfold SizeV at *
  go_enter Try.func14, Try.ntmps14
  go_wp2_with (go_at_call 35; refine (HO.out _).mono ?_; rintro e w1 ⟨rfl, b1⟩; have HB1 := Lib.hid (HB0.out.trans (b1.mono HB0.out.size)); clear b1)
  go_ret
  exact ⟨rfl, HB1.out⟩
def rightS (F T : Int) : Bool := decide (1 ≤ F) && decide (F ≤ 5) && decide (0 ≤ T) && decide (T ≤ F)
theorem rightS_iff (F T : Int) : rightS F T = true ↔ RightS F T := by
  simp [rightS, RightS, and_assoc]
theorem Right_size (F T : Int) (w : World) : Calls Try.prog 41 #[.agg (SizeV F T)] w fun e w' => e = .returned (.bool (rightS F T)) ∧ Below w.heap.size w w' := by
  have HB0 : Hid (Below w.heap.size w (w.alloc (.cells (SizeV F T) 23))) := Lib.hid ((Below.refl _ _).alloc (Nat.le_refl _) _)
  have HR := Lib.hid (show rightS F T = (decide (1 ≤ F) && decide (F ≤ 5) && decide (0 ≤ T) && decide (T ≤ F)) from rfl)
  unfold SizeV at *
  generalize rightS F T = r at *
  go_enter Try.func41, Try.ntmps41
  go_wp2_with fail
  all_goals (go_ret; refine ⟨?_, HB0.out⟩; rw [HR.out]; simp_all <;> omega)
theorem Right_rsize (F T : Int) (w : World) : Calls Try.prog 31 #[.agg (SizeV F T)] w fun e w' => e = .returned (.bool (rightS F T)) ∧ Below w.heap.size w w' := by
  have HB0 : Hid (Below w.heap.size w (w.alloc (.cells (SizeV F T) 28))) := Lib.hid ((Below.refl _ _).alloc (Nat.le_refl _) _)
  have HR := Lib.hid (show rightS F T = (decide (1 ≤ F) && decide (F ≤ 5) && decide (0 ≤ T) && decide (T ≤ F)) from rfl)
  unfold SizeV at *
  generalize rightS F T = r at *
  go_enter Try.func31, Try.ntmps31
  go_wp2_with fail
  all_goals (go_ret; refine ⟨?_, HB0.out⟩; rw [HR.out]; simp_all <;> omega)
theorem N_ref (F T : Int) (w : World) (h : RightS F T) : Calls Try.prog 32 #[.agg (SizeV F T)] w fun e w' => e = .returned (.int .i64 (3 * F + 2 * T + 1)) ∧ Below w.heap.size w w' := by
  obtain ⟨h1, h2, h3, h4⟩ := h
  have HB0 : Hid (Below w.heap.size w (w.alloc (.cells (SizeV F T) 28))) := Lib.hid ((Below.refl _ _).alloc (Nat.le_refl _) _)
  unfold SizeV at *
  go_enter Try.func32, Try.ntmps32
  go_wp2_with fail
  go_ret
  exact ⟨rfl, HB0.out⟩
theorem Proof_ref (F T : Int) (w : World) (h : RightS F T) : Calls Try.prog 54 #[.agg (SizeV F T)] w fun e w' => e = .returned (.int .i64 (2 * F + T + 1)) ∧ Below w.heap.size w w' := by
  obtain ⟨h1, h2, h3, h4⟩ := h
  have HB0 : Hid (Below w.heap.size w (w.alloc (.cells (SizeV F T) 28))) := Lib.hid ((Below.refl _ _).alloc (Nat.le_refl _) _)
  unfold SizeV at *
  go_enter Try.func54, Try.ntmps54
  go_wp2_with fail
  go_ret
  exact ⟨rfl, HB0.out⟩
theorem Weak_ref (F T : Int) (w : World) (h : RightS F T) : Calls Try.prog 53 #[.agg (SizeV F T)] w fun e w' => e = .returned (.int .i64 (F + 1)) ∧ Below w.heap.size w w' := by
  obtain ⟨h1, h2, h3, h4⟩ := h
  have HB0 : Hid (Below w.heap.size w (w.alloc (.cells (SizeV F T) 28))) := Lib.hid ((Below.refl _ _).alloc (Nat.le_refl _) _)
  unfold SizeV at *
  go_enter Try.func53, Try.ntmps53
  go_wp2_with fail
  go_ret
  exact ⟨rfl, HB0.out⟩
end Go.Proofs.Ytgkhgjoggkcklaa

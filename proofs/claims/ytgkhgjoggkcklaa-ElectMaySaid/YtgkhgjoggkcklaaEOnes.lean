/- The walks of elect's isView, of the test of its closure, of slices' ContainsFunc with it, of bits' OnesCount at small numbers. -/
import Derived.Test.YtgkhgjoggkcklaaEPlain
import Derived.Test.YtgkhgjoggkcklaaPlNth
namespace Go.Proofs.Ytgkhgjoggkcklaa
open Go Go.RowKit
set_option maxRecDepth 100000
set_option maxHeartbeats 4000000

def onesA (n : Int) : Int := IntKind.u64.wrap (bits .and .u64 (n / 2) 6148914691236517205 + bits .and .u64 n 6148914691236517205)
def onesB (a : Int) : Int := IntKind.u64.wrap (bits .and .u64 (a / 4) 3689348814741910323 + bits .and .u64 a 3689348814741910323)
def onesC (b : Int) : Int := bits .and .u64 (IntKind.u64.wrap (b / 16 + b)) 1085102592571150095
def onesD (c : Int) : Int := IntKind.u64.wrap (c + c / 256)
def onesE (d : Int) : Int := IntKind.u64.wrap (d + d / 65536)
def onesG (e : Int) : Int := IntKind.u64.wrap (e + e / 4294967296)
/-- what OnesCount64 makes of a number -/
def onesF (n : Int) : Int := bits .and .i64 (wrap64 (onesG (onesE (onesD (onesC (onesB (onesA n))))))) 127
theorem OnesCount64_any (n : Nat) (w : World) (hn : n ≤ 4096) : Calls Try.prog 57 #[.int .u64 n] w fun e w' => e = .returned (.int .i64 (onesF n)) ∧ w' = w := by
  have hn' : (n : Int) ≤ 4096 := by omega
  go_enter Try.func57, Try.ntmps57
  go_wp2_with fail
  go_ret
  exact ⟨rfl, rfl⟩
theorem ones_all : (List.range 4097).all (fun n => decide (n < 4) || (decide (onesF n = 1) == decide ((n : Int) ∈ [4, 8, 16, 32, 64, 128, 256, 512, 1024, 2048, 4096]))) = true := by kernel_rfl
theorem ones_law (n : Nat) (h4 : 4 ≤ n) (hn : n ≤ 4096) : decide (onesF n = 1) = decide ((n : Int) ∈ [4, 8, 16, 32, 64, 128, 256, 512, 1024, 2048, 4096]) := by
  have h := List.all_eq_true.1 ones_all n (List.mem_range.2 (by omega))
  simp only [Bool.or_eq_true, decide_eq_true_eq, beq_iff_eq] at h
  rcases h with h | h
  · omega
  · exact h
theorem OnesCount_any (n : Nat) (w : World) (hn : n ≤ 4096) : Calls Try.prog 47 #[.int .u64 n] w fun e w' => e = .returned (.int .i64 (onesF n)) ∧ w' = w := by
  have HO := Lib.hid (OnesCount64_any n w hn)
  go_enter Try.func47, Try.ntmps47
  go_wp2_with (go_at_call 57; refine HO.out.mono ?_; rintro e w1 ⟨rfl, rfl⟩)
  go_ret
  exact ⟨rfl, rfl⟩
def isVwB (x : Int) : Bool := decide (0 ≤ x) && decide (x ≤ 100000)
theorem isView_any (x : Int) (w : World) : Calls Try.prog 44 #[.int .i64 x] w fun e w' => e = .returned (.bool (isVwB x)) ∧ w' = w := by
  have HR : Hid (isVwB x = (decide (0 ≤ x) && decide (x ≤ 100000))) := Lib.hid rfl
  generalize isVwB x = r at *
  go_enter Try.func44, Try.ntmps44
  go_wp2_with fail
  all_goals (go_ret; refine ⟨?_, rfl⟩; rw [HR.out]; simp_all <;> omega)
theorem notView_any (x : Int) (w : World) : Calls Try.prog 46 #[.int .i64 x] w fun e w' => e = .returned (.bool (!isVwB x)) ∧ w' = w := by
  have HI := Lib.hid (isView_any x w)
  go_enter Try.func46, Try.ntmps46
  go_wp2_with (go_at_call 44; refine HI.out.mono ?_; rintro e w1 ⟨rfl, rfl⟩)
  go_ret
  exact ⟨rfl, rfl⟩
def badView (l : List Int) : Bool := l.any fun x => !isVwB x
theorem badView_succ (l : List Int) (j : Nat) (h : j < l.length) : badView (l.take (j + 1)) = (badView (l.take j) || !isVwB (l.getD j 0)) := by
  rw [take_succ' l j h, badView, List.any_append, badView]
  simp
theorem badView_some (l : List Int) (j : Nat) (h : j < l.length) (hb : isVwB (l.getD j 0) = false) : badView l = true := by
  rw [badView, List.any_eq_true]
  exact ⟨l.getD j 0, by simp [h], by rw [hb]; rfl⟩
theorem IndexFunc_any (v : Value) (l : List Int) (w : World) (hv : SlI w .i64 v l) (hl : l.length ≤ 1000000) :
    Calls Try.prog 55 #[v, .func (.func 46) #[] #[]] w fun e w' => ∃ i : Int, e = .returned (.int .i64 i) ∧ w' = w ∧ decide (0 ≤ i) = badView l := by
  obtain ⟨va, vc, rfl⟩ := hv.shape
  obtain ⟨N, HN⟩ : ∃ N, Hid (N = l.length) := ⟨_, Lib.hid rfl⟩
  obtain ⟨R, HR⟩ : ∃ R, Hid (R = badView l) := ⟨_, Lib.hid rfl⟩
  have HV := Lib.hid hv
  have hN : N ≤ 1000000 := by rw [HN.out]; exact hl
  rw [← HN.out, ← HR.out]
  have HI := Lib.hid (fun x w' => notView_any x w')
  clear hv hl
  go_enter Try.func55, Try.ntmps55
  go_upto_region 2 with (fail)
  go_loop [8] (fun i => ∃ j : Nat, j ≤ N ∧ i = .int .i64 j ∧ Hid (badView (l.take j) = false)) (fun i => N - (intOf i).toNat)
  case atStart => exact ⟨0, by omega, rfl, Lib.hid (by simp [badView])⟩
  case round =>
    obtain ⟨j, hj, rfl, HJ⟩ := hrel
    by_cases hlt : j < N
    · have hlt' : (j : Int) < N := by omega
      obtain ⟨b, o, rfl, -, q, cl⟩ := HV.out.cellAt (i := j) (by rw [← HN.out]; exact hlt)
      have d1 := cl j (by rw [← HN.out]; exact hlt)
      rw [← HN.out] at q
      have HT := Lib.hid (badView_some l j (by rw [← HN.out]; exact hlt))
      have HJ' := Lib.hid (badView_succ l j (by rw [← HN.out]; exact hlt))
      rw [HJ.out, Bool.false_or] at HJ'
      rw [← HR.out] at HT
      generalize l.getD j 0 = z at d1 HT HJ'
      obtain ⟨bz, Hbz⟩ : ∃ bz, Hid (bz = isVwB z) := ⟨_, Lib.hid rfl⟩
      rw [← Hbz.out] at HT HJ'
      have HIz := Lib.hid (HI.out z w)
      rw [← Hbz.out] at HIz
      clear cl HJ
      cases bz
      · have HF := Lib.hid (HT.out rfl)
        obtain rfl := HF.out
        go_wp2_with (go_at_call 46; refine HIz.out.mono ?_; rintro e w1 ⟨rfl, rfl⟩)
        go_ret
        exact ⟨_, rfl, rfl, by simp⟩
      · go_wp2_with (go_at_call 46; refine HIz.out.mono ?_; rintro e w1 ⟨rfl, rfl⟩)
        go_round
        case rel => exact ⟨j + 1, by omega, by go_num, HJ'⟩
        case measure => simp [intOf]; omega
    · obtain rfl : j = N := by omega
      have HF : Hid (R = false) := Lib.hid (by rw [HR.out, ← HJ.out, HN.out, List.take_length])
      obtain rfl := HF.out
      go_wp2_with fail
      go_ret
      exact ⟨_, rfl, rfl, by simp⟩
theorem ContainsFunc_any (v : Value) (l : List Int) (w : World) (hv : SlI w .i64 v l) (hl : l.length ≤ 1000000) :
    Calls Try.prog 45 #[v, .func (.func 46) #[] #[]] w fun e w' => e = .returned (.bool (badView l)) ∧ w' = w := by
  have HI := Lib.hid (IndexFunc_any v l w hv hl)
  obtain ⟨va, vc, rfl⟩ := hv.shape
  clear hv hl
  go_enter Try.func45, Try.ntmps45
  go_wp2_with (go_at_call 55; refine HI.out.mono ?_; rintro e w1 ⟨i, rfl, rfl, hi⟩)
  all_goals (go_ret; refine ⟨?_, rfl⟩; rw [← hi]; try simp_all)
end Go.Proofs.Ytgkhgjoggkcklaa

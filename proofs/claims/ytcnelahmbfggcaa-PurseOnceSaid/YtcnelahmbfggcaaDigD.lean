/- The walks of digits.of, Own, Check, Shift; consistorylaw03.alive. -/
import Derived.Test.YtcnelahmbfggcaaDigC
namespace Go.Proofs.Ytcnelahmbfggcaa
open Go Go.RowKit
set_option maxRecDepth 100000
set_option maxHeartbeats 400000

/-- how many digits a sum has, how many check digits, the shift -/
def ownW (n : Int) : Int := if isW n then 256 / n else 0
def chkW (n : Int) : Int := if n = 1 then 9 else if n = 2 then 5 else if n = 4 then 3 else if n = 8 then 2 else 0
def shiftW (n : Int) : Int := if isW n then 16 - chkW n * n else 0
def errW (n : Int) : Int := if isW n then 0 else 1

set_option maxRecDepth 100000 in
theorem Len_some (x : Int) (w : World) (h : x = 256 ∨ x = 384 ∨ x = 960 ∨ x = 2040 ∨ x = 8160) : Calls Try.prog 69 #[.int .u64 x] w fun e w' => e = .returned (.int .i64 (if x < 512 then 9 else if x < 1024 then 10 else if x < 2048 then 11 else 13)) ∧ w' = w := by
  rcases h with rfl | rfl | rfl | rfl | rfl
  all_goals
    go_enter Try.func69, Try.ntmps69
    go_wp2
    go_ret
    exact ⟨ret_int (by decide +kernel), rfl⟩

theorem of_any (n : Int) (w : World) (hn : -9223372036854775808 ≤ n ∧ n ≤ 9223372036854775807) :
    Calls Try.prog 57 #[.int .i64 n] w fun e w' =>
      e = .returned (.tuple #[.agg #[.int .i64 (ownW n), .int .i64 (chkW n), .int .i64 (shiftW n)], .int .i64 (errW n)]) ∧ Below w.heap.size w w' := by
  by_cases hw : isW n = true
  · rcases (isW_iff n).1 hw with rfl | rfl | rfl | rfl
    all_goals
      clear hw hn
      go_enter Try.func57, Try.ntmps57
      go_wp2_with (first | (go_at_call 68; refine (isWidth_any _ _ (by omega)).mono ?_; rintro e w' ⟨rfl, rfl⟩) | (go_at_call 69; refine (Len_some _ _ (by omega)).mono ?_; rintro e w' ⟨rfl, rfl⟩))
      exact bodyPost_ret (v := .tuple #[.agg #[.int .i64 _, .int .i64 _, .int .i64 _], .int .i64 _]) (by simp [results, Try.results57, go_sem]; decide +kernel) rfl ⟨rfl, (Below.refl _ _).alloc (Nat.le_refl _) _⟩
  · have hw' : isW n = false := by simpa using hw
    have e1 : ownW n = 0 := by simp [ownW, hw']
    have e2 : shiftW n = 0 := by simp [shiftW, hw']
    have e3 : errW n = 1 := by simp [errW, hw']
    have e4 : chkW n = 0 := by
      have : ¬ (n = 1 ∨ n = 2 ∨ n = 4 ∨ n = 8) := fun h => hw ((isW_iff n).2 h)
      unfold chkW; rw [if_neg (by omega), if_neg (by omega), if_neg (by omega), if_neg (by omega)]
    rw [e1, e2, e3, e4]
    clear e1 e2 e3 e4 hw
    go_enter Try.func57, Try.ntmps57
    go_wp2_with (first | (go_at_call 68; refine (isWidth_any _ _ (by omega)).mono ?_; rintro e w' ⟨rfl, rfl⟩))
    exact bodyPost_ret (v := .tuple #[.agg #[.int .i64 0, .int .i64 0, .int .i64 0], .int .i64 1]) (by simp [results, Try.results57, go_sem]) rfl ⟨rfl, (Below.refl _ _).alloc (Nat.le_refl _) _⟩

theorem Own_any (n : Int) (w : World) (hn : -9223372036854775808 ≤ n ∧ n ≤ 9223372036854775807) :
    Calls Try.prog 60 #[.int .i64 n] w fun e w' => e = .returned (.tuple #[.int .i64 (ownW n), .int .i64 (errW n)]) ∧ Below w.heap.size w w' := by
  go_enter Try.func60, Try.ntmps60
  go_wp2_with (go_at_call 57; refine (of_any _ _ (by omega)).mono ?_; rintro e w1 ⟨rfl, hb⟩)
  go_ret2
  exact ⟨rfl, hb.alloc hb.size _⟩
theorem Check_any (n : Int) (w : World) (hn : -9223372036854775808 ≤ n ∧ n ≤ 9223372036854775807) :
    Calls Try.prog 61 #[.int .i64 n] w fun e w' => e = .returned (.tuple #[.int .i64 (chkW n), .int .i64 (errW n)]) ∧ Below w.heap.size w w' := by
  go_enter Try.func61, Try.ntmps61
  go_wp2_with (go_at_call 57; refine (of_any _ _ (by omega)).mono ?_; rintro e w1 ⟨rfl, hb⟩)
  go_ret2
  exact ⟨rfl, hb.alloc hb.size _⟩
end Go.Proofs.Ytcnelahmbfggcaa

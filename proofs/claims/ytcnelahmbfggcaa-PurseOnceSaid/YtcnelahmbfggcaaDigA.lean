/- The walks of the digits' leaves: math/bits.OnesCount at 1 to 8, isWidth, digit, Digit. -/
import Derived.Test.YtcnelahmbfggcaaKit
import Derived.Test.YtcnelahmbfggcaaPlDig
namespace Go.Proofs.Ytcnelahmbfggcaa
open Go Go.RowKit
set_option maxRecDepth 100000
set_option maxHeartbeats 400000

/-- the number of ones of 1 to 8 -/
def onesS (x : Int) : Int := if isW x then 1 else if x = 7 then 3 else 2
theorem OnesCount_small (x : Int) (w : World) (h : 1 ≤ x ∧ x ≤ 8) : Calls Try.prog 75 #[.int .u64 x] w fun e w' => e = .returned (.int .i64 (onesS x)) ∧ w' = w := by
  have : x = 1 ∨ x = 2 ∨ x = 3 ∨ x = 4 ∨ x = 5 ∨ x = 6 ∨ x = 7 ∨ x = 8 := by omega
  clear h
  rcases this with rfl | rfl | rfl | rfl | rfl | rfl | rfl | rfl
  all_goals
    go_enter Try.func75, Try.ntmps75
    go_wp2
    go_ret
    exact ⟨ret_int (by decide +kernel), rfl⟩
theorem isWidth_any (x : Int) (w : World) (h : -9223372036854775808 ≤ x ∧ x ≤ 9223372036854775807) : Calls Try.prog 68 #[.int .i64 x] w fun e w' => e = .returned (.bool (isW x)) ∧ w' = w := by
  by_cases h1 : 1 ≤ x
  · by_cases h8 : x ≤ 8
    · have hw : isW x = true ↔ onesS x = 1 := by unfold onesS; split <;> simp_all; split <;> omega
      have hwb : (onesS x == 1) = isW x := by cases hx : isW x <;> simp_all
      clear hw
      go_enter Try.func68, Try.ntmps68
      go_wp2_with (go_at_call 75; refine (OnesCount_small _ _ (by omega)).mono ?_; rintro e w' ⟨rfl, rfl⟩)
      go_ret
      exact ⟨rfl, rfl⟩
    · have hw : isW x = false := by cases hx : isW x; rfl; rw [isW_iff] at hx; omega
      rw [hw]
      go_enter Try.func68, Try.ntmps68
      go_wp2
      go_ret
      exact ⟨rfl, rfl⟩
  · have hw : isW x = false := by cases hx : isW x; rfl; rw [isW_iff] at hx; omega
    rw [hw]
    go_enter Try.func68, Try.ntmps68
    go_wp2
    go_ret
    exact ⟨rfl, rfl⟩
end Go.Proofs.Ytcnelahmbfggcaa

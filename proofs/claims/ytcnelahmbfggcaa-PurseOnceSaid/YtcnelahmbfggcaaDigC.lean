/- The walks of the document's answer for one digit: consistoryref03.width, bit, Digit. -/
import Derived.Test.YtcnelahmbfggcaaDigB
namespace Go.Proofs.Ytcnelahmbfggcaa
open Go Go.RowKit
set_option maxRecDepth 100000
set_option maxHeartbeats 400000

theorem rwidth_any (x : Int) (w : World) : Calls Try.prog 70 #[.int .i64 x] w fun e w' => e = .returned (.bool (isW x)) ∧ w' = w := by
  by_cases h1 : x = 1
  · subst h1
    go_enter Try.func70, Try.ntmps70
    go_wp2
    go_ret
    exact ⟨rfl, rfl⟩
  have b1 : (x == 1) = false := by simpa using h1
  by_cases h2 : x = 2
  · subst h2
    go_enter Try.func70, Try.ntmps70
    go_wp2
    go_ret
    exact ⟨rfl, rfl⟩
  have b2 : (x == 2) = false := by simpa using h2
  by_cases h3 : x = 4
  · subst h3
    go_enter Try.func70, Try.ntmps70
    go_wp2
    go_ret
    exact ⟨rfl, rfl⟩
  have b3 : (x == 4) = false := by simpa using h3
  have e : isW x = (x == 8) := by simp [isW, b1, b2, b3]
  rw [e]
  clear e
  go_enter Try.func70, Try.ntmps70
  go_wp2
  go_ret
  exact ⟨rfl, rfl⟩

end Go.Proofs.Ytcnelahmbfggcaa

/- The walk of the law ShaNil. -/
import Derived.Test.YtabgnahjejhnkaaShaI
import Derived.Test.YtabgnahjejhnkaaEq
namespace Go.Proofs.Ytabgnahjejhnkaa
open Go Go.RowKit
set_option maxHeartbeats 1000000

theorem ShaNil_any (v : Value) (w : World) : Calls Try.prog 8 #[v] w fun e w' => e = .returned (.bool true) ∧ Below w.heap.size w w' := by
  obtain ⟨H, HH⟩ : ∃ H, Hid (H = sha []) := ⟨_, Lib.hid rfl⟩
  go_enter Try.func8, Try.ntmps8
  go_wp2_with (fail)
  refine (Write_nil v w).mono ?_
  rintro e w1 ⟨rfl, rfl⟩
  go_wp2_with (fail)
  refine (alive02_any w1).mono ?_
  rintro e w2 ⟨rfl, hb⟩
  have HB := Lib.hid hb
  clear hb
  go_wp2_with (fail)
  refine (SSum_nil w2).mono ?_
  rintro e w3 ⟨rfl, hb3⟩
  have HB3 := Lib.hid (HB.out.trans (hb3.mono HB.out.size))
  rw [← HH.out]
  clear hb3
  go_wp2_with (fail)
  refine (Sum_any _ [] w3 (.inl ⟨rfl, _, _, rfl⟩) (by decide)).mono ?_
  rintro e w4 ⟨rfl, hb4⟩
  have HB4 := Lib.hid (HB3.out.trans (hb4.mono HB3.out.size))
  rw [← HH.out]
  have heq := eq_hash H H (by rw [HH.out, sha_length]) (by rw [HH.out, sha_length]) w4
  rw [decide_eq_true rfl] at heq
  clear hb4
  go_wp2_with (go_at_call 24; refine (Long_nil _).mono ?_; rintro e w5 ⟨rfl, rfl⟩)
  go_ret
  exact ⟨rfl, HB4.out⟩
end Go.Proofs.Ytabgnahjejhnkaa

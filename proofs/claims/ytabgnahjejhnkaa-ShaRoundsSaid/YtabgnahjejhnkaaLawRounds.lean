/- The walk of the law ShaRounds. -/
import Derived.Test.YtabgnahjejhnkaaRoot
import Derived.Test.YtabgnahjejhnkaaShaI
namespace Go.Proofs.Ytabgnahjejhnkaa
open Go Go.RowKit
set_option maxHeartbeats 1000000

theorem ShaRounds_any (i : Int) (w : World) (hi : -9223372036854775808 ≤ i ∧ i ≤ 9223372036854775807) : Calls Try.prog 6 #[.int .i64 i] w fun e w' => e = .returned (.bool true) ∧ Below w.heap.size w w' := by
  by_cases h0 : 0 ≤ i
  · by_cases h1 : i < 64
    · obtain ⟨n, rfl⟩ : ∃ n : Nat, i = n := ⟨i.toNat, by omega⟩
      have hv : Hid (roundV (n : Int) = (root n : Int)) := Lib.hid (by rw [root_K n (by omega), roundV, if_pos (by omega)]; rfl)
      have he : Hid (roundE (n : Int) = 0) := Lib.hid (by rw [roundE, if_pos (by omega)])
      have HR := Lib.hid (Round_any n w)
      rw [hv.out, he.out] at HR
      have HRT := Lib.hid (fun w' => Root_any n w' (by omega))
      generalize root n = R at HR HRT
      clear hv he
      go_enter Try.func6, Try.ntmps6
      go_wp2_with fail
      refine HR.out.mono ?_
      rintro e w1 ⟨rfl, b1⟩
      have HB1 := Lib.hid b1
      clear b1
      go_wp2_with fail
      refine (alive02_any w1).mono ?_
      rintro e w2 ⟨rfl, b2⟩
      have HB2 := Lib.hid (HB1.out.trans (b2.mono HB1.out.size))
      clear b2
      go_wp2_with fail
      refine (HRT.out w2).mono ?_
      rintro e w3 ⟨rfl, b3⟩
      have HB3 := Lib.hid (HB2.out.trans (b3.mono HB2.out.size))
      clear b3
      go_wp2_with fail
      go_ret
      exact ⟨rfl, HB3.out⟩
    · have hv : Hid (roundV i = 0) := Lib.hid (by rw [roundV, if_neg (by omega)])
      have he : Hid (roundE i = 1) := Lib.hid (by rw [roundE, if_neg (by omega)])
      have HR := Lib.hid (Round_any i w)
      rw [hv.out, he.out] at HR
      clear hv he
      go_enter Try.func6, Try.ntmps6
      go_wp2_with fail
      refine HR.out.mono ?_
      rintro e w1 ⟨rfl, b1⟩
      have HB1 := Lib.hid b1
      clear b1
      go_wp2_with fail
      refine (alive02_any w1).mono ?_
      rintro e w2 ⟨rfl, b2⟩
      have HB2 := Lib.hid (HB1.out.trans (b2.mono HB1.out.size))
      clear b2
      go_wp2_with fail
      go_ret
      exact ⟨rfl, HB2.out⟩
  · have hv : Hid (roundV i = 0) := Lib.hid (by rw [roundV, if_neg (by omega)])
    have he : Hid (roundE i = 1) := Lib.hid (by rw [roundE, if_neg (by omega)])
    have HR := Lib.hid (Round_any i w)
    rw [hv.out, he.out] at HR
    clear hv he
    go_enter Try.func6, Try.ntmps6
    go_wp2_with fail
    refine HR.out.mono ?_
    rintro e w1 ⟨rfl, b1⟩
    have HB1 := Lib.hid b1
    clear b1
    go_wp2_with fail
    refine (alive02_any w1).mono ?_
    rintro e w2 ⟨rfl, b2⟩
    have HB2 := Lib.hid (HB1.out.trans (b2.mono HB1.out.size))
    clear b2
    go_wp2_with fail
    go_ret
    exact ⟨rfl, HB2.out⟩
end Go.Proofs.Ytabgnahjejhnkaa

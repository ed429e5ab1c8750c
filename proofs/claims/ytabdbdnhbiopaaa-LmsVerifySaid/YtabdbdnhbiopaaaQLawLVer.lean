/- The walk of the law LmsVerify. -/
import Derived.Test.YtabdbdnhbiopaaaG13
import Derived.Test.YtabdbdnhbiopaaaQRefLG
namespace Go.Proofs.Ytabdbdnhbiopaaa
open Go Go.RowKit
set_option maxRecDepth 100000
set_option maxHeartbeats 1000000
attribute [local irreducible] Wild.walk WildF.walk

theorem LmsVerify_main (pv tv sv : Value) (p text s : List UInt8) (w : World) (hp : Sl w pv p) (ht : Sl w tv text) (hs : Sl w sv s) :
    Calls Try.prog 4 #[pv, tv, sv] w fun e w' => e = .returned (.bool true) ∧ Below w.heap.size w w' := by
  have HAL := Lib.hid alive05_any
  have HP0 := Lib.hid hp
  have HT0 := Lib.hid ht
  have HS0 := Lib.hid hs
  obtain ⟨pa, pc, rfl⟩ := hp.shape
  obtain ⟨ta, tc, rfl⟩ := ht.shape
  obtain ⟨sa, sc, rfl⟩ := hs.shape
  by_cases hpl : p.length ≤ 100
  · have hpi : (p.length : Int) ≤ 100 := by omega
    by_cases htl : text.length ≤ 2000
    · have hti : (text.length : Int) ≤ 2000 := by omega
      by_cases hsl : s.length ≤ 9200
      · have hsi : (s.length : Int) ≤ 9200 := by omega
        have HLA := Lib.hid (fun v w' h => Leaf_any v s w' h (by omega))
        have HLR := Lib.hid (fun v w' h => Leaf_ref v s w' h (by omega))
        have HVA := Lib.hid (fun pv tv sv w' a b c => Verify_lms pv tv sv p text s w' a b c (by omega) (by omega))
        have HVR := Lib.hid (fun pv tv sv w' a b c => Verify_ref5 pv tv sv p text s w' a b c (by omega) (by omega))
        generalize leafN s = q at *
        generalize leafE s = er at *
        generalize verV p text s = vv at *
        have HLN : Hid (([] : List UInt8).length + s.length ≤ 1000000000) := Lib.hid (by simp; omega)
        clear hp ht hs
        go_enter Try.func4, Try.ntmps4
        go_wp2_with (first
          | (at_builtin; refine wpList_append8 rfl _ _ rfl w.heap.size _ [] rfl (own_none w) _ s rfl (HS0.out.later ((Below.refl _ _).alloc (Nat.le_refl _) _)) HLN.out (by simp) ?_; intro v' w1 hv' hg hor; rw [List.nil_append] at hv'; have HB1 := Lib.hid (((Below.refl w.heap.size w).alloc (Nat.le_refl _) _).trans (Own8.below (own_none w) hg (by simp))); have HO1 := Lib.hid hv'.sl; clear hv' hg hor)
          | (go_at_call 14; refine (HLA.out _ w1 HO1.out).mono ?_; rintro e w2 ⟨rfl, b2⟩; have HB2 := Lib.hid (HB1.out.trans (b2.mono HB1.out.size)); have HO2 := Lib.hid (HO1.out.later b2); clear b2)
          | (go_at_call 15; refine (HLR.out _ w2 (HS0.out.later HB2.out)).mono ?_; rintro e w3 ⟨rfl, b3⟩; have HB3 := Lib.hid (HB2.out.trans (b3.mono HB2.out.size)); have HO3 := Lib.hid (HO2.out.later b3); clear b3)
          | (go_at_call 10; refine (HAL.out w3).mono ?_; rintro e w4 ⟨rfl, b4⟩; have HB4 := Lib.hid (HB3.out.trans (b4.mono HB3.out.size)); have HO4 := Lib.hid (HO3.out.later b4); clear b4)
          | (go_at_call 16; refine (HVA.out _ _ _ w4 (HP0.out.later HB4.out) (HT0.out.later HB4.out) HO4.out).mono ?_; rintro e w5 ⟨rfl, b5⟩; have HB5 := Lib.hid (HB4.out.trans (b5.mono HB4.out.size)); have HO5 := Lib.hid (HO4.out.later b5); clear b5)
          | (go_at_call 17; refine (HVR.out _ _ _ w5 (HP0.out.later HB5.out) (HT0.out.later HB5.out) (HS0.out.later HB5.out)).mono ?_; rintro e w6 ⟨rfl, b6⟩; have HB6 := Lib.hid (HB5.out.trans (b6.mono HB5.out.size)); have hc1 := (HO5.out.later b6).conv; have hc2 := (HS0.out.later HB6.out).conv; clear b6))
        go_ret
        exact ⟨rfl, HB6.out⟩
      · have hsi : ¬ (s.length : Int) ≤ 9200 := by omega
        clear hp ht hs
        go_enter Try.func4, Try.ntmps4
        go_wp2_with (first
          | (go_at_call 10; refine (HAL.out w).mono ?_; rintro e w1 ⟨rfl, b1⟩; have HB1 := Lib.hid b1; clear b1))
        go_ret
        exact ⟨rfl, HB1.out⟩
    · have hti : ¬ (text.length : Int) ≤ 2000 := by omega
      clear hp ht hs
      go_enter Try.func4, Try.ntmps4
      go_wp2_with (first
        | (go_at_call 10; refine (HAL.out w).mono ?_; rintro e w1 ⟨rfl, b1⟩; have HB1 := Lib.hid b1; clear b1))
      go_ret
      exact ⟨rfl, HB1.out⟩
  · have hpi : ¬ (p.length : Int) ≤ 100 := by omega
    clear hp ht hs
    go_enter Try.func4, Try.ntmps4
    go_wp2_with (first
      | (go_at_call 10; refine (HAL.out w).mono ?_; rintro e w1 ⟨rfl, b1⟩; have HB1 := Lib.hid b1; clear b1))
    go_ret
    exact ⟨rfl, HB1.out⟩
end Go.Proofs.Ytabdbdnhbiopaaa


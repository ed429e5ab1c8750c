/- The walk of the law OtsSigns. -/
import Derived.Test.YtmmmjlmfnonmaaaG6
import Derived.Test.YtmmmjlmfnonmaaaQConv
namespace Go.Proofs.Ytmmmjlmfnonmaaa
open Go Go.RowKit
set_option maxRecDepth 100000
set_option maxHeartbeats 1000000

theorem OtsSigns_main (I S : List UInt8) (q : Nat) (d : Int) (tv : Value) (text : List UInt8) (w : World) (hI : I.length = 16) (hS : S.length = 32) (hq : q < 4294967296) (hd : -9223372036854775808 ≤ d ∧ d ≤ 9223372036854775807) (hdw : (Lit.int .i64 d).wf = true) (ht : Sl w tv text) :
    Calls Try.prog 6 #[.agg (KeyV I S q d).toArray, tv] w fun e w' => e = .returned (.bool true) ∧ Below w.heap.size w w' := by
  obtain ⟨W0, HW0, HB0, HS0, HR0⟩ : ∃ V, Hid (V = w.alloc (.cells (KeyV I S q d).toArray 26)) ∧ Hid (Below w.heap.size w V) ∧ Hid (V.heap.size = w.heap.size + 1) ∧ Hid (V.heap[w.heap.size]? = some (.cells (KeyV I S q d).toArray 26 (0, 0))) := ⟨_, Lib.hid rfl, Lib.hid ((Below.refl _ _).alloc (Nat.le_refl _) _), Lib.hid (by simp), Lib.hid (heap_alloc_new _ _)⟩
  have IK : Hid ((Try.prog.info? 26).map (·.size) = some (KeyV I S q d).toArray.size) := Lib.hid (by rw [info_key, List.size_toArray, KeyV_length _ _ _ _ hI hS])
  obtain ⟨av, cv, rfl⟩ := ht.shape
  by_cases hl : text.length ≤ 3000
  · have hli : (text.length : Int) ≤ 3000 := by omega
    have H1 := Lib.hid (fun tv w' (h : Sl w' tv text) => Sign_any I S q d tv text w' hI hS hq hd hdw h (by omega))
    have H2 := Lib.hid (fun tv w' (h : Sl w' tv text) => Sign_ref I S q d tv text w' hI hS hq hd h (by omega))
    have H3 := Lib.hid (fun w' => plain_any I S q d w' hI hS)
    generalize errW d = er at *
    generalize signV I S q d text = R at *
    have HO := Lib.hid (own_none W0)
    have HT0 : Hid (Sl W0 (.slice av text.length cv) text) := Lib.hid (ht.later HB0.out)
    have HSL2 : Hid (Sl (W0.alloc (.cells #[] 5)) (.slice av text.length cv) text) := Lib.hid (HT0.out.later ((Below.refl _ _).alloc (Nat.le_refl _) _))
    have HLN : Hid (([] : List UInt8).length + text.length ≤ 1000000000) := Lib.hid (by simp; omega)
    have HBa : Hid (W0.heap.size ≤ (W0.alloc (.cells #[] 5)).heap.size) := Lib.hid (by simp)
    clear ht hI hS hq hd hdw
    go_enter Try.func6, Try.ntmps6
    go_upto_region 1 with (fail)
    rw [← HW0.out]
    go_upto_region 4 with (at_builtin; refine wpList_append8 rfl _ _ rfl W0.heap.size _ [] rfl HO.out _ text rfl HSL2.out HLN.out HBa.out ?_; intro v' w1 hv' hg hor)
    rw [List.nil_append] at hv'
    have HB1 : Hid (Below W0.heap.size W0 w1) := Lib.hid (((Below.refl _ _).alloc (Nat.le_refl _) _).trans (HO.out.below hg HBa.out))
    have HO1 := Lib.hid hv'.sl
    have HR1 := Lib.hid ((HB1.out.block _ (by rw [HS0.out]; omega)).trans HR0.out)
    clear hv' hg hor
    go_upto_region 6 with (first
      | (refine wpList_load_row rfl 26 _ rfl _ rfl _ (KeyV I S q d).toArray (0, 0) _ HR1.out Try.underlying26 rfl IK.out ?_)
      | (refine wpList_load_row rfl 26 _ rfl _ rfl _ (KeyV I S q d).toArray (0, 0) _ HR2.out Try.underlying26 rfl IK.out ?_)
      | (go_at_call 21; refine (H1.out _ w1 HO1.out).mono ?_; rintro e w2 ⟨v2, rfl, s2, b2⟩; have HS2 := Lib.hid s2; have HB2 := Lib.hid (HB1.out.trans (b2.mono HB1.out.size)); have HO2 := Lib.hid (HO1.out.later b2); have HR2 := Lib.hid ((HB2.out.block _ (by rw [HS0.out]; omega)).trans HR0.out); clear s2 b2)
      | (go_at_call 11; refine (H3.out _).mono ?_; rintro e w3 ⟨rfl, b3⟩; have HB3 := Lib.hid (HB2.out.trans (b3.mono HB2.out.size)); have HO3 := Lib.hid (HO2.out.later b3); have HS3 := Lib.hid (HS2.out.later b3); have HT3 := Lib.hid (HT0.out.later HB3.out); clear b3)
      | (go_at_call 22; refine (H2.out _ w3 HT3.out).mono ?_; rintro e w4 ⟨v4, rfl, s4, b4⟩; have HU4 := Lib.hid s4; have HB4 := Lib.hid (HB3.out.trans (b4.mono HB3.out.size)); have HO4 := Lib.hid (HO3.out.later b4); have HS4 := Lib.hid (HS3.out.later b4); have HT4 := Lib.hid (HT3.out.later b4); clear s4 b4))
    go_wp2_with (go_at_call 12; refine (alive04_any _).mono ?_; rintro e w5 ⟨rfl, b5⟩; have HB5 := Lib.hid (HB4.out.trans (b5.mono HB4.out.size)); have hc1 := (HO4.out.later b5).conv; have hc2 := (HT4.out.later b5).conv; have hc3 := (HS4.out.later b5).conv; have hc4 := (HU4.out.later b5).conv; clear b5)
    go_ret
    exact ⟨rfl, HB0.out.trans (HB5.out.mono HB0.out.size)⟩
  · have hli : ¬ (text.length : Int) ≤ 3000 := by omega
    clear ht hI hS hq hd hdw
    go_enter Try.func6, Try.ntmps6
    go_upto_region 1 with (fail)
    rw [← HW0.out]
    go_wp2_with (go_at_call 12; refine (alive04_any _).mono ?_; rintro e w5 ⟨rfl, b5⟩; have HB5 := Lib.hid b5; clear b5)
    go_ret
    exact ⟨rfl, HB0.out.trans (HB5.out.mono HB0.out.size)⟩
end Go.Proofs.Ytmmmjlmfnonmaaa


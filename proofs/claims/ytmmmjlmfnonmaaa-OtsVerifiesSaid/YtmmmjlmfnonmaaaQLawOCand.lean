/- The walk of the law OtsCandidate. -/
import Derived.Test.YtmmmjlmfnonmaaaG7
import Derived.Test.YtmmmjlmfnonmaaaG8
import Derived.Test.YtmmmjlmfnonmaaaQOpenC
namespace Go.Proofs.Ytmmmjlmfnonmaaa
open Go Go.RowKit
set_option maxRecDepth 100000
set_option maxHeartbeats 1000000

theorem candV_length (I : List UInt8) (q : Nat) (text s : List UInt8) : (candV I q text s).length = 32 := by
  rw [candV]
  split
  · exact sha_length _
  · rfl
theorem OtsCandidate_main (I : List UInt8) (q : Nat) (tv sv : Value) (text s : List UInt8) (w : World) (hI : I.length = 16) (hq : q < 4294967296) (ht : Sl w tv text) (hs : Sl w sv s) :
    Calls Try.prog 7 #[.agg (ClaimV I q tv sv).toArray] w fun e w' => e = .returned (.bool true) ∧ Below w.heap.size w w' := by
  obtain ⟨W0, HW0, HB0, HS0, HR0⟩ : ∃ V, Hid (V = w.alloc (.cells (ClaimV I q tv sv).toArray 53)) ∧ Hid (Below w.heap.size w V) ∧ Hid (V.heap.size = w.heap.size + 1) ∧ Hid (V.heap[w.heap.size]? = some (.cells (ClaimV I q tv sv).toArray 53 (0, 0))) := ⟨_, Lib.hid rfl, Lib.hid ((Below.refl _ _).alloc (Nat.le_refl _) _), Lib.hid (by simp), Lib.hid (heap_alloc_new _ _)⟩
  have I16 : Hid ((Try.prog.info? 22).map (·.size) = some (B8 I).length) := Lib.hid (by rw [info_16]; simp [B8_length, hI])
  obtain ⟨av, cv, rfl⟩ := ht.shape
  obtain ⟨aq, cq, rfl⟩ := hs.shape
  obtain ⟨-, -, k2, k3⟩ := claim_row HR0.out hI
  by_cases hl : text.length ≤ 3000
  · have hli : (text.length : Int) ≤ 3000 := by omega
    by_cases hl2 : s.length ≤ 9000
    · have hli2 : (s.length : Int) ≤ 9000 := by omega
      have H1 := Lib.hid (fun tv sv w' (h : Sl w' tv text) (h2 : Sl w' sv s) => Candidate_any I q tv sv text s w' hI hq h h2 (by omega) (by omega))
      have H2 := Lib.hid (fun tv sv w' (h : Sl w' tv text) (h2 : Sl w' sv s) => Candidate_ref I q tv sv text s w' hI hq h h2 (by omega) (by omega))
      obtain ⟨R, HR⟩ : ∃ R, Hid (R = candV I q text s) := ⟨_, Lib.hid rfl⟩
      have HRL : Hid (R.length = 32) := Lib.hid (by rw [HR.out]; exact candV_length _ _ _ _)
      rw [← HR.out] at H1 H2
      have IR : Hid ((Try.prog.info? 24).map (·.size) = some (B8 R).toArray.size) := Lib.hid (by rw [info_32]; simp [B8_length, HRL.out])
      generalize candErr s = er at *
      have HO := Lib.hid (own_none W0)
      have HT0 := Lib.hid (ht.later HB0.out)
      have HS0' := Lib.hid (hs.later HB0.out)
      have HSL2 := Lib.hid (HS0'.out.later ((Below.refl _ _).alloc (Nat.le_refl _) (.cells #[] 5)))
      have HLN : Hid (([] : List UInt8).length + s.length ≤ 1000000000) := Lib.hid (by simp; omega)
      have HBa : Hid (W0.heap.size ≤ (W0.alloc (.cells #[] 5)).heap.size) := Lib.hid (by simp)
      obtain ⟨-, -, -, k4⟩ := claim_row ((heap_alloc_old W0 (.cells #[] 5) (by rw [HS0.out]; omega)).trans HR0.out) hI
      have HHI := Lib.hid hI
      clear ht hs hI hq
      go_enter Try.func7, Try.ntmps7
      go_upto_region 1 with (fail)
      rw [← HW0.out]
      go_upto_region 4 with (at_builtin; refine wpList_append8 rfl _ _ rfl W0.heap.size _ [] rfl HO.out _ s rfl HSL2.out HLN.out HBa.out ?_; intro v' w1 hv' hg hor)
      rw [List.nil_append] at hv'
      have HB1 : Hid (Below W0.heap.size W0 w1) := Lib.hid (((Below.refl _ _).alloc (Nat.le_refl _) _).trans (HO.out.below hg HBa.out))
      have HO1 := Lib.hid hv'.sl
      have HR1 := Lib.hid ((HB1.out.block _ (by rw [HS0.out]; omega)).trans HR0.out)
      have HT1 := Lib.hid (HT0.out.later HB1.out)
      obtain ⟨n0, n1, n2, n3⟩ := claim_row HR1.out HHI.out
      have HN0 := Lib.hid n0
      clear hv' hg hor k2 k3 k4 n0
      go_upto_region 5 with (first
        | ((with_reducible refine at_load 22 _ rfl ?_); refine wpList_load_mid rfl 22 _ rfl w.heap.size 0 (by rfl) (B8 I) _ HN0.out Try.underlying22 rfl I16.out ?_)
        | (go_at_call 23; refine (H1.out _ _ w1 HT1.out HO1.out).mono ?_; rintro e w2 ⟨rfl, b2⟩; have HBw2 := Lib.hid (b2.alloc b2.size (.cells (B8 R).toArray 24)); have HX2 : Hid ((w2.alloc (.cells (B8 R).toArray 24)).heap[w2.heap.size]? = some (.cells (B8 R).toArray 24 (0, 0))) := Lib.hid (heap_alloc_new _ _); clear b2)
        | (with_reducible refine at_store 24 _ _ rfl ?_; refine wpList_store_new rfl 24 _ _ rfl (B8 R).toArray rfl rfl 24 _ IR.out (by simp [B8_length, HRL.out]) (B8_oneA R) ?_))
      obtain ⟨W2, HW2, HB12, HXX2⟩ : ∃ W, Hid (W = w2.alloc (.cells (B8 R).toArray 24)) ∧ Hid (Below w1.heap.size w1 W) ∧ Hid (W.heap[w2.heap.size]? = some (.cells (B8 R).toArray 24 (0, 0))) := ⟨_, Lib.hid rfl, HBw2, HX2⟩
      rw [← HW2.out]
      generalize w2.heap.size = x2 at *
      have HB2 : Hid (Below W0.heap.size W0 W2) := Lib.hid (HB1.out.trans (HB12.out.mono HB1.out.size))
      have HO2 := Lib.hid (HO1.out.later HB12.out)
      have HR2 := Lib.hid ((HB2.out.block _ (by rw [HS0.out]; omega)).trans HR0.out)
      have HT2 := Lib.hid (HT0.out.later HB2.out)
      have HS2 := Lib.hid (HS0'.out.later HB2.out)
      obtain ⟨m0, m1, m2, m3⟩ := claim_row HR2.out HHI.out
      have HM0 := Lib.hid m0
      clear n1 n2 n3 m0 HX2 HBw2 HW2
      go_upto_region 6 with (first
        | ((with_reducible refine at_load 22 _ rfl ?_); refine wpList_load_mid rfl 22 _ rfl w.heap.size 0 (by rfl) (B8 I) _ HM0.out Try.underlying22 rfl I16.out ?_)
        | (go_at_call 24; refine (H2.out _ _ W2 HT2.out HS2.out).mono ?_; rintro e w3 ⟨rfl, b3⟩; have HBw3 := Lib.hid (b3.alloc b3.size (.cells (B8 R).toArray 24)); have HX3 : Hid ((w3.alloc (.cells (B8 R).toArray 24)).heap[w3.heap.size]? = some (.cells (B8 R).toArray 24 (0, 0))) := Lib.hid (heap_alloc_new _ _); clear b3)
        | (with_reducible refine at_store 24 _ _ rfl ?_; refine wpList_store_new rfl 24 _ _ rfl (B8 R).toArray rfl rfl 24 _ IR.out (by simp [B8_length, HRL.out]) (B8_oneA R) ?_))
      obtain ⟨W3, HW3, HB23, HY3⟩ : ∃ W, Hid (W = w3.alloc (.cells (B8 R).toArray 24)) ∧ Hid (Below W2.heap.size W2 W) ∧ Hid (W.heap[w3.heap.size]? = some (.cells (B8 R).toArray 24 (0, 0))) := ⟨_, Lib.hid rfl, HBw3, HX3⟩
      rw [← HW3.out]
      generalize w3.heap.size = x3 at *
      have HB3 : Hid (Below W0.heap.size W0 W3) := Lib.hid (HB2.out.trans (HB23.out.mono HB2.out.size))
      have HO3 := Lib.hid (HO2.out.later HB23.out)
      have HXX3 := Lib.hid ((HB23.out.block _ (Array.getElem?_eq_some_iff.1 HXX2.out).1).trans HXX2.out)
      clear m1 m2 m3 HX3 HBw3 HW3
      have heq := fun W => eq_hash R R HRL.out HRL.out W
      simp only [decide_true] at heq
      go_wp2_with (first
        | (go_at_call 12; refine (alive04_any _).mono ?_; rintro e w4 ⟨rfl, b4⟩; have HB4 := Lib.hid (HB3.out.trans (b4.mono HB3.out.size)); have P1 := Lib.hid ((b4.block _ (Array.getElem?_eq_some_iff.1 HXX3.out).1).trans HXX3.out); have P2 := Lib.hid ((b4.block _ (Array.getElem?_eq_some_iff.1 HY3.out).1).trans HY3.out); have hc1 := (HO3.out.later b4).conv; have hc2 := (HS0'.out.later HB4.out).conv; obtain ⟨_, _, _, o3⟩ := claim_row ((HB4.out.block _ (by rw [HS0.out]; omega)).trans HR0.out) HHI.out; clear b4)
        | ((with_reducible refine at_load 24 _ rfl ?_); refine wpList_load_want (by rfl) 24 _ rfl x2 rfl _ (B8 R).toArray (0, 0) _ P1.out Try.underlying24 rfl IR.out ?_)
        | ((with_reducible refine at_load 24 _ rfl ?_); refine wpList_load_want (by rfl) 24 _ rfl x3 rfl _ (B8 R).toArray (0, 0) _ P2.out Try.underlying24 rfl IR.out ?_))
      go_ret
      exact ⟨rfl, HB0.out.trans (HB4.out.mono HB0.out.size)⟩
    · have hli2 : ¬ (s.length : Int) ≤ 9000 := by omega
      clear ht hs hI hq
      go_enter Try.func7, Try.ntmps7
      go_upto_region 1 with (fail)
      rw [← HW0.out]
      go_wp2_with (go_at_call 12; refine (alive04_any _).mono ?_; rintro e w5 ⟨rfl, b5⟩; have HB5 := Lib.hid b5; clear b5)
      go_ret
      exact ⟨rfl, HB0.out.trans (HB5.out.mono HB0.out.size)⟩
  · have hli : ¬ (text.length : Int) ≤ 3000 := by omega
    clear ht hs hI hq
    go_enter Try.func7, Try.ntmps7
    go_upto_region 1 with (fail)
    rw [← HW0.out]
    go_wp2_with (go_at_call 12; refine (alive04_any _).mono ?_; rintro e w5 ⟨rfl, b5⟩; have HB5 := Lib.hid b5; clear b5)
    go_ret
    exact ⟨rfl, HB0.out.trans (HB5.out.mono HB0.out.size)⟩
end Go.Proofs.Ytmmmjlmfnonmaaa


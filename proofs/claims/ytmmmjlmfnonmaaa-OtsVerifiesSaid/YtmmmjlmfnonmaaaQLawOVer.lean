/- The walk of the law OtsVerifies; that the candidate of a signature is the key's sum. -/
import Derived.Test.YtmmmjlmfnonmaaaQLawOCand
namespace Go.Proofs.Ytmmmjlmfnonmaaa
open Go Go.RowKit
set_option maxRecDepth 100000
set_option maxHeartbeats 1000000

theorem chain_more (I : List UInt8) (q i : Nat) (x : List UInt8) (a n m : Nat) : chainN I q i (chainN I q i x a n) (a + n) m = chainN I q i x a (n + m) := by
  induction m with
  | zero => rfl
  | succ m ih => rw [chainN, ih, Nat.add_succ, chainN, Nat.add_assoc]
theorem sigP_piece (I S : List UInt8) (q : Nat) (ds : List Nat) (n : Nat) : ∀ N, n < N → ((sigP I S q ds N).drop (32 * n)).take 32 = chainN I q n (secretN I S q n) 0 (ds.getD n 0)
  | 0, h => by omega
  | N + 1, h => by
    have hl := sigP_length I S q ds N
    rw [sigP]
    by_cases hn : n < N
    · rw [List.drop_append_of_le_length (by omega), List.take_append_of_le_length (by rw [List.length_drop]; omega)]
      exact sigP_piece I S q ds n N hn
    · obtain rfl : n = N := by omega
      rw [List.drop_append, List.drop_of_length_le (by omega), hl, Nat.sub_self, List.drop_zero, List.nil_append, List.take_of_length_le]
      rw [chainN_length _ _ _ _ _ _ (secretN_length _ _ _ _)]
      exact Nat.le_refl _
theorem grain_length (I S : List UInt8) (q : Nat) : (grainN I S q).length = 32 := hashN_length _ _ _ _
/-- of a width: the candidate of what the key signs is the key's sum -/
theorem cand_sign (I S : List UInt8) (q k : Nat) (text : List UInt8) (hk : k = 1 ∨ k = 2 ∨ k = 4 ∨ k = 8) :
    (sigN I S q k text).length = 36 + 32 * numK k ∧ candOk (sigN I S q k text) = true ∧ candV I q text (sigN I S q k text) = pubN I S q k := by
  obtain ⟨ty, ty1, ty2, ty3⟩ := typeN_nat k hk
  have hkW : isW k = true := (isW_iff _).2 (by omega)
  obtain ⟨hw1, hw2⟩ := width_of k hkW
  have hG := grain_length I S q
  obtain ⟨G, eG⟩ : ∃ G, G = grainN I S q := ⟨_, rfl⟩
  obtain ⟨ds, eds⟩ : ∃ ds, ds = digN I S q k text := ⟨_, rfl⟩
  have hs : sigN I S q k text = (fourN ty ++ G) ++ sigP I S q ds (numK k) := by rw [sigN, ty3, ← eG, ← eds, numK]
  rw [← eG] at hG
  have hP := sigP_length I S q ds (numK k)
  have hlen : (sigN I S q k text).length = 36 + 32 * numK k := by rw [hs, List.length_append, List.length_append, fourN_length, hG, hP]
  have h4 : (sigN I S q k text).take 4 = fourN ty := by
    rw [hs, List.append_assoc, List.take_append_of_le_length (by rw [fourN_length]; exact Nat.le_refl _), List.take_of_length_le (by rw [fourN_length]; exact Nat.le_refl _)]
  have hty : typeS (sigN I S q k text) = typeN k := by
    rw [← typeS_take, h4, ty1]
    exact (four_word _ (fourN_length ty) ty ty2).1 rfl
  have hok : candOk (sigN I S q k text) = true := by
    rw [candOk, hty, hw1, hw2, Int.toNat_natCast, decide_eq_true hlen]; rfl
  have hg : ((sigN I S q k text).drop 4).take 32 = G := by
    rw [hs, List.append_assoc, List.drop_append, List.drop_of_length_le (by rw [fourN_length]; exact Nat.le_refl _), fourN_length, List.nil_append, List.drop_zero, List.take_append_of_le_length (by omega), List.take_of_length_le (by omega)]
  have hpc : ∀ n, n < numK k → pieceN (sigN I S q k text) n = chainN I q n (secretN I S q n) 0 (ds.getD n 0) := fun n hn => by
    rw [pieceN, hs, List.drop_append, List.drop_of_length_le (by rw [List.length_append, fourN_length, hG]; omega), List.nil_append, List.length_append, fourN_length, hG, show 36 + 32 * n - (4 + 32) = 32 * n by omega]
    exact sigP_piece I S q ds n _ hn
  have hds : allN (signedN I q G text) k = ds := by rw [eds, digN, eG]
  have hE : ∀ n, n ≤ numK k → candE I q (2 ^ k - 1) ds (sigN I S q k text) n = endsN I S q (2 ^ k - 1) n := by
    intro n
    induction n with
    | zero => intro _; rfl
    | succ n ih =>
      intro hn
      have hd : ds.getD n 0 ≤ 2 ^ k - 1 := by rw [← hds]; exact allN_lt _ k n (by rw [numK] at hn; omega)
      have hc := chain_more I q n (secretN I S q n) 0 (ds.getD n 0) (2 ^ k - 1 - ds.getD n 0)
      rw [Nat.zero_add, show ds.getD n 0 + (2 ^ k - 1 - ds.getD n 0) = 2 ^ k - 1 by omega] at hc
      rw [candE, ih (by omega), hpc n (by omega), hc, endsN]
  refine ⟨hlen, hok, ?_⟩
  rw [candV, if_pos ⟨by omega, hok⟩, hty, hw1, Int.toNat_natCast, candH, hg, hds, hE _ (Nat.le_refl _), pubN, numK]
theorem OtsVerifies_main (I S : List UInt8) (q : Nat) (d : Int) (tv : Value) (text : List UInt8) (w : World) (hI : I.length = 16) (hS : S.length = 32) (hq : q < 4294967296) (hd : -9223372036854775808 ≤ d ∧ d ≤ 9223372036854775807) (ht : Sl w tv text) :
    Calls Try.prog 8 #[.agg (KeyV I S q d).toArray, tv] w fun e w' => e = .returned (.bool true) ∧ Below w.heap.size w w' := by
  obtain ⟨W0, HW0, HB0, HS0, HR0⟩ : ∃ V, Hid (V = w.alloc (.cells (KeyV I S q d).toArray 26)) ∧ Hid (Below w.heap.size w V) ∧ Hid (V.heap.size = w.heap.size + 1) ∧ Hid (V.heap[w.heap.size]? = some (.cells (KeyV I S q d).toArray 26 (0, 0))) := ⟨_, Lib.hid rfl, Lib.hid ((Below.refl _ _).alloc (Nat.le_refl _) _), Lib.hid (by simp), Lib.hid (heap_alloc_new _ _)⟩
  have IK : Hid ((Try.prog.info? 26).map (·.size) = some (KeyV I S q d).toArray.size) := Lib.hid (by rw [info_key, List.size_toArray, KeyV_length _ _ _ _ hI hS])
  have I16 : Hid ((Try.prog.info? 22).map (·.size) = some (B8 I).length) := Lib.hid (by rw [info_16]; simp [B8_length, hI])
  obtain ⟨av, cv, rfl⟩ := ht.shape
  by_cases hl : text.length ≤ 3000
  · have hli : (text.length : Int) ≤ 3000 := by omega
    have H1 := Lib.hid (fun tv w' (h : Sl w' tv text) => Sign_any I S q d tv text w' hI hS hq hd (wf_i64 hd) h (by omega))
    have H2 := Lib.hid (fun w' => Public_any I S q d w' hI hS hq hd)
    have H3 := Lib.hid (fun w' => Long_any' d w' hd)
    have HT0 := Lib.hid (ht.later HB0.out)
    have HHI := Lib.hid hI
    have HHS := Lib.hid hS
    by_cases hw : isW d = true
    · obtain ⟨k, rfl⟩ : ∃ k : Nat, d = k := ⟨d.toNat, by rcases (isW_iff d).1 hw with h | h | h | h <;> omega⟩
      have hk : k = 1 ∨ k = 2 ∨ k = 4 ∨ k = 8 := by rcases (isW_iff _).1 hw with h | h | h | h <;> omega
      obtain ⟨em, hmb⟩ := manyW_w k hk
      obtain ⟨c1, c2, c3⟩ := cand_sign I S q k text hk
      have e3 : errW k = 0 := by simp [errW, hw]
      obtain ⟨R, HR⟩ : ∃ R, Hid (R = pubN I S q k) := ⟨_, Lib.hid rfl⟩
      have HRL : Hid (R.length = 32) := Lib.hid (by rw [HR.out]; exact hashN_length _ _ _ _)
      have IR : Hid ((Try.prog.info? 24).map (·.size) = some (B8 R).toArray.size) := Lib.hid (by rw [info_32]; simp [B8_length, HRL.out])
      obtain ⟨s, HSg⟩ : ∃ s, Hid (s = sigN I S q k text) := ⟨_, Lib.hid rfl⟩
      rw [← HSg.out] at c1 c2 c3
      rw [← HR.out] at c3
      have H4 := Lib.hid (fun tv sv w' (h : Sl w' tv text) (h2 : Sl w' sv s) => Candidate_any I q tv sv text s w' hI hq h h2 (by omega) (by rw [numK] at c1; omega))
      rw [c3, candErr, if_neg (by omega), c2, if_pos rfl] at H4
      rw [e3, signV, if_pos hw, Int.toNat_natCast, ← HSg.out] at H1
      rw [e3, pubV, if_pos hw, Int.toNat_natCast, ← HR.out] at H2
      obtain ⟨N, HN⟩ : ∃ N, Hid (N = 256 / k + chkN k) := ⟨_, Lib.hid rfl⟩
      rw [e3, if_pos hw, em, ← HN.out] at H3
      have HSL : Hid (s.length = 36 + 32 * N) := Lib.hid (by rw [c1, numK, HN.out])
      have hsl : (s.length : Int) = 36 + 32 * (N : Int) := by rw [HSL.out]; omega
      clear ht hI hS hq hd hw hk e3 em hmb c1 c2 c3
      go_enter Try.func8, Try.ntmps8
      go_upto_region 1 with (fail)
      rw [← HW0.out]
      go_upto_region 5 with (first
        | ((with_reducible refine at_load 26 _ rfl ?_); first
            | refine wpList_load_row rfl 26 _ rfl _ rfl _ (KeyV I S q k).toArray (0, 0) _ HR0.out Try.underlying26 rfl IK.out ?_
            | refine wpList_load_row rfl 26 _ rfl _ rfl _ (KeyV I S q k).toArray (0, 0) _ HR1.out Try.underlying26 rfl IK.out ?_)
        | (go_at_call 21; refine (H1.out _ W0 HT0.out).mono ?_; rintro e w1 ⟨v1, rfl, s1, b1⟩; have HS1 := Lib.hid s1; have HB1 := Lib.hid b1; have HR1 := Lib.hid ((b1.block _ (by rw [HS0.out]; omega)).trans HR0.out); clear s1 b1)
        | (go_at_call 9; refine (H2.out w1).mono ?_; rintro e w2 ⟨rfl, b2⟩; have HBw2 := Lib.hid (b2.alloc b2.size (.cells (B8 R).toArray 24)); have HX2 : Hid ((w2.alloc (.cells (B8 R).toArray 24)).heap[w2.heap.size]? = some (.cells (B8 R).toArray 24 (0, 0))) := Lib.hid (heap_alloc_new _ _); clear b2)
        | ((with_reducible refine at_store 24 _ _ rfl ?_); refine wpList_store_new rfl 24 _ _ rfl (B8 R).toArray rfl rfl 24 _ IR.out (by simp [B8_length, HRL.out]) (B8_oneA R) ?_))
      obtain ⟨W2, HW2, HB12, HXX2⟩ : ∃ W, Hid (W = w2.alloc (.cells (B8 R).toArray 24)) ∧ Hid (Below w1.heap.size w1 W) ∧ Hid (W.heap[w2.heap.size]? = some (.cells (B8 R).toArray 24 (0, 0))) := ⟨_, Lib.hid rfl, HBw2, HX2⟩
      rw [← HW2.out]
      generalize w2.heap.size = x2 at *
      have HB2 : Hid (Below W0.heap.size W0 W2) := Lib.hid (HB1.out.trans (HB12.out.mono HB1.out.size))
      have HS2 := Lib.hid (HS1.out.later HB12.out)
      obtain ⟨va, vc, rfl⟩ := HS2.out.shape
      have HR2 := Lib.hid ((HB2.out.block _ (by rw [HS0.out]; omega)).trans HR0.out)
      have hkw := key_W HR2.out HHI.out HHS.out
      clear HX2 HBw2 HW2
      go_upto_region 10 with (go_at_call 17; refine (H3.out W2).mono ?_; rintro e w3 ⟨rfl, b3⟩; have HB3 := Lib.hid (HB2.out.trans (b3.mono HB2.out.size)); have HS3 := Lib.hid (HS2.out.later b3); have HX3 := Lib.hid ((b3.block _ (Array.getElem?_eq_some_iff.1 HXX2.out).1).trans HXX2.out); have HR3 := Lib.hid ((HB3.out.block _ (by rw [HS0.out]; omega)).trans HR0.out); have HT3 := Lib.hid (HT0.out.later HB3.out); clear b3)
      have HN3 := Lib.hid (key_ranges HR3.out HHI.out).1
      have hk16 := key_Q HR3.out HHI.out
      clear hkw
      go_upto_region 11 with (first
        | ((with_reducible refine at_load 22 _ rfl ?_); refine wpList_load_mid rfl 22 _ rfl w.heap.size 0 (by rfl) (B8 I) _ HN3.out Try.underlying22 rfl I16.out ?_)
        | (go_at_call 23; refine (H4.out _ _ w3 HT3.out HS3.out).mono ?_; rintro e w4 ⟨rfl, b4⟩; have HBw4 := Lib.hid (b4.alloc b4.size (.cells (B8 R).toArray 24)); have HX4 : Hid ((w4.alloc (.cells (B8 R).toArray 24)).heap[w4.heap.size]? = some (.cells (B8 R).toArray 24 (0, 0))) := Lib.hid (heap_alloc_new _ _); clear b4)
        | ((with_reducible refine at_store 24 _ _ rfl ?_); refine wpList_store_new rfl 24 _ _ rfl (B8 R).toArray rfl rfl 24 _ IR.out (by simp [B8_length, HRL.out]) (B8_oneA R) ?_))
      obtain ⟨W4, HW4, HB34, HY4⟩ : ∃ W, Hid (W = w4.alloc (.cells (B8 R).toArray 24)) ∧ Hid (Below w3.heap.size w3 W) ∧ Hid (W.heap[w4.heap.size]? = some (.cells (B8 R).toArray 24 (0, 0))) := ⟨_, Lib.hid rfl, HBw4, HX4⟩
      rw [← HW4.out]
      generalize w4.heap.size = x4 at *
      have HB4 : Hid (Below W0.heap.size W0 W4) := Lib.hid (HB3.out.trans (HB34.out.mono HB3.out.size))
      have HXX4 := Lib.hid ((HB34.out.block _ (Array.getElem?_eq_some_iff.1 HX3.out).1).trans HX3.out)
      clear hk16 HX4 HBw4 HW4
      have heq := fun W => eq_hash R R HRL.out HRL.out W
      simp only [decide_true] at heq
      go_wp2_with (first
        | (go_at_call 12; refine (alive04_any _).mono ?_; rintro e w5 ⟨rfl, b5⟩; have HB5 := Lib.hid (HB4.out.trans (b5.mono HB4.out.size)); have P1 := Lib.hid ((b5.block _ (Array.getElem?_eq_some_iff.1 HXX4.out).1).trans HXX4.out); have P2 := Lib.hid ((b5.block _ (Array.getElem?_eq_some_iff.1 HY4.out).1).trans HY4.out); clear b5)
        | ((with_reducible refine at_load 24 _ rfl ?_); refine wpList_load_want (by rfl) 24 _ rfl x2 rfl _ (B8 R).toArray (0, 0) _ P1.out Try.underlying24 rfl IR.out ?_)
        | ((with_reducible refine at_load 24 _ rfl ?_); refine wpList_load_want (by rfl) 24 _ rfl x4 rfl _ (B8 R).toArray (0, 0) _ P2.out Try.underlying24 rfl IR.out ?_))
      go_ret
      exact ⟨rfl, HB0.out.trans (HB5.out.mono HB0.out.size)⟩
    · have hw' : isW d = false := by simpa using hw
      have e3 : errW d = 1 := by simp [errW, hw']
      obtain ⟨R, HR⟩ : ∃ R, Hid (R = zero32) := ⟨_, Lib.hid rfl⟩
      have HRL : Hid (R.length = 32) := Lib.hid (by rw [HR.out]; rfl)
      have IR : Hid ((Try.prog.info? 24).map (·.size) = some (B8 R).toArray.size) := Lib.hid (by rw [info_32]; simp [B8_length, HRL.out])
      rw [e3, signV, if_neg hw] at H1
      rw [e3, pubV, if_neg hw, ← HR.out] at H2
      rw [e3, if_neg hw] at H3
      clear ht hI hS hq hd hw hw' e3
      go_enter Try.func8, Try.ntmps8
      go_upto_region 1 with (fail)
      rw [← HW0.out]
      go_upto_region 5 with (first
        | ((with_reducible refine at_load 26 _ rfl ?_); first
            | refine wpList_load_row rfl 26 _ rfl _ rfl _ (KeyV I S q d).toArray (0, 0) _ HR0.out Try.underlying26 rfl IK.out ?_
            | refine wpList_load_row rfl 26 _ rfl _ rfl _ (KeyV I S q d).toArray (0, 0) _ HR1.out Try.underlying26 rfl IK.out ?_)
        | (go_at_call 21; refine (H1.out _ W0 HT0.out).mono ?_; rintro e w1 ⟨v1, rfl, s1, b1⟩; have HB1 := Lib.hid b1; have HR1 := Lib.hid ((b1.block _ (by rw [HS0.out]; omega)).trans HR0.out); clear s1 b1)
        | (go_at_call 9; refine (H2.out w1).mono ?_; rintro e w2 ⟨rfl, b2⟩; have HBw2 := Lib.hid (b2.alloc b2.size (.cells (B8 R).toArray 24)); clear b2)
        | ((with_reducible refine at_store 24 _ _ rfl ?_); refine wpList_store_new rfl 24 _ _ rfl (B8 R).toArray rfl rfl 24 _ IR.out (by simp [B8_length, HRL.out]) (B8_oneA R) ?_))
      obtain ⟨W2, HW2, HB12⟩ : ∃ W, Hid (W = w2.alloc (.cells (B8 R).toArray 24)) ∧ Hid (Below w1.heap.size w1 W) := ⟨_, Lib.hid rfl, HBw2⟩
      rw [← HW2.out]
      have HB2 := Lib.hid (HB1.out.trans (HB12.out.mono HB1.out.size))
      have HR2 := Lib.hid ((HB2.out.block _ (by rw [HS0.out]; omega)).trans HR0.out)
      have hkw := key_W HR2.out HHI.out HHS.out
      clear HBw2 HW2
      go_wp2_with (first
        | (go_at_call 17; refine (H3.out _).mono ?_; rintro e w3 ⟨rfl, b3⟩; have HB3 := Lib.hid (HB2.out.trans (b3.mono HB2.out.size)); clear b3)
        | (go_at_call 12; refine (alive04_any _).mono ?_; rintro e w5 ⟨rfl, b5⟩; have HB5 := Lib.hid (HB3.out.trans (b5.mono HB3.out.size)); clear b5))
      go_ret
      exact ⟨rfl, HB0.out.trans (HB5.out.mono HB0.out.size)⟩
  · have hli : ¬ (text.length : Int) ≤ 3000 := by omega
    clear ht hI hS hq hd
    go_enter Try.func8, Try.ntmps8
    go_upto_region 1 with (fail)
    rw [← HW0.out]
    go_wp2_with (go_at_call 12; refine (alive04_any _).mono ?_; rintro e w5 ⟨rfl, b5⟩; have HB5 := Lib.hid b5; clear b5)
    go_ret
    exact ⟨rfl, HB0.out.trans (HB5.out.mono HB0.out.size)⟩
end Go.Proofs.Ytmmmjlmfnonmaaa


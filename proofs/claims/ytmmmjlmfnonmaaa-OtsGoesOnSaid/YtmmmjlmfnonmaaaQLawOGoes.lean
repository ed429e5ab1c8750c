/- The walk of the law OtsGoesOn. -/
import Derived.Test.YtmmmjlmfnonmaaaG5
import Derived.Test.YtmmmjlmfnonmaaaEq
import Derived.Test.YtmmmjlmfnonmaaaInts
import Derived.Test.YtmmmjlmfnonmaaaAt
namespace Go.Proofs.Ytmmmjlmfnonmaaa
open Go Go.RowKit
set_option maxRecDepth 100000
set_option maxHeartbeats 1000000

theorem chainN_add (I : List UInt8) (q i : Nat) (x : List UInt8) (a n m : Nat) : chainN I q i (chainN I q i x a n) (a + n) m = chainN I q i x a (n + m) := by
  induction m with
  | zero => rfl
  | succ m ih => rw [chainN, ih, Nat.add_succ, chainN, Nat.add_assoc]
theorem chV_length (I : List UInt8) (q : Nat) (d i a b : Int) (x : List UInt8) (hx : x.length = 32) : (chV I q d i a b x).length = 32 := by
  rw [chV]
  split
  · exact chainN_length _ _ _ _ _ _ hx
  · rfl
theorem goes_on (I : List UInt8) (q : Nat) (d i a b c : Int) (x : List UInt8) (h1 : chOk d i a b = true) (h2 : chOk d i b c = true) :
    chOk d i a c = true ∧ chV I q d i b c (chV I q d i a b x) = chV I q d i a c x ∧ (a = b → chV I q d i a b x = x) := by
  have g1 := h1
  have g2 := h2
  rw [chOk, decide_eq_true_iff] at g1 g2
  obtain ⟨p1, p2, p3, p4, p5⟩ := g1
  obtain ⟨_, _, r3, r4, r5⟩ := g2
  have h3 : chOk d i a c = true := by
    rw [chOk, decide_eq_true_iff]
    exact ⟨p1, p2, p3, by omega, r5⟩
  refine ⟨h3, ?_, fun e => ?_⟩
  · rw [chV, if_pos h2, chV, if_pos h1, chV, if_pos h3]
    have := chainN_add I q i.toNat x a.toNat (b.toNat - a.toNat) (c.toNat - b.toNat)
    rw [show a.toNat + (b.toNat - a.toNat) = b.toNat by omega, show b.toNat - a.toNat + (c.toNat - b.toNat) = c.toNat - a.toNat by omega] at this
    exact this
  · subst e
    rw [chV, if_pos h1, Nat.sub_self]
    rfl
theorem ints4 {w : World} {b : Nat} {t : TypeId} {i a c d : Int} (h : w.heap[b]? = some (.cells (IV .i64 [i, a, c, d]).toArray t (0, 0))) :
    w.cell? ⟨b, 0, none⟩ = some (.int .i64 i) ∧ w.cell? ⟨b, 1, none⟩ = some (.int .i64 a) ∧ w.cell? ⟨b, 2, none⟩ = some (.int .i64 c) ∧ w.cell? ⟨b, 3, none⟩ = some (.int .i64 d) := by
  refine ⟨?_, ?_, ?_, ?_⟩ <;> rw [cell_of_row w b _ _ t (0, 0) h] <;> rfl

theorem OtsGoesOn_main (I S : List UInt8) (q : Nat) (d i a b c : Int) (x : List UInt8) (w : World) (hI : I.length = 16) (hS : S.length = 32) (hq : q < 4294967296) (hd : -9223372036854775808 ≤ d ∧ d ≤ 9223372036854775807) (hx : x.length = 32) :
    Calls Try.prog 4 #[.agg (KeyV I S q d).toArray, .agg (IV .i64 [i, a, b, c]).toArray, .agg (B8 x).toArray] w fun e w' => e = .returned (.bool true) ∧ Below w.heap.size w w' := by
  obtain ⟨W0, HW0, HB0, HS0, HR0⟩ : ∃ V, Hid (V = w.alloc (.cells (KeyV I S q d).toArray 26)) ∧ Hid (Below w.heap.size w V) ∧ Hid (V.heap.size = w.heap.size + 1) ∧ Hid (V.heap[w.heap.size]? = some (.cells (KeyV I S q d).toArray 26 (0, 0))) := ⟨_, Lib.hid rfl, Lib.hid ((Below.refl _ _).alloc (Nat.le_refl _) _), Lib.hid (by simp), Lib.hid (heap_alloc_new _ _)⟩
  obtain ⟨N4, HN4⟩ : ∃ N4, Hid (N4 = (IV .i64 [i, a, b, c]).toArray) := ⟨_, Lib.hid rfl⟩
  rw [← HN4.out]
  obtain ⟨W1, HW1, HB1, HS1, HR1, HX1⟩ : ∃ V, Hid (V = W0.alloc (.cells N4 35)) ∧ Hid (Below w.heap.size w V) ∧ Hid (V.heap.size = w.heap.size + 2) ∧ Hid (V.heap[w.heap.size]? = some (.cells (KeyV I S q d).toArray 26 (0, 0))) ∧ Hid (V.heap[w.heap.size + 1]? = some (.cells N4 35 (0, 0))) :=
    ⟨_, Lib.hid rfl, Lib.hid (HB0.out.alloc HB0.out.size _), Lib.hid (by simp [HS0.out]), Lib.hid ((heap_alloc_old _ _ (by rw [HS0.out]; omega)).trans HR0.out), Lib.hid (by rw [← HS0.out]; exact heap_alloc_new _ _)⟩
  obtain ⟨V, HV, HVB, HVS, HVR, HVX, HVZ⟩ : ∃ V, Hid (V = W1.alloc (.cells (B8 x).toArray 24)) ∧ Hid (Below w.heap.size w V) ∧ Hid (V.heap.size = w.heap.size + 3) ∧ Hid (V.heap[w.heap.size]? = some (.cells (KeyV I S q d).toArray 26 (0, 0))) ∧ Hid (V.heap[w.heap.size + 1]? = some (.cells N4 35 (0, 0))) ∧ Hid (V.heap[w.heap.size + 2]? = some (.cells (B8 x).toArray 24 (0, 0))) :=
    ⟨_, Lib.hid rfl, Lib.hid (HB1.out.alloc HB1.out.size _), Lib.hid (by simp [HS1.out]), Lib.hid ((heap_alloc_old _ _ (by rw [HS1.out]; omega)).trans HR1.out), Lib.hid ((heap_alloc_old _ _ (by rw [HS1.out]; omega)).trans HX1.out), Lib.hid (by rw [← HS1.out]; exact heap_alloc_new _ _)⟩
  have IK : Hid ((Try.prog.info? 26).map (·.size) = some (KeyV I S q d).toArray.size) := Lib.hid (by rw [info_key, List.size_toArray, KeyV_length _ _ _ _ hI hS])
  have H1 := Lib.hid (fun a b (x : List UInt8) (h : x.length = 32) w' => Chain_any I S q d i a b x w' hI hS hq hd h)
  have HC : Hid (∀ W, Below V.heap.size V W → W.heap[w.heap.size]? = some (.cells (KeyV I S q d).toArray 26 (0, 0)) ∧ W.heap[w.heap.size + 2]? = some (.cells (B8 x).toArray 24 (0, 0)) ∧
      W.cell? ⟨w.heap.size + 1, 0, none⟩ = some (.int .i64 i) ∧ W.cell? ⟨w.heap.size + 1, 1, none⟩ = some (.int .i64 a) ∧ W.cell? ⟨w.heap.size + 1, 2, none⟩ = some (.int .i64 b) ∧ W.cell? ⟨w.heap.size + 1, 3, none⟩ = some (.int .i64 c)) := Lib.hid (fun W hW => by
    have h1 := (hW.block (w.heap.size + 1) (by rw [HVS.out]; omega)).trans HVX.out
    rw [HN4.out] at h1
    exact ⟨(hW.block _ (by rw [HVS.out]; omega)).trans HVR.out, (hW.block _ (by rw [HVS.out]; omega)).trans HVZ.out, ints4 h1⟩)
  have HXL := Lib.hid hx
  have HGO := Lib.hid (fun h1 h2 => goes_on I q d i a b c x h1 h2)
  obtain ⟨Y, HY⟩ : ∃ Y, Hid (Y = chV I q d i a b x) := ⟨_, Lib.hid rfl⟩
  have HYL : Hid (Y.length = 32) := Lib.hid (by rw [HY.out]; exact chV_length _ _ _ _ _ _ _ hx)
  obtain ⟨Z, HZ⟩ : ∃ Z, Hid (Z = chV I q d i b c Y) := ⟨_, Lib.hid rfl⟩
  have HZL : Hid (Z.length = 32) := Lib.hid (by rw [HZ.out]; exact chV_length _ _ _ _ _ _ _ HYL.out)
  obtain ⟨U, HU⟩ : ∃ U, Hid (U = chV I q d i a c x) := ⟨_, Lib.hid rfl⟩
  have HUL : Hid (U.length = 32) := Lib.hid (by rw [HU.out]; exact chV_length _ _ _ _ _ _ _ hx)
  have K1 := Lib.hid (H1.out a b x hx)
  have K2 := Lib.hid (H1.out b c Y HYL.out)
  have K3 := Lib.hid (H1.out a c x hx)
  rw [← HY.out] at K1 HGO
  rw [← HZ.out] at K2 HGO
  rw [← HU.out] at K3 HGO
  generalize chOk d i a b = k1 at *
  generalize chOk d i b c = k2 at *
  generalize chOk d i a c = k3 at *
  obtain ⟨e1, he1⟩ : ∃ e : Int, Hid (e = if k1 = true then 0 else 1) := ⟨_, Lib.hid rfl⟩
  obtain ⟨e2, he2⟩ : ∃ e : Int, Hid (e = if k2 = true then 0 else 1) := ⟨_, Lib.hid rfl⟩
  obtain ⟨e3, he3⟩ : ∃ e : Int, Hid (e = if k3 = true then 0 else 1) := ⟨_, Lib.hid rfl⟩
  rw [← he1.out] at K1
  rw [← he2.out] at K2
  rw [← he3.out] at K3
  have IY : Hid ((Try.prog.info? 24).map (·.size) = some (B8 Y).toArray.size) := Lib.hid (by rw [info_32]; simp [B8_length, HYL.out])
  have IZ : Hid ((Try.prog.info? 24).map (·.size) = some (B8 Z).toArray.size) := Lib.hid (by rw [info_32]; simp [B8_length, HZL.out])
  have IU : Hid ((Try.prog.info? 24).map (·.size) = some (B8 U).toArray.size) := Lib.hid (by rw [info_32]; simp [B8_length, HUL.out])
  have IX : Hid ((Try.prog.info? 24).map (·.size) = some (B8 x).toArray.size) := Lib.hid (by rw [info_32]; simp [B8_length, hx])
  obtain ⟨k0, x0, c00, c01, c02, c03⟩ := HC.out V (Below.refl _ _)
  have KR0 := Lib.hid k0
  have XR0 := Lib.hid x0
  clear hI hS hq hd hx H1 k0 x0
  go_enter Try.func4, Try.ntmps4
  go_upto_region 1 with (fail)
  rw [← HW0.out, ← HW1.out, ← HV.out]
  go_upto_region 2 with (first
    | (with_reducible refine at_load 26 _ rfl ?_; refine wpList_load_row rfl 26 _ rfl _ rfl _ (KeyV I S q d).toArray (0, 0) _ KR0.out Try.underlying26 rfl IK.out ?_)
    | (with_reducible refine at_load 24 _ rfl ?_; refine wpList_load_row rfl 24 _ rfl _ rfl _ (B8 x).toArray (0, 0) _ XR0.out Try.underlying24 rfl IX.out ?_)
    | (go_at_call 13; refine (K1.out V).mono ?_; rintro e w1 ⟨rfl, b1⟩; have HB1 := Lib.hid (b1.alloc b1.size (.cells (B8 Y).toArray 24)); clear b1)
    | (with_reducible refine at_store 24 _ _ rfl ?_; refine wpList_store_new rfl 24 _ _ rfl (B8 Y).toArray rfl rfl 24 _ IY.out (by simp [B8_length, HYL.out]) (B8_oneA Y) ?_))
  have YR1 : Hid ((w1.alloc (.cells (B8 Y).toArray 24)).heap[w1.heap.size]? = some (.cells (B8 Y).toArray 24 (0, 0))) := Lib.hid (heap_alloc_new _ _)
  generalize w1.alloc (.cells (B8 Y).toArray 24) = V1 at HB1 YR1 ⊢
  generalize w1.heap.size = y1 at YR1 ⊢
  clear c00 c01 c02 c03
  obtain ⟨k0, x0, c00, c01, c02, c03⟩ := HC.out V1 HB1.out
  have KR1 := Lib.hid k0
  clear k0 x0
  go_upto_region 3 with (first
    | (with_reducible refine at_load 26 _ rfl ?_; refine wpList_load_row rfl 26 _ rfl _ rfl _ (KeyV I S q d).toArray (0, 0) _ KR1.out Try.underlying26 rfl IK.out ?_)
    | (with_reducible refine at_load 24 _ rfl ?_; refine wpList_load_row rfl 24 _ rfl _ rfl _ (B8 Y).toArray (0, 0) _ YR1.out Try.underlying24 rfl IY.out ?_)
    | (go_at_call 13; refine (K2.out V1).mono ?_; rintro e w2 ⟨rfl, b2⟩; have YR2 := Lib.hid (((b2.alloc b2.size (.cells (B8 Z).toArray 24)).block _ (Array.getElem?_eq_some_iff.1 YR1.out).1).trans YR1.out); have HB2 := Lib.hid (HB1.out.trans ((b2.alloc b2.size (.cells (B8 Z).toArray 24)).mono HB1.out.size)); clear b2)
    | (with_reducible refine at_store 24 _ _ rfl ?_; refine wpList_store_new rfl 24 _ _ rfl (B8 Z).toArray rfl rfl 24 _ IZ.out (by simp [B8_length, HZL.out]) (B8_oneA Z) ?_))
  have ZR2 : Hid ((w2.alloc (.cells (B8 Z).toArray 24)).heap[w2.heap.size]? = some (.cells (B8 Z).toArray 24 (0, 0))) := Lib.hid (heap_alloc_new _ _)
  generalize w2.alloc (.cells (B8 Z).toArray 24) = V2 at HB2 YR2 ZR2 ⊢
  generalize w2.heap.size = y2 at ZR2 ⊢
  clear c00 c01 c02 c03
  obtain ⟨k0, x0, c00, c01, c02, c03⟩ := HC.out V2 HB2.out
  have KR2 := Lib.hid k0
  have XR2 := Lib.hid x0
  clear k0 x0
  go_upto_region 4 with (first
    | (with_reducible refine at_load 26 _ rfl ?_; refine wpList_load_row rfl 26 _ rfl _ rfl _ (KeyV I S q d).toArray (0, 0) _ KR2.out Try.underlying26 rfl IK.out ?_)
    | (with_reducible refine at_load 24 _ rfl ?_; refine wpList_load_row rfl 24 _ rfl _ rfl _ (B8 x).toArray (0, 0) _ XR2.out Try.underlying24 rfl IX.out ?_)
    | (go_at_call 13; refine (K3.out V2).mono ?_; rintro e w3 ⟨rfl, b3⟩; have YR3 := Lib.hid (((b3.alloc b3.size (.cells (B8 U).toArray 24)).block _ (Array.getElem?_eq_some_iff.1 YR2.out).1).trans YR2.out); have ZR3 := Lib.hid (((b3.alloc b3.size (.cells (B8 U).toArray 24)).block _ (Array.getElem?_eq_some_iff.1 ZR2.out).1).trans ZR2.out); have HB3 := Lib.hid (HB2.out.trans ((b3.alloc b3.size (.cells (B8 U).toArray 24)).mono HB2.out.size)); clear b3)
    | (with_reducible refine at_store 24 _ _ rfl ?_; refine wpList_store_new rfl 24 _ _ rfl (B8 U).toArray rfl rfl 24 _ IU.out (by simp [B8_length, HUL.out]) (B8_oneA U) ?_))
  have UR3 : Hid ((w3.alloc (.cells (B8 U).toArray 24)).heap[w3.heap.size]? = some (.cells (B8 U).toArray 24 (0, 0))) := Lib.hid (heap_alloc_new _ _)
  generalize w3.alloc (.cells (B8 U).toArray 24) = V3 at HB3 YR3 ZR3 UR3 ⊢
  generalize w3.heap.size = y3 at UR3 ⊢
  clear c00 c01 c02 c03
  have HBF := Lib.hid (HVB.out.trans (HB3.out.mono HVB.out.size))
  by_cases h1 : k1 = true
  · have hz1 : e1 = 0 := by rw [he1.out, if_pos h1]
    by_cases h2 : k2 = true
    · have hz2 : e2 = 0 := by rw [he2.out, if_pos h2]
      obtain ⟨g1, g2, g3⟩ := HGO.out h1 h2
      have hz3 : e3 = 0 := by rw [he3.out, if_pos g1]
      subst hz1 hz2 hz3
      rw [← g2] at UR3
      have heq := fun W => eq_hash Z Z HZL.out HZL.out W
      simp only [decide_true] at heq
      by_cases hab : a = b
      · have g4 := g3 hab
        rw [← g4] at HC
        have heq2 := fun W => eq_hash Y Y HYL.out HYL.out W
        simp only [decide_true] at heq2
        subst hab
        clear g1 g2 g3 g4 h1 h2 he1 he2 he3
        go_wp2_with (first
          | (go_at_call 12; refine (alive04_any _).mono ?_; rintro e w4 ⟨rfl, b4⟩; have HB4 := Lib.hid (HB3.out.trans (b4.mono HB3.out.size)); have HBG := Lib.hid (HBF.out.trans (b4.mono HBF.out.size)); have YR4 := Lib.hid ((b4.block _ (Array.getElem?_eq_some_iff.1 YR3.out).1).trans YR3.out); have ZR4 := Lib.hid ((b4.block _ (Array.getElem?_eq_some_iff.1 ZR3.out).1).trans ZR3.out); have UR4 := Lib.hid ((b4.block _ (Array.getElem?_eq_some_iff.1 UR3.out).1).trans UR3.out); obtain ⟨k0, x0, c00, c01, c02, c03⟩ := HC.out w4 HB4.out; have XR4 := Lib.hid x0; clear k0 x0 b4)
          | (with_reducible refine at_load 24 _ rfl ?_; refine wpList_load_want (by kernel_rfl) 24 _ rfl y2 rfl _ (B8 Z).toArray (0, 0) _ ZR4.out Try.underlying24 rfl IZ.out ?_)
          | (with_reducible refine at_load 24 _ rfl ?_; refine wpList_load_want (by kernel_rfl) 24 _ rfl y3 rfl _ (B8 Z).toArray (0, 0) _ UR4.out Try.underlying24 rfl IZ.out ?_)
          | (with_reducible refine at_load 24 _ rfl ?_; refine wpList_load_want (by kernel_rfl) 24 _ rfl y1 rfl _ (B8 Y).toArray (0, 0) _ YR4.out Try.underlying24 rfl IY.out ?_)
          | (with_reducible refine at_load 24 _ rfl ?_; refine wpList_load_want (by kernel_rfl) 24 _ rfl (w.heap.size + 2) rfl _ (B8 Y).toArray (0, 0) _ XR4.out Try.underlying24 rfl IY.out ?_))
        go_ret
        exact ⟨rfl, HBG.out⟩
      · have hab2 : (a != b) = true := by simpa using hab
        clear g1 g2 g3 h1 h2 he1 he2 he3
        go_wp2_with (first
          | (go_at_call 12; refine (alive04_any _).mono ?_; rintro e w4 ⟨rfl, b4⟩; have HB4 := Lib.hid (HB3.out.trans (b4.mono HB3.out.size)); have HBG := Lib.hid (HBF.out.trans (b4.mono HBF.out.size)); have YR4 := Lib.hid ((b4.block _ (Array.getElem?_eq_some_iff.1 YR3.out).1).trans YR3.out); have ZR4 := Lib.hid ((b4.block _ (Array.getElem?_eq_some_iff.1 ZR3.out).1).trans ZR3.out); have UR4 := Lib.hid ((b4.block _ (Array.getElem?_eq_some_iff.1 UR3.out).1).trans UR3.out); obtain ⟨k0, x0, c00, c01, c02, c03⟩ := HC.out w4 HB4.out; have XR4 := Lib.hid x0; clear k0 x0 b4)
          | (with_reducible refine at_load 24 _ rfl ?_; refine wpList_load_want (by kernel_rfl) 24 _ rfl y2 rfl _ (B8 Z).toArray (0, 0) _ ZR4.out Try.underlying24 rfl IZ.out ?_)
          | (with_reducible refine at_load 24 _ rfl ?_; refine wpList_load_want (by kernel_rfl) 24 _ rfl y3 rfl _ (B8 Z).toArray (0, 0) _ UR4.out Try.underlying24 rfl IZ.out ?_))
        go_ret
        exact ⟨rfl, HBG.out⟩
    · have hz2 : e2 = 1 := by rw [he2.out, if_neg h2]
      subst hz1 hz2
      clear h1 h2
      go_wp2_with (go_at_call 12; refine (alive04_any _).mono ?_; rintro e w4 ⟨rfl, b4⟩; have HB4 := Lib.hid (HBF.out.trans (b4.mono HBF.out.size)); clear b4)
      go_ret
      exact ⟨rfl, HB4.out⟩
  · have hz1 : e1 = 1 := by rw [he1.out, if_neg h1]
    subst hz1
    clear h1
    go_wp2_with (go_at_call 12; refine (alive04_any _).mono ?_; rintro e w4 ⟨rfl, b4⟩; have HB4 := Lib.hid (HBF.out.trans (b4.mono HBF.out.size)); clear b4)
    go_ret
    exact ⟨rfl, HB4.out⟩
end Go.Proofs.Ytmmmjlmfnonmaaa


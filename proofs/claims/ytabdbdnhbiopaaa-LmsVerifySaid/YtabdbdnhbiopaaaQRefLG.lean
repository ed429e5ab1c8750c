/- The walk of the document's Verify. -/
import Derived.Test.YtabdbdnhbiopaaaG15
import Derived.Test.YtabdbdnhbiopaaaG13
import Derived.Test.YtabdbdnhbiopaaaG7
import Derived.Test.YtabdbdnhbiopaaaG5
namespace Go.Proofs.Ytabdbdnhbiopaaa
open Go Go.RowKit
set_option maxRecDepth 100000
set_option maxHeartbeats 8000000
attribute [local irreducible] Wild.walk WildF.walk

theorem div_one_ofR (P Q : Nat) (h : Q < P) : (P + Q) / P = 1 := by rw [Nat.add_div_left Q (by omega), Nat.div_eq_of_lt h]
theorem Verify_closedR (pv tv sv : Value) (p text s : List UInt8) (w : World) (hp : Sl w pv p) (ht : Sl w tv text) (hs : Sl w sv s) (hok : openOk p = false) :
    Calls Try.prog 17 #[pv, tv, sv] w fun e w' => e = .returned (.int .i64 3) ∧ Below w.heap.size w w' := by
  have HOP := Lib.hid (form_ref pv p w hp)
  rw [hok] at HOP
  obtain ⟨T, HT⟩ : ∃ T, Hid (T = (TreeV (openI p) zero32 (openW p) (openH p)).toArray) := ⟨_, Lib.hid rfl⟩
  rw [← HT.out] at HOP
  have HTI : Hid ((Try.prog.info? 33).map (·.size) = some T.size) := Lib.hid (by rw [HT.out, info_treeR, List.size_toArray, TreeV_length _ _ _ _ (openI_length p) rfl])
  have HTO : Hid (T.all (·.oneCell') = true) := Lib.hid (by rw [HT.out]; exact TreeV_one _ _ _ _)
  have HTS : Hid (T.size = 50) := Lib.hid (by rw [HT.out, List.size_toArray, TreeV_length _ _ _ _ (openI_length p) rfl])
  obtain ⟨pa, pc, rfl⟩ := hp.shape
  obtain ⟨ta, tc, rfl⟩ := ht.shape
  obtain ⟨sa, sc, rfl⟩ := hs.shape
  clear hp ht hs hok
  go_enter Try.func17, Try.ntmps17
  go_wp2_with (first
    | (go_at_call 43; refine HOP.out.mono ?_; rintro e w1 ⟨rfl, b1⟩; have HB1 := Lib.hid b1; clear b1)
    | ((with_reducible refine at_store 33 _ _ rfl ?_); refine wpList_store_new rfl 33 _ _ rfl T rfl rfl 33 _ HTI.out (by rw [HTS.out]; rfl) HTO.out ?_))
  go_ret
  exact ⟨rfl, HB1.out.alloc HB1.out.size _⟩
theorem Verify_mainR (pv tv sv : Value) (p text s : List UInt8) (w : World) (hp : Sl w pv p) (ht : Sl w tv text) (hs : Sl w sv s) (htl : text.length ≤ 1000000) (hsl : s.length ≤ 1000000) (hok : openOk p = true) :
    Calls Try.prog 17 #[pv, tv, sv] w fun e w' => e = .returned (.int .i64 (verV p text s)) ∧ Below w.heap.size w w' := by
  have HOP := Lib.hid (form_ref pv p w hp)
  rw [hok] at HOP
  obtain ⟨hp56, hk, hkw, hh1, hh5, hp8⟩ := openOk_facts p hok
  have hIL := openI_length p
  have hvl : verL p = 36 + 32 * (manyW (openW p)).toNat := rfl
  obtain ⟨k, Hk⟩ : ∃ k, Hid (k = openW p) := ⟨_, Lib.hid rfl⟩
  obtain ⟨h, Hh⟩ : ∃ h, Hid (h = openH p) := ⟨_, Lib.hid rfl⟩
  obtain ⟨I, HI⟩ : ∃ I, Hid (I = openI p) := ⟨_, Lib.hid rfl⟩
  have HVV : Hid (verV p text s = if verOk p s then (if verR p text s = p.drop 24 then 0 else 16) else 3) := Lib.hid rfl
  have HVO : Hid (verOk p s = (decide (s.length = verL p + 8 + 32 * openH p) && (decide (leafN s < 2 ^ openH p) && (((s.drop (4 + verL p)).take 4 == p4 p) && ((s.drop 4).take 4 == p8 p))))) := Lib.hid (by rw [verOk, hok, Bool.true_and])
  have HVR : Hid (verR p text s = climb (openI p) (openH p) (2 ^ openH p + leafN s) (hashN (openI p) (2 ^ openH p + leafN s) 33410 [candV (openI p) (leafN s) text ((s.drop 4).take (verL p))]) (s.drop (verL p + 8))) := Lib.hid rfl
  obtain ⟨R, HR⟩ : ∃ R, Hid (R = verV p text s) := ⟨_, Lib.hid rfl⟩
  rw [← HR.out] at HVV ⊢
  rw [← Hk.out, ← Hh.out, ← HI.out] at HOP
  rw [← Hh.out] at HVO HVR hh1 hh5
  rw [← HI.out] at HVR hIL
  rw [← Hk.out] at hk hkw hp8 hvl
  obtain ⟨M, m1, m2⟩ : ∃ M : Nat, manyW k = M ∧ M ≤ 265 := ⟨_, (manyW_w k hk).1, (manyW_w k hk).2⟩
  obtain ⟨n, Hn⟩ : ∃ n, Hid (n = verL p) := ⟨_, Lib.hid rfl⟩
  rw [← Hn.out] at HVO HVR hvl
  have hmk : 36 + 32 * manyW k = (n : Int) := by omega
  have hn9 : n ≤ 9000 := by omega
  have HLN := Lib.hid (fun w' => Long_ref k w')
  have herr : errW k = 0 := by rw [errW, if_pos hkw]
  simp only [hkw, if_true, hmk, herr] at HLN
  have HLF := Lib.hid (fun w' h => Leaf_ref sv s w' h hsl)
  have HLV := Lib.hid (fun w' => leaves_ref h w' hh5)
  obtain ⟨T, HT⟩ : ∃ T, Hid (T = (TreeV I zero32 k h).toArray) := ⟨_, Lib.hid rfl⟩
  have HTI : Hid ((Try.prog.info? 33).map (·.size) = some T.size) := Lib.hid (by rw [HT.out, info_treeR, List.size_toArray, TreeV_length _ _ _ _ hIL rfl])
  have HTO : Hid (T.all (·.oneCell') = true) := Lib.hid (by rw [HT.out]; exact TreeV_one _ _ _ _)
  have HTS : Hid (T.size = 50) := Lib.hid (by rw [HT.out, List.size_toArray, TreeV_length _ _ _ _ hIL rfl])
  rw [← HT.out] at HOP
  have HHIL := Lib.hid hIL
  have HPW := Lib.hid hp
  have HTW := Lib.hid ht
  have HSW := Lib.hid hs
  obtain ⟨pa, pc, rfl⟩ := hp.shape
  obtain ⟨ta, tc, rfl⟩ := ht.shape
  obtain ⟨sa, sc, rfl⟩ := hs.shape
  rw [hp56] at HOP HPW ⊢
  have HP56 := Lib.hid hp56
  have hpl0 : 0 < p.length := by rw [hp56]; decide
  obtain ⟨pb, po, rfl, -, p1, p2, hpcs⟩ := Sl.cells HPW.out hpl0
  rw [hp56] at p1
  clear hp hp56
  obtain ⟨P, HPo⟩ : ∃ P, Hid (P = 2 ^ h) := ⟨_, Lib.hid rfl⟩
  obtain ⟨pw5, pw1⟩ := pow5 h hh5
  rw [← HPo.out] at pw5 pw1 HLV
  obtain ⟨P4, HP4⟩ : ∃ E, Hid (E = p4 p) := ⟨_, Lib.hid rfl⟩
  obtain ⟨P8, HP8⟩ : ∃ E, Hid (E = p8 p) := ⟨_, Lib.hid rfl⟩
  have GP4 : Hid (Sl w (.slice (some ⟨pb, po, none⟩) 4 pc) P4) := Lib.hid (by have h := Sl.part hpcs 0 4 pc (by rw [HP56.out]; omega) (by omega) (by omega); rw [HP4.out, p4]; simpa using h)
  have GP8 : Hid (Sl w (.slice (some ⟨pb, po + 4, none⟩) 4 (pc - 4)) P8) := Lib.hid (by rw [HP8.out, p8]; exact Sl.part hpcs 4 4 _ (by rw [HP56.out]; omega) (by omega) (by omega))
  obtain ⟨Pr, HPr⟩ : ∃ X, Hid (X = p.drop 24) := ⟨_, Lib.hid rfl⟩
  have GPr : Hid (Sl w (.slice (some ⟨pb, po + 24, none⟩) 32 (pc - 24)) Pr) := Lib.hid (by
    have h := Sl.part hpcs 24 32 (pc - 24) (by rw [HP56.out]; omega) (by omega) (by omega)
    rw [List.take_of_length_le (by rw [List.length_drop, HP56.out]; omega)] at h
    rw [HPr.out]; exact h)
  have hpc4 : (4 : Int) ≤ pc := by omega
  have hpc8 : (8 : Int) ≤ pc := by omega
  obtain ⟨Ls, hLs⟩ : ∃ Ls, Ls = s.length := ⟨_, rfl⟩
  have key : Hid (∀ (w1 : World), Below w.heap.size w w1 → ∃ W, Hid (W = w1.alloc (.cells T 33)) ∧ Hid (Below w.heap.size w W) ∧ Hid (W.heap[w1.heap.size]? = some (.cells (TreeV I zero32 k h).toArray 33 (0, 0)))) := Lib.hid (fun w1 b1 =>
    ⟨_, Lib.hid rfl, Lib.hid (b1.alloc b1.size _), Lib.hid (by rw [HT.out]; exact heap_alloc_new _ _)⟩)
  have HLS := Lib.hid hLs
  rw [← hLs] at HSW HLF ⊢
  clear ht hs hok hp8 hvl hmk Hn herr m1 m2 hpcs hpl0
  by_cases hlen : Ls = n + 8 + 32 * h
  · have hlb : ((Ls : Int) != 4 + (n : Int) + 4 + 32 * (h : Int)) = false := by
      have : (Ls : Int) = 4 + (n : Int) + 4 + 32 * (h : Int) := by omega
      rw [this]; simp
    have hle : (Ls : Int) = 4 + (n : Int) + 4 + 32 * (h : Int) := by omega
    have HLE := Lib.hid hle
    clear hle
    have HVO1 : Hid (verOk p s = (decide (leafN s < 2 ^ h) && (((s.drop (4 + n)).take 4 == p4 p) && ((s.drop 4).take 4 == p8 p)))) := Lib.hid (by rw [HVO.out, decide_eq_true (by rw [← hLs]; exact hlen), Bool.true_and])
    obtain ⟨sb, so, rfl, -, q1, q2, hcs⟩ := Sl.cells HSW.out (by omega)
    rw [← hLs] at q1
    have HCS := Lib.hid hcs
    obtain ⟨Qn, HQn⟩ : ∃ q, Hid (q = leafN s) := ⟨_, Lib.hid rfl⟩
    have HQ32 : Hid (Qn < 4294967296) := Lib.hid (by rw [HQn.out]; exact leafN_lt s)
    have hfe : leafE s = 0 := by rw [leafE, if_neg (by omega)]
    rw [← HQn.out, hfe] at HLF
    rw [← HQn.out] at HVO1 HVR
    obtain ⟨E4, HE4⟩ : ∃ E, Hid (E = (s.drop (4 + n)).take 4) := ⟨_, Lib.hid rfl⟩
    obtain ⟨S8, HS8⟩ : ∃ E, Hid (E = (s.drop 4).take 4) := ⟨_, Lib.hid rfl⟩
    have GE4 : Hid (Sl w (.slice (some ⟨sb, so + (4 + n), none⟩) 4 (sc - (4 + n))) E4) := Lib.hid (by rw [HE4.out]; exact Sl.part hcs (4 + n) 4 _ (by omega) (by omega) (by omega))
    have GS8 : Hid (Sl w (.slice (some ⟨sb, so + 4, none⟩) 4 (sc - 4)) S8) := Lib.hid (by rw [HS8.out]; exact Sl.part hcs 4 4 _ (by omega) (by omega) (by omega))
    rw [← HPo.out, ← HE4.out, ← HS8.out, ← HP4.out, ← HP8.out] at HVO1
    have hsc8 : (8 : Int) ≤ sc := by omega
    have hsn : (8 : Int) + (n : Int) ≤ sc := by omega
    have h84 : 8 + n - (4 + n) = 4 := by omega
    have HLEN := Lib.hid hlen
    clear hfe hcs hlen hLs
    cases hs8 : (S8 == P8)
    · have HV3 : Hid (R = 3) := Lib.hid (by rw [HVV.out, HVO1.out, hs8, Bool.and_false, Bool.and_false]; rfl)
      have hs8' : (S8 != P8) = true := by simp [bne, hs8]
      go_enter Try.func17, Try.ntmps17
      go_upto_region 2 with (first
        | (go_at_call 43; refine HOP.out.mono ?_; rintro e w1 ⟨rfl, b1⟩; have HB1 := Lib.hid b1; clear b1)
        | ((with_reducible refine at_store 33 _ _ rfl ?_); refine wpList_store_new rfl 33 _ _ rfl T rfl rfl 33 _ HTI.out (by rw [HTS.out]; rfl) HTO.out ?_))
      obtain ⟨W2, HW2, HB2, HT2⟩ := key.out w1 HB1.out
      rw [← HW2.out]
      generalize w1.heap.size = b at *
      have HT2L : Hid (b < W2.heap.size) := Lib.hid (Array.getElem?_eq_some_iff.1 HT2.out).1
      have kw := tree_W HT2.out hIL rfl
      go_upto_region 5 with (go_at_call 44; refine (HLN.out W2).mono ?_; rintro e w3 ⟨rfl, b3⟩; have HB3 := Lib.hid (HB2.out.trans (b3.mono HB2.out.size)); have HB23 := Lib.hid b3; clear b3)
      clear kw
      try simp only [Act.put]
      refine Wild.region_b (fun _ => none) (fun _ => []) rfl (by kernel_rfl) (fun vs hvs => ?_)
      refine Wild.walk_simple rfl (by rfl) (by rfl) (fun K hK => ?_); go_big_quiet_op; first | (refine hK _ ?_; clear hK K) | (refine ⟨_, fun _ _ => rfl, hK _ ?_⟩; clear hK K)
      refine Wild.walk_run (.int .i64 Ls) rfl (by rfl) (fun w' _ => by unfold execOp; go_simp) ?_
      simp only [Act.put, List.setIfInBounds_toArray, List.set_cons_zero, List.set_cons_succ]
      refine Wild.walk_simple rfl (by rfl) (by rfl) (fun K hK => ?_); go_big_quiet_op; first | (refine hK _ ?_; clear hK K) | (refine ⟨_, fun _ _ => rfl, hK _ ?_⟩; clear hK K)
      refine Wild.walk_simple rfl (by rfl) (by rfl) (fun K hK => ?_); go_big_quiet_op; first | (refine hK _ ?_; clear hK K) | (refine ⟨_, fun _ _ => rfl, hK _ ?_⟩; clear hK K)
      refine Wild.walk_simple rfl (by rfl) (by rfl) (fun K hK => ?_); go_big_quiet_op; first | (refine hK _ ?_; clear hK K) | (refine ⟨_, fun _ _ => rfl, hK _ ?_⟩; clear hK K)
      refine Wild.walk_simple rfl (by rfl) (by rfl) (fun K hK => ?_); go_big_quiet_op; first | (refine hK _ ?_; clear hK K) | (refine ⟨_, fun _ _ => rfl, hK _ ?_⟩; clear hK K)
      refine Wild.walk_cell 3 _ _ _ (.int .i64 h) _ rfl (by rfl) rfl rfl (fun w' hw => tree_H (((HB23.out.trans (Below.mono hw.1 HB23.out.size)).block _ HT2L.out).trans HT2.out) HHIL.out rfl) Try.underlying3 rfl ?_
      simp only [Act.put, List.setIfInBounds_toArray, List.set_cons_zero, List.set_cons_succ]
      refine Wild.walk_simple rfl (by rfl) (by rfl) (fun K hK => ?_); go_big_quiet_op; first | (refine hK _ ?_; clear hK K) | (refine ⟨_, fun _ _ => rfl, hK _ ?_⟩; clear hK K)
      refine Wild.walk_simple rfl (by rfl) (by rfl) (fun K hK => ?_); go_big_quiet_op; first | (refine hK _ ?_; clear hK K) | (refine ⟨_, fun _ _ => rfl, hK _ ?_⟩; clear hK K)
      refine Wild.walk_simple rfl (by rfl) (by rfl) (fun K hK => ?_); go_big_quiet_op; first | (refine hK _ ?_; clear hK K) | (refine ⟨_, fun _ _ => rfl, hK _ ?_⟩; clear hK K)
      try simp only [hlb]
      refine Wild.walk_simple rfl (by rfl) (by rfl) (fun K hK => ?_); go_big_quiet_op; first | (refine hK _ ?_; clear hK K) | (refine ⟨_, fun _ _ => rfl, hK _ ?_⟩; clear hK K)
      refine Wild.walk_simple rfl (by rfl) (by rfl) (fun K hK => ?_); go_big_quiet_op; first | (refine hK _ ?_; clear hK K) | (refine ⟨_, fun _ _ => rfl, hK _ ?_⟩; clear hK K)
      refine Wild.walk_simple rfl (by rfl) (by rfl) (fun K hK => ?_); go_big_quiet_op; first | (refine hK _ ?_; clear hK K) | (refine ⟨_, fun _ _ => rfl, hK _ ?_⟩; clear hK K)
      refine Wild.walk_run (.string ⟨S8.toArray⟩) rfl (by rfl) (fun w' hw => ?_) ?_
      · have h : Sl w' (.slice (some ⟨sb, so + 4, none⟩) 4 (sc - 4)) S8 := GS8.out.later (HB3.out.trans (Below.mono hw.1 HB3.out.size))
        have := h.conv
        go_simp
      simp only [Act.put, List.setIfInBounds_toArray, List.set_cons_zero, List.set_cons_succ]
      refine Wild.walk_simple rfl (by rfl) (by rfl) (fun K hK => ?_); go_big_quiet_op; first | (refine hK _ ?_; clear hK K) | (refine ⟨_, fun _ _ => rfl, hK _ ?_⟩; clear hK K)
      refine Wild.walk_simple rfl (by rfl) (by rfl) (fun K hK => ?_); go_big_quiet_op; first | (refine hK _ ?_; clear hK K) | (refine ⟨_, fun _ _ => rfl, hK _ ?_⟩; clear hK K)
      refine Wild.walk_run (.string ⟨P8.toArray⟩) rfl (by rfl) (fun w' hw => ?_) ?_
      · have h : Sl w' (.slice (some ⟨pb, po + 4, none⟩) 4 (pc - 4)) P8 := GP8.out.later (HB3.out.trans (Below.mono hw.1 HB3.out.size))
        have := h.conv
        go_simp
      simp only [Act.put, List.setIfInBounds_toArray, List.set_cons_zero, List.set_cons_succ]
      refine Wild.walk_simple rfl (by rfl) (by rfl) (fun K hK => ?_); go_big_quiet_op; first | (refine hK _ ?_; clear hK K) | (refine ⟨_, fun _ _ => rfl, hK _ ?_⟩; clear hK K)
      refine Wild.walk_simple rfl (by rfl) (by rfl) (fun K hK => ?_); go_big_quiet_op; first | (refine hK _ ?_; clear hK K) | (refine ⟨_, fun _ _ => rfl, hK _ ?_⟩; clear hK K)
      refine Wild.walk_simple rfl (by rfl) (by rfl) (fun K hK => ?_); go_big_quiet_op; first | (refine hK _ ?_; clear hK K) | (refine ⟨_, fun _ _ => rfl, hK _ ?_⟩; clear hK K)
      refine Wild.walk_skip rfl (by rfl) ?_
      simp only [Act.put, List.setIfInBounds_toArray, List.set_cons_zero, List.set_cons_succ]
      refine Wild.walk_skip rfl (by rfl) ?_
      simp only [Act.put, List.setIfInBounds_toArray, List.set_cons_zero, List.set_cons_succ]
      refine Wild.walk_skip rfl (by rfl) ?_
      simp only [Act.put, List.setIfInBounds_toArray, List.set_cons_zero, List.set_cons_succ]
      refine Wild.walk_skip rfl (by rfl) ?_
      simp only [Act.put, List.setIfInBounds_toArray, List.set_cons_zero, List.set_cons_succ]
      refine Wild.walk_skip rfl (by rfl) ?_
      simp only [Act.put, List.setIfInBounds_toArray, List.set_cons_zero, List.set_cons_succ]
      refine Wild.walk_skip rfl (by rfl) ?_
      simp only [Act.put, List.setIfInBounds_toArray, List.set_cons_zero, List.set_cons_succ]
      try simp only [show 8 + n - (4 + n) = 4 by omega]
      refine Wild.walk_skip rfl (by rfl) ?_
      simp only [Act.put, List.setIfInBounds_toArray, List.set_cons_zero, List.set_cons_succ]
      refine Wild.walk_skip rfl (by rfl) ?_
      simp only [Act.put, List.setIfInBounds_toArray, List.set_cons_zero, List.set_cons_succ]
      refine Wild.walk_skip rfl (by rfl) ?_
      simp only [Act.put, List.setIfInBounds_toArray, List.set_cons_zero, List.set_cons_succ]
      refine Wild.walk_skip rfl (by rfl) ?_
      simp only [Act.put, List.setIfInBounds_toArray, List.set_cons_zero, List.set_cons_succ]
      refine Wild.walk_skip rfl (by rfl) ?_
      simp only [Act.put, List.setIfInBounds_toArray, List.set_cons_zero, List.set_cons_succ]
      refine Wild.walk_simple rfl (by rfl) (by rfl) (fun K hK => ?_); go_big_quiet_op; first | (refine hK _ ?_; clear hK K) | (refine ⟨_, fun _ _ => rfl, hK _ ?_⟩; clear hK K)
      refine Wild.walk_nil ?_
      intro w4 hw4 _
      have HB4 : Hid (Below w.heap.size w w4) := Lib.hid (HB3.out.trans (Below.mono hw4 HB3.out.size))
      have HB24 : Hid (Below W2.heap.size W2 w4) := Lib.hid (HB23.out.trans (Below.mono hw4 HB23.out.size))
      clear hw4 hvs
      go_wp2_with fail
      go_ret
      exact ⟨by rw [HV3.out]; rfl, HB4.out⟩
    · cases he4 : (E4 == P4)
      · have HV3 : Hid (R = 3) := Lib.hid (by rw [HVV.out, HVO1.out, he4, Bool.false_and, Bool.and_false]; rfl)
        have he4' : (E4 != P4) = true := by simp [bne, he4]
        go_enter Try.func17, Try.ntmps17
        go_upto_region 2 with (first
          | (go_at_call 43; refine HOP.out.mono ?_; rintro e w1 ⟨rfl, b1⟩; have HB1 := Lib.hid b1; clear b1)
          | ((with_reducible refine at_store 33 _ _ rfl ?_); refine wpList_store_new rfl 33 _ _ rfl T rfl rfl 33 _ HTI.out (by rw [HTS.out]; rfl) HTO.out ?_))
        obtain ⟨W2, HW2, HB2, HT2⟩ := key.out w1 HB1.out
        rw [← HW2.out]
        generalize w1.heap.size = b at *
        have HT2L : Hid (b < W2.heap.size) := Lib.hid (Array.getElem?_eq_some_iff.1 HT2.out).1
        have kw := tree_W HT2.out hIL rfl
        go_upto_region 5 with (go_at_call 44; refine (HLN.out W2).mono ?_; rintro e w3 ⟨rfl, b3⟩; have HB3 := Lib.hid (HB2.out.trans (b3.mono HB2.out.size)); have HB23 := Lib.hid b3; clear b3)
        clear kw
        try simp only [Act.put]
        refine Wild.region_b (fun _ => none) (fun _ => []) rfl (by kernel_rfl) (fun vs hvs => ?_)
        refine Wild.walk_simple rfl (by rfl) (by rfl) (fun K hK => ?_); go_big_quiet_op; first | (refine hK _ ?_; clear hK K) | (refine ⟨_, fun _ _ => rfl, hK _ ?_⟩; clear hK K)
        refine Wild.walk_run (.int .i64 Ls) rfl (by rfl) (fun w' _ => by unfold execOp; go_simp) ?_
        simp only [Act.put, List.setIfInBounds_toArray, List.set_cons_zero, List.set_cons_succ]
        refine Wild.walk_simple rfl (by rfl) (by rfl) (fun K hK => ?_); go_big_quiet_op; first | (refine hK _ ?_; clear hK K) | (refine ⟨_, fun _ _ => rfl, hK _ ?_⟩; clear hK K)
        refine Wild.walk_simple rfl (by rfl) (by rfl) (fun K hK => ?_); go_big_quiet_op; first | (refine hK _ ?_; clear hK K) | (refine ⟨_, fun _ _ => rfl, hK _ ?_⟩; clear hK K)
        refine Wild.walk_simple rfl (by rfl) (by rfl) (fun K hK => ?_); go_big_quiet_op; first | (refine hK _ ?_; clear hK K) | (refine ⟨_, fun _ _ => rfl, hK _ ?_⟩; clear hK K)
        refine Wild.walk_simple rfl (by rfl) (by rfl) (fun K hK => ?_); go_big_quiet_op; first | (refine hK _ ?_; clear hK K) | (refine ⟨_, fun _ _ => rfl, hK _ ?_⟩; clear hK K)
        refine Wild.walk_cell 3 _ _ _ (.int .i64 h) _ rfl (by rfl) rfl rfl (fun w' hw => tree_H (((HB23.out.trans (Below.mono hw.1 HB23.out.size)).block _ HT2L.out).trans HT2.out) HHIL.out rfl) Try.underlying3 rfl ?_
        simp only [Act.put, List.setIfInBounds_toArray, List.set_cons_zero, List.set_cons_succ]
        refine Wild.walk_simple rfl (by rfl) (by rfl) (fun K hK => ?_); go_big_quiet_op; first | (refine hK _ ?_; clear hK K) | (refine ⟨_, fun _ _ => rfl, hK _ ?_⟩; clear hK K)
        refine Wild.walk_simple rfl (by rfl) (by rfl) (fun K hK => ?_); go_big_quiet_op; first | (refine hK _ ?_; clear hK K) | (refine ⟨_, fun _ _ => rfl, hK _ ?_⟩; clear hK K)
        refine Wild.walk_simple rfl (by rfl) (by rfl) (fun K hK => ?_); go_big_quiet_op; first | (refine hK _ ?_; clear hK K) | (refine ⟨_, fun _ _ => rfl, hK _ ?_⟩; clear hK K)
        try simp only [hlb]
        refine Wild.walk_simple rfl (by rfl) (by rfl) (fun K hK => ?_); go_big_quiet_op; first | (refine hK _ ?_; clear hK K) | (refine ⟨_, fun _ _ => rfl, hK _ ?_⟩; clear hK K)
        refine Wild.walk_simple rfl (by rfl) (by rfl) (fun K hK => ?_); go_big_quiet_op; first | (refine hK _ ?_; clear hK K) | (refine ⟨_, fun _ _ => rfl, hK _ ?_⟩; clear hK K)
        refine Wild.walk_simple rfl (by rfl) (by rfl) (fun K hK => ?_); go_big_quiet_op; first | (refine hK _ ?_; clear hK K) | (refine ⟨_, fun _ _ => rfl, hK _ ?_⟩; clear hK K)
        refine Wild.walk_run (.string ⟨S8.toArray⟩) rfl (by rfl) (fun w' hw => ?_) ?_
        · have h : Sl w' (.slice (some ⟨sb, so + 4, none⟩) 4 (sc - 4)) S8 := GS8.out.later (HB3.out.trans (Below.mono hw.1 HB3.out.size))
          have := h.conv
          go_simp
        simp only [Act.put, List.setIfInBounds_toArray, List.set_cons_zero, List.set_cons_succ]
        refine Wild.walk_simple rfl (by rfl) (by rfl) (fun K hK => ?_); go_big_quiet_op; first | (refine hK _ ?_; clear hK K) | (refine ⟨_, fun _ _ => rfl, hK _ ?_⟩; clear hK K)
        refine Wild.walk_simple rfl (by rfl) (by rfl) (fun K hK => ?_); go_big_quiet_op; first | (refine hK _ ?_; clear hK K) | (refine ⟨_, fun _ _ => rfl, hK _ ?_⟩; clear hK K)
        refine Wild.walk_run (.string ⟨P8.toArray⟩) rfl (by rfl) (fun w' hw => ?_) ?_
        · have h : Sl w' (.slice (some ⟨pb, po + 4, none⟩) 4 (pc - 4)) P8 := GP8.out.later (HB3.out.trans (Below.mono hw.1 HB3.out.size))
          have := h.conv
          go_simp
        simp only [Act.put, List.setIfInBounds_toArray, List.set_cons_zero, List.set_cons_succ]
        refine Wild.walk_simple rfl (by rfl) (by rfl) (fun K hK => ?_); go_big_quiet_op; first | (refine hK _ ?_; clear hK K) | (refine ⟨_, fun _ _ => rfl, hK _ ?_⟩; clear hK K)
        refine Wild.walk_simple rfl (by rfl) (by rfl) (fun K hK => ?_); go_big_quiet_op; first | (refine hK _ ?_; clear hK K) | (refine ⟨_, fun _ _ => rfl, hK _ ?_⟩; clear hK K)
        refine Wild.walk_simple rfl (by rfl) (by rfl) (fun K hK => ?_); go_big_quiet_op; first | (refine hK _ ?_; clear hK K) | (refine ⟨_, fun _ _ => rfl, hK _ ?_⟩; clear hK K)
        refine Wild.walk_simple rfl (by rfl) (by rfl) (fun K hK => ?_); go_big_quiet_op; first | (refine hK _ ?_; clear hK K) | (refine ⟨_, fun _ _ => rfl, hK _ ?_⟩; clear hK K)
        refine Wild.walk_simple rfl (by rfl) (by rfl) (fun K hK => ?_); go_big_quiet_op; first | (refine hK _ ?_; clear hK K) | (refine ⟨_, fun _ _ => rfl, hK _ ?_⟩; clear hK K)
        refine Wild.walk_simple rfl (by rfl) (by rfl) (fun K hK => ?_); go_big_quiet_op; first | (refine hK _ ?_; clear hK K) | (refine ⟨_, fun _ _ => rfl, hK _ ?_⟩; clear hK K)
        refine Wild.walk_simple rfl (by rfl) (by rfl) (fun K hK => ?_); go_big_quiet_op; first | (refine hK _ ?_; clear hK K) | (refine ⟨_, fun _ _ => rfl, hK _ ?_⟩; clear hK K)
        refine Wild.walk_simple rfl (by rfl) (by rfl) (fun K hK => ?_); go_big_quiet_op; first | (refine hK _ ?_; clear hK K) | (refine ⟨_, fun _ _ => rfl, hK _ ?_⟩; clear hK K)
        refine Wild.walk_simple rfl (by rfl) (by rfl) (fun K hK => ?_); go_big_quiet_op; first | (refine hK _ ?_; clear hK K) | (refine ⟨_, fun _ _ => rfl, hK _ ?_⟩; clear hK K)
        try simp only [show 8 + n - (4 + n) = 4 by omega]
        refine Wild.walk_run (.string ⟨E4.toArray⟩) rfl (by rfl) (fun w' hw => ?_) ?_
        · have h : Sl w' (.slice (some ⟨sb, so + (4 + n), none⟩) 4 (sc - (4 + n))) E4 := GE4.out.later (HB3.out.trans (Below.mono hw.1 HB3.out.size))
          have := h.conv
          go_simp
        simp only [Act.put, List.setIfInBounds_toArray, List.set_cons_zero, List.set_cons_succ]
        refine Wild.walk_simple rfl (by rfl) (by rfl) (fun K hK => ?_); go_big_quiet_op; first | (refine hK _ ?_; clear hK K) | (refine ⟨_, fun _ _ => rfl, hK _ ?_⟩; clear hK K)
        refine Wild.walk_simple rfl (by rfl) (by rfl) (fun K hK => ?_); go_big_quiet_op; first | (refine hK _ ?_; clear hK K) | (refine ⟨_, fun _ _ => rfl, hK _ ?_⟩; clear hK K)
        refine Wild.walk_run (.string ⟨P4.toArray⟩) rfl (by rfl) (fun w' hw => ?_) ?_
        · have h : Sl w' (.slice (some ⟨pb, po, none⟩) 4 pc) P4 := GP4.out.later (HB3.out.trans (Below.mono hw.1 HB3.out.size))
          have := h.conv
          go_simp
        simp only [Act.put, List.setIfInBounds_toArray, List.set_cons_zero, List.set_cons_succ]
        refine Wild.walk_simple rfl (by rfl) (by rfl) (fun K hK => ?_); go_big_quiet_op; first | (refine hK _ ?_; clear hK K) | (refine ⟨_, fun _ _ => rfl, hK _ ?_⟩; clear hK K)
        refine Wild.walk_simple rfl (by rfl) (by rfl) (fun K hK => ?_); go_big_quiet_op; first | (refine hK _ ?_; clear hK K) | (refine ⟨_, fun _ _ => rfl, hK _ ?_⟩; clear hK K)
        refine Wild.walk_nil ?_
        intro w4 hw4 _
        have HB4 : Hid (Below w.heap.size w w4) := Lib.hid (HB3.out.trans (Below.mono hw4 HB3.out.size))
        have HB24 : Hid (Below W2.heap.size W2 w4) := Lib.hid (HB23.out.trans (Below.mono hw4 HB23.out.size))
        clear hw4 hvs
        go_wp2_with fail
        go_ret
        exact ⟨by rw [HV3.out]; rfl, HB4.out⟩
      · have hs8' : (S8 != P8) = false := by simp [bne, hs8]
        have he4' : (E4 != P4) = false := by simp [bne, he4]
        have HVT : Hid (verOk p s = decide (Qn < P)) := Lib.hid (by rw [HVO1.out, he4, hs8]; simp)
        go_enter Try.func17, Try.ntmps17
        go_upto_region 2 with (first
          | (go_at_call 43; refine HOP.out.mono ?_; rintro e w1 ⟨rfl, b1⟩; have HB1 := Lib.hid b1; clear b1)
          | ((with_reducible refine at_store 33 _ _ rfl ?_); refine wpList_store_new rfl 33 _ _ rfl T rfl rfl 33 _ HTI.out (by rw [HTS.out]; rfl) HTO.out ?_))
        obtain ⟨W2, HW2, HB2, HT2⟩ := key.out w1 HB1.out
        rw [← HW2.out]
        generalize w1.heap.size = b at *
        have HT2L : Hid (b < W2.heap.size) := Lib.hid (Array.getElem?_eq_some_iff.1 HT2.out).1
        have kw := tree_W HT2.out hIL rfl
        go_upto_region 5 with (go_at_call 44; refine (HLN.out W2).mono ?_; rintro e w3 ⟨rfl, b3⟩; have HB3 := Lib.hid (HB2.out.trans (b3.mono HB2.out.size)); have HB23 := Lib.hid b3; clear b3)
        clear kw
        try simp only [Act.put]
        refine Wild.region_b (fun _ => none) (fun _ => []) rfl (by kernel_rfl) (fun vs hvs => ?_)
        refine Wild.walk_simple rfl (by rfl) (by rfl) (fun K hK => ?_); go_big_quiet_op; first | (refine hK _ ?_; clear hK K) | (refine ⟨_, fun _ _ => rfl, hK _ ?_⟩; clear hK K)
        refine Wild.walk_run (.int .i64 Ls) rfl (by rfl) (fun w' _ => by unfold execOp; go_simp) ?_
        simp only [Act.put, List.setIfInBounds_toArray, List.set_cons_zero, List.set_cons_succ]
        refine Wild.walk_simple rfl (by rfl) (by rfl) (fun K hK => ?_); go_big_quiet_op; first | (refine hK _ ?_; clear hK K) | (refine ⟨_, fun _ _ => rfl, hK _ ?_⟩; clear hK K)
        refine Wild.walk_simple rfl (by rfl) (by rfl) (fun K hK => ?_); go_big_quiet_op; first | (refine hK _ ?_; clear hK K) | (refine ⟨_, fun _ _ => rfl, hK _ ?_⟩; clear hK K)
        refine Wild.walk_simple rfl (by rfl) (by rfl) (fun K hK => ?_); go_big_quiet_op; first | (refine hK _ ?_; clear hK K) | (refine ⟨_, fun _ _ => rfl, hK _ ?_⟩; clear hK K)
        refine Wild.walk_simple rfl (by rfl) (by rfl) (fun K hK => ?_); go_big_quiet_op; first | (refine hK _ ?_; clear hK K) | (refine ⟨_, fun _ _ => rfl, hK _ ?_⟩; clear hK K)
        refine Wild.walk_cell 3 _ _ _ (.int .i64 h) _ rfl (by rfl) rfl rfl (fun w' hw => tree_H (((HB23.out.trans (Below.mono hw.1 HB23.out.size)).block _ HT2L.out).trans HT2.out) HHIL.out rfl) Try.underlying3 rfl ?_
        simp only [Act.put, List.setIfInBounds_toArray, List.set_cons_zero, List.set_cons_succ]
        refine Wild.walk_simple rfl (by rfl) (by rfl) (fun K hK => ?_); go_big_quiet_op; first | (refine hK _ ?_; clear hK K) | (refine ⟨_, fun _ _ => rfl, hK _ ?_⟩; clear hK K)
        refine Wild.walk_simple rfl (by rfl) (by rfl) (fun K hK => ?_); go_big_quiet_op; first | (refine hK _ ?_; clear hK K) | (refine ⟨_, fun _ _ => rfl, hK _ ?_⟩; clear hK K)
        refine Wild.walk_simple rfl (by rfl) (by rfl) (fun K hK => ?_); go_big_quiet_op; first | (refine hK _ ?_; clear hK K) | (refine ⟨_, fun _ _ => rfl, hK _ ?_⟩; clear hK K)
        try simp only [hlb]
        refine Wild.walk_simple rfl (by rfl) (by rfl) (fun K hK => ?_); go_big_quiet_op; first | (refine hK _ ?_; clear hK K) | (refine ⟨_, fun _ _ => rfl, hK _ ?_⟩; clear hK K)
        refine Wild.walk_simple rfl (by rfl) (by rfl) (fun K hK => ?_); go_big_quiet_op; first | (refine hK _ ?_; clear hK K) | (refine ⟨_, fun _ _ => rfl, hK _ ?_⟩; clear hK K)
        refine Wild.walk_simple rfl (by rfl) (by rfl) (fun K hK => ?_); go_big_quiet_op; first | (refine hK _ ?_; clear hK K) | (refine ⟨_, fun _ _ => rfl, hK _ ?_⟩; clear hK K)
        refine Wild.walk_run (.string ⟨S8.toArray⟩) rfl (by rfl) (fun w' hw => ?_) ?_
        · have h : Sl w' (.slice (some ⟨sb, so + 4, none⟩) 4 (sc - 4)) S8 := GS8.out.later (HB3.out.trans (Below.mono hw.1 HB3.out.size))
          have := h.conv
          go_simp
        simp only [Act.put, List.setIfInBounds_toArray, List.set_cons_zero, List.set_cons_succ]
        refine Wild.walk_simple rfl (by rfl) (by rfl) (fun K hK => ?_); go_big_quiet_op; first | (refine hK _ ?_; clear hK K) | (refine ⟨_, fun _ _ => rfl, hK _ ?_⟩; clear hK K)
        refine Wild.walk_simple rfl (by rfl) (by rfl) (fun K hK => ?_); go_big_quiet_op; first | (refine hK _ ?_; clear hK K) | (refine ⟨_, fun _ _ => rfl, hK _ ?_⟩; clear hK K)
        refine Wild.walk_run (.string ⟨P8.toArray⟩) rfl (by rfl) (fun w' hw => ?_) ?_
        · have h : Sl w' (.slice (some ⟨pb, po + 4, none⟩) 4 (pc - 4)) P8 := GP8.out.later (HB3.out.trans (Below.mono hw.1 HB3.out.size))
          have := h.conv
          go_simp
        simp only [Act.put, List.setIfInBounds_toArray, List.set_cons_zero, List.set_cons_succ]
        refine Wild.walk_simple rfl (by rfl) (by rfl) (fun K hK => ?_); go_big_quiet_op; first | (refine hK _ ?_; clear hK K) | (refine ⟨_, fun _ _ => rfl, hK _ ?_⟩; clear hK K)
        refine Wild.walk_simple rfl (by rfl) (by rfl) (fun K hK => ?_); go_big_quiet_op; first | (refine hK _ ?_; clear hK K) | (refine ⟨_, fun _ _ => rfl, hK _ ?_⟩; clear hK K)
        refine Wild.walk_simple rfl (by rfl) (by rfl) (fun K hK => ?_); go_big_quiet_op; first | (refine hK _ ?_; clear hK K) | (refine ⟨_, fun _ _ => rfl, hK _ ?_⟩; clear hK K)
        refine Wild.walk_simple rfl (by rfl) (by rfl) (fun K hK => ?_); go_big_quiet_op; first | (refine hK _ ?_; clear hK K) | (refine ⟨_, fun _ _ => rfl, hK _ ?_⟩; clear hK K)
        refine Wild.walk_simple rfl (by rfl) (by rfl) (fun K hK => ?_); go_big_quiet_op; first | (refine hK _ ?_; clear hK K) | (refine ⟨_, fun _ _ => rfl, hK _ ?_⟩; clear hK K)
        refine Wild.walk_simple rfl (by rfl) (by rfl) (fun K hK => ?_); go_big_quiet_op; first | (refine hK _ ?_; clear hK K) | (refine ⟨_, fun _ _ => rfl, hK _ ?_⟩; clear hK K)
        refine Wild.walk_simple rfl (by rfl) (by rfl) (fun K hK => ?_); go_big_quiet_op; first | (refine hK _ ?_; clear hK K) | (refine ⟨_, fun _ _ => rfl, hK _ ?_⟩; clear hK K)
        refine Wild.walk_simple rfl (by rfl) (by rfl) (fun K hK => ?_); go_big_quiet_op; first | (refine hK _ ?_; clear hK K) | (refine ⟨_, fun _ _ => rfl, hK _ ?_⟩; clear hK K)
        refine Wild.walk_simple rfl (by rfl) (by rfl) (fun K hK => ?_); go_big_quiet_op; first | (refine hK _ ?_; clear hK K) | (refine ⟨_, fun _ _ => rfl, hK _ ?_⟩; clear hK K)
        try simp only [show 8 + n - (4 + n) = 4 by omega]
        refine Wild.walk_run (.string ⟨E4.toArray⟩) rfl (by rfl) (fun w' hw => ?_) ?_
        · have h : Sl w' (.slice (some ⟨sb, so + (4 + n), none⟩) 4 (sc - (4 + n))) E4 := GE4.out.later (HB3.out.trans (Below.mono hw.1 HB3.out.size))
          have := h.conv
          go_simp
        simp only [Act.put, List.setIfInBounds_toArray, List.set_cons_zero, List.set_cons_succ]
        refine Wild.walk_simple rfl (by rfl) (by rfl) (fun K hK => ?_); go_big_quiet_op; first | (refine hK _ ?_; clear hK K) | (refine ⟨_, fun _ _ => rfl, hK _ ?_⟩; clear hK K)
        refine Wild.walk_simple rfl (by rfl) (by rfl) (fun K hK => ?_); go_big_quiet_op; first | (refine hK _ ?_; clear hK K) | (refine ⟨_, fun _ _ => rfl, hK _ ?_⟩; clear hK K)
        refine Wild.walk_run (.string ⟨P4.toArray⟩) rfl (by rfl) (fun w' hw => ?_) ?_
        · have h : Sl w' (.slice (some ⟨pb, po, none⟩) 4 pc) P4 := GP4.out.later (HB3.out.trans (Below.mono hw.1 HB3.out.size))
          have := h.conv
          go_simp
        simp only [Act.put, List.setIfInBounds_toArray, List.set_cons_zero, List.set_cons_succ]
        refine Wild.walk_simple rfl (by rfl) (by rfl) (fun K hK => ?_); go_big_quiet_op; first | (refine hK _ ?_; clear hK K) | (refine ⟨_, fun _ _ => rfl, hK _ ?_⟩; clear hK K)
        refine Wild.walk_simple rfl (by rfl) (by rfl) (fun K hK => ?_); go_big_quiet_op; first | (refine hK _ ?_; clear hK K) | (refine ⟨_, fun _ _ => rfl, hK _ ?_⟩; clear hK K)
        refine Wild.walk_nil ?_
        intro w4 hw4 _
        have HB4 : Hid (Below w.heap.size w w4) := Lib.hid (HB3.out.trans (Below.mono hw4 HB3.out.size))
        have HB24 : Hid (Below W2.heap.size W2 w4) := Lib.hid (HB23.out.trans (Below.mono hw4 HB23.out.size))
        clear hw4 hvs
        have HSV4 := Lib.hid (HSW.out.later HB4.out)
        go_upto_region 8 with (go_at_call 15; refine (HLF.out w4 HSV4.out).mono ?_; rintro e w5 ⟨rfl, b5⟩; have HB5 := Lib.hid (HB4.out.trans (b5.mono HB4.out.size)); have HB25 := Lib.hid (HB24.out.trans (b5.mono HB24.out.size)); clear b5)
        have HT5 : Hid (w5.heap[b]? = some (.cells (TreeV I zero32 k h).toArray 33 (0, 0))) := Lib.hid ((HB25.out.block _ HT2L.out).trans HT2.out)
        have kh := tree_H HT5.out hIL rfl
        by_cases hq : P ≤ Qn
        · have HV3 : Hid (R = 3) := Lib.hid (by rw [HVV.out, HVT.out, decide_eq_false (by omega)]; rfl)
          have g1 : (P : Int) ≤ (Qn : Int) := by omega
          go_wp2_with (go_at_call 32; refine (HLV.out _).mono ?_; rintro e wl ⟨rfl, hwl⟩; rw [hwl]; clear hwl)
          go_ret
          exact ⟨by rw [HV3.out]; rfl, HB5.out⟩
        have g1 : ¬ (P : Int) ≤ (Qn : Int) := by omega
        have hQP : Qn < P := by omega
        have HVT2 : Hid (R = if verR p text s = p.drop 24 then 0 else 16) := Lib.hid (by rw [HVV.out, HVT.out, decide_eq_true hQP]; rfl)
        obtain ⟨X, HXx⟩ : ∃ X, Hid (X = (s.drop 4).take n) := ⟨_, Lib.hid rfl⟩
        have HLS4 : Hid (n + 8 + 32 * h = s.length) := Lib.hid (by rw [← HLS.out]; exact HLEN.out.symm)
        have HXL : Hid (X.length = n) := Lib.hid (by rw [HXx.out, List.length_take, List.length_drop]; have := HLS4.out; omega)
        have GX : Hid (Sl w (.slice (some ⟨sb, so + 4, none⟩) n (sc - 4)) X) := Lib.hid (by rw [HXx.out]; exact Sl.part HCS.out 4 n _ (by have := HLS4.out; omega) (by omega) (by omega))
        obtain ⟨Bs, HBs⟩ : ∃ X, Hid (X = s.drop (n + 8)) := ⟨_, Lib.hid rfl⟩
        have HBsL : Hid (Bs.length = 32 * h) := Lib.hid (by rw [HBs.out, List.length_drop]; have := HLS4.out; omega)
        obtain ⟨C, HC⟩ : ∃ C, Hid (C = candV I Qn text X) := ⟨_, Lib.hid rfl⟩
        have HCL : Hid (C.length = 32) := Lib.hid (by rw [HC.out]; exact candV_length _ _ _ _)
        obtain ⟨er, Her⟩ : ∃ er, Hid (er = candErr X) := ⟨_, Lib.hid rfl⟩
        have HCA := Lib.hid (fun w' h1 h2 => Candidate_ref I Qn (.slice ta text.length tc) (.slice (some ⟨sb, so + 4, none⟩) n (sc - 4)) text X w' hIL HQ32.out h1 h2 htl (by rw [HXL.out]; omega))
        simp only [← HC.out, ← Her.out] at HCA
        obtain ⟨D, HD⟩ : ∃ D, Hid (D = hashN I (P + Qn) 33410 [C]) := ⟨_, Lib.hid rfl⟩
        have HDL : Hid (D.length = 32) := Lib.hid (by rw [HD.out]; exact sha_length _)
        have HLW := Lib.hid (fun w' => low_ref I (P + Qn) C w' hIL (by omega) HCL.out)
        simp only [← HD.out] at HLW
        obtain ⟨F, HF⟩ : ∃ F, Hid (F = climb I h (P + Qn) D Bs) := ⟨_, Lib.hid rfl⟩
        have HFL : Hid (F.length = 32) := Lib.hid (by rw [HF.out]; exact climb_length _ _ _ _ _ HDL.out)
        have HVF : Hid (verR p text s = F) := Lib.hid (by rw [HVR.out, HF.out, HD.out, HC.out, HXx.out, HBs.out, HPo.out])
        have HHA := Lib.hid (fun r x y w' h1 h2 h3 => high_ref I r x y w' hIL h1 h2 h3)
        have I16L : Hid ((Try.prog.info? 22).map (·.size) = some (B8 I).length) := Lib.hid (by rw [info_16]; simp [B8_length, hIL])
        have HQM : (Qn : Int) % 4294967296 = Qn := by have := HQ32.out; omega
        clear hq
        have hdq : decide (P ≤ Qn) = false := decide_eq_false (by omega)
        go_upto_region 10 with (go_at_call 32; refine (HLV.out _).mono ?_; rintro e wl ⟨rfl, hwl⟩; rw [hwl]; clear hwl)
        try simp only [Act.put, hdq]
        clear kh hdq g1
        have HR5 := Lib.hid (tree_ranges HT5.out HHIL.out).1
        have HTX5 := Lib.hid (HTW.out.later HB5.out)
        have HSX5 := Lib.hid (GX.out.later HB5.out)
        have HT5L : Hid (b < w5.heap.size) := Lib.hid (Array.getElem?_eq_some_iff.1 HT5.out).1
        refine Wild.region_v (fun j => match j with | 9 => some (.tuple #[.agg (B8 C).toArray, .int .i64 er]) | _ => none) 23 (Array.replicate 32 (.int .u8 0)) (B8 C).toArray 13 14 rfl rfl (by decide) (by decide) (by kernel_rfl) (by kernel_rfl) (fun vs hvs => ?_)
        have h9 : vs 9 = .tuple #[.agg (B8 C).toArray, .int .i64 er] := hvs 9 _ rfl
        refine Wild.walk_simple rfl (by rfl) (by rfl) (fun K hK => ?_); go_big_quiet_op; first | (refine hK _ ?_; clear hK K) | (refine ⟨_, fun _ _ => rfl, hK _ ?_⟩; clear hK K)
        refine Wild.walk_load 22 _ _ _ (B8 I) _ rfl (by rfl) rfl rfl (fun w' hw => rangeAt_blw HR5.out hw.1) Try.underlying22 rfl I16L.out ?_
        simp only [Act.put, List.setIfInBounds_toArray, List.set_cons_zero, List.set_cons_succ]
        refine Wild.walk_simple rfl (by rfl) (by rfl) (fun K hK => ?_); go_big_quiet_op; first | (refine hK _ ?_; clear hK K) | (refine ⟨_, fun _ _ => rfl, hK _ ?_⟩; clear hK K)
        refine Wild.walk_simple rfl (by rfl) (by rfl) (fun K hK => ?_); go_big_quiet_op; first | (refine hK _ ?_; clear hK K) | (refine ⟨_, fun _ _ => rfl, hK _ ?_⟩; clear hK K)
        try simp only [HQM]
        refine Wild.walk_simple rfl (by rfl) (by rfl) (fun K hK => ?_); go_big_quiet_op; first | (refine hK _ ?_; clear hK K) | (refine ⟨_, fun _ _ => rfl, hK _ ?_⟩; clear hK K)
        refine Wild.walk_simple rfl (by rfl) (by rfl) (fun K hK => ?_); go_big_quiet_op; first | (refine hK _ ?_; clear hK K) | (refine ⟨_, fun _ _ => rfl, hK _ ?_⟩; clear hK K)
        refine Wild.walk_simple rfl (by rfl) (by rfl) (fun K hK => ?_); go_big_quiet_op; first | (refine hK _ ?_; clear hK K) | (refine ⟨_, fun _ _ => rfl, hK _ ?_⟩; clear hK K)
        refine Wild.walk_simple rfl (by rfl) (by rfl) (fun K hK => ?_); go_big_quiet_op; first | (refine hK _ ?_; clear hK K) | (refine ⟨_, fun _ _ => rfl, hK _ ?_⟩; clear hK K)
        refine Wild.walk_simple rfl (by rfl) (by rfl) (fun K hK => ?_); go_big_quiet_op; first | (refine hK _ ?_; clear hK K) | (refine ⟨_, fun _ _ => rfl, hK _ ?_⟩; clear hK K)
        try simp only [Nat.add_sub_cancel_left]
        refine Wild.walk_wild _ rfl (by rfl) (fun w' hw K hK => ?_) ?_
        · go_simp
          go_at_call 45
          refine (HCA.out w' (HTX5.out.later hw.1) (HSX5.out.later hw.1)).mono ?_
          rintro e w'' ⟨rfl, hb⟩
          exact hK.out _ _ (hw.1.trans (hb.mono hw.1.size)) (Wild.G1.of_below hb) rfl trivial
        rw [h9]
        simp only [Act.put, List.setIfInBounds_toArray, List.set_cons_zero, List.set_cons_succ]
        refine Wild.walk_simple rfl (by rfl) (by rfl) (fun K hK => ?_); go_big_quiet_op; first | (refine hK _ ?_; clear hK K) | (refine ⟨_, fun _ _ => rfl, hK _ ?_⟩; clear hK K)
        refine Wild.walk_simple rfl (by rfl) (by rfl) (fun K hK => ?_); go_big_quiet_op; first | (refine hK _ ?_; clear hK K) | (refine ⟨_, fun _ _ => rfl, hK _ ?_⟩; clear hK K)
        refine Wild.walk_simple rfl (by rfl) (by rfl) (fun K hK => ?_); go_big_quiet_op; first | (refine hK _ ?_; clear hK K) | (refine ⟨_, fun _ _ => rfl, hK _ ?_⟩; clear hK K)
        refine Wild.walk_wild _ rfl (by rfl) (fun w' hw K hK => ?_) ?_
        · go_simp
          exact hK.out (.pointer (some ⟨w'.heap.size, 0, none⟩)) _ (hw.1.alloc hw.1.size _) (Wild.G1.of_below ((Below.refl _ _).alloc (Nat.le_refl _) _)) trivial ⟨w'.heap.size, rfl, hw.1.size, .inl (heap_alloc_new _ _)⟩
        simp only [Act.put, List.setIfInBounds_toArray, List.set_cons_zero, List.set_cons_succ]
        refine Wild.walk_wild _ rfl (by rfl) (fun w' hw K hK => ?_) ?_
        · have hf := Wild.spv_var (P := Try.prog) rfl hw rfl
          refine Wild.step_store (B := w5.heap.size) (v := vs 13) 23 _ _ rfl rfl rfl (arr32 HCL.out).1 (by simp [B8_length, HCL.out]) (B8_oneA C) hf (fun b h1 h2 h3 h4 => ?_)
          exact hK.out _ _ (below_row hw.1 h2 _) h3 trivial ⟨b, h1, h2, h4⟩
        simp only [Act.put]
        refine Wild.walk_simple rfl (by rfl) (by rfl) (fun K hK => ?_); go_big_quiet_op; first | (refine hK _ ?_; clear hK K) | (refine ⟨_, fun _ _ => rfl, hK _ ?_⟩; clear hK K)
        refine Wild.walk_nil ?_
        intro w6 hw6 hf6
        obtain ⟨cb, h1, h2, h3⟩ := hf6
        have h1' : vs (0 + 1 + 1 + 1 + 1 + 1 + 1 + 1 + 1 + 1 + 1 + 1 + 1 + 1) = .pointer (some ⟨cb, 0, none⟩) := h1
        rw [h1']
        have HC6 := Lib.hid h3
        have HB6 : Hid (Below w.heap.size w w6) := Lib.hid (HB5.out.trans (Below.mono hw6 HB5.out.size))
        have HT6 : Hid (w6.heap[b]? = some (.cells (TreeV I zero32 k h).toArray 33 (0, 0))) := Lib.hid ((Below.block hw6 _ HT5L.out).trans HT5.out)
        have HR6 := Lib.hid (tree_ranges HT6.out HHIL.out).1
        clear h1 h1' h2 h3 hw6 hvs h9 HTX5 HSX5 HR5
        have kh := tree_H HT6.out HHIL.out rfl
        have hpq : (P : Int) + (Qn : Int) = ((P + Qn : Nat) : Int) := rfl
        have HPQ := Lib.hid hpq
        clear hpq
        go_upto_region 13 with (first
          | (go_at_call 32; refine (HLV.out _).mono ?_; rintro e wl ⟨rfl, hwl⟩; rw [hwl]; clear hwl)
          | (refine wpList_load_mid rfl 22 _ rfl b 0 (by rfl) (B8 I) _ HR6.out Try.underlying22 rfl I16L.out ?_)
          | ((with_reducible refine at_load 23 _ rfl ?_); refine wpList_load_row rfl 23 _ rfl _ rfl _ (B8 C).toArray (0, 0) _ HC6.out Try.underlying23 rfl (arr32 HCL.out).1 ?_)
          | (go_at_call 46; rw [HPQ.out]; refine (HLW.out w6).mono ?_; rintro e w7 ⟨rfl, b7⟩; have HB7 := Lib.hid (HB6.out.trans (b7.mono HB6.out.size)); have HT7 := Lib.hid ((b7.block _ (Array.getElem?_eq_some_iff.1 HT6.out).1).trans HT6.out); clear b7)
          | ((with_reducible refine at_store 23 _ _ rfl ?_); refine wpList_store_new rfl 23 _ _ rfl (B8 D).toArray rfl rfl 23 _ (arr32 HDL.out).1 (arr32 HDL.out).2 (B8_oneA D) ?_))
        obtain ⟨W8, HW8, HB8, HX8, HT8⟩ : ∃ W, Hid (W = w7.alloc (.cells (B8 D).toArray 23)) ∧ Hid (Below w.heap.size w W) ∧ Hid (W.heap[w7.heap.size]? = some (.cells (B8 D).toArray 23 (0, 0))) ∧ Hid (W.heap[b]? = some (.cells (TreeV I zero32 k h).toArray 33 (0, 0))) := ⟨_, Lib.hid rfl, Lib.hid (HB7.out.alloc HB7.out.size _), Lib.hid (heap_alloc_new _ _), Lib.hid ((heap_alloc_old _ _ (Array.getElem?_eq_some_iff.1 HT7.out).1).trans HT7.out)⟩
        have HXB : Hid (b < w7.heap.size ∧ w.heap.size ≤ w7.heap.size) := Lib.hid ⟨(Array.getElem?_eq_some_iff.1 HT7.out).1, HB7.out.size⟩
        have HW8S : Hid (W8.heap.size = w7.heap.size + 1) := Lib.hid (by rw [HW8.out]; simp)
        rw [← HW8.out]
        generalize w7.heap.size = xb at *
        clear kh
        try simp only [Act.put]
        go_upto_region 14 with (fail)
        go_loopw [15, 17] (fun rv av wr => ∃ (j : Nat) (x' : List UInt8), j ≤ h ∧ rv = .int .i64 ((P + Qn) / 2 ^ j : Nat) ∧ av = .int .i64 (8 + n + 32 * j : Nat) ∧ Hid (x'.length = 32) ∧ Hid (wr.heap[xb]? = some (.cells (B8 x').toArray 23 (0, 0))) ∧ Hid (climb I (h - j) ((P + Qn) / 2 ^ j) x' (Bs.drop (32 * j)) = F) ∧ Hid (Below xb W8 wr)) (fun rv _ _ => (intOf rv).toNat)
        case atStart => exact ⟨0, D, by omega, by simp, by simp, HDL, HX8, Lib.hid (by simpa using HF.out.symm), Lib.hid (Below.refl _ _)⟩
        case round =>
          obtain ⟨j, x, hj, rfl, rfl, HXl, HXr, HFj, HBj⟩ := hrel
          obtain ⟨r, Hr⟩ : ∃ r, Hid (r = (P + Qn) / 2 ^ j) := ⟨_, Lib.hid rfl⟩
          have Hr2 : Hid (r / 2 = (P + Qn) / 2 ^ (j + 1)) := Lib.hid (by rw [Hr.out, div_two])
          rw [← Hr.out] at HFj ⊢
          have hrle : r ≤ P + Qn := by rw [Hr.out]; exact Nat.div_le_self _ _
          obtain ⟨a, Ha⟩ : ∃ a, Hid (a = 8 + n + 32 * j) := ⟨_, Lib.hid rfl⟩
          rw [← Ha.out]
          have HB0j : Hid (Below w.heap.size w wr) := Lib.hid (HB8.out.trans (HBj.out.mono HXB.out.2))
          by_cases hlt : j < h
          · have hge : 2 ≤ r := by
              rw [Hr.out, HPo.out, Nat.le_div_iff_mul_le (Nat.pow_pos (by decide))]
              have h8 : 2 * 2 ^ j ≤ 2 ^ h := by rw [Nat.mul_comm, ← Nat.pow_succ]; exact Nat.pow_le_pow_right (by decide) (by omega)
              omega
            have hgi : (1 : Int) < r := by omega
            obtain ⟨Y, HY⟩ : ∃ Y, Hid (Y = (Bs.drop (32 * j)).take 32) := ⟨_, Lib.hid rfl⟩
            have HYL : Hid (Y.length = 32) := Lib.hid (by rw [HY.out, List.length_take, List.length_drop, HBsL.out]; omega)
            have HYB : Hid (∀ i, i < 32 → Y.getD i 0 = s.getD (a + i) 0) := Lib.hid (fun i hi => by
              rw [HY.out, HBs.out, Ha.out]
              simp only [List.getD_eq_getElem?_getD, List.getElem?_take, List.getElem?_drop]
              rw [if_pos hi, show n + 8 + (32 * j + i) = 8 + n + 32 * j + i by omega])
            have haL : a + 32 ≤ Ls := by rw [Ha.out, HLEN.out]; omega
            have hLs6 : (Ls : Int) ≤ 1000000 := by rw [HLS.out]; omega
            have ha6 : (a : Int) ≤ 1000000 := by omega
            have haS : a + 32 ≤ s.length := by rw [← HLS.out]; exact haL
            have HAS := Lib.hid haS
            obtain ⟨d, hd⟩ : ∃ d, h - j = d + 1 := ⟨h - j - 1, by omega⟩
            have HFD : Hid (climb I d (r / 2) (hashN I (r / 2) 33667 (if r % 2 = 0 then [x, Y] else [Y, x])) (Bs.drop (32 * (j + 1))) = F) := Lib.hid (by
              rw [← HFj.out, hd, climb, HY.out, List.drop_drop, show 32 * j + 32 = 32 * (j + 1) by omega])
            have HDD : Hid (h - (j + 1) = d) := Lib.hid (by omega)
            have HJ1 : Hid (j + 1 ≤ h) := Lib.hid hlt
            obtain ⟨Z, HZ⟩ : ∃ Z, Hid (Z = (B8 zero32).toArray) := ⟨_, Lib.hid rfl⟩
            have HZB : Hid (∀ w, (Instr.build 23 #[]).run Try.prog w = .ok (.agg Z) w) := Lib.hid (by rw [HZ.out]; exact fun w => by kernel_rfl)
            have HZI : Hid ((Try.prog.info? 23).map (·.size) = some Z.size) := Lib.hid (by rw [HZ.out, info_32]; rfl)
            have HZO : Hid (Z.all (·.oneCell') = true) := Lib.hid (by rw [HZ.out]; exact B8_oneA _)
            have HZS : Hid (Z.size = 32) := Lib.hid (by rw [HZ.out]; rfl)
            obtain ⟨yb, Hyb⟩ : ∃ b, Hid (b = wr.heap.size) := ⟨_, Lib.hid rfl⟩
            obtain ⟨V, HV, HVB, HVA⟩ : ∃ V, Hid (V = wr.alloc (.cells Z 23)) ∧ Hid (Below wr.heap.size wr V) ∧ Hid (Arr8 V yb 23 (Y.take 0 ++ List.replicate (32 - 0) 0)) :=
              ⟨_, Lib.hid rfl, Lib.hid ((Below.refl _ _).alloc (Nat.le_refl _) _), Lib.hid (by unfold Arr8; rw [HZ.out, Hyb.out]; exact heap_alloc_new _ _)⟩
            have HYX : Hid (xb < yb ∧ w.heap.size ≤ yb ∧ b < xb) := Lib.hid ⟨by rw [Hyb.out]; exact (Array.getElem?_eq_some_iff.1 HXr.out).1, by rw [Hyb.out]; exact HB0j.out.size, HXB.out.1⟩
            have HVF : Hid (∀ wy, Below yb V wy → Hid (Below wr.heap.size wr wy) ∧ Hid (Below w.heap.size w wy) ∧ Hid (Below xb W8 wy) ∧ Hid (wy.heap[xb]? = some (.cells (B8 x).toArray 23 (0, 0))) ∧ Hid (wy.heap[b]? = some (.cells (TreeV I zero32 k h).toArray 33 (0, 0)))) := Lib.hid (fun wy hb => by
              have h1 : Below wr.heap.size wr wy := HVB.out.trans (by rw [← Hyb.out]; exact hb)
              have h2 : Below xb W8 wy := HBj.out.trans (h1.mono (by rw [← Hyb.out]; exact Nat.le_of_lt HYX.out.1))
              exact ⟨Lib.hid h1, Lib.hid (HB0j.out.trans (h1.mono HB0j.out.size)), Lib.hid h2, Lib.hid ((h1.block _ (Array.getElem?_eq_some_iff.1 HXr.out).1).trans HXr.out), Lib.hid ((h2.block _ HYX.out.2.2).trans HT8.out)⟩)
            clear haS hd hj
            go_upto_region 17 with (first
              | refine wpList_build0 rfl 23 rfl (.agg Z) HZB.out ?_
              | refine wpList_store_new rfl 23 _ _ rfl Z rfl rfl 23 _ HZI.out (by rw [HZS.out]; rfl) HZO.out ?_)
            rw [← HV.out, ← Hyb.out]
            try simp only [Act.put]
            go_wp2_with fail
            go_loopw [19] (fun i wy => ∃ m : Nat, m ≤ 32 ∧ i = .int .i64 m ∧ Hid (Arr8 wy yb 23 (Y.take m ++ List.replicate (32 - m) 0)) ∧ Hid (Below yb V wy)) (fun i _ => 33 - (intOf i).toNat)
            case atStart => exact ⟨0, by omega, rfl, HVA, Lib.hid (Below.refl _ _)⟩
            case round =>
              obtain ⟨m, hm, rfl, HA, HBy⟩ := hrel
              obtain ⟨HBr, HBw, HBx, HXy, HTy⟩ := HVF.out _ HBy.out
              by_cases hm2 : m < 32
              · have hm2' : (m : Int) < 32 := by omega
                have ham : (a : Int) + m < Ls := by omega
                have hsc : wr.cell? ⟨sb, so + (a + m), none⟩ = some (.int .u8 (bn (Y.getD m 0))) := by
                  have h1 : a + m < s.length := by have := HAS.out; omega
                  rw [HBw.out.cell (World.block_lt_of_cell? _ _ (HCS.out _ h1)), HCS.out _ h1, HYB.out m hm2]
                have hcell := HA.out.cell (i := m) (by have := HYL.out; simp; omega)
                have hfz := HA.out.frozen m
                generalize (Y.take m ++ List.replicate (32 - m) 0).getD m 0 = old at hcell
                obtain ⟨xj, Hxj⟩ : ∃ xj, Hid (xj = Y.getD m 0) := ⟨_, Lib.hid rfl⟩
                rw [← Hxj.out] at hsc
                have HSF : Hid ((Y.take m ++ List.replicate (32 - m) 0).set m (Y.getD m 0) = Y.take (m + 1) ++ List.replicate (32 - (m + 1)) 0) := Lib.hid (by
                  rw [set_fill8 (Y.take m) 32 m (Y.getD m 0) (by rw [List.length_take, HYL.out]; omega) (by omega), take_snoc8 Y m (by rw [HYL.out]; omega)])
                rw [← Hxj.out] at HSF
                go_wp2_with fail
                exact ⟨⟨m + 1, by omega, by go_num, Lib.hid (by rw [← HSF.out]; exact HA.out.set m xj), Lib.hid (HBy.out.setCell (Nat.le_refl _) _)⟩, by simp [intOf]; omega⟩
              · obtain rfl : m = 32 := by omega
                rw [show ((32 : Nat) : Int) = 32 from rfl]
                have HYy : Hid (wr.heap[yb]? = some (.cells (B8 Y).toArray 23 (0, 0))) := Lib.hid (by
                  have h := HA.out
                  rw [List.take_of_length_le (by rw [HYL.out]; omega)] at h
                  have h' : Arr8 wr yb 23 Y := by simpa using h
                  exact h')
                have HRy := Lib.hid (tree_ranges HTy.out HHIL.out).1
                have HEND : Hid (∀ (R' : List UInt8) (w9 : World), Below wr.heap.size wr w9 → Hid (w9.heap[xb]? = some (.cells (B8 x).toArray 23 (0, 0))) ∧ Hid (Below xb W8 (w9.setRow xb (B8 R').toArray))) := Lib.hid (fun R' w9 hb => ⟨Lib.hid ((hb.block _ (Array.getElem?_eq_some_iff.1 HXy.out).1).trans HXy.out), Lib.hid (below_row (HBx.out.trans (hb.mono (Nat.le_of_lt (Array.getElem?_eq_some_iff.1 HXy.out).1))) (Nat.le_refl _) _)⟩)
                have HHr : Hid (r / 2 < 4294967296) := Lib.hid (by omega)
                by_cases hpar : r % 2 = 0
                · obtain ⟨N, HN⟩ : ∃ N, Hid (N = hashN I (r / 2) 33667 [x, Y]) := ⟨_, Lib.hid rfl⟩
                  have HNL : Hid (N.length = 32) := Lib.hid (by rw [HN.out]; exact sha_length _)
                  have HF2 : Hid (climb I d (r / 2) N (Bs.drop (32 * (j + 1))) = F) := Lib.hid (by rw [← HFD.out, if_pos hpar, HN.out])
                  have HH1 := Lib.hid (fun w' => HHA.out (r / 2) x Y w' HHr.out HXl.out HYL.out)
                  simp only [← HN.out] at HH1
                  have hpi : (r : Int) % 2 = 0 := by omega
                  clear hpar hm2 hm
                  go_wp2_with (first
                    | (refine wpList_load_mid rfl 22 _ rfl b 0 (by rfl) (B8 I) _ HRy.out Try.underlying22 rfl I16L.out ?_)
                    | ((with_reducible refine at_load 23 _ rfl ?_); first | refine wpList_load_row rfl 23 _ rfl xb rfl _ (B8 x).toArray (0, 0) _ HXy.out Try.underlying23 rfl (arr32 HXl.out).1 ?_ | refine wpList_load_row rfl 23 _ rfl yb rfl _ (B8 Y).toArray (0, 0) _ HYy.out Try.underlying23 rfl (arr32 HYL.out).1 ?_)
                    | (go_at_call 47; refine (HH1.out wr).mono ?_; rintro e w9 ⟨rfl, b9⟩; obtain ⟨HX9, HB9⟩ := HEND.out N w9 b9; have HN9 := Lib.hid (setRow_heap w9 xb _ (B8 N).toArray _ _ HX9.out); clear b9)
                    | ((with_reducible refine at_store 23 _ _ rfl ?_); refine wpList_store_row rfl 23 _ _ rfl _ (B8 N).toArray rfl rfl 23 _ HX9.out (arr32 HNL.out).1 (by simp [B8_length, HNL.out, HXl.out]) (B8_oneA N) ?_; generalize w9.setRow xb (B8 N).toArray = wA at *))
                  go_roundw
                  case rel => exact ⟨j + 1, N, HJ1.out, by rw [← Hr2.out]; go_num, by rw [show 8 + n + 32 * (j + 1) = a + 32 by rw [Ha.out]; omega]; go_num, HNL, HN9, Lib.hid (by rw [HDD.out, ← Hr2.out]; exact HF2.out), HB9⟩
                  case measure => simp [intOf]; omega
                · obtain ⟨N, HN⟩ : ∃ N, Hid (N = hashN I (r / 2) 33667 [Y, x]) := ⟨_, Lib.hid rfl⟩
                  have HNL : Hid (N.length = 32) := Lib.hid (by rw [HN.out]; exact sha_length _)
                  have HF2 : Hid (climb I d (r / 2) N (Bs.drop (32 * (j + 1))) = F) := Lib.hid (by rw [← HFD.out, if_neg hpar, HN.out])
                  have HH1 := Lib.hid (fun w' => HHA.out (r / 2) Y x w' HHr.out HYL.out HXl.out)
                  simp only [← HN.out] at HH1
                  have hpi : (r : Int) % 2 = 1 := by omega
                  clear hpar hm2 hm
                  go_wp2_with (first
                    | (refine wpList_load_mid rfl 22 _ rfl b 0 (by rfl) (B8 I) _ HRy.out Try.underlying22 rfl I16L.out ?_)
                    | ((with_reducible refine at_load 23 _ rfl ?_); first | refine wpList_load_row rfl 23 _ rfl xb rfl _ (B8 x).toArray (0, 0) _ HXy.out Try.underlying23 rfl (arr32 HXl.out).1 ?_ | refine wpList_load_row rfl 23 _ rfl yb rfl _ (B8 Y).toArray (0, 0) _ HYy.out Try.underlying23 rfl (arr32 HYL.out).1 ?_)
                    | (go_at_call 47; refine (HH1.out wr).mono ?_; rintro e w9 ⟨rfl, b9⟩; obtain ⟨HX9, HB9⟩ := HEND.out N w9 b9; have HN9 := Lib.hid (setRow_heap w9 xb _ (B8 N).toArray _ _ HX9.out); clear b9)
                    | ((with_reducible refine at_store 23 _ _ rfl ?_); refine wpList_store_row rfl 23 _ _ rfl _ (B8 N).toArray rfl rfl 23 _ HX9.out (arr32 HNL.out).1 (by simp [B8_length, HNL.out, HXl.out]) (B8_oneA N) ?_; generalize w9.setRow xb (B8 N).toArray = wA at *))
                  go_roundw
                  case rel => exact ⟨j + 1, N, HJ1.out, by rw [← Hr2.out]; go_num, by rw [show 8 + n + 32 * (j + 1) = a + 32 by rw [Ha.out]; omega]; go_num, HNL, HN9, Lib.hid (by rw [HDD.out, ← Hr2.out]; exact HF2.out), HB9⟩
                  case measure => simp [intOf]; omega
          · obtain rfl : j = h := by omega
            have hr1 : r = 1 := by
              rw [Hr.out, ← HPo.out]
              exact div_one_ofR P Qn hQP
            subst hr1
            rw [Nat.sub_self, climb] at HFj
            have HFr : Hid (wr.heap[xb]? = some (.cells (B8 F).toArray 23 (0, 0))) := Lib.hid (by rw [← HFj.out]; exact HXr.out)
            have GP9 := Lib.hid (GPr.out.later HB0j.out)
            have HRV : Hid (R = if F = Pr then 0 else 16) := Lib.hid (by rw [HVT2.out, HVF.out, HPr.out])
            have HS9 : Hid (Sl wr (.slice (some ⟨xb, 0, none⟩) 32 32) F) := Lib.hid (Sl.ofBlock HFr.out HFL.out.symm (Nat.le_refl _) (by simp [maxLen]) fun i hi => by rw [Nat.zero_add, List.getElem?_toArray])
            cases hfp : (F == Pr)
            · have HV3 : Hid (R = 16) := Lib.hid (by rw [HRV.out, if_neg (by simpa using hfp)])
              have hfb : (F != Pr) = true := by simp [bne, hfp]
              go_upto_region 25 with (fail)
              try simp only [Act.put]
              refine Wild.region_b (fun _ => none) (fun _ => []) rfl (by kernel_rfl) (fun vs hvs => ?_)
              refine Wild.walk_simple rfl (by rfl) (by rfl) (fun K hK => ?_); go_big_quiet_op; first | (refine hK _ ?_; clear hK K) | (refine ⟨_, fun _ _ => rfl, hK _ ?_⟩; clear hK K)
              refine Wild.walk_run (.string ⟨F.toArray⟩) rfl (by rfl) (fun w' hw => ?_) ?_
              · have h : Sl w' (.slice (some ⟨xb, 0, none⟩) 32 32) F := HS9.out.later hw.1
                have := h.conv
                go_simp
              simp only [Act.put, List.setIfInBounds_toArray, List.set_cons_zero, List.set_cons_succ]
              refine Wild.walk_simple rfl (by rfl) (by rfl) (fun K hK => ?_); go_big_quiet_op; first | (refine hK _ ?_; clear hK K) | (refine ⟨_, fun _ _ => rfl, hK _ ?_⟩; clear hK K)
              refine Wild.walk_simple rfl (by rfl) (by rfl) (fun K hK => ?_); go_big_quiet_op; first | (refine hK _ ?_; clear hK K) | (refine ⟨_, fun _ _ => rfl, hK _ ?_⟩; clear hK K)
              refine Wild.walk_run (.string ⟨Pr.toArray⟩) rfl (by rfl) (fun w' hw => ?_) ?_
              · have h : Sl w' (.slice (some ⟨pb, po + 24, none⟩) 32 (pc - 24)) Pr := GP9.out.later hw.1
                have := h.conv
                go_simp
              simp only [Act.put, List.setIfInBounds_toArray, List.set_cons_zero, List.set_cons_succ]
              refine Wild.walk_simple rfl (by rfl) (by rfl) (fun K hK => ?_); go_big_quiet_op; first | (refine hK _ ?_; clear hK K) | (refine ⟨_, fun _ _ => rfl, hK _ ?_⟩; clear hK K)
              refine Wild.walk_nil ?_
              intro w9 hw9 _
              have HB9 : Hid (Below w.heap.size w w9) := Lib.hid (HB0j.out.trans (Below.mono hw9 HB0j.out.size))
              clear hw9 hvs
              go_wp2_with fail
              go_ret
              exact ⟨by rw [HV3.out]; rfl, HB9.out⟩
            · have HV3 : Hid (R = 0) := Lib.hid (by rw [HRV.out, if_pos (by simpa using hfp)])
              have hfb : (F != Pr) = false := by simp [bne, hfp]
              go_upto_region 25 with (fail)
              try simp only [Act.put]
              refine Wild.region_b (fun _ => none) (fun _ => []) rfl (by kernel_rfl) (fun vs hvs => ?_)
              refine Wild.walk_simple rfl (by rfl) (by rfl) (fun K hK => ?_); go_big_quiet_op; first | (refine hK _ ?_; clear hK K) | (refine ⟨_, fun _ _ => rfl, hK _ ?_⟩; clear hK K)
              refine Wild.walk_run (.string ⟨F.toArray⟩) rfl (by rfl) (fun w' hw => ?_) ?_
              · have h : Sl w' (.slice (some ⟨xb, 0, none⟩) 32 32) F := HS9.out.later hw.1
                have := h.conv
                go_simp
              simp only [Act.put, List.setIfInBounds_toArray, List.set_cons_zero, List.set_cons_succ]
              refine Wild.walk_simple rfl (by rfl) (by rfl) (fun K hK => ?_); go_big_quiet_op; first | (refine hK _ ?_; clear hK K) | (refine ⟨_, fun _ _ => rfl, hK _ ?_⟩; clear hK K)
              refine Wild.walk_simple rfl (by rfl) (by rfl) (fun K hK => ?_); go_big_quiet_op; first | (refine hK _ ?_; clear hK K) | (refine ⟨_, fun _ _ => rfl, hK _ ?_⟩; clear hK K)
              refine Wild.walk_run (.string ⟨Pr.toArray⟩) rfl (by rfl) (fun w' hw => ?_) ?_
              · have h : Sl w' (.slice (some ⟨pb, po + 24, none⟩) 32 (pc - 24)) Pr := GP9.out.later hw.1
                have := h.conv
                go_simp
              simp only [Act.put, List.setIfInBounds_toArray, List.set_cons_zero, List.set_cons_succ]
              refine Wild.walk_simple rfl (by rfl) (by rfl) (fun K hK => ?_); go_big_quiet_op; first | (refine hK _ ?_; clear hK K) | (refine ⟨_, fun _ _ => rfl, hK _ ?_⟩; clear hK K)
              refine Wild.walk_nil ?_
              intro w9 hw9 _
              have HB9 : Hid (Below w.heap.size w w9) := Lib.hid (HB0j.out.trans (Below.mono hw9 HB0j.out.size))
              clear hw9 hvs
              go_wp2_with fail
              go_ret
              exact ⟨by rw [HV3.out]; rfl, HB9.out⟩
  · have HV3 : Hid (R = 3) := Lib.hid (by rw [HVV.out, HVO.out, decide_eq_false (by rw [← hLs]; exact hlen)]; rfl)
    have hlb : ((Ls : Int) != 4 + (n : Int) + 4 + 32 * (h : Int)) = true := by
      have : (Ls : Int) ≠ 4 + (n : Int) + 4 + 32 * (h : Int) := by omega
      simpa using this
    have hlne : ¬ (Ls : Int) = 4 + (n : Int) + 4 + 32 * (h : Int) := by omega
    clear hlen hLs
    go_enter Try.func17, Try.ntmps17
    go_upto_region 2 with (first
      | (go_at_call 43; refine HOP.out.mono ?_; rintro e w1 ⟨rfl, b1⟩; have HB1 := Lib.hid b1; clear b1)
      | ((with_reducible refine at_store 33 _ _ rfl ?_); refine wpList_store_new rfl 33 _ _ rfl T rfl rfl 33 _ HTI.out (by rw [HTS.out]; rfl) HTO.out ?_))
    obtain ⟨W2, HW2, HB2, HT2⟩ := key.out w1 HB1.out
    rw [← HW2.out]
    generalize w1.heap.size = b at *
    have HT2L : Hid (b < W2.heap.size) := Lib.hid (Array.getElem?_eq_some_iff.1 HT2.out).1
    have kw := tree_W HT2.out hIL rfl
    go_upto_region 5 with (go_at_call 44; refine (HLN.out W2).mono ?_; rintro e w3 ⟨rfl, b3⟩; have HB3 := Lib.hid (HB2.out.trans (b3.mono HB2.out.size)); have HB23 := Lib.hid b3; clear b3)
    clear kw
    try simp only [Act.put]
    refine Wild.region_b (fun _ => none) (fun _ => []) rfl (by kernel_rfl) (fun vs hvs => ?_)
    refine Wild.walk_simple rfl (by rfl) (by rfl) (fun K hK => ?_); go_big_quiet_op; first | (refine hK _ ?_; clear hK K) | (refine ⟨_, fun _ _ => rfl, hK _ ?_⟩; clear hK K)
    refine Wild.walk_run (.int .i64 Ls) rfl (by rfl) (fun w' _ => by unfold execOp; go_simp) ?_
    simp only [Act.put, List.setIfInBounds_toArray, List.set_cons_zero, List.set_cons_succ]
    refine Wild.walk_simple rfl (by rfl) (by rfl) (fun K hK => ?_); go_big_quiet_op; first | (refine hK _ ?_; clear hK K) | (refine ⟨_, fun _ _ => rfl, hK _ ?_⟩; clear hK K)
    refine Wild.walk_simple rfl (by rfl) (by rfl) (fun K hK => ?_); go_big_quiet_op; first | (refine hK _ ?_; clear hK K) | (refine ⟨_, fun _ _ => rfl, hK _ ?_⟩; clear hK K)
    refine Wild.walk_simple rfl (by rfl) (by rfl) (fun K hK => ?_); go_big_quiet_op; first | (refine hK _ ?_; clear hK K) | (refine ⟨_, fun _ _ => rfl, hK _ ?_⟩; clear hK K)
    refine Wild.walk_simple rfl (by rfl) (by rfl) (fun K hK => ?_); go_big_quiet_op; first | (refine hK _ ?_; clear hK K) | (refine ⟨_, fun _ _ => rfl, hK _ ?_⟩; clear hK K)
    refine Wild.walk_cell 3 _ _ _ (.int .i64 h) _ rfl (by rfl) rfl rfl (fun w' hw => tree_H (((HB23.out.trans (Below.mono hw.1 HB23.out.size)).block _ HT2L.out).trans HT2.out) HHIL.out rfl) Try.underlying3 rfl ?_
    simp only [Act.put, List.setIfInBounds_toArray, List.set_cons_zero, List.set_cons_succ]
    refine Wild.walk_simple rfl (by rfl) (by rfl) (fun K hK => ?_); go_big_quiet_op; first | (refine hK _ ?_; clear hK K) | (refine ⟨_, fun _ _ => rfl, hK _ ?_⟩; clear hK K)
    refine Wild.walk_simple rfl (by rfl) (by rfl) (fun K hK => ?_); go_big_quiet_op; first | (refine hK _ ?_; clear hK K) | (refine ⟨_, fun _ _ => rfl, hK _ ?_⟩; clear hK K)
    refine Wild.walk_simple rfl (by rfl) (by rfl) (fun K hK => ?_); go_big_quiet_op; first | (refine hK _ ?_; clear hK K) | (refine ⟨_, fun _ _ => rfl, hK _ ?_⟩; clear hK K)
    try simp only [hlb]
    refine Wild.walk_simple rfl (by rfl) (by rfl) (fun K hK => ?_); go_big_quiet_op; first | (refine hK _ ?_; clear hK K) | (refine ⟨_, fun _ _ => rfl, hK _ ?_⟩; clear hK K)
    refine Wild.walk_skip rfl (by rfl) ?_
    simp only [Act.put, List.setIfInBounds_toArray, List.set_cons_zero, List.set_cons_succ]
    refine Wild.walk_skip rfl (by rfl) ?_
    simp only [Act.put, List.setIfInBounds_toArray, List.set_cons_zero, List.set_cons_succ]
    refine Wild.walk_skip rfl (by rfl) ?_
    simp only [Act.put, List.setIfInBounds_toArray, List.set_cons_zero, List.set_cons_succ]
    refine Wild.walk_skip rfl (by rfl) ?_
    simp only [Act.put, List.setIfInBounds_toArray, List.set_cons_zero, List.set_cons_succ]
    refine Wild.walk_skip rfl (by rfl) ?_
    simp only [Act.put, List.setIfInBounds_toArray, List.set_cons_zero, List.set_cons_succ]
    refine Wild.walk_skip rfl (by rfl) ?_
    simp only [Act.put, List.setIfInBounds_toArray, List.set_cons_zero, List.set_cons_succ]
    refine Wild.walk_skip rfl (by rfl) ?_
    simp only [Act.put, List.setIfInBounds_toArray, List.set_cons_zero, List.set_cons_succ]
    refine Wild.walk_simple rfl (by rfl) (by rfl) (fun K hK => ?_); go_big_quiet_op; first | (refine hK _ ?_; clear hK K) | (refine ⟨_, fun _ _ => rfl, hK _ ?_⟩; clear hK K)
    refine Wild.walk_simple rfl (by rfl) (by rfl) (fun K hK => ?_); go_big_quiet_op; first | (refine hK _ ?_; clear hK K) | (refine ⟨_, fun _ _ => rfl, hK _ ?_⟩; clear hK K)
    refine Wild.walk_skip rfl (by rfl) ?_
    simp only [Act.put, List.setIfInBounds_toArray, List.set_cons_zero, List.set_cons_succ]
    refine Wild.walk_skip rfl (by rfl) ?_
    simp only [Act.put, List.setIfInBounds_toArray, List.set_cons_zero, List.set_cons_succ]
    refine Wild.walk_skip rfl (by rfl) ?_
    simp only [Act.put, List.setIfInBounds_toArray, List.set_cons_zero, List.set_cons_succ]
    refine Wild.walk_skip rfl (by rfl) ?_
    simp only [Act.put, List.setIfInBounds_toArray, List.set_cons_zero, List.set_cons_succ]
    refine Wild.walk_skip rfl (by rfl) ?_
    simp only [Act.put, List.setIfInBounds_toArray, List.set_cons_zero, List.set_cons_succ]
    refine Wild.walk_skip rfl (by rfl) ?_
    simp only [Act.put, List.setIfInBounds_toArray, List.set_cons_zero, List.set_cons_succ]
    try simp only [show 8 + n - (4 + n) = 4 by omega]
    refine Wild.walk_skip rfl (by rfl) ?_
    simp only [Act.put, List.setIfInBounds_toArray, List.set_cons_zero, List.set_cons_succ]
    refine Wild.walk_skip rfl (by rfl) ?_
    simp only [Act.put, List.setIfInBounds_toArray, List.set_cons_zero, List.set_cons_succ]
    refine Wild.walk_skip rfl (by rfl) ?_
    simp only [Act.put, List.setIfInBounds_toArray, List.set_cons_zero, List.set_cons_succ]
    refine Wild.walk_skip rfl (by rfl) ?_
    simp only [Act.put, List.setIfInBounds_toArray, List.set_cons_zero, List.set_cons_succ]
    refine Wild.walk_skip rfl (by rfl) ?_
    simp only [Act.put, List.setIfInBounds_toArray, List.set_cons_zero, List.set_cons_succ]
    refine Wild.walk_simple rfl (by rfl) (by rfl) (fun K hK => ?_); go_big_quiet_op; first | (refine hK _ ?_; clear hK K) | (refine ⟨_, fun _ _ => rfl, hK _ ?_⟩; clear hK K)
    refine Wild.walk_nil ?_
    intro w4 hw4 _
    have HB4 : Hid (Below w.heap.size w w4) := Lib.hid (HB3.out.trans (Below.mono hw4 HB3.out.size))
    have HB24 : Hid (Below W2.heap.size W2 w4) := Lib.hid (HB23.out.trans (Below.mono hw4 HB23.out.size))
    clear hw4 hvs
    go_wp2_with fail
    go_ret
    exact ⟨by rw [HV3.out]; rfl, HB4.out⟩
theorem Verify_ref5 (pv tv sv : Value) (p text s : List UInt8) (w : World) (hp : Sl w pv p) (ht : Sl w tv text) (hs : Sl w sv s) (htl : text.length ≤ 1000000) (hsl : s.length ≤ 1000000) :
    Calls Try.prog 17 #[pv, tv, sv] w fun e w' => e = .returned (.int .i64 (verV p text s)) ∧ Below w.heap.size w w' := by
  cases hok : openOk p
  · have e : verV p text s = 3 := by rw [verV, verOk, hok]; rfl
    rw [e]
    exact Verify_closedR pv tv sv p text s w hp ht hs hok
  · exact Verify_mainR pv tv sv p text s w hp ht hs htl hsl hok
end Go.Proofs.Ytabdbdnhbiopaaa


/- The walk of lms's Verify. -/
import Derived.Test.YtcnelahmbfggcaaG11
import Derived.Test.YtcnelahmbfggcaaG9
import Derived.Test.YtcnelahmbfggcaaG5
namespace Go.Proofs.Ytcnelahmbfggcaa
open Go Go.RowKit
set_option maxRecDepth 100000
set_option maxHeartbeats 2000000
attribute [local irreducible] Wild.walk WildF.walk

theorem Verify_closed (pv tv sv : Value) (p text s : List UInt8) (w : World) (hp : Sl w pv p) (ht : Sl w tv text) (hs : Sl w sv s) (hok : openOk p = false) :
    Calls Try.prog 20 #[pv, tv, sv] w fun e w' => e = .returned (.int .i64 3) ∧ Below w.heap.size w w' := by
  obtain ⟨W0, HW0, HB0, HS0⟩ : ∃ V, Hid (V = w.alloc (.cells (Array.replicate 32 (.int .u8 0)) 23)) ∧ Hid (Below w.heap.size w V) ∧ Hid (V.heap.size = w.heap.size + 1) := ⟨_, Lib.hid rfl, Lib.hid ((Below.refl _ _).alloc (Nat.le_refl _) _), Lib.hid (by simp)⟩
  obtain ⟨V, HV, HB, HS⟩ : ∃ V, Hid (V = W0.alloc (.cells (Array.replicate 32 (.int .u8 0)) 23)) ∧ Hid (Below w.heap.size w V) ∧ Hid (V.heap.size = w.heap.size + 2) := ⟨_, Lib.hid rfl, Lib.hid (HB0.out.alloc HB0.out.size _), Lib.hid (by simp [HS0.out])⟩
  have HOP := Lib.hid (open_any pv p V (hp.later HB.out))
  rw [hok] at HOP
  obtain ⟨T, HT⟩ : ∃ T, Hid (T = (TreeV (openI p) zero32 (openW p) (openH p)).toArray) := ⟨_, Lib.hid rfl⟩
  rw [← HT.out] at HOP
  have HTI : Hid ((Try.prog.info? 25).map (·.size) = some T.size) := Lib.hid (by rw [HT.out, info_tree, List.size_toArray, TreeV_length _ _ _ _ (openI_length p) rfl])
  have HTO : Hid (T.all (·.oneCell') = true) := Lib.hid (by rw [HT.out]; exact TreeV_one _ _ _ _)
  have HTS : Hid (T.size = 50) := Lib.hid (by rw [HT.out, List.size_toArray, TreeV_length _ _ _ _ (openI_length p) rfl])
  obtain ⟨pa, pc, rfl⟩ := hp.shape
  obtain ⟨ta, tc, rfl⟩ := ht.shape
  obtain ⟨sa, sc, rfl⟩ := hs.shape
  clear hp ht hs hok
  go_enter Try.func20, Try.ntmps20
  go_upto_region 1 with (fail)
  apply wp_scope_fwd 0
  · rfl
  go_upto_region 2 with (fail)
  change Code.wp _ _ _ _ ((w.alloc (.cells (Array.replicate 32 (.int .u8 0)) 23)).alloc (.cells (Array.replicate 32 (.int .u8 0)) 23))
  rw [← HW0.out, ← HV.out]
  go_wp2_with (first
    | (go_at_call 31; refine HOP.out.mono ?_; rintro e w1 ⟨rfl, b1⟩; have HB1 := Lib.hid (HB.out.trans (b1.mono HB.out.size)); clear b1)
    | ((with_reducible refine at_store 25 _ _ rfl ?_); refine wpList_store_new rfl 25 _ _ rfl T rfl rfl 25 _ HTI.out (by rw [HTS.out]; rfl) HTO.out ?_))
  apply wp_goto
  refine ⟨rfl, ?_⟩
  have HB2 : Hid (Below w.heap.size w (w1.alloc (.cells T 25))) := Lib.hid (HB1.out.alloc HB1.out.size _)
  go_wp2_with fail
  rw [Exit.noGoto_ret]
  go_ret
  exact ⟨rfl, HB2.out⟩
theorem openOk_facts (p : List UInt8) (h : openOk p = true) : p.length = 56 ∧ (openW p = 1 ∨ openW p = 2 ∨ openW p = 4 ∨ openW p = 8) ∧ isW (openW p) = true ∧ 1 ≤ openH p ∧ openH p ≤ 5 ∧ fourN (typeN (openW p)).toNat = p8 p := by
  simp only [openOk, Bool.and_eq_true, decide_eq_true_eq] at h
  obtain ⟨h1, h2⟩ := h
  obtain ⟨h3, h4, h5⟩ := (mayT_iff _ _).1 h2
  have h6 := (isW_iff _).1 h3
  refine ⟨h1, by omega, h3, by omega, by omega, ?_⟩
  have e : openW p = oWn p 4 := by rw [openW, if_pos h1]
  have hz : openW p ≠ 0 := by omega
  rw [e] at hz ⊢
  have hh : ∀ n, oWn p n ≠ 0 → fourN (typeN (oWn p n)).toNat = p8 p := by
    intro n
    induction n with
    | zero => intro h; exact absurd rfl h
    | succ n ih =>
      intro h
      rw [oWn] at h ⊢
      split
      · assumption
      · rename_i hne
        rw [if_neg hne] at h
        exact ih h
  exact hh 4 hz
theorem cand_good (k M : Nat) (hk : k = 1 ∨ k = 2 ∨ k = 4 ∨ k = 8) (hw : isW k = true) (hM : manyW k = M) (X : List UInt8) (hl : X.length = 36 + 32 * M) (ht : X.take 4 = fourN (typeN k).toNat) : candErr X = 0 := by
  obtain ⟨t0, t4⟩ := typeN_bd k
  have h1 : typeS X = typeN k := by
    have h := (four_word (X.take 4) (by rw [List.length_take]; omega) (typeN k).toNat (by omega)).1 ht.symm
    rw [typeS_take] at h
    rw [h]; omega
  obtain ⟨w1, w2⟩ := width_of k hw
  have h2 : candOk X = true := by
    rw [candOk, h1, w2, w1, Bool.true_and, decide_eq_true_iff, Int.toNat_natCast, numK]
    obtain ⟨m1, -⟩ := manyW_w k hk
    have : M = 256 / k + chkN k := by have := hM.symm.trans m1; exact Int.ofNat_inj.1 this
    rw [hl, this]
  rw [candErr, if_neg (by omega), h2]
  rfl
theorem pq_small (P Q : Nat) (h : P ≤ 32) (hq : Q < P) : P + Q < 4294967296 := by omega
set_option maxHeartbeats 0 in
theorem Verify_main (pv tv sv : Value) (p text s : List UInt8) (w : World) (hp : Sl w pv p) (ht : Sl w tv text) (hs : Sl w sv s) (htl : text.length ≤ 1000000) (hsl : s.length ≤ 1000000) (hok : openOk p = true) :
    Calls Try.prog 20 #[pv, tv, sv] w fun e w' => e = .returned (.int .i64 (verV p text s)) ∧ Below w.heap.size w w' := by
  obtain ⟨W0, HW0, HB0, HS0, HP0⟩ : ∃ V, Hid (V = w.alloc (.cells (Array.replicate 32 (.int .u8 0)) 23)) ∧ Hid (Below w.heap.size w V) ∧ Hid (V.heap.size = w.heap.size + 1) ∧ Hid (V.heap[w.heap.size]? = some (.cells (Array.replicate 32 (.int .u8 0)) 23 (0, 0))) := ⟨_, Lib.hid rfl, Lib.hid ((Below.refl _ _).alloc (Nat.le_refl _) _), Lib.hid (by simp), Lib.hid (heap_alloc_new _ _)⟩
  obtain ⟨V, HV, HB, HS, HP, HX⟩ : ∃ V, Hid (V = W0.alloc (.cells (Array.replicate 32 (.int .u8 0)) 23)) ∧ Hid (Below w.heap.size w V) ∧ Hid (V.heap.size = w.heap.size + 2) ∧ Hid (V.heap[w.heap.size]? = some (.cells (Array.replicate 32 (.int .u8 0)) 23 (0, 0))) ∧ Hid (V.heap[w.heap.size + 1]? = some (.cells (Array.replicate 32 (.int .u8 0)) 23 (0, 0))) :=
    ⟨_, Lib.hid rfl, Lib.hid (HB0.out.alloc HB0.out.size _), Lib.hid (by simp [HS0.out]), Lib.hid ((heap_alloc_old _ _ (by rw [HS0.out]; omega)).trans HP0.out), Lib.hid (by rw [← HS0.out]; exact heap_alloc_new _ _)⟩
  have HOP := Lib.hid (open_any pv p V (hp.later HB.out))
  rw [hok] at HOP
  obtain ⟨hp56, hk, hkw, hh1, hh5, hp8⟩ := openOk_facts p hok
  have hIL := openI_length p
  have hvl : verL p = 36 + 32 * (manyW (openW p)).toNat := rfl
  obtain ⟨k, Hk⟩ : ∃ k, Hid (k = openW p) := ⟨_, Lib.hid rfl⟩
  obtain ⟨h, Hh⟩ : ∃ h, Hid (h = openH p) := ⟨_, Lib.hid rfl⟩
  obtain ⟨I, HI⟩ : ∃ I, Hid (I = openI p) := ⟨_, Lib.hid rfl⟩
  have HVV : Hid (verV p text s = if verOk p s then (if verR p text s = p.drop 24 then 0 else 16) else 3) := Lib.hid rfl
  have HVO : Hid (verOk p s = (decide (s.length = verL p + 8 + 32 * openH p) && (decide (leafN s < 2 ^ openH p) && (((s.drop (4 + verL p)).take 4 == p4 p) && ((s.drop 4).take 4 == p8 p))))) := Lib.hid (by rw [verOk, hok, Bool.true_and])
  have HVR : Hid (verR p text s = climb (openI p) (openH p) (2 ^ openH p + leafN s) (hashN (openI p) (2 ^ openH p + leafN s) 33410 [candV (openI p) (leafN s) text ((s.drop 4).take (verL p))]) (s.drop (verL p + 8))) := Lib.hid rfl
  obtain ⟨R, HR⟩ : ∃ R, Hid (R = verV p text s) := ⟨_, Lib.hid rfl⟩
  rw [← HR.out] at HVV ⊢
  rw [← Hk.out, ← Hh.out, ← HI.out] at HOP
  rw [← Hh.out] at HVO HVR hh1 hh5
  rw [← HI.out] at HVR hIL
  rw [← Hk.out] at hk hkw hp8 hvl
  obtain ⟨M, m1, m2⟩ : ∃ M : Nat, manyW k = M ∧ M ≤ 265 := ⟨_, (manyW_w k hk).1, (manyW_w k hk).2⟩
  obtain ⟨n, Hn⟩ : ∃ n, Hid (n = verL p) := ⟨_, Lib.hid rfl⟩
  rw [← Hn.out] at HVO HVR hvl
  have hmk : 36 + 32 * manyW k = (n : Int) := by omega
  have hn9 : n ≤ 9000 := by omega
  have hlg : longL k h = ((n + 8 + 32 * h : Nat) : Int) := by
    rw [longL, if_pos ((mayT_iff _ _).2 ⟨hkw, by omega, by omega⟩)]; omega
  have hle : errL k h = 0 := by rw [errL, if_pos ((mayT_iff _ _).2 ⟨hkw, by omega, by omega⟩)]
  have HLG := Lib.hid (fun w' => Long_lms I zero32 k h w' hIL rfl (by omega))
  simp only [hlg, hle] at HLG
  have HLN := Lib.hid (fun w' => Long_any' k w' (by omega))
  have herr : errW k = 0 := by rw [errW, if_pos hkw]
  simp only [hkw, if_true, hmk, herr] at HLN
  have HLF := Lib.hid (fun w' h => Leaf_any sv s w' h hsl)
  obtain ⟨T, HT⟩ : ∃ T, Hid (T = (TreeV I zero32 k h).toArray) := ⟨_, Lib.hid rfl⟩
  have HTI : Hid ((Try.prog.info? 25).map (·.size) = some T.size) := Lib.hid (by rw [HT.out, info_tree, List.size_toArray, TreeV_length _ _ _ _ hIL rfl])
  have HTO : Hid (T.all (·.oneCell') = true) := Lib.hid (by rw [HT.out]; exact TreeV_one _ _ _ _)
  have HTS : Hid (T.size = 50) := Lib.hid (by rw [HT.out, List.size_toArray, TreeV_length _ _ _ _ hIL rfl])
  rw [← HT.out] at HOP
  simp only [← HT.out] at HLG
  have HHIL := Lib.hid hIL
  have HPW := Lib.hid hp
  have HTW := Lib.hid ht
  have HSW := Lib.hid hs
  have hsh := hs
  obtain ⟨pa, pc, rfl⟩ := hp.shape
  obtain ⟨ta, tc, rfl⟩ := ht.shape
  obtain ⟨sa, sc, rfl⟩ := hs.shape
  rw [hp56] at HOP HPW ⊢
  have HP56 := Lib.hid hp56
  clear hp hp56
  have key : Hid (∀ (w1 : World), Below V.heap.size V w1 → ∃ W, Hid (W = w1.alloc (.cells T 25)) ∧ Hid (Below w.heap.size w W) ∧ Hid (W.heap[w1.heap.size]? = some (.cells T 25 (0, 0))) ∧ Hid (W.heap[w.heap.size]? = some (.cells (Array.replicate 32 (.int .u8 0)) 23 (0, 0))) ∧ Hid (W.heap[w.heap.size + 1]? = some (.cells (Array.replicate 32 (.int .u8 0)) 23 (0, 0))) ∧ Hid (w.heap.size + 2 ≤ w1.heap.size)) := Lib.hid (fun w1 b1 =>
    ⟨_, Lib.hid rfl, Lib.hid ((HB.out.trans (b1.mono HB.out.size)).alloc (HB.out.trans (b1.mono HB.out.size)).size _), Lib.hid (heap_alloc_new _ _), Lib.hid ((heap_alloc_old _ _ (by have := b1.size; rw [HS.out] at this; omega)).trans ((b1.block _ (by rw [HS.out]; omega)).trans HP.out)), Lib.hid ((heap_alloc_old _ _ (by have := b1.size; rw [HS.out] at this; omega)).trans ((b1.block _ (by rw [HS.out]; omega)).trans HX.out)), Lib.hid (by have := b1.size; rw [HS.out] at this; omega)⟩)
  by_cases hlen : s.length = n + 8 + 32 * h
  · have HVO1 : Hid (verOk p s = (decide (leafN s < 2 ^ h) && (((s.drop (4 + n)).take 4 == p4 p) && ((s.drop 4).take 4 == p8 p)))) := Lib.hid (by rw [HVO.out, decide_eq_true hlen, Bool.true_and])
    obtain ⟨sb, so, rfl, -, q1, q2, hcs⟩ := Sl.cells HSW.out (by omega)
    have HCS := Lib.hid hcs
    have hpl0 : 0 < p.length := by rw [HP56.out]; decide
    obtain ⟨pb, po, rfl, -, p1, p2, hpcs⟩ := Sl.cells HPW.out hpl0
    rw [HP56.out] at p1
    have HPCS := Lib.hid hpcs
    obtain ⟨Qn, HQn⟩ : ∃ q, Hid (q = leafN s) := ⟨_, Lib.hid rfl⟩
    have HQ32 : Hid (Qn < 4294967296) := Lib.hid (by rw [HQn.out]; exact leafN_lt s)
    have hfe : leafE s = 0 := by rw [leafE, if_neg (by omega)]
    rw [← HQn.out, hfe] at HLF
    rw [← HQn.out] at HVO1 HVR
    rw [← hlen] at HLG
    -- the parts that are told apart
    obtain ⟨E4, HE4⟩ : ∃ E, Hid (E = (s.drop (4 + n)).take 4) := ⟨_, Lib.hid rfl⟩
    obtain ⟨S8, HS8⟩ : ∃ E, Hid (E = (s.drop 4).take 4) := ⟨_, Lib.hid rfl⟩
    obtain ⟨P4, HP4⟩ : ∃ E, Hid (E = p4 p) := ⟨_, Lib.hid rfl⟩
    obtain ⟨P8, HP8⟩ : ∃ E, Hid (E = p8 p) := ⟨_, Lib.hid rfl⟩
    have GE4 : Hid (Sl w (.slice (some ⟨sb, so + (4 + n), none⟩) 4 (sc - (4 + n))) E4) := Lib.hid (by rw [HE4.out]; exact Sl.part hcs (4 + n) 4 _ (by omega) (by omega) (by omega))
    have GS8 : Hid (Sl w (.slice (some ⟨sb, so + 4, none⟩) 4 (sc - 4)) S8) := Lib.hid (by rw [HS8.out]; exact Sl.part hcs 4 4 _ (by omega) (by omega) (by omega))
    have GP4 : Hid (Sl w (.slice (some ⟨pb, po, none⟩) 4 pc) P4) := Lib.hid (by have h := Sl.part hpcs 0 4 pc (by rw [HP56.out]; omega) (by omega) (by omega); rw [HP4.out, p4]; simpa using h)
    have GP8 : Hid (Sl w (.slice (some ⟨pb, po + 4, none⟩) 4 (pc - 4)) P8) := Lib.hid (by rw [HP8.out, p8]; exact Sl.part hpcs 4 4 _ (by rw [HP56.out]; omega) (by omega) (by omega))
    obtain ⟨X, HXx⟩ : ∃ X, Hid (X = (s.drop 4).take n) := ⟨_, Lib.hid rfl⟩
    have HXL : Hid (X.length = n) := Lib.hid (by rw [HXx.out, List.length_take, List.length_drop]; omega)
    have HXG : Hid ((S8 == P8) = true → candErr X = 0) := Lib.hid (fun he => by
      refine cand_good k M hk hkw m1 X (by rw [HXL.out]; omega) ?_
      have he' : S8 = P8 := by simpa using he
      rw [hp8, ← HP8.out, ← he', HS8.out, HXx.out, List.take_take, Nat.min_eq_left (by omega)])
    have GX : Hid (Sl w (.slice (some ⟨sb, so + 4, none⟩) n (sc - 4)) X) := Lib.hid (by rw [HXx.out]; exact Sl.part hcs 4 n _ (by omega) (by omega) (by omega))
    obtain ⟨Bs, HBs⟩ : ∃ X, Hid (X = s.drop (n + 8)) := ⟨_, Lib.hid rfl⟩
    have HBsL : Hid (Bs.length = 32 * h) := Lib.hid (by rw [HBs.out, List.length_drop]; omega)
    have GB : Hid (Sl w (.slice (some ⟨sb, so + (4 + n) + 4, none⟩) (32 * h) (sc - (4 + n) - 4)) Bs) := Lib.hid (by
      have h := Sl.part hcs (n + 8) (32 * h) (sc - (4 + n) - 4) (by omega) (by omega) (by omega)
      rw [List.take_of_length_le (by rw [List.length_drop]; omega), show so + (n + 8) = so + (4 + n) + 4 by omega] at h
      rw [HBs.out]; exact h)
    obtain ⟨Pr, HPr⟩ : ∃ X, Hid (X = p.drop 24) := ⟨_, Lib.hid rfl⟩
    have GPr : Hid (Sl w (.slice (some ⟨pb, po + 24, none⟩) 32 (pc - 24)) Pr) := Lib.hid (by
      have h := Sl.part hpcs 24 32 (pc - 24) (by rw [HP56.out]; omega) (by omega) (by omega)
      rw [List.take_of_length_le (by rw [List.length_drop, HP56.out]; omega)] at h
      rw [HPr.out]; exact h)
    have HTZ : Hid (T = (TreeV I zero32 k h).toArray) := HT
    obtain ⟨P, HPo⟩ : ∃ P, Hid (P = 2 ^ h) := ⟨_, Lib.hid rfl⟩
    obtain ⟨pw5, pw1⟩ := pow5 h hh5
    rw [← HPo.out] at pw5 pw1
    have ew := wrap_pow h P HPo.out (by omega)
    obtain ⟨C, HC⟩ : ∃ C, Hid (C = candV I Qn text X) := ⟨_, Lib.hid rfl⟩
    have HCL : Hid (C.length = 32) := Lib.hid (by rw [HC.out]; exact candV_length _ _ _ _)
    have HCA := Lib.hid (fun w' h1 h2 => Candidate_any I Qn (.slice ta text.length tc) (.slice (some ⟨sb, so + 4, none⟩) n (sc - 4)) text X w' hIL HQ32.out h1 h2 htl (by rw [HXL.out]; omega))
    simp only [← HC.out] at HCA
    obtain ⟨D, HD⟩ : ∃ D, Hid (D = hashN I (P + Qn) 33410 [C]) := ⟨_, Lib.hid rfl⟩
    have HDL : Hid (D.length = 32) := Lib.hid (by rw [HD.out]; exact sha_length _)
    have HHS : Hid (Qn < P → ∀ mv w', Rows w' mv [C] → Calls Try.prog 35 #[.agg T, .int .i64 ((P + Qn : Nat) : Int), .int .i64 33410, mv] w' fun e w'' => e = .returned (.agg (B8 D).toArray) ∧ Below w'.heap.size w' w'') := Lib.hid (fun hq mv w' hr => by
      rw [HT.out, HD.out]; exact lhash_any I zero32 k h (P + Qn) 33410 mv [C] w' hIL (pq_small P Qn pw5 hq) (by decide) hr (by simp [HCL.out]))
    obtain ⟨F, HF⟩ : ∃ F, Hid (F = climb I h (P + Qn) D Bs) := ⟨_, Lib.hid rfl⟩
    have HFL : Hid (F.length = 32) := Lib.hid (by rw [HF.out]; exact climb_length _ _ _ _ _ HDL.out)
    have HRO : Hid (Qn < P → ∀ bv w', Sl w' bv Bs → Calls Try.prog 34 #[.agg T, .int .i64 Qn, .agg (B8 D).toArray, bv] w' fun e w'' => e = .returned (.agg (B8 F).toArray) ∧ Below w'.heap.size w' w'') := Lib.hid (fun hq bv w' hr => by
      rw [HT.out, HF.out, HPo.out]; exact root_any I zero32 k h Qn D bv Bs w' hIL rfl hh5 (by rw [← HPo.out]; exact hq) HDL.out hr HBsL.out)
    have HVF : Hid (verR p text s = F) := Lib.hid (by rw [HVR.out, HF.out, HD.out, HC.out, HXx.out, HBs.out, HPo.out])
    have hsc8 : (8 : Int) ≤ sc := by omega
    rw [← HPo.out, ← HE4.out, ← HS8.out, ← HP4.out, ← HP8.out] at HVO1
    have hsl9 : s.length ≤ 1000000 := hsl
    have hcap : 4 + n < sc := by omega
    obtain ⟨Ls, hLs⟩ : ∃ Ls, Ls = s.length := ⟨_, rfl⟩
    have HLS := Lib.hid hLs
    have HLEN : Hid (Ls = n + 8 + 32 * h) := Lib.hid (by rw [hLs, hlen])
    rw [← hLs] at HSW HLG HLF q1 hsl9 ⊢
    clear ht hs hsh htl hok hp8 hvl hmk hlg hle Hn herr hIL hk m1 m2 hlen HP0 HS0 HB0 hcs hpcs hpl0 hsl hLs hfe
    go_enter Try.func20, Try.ntmps20
    go_upto_region 1 with (fail)
    apply wp_scope_fwd 0
    · rfl
    go_upto_region 2 with (fail)
    change Code.wp _ _ _ _ ((w.alloc (.cells (Array.replicate 32 (.int .u8 0)) 23)).alloc (.cells (Array.replicate 32 (.int .u8 0)) 23))
    rw [← HW0.out, ← HV.out]
    go_upto_region 6 with (first
      | (go_at_call 31; refine HOP.out.mono ?_; rintro e w1 ⟨rfl, b1⟩; have HB1 := Lib.hid b1; clear b1)
      | ((with_reducible refine at_store 25 _ _ rfl ?_); refine wpList_store_new rfl 25 _ _ rfl T rfl rfl 25 _ HTI.out (by rw [HTS.out]; rfl) HTO.out ?_))
    obtain ⟨W2, HW2, HB2, HT2, HP2, HX2, HSz2⟩ := key.out w1 HB1.out
    rw [← HW2.out]
    generalize w1.heap.size = b at *
    go_upto_region 8 with (first
      | ((with_reducible refine at_load 25 _ rfl ?_); refine wpList_load_row rfl 25 _ rfl _ rfl _ T (0, 0) _ HT2.out Try.underlying25 rfl HTI.out ?_)
      | (go_at_call 22; refine (HLG.out W2).mono ?_; rintro e w3 ⟨rfl, b3⟩; have HB3 := Lib.hid b3; clear b3))
    have HT3 : Hid (w3.heap[b]? = some (.cells (TreeV I zero32 k h).toArray 25 (0, 0))) := Lib.hid (by rw [← HTZ.out]; exact (HB3.out.block _ (Array.getElem?_eq_some_iff.1 HT2.out).1).trans HT2.out)
    have kw := tree_W HT3.out HHIL.out rfl
    have hbd : (4 : Int) + (n : Int) ≤ (Ls : Int) := by have := HLEN.out; omega
    go_upto_region 11 with (first
      | (go_at_call 32; refine (HLN.out w3).mono ?_; rintro e w4 ⟨rfl, b4⟩; have HB4 := Lib.hid (HB3.out.trans (b4.mono HB3.out.size)); have HB4' := Lib.hid (HB2.out.trans (HB4.out.mono HB2.out.size)); clear b4))
    obtain ⟨Ec, hEc⟩ : ∃ E, E = Ls - (4 + n) := ⟨_, rfl⟩
    obtain ⟨Fc, hFc⟩ : ∃ E, E = sc - (4 + n) := ⟨_, rfl⟩
    rw [← hEc, ← hFc]
    rw [← hFc] at GE4 GB
    have hls := HLEN.out
    have hF1 : 36 ≤ Fc := by omega
    have hEE : Ec - 4 = 32 * h := by omega
    have hF2 : Fc ≤ maxLen := by omega
    have hE1 : 36 ≤ Ec := by omega
    have hEF : Ec ≤ Fc := by omega
    have HSV4 := Lib.hid (HSW.out.later HB4'.out)
    clear hEc hFc hls kw
    go_upto_region 12 with (first
      | (go_at_call 13; refine (HLF.out w4 HSV4.out).mono ?_; rintro e w5 ⟨rfl, b5⟩; have HB5 := Lib.hid (HB4'.out.trans (b5.mono HB4'.out.size)); have HB25 := Lib.hid (HB4.out.trans (b5.mono HB4.out.size)); clear b5))
    have HT5 : Hid (w5.heap[b]? = some (.cells (TreeV I zero32 k h).toArray 25 (0, 0))) := Lib.hid (by rw [← HTZ.out]; exact (HB25.out.block _ (Array.getElem?_eq_some_iff.1 HT2.out).1).trans HT2.out)
    have HTL5 : Hid (b < w5.heap.size) := Lib.hid (Array.getElem?_eq_some_iff.1 HT5.out).1
    try simp only [Act.put]
    --<12
    by_cases hq : P ≤ Qn
    · have g1 : (P : Int) ≤ (Qn : Int) := by omega
      have HV3 : Hid (R = 3) := Lib.hid (by rw [HVV.out, HVO1.out, decide_eq_false (by omega), Bool.false_and]; rfl)
      refine Wild.region_b (fun _ => none) (fun _ => []) rfl (by kernel_rfl) (fun vs hvs => ?_)
      refine Wild.walk_simple rfl (by rfl) (by rfl) (fun K hK => ?_); go_big_quiet_op; first | (refine hK _ ?_; clear hK K) | (refine ⟨_, fun _ _ => rfl, hK _ ?_⟩; clear hK K)
      refine Wild.walk_simple rfl (by rfl) (by rfl) (fun K hK => ?_); go_big_quiet_op; first | (refine hK _ ?_; clear hK K) | (refine ⟨_, fun _ _ => rfl, hK _ ?_⟩; clear hK K)
      refine Wild.walk_cell 3 _ _ _ (.int .i64 h) _ rfl (by rfl) rfl rfl (fun w' hw => tree_H ((hw.1.block _ HTL5.out).trans HT5.out) HHIL.out rfl) Try.underlying3 rfl ?_
      simp only [Act.put, List.setIfInBounds_toArray, List.set_cons_zero, List.set_cons_succ]
      refine Wild.walk_simple rfl (by rfl) (by rfl) (fun K hK => ?_); go_big_quiet_op; first | (refine hK _ ?_; clear hK K) | (refine ⟨_, fun _ _ => rfl, hK _ ?_⟩; clear hK K)
      try simp only [ew]
      refine Wild.walk_simple rfl (by rfl) (by rfl) (fun K hK => ?_); go_big_quiet_op; first | (refine hK _ ?_; clear hK K) | (refine ⟨_, fun _ _ => rfl, hK _ ?_⟩; clear hK K)
      refine Wild.walk_simple rfl (by rfl) (by rfl) (fun K hK => ?_); go_big_quiet_op; first | (refine hK _ ?_; clear hK K) | (refine ⟨_, fun _ _ => rfl, hK _ ?_⟩; clear hK K)
      refine Wild.walk_skip rfl (by rfl) ?_
      simp only [Act.put, List.setIfInBounds_toArray, List.set_cons_zero, List.set_cons_succ]
      refine Wild.walk_skip rfl (by rfl) ?_
      simp only [Act.put, List.setIfInBounds_toArray, List.set_cons_zero, List.set_cons_succ]
      refine Wild.walk_skip rfl (by rfl) ?_
      simp only [Act.put, List.setIfInBounds_toArray, List.set_cons_zero, List.set_cons_succ]
      refine Wild.walk_skip rfl (by rfl) ?_
      simp only [Act.put, List.setIfInBounds_toArray, List.set_cons_zero, List.set_cons_succ]
      refine Wild.walk_skip rfl (by rfl) ?_
      simp only [Act.put, List.setIfInBounds_toArray, List.set_cons_zero, List.set_cons_succ]
      refine Wild.walk_skip rfl (by rfl) ?_
      simp only [Act.put, List.setIfInBounds_toArray, List.set_cons_zero, List.set_cons_succ]
      refine Wild.walk_skip rfl (by rfl) ?_
      simp only [Act.put, List.setIfInBounds_toArray, List.set_cons_zero, List.set_cons_succ]
      refine Wild.walk_simple rfl (by rfl) (by rfl) (fun K hK => ?_); go_big_quiet_op; first | (refine hK _ ?_; clear hK K) | (refine ⟨_, fun _ _ => rfl, hK _ ?_⟩; clear hK K)
      refine Wild.walk_simple rfl (by rfl) (by rfl) (fun K hK => ?_); go_big_quiet_op; first | (refine hK _ ?_; clear hK K) | (refine ⟨_, fun _ _ => rfl, hK _ ?_⟩; clear hK K)
      refine Wild.walk_skip rfl (by rfl) ?_
      simp only [Act.put, List.setIfInBounds_toArray, List.set_cons_zero, List.set_cons_succ]
      refine Wild.walk_skip rfl (by rfl) ?_
      simp only [Act.put, List.setIfInBounds_toArray, List.set_cons_zero, List.set_cons_succ]
      refine Wild.walk_skip rfl (by rfl) ?_
      simp only [Act.put, List.setIfInBounds_toArray, List.set_cons_zero, List.set_cons_succ]
      refine Wild.walk_skip rfl (by rfl) ?_
      simp only [Act.put, List.setIfInBounds_toArray, List.set_cons_zero, List.set_cons_succ]
      refine Wild.walk_skip rfl (by rfl) ?_
      simp only [Act.put, List.setIfInBounds_toArray, List.set_cons_zero, List.set_cons_succ]
      refine Wild.walk_skip rfl (by rfl) ?_
      simp only [Act.put, List.setIfInBounds_toArray, List.set_cons_zero, List.set_cons_succ]
      refine Wild.walk_skip rfl (by rfl) ?_
      simp only [Act.put, List.setIfInBounds_toArray, List.set_cons_zero, List.set_cons_succ]
      refine Wild.walk_simple rfl (by rfl) (by rfl) (fun K hK => ?_); go_big_quiet_op; first | (refine hK _ ?_; clear hK K) | (refine ⟨_, fun _ _ => rfl, hK _ ?_⟩; clear hK K)
      refine Wild.walk_nil ?_
      intro w6 hw6 _
      have HB6 : Hid (Below w.heap.size w w6) := Lib.hid (HB5.out.trans (Below.mono hw6 HB5.out.size))
      have HB56 : Hid (Below w5.heap.size w5 w6) := Lib.hid hw6
      clear hw6 hvs
      go_wp2_with fail
      apply wp_goto
      refine ⟨rfl, ?_⟩
      go_wp2_with fail
      rw [Exit.noGoto_ret]
      go_ret
      exact ⟨by rw [HV3.out]; rfl, HB6.out⟩
    have g1 : ¬ ((P : Int) ≤ (Qn : Int)) := by omega
    cases he : (E4 == P4)
    · have he' := he
      have HV3 : Hid (R = 3) := Lib.hid (by rw [HVV.out, HVO1.out, he, Bool.false_and, Bool.and_false]; rfl)
      refine Wild.region_b (fun _ => none) (fun _ => []) rfl (by kernel_rfl) (fun vs hvs => ?_)
      refine Wild.walk_simple rfl (by rfl) (by rfl) (fun K hK => ?_); go_big_quiet_op; first | (refine hK _ ?_; clear hK K) | (refine ⟨_, fun _ _ => rfl, hK _ ?_⟩; clear hK K)
      refine Wild.walk_simple rfl (by rfl) (by rfl) (fun K hK => ?_); go_big_quiet_op; first | (refine hK _ ?_; clear hK K) | (refine ⟨_, fun _ _ => rfl, hK _ ?_⟩; clear hK K)
      refine Wild.walk_cell 3 _ _ _ (.int .i64 h) _ rfl (by rfl) rfl rfl (fun w' hw => tree_H ((hw.1.block _ HTL5.out).trans HT5.out) HHIL.out rfl) Try.underlying3 rfl ?_
      simp only [Act.put, List.setIfInBounds_toArray, List.set_cons_zero, List.set_cons_succ]
      refine Wild.walk_simple rfl (by rfl) (by rfl) (fun K hK => ?_); go_big_quiet_op; first | (refine hK _ ?_; clear hK K) | (refine ⟨_, fun _ _ => rfl, hK _ ?_⟩; clear hK K)
      try simp only [ew]
      refine Wild.walk_simple rfl (by rfl) (by rfl) (fun K hK => ?_); go_big_quiet_op; first | (refine hK _ ?_; clear hK K) | (refine ⟨_, fun _ _ => rfl, hK _ ?_⟩; clear hK K)
      refine Wild.walk_simple rfl (by rfl) (by rfl) (fun K hK => ?_); go_big_quiet_op; first | (refine hK _ ?_; clear hK K) | (refine ⟨_, fun _ _ => rfl, hK _ ?_⟩; clear hK K)
      refine Wild.walk_simple rfl (by rfl) (by rfl) (fun K hK => ?_); go_big_quiet_op; first | (refine hK _ ?_; clear hK K) | (refine ⟨_, fun _ _ => rfl, hK _ ?_⟩; clear hK K)
      refine Wild.walk_simple rfl (by rfl) (by rfl) (fun K hK => ?_); go_big_quiet_op; first | (refine hK _ ?_; clear hK K) | (refine ⟨_, fun _ _ => rfl, hK _ ?_⟩; clear hK K)
      refine Wild.walk_run (.string ⟨E4.toArray⟩) rfl (by rfl) (fun w' hw => ?_) ?_
      · have h : Sl w' (.slice (some ⟨sb, so + (4 + n), none⟩) 4 Fc) E4 := GE4.out.later (HB5.out.trans (Below.mono hw.1 HB5.out.size))
        have := h.conv
        go_simp
      simp only [Act.put, List.setIfInBounds_toArray, List.set_cons_zero, List.set_cons_succ]
      refine Wild.walk_simple rfl (by rfl) (by rfl) (fun K hK => ?_); go_big_quiet_op; first | (refine hK _ ?_; clear hK K) | (refine ⟨_, fun _ _ => rfl, hK _ ?_⟩; clear hK K)
      refine Wild.walk_simple rfl (by rfl) (by rfl) (fun K hK => ?_); go_big_quiet_op; first | (refine hK _ ?_; clear hK K) | (refine ⟨_, fun _ _ => rfl, hK _ ?_⟩; clear hK K)
      refine Wild.walk_run (.string ⟨P4.toArray⟩) rfl (by rfl) (fun w' hw => ?_) ?_
      · have h : Sl w' (.slice (some ⟨pb, po, none⟩) 4 pc) P4 := GP4.out.later (HB5.out.trans (Below.mono hw.1 HB5.out.size))
        have := h.conv
        go_simp
      simp only [Act.put, List.setIfInBounds_toArray, List.set_cons_zero, List.set_cons_succ]
      refine Wild.walk_simple rfl (by rfl) (by rfl) (fun K hK => ?_); go_big_quiet_op; first | (refine hK _ ?_; clear hK K) | (refine ⟨_, fun _ _ => rfl, hK _ ?_⟩; clear hK K)
      refine Wild.walk_simple rfl (by rfl) (by rfl) (fun K hK => ?_); go_big_quiet_op; first | (refine hK _ ?_; clear hK K) | (refine ⟨_, fun _ _ => rfl, hK _ ?_⟩; clear hK K)
      refine Wild.walk_simple rfl (by rfl) (by rfl) (fun K hK => ?_); go_big_quiet_op; first | (refine hK _ ?_; clear hK K) | (refine ⟨_, fun _ _ => rfl, hK _ ?_⟩; clear hK K)
      refine Wild.walk_skip rfl (by rfl) ?_
      simp only [Act.put, List.setIfInBounds_toArray, List.set_cons_zero, List.set_cons_succ]
      refine Wild.walk_skip rfl (by rfl) ?_
      simp only [Act.put, List.setIfInBounds_toArray, List.set_cons_zero, List.set_cons_succ]
      refine Wild.walk_skip rfl (by rfl) ?_
      simp only [Act.put, List.setIfInBounds_toArray, List.set_cons_zero, List.set_cons_succ]
      refine Wild.walk_skip rfl (by rfl) ?_
      simp only [Act.put, List.setIfInBounds_toArray, List.set_cons_zero, List.set_cons_succ]
      refine Wild.walk_skip rfl (by rfl) ?_
      simp only [Act.put, List.setIfInBounds_toArray, List.set_cons_zero, List.set_cons_succ]
      refine Wild.walk_skip rfl (by rfl) ?_
      simp only [Act.put, List.setIfInBounds_toArray, List.set_cons_zero, List.set_cons_succ]
      refine Wild.walk_skip rfl (by rfl) ?_
      simp only [Act.put, List.setIfInBounds_toArray, List.set_cons_zero, List.set_cons_succ]
      refine Wild.walk_simple rfl (by rfl) (by rfl) (fun K hK => ?_); go_big_quiet_op; first | (refine hK _ ?_; clear hK K) | (refine ⟨_, fun _ _ => rfl, hK _ ?_⟩; clear hK K)
      refine Wild.walk_nil ?_
      intro w6 hw6 _
      have HB6 : Hid (Below w.heap.size w w6) := Lib.hid (HB5.out.trans (Below.mono hw6 HB5.out.size))
      have HB56 : Hid (Below w5.heap.size w5 w6) := Lib.hid hw6
      clear hw6 hvs
      go_wp2_with fail
      apply wp_goto
      refine ⟨rfl, ?_⟩
      go_wp2_with fail
      rw [Exit.noGoto_ret]
      go_ret
      exact ⟨by rw [HV3.out]; rfl, HB6.out⟩
    cases hs8 : (S8 == P8)
    · have he' := he
      have HV3 : Hid (R = 3) := Lib.hid (by rw [HVV.out, HVO1.out, hs8, Bool.and_false, Bool.and_false]; rfl)
      refine Wild.region_b (fun _ => none) (fun _ => []) rfl (by kernel_rfl) (fun vs hvs => ?_)
      refine Wild.walk_simple rfl (by rfl) (by rfl) (fun K hK => ?_); go_big_quiet_op; first | (refine hK _ ?_; clear hK K) | (refine ⟨_, fun _ _ => rfl, hK _ ?_⟩; clear hK K)
      refine Wild.walk_simple rfl (by rfl) (by rfl) (fun K hK => ?_); go_big_quiet_op; first | (refine hK _ ?_; clear hK K) | (refine ⟨_, fun _ _ => rfl, hK _ ?_⟩; clear hK K)
      refine Wild.walk_cell 3 _ _ _ (.int .i64 h) _ rfl (by rfl) rfl rfl (fun w' hw => tree_H ((hw.1.block _ HTL5.out).trans HT5.out) HHIL.out rfl) Try.underlying3 rfl ?_
      simp only [Act.put, List.setIfInBounds_toArray, List.set_cons_zero, List.set_cons_succ]
      refine Wild.walk_simple rfl (by rfl) (by rfl) (fun K hK => ?_); go_big_quiet_op; first | (refine hK _ ?_; clear hK K) | (refine ⟨_, fun _ _ => rfl, hK _ ?_⟩; clear hK K)
      try simp only [ew]
      refine Wild.walk_simple rfl (by rfl) (by rfl) (fun K hK => ?_); go_big_quiet_op; first | (refine hK _ ?_; clear hK K) | (refine ⟨_, fun _ _ => rfl, hK _ ?_⟩; clear hK K)
      refine Wild.walk_simple rfl (by rfl) (by rfl) (fun K hK => ?_); go_big_quiet_op; first | (refine hK _ ?_; clear hK K) | (refine ⟨_, fun _ _ => rfl, hK _ ?_⟩; clear hK K)
      refine Wild.walk_simple rfl (by rfl) (by rfl) (fun K hK => ?_); go_big_quiet_op; first | (refine hK _ ?_; clear hK K) | (refine ⟨_, fun _ _ => rfl, hK _ ?_⟩; clear hK K)
      refine Wild.walk_simple rfl (by rfl) (by rfl) (fun K hK => ?_); go_big_quiet_op; first | (refine hK _ ?_; clear hK K) | (refine ⟨_, fun _ _ => rfl, hK _ ?_⟩; clear hK K)
      refine Wild.walk_run (.string ⟨E4.toArray⟩) rfl (by rfl) (fun w' hw => ?_) ?_
      · have h : Sl w' (.slice (some ⟨sb, so + (4 + n), none⟩) 4 Fc) E4 := GE4.out.later (HB5.out.trans (Below.mono hw.1 HB5.out.size))
        have := h.conv
        go_simp
      simp only [Act.put, List.setIfInBounds_toArray, List.set_cons_zero, List.set_cons_succ]
      refine Wild.walk_simple rfl (by rfl) (by rfl) (fun K hK => ?_); go_big_quiet_op; first | (refine hK _ ?_; clear hK K) | (refine ⟨_, fun _ _ => rfl, hK _ ?_⟩; clear hK K)
      refine Wild.walk_simple rfl (by rfl) (by rfl) (fun K hK => ?_); go_big_quiet_op; first | (refine hK _ ?_; clear hK K) | (refine ⟨_, fun _ _ => rfl, hK _ ?_⟩; clear hK K)
      refine Wild.walk_run (.string ⟨P4.toArray⟩) rfl (by rfl) (fun w' hw => ?_) ?_
      · have h : Sl w' (.slice (some ⟨pb, po, none⟩) 4 pc) P4 := GP4.out.later (HB5.out.trans (Below.mono hw.1 HB5.out.size))
        have := h.conv
        go_simp
      simp only [Act.put, List.setIfInBounds_toArray, List.set_cons_zero, List.set_cons_succ]
      refine Wild.walk_simple rfl (by rfl) (by rfl) (fun K hK => ?_); go_big_quiet_op; first | (refine hK _ ?_; clear hK K) | (refine ⟨_, fun _ _ => rfl, hK _ ?_⟩; clear hK K)
      refine Wild.walk_simple rfl (by rfl) (by rfl) (fun K hK => ?_); go_big_quiet_op; first | (refine hK _ ?_; clear hK K) | (refine ⟨_, fun _ _ => rfl, hK _ ?_⟩; clear hK K)
      refine Wild.walk_simple rfl (by rfl) (by rfl) (fun K hK => ?_); go_big_quiet_op; first | (refine hK _ ?_; clear hK K) | (refine ⟨_, fun _ _ => rfl, hK _ ?_⟩; clear hK K)
      refine Wild.walk_simple rfl (by rfl) (by rfl) (fun K hK => ?_); go_big_quiet_op; first | (refine hK _ ?_; clear hK K) | (refine ⟨_, fun _ _ => rfl, hK _ ?_⟩; clear hK K)
      refine Wild.walk_simple rfl (by rfl) (by rfl) (fun K hK => ?_); go_big_quiet_op; first | (refine hK _ ?_; clear hK K) | (refine ⟨_, fun _ _ => rfl, hK _ ?_⟩; clear hK K)
      refine Wild.walk_run (.string ⟨S8.toArray⟩) rfl (by rfl) (fun w' hw => ?_) ?_
      · have h : Sl w' (.slice (some ⟨sb, so + 4, none⟩) 4 (sc - 4)) S8 := GS8.out.later (HB5.out.trans (Below.mono hw.1 HB5.out.size))
        have := h.conv
        go_simp
      simp only [Act.put, List.setIfInBounds_toArray, List.set_cons_zero, List.set_cons_succ]
      refine Wild.walk_simple rfl (by rfl) (by rfl) (fun K hK => ?_); go_big_quiet_op; first | (refine hK _ ?_; clear hK K) | (refine ⟨_, fun _ _ => rfl, hK _ ?_⟩; clear hK K)
      refine Wild.walk_simple rfl (by rfl) (by rfl) (fun K hK => ?_); go_big_quiet_op; first | (refine hK _ ?_; clear hK K) | (refine ⟨_, fun _ _ => rfl, hK _ ?_⟩; clear hK K)
      refine Wild.walk_run (.string ⟨P8.toArray⟩) rfl (by rfl) (fun w' hw => ?_) ?_
      · have h : Sl w' (.slice (some ⟨pb, po + 4, none⟩) 4 (pc - 4)) P8 := GP8.out.later (HB5.out.trans (Below.mono hw.1 HB5.out.size))
        have := h.conv
        go_simp
      simp only [Act.put, List.setIfInBounds_toArray, List.set_cons_zero, List.set_cons_succ]
      refine Wild.walk_simple rfl (by rfl) (by rfl) (fun K hK => ?_); go_big_quiet_op; first | (refine hK _ ?_; clear hK K) | (refine ⟨_, fun _ _ => rfl, hK _ ?_⟩; clear hK K)
      refine Wild.walk_simple rfl (by rfl) (by rfl) (fun K hK => ?_); go_big_quiet_op; first | (refine hK _ ?_; clear hK K) | (refine ⟨_, fun _ _ => rfl, hK _ ?_⟩; clear hK K)
      refine Wild.walk_nil ?_
      intro w6 hw6 _
      have HB6 : Hid (Below w.heap.size w w6) := Lib.hid (HB5.out.trans (Below.mono hw6 HB5.out.size))
      have HB56 : Hid (Below w5.heap.size w5 w6) := Lib.hid hw6
      clear hw6 hvs
      go_wp2_with fail
      apply wp_goto
      refine ⟨rfl, ?_⟩
      go_wp2_with fail
      rw [Exit.noGoto_ret]
      go_ret
      exact ⟨by rw [HV3.out]; rfl, HB6.out⟩
    have HVT : Hid (R = if verR p text s = p.drop 24 then 0 else 16) := Lib.hid (by rw [HVV.out, HVO1.out, he, hs8, decide_eq_true (by omega)]; rfl)
    refine Wild.region_b (fun _ => none) (fun _ => []) rfl (by kernel_rfl) (fun vs hvs => ?_)
    refine Wild.walk_simple rfl (by rfl) (by rfl) (fun K hK => ?_); go_big_quiet_op; first | (refine hK _ ?_; clear hK K) | (refine ⟨_, fun _ _ => rfl, hK _ ?_⟩; clear hK K)
    refine Wild.walk_simple rfl (by rfl) (by rfl) (fun K hK => ?_); go_big_quiet_op; first | (refine hK _ ?_; clear hK K) | (refine ⟨_, fun _ _ => rfl, hK _ ?_⟩; clear hK K)
    refine Wild.walk_cell 3 _ _ _ (.int .i64 h) _ rfl (by rfl) rfl rfl (fun w' hw => tree_H ((hw.1.block _ HTL5.out).trans HT5.out) HHIL.out rfl) Try.underlying3 rfl ?_
    simp only [Act.put, List.setIfInBounds_toArray, List.set_cons_zero, List.set_cons_succ]
    refine Wild.walk_simple rfl (by rfl) (by rfl) (fun K hK => ?_); go_big_quiet_op; first | (refine hK _ ?_; clear hK K) | (refine ⟨_, fun _ _ => rfl, hK _ ?_⟩; clear hK K)
    try simp only [ew]
    refine Wild.walk_simple rfl (by rfl) (by rfl) (fun K hK => ?_); go_big_quiet_op; first | (refine hK _ ?_; clear hK K) | (refine ⟨_, fun _ _ => rfl, hK _ ?_⟩; clear hK K)
    refine Wild.walk_simple rfl (by rfl) (by rfl) (fun K hK => ?_); go_big_quiet_op; first | (refine hK _ ?_; clear hK K) | (refine ⟨_, fun _ _ => rfl, hK _ ?_⟩; clear hK K)
    refine Wild.walk_simple rfl (by rfl) (by rfl) (fun K hK => ?_); go_big_quiet_op; first | (refine hK _ ?_; clear hK K) | (refine ⟨_, fun _ _ => rfl, hK _ ?_⟩; clear hK K)
    refine Wild.walk_simple rfl (by rfl) (by rfl) (fun K hK => ?_); go_big_quiet_op; first | (refine hK _ ?_; clear hK K) | (refine ⟨_, fun _ _ => rfl, hK _ ?_⟩; clear hK K)
    refine Wild.walk_run (.string ⟨E4.toArray⟩) rfl (by rfl) (fun w' hw => ?_) ?_
    · have h : Sl w' (.slice (some ⟨sb, so + (4 + n), none⟩) 4 Fc) E4 := GE4.out.later (HB5.out.trans (Below.mono hw.1 HB5.out.size))
      have := h.conv
      go_simp
    simp only [Act.put, List.setIfInBounds_toArray, List.set_cons_zero, List.set_cons_succ]
    refine Wild.walk_simple rfl (by rfl) (by rfl) (fun K hK => ?_); go_big_quiet_op; first | (refine hK _ ?_; clear hK K) | (refine ⟨_, fun _ _ => rfl, hK _ ?_⟩; clear hK K)
    refine Wild.walk_simple rfl (by rfl) (by rfl) (fun K hK => ?_); go_big_quiet_op; first | (refine hK _ ?_; clear hK K) | (refine ⟨_, fun _ _ => rfl, hK _ ?_⟩; clear hK K)
    refine Wild.walk_run (.string ⟨P4.toArray⟩) rfl (by rfl) (fun w' hw => ?_) ?_
    · have h : Sl w' (.slice (some ⟨pb, po, none⟩) 4 pc) P4 := GP4.out.later (HB5.out.trans (Below.mono hw.1 HB5.out.size))
      have := h.conv
      go_simp
    simp only [Act.put, List.setIfInBounds_toArray, List.set_cons_zero, List.set_cons_succ]
    refine Wild.walk_simple rfl (by rfl) (by rfl) (fun K hK => ?_); go_big_quiet_op; first | (refine hK _ ?_; clear hK K) | (refine ⟨_, fun _ _ => rfl, hK _ ?_⟩; clear hK K)
    refine Wild.walk_simple rfl (by rfl) (by rfl) (fun K hK => ?_); go_big_quiet_op; first | (refine hK _ ?_; clear hK K) | (refine ⟨_, fun _ _ => rfl, hK _ ?_⟩; clear hK K)
    refine Wild.walk_simple rfl (by rfl) (by rfl) (fun K hK => ?_); go_big_quiet_op; first | (refine hK _ ?_; clear hK K) | (refine ⟨_, fun _ _ => rfl, hK _ ?_⟩; clear hK K)
    refine Wild.walk_simple rfl (by rfl) (by rfl) (fun K hK => ?_); go_big_quiet_op; first | (refine hK _ ?_; clear hK K) | (refine ⟨_, fun _ _ => rfl, hK _ ?_⟩; clear hK K)
    refine Wild.walk_simple rfl (by rfl) (by rfl) (fun K hK => ?_); go_big_quiet_op; first | (refine hK _ ?_; clear hK K) | (refine ⟨_, fun _ _ => rfl, hK _ ?_⟩; clear hK K)
    refine Wild.walk_run (.string ⟨S8.toArray⟩) rfl (by rfl) (fun w' hw => ?_) ?_
    · have h : Sl w' (.slice (some ⟨sb, so + 4, none⟩) 4 (sc - 4)) S8 := GS8.out.later (HB5.out.trans (Below.mono hw.1 HB5.out.size))
      have := h.conv
      go_simp
    simp only [Act.put, List.setIfInBounds_toArray, List.set_cons_zero, List.set_cons_succ]
    refine Wild.walk_simple rfl (by rfl) (by rfl) (fun K hK => ?_); go_big_quiet_op; first | (refine hK _ ?_; clear hK K) | (refine ⟨_, fun _ _ => rfl, hK _ ?_⟩; clear hK K)
    refine Wild.walk_simple rfl (by rfl) (by rfl) (fun K hK => ?_); go_big_quiet_op; first | (refine hK _ ?_; clear hK K) | (refine ⟨_, fun _ _ => rfl, hK _ ?_⟩; clear hK K)
    refine Wild.walk_run (.string ⟨P8.toArray⟩) rfl (by rfl) (fun w' hw => ?_) ?_
    · have h : Sl w' (.slice (some ⟨pb, po + 4, none⟩) 4 (pc - 4)) P8 := GP8.out.later (HB5.out.trans (Below.mono hw.1 HB5.out.size))
      have := h.conv
      go_simp
    simp only [Act.put, List.setIfInBounds_toArray, List.set_cons_zero, List.set_cons_succ]
    refine Wild.walk_simple rfl (by rfl) (by rfl) (fun K hK => ?_); go_big_quiet_op; first | (refine hK _ ?_; clear hK K) | (refine ⟨_, fun _ _ => rfl, hK _ ?_⟩; clear hK K)
    refine Wild.walk_simple rfl (by rfl) (by rfl) (fun K hK => ?_); go_big_quiet_op; first | (refine hK _ ?_; clear hK K) | (refine ⟨_, fun _ _ => rfl, hK _ ?_⟩; clear hK K)
    refine Wild.walk_nil ?_
    intro w6 hw6 _
    have HB6 : Hid (Below w.heap.size w w6) := Lib.hid (HB5.out.trans (Below.mono hw6 HB5.out.size))
    have HB56 : Hid (Below w5.heap.size w5 w6) := Lib.hid hw6
    clear hw6 hvs
    go_upto_region 13 with (fail)
    try simp only [Act.put]
    have HCE := HXG.out hs8
    have HB26 : Hid (Below W2.heap.size W2 w6) := Lib.hid (HB25.out.trans (HB56.out.mono HB25.out.size))
    have HbS : Hid (b < W2.heap.size) := Lib.hid (Array.getElem?_eq_some_iff.1 HT2.out).1
    have HT6 : Hid (w6.heap[b]? = some (.cells (TreeV I zero32 k h).toArray 25 (0, 0))) := Lib.hid ((HB56.out.block _ HTL5.out).trans HT5.out)
    have HP6 : Hid (w6.heap[w.heap.size]? = some (.cells (Array.replicate 32 (.int .u8 0)) 23 (0, 0))) := Lib.hid ((HB26.out.block _ (by have := HSz2.out; have := HbS.out; omega)).trans HP2.out)
    have HX6 : Hid (w6.heap[w.heap.size + 1]? = some (.cells (Array.replicate 32 (.int .u8 0)) 23 (0, 0))) := Lib.hid ((HB26.out.block _ (by have := HSz2.out; have := HbS.out; omega)).trans HX2.out)
    have HR6 := Lib.hid (tree_ranges HT6.out HHIL.out).1
    have I16L : Hid ((Try.prog.info? 22).map (·.size) = some (B8 I).length) := Lib.hid (by rw [info_16]; simp [B8_length, HHIL.out])
    have ITL : Hid ((Try.prog.info? 25).map (·.size) = some (TreeV I zero32 k h).length) := Lib.hid (by rw [info_tree, TreeV_length _ _ _ _ HHIL.out rfl])
    have HQM : (Qn : Int) % 4294967296 = Qn := by have := HQ32.out; omega
    have HTX6 : Hid (Sl w6 (.slice ta text.length tc) text) := Lib.hid (HTW.out.later HB6.out)
    have HSX6 : Hid (Sl w6 (.slice (some ⟨sb, so + 4, none⟩) n (sc - 4)) X) := Lib.hid (GX.out.later HB6.out)
    simp only [HCE] at HCA
    have HB6b : Hid (w.heap.size ≤ w6.heap.size) := Lib.hid HB6.out.size
    have HbP : Hid (w.heap.size < b ∧ b < w6.heap.size) := Lib.hid ⟨by have := HSz2.out; omega, (Array.getElem?_eq_some_iff.1 HT6.out).1⟩
    have HRK : Hid (∀ w', Wild.Ck w.heap.size 23 (Array.replicate 32 (.int .u8 0)) (B8 C).toArray w6 w' → w'.rangeAt b 0 (B8 I)) := Lib.hid (fun w' hc => (tree_ranges ((hc.block _ HbP.out.2 (by have := HbP.out.1; omega)).trans HT6.out) HHIL.out).1)
    have HXK : Hid (∀ (w' : World) (v : Value) (l : List UInt8), Wild.Ck w.heap.size 23 (Array.replicate 32 (.int .u8 0)) (B8 C).toArray w6 w' → Sl w v l → Sl w' v l) := Lib.hid (fun w' v l hc hs => hs.later (HB6.out.trans (hc.below HB6b.out)))
    refine Wild.region_k (fun n => match n with | 9 => some (.tuple #[.agg (B8 C).toArray, .int .i64 0]) | _ => none) w.heap.size 23 (Array.replicate 32 (.int .u8 0)) (B8 C).toArray 13 rfl (by decide) HP6.out rfl (by kernel_rfl) (fun vs hvs => ?_)
    have h9 : vs 9 = .tuple #[.agg (B8 C).toArray, .int .i64 0] := hvs 9 _ rfl
    refine Wild.walk_simple rfl (by rfl) (by rfl) (fun K hK => ?_); go_big_quiet_op; first | (refine hK _ ?_; clear hK K) | (refine ⟨_, fun _ _ => rfl, hK _ ?_⟩; clear hK K)
    refine Wild.walk_load 22 _ _ _ (B8 I) _ rfl (by rfl) rfl rfl (fun w' hw => HRK.out w' hw.1) Try.underlying22 rfl I16L.out ?_
    simp only [Act.put, List.setIfInBounds_toArray, List.set_cons_zero, List.set_cons_succ]
    refine Wild.walk_simple rfl (by rfl) (by rfl) (fun K hK => ?_); go_big_quiet_op; first | (refine hK _ ?_; clear hK K) | (refine ⟨_, fun _ _ => rfl, hK _ ?_⟩; clear hK K)
    refine Wild.walk_simple rfl (by rfl) (by rfl) (fun K hK => ?_); go_big_quiet_op; first | (refine hK _ ?_; clear hK K) | (refine ⟨_, fun _ _ => rfl, hK _ ?_⟩; clear hK K)
    try simp only [HQM]
    refine Wild.walk_simple rfl (by rfl) (by rfl) (fun K hK => ?_); go_big_quiet_op; first | (refine hK _ ?_; clear hK K) | (refine ⟨_, fun _ _ => rfl, hK _ ?_⟩; clear hK K)
    refine Wild.walk_simple rfl (by rfl) (by rfl) (fun K hK => ?_); go_big_quiet_op; first | (refine hK _ ?_; clear hK K) | (refine ⟨_, fun _ _ => rfl, hK _ ?_⟩; clear hK K)
    refine Wild.walk_simple rfl (by rfl) (by rfl) (fun K hK => ?_); go_big_quiet_op; first | (refine hK _ ?_; clear hK K) | (refine ⟨_, fun _ _ => rfl, hK _ ?_⟩; clear hK K)
    refine Wild.walk_simple rfl (by rfl) (by rfl) (fun K hK => ?_); go_big_quiet_op; first | (refine hK _ ?_; clear hK K) | (refine ⟨_, fun _ _ => rfl, hK _ ?_⟩; clear hK K)
    refine Wild.walk_simple rfl (by rfl) (by rfl) (fun K hK => ?_); go_big_quiet_op; first | (refine hK _ ?_; clear hK K) | (refine ⟨_, fun _ _ => rfl, hK _ ?_⟩; clear hK K)
    simp only [Nat.add_sub_cancel_left]
    refine Wild.walk_wild _ rfl (by rfl) (fun w' hw K hK => ?_) ?_
    · go_simp
      go_at_call 33
      refine (HCA.out w' (HXK.out _ _ _ hw.1 HTW.out) (HXK.out _ _ _ hw.1 GX.out)).mono ?_
      rintro e w'' ⟨rfl, hb⟩
      exact hK.out _ _ (hw.1.more hb).1 (hw.1.more hb).2 rfl trivial
    rw [h9]
    simp only [Act.put, List.setIfInBounds_toArray, List.set_cons_zero, List.set_cons_succ]
    refine Wild.walk_simple rfl (by rfl) (by rfl) (fun K hK => ?_); go_big_quiet_op; first | (refine hK _ ?_; clear hK K) | (refine ⟨_, fun _ _ => rfl, hK _ ?_⟩; clear hK K)
    refine Wild.walk_simple rfl (by rfl) (by rfl) (fun K hK => ?_); go_big_quiet_op; first | (refine hK _ ?_; clear hK K) | (refine ⟨_, fun _ _ => rfl, hK _ ?_⟩; clear hK K)
    refine Wild.walk_simple rfl (by rfl) (by rfl) (fun K hK => ?_); go_big_quiet_op; first | (refine hK _ ?_; clear hK K) | (refine ⟨_, fun _ _ => rfl, hK _ ?_⟩; clear hK K)
    refine Wild.walk_wild _ rfl (by rfl) (fun w' hw K hK => ?_) ?_
    · obtain ⟨s1, s2, s3⟩ := hw.1.set
      rcases hw.1.one with e | e <;> exact wp_store_row 23 _ _ rfl _ (B8 C).toArray rfl rfl 23 _ e (arr32 HCL.out).1 (by first | exact (arr32 HCL.out).2 | rfl) (B8_oneA C) (hK.out undef _ s1 s2 trivial s3)
    simp only [Act.put]
    refine Wild.walk_simple rfl (by rfl) (by rfl) (fun K hK => ?_); go_big_quiet_op; first | (refine hK _ ?_; clear hK K) | (refine ⟨_, fun _ _ => rfl, hK _ ?_⟩; clear hK K)
    refine Wild.walk_nil ?_
    intro w8 hw8 hp8
    have HP8 := Lib.hid hp8
    have HB68 : Hid (Below w.heap.size w6 w8) := Lib.hid (hw8.below HB6b.out)
    have HB8 : Hid (Below w.heap.size w w8) := Lib.hid (HB6.out.trans HB68.out)
    have HX8 : Hid (w8.heap[w.heap.size + 1]? = some (.cells (Array.replicate 32 (.int .u8 0)) 23 (0, 0))) := Lib.hid ((hw8.block _ (Array.getElem?_eq_some_iff.1 HX6.out).1 (by omega)).trans HX6.out)
    have HT8 : Hid (w8.heap[b]? = some (.cells (TreeV I zero32 k h).toArray 25 (0, 0))) := Lib.hid ((hw8.block _ HbP.out.2 (by have := HbP.out.1; omega)).trans HT6.out)
    clear h9 hvs hw8 hp8 HP6 HX6 HT6 HR6 HTX6 HSX6
    go_upto_region 15 with (fail)
    try simp only [Act.put]
    have hltQ : Qn < P := by omega
    have HHS8 := HHS.out hltQ
    have HRO8 := HRO.out hltQ
    rw [HTZ.out] at HHS8 HRO8
    have HH8 := Lib.hid HHS8
    have HR8 := Lib.hid HRO8
    clear HHS8 HRO8
    have hE4 : 4 ≤ Ec := by omega
    clear hE1
    refine Wild.region_tail_b 14 (fun n => match n with | 9 => some (.rows [C]) | 10 => some (.fix (.agg (B8 D).toArray)) | 13 => some (.fix (.agg (B8 F).toArray)) | _ => none) (fun n => match n with | 10 => [9] | _ => []) rfl rfl rfl (by kernel_rfl) (by kernel_rfl) (by kernel_rfl) (fun vs hvs => ?_)
    have h10 : vs 10 = .agg (B8 D).toArray := hvs 10 _ rfl
    have h13 : vs 13 = .agg (B8 F).toArray := hvs 13 _ rfl
    simp only [List.take_succ_cons, List.take_zero]
    refine Wild.walk_load 25 _ _ _ (TreeV I zero32 k h) _ rfl (by rfl) rfl rfl (fun w' hw => rangeAt_blw (rangeAt_row HT8.out) hw.1) Try.underlying25 rfl ITL.out ?_
    simp only [Act.put, List.setIfInBounds_toArray, List.set_cons_zero, List.set_cons_succ]
    refine Wild.walk_simple rfl (by rfl) (by rfl) (fun K hK => ?_); go_big_quiet_op; first | (refine hK _ ?_; clear hK K) | (refine ⟨_, fun _ _ => rfl, hK _ ?_⟩; clear hK K)
    refine Wild.walk_load 25 _ _ _ (TreeV I zero32 k h) _ rfl (by rfl) rfl rfl (fun w' hw => rangeAt_blw (rangeAt_row HT8.out) hw.1) Try.underlying25 rfl ITL.out ?_
    simp only [Act.put, List.setIfInBounds_toArray, List.set_cons_zero, List.set_cons_succ]
    refine Wild.walk_simple rfl (by rfl) (by rfl) (fun K hK => ?_); go_big_quiet_op; first | (refine hK _ ?_; clear hK K) | (refine ⟨_, fun _ _ => rfl, hK _ ?_⟩; clear hK K)
    refine Wild.walk_cell 3 _ _ _ (.int .i64 h) _ rfl (by rfl) rfl rfl (fun w' hw => tree_H ((hw.1.block _ (Array.getElem?_eq_some_iff.1 HT8.out).1).trans HT8.out) HHIL.out rfl) Try.underlying3 rfl ?_
    simp only [Act.put, List.setIfInBounds_toArray, List.set_cons_zero, List.set_cons_succ]
    refine Wild.walk_simple rfl (by rfl) (by rfl) (fun K hK => ?_); go_big_quiet_op; first | (refine hK _ ?_; clear hK K) | (refine ⟨_, fun _ _ => rfl, hK _ ?_⟩; clear hK K)
    try simp only [ew]
    refine Wild.walk_simple rfl (by rfl) (by rfl) (fun K hK => ?_); go_big_quiet_op; first | (refine hK _ ?_; clear hK K) | (refine ⟨_, fun _ _ => rfl, hK _ ?_⟩; clear hK K)
    refine Wild.walk_simple rfl (by rfl) (by rfl) (fun K hK => ?_); go_big_quiet_op; first | (refine hK _ ?_; clear hK K) | (refine ⟨_, fun _ _ => rfl, hK _ ?_⟩; clear hK K)
    refine Wild.walk_simple rfl (by rfl) (by rfl) (fun K hK => ?_); go_big_quiet_op; first | (refine hK _ ?_; clear hK K) | (refine ⟨_, fun _ _ => rfl, hK _ ?_⟩; clear hK K)
    refine Wild.walk_wild _ rfl (by rfl) (fun w' hw K hK => ?_) ?_
    · have s1 : Sl w' (.slice (some ⟨w.heap.size, 0, none⟩) 32 32) C := Sl.ofBlock ((hw.1.block _ (Array.getElem?_eq_some_iff.1 HP8.out).1).trans HP8.out) HCL.out.symm (Nat.le_refl _) (by simp [maxLen]) fun i hi => by rw [Nat.zero_add, List.getElem?_toArray]
      go_simp
      exact hK.out (.slice (some ⟨w'.heap.size, 0, none⟩) 1 1) _ (hw.1.alloc hw.1.size _) ((Below.refl _ _).alloc (Nat.le_refl _) _) trivial (Rows.one _ s1)
    simp only [Act.put, List.setIfInBounds_toArray, List.set_cons_zero, List.set_cons_succ]
    refine Wild.walk_wild _ rfl (by rfl) (fun w' hw K hK => ?_) ?_
    · go_simp
      go_at_call 35
      refine (HH8.out _ w' (hw.2 9 (by simp [Wild.tab]) rfl)).mono ?_
      rintro e w'' ⟨rfl, hb⟩
      exact hK.out _ _ (hw.1.trans (hb.mono hw.1.size)) hb rfl trivial
    rw [h10]
    simp only [Act.put, List.setIfInBounds_toArray, List.set_cons_zero, List.set_cons_succ]
    refine Wild.walk_simple rfl (by rfl) (by rfl) (fun K hK => ?_); go_big_quiet_op; first | (refine hK _ ?_; clear hK K) | (refine ⟨_, fun _ _ => rfl, hK _ ?_⟩; clear hK K)
    refine Wild.walk_simple rfl (by rfl) (by rfl) (fun K hK => ?_); go_big_quiet_op; first | (refine hK _ ?_; clear hK K) | (refine ⟨_, fun _ _ => rfl, hK _ ?_⟩; clear hK K)
    refine Wild.walk_wild _ rfl (by rfl) (fun w' hw K hK => ?_) ?_
    · go_simp
      go_at_call 34
      refine (HR8.out _ w' (GB.out.later (HB8.out.trans (Below.mono hw.1 HB8.out.size)))).mono ?_
      rintro e w'' ⟨rfl, hb⟩
      exact hK.out _ _ (hw.1.trans (hb.mono hw.1.size)) hb rfl trivial
    rw [h13]
    simp only [Act.put, List.setIfInBounds_toArray, List.set_cons_zero, List.set_cons_succ]
    refine Wild.walk_nil ?_
    intro w9 hw9 _
    have HX9 : Hid (w9.heap[w.heap.size + 1]? = some (.cells (Array.replicate 32 (.int .u8 0)) 23 (0, 0))) := Lib.hid ((Below.block hw9 _ (Array.getElem?_eq_some_iff.1 HX8.out).1).trans HX8.out)
    have HB9 : Hid (Below w.heap.size w w9) := Lib.hid (HB8.out.trans (Below.mono hw9 HB8.out.size))
    refine wp_store_row 23 _ _ rfl _ (B8 F).toArray rfl rfl 23 _ HX9.out (arr32 HFL.out).1 (arr32 HFL.out).2 (B8_oneA F) ?_
    have HX10 := Lib.hid (setRow_heap w9 (w.heap.size + 1) _ (B8 F).toArray _ _ HX9.out)
    have HB10 : Hid (Below w.heap.size w (w9.setRow (w.heap.size + 1) (B8 F).toArray)) := Lib.hid (below_row HB9.out (by omega) _)
    generalize w9.setRow (w.heap.size + 1) (B8 F).toArray = w10 at *
    clear h10 h13 hvs hw9 HP8 HX8 HT8 HX9 HB9 HH8 HR8
    have HRV : Hid (R = if F = Pr then 0 else 16) := Lib.hid (by rw [HVT.out, HVF.out, HPr.out])
    cases hfp : (F == Pr)
    · have HR16 : Hid (R = 16) := Lib.hid (by rw [HRV.out, if_neg (by simpa using hfp)])
      go_upto_region 16 with (fail)
      try simp only [Act.put]
      refine Wild.region_b (fun _ => none) (fun _ => []) rfl (by kernel_rfl) (fun vs hvs => ?_)
      refine Wild.walk_simple rfl (by rfl) (by rfl) (fun K hK => ?_); go_big_quiet_op; first | (refine hK _ ?_; clear hK K) | (refine ⟨_, fun _ _ => rfl, hK _ ?_⟩; clear hK K)
      refine Wild.walk_run (.string ⟨F.toArray⟩) rfl (by rfl) (fun w' hw => ?_) ?_
      · have h : Sl w' (.slice (some ⟨w.heap.size + 1, 0, none⟩) 32 32) F := Sl.ofBlock ((hw.1.block _ (Array.getElem?_eq_some_iff.1 HX10.out).1).trans HX10.out) HFL.out.symm (Nat.le_refl _) (by simp [maxLen]) fun i hi => by rw [Nat.zero_add, List.getElem?_toArray]
        have := h.conv
        go_simp
      simp only [Act.put, List.setIfInBounds_toArray, List.set_cons_zero, List.set_cons_succ]
      refine Wild.walk_simple rfl (by rfl) (by rfl) (fun K hK => ?_); go_big_quiet_op; first | (refine hK _ ?_; clear hK K) | (refine ⟨_, fun _ _ => rfl, hK _ ?_⟩; clear hK K)
      refine Wild.walk_simple rfl (by rfl) (by rfl) (fun K hK => ?_); go_big_quiet_op; first | (refine hK _ ?_; clear hK K) | (refine ⟨_, fun _ _ => rfl, hK _ ?_⟩; clear hK K)
      refine Wild.walk_run (.string ⟨Pr.toArray⟩) rfl (by rfl) (fun w' hw => ?_) ?_
      · have h : Sl w' (.slice (some ⟨pb, po + 24, none⟩) 32 (pc - 24)) Pr := GPr.out.later (HB10.out.trans (Below.mono hw.1 HB10.out.size))
        have := h.conv
        go_simp
      simp only [Act.put, List.setIfInBounds_toArray, List.set_cons_zero, List.set_cons_succ]
      refine Wild.walk_simple rfl (by rfl) (by rfl) (fun K hK => ?_); go_big_quiet_op; first | (refine hK _ ?_; clear hK K) | (refine ⟨_, fun _ _ => rfl, hK _ ?_⟩; clear hK K)
      refine Wild.walk_nil ?_
      intro w11 hw11 _
      have HB11 : Hid (Below w.heap.size w w11) := Lib.hid (HB10.out.trans (Below.mono hw11 HB10.out.size))
      clear hw11 hvs
      go_wp2_with fail
      apply wp_label
      go_wp2_with fail
      rw [jump_ret]
      go_ret
      exact ⟨by rw [HR16.out]; rfl, HB11.out⟩
    · have HR0 : Hid (R = 0) := Lib.hid (by rw [HRV.out, if_pos (by simpa using hfp)])
      go_upto_region 16 with (fail)
      try simp only [Act.put]
      refine Wild.region_b (fun _ => none) (fun _ => []) rfl (by kernel_rfl) (fun vs hvs => ?_)
      refine Wild.walk_simple rfl (by rfl) (by rfl) (fun K hK => ?_); go_big_quiet_op; first | (refine hK _ ?_; clear hK K) | (refine ⟨_, fun _ _ => rfl, hK _ ?_⟩; clear hK K)
      refine Wild.walk_run (.string ⟨F.toArray⟩) rfl (by rfl) (fun w' hw => ?_) ?_
      · have h : Sl w' (.slice (some ⟨w.heap.size + 1, 0, none⟩) 32 32) F := Sl.ofBlock ((hw.1.block _ (Array.getElem?_eq_some_iff.1 HX10.out).1).trans HX10.out) HFL.out.symm (Nat.le_refl _) (by simp [maxLen]) fun i hi => by rw [Nat.zero_add, List.getElem?_toArray]
        have := h.conv
        go_simp
      simp only [Act.put, List.setIfInBounds_toArray, List.set_cons_zero, List.set_cons_succ]
      refine Wild.walk_simple rfl (by rfl) (by rfl) (fun K hK => ?_); go_big_quiet_op; first | (refine hK _ ?_; clear hK K) | (refine ⟨_, fun _ _ => rfl, hK _ ?_⟩; clear hK K)
      refine Wild.walk_simple rfl (by rfl) (by rfl) (fun K hK => ?_); go_big_quiet_op; first | (refine hK _ ?_; clear hK K) | (refine ⟨_, fun _ _ => rfl, hK _ ?_⟩; clear hK K)
      refine Wild.walk_run (.string ⟨Pr.toArray⟩) rfl (by rfl) (fun w' hw => ?_) ?_
      · have h : Sl w' (.slice (some ⟨pb, po + 24, none⟩) 32 (pc - 24)) Pr := GPr.out.later (HB10.out.trans (Below.mono hw.1 HB10.out.size))
        have := h.conv
        go_simp
      simp only [Act.put, List.setIfInBounds_toArray, List.set_cons_zero, List.set_cons_succ]
      refine Wild.walk_simple rfl (by rfl) (by rfl) (fun K hK => ?_); go_big_quiet_op; first | (refine hK _ ?_; clear hK K) | (refine ⟨_, fun _ _ => rfl, hK _ ?_⟩; clear hK K)
      refine Wild.walk_nil ?_
      intro w11 hw11 _
      have HB11 : Hid (Below w.heap.size w w11) := Lib.hid (HB10.out.trans (Below.mono hw11 HB10.out.size))
      clear hw11 hvs
      go_wp2_with fail
      apply wp_label
      go_wp2_with fail
      rw [jump_ret]
      go_ret
      exact ⟨by rw [HR0.out]; rfl, HB11.out⟩
    -->12
  · have HVO1 : Hid (R = 3) := Lib.hid (by rw [HVV.out, HVO.out, decide_eq_false hlen]; rfl)
    rw [HVO1.out]
    have hne : ¬ (s.length : Int) = ((n + 8 + 32 * h : Nat) : Int) := by omega
    obtain ⟨L, HL⟩ : ∃ L, Hid (L = n + 8 + 32 * h) := ⟨_, Lib.hid rfl⟩
    rw [← HL.out] at hne HLG
    clear ht hs hsh htl hok hp8 hvl hmk hlg hle HVV HVO HVR HR Hn HLN herr HLF hIL hkw hk hh1 hh5 m1 m2 hn9 hlen HP0 HS0 HB0
    generalize s.length = Ls at *
    go_enter Try.func20, Try.ntmps20
    go_upto_region 1 with (fail)
    apply wp_scope_fwd 0
    · rfl
    go_upto_region 2 with (fail)
    change Code.wp _ _ _ _ ((w.alloc (.cells (Array.replicate 32 (.int .u8 0)) 23)).alloc (.cells (Array.replicate 32 (.int .u8 0)) 23))
    rw [← HW0.out, ← HV.out]
    go_upto_region 6 with (first
      | (go_at_call 31; refine HOP.out.mono ?_; rintro e w1 ⟨rfl, b1⟩; have HB1 := Lib.hid b1; clear b1)
      | ((with_reducible refine at_store 25 _ _ rfl ?_); refine wpList_store_new rfl 25 _ _ rfl T rfl rfl 25 _ HTI.out (by rw [HTS.out]; rfl) HTO.out ?_))
    obtain ⟨W2, HW2, HB2, HT2, HP2, HX2, HS2⟩ := key.out w1 HB1.out
    rw [← HW2.out]
    generalize w1.heap.size = b at *
    go_wp2_with (first
      | ((with_reducible refine at_load 25 _ rfl ?_); refine wpList_load_row rfl 25 _ rfl _ rfl _ T (0, 0) _ HT2.out Try.underlying25 rfl HTI.out ?_)
      | (go_at_call 22; refine (HLG.out W2).mono ?_; rintro e w3 ⟨rfl, b3⟩; have HB3 := Lib.hid (HB2.out.trans (b3.mono HB2.out.size)); clear b3))
    apply wp_goto
    refine ⟨rfl, ?_⟩
    go_wp2_with fail
    rw [Exit.noGoto_ret]
    go_ret
    exact ⟨rfl, HB3.out⟩
theorem Verify_lms (pv tv sv : Value) (p text s : List UInt8) (w : World) (hp : Sl w pv p) (ht : Sl w tv text) (hs : Sl w sv s) (htl : text.length ≤ 1000000) (hsl : s.length ≤ 1000000) :
    Calls Try.prog 20 #[pv, tv, sv] w fun e w' => e = .returned (.int .i64 (verV p text s)) ∧ Below w.heap.size w w' := by
  cases hok : openOk p
  · have e : verV p text s = 3 := by rw [verV, verOk, hok]; rfl
    rw [e]
    exact Verify_closed pv tv sv p text s w hp ht hs hok
  · exact Verify_main pv tv sv p text s w hp ht hs htl hsl hok
end Go.Proofs.Ytcnelahmbfggcaa

/- The walks of the document's may, typed, leaves, key, Long (chapter 05). -/
namespace Go.Proofs.Ytcnelahmbfggcaa
open Go Go.RowKit
set_option maxRecDepth 100000
set_option maxHeartbeats 1000000

theorem info_treeR : (Try.prog.info? 36).map (·.size) = some 50 := by kernel_rfl
theorem may_ref5 (I S : List UInt8) (k h : Int) (w : World) (hI : I.length = 16) (hS : S.length = 32) :
    Calls Try.prog 36 #[.agg (TreeV I S k h).toArray] w fun e w' => e = .returned (.bool (mayT k h)) ∧ Below w.heap.size w w' := by
  obtain ⟨V, HV, HB, HR⟩ : ∃ V, Hid (V = w.alloc (.cells (TreeV I S k h).toArray 36)) ∧ Hid (Below w.heap.size w V) ∧ Hid (V.heap[w.heap.size]? = some (.cells (TreeV I S k h).toArray 36 (0, 0))) := ⟨_, Lib.hid rfl, Lib.hid ((Below.refl _ _).alloc (Nat.le_refl _) _), Lib.hid (heap_alloc_new _ _)⟩
  have HT := Lib.hid (Type_ref k V)
  have hw := tree_W HR.out hI hS
  have hh := tree_H HR.out hI hS
  obtain ⟨R, Hr⟩ : ∃ R, Hid (R = mayT k h) := ⟨_, Lib.hid rfl⟩
  have HRR : Hid (R = (isW k && decide (1 ≤ h ∧ h ≤ 5))) := Lib.hid Hr.out
  rw [← Hr.out]
  clear Hr hI hS
  by_cases hkk : isW k = true
  · rw [hkk, Bool.true_and] at HRR
    have he : errW k = 0 := by rw [errW, if_pos hkk]
    rw [he] at HT
    clear he hkk
    go_enter Try.func36, Try.ntmps36
    go_upto_region 1 with (fail)
    rw [← HV.out]
    go_wp2_with (go_at_call 52; refine HT.out.mono ?_; rintro e w1 ⟨rfl, rfl⟩)
    all_goals (go_ret; refine ⟨?_, HB.out⟩; rw [HRR.out]; simp_all <;> omega)
  · have hkf : isW k = false := by simpa using hkk
    have he : errW k = 1 := by rw [errW, if_neg hkk]
    rw [hkf, Bool.false_and] at HRR
    rw [he] at HT
    have HF := HRR.out
    subst HF
    clear he hkk hkf
    go_enter Try.func36, Try.ntmps36
    go_upto_region 1 with (fail)
    rw [← HV.out]
    go_wp2_with (go_at_call 52; refine HT.out.mono ?_; rintro e w1 ⟨rfl, rfl⟩)
    go_ret
    exact ⟨rfl, HB.out⟩
theorem Long_ref5 (I S : List UInt8) (k h : Int) (w : World) (hI : I.length = 16) (hS : S.length = 32) :
    Calls Try.prog 21 #[.agg (TreeV I S k h).toArray] w fun e w' => e = .returned (.tuple #[.int .i64 (longL k h), .int .i64 (errL k h)]) ∧ Below w.heap.size w w' := by
  obtain ⟨V, HV, HB, HR⟩ : ∃ V, Hid (V = w.alloc (.cells (TreeV I S k h).toArray 36)) ∧ Hid (Below w.heap.size w V) ∧ Hid (V.heap[w.heap.size]? = some (.cells (TreeV I S k h).toArray 36 (0, 0))) := ⟨_, Lib.hid rfl, Lib.hid ((Below.refl _ _).alloc (Nat.le_refl _) _), Lib.hid (heap_alloc_new _ _)⟩
  have IT : Hid ((Try.prog.info? 36).map (·.size) = some (TreeV I S k h).toArray.size) := Lib.hid (by rw [info_treeR, List.size_toArray, TreeV_length _ _ _ _ hI hS])
  have HMA := Lib.hid (may_ref5 I S k h V hI hS)
  have HLO := Lib.hid (fun w' => Long_ref k w')
  have HHI := Lib.hid hI
  have HHS := Lib.hid hS
  by_cases hm : mayT k h = true
  · obtain ⟨h1, h2, h3⟩ := (mayT_iff k h).1 hm
    have he : errW k = 0 := by rw [errW, if_pos h1]
    have hmb := manyW_bd k
    simp only [hm] at HMA
    simp only [h1, if_true, he] at HLO
    have HL : Hid (longL k h = 44 + 32 * manyW k + 32 * h ∧ errL k h = 0) := Lib.hid ⟨by rw [longL, if_pos hm], by rw [errL, if_pos hm]⟩
    rw [HL.out.1, HL.out.2]
    obtain ⟨M, HM⟩ : ∃ M, Hid (M = manyW k) := ⟨_, Lib.hid rfl⟩
    rw [← HM.out] at hmb ⊢
    simp only [← HM.out] at HLO
    obtain ⟨m1, m2⟩ := hmb
    have HE : Hid (4 + (36 + 32 * M) + 4 + 32 * h = 44 + 32 * M + 32 * h) := Lib.hid (by omega)
    clear hm h1 he hI hS
    go_enter Try.func21, Try.ntmps21
    go_upto_region 1 with (fail)
    rw [← HV.out]
    go_wp2_with (first
      | ((with_reducible refine at_load 36 _ rfl ?_); refine wpList_load_row rfl 36 _ rfl _ rfl _ (TreeV I S k h).toArray (0, 0) _ HR.out Try.underlying36 rfl IT.out ?_)
      | (go_at_call 36; refine HMA.out.mono ?_; rintro e w1 ⟨rfl, b1⟩; have HB1 := Lib.hid b1; have HR1 := Lib.hid ((b1.block _ (Array.getElem?_eq_some_iff.1 HR.out).1).trans HR.out); have kw := tree_W HR1.out HHI.out HHS.out; clear b1)
      | (go_at_call 37; refine (HLO.out w1).mono ?_; rintro e w2 ⟨rfl, b2⟩; have HB2 := Lib.hid (HB1.out.trans (b2.mono HB1.out.size)); have HR2 := Lib.hid ((b2.block _ (Array.getElem?_eq_some_iff.1 HR1.out).1).trans HR1.out); have kh := tree_H HR2.out HHI.out HHS.out; clear b2))
    go_ret2
    exact ⟨by rw [← HE.out]; rfl, HB.out.trans (HB2.out.mono HB.out.size)⟩
  · have hmf : mayT k h = false := by simpa using hm
    rw [hmf] at HMA
    have HL : Hid (longL k h = 0 ∧ errL k h = 1) := Lib.hid ⟨by rw [longL, if_neg hm], by rw [errL, if_neg hm]⟩
    rw [HL.out.1, HL.out.2]
    clear hm hmf hI hS
    go_enter Try.func21, Try.ntmps21
    go_upto_region 1 with (fail)
    rw [← HV.out]
    go_wp2_with (first
      | ((with_reducible refine at_load 36 _ rfl ?_); refine wpList_load_row rfl 36 _ rfl _ rfl _ (TreeV I S k h).toArray (0, 0) _ HR.out Try.underlying36 rfl IT.out ?_)
      | (go_at_call 36; refine HMA.out.mono ?_; rintro e w1 ⟨rfl, b1⟩; have HB1 := Lib.hid b1; clear b1))
    go_ret2
    exact ⟨rfl, HB.out.trans (HB1.out.mono HB.out.size)⟩
theorem built_treeR (parts : List (Nat × Value)) : Try.prog.built 36 parts = Instr.fill ([(0, 16), (16, 32), (48, 1), (49, 1)].toArray[·]?) (TreeV zero16 zero32 0 0).toArray parts := by kernel_rfl
theorem treeR_all (I S : List UInt8) (k h : Int) (hI : I.length = 16) (hS : S.length = 32) :
    Try.prog.built 36 [(0, .agg (B8 I).toArray), (1, .agg (B8 S).toArray), (2, .int .i64 k), (3, .int .i64 h)] = some (TreeV I S k h).toArray := by
  rw [built_treeR]
  have h1 := fill_step ([(0, 16), (16, 32), (48, 1), (49, 1)].toArray[·]?) [] (B8 zero16) (B8 I) (B8 zero32 ++ [.int .i64 0, .int .i64 0]) 0 (.agg (B8 I).toArray) [(1, .agg (B8 S).toArray), (2, .int .i64 k), (3, .int .i64 h)] (by rw [B8_length, hI]; rfl) rfl (by rw [B8_length, B8_length, hI]; rfl)
  have h2 := fill_step ([(0, 16), (16, 32), (48, 1), (49, 1)].toArray[·]?) (B8 I) (B8 zero32) (B8 S) [.int .i64 0, .int .i64 0] 1 (.agg (B8 S).toArray) [(2, .int .i64 k), (3, .int .i64 h)] (by rw [B8_length, B8_length, hI, hS]; rfl) rfl (by rw [B8_length, B8_length, hS]; rfl)
  have h3 := fill_step ([(0, 16), (16, 32), (48, 1), (49, 1)].toArray[·]?) (B8 I ++ B8 S) [.int .i64 0] [.int .i64 k] [.int .i64 0] 2 (.int .i64 k) [(3, .int .i64 h)] (by rw [List.length_append, B8_length, B8_length, hI, hS]; rfl) rfl rfl
  have h4 := fill_step ([(0, 16), (16, 32), (48, 1), (49, 1)].toArray[·]?) (B8 I ++ (B8 S ++ [.int .i64 k])) [.int .i64 0] [.int .i64 h] [] 3 (.int .i64 h) [] (by rw [List.length_append, List.length_append, B8_length, B8_length, hI, hS]; rfl) rfl rfl
  simp only [List.nil_append, List.append_assoc, List.cons_append, List.append_nil] at h1 h2 h3 h4
  have h0 : (TreeV zero16 zero32 0 0).toArray = (B8 zero16 ++ (B8 zero32 ++ [Value.int .i64 0, Value.int .i64 0])).toArray := rfl
  rw [h0, h1, h2, h3, h4]
  rfl
end Go.Proofs.Ytcnelahmbfggcaa


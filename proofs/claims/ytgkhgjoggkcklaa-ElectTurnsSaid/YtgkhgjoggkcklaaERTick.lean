/- The walk of the document's Tick. -/
import Derived.Test.YtgkhgjoggkcklaaERHear
import Derived.Test.YtgkhgjoggkcklaaETick
namespace Go.Proofs.Ytgkhgjoggkcklaa
open Go Go.RowKit
set_option maxRecDepth 100000
set_option maxHeartbeats 4000000
attribute [local irreducible] Wild.walk

theorem Tick_ref (F T : Int) (me : Nat) (vv : Value) (wait : Int) (E : El) (w : World) (hv : SlI w .i64 vv E.votes) (hr : RightS F T) (hl : E.votes.length ≤ 1000) (hme : me < E.votes.length)
    (hw1 : 0 ≤ wait ∧ wait ≤ 100000) (hw2 : 0 ≤ E.clock ∧ E.clock ≤ 1000000000000) (hw3 : 0 ≤ E.view ∧ E.view ≤ 100000) (hw4 : 0 ≤ E.votes.getD me 0 ∧ E.votes.getD me 0 ≤ 100000) :
    Calls Try.prog 19 #[.agg (ElV F T me E.view vv E.clock wait)] w fun e w' => ∃ vv', e = .returned (.tuple #[.agg (ElV F T me (tickE F T me wait E).view vv' (tickE F T me wait E).clock (tickW wait E)), .agg #[.int .i64 (tickVo F me wait E), .int .i64 (tickVi F T me wait E)]]) ∧ SlI w' .i64 vv' (tickE F T me wait E).votes ∧ (∀ k, vv'.ownBlock = some k → vv.ownBlock = some k ∨ w.heap.size ≤ k) ∧ Below w.heap.size w w' := by
  obtain ⟨EE, HEE⟩ : ∃ EE, Hid (EE = E) := ⟨_, Lib.hid rfl⟩
  have HTL := Lib.hid (tickVotes_length me EE)
  have HQ : Hid (tickE F T me wait EE = (if early wait EE then ⟨EE.view, EE.votes, EE.clock + 1⟩ else El.settled F T me ⟨EE.view, tickVotes me EE, 0⟩) ∧ tickW wait EE = (if early wait EE then wait else min (2 * wait) 4096) ∧ tickVo F me wait EE = (if early wait EE then 0 else joinO F me (tickVotes me EE) (tickO me EE)) ∧ tickVi F T me wait EE = (if early wait EE then 0 else enterO F T me EE.view (tickVotes me EE) 0)) := Lib.hid ⟨rfl, rfl, rfl, rfl⟩
  rw [← HEE.out]
  obtain ⟨TE, HTE⟩ : ∃ x, Hid (x = tickE F T me wait EE) := ⟨_, Lib.hid rfl⟩
  obtain ⟨TW, HTW⟩ : ∃ x, Hid (x = tickW wait EE) := ⟨_, Lib.hid rfl⟩
  obtain ⟨TO, HTO⟩ : ∃ x, Hid (x = tickVo F me wait EE) := ⟨_, Lib.hid rfl⟩
  obtain ⟨TI, HTI⟩ : ∃ x, Hid (x = tickVi F T me wait EE) := ⟨_, Lib.hid rfl⟩
  rw [← HTE.out, ← HTW.out, ← HTO.out, ← HTI.out] at HQ ⊢
  obtain ⟨L, HL⟩ : ∃ L, Hid (L = tickVotes me EE) := ⟨_, Lib.hid rfl⟩
  obtain ⟨O, HO0⟩ : ∃ O, Hid (O = tickO me EE) := ⟨_, Lib.hid rfl⟩
  obtain ⟨mine, HM⟩ : ∃ m, Hid (m = mineV me EE) := ⟨_, Lib.hid rfl⟩
  have HL2 : Hid (L = if EE.votes.getD me 0 < mine then EE.votes.set me mine else EE.votes) := Lib.hid (by rw [HL.out, HM.out]; rfl)
  have HO2 : Hid (O = if EE.votes.getD me 0 < mine then mine else 0) := Lib.hid (by rw [HO0.out, HM.out]; rfl)
  have HM2 : Hid (mine = min (max (EE.votes.getD me 0) EE.view + 1) 100000) := Lib.hid (by rw [HM.out]; rfl)
  rw [← HL.out] at HQ HTL
  rw [← HO0.out] at HQ
  have HER : Hid (early wait EE = decide (EE.clock + 1 < wait)) := Lib.hid rfl
  obtain ⟨er, Her⟩ : ∃ b, Hid (b = early wait EE) := ⟨_, Lib.hid rfl⟩
  rw [← Her.out] at HQ HER
  clear Her HM HL HO0 HTE HTW HTO HTI
  have hEE := HEE.out
  subst hEE
  clear HEE
  obtain ⟨view, votes, clock⟩ := EE
  simp only at hv hl hme hw2 hw3 hw4 HQ HL2 HO2 HM2 HER HTL ⊢
  obtain ⟨N, HN⟩ : ∃ N, Hid (N = votes.length) := ⟨_, Lib.hid rfl⟩
  have HAV : Hid (∀ k, vv.ownBlock = some k → k < w.heap.size) := Lib.hid (fun k hk => hv.blt (by omega) k hk)
  have HST := Lib.hid (fun vv w' h => settle_ref F T me view vv 0 (min (2 * wait) 4096) O 0 L w' h hr (by rw [HTL.out]; exact hl) (by rw [HTL.out]; exact hme))
  have HVO := Lib.hid (fun v' w' h => voted_any F T me view v' (clock + 1) wait mine me votes w' h (by omega) hme)
  have HSW := Lib.hid hv
  have HME := Lib.hid hme
  obtain ⟨va, vc, rfl⟩ := hv.shape
  rw [← HN.out] at HSW HAV hme HTL ⊢
  obtain ⟨W0, HW0, HB0, HS0, HE0⟩ : ∃ V, Hid (V = w.alloc (.cells (ElV F T me view (.slice va N vc) clock wait) 30)) ∧ Hid (Below w.heap.size w V) ∧ Hid (V.heap.size = w.heap.size + 1) ∧ Hid (ElB V w.heap.size 30 F T me view (.slice va N vc) clock wait) := ⟨_, Lib.hid rfl, Lib.hid ((Below.refl _ _).alloc (Nat.le_refl _) _), Lib.hid (by simp), Lib.hid (heap_alloc_new _ _)⟩
  obtain ⟨W1, HW1, HB1, HS1, HE1, HR1⟩ : ∃ V, Hid (V = W0.alloc (.cells (ElV 0 0 0 0 (.slice none 0 0) 0 0) 30)) ∧ Hid (Below w.heap.size w V) ∧ Hid (V.heap.size = w.heap.size + 2) ∧ Hid (ElB V w.heap.size 30 F T me view (.slice va N vc) clock wait) ∧ Hid (V.heap[w.heap.size + 1]? = some (.cells (ElV 0 0 0 0 (.slice none 0 0) 0 0) 30 (0, 0))) :=
    ⟨_, Lib.hid rfl, Lib.hid (HB0.out.alloc HB0.out.size _), Lib.hid (by simp [HS0.out]), Lib.hid ((heap_alloc_old _ _ _ (by rw [HS0.out]; omega)).trans HE0.out), Lib.hid (by rw [← HS0.out]; exact heap_alloc_new _ _)⟩
  obtain ⟨V, HV, HB, HS, HE, HR, HP⟩ : ∃ V, Hid (V = W1.alloc (.cells #[.int .i64 0, .int .i64 0] 42)) ∧ Hid (Below w.heap.size w V) ∧ Hid (V.heap.size = w.heap.size + 3) ∧ Hid (ElB V w.heap.size 30 F T me view (.slice va N vc) clock wait) ∧ Hid (V.heap[w.heap.size + 1]? = some (.cells (ElV 0 0 0 0 (.slice none 0 0) 0 0) 30 (0, 0))) ∧ Hid (OutB V (w.heap.size + 2) 42 0 0) :=
    ⟨_, Lib.hid rfl, Lib.hid (HB1.out.alloc HB1.out.size _), Lib.hid (by simp [HS1.out]), Lib.hid ((heap_alloc_old _ _ _ (by rw [HS1.out]; omega)).trans HE1.out), Lib.hid ((heap_alloc_old _ _ _ (by rw [HS1.out]; omega)).trans HR1.out), Lib.hid (by rw [← HS1.out]; exact heap_alloc_new _ _)⟩
  have HSV := Lib.hid (HSW.out.later HB.out)
  obtain ⟨X, HX, HXK, HXS, HXE, HXR, HXP⟩ : ∃ X, Hid (X = V.setCell ⟨w.heap.size, 5, none⟩ (.int .i64 (clock + 1))) ∧ Hid (Kept (fun k => k = w.heap.size) V X) ∧ Hid (X.heap.size = w.heap.size + 3) ∧ Hid (ElB X w.heap.size 30 F T me view (.slice va N vc) (clock + 1) wait) ∧ Hid (X.heap[w.heap.size + 1]? = some (.cells (ElV 0 0 0 0 (.slice none 0 0) 0 0) 30 (0, 0))) ∧ Hid (OutB X (w.heap.size + 2) 42 0 0) :=
    ⟨_, Lib.hid rfl, Lib.hid ((Kept.refl (fun k => k = w.heap.size) V).set (p := ⟨w.heap.size, 5, none⟩) (.inl rfl) _), Lib.hid (by simp [HS.out]), Lib.hid (HE.out.setClock _), Lib.hid ((Below.heap_setCell _ _ _ _ (by show w.heap.size + 1 ≠ w.heap.size; omega)).trans HR.out), Lib.hid (HP.out.setOther (p := ⟨w.heap.size, 5, none⟩) (by show w.heap.size + 2 ≠ w.heap.size; omega) _)⟩
  have HXV : Hid (SlI X .i64 (.slice va N vc) votes) := Lib.hid (HSV.out.kept HXK.out (fun b h => by have := HAV.out b h; omega))
  have HXB : Hid (Below w.heap.size w X) := Lib.hid (HB.out.trans (HXK.out.below (B := w.heap.size) (by rw [HS.out]; omega) (fun k h => Nat.le_of_eq h.symm)))
  obtain ⟨c0, c1, c2, c3, c4, c5, c6⟩ := HE.out.cells
  have f5 := HE.out.frozen 5
  obtain ⟨hw2a, hw2b⟩ := hw2
  obtain ⟨hw1a, hw1b⟩ := hw1
  clear hv
  go_enter Try.func19, Try.ntmps19
  go_upto_region 1 with (fail)
  change Code.wp _ _ _ _ (((w.alloc (.cells (ElV F T me view (.slice va N vc) clock wait) 30)).alloc (.cells (ElV 0 0 0 0 (.slice none 0 0) 0 0) 30)).alloc (.cells #[.int .i64 0, .int .i64 0] 42))
  rw [← HW0.out, ← HW1.out, ← HV.out]
  go_upto_region 2 with (fail)
  rw [← HX.out]
  clear c0 c1 c2 c3 c4 c5 c6 f5
  obtain ⟨c0, c1, c2, c3, c4, c5, c6⟩ := HXE.out.cells
  cases er
  · have dE : decide (clock + 1 < wait) = false := HER.out.symm
    have nE : ¬ (clock + 1 < wait) := of_decide_eq_false dE
    obtain ⟨vb, vo, rfl, -, q1, hcv'⟩ := HXV.out.cellAt (i := me) HME.out
    have HCV := Lib.hid (hcv' me HME.out)
    obtain ⟨z, Hz⟩ : ∃ z, Hid (z = votes.getD me 0) := ⟨_, Lib.hid rfl⟩
    rw [← Hz.out] at HCV HL2 HO2 HM2 hw4
    clear hcv'
    obtain ⟨Y, HY, HYE, HYR, HYP, HYO, HYS, HYV, HYB, HYC⟩ : ∃ Y, Hid (Y = X.alloc (.cells #[.int .i64 0, .int .i64 0] 42)) ∧ Hid (ElB Y w.heap.size 30 F T me view (.slice (some ⟨vb, vo, none⟩) N vc) (clock + 1) wait) ∧ Hid (Y.heap[w.heap.size + 1]? = some (.cells (ElV 0 0 0 0 (.slice none 0 0) 0 0) 30 (0, 0))) ∧ Hid (OutB Y (w.heap.size + 2) 42 0 0) ∧ Hid (OutB Y (w.heap.size + 3) 42 0 0) ∧ Hid (Y.heap.size = w.heap.size + 4) ∧ Hid (SlI Y .i64 (.slice (some ⟨vb, vo, none⟩) N vc) votes) ∧ Hid (Below w.heap.size w Y) ∧ Hid (Y.cell? ⟨vb, vo + me, none⟩ = some (.int .i64 z)) :=
      ⟨_, Lib.hid rfl, Lib.hid ((heap_alloc_old _ _ _ (by rw [HXS.out]; omega)).trans HXE.out), Lib.hid ((heap_alloc_old _ _ _ (by rw [HXS.out]; omega)).trans HXR.out), Lib.hid ((heap_alloc_old _ _ _ (by rw [HXS.out]; omega)).trans HXP.out), Lib.hid (by rw [← HXS.out]; exact heap_alloc_new _ _), Lib.hid (by simp [HXS.out]), Lib.hid (HXV.out.later ((Below.refl _ _).alloc (Nat.le_refl _) _)), Lib.hid (HXB.out.alloc HXB.out.size _), Lib.hid (by rw [((Below.refl X.heap.size X).alloc (Nat.le_refl _) (.cells #[.int .i64 0, .int .i64 0] 42)).cell (World.block_lt_of_cell? _ _ HCV.out)]; exact HCV.out)⟩
    go_upto_region 5 with ((with_reducible refine at_store 42 _ _ rfl ?_); refine wpList_store_new rfl 42 _ _ rfl #[.int .i64 0, .int .i64 0] rfl rfl 42 _ info_rout out_one ?_)
    rw [← HY.out]
    have HXSz := HXS.out
    rw [HXSz]
    clear c0 c1 c2 c3 c4 c5 c6 HXSz
    obtain ⟨hw4a, hw4b⟩ := hw4
    obtain ⟨hw3a, hw3b⟩ := hw3
    have hmi : (me : Int) < N := by omega
    have ew : IntKind.i64.wrap (max z view + 1) = max z view + 1 := by rw [IntKind.wrap_i64]; omega
    try simp only [Act.put]
    refine Wild.region_b (fun _ => none) (fun _ => []) rfl (by kernel_rfl) (fun vs _ => ?_)
    refine Wild.walk_simple rfl (by rfl) (by rfl) (fun K hK => ?_); go_big_quiet_op; first | (refine hK _ ?_; clear hK K) | (refine ⟨_, fun _ _ => rfl, hK _ ?_⟩; clear hK K)
    refine Wild.walk_cell 24 _ _ _ (.slice (some ⟨vb, vo, none⟩) N vc) _ rfl (by rfl) rfl rfl (fun w' hw => (HYE.out.later hw.1).cells.2.2.2.2.1) Try.underlying24 rfl ?_
    simp only [Act.put, List.setIfInBounds_toArray, List.set_cons_zero, List.set_cons_succ]
    refine Wild.walk_simple rfl (by rfl) (by rfl) (fun K hK => ?_); go_big_quiet_op; first | (refine hK _ ?_; clear hK K) | (refine ⟨_, fun _ _ => rfl, hK _ ?_⟩; clear hK K)
    refine Wild.walk_cell 3 _ _ _ (.int .i64 me) _ rfl (by rfl) rfl rfl (fun w' hw => (HYE.out.later hw.1).cells.2.2.1) Try.underlying3 rfl ?_
    simp only [Act.put, List.setIfInBounds_toArray, List.set_cons_zero, List.set_cons_succ]
    refine Wild.walk_simple rfl (by rfl) (by rfl) (fun K hK => ?_); go_big_quiet_op; first | (refine hK _ ?_; clear hK K) | (refine ⟨_, fun _ _ => rfl, hK _ ?_⟩; clear hK K)
    refine Wild.walk_cell 3 _ _ _ (.int .i64 z) _ rfl (by rfl) rfl rfl (fun w' hw => (hw.1.cell (World.block_lt_of_cell? _ _ HYC.out)).trans HYC.out) Try.underlying3 rfl ?_
    simp only [Act.put, List.setIfInBounds_toArray, List.set_cons_zero, List.set_cons_succ]
    refine Wild.walk_simple rfl (by rfl) (by rfl) (fun K hK => ?_); go_big_quiet_op; first | (refine hK _ ?_; clear hK K) | (refine ⟨_, fun _ _ => rfl, hK _ ?_⟩; clear hK K)
    refine Wild.walk_cell 3 _ _ _ (.int .i64 view) _ rfl (by rfl) rfl rfl (fun w' hw => (HYE.out.later hw.1).cells.2.2.2.1) Try.underlying3 rfl ?_
    simp only [Act.put, List.setIfInBounds_toArray, List.set_cons_zero, List.set_cons_succ]
    refine Wild.walk_run (.int .i64 (max z view)) rfl (by rfl) (fun w' _ => ?_) ?_
    · unfold execOp
      go_simp
    simp only [Act.put, List.setIfInBounds_toArray, List.set_cons_zero, List.set_cons_succ]
    refine Wild.walk_simple rfl (by rfl) (by rfl) (fun K hK => ?_); go_big_quiet_op; first | (refine hK _ ?_; clear hK K) | (refine ⟨_, fun _ _ => rfl, hK _ ?_⟩; clear hK K)
    refine Wild.walk_run (.int .i64 (min (max z view + 1) 100000)) rfl (by rfl) (fun w' _ => ?_) ?_
    · unfold execOp
      go_simp
    simp only [Act.put, List.setIfInBounds_toArray, List.set_cons_zero, List.set_cons_succ]
    refine Wild.walk_simple rfl (by rfl) (by rfl) (fun K hK => ?_); go_big_quiet_op; first | (refine hK _ ?_; clear hK K) | (refine ⟨_, fun _ _ => rfl, hK _ ?_⟩; clear hK K)
    refine Wild.walk_nil ?_
    intro w5 hw5 hf5
    rw [← HM2.out]
    have H5B : Hid (Below Y.heap.size Y w5) := Lib.hid hw5
    have H5Z : Hid (w.heap.size + 4 ≤ w5.heap.size) := Lib.hid (by rw [← HYS.out]; exact hw5.size)
    have H5E := Lib.hid (HYE.out.later H5B.out)
    have H5R : Hid (w5.heap[w.heap.size + 1]? = some (.cells (ElV 0 0 0 0 (.slice none 0 0) 0 0) 30 (0, 0))) := Lib.hid ((H5B.out.block _ (by rw [HYS.out]; omega)).trans HYR.out)
    have H5P : Hid (OutB w5 (w.heap.size + 2) 42 0 0) := Lib.hid ((H5B.out.block _ (by rw [HYS.out]; omega)).trans HYP.out)
    have H5O : Hid (OutB w5 (w.heap.size + 3) 42 0 0) := Lib.hid ((H5B.out.block _ (by rw [HYS.out]; omega)).trans HYO.out)
    have H5V := Lib.hid (HYV.out.later H5B.out)
    have H5W : Hid (Below w.heap.size w w5) := Lib.hid (HYB.out.trans (H5B.out.mono HYB.out.size))
    have h5c : w5.cell? ⟨vb, vo + me, none⟩ = some (.int .i64 z) := (H5B.out.cell (World.block_lt_of_cell? _ _ HYC.out)).trans HYC.out
    clear hw5 hf5 HW0 HW1 HV HX HB0 HB1 HS0 HS1 HE0 HE1 HR1 HE HR HP HXK HXE HXR HXP HXV HCV ew HY HYE HYR HYP HYO HYV HYC
    obtain ⟨c0, c1, c2, c3, c4, c5, c6⟩ := H5E.out.cells
    by_cases hj : z < mine
    · have dj : decide (z < mine) = true := decide_eq_true hj
      rw [if_pos hj] at HL2 HO2
      go_upto_region 8 with (first
        | ((with_reducible refine at_load 30 _ rfl ?_); refine wpList_load_row rfl 30 _ rfl _ rfl _ (ElV F T me view (.slice (some ⟨vb, vo, none⟩) N vc) (clock + 1) wait) (0, 0) _ H5E.out Try.underlying30 rfl info_rel ?_)
        | (go_at_call 38; refine (HVO.out _ w5 H5V.out).mono ?_; rintro e w3 ⟨v3, rfl, s3, a3, b3⟩; have HS3 := Lib.hid s3; have HA3 := Lib.hid a3; have HB3 := Lib.hid b3; obtain ⟨xa, xc, hv3⟩ := s3.shape; rw [List.length_set, ← HN.out] at hv3; subst hv3; have HE3 := Lib.hid (H5E.out.later b3); clear s3 a3 b3)
        | ((with_reducible refine at_store 30 _ _ rfl ?_); refine wpList_store_row rfl 30 _ _ rfl w.heap.size (ElV F T me view (.slice xa N xc) (clock + 1) wait) rfl rfl 30 _ HE3.out info_rel rfl ElV_one ?_))
      have HO3 : Hid (OutB w3 (w.heap.size + 3) 42 0 0) := Lib.hid ((HB3.out.block _ H5O.out.lt).trans H5O.out)
      have HOX : Hid (OutB (w3.setRow w.heap.size (ElV F T me view (.slice xa N xc) (clock + 1) wait)) (w.heap.size + 3) 42 0 0) := Lib.hid ((setRow_other _ _ _ _ (by omega)).trans HO3.out)
      have f0 := HOX.out.frozen 0
      have g0 := HOX.out.cells.1
      go_upto_region 9 with (fail)
      have HKX : Hid (Kept (fun k => k = w.heap.size ∨ k = w.heap.size + 3) w3 ((w3.setRow w.heap.size (ElV F T me view (.slice xa N xc) (clock + 1) wait)).setCell ⟨w.heap.size + 3, 0, none⟩ (.int .i64 mine))) := Lib.hid (Kept.set (S := fun k => k = w.heap.size ∨ k = w.heap.size + 3) (a := w3) (b := w3.setRow w.heap.size (ElV F T me view (.slice xa N xc) (clock + 1) wait)) (p := ⟨w.heap.size + 3, 0, none⟩) ⟨rfl, rfl, rfl, by simp, fun k _ hk => setRow_other _ _ _ _ (fun e => hk (.inl e))⟩ (.inl (.inr rfl)) _)
      obtain ⟨W8, HW8, H8E, H8Q, H8R, H8P, H8L, H8W, H8Z⟩ : ∃ W, Hid (W = (w3.setRow w.heap.size (ElV F T me view (.slice xa N xc) (clock + 1) wait)).setCell ⟨w.heap.size + 3, 0, none⟩ (.int .i64 mine)) ∧ Hid (ElB W w.heap.size 30 F T me view (.slice xa N xc) (clock + 1) wait) ∧ Hid (OutB W (w.heap.size + 3) 42 O 0) ∧ Hid (W.heap[w.heap.size + 1]? = some (.cells (ElV 0 0 0 0 (.slice none 0 0) 0 0) 30 (0, 0))) ∧ Hid (OutB W (w.heap.size + 2) 42 0 0) ∧ Hid (SlI W .i64 (.slice xa N xc) L) ∧ Hid (Below w.heap.size w W) ∧ Hid (w.heap.size + 4 ≤ W.heap.size) :=
        ⟨_, Lib.hid rfl, Lib.hid (ElB.setOther (p := ⟨w.heap.size + 3, 0, none⟩) (setRow_heap _ _ _ _ _ _ HE3.out) (by show w.heap.size ≠ w.heap.size + 3; omega) _), Lib.hid (by rw [HO2.out]; exact HOX.out.set0 mine),
          Lib.hid ((HKX.out.block _ (by have h1 := H5Z.out; have h2 := HB3.out.size; omega) (by omega)).trans ((HB3.out.block _ (by have := H5Z.out; omega)).trans H5R.out)),
          Lib.hid ((HKX.out.block _ (by have h1 := H5Z.out; have h2 := HB3.out.size; omega) (by omega)).trans ((HB3.out.block _ (by have := H5Z.out; omega)).trans H5P.out)),
          Lib.hid (by rw [HL2.out]; exact HS3.out.kept HKX.out (fun k hk e => by have h1 := HA3.out k hk; have h2 := H5Z.out; rcases e with e | e <;> omega)),
          Lib.hid ((H5W.out.trans (HB3.out.mono H5W.out.size)).trans (HKX.out.below (Nat.le_trans H5W.out.size HB3.out.size) (fun k h => by omega))),
          Lib.hid (by have h1 := H5Z.out; have h2 := HB3.out.size; have h3 := HKX.out.size; omega)⟩
      rw [← HW8.out]
      have H8A : Hid (∀ k, (Value.slice xa N xc).ownBlock = some k → (Value.slice (some ⟨vb, vo, none⟩) N vc).ownBlock = some k ∨ w.heap.size + 4 ≤ k) := Lib.hid (fun k h => .inr (by have h1 := HA3.out k h; have h2 := H5Z.out; omega))
      clear HW8 f0 g0 HKX h5c
      try simp only [Act.put]
      clear c0 c1 c2 c3 c4 c5 c6
      obtain ⟨c0, c1, c2, c3, c4, c5, c6⟩ := H8E.out.cells
      have f5 := H8E.out.frozen 5
      have H85 := Lib.hid (H8E.out.setClock 0)
      have k6 := H85.out.cells.2.2.2.2.2.2
      have f6 := H85.out.frozen 6
      go_upto_region 11 with (fail)
      clear c0 c1 c2 c3 c4 c5 c6 f5 k6 f6
      obtain ⟨W9, HW9, H9K, H9E, H9Q⟩ : ∃ W, Hid (W = (W8.setCell ⟨w.heap.size, 5, none⟩ (.int .i64 0)).setCell ⟨w.heap.size, 6, none⟩ (.int .i64 (min (2 * wait) 4096))) ∧ Hid (Kept (fun k => k = w.heap.size) W8 W) ∧ Hid (ElB W w.heap.size 30 F T me view (.slice xa N xc) 0 (min (2 * wait) 4096)) ∧ Hid (OutB W (w.heap.size + 3) 42 O 0) :=
        ⟨_, Lib.hid rfl, Lib.hid (((Kept.refl (fun k => k = w.heap.size) W8).set (p := ⟨w.heap.size, 5, none⟩) (.inl rfl) _).set (p := ⟨w.heap.size, 6, none⟩) (.inl rfl) _), Lib.hid (H85.out.setWait _),
          Lib.hid ((H8Q.out.setOther (p := ⟨w.heap.size, 5, none⟩) (by show w.heap.size + 3 ≠ w.heap.size; omega) _).setOther (p := ⟨w.heap.size, 6, none⟩) (by show w.heap.size + 3 ≠ w.heap.size; omega) _)⟩
      rw [← HW9.out]
      have H9Z : Hid (w.heap.size + 4 ≤ W9.heap.size) := Lib.hid (Nat.le_trans H8Z.out H9K.out.size)
      have H9P : Hid (OutB W9 (w.heap.size + 2) 42 0 0) := Lib.hid ((H9K.out.block _ (by have := H8Z.out; omega) (by omega)).trans H8P.out)
      have H9R : Hid (W9.heap[w.heap.size + 1]? = some (.cells (ElV 0 0 0 0 (.slice none 0 0) 0 0) 30 (0, 0))) := Lib.hid ((H9K.out.block _ (by have := H8Z.out; omega) (by omega)).trans H8R.out)
      have H9L := Lib.hid (H8L.out.kept H9K.out (fun b hb e => by rcases H8A.out b hb with h | h; (have := HAV.out b h; omega); omega))
      have H9W : Hid (Below w.heap.size w W9) := Lib.hid (H8W.out.trans (H9K.out.below H8W.out.size (fun k h => by omega)))
      clear HW9 H85 H8E H8P H8R H8L H8Q H9K
      go_wp2_with (first
        | ((with_reducible refine at_load 30 _ rfl ?_); refine wpList_load_row rfl 30 _ rfl _ rfl _ (ElV F T me view (.slice xa N xc) 0 (min (2 * wait) 4096)) (0, 0) _ H9E.out Try.underlying30 rfl info_rel ?_)
        | ((with_reducible refine at_load 42 _ rfl ?_); refine wpList_load_row rfl 42 _ rfl _ rfl _ #[.int .i64 O, .int .i64 0] (0, 0) _ H9Q.out Try.underlying42 rfl info_rout ?_)
        | (go_at_call 39; refine (HST.out _ W9 H9L.out).mono ?_; rintro e w4 ⟨v4, rfl, s4, a4, b4⟩; have HS4 := Lib.hid s4; have HA4 := Lib.hid a4; have HB4 := Lib.hid b4; obtain ⟨ya, yc, hv4⟩ := s4.shape; subst hv4; clear s4 a4 b4; have HR4 : Hid (w4.heap[w.heap.size + 1]? = some (.cells (ElV 0 0 0 0 (.slice none 0 0) 0 0) 30 (0, 0))) := Lib.hid ((HB4.out.block _ (by have := H9Z.out; omega)).trans H9R.out); have HP4 : Hid (w4.heap[w.heap.size + 2]? = some (.cells #[.int .i64 0, .int .i64 0] 42 (0, 0))) := Lib.hid ((HB4.out.block _ (by have := H9Z.out; omega)).trans H9P.out); have HN4 : Hid (∀ k', (Value.slice ya (joined F me L).length yc).ownBlock = some k' → (Value.slice (some ⟨vb, vo, none⟩) N vc).ownBlock = some k' ∨ w.heap.size + 4 ≤ k') := Lib.hid (fun k' h' => (HA4.out k' h').elim (fun h1 => H8A.out k' h1) (fun h1 => .inr (by have hz3 := H9Z.out; omega))); have HPx : Hid ((w4.setRow (w.heap.size + 1) (ElV F T me (enterV F T me view L) (.slice ya (joined F me L).length yc) (enterC F T me view L 0) (min (2 * wait) 4096))).heap[w.heap.size + 2]? = some (.cells #[.int .i64 0, .int .i64 0] 42 (0, 0))) := Lib.hid ((setRow_other _ _ _ _ (by omega)).trans HP4.out); have HYa : Hid (((w4.setRow (w.heap.size + 1) (ElV F T me (enterV F T me view L) (.slice ya (joined F me L).length yc) (enterC F T me view L 0) (min (2 * wait) 4096))).setRow (w.heap.size + 2) #[.int .i64 (joinO F me L O), .int .i64 (enterO F T me view L 0)]).heap[w.heap.size + 1]? = some (.cells (ElV F T me (enterV F T me view L) (.slice ya (joined F me L).length yc) (enterC F T me view L 0) (min (2 * wait) 4096)) 30 (0, 0))) := Lib.hid ((setRow_other _ _ _ _ (by omega)).trans (setRow_heap _ _ _ _ _ _ HR4.out)); have HYb : Hid (((w4.setRow (w.heap.size + 1) (ElV F T me (enterV F T me view L) (.slice ya (joined F me L).length yc) (enterC F T me view L 0) (min (2 * wait) 4096))).setRow (w.heap.size + 2) #[.int .i64 (joinO F me L O), .int .i64 (enterO F T me view L 0)]).heap[w.heap.size + 2]? = some (.cells #[.int .i64 (joinO F me L O), .int .i64 (enterO F T me view L 0)] 42 (0, 0))) := Lib.hid (setRow_heap _ _ _ _ _ _ HPx.out); have HYk : Hid (Kept (fun k => k = w.heap.size + 1 ∨ k = w.heap.size + 2) w4 ((w4.setRow (w.heap.size + 1) (ElV F T me (enterV F T me view L) (.slice ya (joined F me L).length yc) (enterC F T me view L 0) (min (2 * wait) 4096))).setRow (w.heap.size + 2) #[.int .i64 (joinO F me L O), .int .i64 (enterO F T me view L 0)])) := Lib.hid (⟨rfl, rfl, rfl, by simp, fun k _ hk => (setRow_other _ _ _ _ (fun e => hk (.inr e))).trans (setRow_other _ _ _ _ (fun e => hk (.inl e)))⟩))
        | ((with_reducible refine at_store 30 _ _ rfl ?_); refine wpList_store_row rfl 30 _ _ rfl (w.heap.size + 1) (ElV F T me (enterV F T me view L) (.slice ya (joined F me L).length yc) (enterC F T me view L 0) (min (2 * wait) 4096)) rfl rfl 30 _ HR4.out info_rel rfl ElV_one ?_)
        | ((with_reducible refine at_store 42 _ _ rfl ?_); refine wpList_store_row rfl 42 _ _ rfl (w.heap.size + 2) #[.int .i64 (joinO F me L O), .int .i64 (enterO F T me view L 0)] rfl rfl 42 _ HPx.out info_rout rfl out_one ?_))
      have HYs := Lib.hid (HS4.out.kept HYk.out (fun k hk e => by rcases HN4.out k hk with h | h; (have := HAV.out k h; omega); omega))
      have HYw : Hid (Below w.heap.size w ((w4.setRow (w.heap.size + 1) (ElV F T me (enterV F T me view L) (.slice ya (joined F me L).length yc) (enterC F T me view L 0) (min (2 * wait) 4096))).setRow (w.heap.size + 2) #[.int .i64 (joinO F me L O), .int .i64 (enterO F T me view L 0)])) := Lib.hid (below_row (below_row (H9W.out.trans (HB4.out.mono H9W.out.size)) (by omega) _) (by omega) _)
      exact bodyPost_ret (results_cell2 rfl _ _ (w.heap.size + 1) (w.heap.size + 2) 30 42 _ _ (0, 0) (0, 0) _ _ rfl HYa.out Try.underlying30 rfl info_rel rfl HYb.out Try.underlying42 rfl info_rout) rfl ⟨_, by rw [HQ.out.1, HQ.out.2.1, HQ.out.2.2.1, HQ.out.2.2.2]; rfl, by rw [HQ.out.1]; exact HYs.out, fun k hk => (HN4.out k hk).imp id (fun h => by omega), HYw.out⟩
    · have dj : decide (z < mine) = false := decide_eq_false hj
      rw [if_neg hj] at HL2 HO2
      go_upto_region 9 with (fail)
      obtain ⟨W8, HW8, H8E, H8Q, H8R, H8P, H8L, H8W, H8Z⟩ : ∃ W, Hid (W = w5) ∧ Hid (ElB W w.heap.size 30 F T me view (.slice (some ⟨vb, vo, none⟩) N vc) (clock + 1) wait) ∧ Hid (OutB W (w.heap.size + 3) 42 O 0) ∧ Hid (W.heap[w.heap.size + 1]? = some (.cells (ElV 0 0 0 0 (.slice none 0 0) 0 0) 30 (0, 0))) ∧ Hid (OutB W (w.heap.size + 2) 42 0 0) ∧ Hid (SlI W .i64 (.slice (some ⟨vb, vo, none⟩) N vc) L) ∧ Hid (Below w.heap.size w W) ∧ Hid (w.heap.size + 4 ≤ W.heap.size) :=
        ⟨_, Lib.hid rfl, H5E, Lib.hid (by rw [HO2.out]; exact H5O.out), H5R, H5P, Lib.hid (by rw [HL2.out]; exact H5V.out), H5W, H5Z⟩
      rw [← HW8.out]
      obtain ⟨xa, Hxa⟩ : ∃ xa : Option Addr, Hid (xa = some ⟨vb, vo, none⟩) := ⟨_, Lib.hid rfl⟩
      obtain ⟨xc, Hxc⟩ : ∃ xc : Nat, Hid (xc = vc) := ⟨_, Lib.hid rfl⟩
      have H8A : Hid (∀ k, (Value.slice xa N xc).ownBlock = some k → (Value.slice (some ⟨vb, vo, none⟩) N vc).ownBlock = some k ∨ w.heap.size + 4 ≤ k) := Lib.hid (fun k h => .inl (by rw [Hxa.out, Hxc.out] at h; exact h))
      have H8E' : Hid (ElB W8 w.heap.size 30 F T me view (.slice xa N xc) (clock + 1) wait) := Lib.hid (by rw [Hxa.out, Hxc.out]; exact H8E.out)
      have H8L' : Hid (SlI W8 .i64 (.slice xa N xc) L) := Lib.hid (by rw [Hxa.out, Hxc.out]; exact H8L.out)
      clear H8E H8L HW8 h5c
      have H8E := H8E'
      have H8L := H8L'
      clear H8E' H8L'
      try simp only [Act.put]
      clear c0 c1 c2 c3 c4 c5 c6
      obtain ⟨c0, c1, c2, c3, c4, c5, c6⟩ := H8E.out.cells
      have f5 := H8E.out.frozen 5
      have H85 := Lib.hid (H8E.out.setClock 0)
      have k6 := H85.out.cells.2.2.2.2.2.2
      have f6 := H85.out.frozen 6
      go_upto_region 11 with (fail)
      clear c0 c1 c2 c3 c4 c5 c6 f5 k6 f6
      obtain ⟨W9, HW9, H9K, H9E, H9Q⟩ : ∃ W, Hid (W = (W8.setCell ⟨w.heap.size, 5, none⟩ (.int .i64 0)).setCell ⟨w.heap.size, 6, none⟩ (.int .i64 (min (2 * wait) 4096))) ∧ Hid (Kept (fun k => k = w.heap.size) W8 W) ∧ Hid (ElB W w.heap.size 30 F T me view (.slice xa N xc) 0 (min (2 * wait) 4096)) ∧ Hid (OutB W (w.heap.size + 3) 42 O 0) :=
        ⟨_, Lib.hid rfl, Lib.hid (((Kept.refl (fun k => k = w.heap.size) W8).set (p := ⟨w.heap.size, 5, none⟩) (.inl rfl) _).set (p := ⟨w.heap.size, 6, none⟩) (.inl rfl) _), Lib.hid (H85.out.setWait _),
          Lib.hid ((H8Q.out.setOther (p := ⟨w.heap.size, 5, none⟩) (by show w.heap.size + 3 ≠ w.heap.size; omega) _).setOther (p := ⟨w.heap.size, 6, none⟩) (by show w.heap.size + 3 ≠ w.heap.size; omega) _)⟩
      rw [← HW9.out]
      have H9Z : Hid (w.heap.size + 4 ≤ W9.heap.size) := Lib.hid (Nat.le_trans H8Z.out H9K.out.size)
      have H9P : Hid (OutB W9 (w.heap.size + 2) 42 0 0) := Lib.hid ((H9K.out.block _ (by have := H8Z.out; omega) (by omega)).trans H8P.out)
      have H9R : Hid (W9.heap[w.heap.size + 1]? = some (.cells (ElV 0 0 0 0 (.slice none 0 0) 0 0) 30 (0, 0))) := Lib.hid ((H9K.out.block _ (by have := H8Z.out; omega) (by omega)).trans H8R.out)
      have H9L := Lib.hid (H8L.out.kept H9K.out (fun b hb e => by rcases H8A.out b hb with h | h; (have := HAV.out b h; omega); omega))
      have H9W : Hid (Below w.heap.size w W9) := Lib.hid (H8W.out.trans (H9K.out.below H8W.out.size (fun k h => by omega)))
      clear HW9 H85 H8E H8P H8R H8L H8Q H9K
      go_wp2_with (first
        | ((with_reducible refine at_load 30 _ rfl ?_); refine wpList_load_row rfl 30 _ rfl _ rfl _ (ElV F T me view (.slice xa N xc) 0 (min (2 * wait) 4096)) (0, 0) _ H9E.out Try.underlying30 rfl info_rel ?_)
        | ((with_reducible refine at_load 42 _ rfl ?_); refine wpList_load_row rfl 42 _ rfl _ rfl _ #[.int .i64 O, .int .i64 0] (0, 0) _ H9Q.out Try.underlying42 rfl info_rout ?_)
        | (go_at_call 39; refine (HST.out _ W9 H9L.out).mono ?_; rintro e w4 ⟨v4, rfl, s4, a4, b4⟩; have HS4 := Lib.hid s4; have HA4 := Lib.hid a4; have HB4 := Lib.hid b4; obtain ⟨ya, yc, hv4⟩ := s4.shape; subst hv4; clear s4 a4 b4; have HR4 : Hid (w4.heap[w.heap.size + 1]? = some (.cells (ElV 0 0 0 0 (.slice none 0 0) 0 0) 30 (0, 0))) := Lib.hid ((HB4.out.block _ (by have := H9Z.out; omega)).trans H9R.out); have HP4 : Hid (w4.heap[w.heap.size + 2]? = some (.cells #[.int .i64 0, .int .i64 0] 42 (0, 0))) := Lib.hid ((HB4.out.block _ (by have := H9Z.out; omega)).trans H9P.out); have HN4 : Hid (∀ k', (Value.slice ya (joined F me L).length yc).ownBlock = some k' → (Value.slice (some ⟨vb, vo, none⟩) N vc).ownBlock = some k' ∨ w.heap.size + 4 ≤ k') := Lib.hid (fun k' h' => (HA4.out k' h').elim (fun h1 => H8A.out k' h1) (fun h1 => .inr (by have hz3 := H9Z.out; omega))); have HPx : Hid ((w4.setRow (w.heap.size + 1) (ElV F T me (enterV F T me view L) (.slice ya (joined F me L).length yc) (enterC F T me view L 0) (min (2 * wait) 4096))).heap[w.heap.size + 2]? = some (.cells #[.int .i64 0, .int .i64 0] 42 (0, 0))) := Lib.hid ((setRow_other _ _ _ _ (by omega)).trans HP4.out); have HYa : Hid (((w4.setRow (w.heap.size + 1) (ElV F T me (enterV F T me view L) (.slice ya (joined F me L).length yc) (enterC F T me view L 0) (min (2 * wait) 4096))).setRow (w.heap.size + 2) #[.int .i64 (joinO F me L O), .int .i64 (enterO F T me view L 0)]).heap[w.heap.size + 1]? = some (.cells (ElV F T me (enterV F T me view L) (.slice ya (joined F me L).length yc) (enterC F T me view L 0) (min (2 * wait) 4096)) 30 (0, 0))) := Lib.hid ((setRow_other _ _ _ _ (by omega)).trans (setRow_heap _ _ _ _ _ _ HR4.out)); have HYb : Hid (((w4.setRow (w.heap.size + 1) (ElV F T me (enterV F T me view L) (.slice ya (joined F me L).length yc) (enterC F T me view L 0) (min (2 * wait) 4096))).setRow (w.heap.size + 2) #[.int .i64 (joinO F me L O), .int .i64 (enterO F T me view L 0)]).heap[w.heap.size + 2]? = some (.cells #[.int .i64 (joinO F me L O), .int .i64 (enterO F T me view L 0)] 42 (0, 0))) := Lib.hid (setRow_heap _ _ _ _ _ _ HPx.out); have HYk : Hid (Kept (fun k => k = w.heap.size + 1 ∨ k = w.heap.size + 2) w4 ((w4.setRow (w.heap.size + 1) (ElV F T me (enterV F T me view L) (.slice ya (joined F me L).length yc) (enterC F T me view L 0) (min (2 * wait) 4096))).setRow (w.heap.size + 2) #[.int .i64 (joinO F me L O), .int .i64 (enterO F T me view L 0)])) := Lib.hid (⟨rfl, rfl, rfl, by simp, fun k _ hk => (setRow_other _ _ _ _ (fun e => hk (.inr e))).trans (setRow_other _ _ _ _ (fun e => hk (.inl e)))⟩))
        | ((with_reducible refine at_store 30 _ _ rfl ?_); refine wpList_store_row rfl 30 _ _ rfl (w.heap.size + 1) (ElV F T me (enterV F T me view L) (.slice ya (joined F me L).length yc) (enterC F T me view L 0) (min (2 * wait) 4096)) rfl rfl 30 _ HR4.out info_rel rfl ElV_one ?_)
        | ((with_reducible refine at_store 42 _ _ rfl ?_); refine wpList_store_row rfl 42 _ _ rfl (w.heap.size + 2) #[.int .i64 (joinO F me L O), .int .i64 (enterO F T me view L 0)] rfl rfl 42 _ HPx.out info_rout rfl out_one ?_))
      have HYs := Lib.hid (HS4.out.kept HYk.out (fun k hk e => by rcases HN4.out k hk with h | h; (have := HAV.out k h; omega); omega))
      have HYw : Hid (Below w.heap.size w ((w4.setRow (w.heap.size + 1) (ElV F T me (enterV F T me view L) (.slice ya (joined F me L).length yc) (enterC F T me view L 0) (min (2 * wait) 4096))).setRow (w.heap.size + 2) #[.int .i64 (joinO F me L O), .int .i64 (enterO F T me view L 0)])) := Lib.hid (below_row (below_row (H9W.out.trans (HB4.out.mono H9W.out.size)) (by omega) _) (by omega) _)
      exact bodyPost_ret (results_cell2 rfl _ _ (w.heap.size + 1) (w.heap.size + 2) 30 42 _ _ (0, 0) (0, 0) _ _ rfl HYa.out Try.underlying30 rfl info_rel rfl HYb.out Try.underlying42 rfl info_rout) rfl ⟨_, by rw [HQ.out.1, HQ.out.2.1, HQ.out.2.2.1, HQ.out.2.2.2]; rfl, by rw [HQ.out.1]; exact HYs.out, fun k hk => (HN4.out k hk).imp id (fun h => by omega), HYw.out⟩
  · have dE : decide (clock + 1 < wait) = true := HER.out.symm
    have nE : clock + 1 < wait := of_decide_eq_true dE
    have HPx : Hid ((X.setRow (w.heap.size + 1) (ElV F T me view (.slice va N vc) (clock + 1) wait)).heap[w.heap.size + 2]? = some (.cells #[.int .i64 0, .int .i64 0] 42 (0, 0))) := Lib.hid ((setRow_other _ _ _ _ (by omega)).trans HXP.out)
    have HYa : Hid (((X.setRow (w.heap.size + 1) (ElV F T me view (.slice va N vc) (clock + 1) wait)).setRow (w.heap.size + 2) #[.int .i64 0, .int .i64 0]).heap[w.heap.size + 1]? = some (.cells (ElV F T me view (.slice va N vc) (clock + 1) wait) 30 (0, 0))) := Lib.hid ((setRow_other _ _ _ _ (by omega)).trans (setRow_heap _ _ _ _ _ _ HXR.out))
    have HYb : Hid (((X.setRow (w.heap.size + 1) (ElV F T me view (.slice va N vc) (clock + 1) wait)).setRow (w.heap.size + 2) #[.int .i64 0, .int .i64 0]).heap[w.heap.size + 2]? = some (.cells #[.int .i64 0, .int .i64 0] 42 (0, 0))) := Lib.hid (setRow_heap _ _ _ _ _ _ HPx.out)
    have HYk : Hid (Kept (fun k => k = w.heap.size + 1 ∨ k = w.heap.size + 2) X ((X.setRow (w.heap.size + 1) (ElV F T me view (.slice va N vc) (clock + 1) wait)).setRow (w.heap.size + 2) #[.int .i64 0, .int .i64 0])) := Lib.hid (⟨rfl, rfl, rfl, by simp, fun k _ hk => (setRow_other _ _ _ _ (fun e => hk (.inr e))).trans (setRow_other _ _ _ _ (fun e => hk (.inl e)))⟩)
    have HYs := Lib.hid (HXV.out.kept HYk.out (fun k hk e => by have := HAV.out k hk; omega))
    have HYw : Hid (Below w.heap.size w ((X.setRow (w.heap.size + 1) (ElV F T me view (.slice va N vc) (clock + 1) wait)).setRow (w.heap.size + 2) #[.int .i64 0, .int .i64 0])) := Lib.hid (below_row (below_row HXB.out (by omega) _) (by omega) _)
    go_wp2_with (first
      | ((with_reducible refine at_load 30 _ rfl ?_); refine wpList_load_row rfl 30 _ rfl _ rfl _ (ElV F T me view (.slice va N vc) (clock + 1) wait) (0, 0) _ HXE.out Try.underlying30 rfl info_rel ?_)
      | ((with_reducible refine at_store 30 _ _ rfl ?_); refine wpList_store_row rfl 30 _ _ rfl (w.heap.size + 1) (ElV F T me view (.slice va N vc) (clock + 1) wait) rfl rfl 30 _ HXR.out info_rel rfl ElV_one ?_)
      | ((with_reducible refine at_store 42 _ _ rfl ?_); refine wpList_store_row rfl 42 _ _ rfl (w.heap.size + 2) #[.int .i64 0, .int .i64 0] rfl rfl 42 _ HPx.out info_rout rfl out_one ?_))
    exact bodyPost_ret (results_cell2 rfl _ _ (w.heap.size + 1) (w.heap.size + 2) 30 42 _ _ (0, 0) (0, 0) _ _ rfl HYa.out Try.underlying30 rfl info_rel rfl HYb.out Try.underlying42 rfl info_rout) rfl ⟨_, by rw [HQ.out.1, HQ.out.2.1, HQ.out.2.2.1, HQ.out.2.2.2]; rfl, by rw [HQ.out.1]; exact HYs.out, fun k hk => .inl hk, HYw.out⟩
end Go.Proofs.Ytgkhgjoggkcklaa

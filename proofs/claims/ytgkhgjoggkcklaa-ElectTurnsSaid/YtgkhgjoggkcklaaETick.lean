/- The walk of elect's Tick. -/
import Derived.Test.YtgkhgjoggkcklaaEAlive
namespace Go.Proofs.Ytgkhgjoggkcklaa
open Go Go.RowKit
set_option maxRecDepth 100000
set_option maxHeartbeats 4000000

def mineV (me : Nat) (E : El) : Int := min (max (E.votes.getD me 0) E.view + 1) 100000
def tickVotes (me : Nat) (E : El) : List Int := if E.votes.getD me 0 < mineV me E then E.votes.set me (mineV me E) else E.votes
def tickO (me : Nat) (E : El) : Int := if E.votes.getD me 0 < mineV me E then mineV me E else 0
def early (wait : Int) (E : El) : Bool := decide (E.clock + 1 < wait)
def tickE (F T : Int) (me : Nat) (wait : Int) (E : El) : El := if early wait E then ⟨E.view, E.votes, E.clock + 1⟩ else El.settled F T me ⟨E.view, tickVotes me E, 0⟩
def tickW (wait : Int) (E : El) : Int := if early wait E then wait else min (2 * wait) 4096
def tickVo (F : Int) (me : Nat) (wait : Int) (E : El) : Int := if early wait E then 0 else joinO F me (tickVotes me E) (tickO me E)
def tickVi (F T : Int) (me : Nat) (wait : Int) (E : El) : Int := if early wait E then 0 else enterO F T me E.view (tickVotes me E) 0
theorem tickVotes_length (me : Nat) (E : El) : (tickVotes me E).length = E.votes.length := by rw [tickVotes]; split <;> simp
theorem Tick_any (F T : Int) (me : Nat) (vv : Value) (wait : Int) (E : El) (w : World) (hv : SlI w .i64 vv E.votes) (hr : RightS F T) (hl : E.votes.length ≤ 1000) (hme : me < E.votes.length)
    (hw1 : 0 ≤ wait ∧ wait ≤ 100000) (hw2 : 0 ≤ E.clock ∧ E.clock ≤ 1000000000000) (hw3 : 0 ≤ E.view ∧ E.view ≤ 100000) (hw4 : 0 ≤ E.votes.getD me 0 ∧ E.votes.getD me 0 ≤ 100000) :
    Calls Try.prog 18 #[.agg (ElV F T me E.view vv E.clock wait)] w fun e w' => ∃ vv', e = .returned (.tuple #[.agg (ElV F T me (tickE F T me wait E).view vv' (tickE F T me wait E).clock (tickW wait E)), .agg #[.int .i64 (tickVo F me wait E), .int .i64 (tickVi F T me wait E)]]) ∧ SlI w' .i64 vv' (tickE F T me wait E).votes ∧ (∀ k, vv'.ownBlock = some k → vv.ownBlock = some k ∨ (w.heap.size ≤ k ∧ IntRow w' k)) ∧ Below w.heap.size w w' := by
  have HTL := Lib.hid (tickVotes_length me E)
  obtain ⟨EE, HEE⟩ : ∃ EE, Hid (EE = E) := ⟨_, Lib.hid rfl⟩
  have HQ : Hid (tickE F T me wait EE = (if early wait EE then ⟨EE.view, EE.votes, EE.clock + 1⟩ else El.settled F T me ⟨EE.view, tickVotes me EE, 0⟩) ∧ tickW wait EE = (if early wait EE then wait else min (2 * wait) 4096) ∧ tickVo F me wait EE = (if early wait EE then 0 else joinO F me (tickVotes me EE) (tickO me EE)) ∧ tickVi F T me wait EE = (if early wait EE then 0 else enterO F T me EE.view (tickVotes me EE) 0)) := Lib.hid ⟨rfl, rfl, rfl, rfl⟩
  rw [← HEE.out] at HTL ⊢
  obtain ⟨TE, HTE⟩ : ∃ x, Hid (x = tickE F T me wait EE) := ⟨_, Lib.hid rfl⟩
  obtain ⟨TW, HTW⟩ : ∃ x, Hid (x = tickW wait EE) := ⟨_, Lib.hid rfl⟩
  obtain ⟨TO, HTO⟩ : ∃ x, Hid (x = tickVo F me wait EE) := ⟨_, Lib.hid rfl⟩
  obtain ⟨TI, HTI⟩ : ∃ x, Hid (x = tickVi F T me wait EE) := ⟨_, Lib.hid rfl⟩
  rw [← HTE.out, ← HTW.out, ← HTO.out, ← HTI.out] at HQ ⊢
  obtain ⟨L, HL⟩ : ∃ L, Hid (L = tickVotes me EE) := ⟨_, Lib.hid rfl⟩
  obtain ⟨O, HO0⟩ : ∃ O, Hid (O = tickO me EE) := ⟨_, Lib.hid rfl⟩
  obtain ⟨mine, HM⟩ : ∃ m, Hid (m = mineV me EE) := ⟨_, Lib.hid rfl⟩
  have HL2 : Hid (L = if EE.votes.getD me 0 < mine then EE.votes.set me mine else EE.votes) := Lib.hid (by rw [HL.out, HM.out]; rfl)
  have HO2 : Hid (O = if EE.votes.getD me 0 < mine then mine else 0) := Lib.hid (by rw [HO0.out, HM.out]; rfl)
  have HM2 : Hid (mine = min (max (EE.votes.getD me 0) EE.view + 1) 100000) := Lib.hid (by rw [HM.out]; rfl)
  rw [← HL.out] at HQ HTL
  rw [← HO0.out] at HQ
  have HER : Hid (early wait EE = decide (EE.clock + 1 < wait)) := Lib.hid rfl
  obtain ⟨er, Her⟩ : ∃ b, Hid (b = early wait EE) := ⟨_, Lib.hid rfl⟩
  rw [← Her.out] at HQ HER
  clear Her HM HL HO0 HTE HTW HTO HTI
  have hEE := HEE.out
  subst hEE
  clear HEE
  obtain ⟨view, votes, clock⟩ := EE
  simp only at hv hl hme hw2 hw3 hw4 HQ HL2 HO2 HM2 HER HTL ⊢
  obtain ⟨W0, HW0, HB0, HS0, HE0⟩ : ∃ V, Hid (V = w.alloc (.cells (ElV F T me view vv clock wait) 26)) ∧ Hid (Below w.heap.size w V) ∧ Hid (V.heap.size = w.heap.size + 1) ∧ Hid (ElB V w.heap.size 26 F T me view vv clock wait) := ⟨_, Lib.hid rfl, Lib.hid ((Below.refl _ _).alloc (Nat.le_refl _) _), Lib.hid (by simp), Lib.hid (heap_alloc_new _ _)⟩
  obtain ⟨W1, HW1, HB1, HS1, HE1, HR1⟩ : ∃ V, Hid (V = W0.alloc (.cells (ElV 0 0 0 0 (.slice none 0 0) 0 0) 26)) ∧ Hid (Below w.heap.size w V) ∧ Hid (V.heap.size = w.heap.size + 2) ∧ Hid (ElB V w.heap.size 26 F T me view vv clock wait) ∧ Hid (V.heap[w.heap.size + 1]? = some (.cells (ElV 0 0 0 0 (.slice none 0 0) 0 0) 26 (0, 0))) :=
    ⟨_, Lib.hid rfl, Lib.hid (HB0.out.alloc HB0.out.size _), Lib.hid (by simp [HS0.out]), Lib.hid ((heap_alloc_old _ _ _ (by rw [HS0.out]; omega)).trans HE0.out), Lib.hid (by rw [← HS0.out]; exact heap_alloc_new _ _)⟩
  obtain ⟨W2, HW2, HB2, HS2, HE2, HR2, HP2⟩ : ∃ V, Hid (V = W1.alloc (.cells #[.int .i64 0, .int .i64 0] 34)) ∧ Hid (Below w.heap.size w V) ∧ Hid (V.heap.size = w.heap.size + 3) ∧ Hid (ElB V w.heap.size 26 F T me view vv clock wait) ∧ Hid (V.heap[w.heap.size + 1]? = some (.cells (ElV 0 0 0 0 (.slice none 0 0) 0 0) 26 (0, 0))) ∧ Hid (OutB V (w.heap.size + 2) 34 0 0) :=
    ⟨_, Lib.hid rfl, Lib.hid (HB1.out.alloc HB1.out.size _), Lib.hid (by simp [HS1.out]), Lib.hid ((heap_alloc_old _ _ _ (by rw [HS1.out]; omega)).trans HE1.out), Lib.hid ((heap_alloc_old _ _ _ (by rw [HS1.out]; omega)).trans HR1.out), Lib.hid (by rw [← HS1.out]; exact heap_alloc_new _ _)⟩
  obtain ⟨V, HV, HB, HS, HE, HR, HP, HO⟩ : ∃ V, Hid (V = W2.alloc (.cells #[.int .i64 0, .int .i64 0] 34)) ∧ Hid (Below w.heap.size w V) ∧ Hid (V.heap.size = w.heap.size + 4) ∧ Hid (ElB V w.heap.size 26 F T me view vv clock wait) ∧ Hid (V.heap[w.heap.size + 1]? = some (.cells (ElV 0 0 0 0 (.slice none 0 0) 0 0) 26 (0, 0))) ∧ Hid (OutB V (w.heap.size + 2) 34 0 0) ∧ Hid (OutB V (w.heap.size + 3) 34 0 0) :=
    ⟨_, Lib.hid rfl, Lib.hid (HB2.out.alloc HB2.out.size _), Lib.hid (by simp [HS2.out]), Lib.hid ((heap_alloc_old _ _ _ (by rw [HS2.out]; omega)).trans HE2.out), Lib.hid ((heap_alloc_old _ _ _ (by rw [HS2.out]; omega)).trans HR2.out), Lib.hid ((heap_alloc_old _ _ _ (by rw [HS2.out]; omega)).trans HP2.out), Lib.hid (by rw [← HS2.out]; exact heap_alloc_new _ _)⟩
  have HAV : Hid (∀ k, vv.ownBlock = some k → k < w.heap.size) := Lib.hid (fun k hk => hv.blt (by omega) k hk)
  have hvV := hv.later HB.out
  obtain ⟨va, vc, rfl⟩ := hv.shape
  obtain ⟨X, HX, HXK, HXS, HXE, HXR, HXP, HXO⟩ : ∃ X, Hid (X = V.setCell ⟨w.heap.size, 5, none⟩ (.int .i64 (clock + 1))) ∧ Hid (Kept (fun k => k = w.heap.size) V X) ∧ Hid (X.heap.size = w.heap.size + 4) ∧ Hid (ElB X w.heap.size 26 F T me view (.slice va votes.length vc) (clock + 1) wait) ∧ Hid (X.heap[w.heap.size + 1]? = some (.cells (ElV 0 0 0 0 (.slice none 0 0) 0 0) 26 (0, 0))) ∧ Hid (OutB X (w.heap.size + 2) 34 0 0) ∧ Hid (OutB X (w.heap.size + 3) 34 0 0) :=
    ⟨_, Lib.hid rfl, Lib.hid ((Kept.refl (fun k => k = w.heap.size) V).set (p := ⟨w.heap.size, 5, none⟩) (.inl rfl) _), Lib.hid (by simp [HS.out]), Lib.hid (HE.out.setClock _), Lib.hid ((Below.heap_setCell _ _ _ _ (by show w.heap.size + 1 ≠ w.heap.size; omega)).trans HR.out), Lib.hid (HP.out.setOther (p := ⟨w.heap.size, 5, none⟩) (by show w.heap.size + 2 ≠ w.heap.size; omega) _), Lib.hid (HO.out.setOther (p := ⟨w.heap.size, 5, none⟩) (by show w.heap.size + 3 ≠ w.heap.size; omega) _)⟩
  have HXV : Hid (SlI X .i64 (.slice va votes.length vc) votes) := Lib.hid (hvV.kept HXK.out (fun b h => by have := HAV.out b h; omega))
  have HXB : Hid (Below w.heap.size w X) := Lib.hid (HB.out.trans (HXK.out.below (B := w.heap.size) (by rw [HS.out]; omega) (fun k h => Nat.le_of_eq h.symm)))
  obtain ⟨c0, c1, c2, c3, c4, c5, c6⟩ := HE.out.cells
  have f5 := HE.out.frozen 5
  obtain ⟨hw2a, hw2b⟩ := hw2
  obtain ⟨hw1a, hw1b⟩ := hw1
  clear hv hvV
  cases er
  · have dE : decide (clock + 1 < wait) = false := HER.out.symm
    have nE : ¬ (clock + 1 < wait) := of_decide_eq_false dE
    go_enter Try.func18, Try.ntmps18
    go_upto_region 2 with (fail)
    change Code.wp _ _ _ _ ((((w.alloc (.cells (ElV F T me view (.slice va votes.length vc) clock wait) 26)).alloc (.cells (ElV 0 0 0 0 (.slice none 0 0) 0 0) 26)).alloc (.cells #[.int .i64 0, .int .i64 0] 34)).alloc (.cells #[.int .i64 0, .int .i64 0] 34))
    rw [← HW0.out, ← HW1.out, ← HW2.out, ← HV.out]
    go_upto_region 3 with (fail)
    rw [← HX.out]
    clear c0 c1 c2 c3 c4 c5 c6 f5
    obtain ⟨c0, c1, c2, c3, c4, c5, c6⟩ := HXE.out.cells
    obtain ⟨vb, vo, rfl, -, q1, hcv'⟩ := HXV.out.cellAt (i := me) hme
    have HCV := Lib.hid (hcv' me hme)
    obtain ⟨z, Hz⟩ : ∃ z, Hid (z = votes.getD me 0) := ⟨_, Lib.hid rfl⟩
    rw [← Hz.out] at HCV HL2 HO2 HM2 hw4
    clear hcv'
    go_upto_region 5 with (fail)
    clear c0 c1 c2 c3 c4 c5 c6
    obtain ⟨hw4a, hw4b⟩ := hw4
    obtain ⟨hw3a, hw3b⟩ := hw3
    have hmi : (me : Int) < votes.length := by omega
    have ew : IntKind.i64.wrap (max z view + 1) = max z view + 1 := by rw [IntKind.wrap_i64]; omega
    refine Wild.region_b (fun _ => none) (fun _ => []) rfl (by kernel_rfl) (fun vs _ => ?_)
    refine Wild.walk_simple rfl (by rfl) (by rfl) (fun K hK => ?_); go_big_quiet_op; first | (refine hK _ ?_; clear hK K) | (refine ⟨_, fun _ _ => rfl, hK _ ?_⟩; clear hK K)
    refine Wild.walk_cell 24 _ _ _ (.slice (some ⟨vb, vo, none⟩) votes.length vc) _ rfl (by rfl) rfl rfl (fun w' hw => (HXE.out.later hw.1).cells.2.2.2.2.1) Try.underlying24 rfl ?_
    simp only [Act.put, List.setIfInBounds_toArray, List.set_cons_zero, List.set_cons_succ]
    refine Wild.walk_simple rfl (by rfl) (by rfl) (fun K hK => ?_); go_big_quiet_op; first | (refine hK _ ?_; clear hK K) | (refine ⟨_, fun _ _ => rfl, hK _ ?_⟩; clear hK K)
    refine Wild.walk_cell 3 _ _ _ (.int .i64 me) _ rfl (by rfl) rfl rfl (fun w' hw => (HXE.out.later hw.1).cells.2.2.1) Try.underlying3 rfl ?_
    simp only [Act.put, List.setIfInBounds_toArray, List.set_cons_zero, List.set_cons_succ]
    refine Wild.walk_simple rfl (by rfl) (by rfl) (fun K hK => ?_); go_big_quiet_op; first | (refine hK _ ?_; clear hK K) | (refine ⟨_, fun _ _ => rfl, hK _ ?_⟩; clear hK K)
    refine Wild.walk_cell 3 _ _ _ (.int .i64 z) _ rfl (by rfl) rfl rfl (fun w' hw => (hw.1.cell (World.block_lt_of_cell? _ _ HCV.out)).trans HCV.out) Try.underlying3 rfl ?_
    simp only [Act.put, List.setIfInBounds_toArray, List.set_cons_zero, List.set_cons_succ]
    refine Wild.walk_simple rfl (by rfl) (by rfl) (fun K hK => ?_); go_big_quiet_op; first | (refine hK _ ?_; clear hK K) | (refine ⟨_, fun _ _ => rfl, hK _ ?_⟩; clear hK K)
    refine Wild.walk_cell 3 _ _ _ (.int .i64 view) _ rfl (by rfl) rfl rfl (fun w' hw => (HXE.out.later hw.1).cells.2.2.2.1) Try.underlying3 rfl ?_
    simp only [Act.put, List.setIfInBounds_toArray, List.set_cons_zero, List.set_cons_succ]
    refine Wild.walk_run (.int .i64 (max z view)) rfl (by rfl) (fun w' _ => ?_) ?_
    · unfold execOp
      go_simp
    simp only [Act.put, List.setIfInBounds_toArray, List.set_cons_zero, List.set_cons_succ]
    refine Wild.walk_simple rfl (by rfl) (by rfl) (fun K hK => ?_); go_big_quiet_op; first | (refine hK _ ?_; clear hK K) | (refine ⟨_, fun _ _ => rfl, hK _ ?_⟩; clear hK K)
    refine Wild.walk_run (.int .i64 (min (max z view + 1) 100000)) rfl (by rfl) (fun w' _ => ?_) ?_
    · unfold execOp
      go_simp
    simp only [Act.put, List.setIfInBounds_toArray, List.set_cons_zero, List.set_cons_succ]
    refine Wild.walk_simple rfl (by rfl) (by rfl) (fun K hK => ?_); go_big_quiet_op; first | (refine hK _ ?_; clear hK K) | (refine ⟨_, fun _ _ => rfl, hK _ ?_⟩; clear hK K)
    refine Wild.walk_nil ?_
    intro w5 hw5 hf5
    rw [← HM2.out]
    have H5B : Hid (Below X.heap.size X w5) := Lib.hid hw5
    have H5Z : Hid (w.heap.size + 4 ≤ w5.heap.size) := Lib.hid (by rw [← HXS.out]; exact hw5.size)
    have H5E := Lib.hid (HXE.out.later H5B.out)
    have H5R : Hid (w5.heap[w.heap.size + 1]? = some (.cells (ElV 0 0 0 0 (.slice none 0 0) 0 0) 26 (0, 0))) := Lib.hid ((H5B.out.block _ (by rw [HXS.out]; omega)).trans HXR.out)
    have H5P := Lib.hid (HXP.out.later H5B.out)
    have H5O := Lib.hid (HXO.out.later H5B.out)
    have H5V := Lib.hid (HXV.out.later H5B.out)
    have H5W : Hid (Below w.heap.size w w5) := Lib.hid (HXB.out.trans (H5B.out.mono HXB.out.size))
    have h5c : w5.cell? ⟨vb, vo + me, none⟩ = some (.int .i64 z) := (H5B.out.cell (World.block_lt_of_cell? _ _ HCV.out)).trans HCV.out
    have HVT := Lib.hid (fun w' hE hv => vote_any w.heap.size me F T me view (.slice (some ⟨vb, vo, none⟩) votes.length vc) (clock + 1) wait mine votes w' hE hv (by omega) hme)
    have HST := Lib.hid (fun vv w' hE hO hv hap => settle_any w.heap.size (w.heap.size + 3) F T me view vv 0 (min (2 * wait) 4096) O 0 L w' hE hO (by omega) hv hap hr (by rw [HTL.out]; exact hl) (by rw [HTL.out]; exact hme))
    clear hw5 hf5 HW0 HW1 HW2 HV HX HB0 HB1 HB2 HS0 HS1 HS2 HE0 HE1 HE2 HR1 HR2 HP2 HE HR HP HO HXK HXE HXR HXP HXO HXV HCV ew
    obtain ⟨c0, c1, c2, c3, c4, c5, c6⟩ := H5E.out.cells
    go_upto_region 6 with (fail)
    by_cases hj : z < mine
    · have dj : decide (z < mine) = true := decide_eq_true hj
      rw [if_pos hj] at HL2 HO2
      go_upto_region 8 with (go_at_call 33; refine (HVT.out w5 H5E.out H5V.out).mono ?_; rintro e w7 ⟨rfl, gb, cap, e7, hg, r7, hc1, hc2, k7⟩; have H7E := Lib.hid e7; have H7G := Lib.hid hg; have H7I : Hid (IntRow w7 gb) := Lib.hid (by obtain ⟨cur, r4, -⟩ := r7; exact ⟨cur, r4⟩); have H7V := Lib.hid (RowI.sl r7 (n := votes.length) (cap := cap) (by simp) hc1 hc2); have H7K := Lib.hid k7; clear e7 hg r7 k7 c0 c1 c2 c3 c4 c5 c6 h5c)
      have H7Z : Hid (w5.heap.size ≤ w7.heap.size) := Lib.hid H7K.out.size
      have H7O := Lib.hid (H5O.out.kept H7K.out (by omega))
      have H7P := Lib.hid (H5P.out.kept H7K.out (by omega))
      have H7R : Hid (w7.heap[w.heap.size + 1]? = some (.cells (ElV 0 0 0 0 (.slice none 0 0) 0 0) 26 (0, 0))) := Lib.hid ((H7K.out.block (w.heap.size + 1) (by have := H5Z.out; omega) (by omega)).trans H5R.out)
      have H7GZ : Hid (w.heap.size + 4 ≤ gb) := Lib.hid (Nat.le_trans H5Z.out H7G.out)
      have k0 := H7O.out.cells.1
      have f0 := H7O.out.frozen 0
      obtain ⟨W8, HW8, H8E, H8O, H8P, H8R, H8V, H8I, H8K⟩ : ∃ W, Hid (W = w7.setCell ⟨w.heap.size + 3, 0, none⟩ (.int .i64 mine)) ∧ Hid (ElB W w.heap.size 26 F T me view (.slice (some ⟨gb, 0, none⟩) votes.length cap) (clock + 1) wait) ∧ Hid (OutB W (w.heap.size + 3) 34 mine 0) ∧ Hid (OutB W (w.heap.size + 2) 34 0 0) ∧
          Hid (W.heap[w.heap.size + 1]? = some (.cells (ElV 0 0 0 0 (.slice none 0 0) 0 0) 26 (0, 0))) ∧ Hid (SlI W .i64 (.slice (some ⟨gb, 0, none⟩) votes.length cap) (votes.set me mine)) ∧ Hid (IntRow W gb) ∧ Hid (Kept (fun k => k = w.heap.size ∨ k = w.heap.size + 3) w5 W) :=
        ⟨_, Lib.hid rfl, Lib.hid (H7E.out.setOther (p := ⟨w.heap.size + 3, 0, none⟩) (by show w.heap.size ≠ w.heap.size + 3; omega) _), Lib.hid (H7O.out.set0 mine), Lib.hid (H7P.out.setOther (p := ⟨w.heap.size + 3, 0, none⟩) (by show w.heap.size + 2 ≠ w.heap.size + 3; omega) _),
          Lib.hid ((Below.heap_setCell _ _ _ _ (by show w.heap.size + 1 ≠ w.heap.size + 3; omega)).trans H7R.out),
          Lib.hid (H7V.out.kept ((Kept.refl (fun k => k = w.heap.size + 3) w7).set (p := ⟨w.heap.size + 3, 0, none⟩) (.inl rfl) _) (fun b hb e => by have e1 : gb = b := Option.some.inj hb; have := H7GZ.out; omega)),
          Lib.hid (H7I.out.kept ((Kept.refl (fun k => k = w.heap.size + 3) w7).set (p := ⟨w.heap.size + 3, 0, none⟩) (.inl rfl) _) (by have := H7GZ.out; omega)),
          Lib.hid ((H7K.out.mono (fun k h => .inl h)).set (p := ⟨w.heap.size + 3, 0, none⟩) (.inl (.inr rfl)) _)⟩
      have H8L : Hid (SlI W8 .i64 (.slice (some ⟨gb, 0, none⟩) votes.length cap) L) := Lib.hid (by rw [HL2.out]; exact H8V.out)
      have H8Q : Hid (OutB W8 (w.heap.size + 3) 34 O 0) := Lib.hid (by rw [HO2.out]; exact H8O.out)
      have H8A : Hid (∀ k, (Value.slice (some ⟨gb, 0, none⟩) votes.length cap).ownBlock = some k → (k < w.heap.size ∨ w.heap.size + 4 ≤ k) ∧ ((Value.slice (some ⟨vb, vo, none⟩) votes.length vc).ownBlock = some k ∨ (w.heap.size ≤ k ∧ IntRow W8 k))) := Lib.hid (fun k hk => by
        obtain rfl : gb = k := Option.some.inj hk
        exact ⟨.inr H7GZ.out, .inr ⟨by have := H7GZ.out; omega, H8I.out⟩⟩)
      go_upto_region 9 with (fail)
      rw [← HW8.out]
      obtain ⟨vx, Hvx⟩ : ∃ vx : Value, Hid (vx = .slice (some ⟨gb, 0, none⟩) votes.length cap) := ⟨_, Lib.hid rfl⟩
      rw [← Hvx.out] at H8E H8L H8A
      have H8VX : Hid (∃ a n c, vx = .slice a n c) := Lib.hid ⟨_, _, _, Hvx.out⟩
      clear HW8 k0 f0 hc1 hc2 H8O H8V H8I
      try simp only [Act.put]
      obtain ⟨c0, c1, c2, c3, c4, c5, c6⟩ := H8E.out.cells
      have f5 := H8E.out.frozen 5
      have H85 := Lib.hid (H8E.out.setClock 0)
      have k6 := H85.out.cells.2.2.2.2.2.2
      have f6 := H85.out.frozen 6
      go_upto_region 10 with (fail)
      clear c0 c1 c2 c3 c4 c5 c6 f5 k6 f6
      obtain ⟨W9, HW9, H9K, H9E, H9Q⟩ : ∃ W, Hid (W = (W8.setCell ⟨w.heap.size, 5, none⟩ (.int .i64 0)).setCell ⟨w.heap.size, 6, none⟩ (.int .i64 (min (2 * wait) 4096))) ∧ Hid (Kept (fun k => k = w.heap.size) W8 W) ∧ Hid (ElB W w.heap.size 26 F T me view vx 0 (min (2 * wait) 4096)) ∧ Hid (OutB W (w.heap.size + 3) 34 O 0) :=
        ⟨_, Lib.hid rfl, Lib.hid (((Kept.refl (fun k => k = w.heap.size) W8).set (p := ⟨w.heap.size, 5, none⟩) (.inl rfl) _).set (p := ⟨w.heap.size, 6, none⟩) (.inl rfl) _), Lib.hid (H85.out.setWait _),
          Lib.hid ((H8Q.out.setOther (p := ⟨w.heap.size, 5, none⟩) (by show w.heap.size + 3 ≠ w.heap.size; omega) _).setOther (p := ⟨w.heap.size, 6, none⟩) (by show w.heap.size + 3 ≠ w.heap.size; omega) _)⟩
      rw [← HW9.out]
      have H9Z : Hid (w.heap.size + 4 ≤ W9.heap.size) := Lib.hid (Nat.le_trans H5Z.out (Nat.le_trans H8K.out.size H9K.out.size))
      have H9P := Lib.hid (H8P.out.kept H9K.out (by omega))
      have H9R : Hid (W9.heap[w.heap.size + 1]? = some (.cells (ElV 0 0 0 0 (.slice none 0 0) 0 0) 26 (0, 0))) := Lib.hid ((H9K.out.block _ (by have h1 := H5Z.out; have h2 := H8K.out.size; omega) (by omega)).trans H8R.out)
      have H9L := Lib.hid (H8L.out.kept H9K.out (fun b hb e => by have := (H8A.out b hb).1; omega))
      have H9A : Hid (∀ k, vx.ownBlock = some k → (k < w.heap.size ∨ w.heap.size + 4 ≤ k) ∧ ((Value.slice (some ⟨vb, vo, none⟩) votes.length vc).ownBlock = some k ∨ (w.heap.size ≤ k ∧ IntRow W9 k))) := Lib.hid (fun k hk => ⟨(H8A.out k hk).1, (H8A.out k hk).2.imp id fun h => ⟨h.1, h.2.kept H9K.out (by have := (H8A.out k hk).1; omega)⟩⟩)
      have H9W : Hid (Below w.heap.size w W9) := Lib.hid (H5W.out.trans ((H8K.out.trans (H9K.out.mono (fun k h => .inl h))).below (by have := H5Z.out; omega) (fun k h => by omega)))
      clear HW9 H85 H8K H8E H8P H8R H8L H8Q H8A H9K
      go_upto_region 11 with (go_at_call 34; refine (HST.out vx W9 H9E.out H9Q.out H9L.out (fun k h => by have := (H9A.out k h).1; omega)).mono ?_; rintro e w10 ⟨rfl, v4, e4, o4, s4, a4, k4⟩; have HE4 := Lib.hid e4; have HO4 := Lib.hid o4; have HS4 := Lib.hid s4; have HA4 := Lib.hid a4; have HK4 := Lib.hid k4; clear e4 o4 s4 a4 k4)
      have HR4 : Hid (w10.heap[w.heap.size + 1]? = some (.cells (ElV 0 0 0 0 (.slice none 0 0) 0 0) 26 (0, 0))) := Lib.hid ((HK4.out.block _ (by have := H9Z.out; omega) (by omega)).trans H9R.out)
      have HP4 : Hid (OutB w10 (w.heap.size + 2) 34 0 0) := Lib.hid (H9P.out.kept HK4.out (by omega))
      obtain ⟨v5, c5, rfl⟩ := HS4.out.shape
      try simp only [Act.put]
      refine Wild.region_two (w.heap.size + 1) (w.heap.size + 2) 26 34 (ElV 0 0 0 0 (.slice none 0 0) 0 0) (ElV F T me (enterV F T me view L) (.slice v5 (joined F me L).length c5) (enterC F T me view L 0) (min (2 * wait) 4096)) #[.int .i64 0, .int .i64 0] #[.int .i64 (joinO F me L O), .int .i64 (enterO F T me view L 0)] 2 3 (by decide) (by decide) (by decide) HR4.out HP4.out (by kernel_rfl) (by kernel_rfl) (fun vs => ?_)
      refine Wild.walk_load 26 _ _ _ (elL F T me (enterV F T me view L) (.slice v5 (joined F me L).length c5) (enterC F T me view L 0) (min (2 * wait) 4096)) _ rfl (by rfl) rfl rfl (fun w' hw => rangeAt_row (cs := (elL F T me (enterV F T me view L) (.slice v5 (joined F me L).length c5) (enterC F T me view L 0) (min (2 * wait) 4096))) ((hw.1.block w.heap.size (by omega) (by omega)).trans HE4.out)) Try.underlying26 rfl info_el ?_
      simp only [Act.put, List.setIfInBounds_toArray, List.set_cons_zero, List.set_cons_succ]
      refine Wild.walk_load 34 _ _ _ [.int .i64 (joinO F me L O), .int .i64 (enterO F T me view L 0)] _ rfl (by rfl) rfl rfl (fun w' hw => rangeAt_row (cs := [.int .i64 (joinO F me L O), .int .i64 (enterO F T me view L 0)]) ((hw.1.block (w.heap.size + 3) (by omega) (by omega)).trans HO4.out)) Try.underlying34 rfl info_out ?_
      simp only [Act.put, List.setIfInBounds_toArray, List.set_cons_zero, List.set_cons_succ]
      refine Wild.walk_wild _ rfl (by rfl) (fun w' hw K hK => ?_) ?_
      · obtain ⟨s1, s2, s3⟩ := hw.1.set1 (by omega)
        rcases hw.1.one with e | e <;> exact wp_store_row 26 _ _ rfl _ (ElV F T me (enterV F T me view L) (.slice v5 (joined F me L).length c5) (enterC F T me view L 0) (min (2 * wait) 4096)) rfl rfl 26 _ e info_el rfl ElV_one (hK.out undef _ s1 s2 trivial s3)
      simp only [Act.put]
      refine Wild.walk_wild _ rfl (by rfl) (fun w' hw K hK => ?_) ?_
      · obtain ⟨s1, s2, s3⟩ := hw.1.set2 (by omega)
        rcases hw.1.two with e | e <;> exact wp_store_row 34 _ _ rfl _ #[.int .i64 (joinO F me L O), .int .i64 (enterO F T me view L 0)] rfl rfl 34 _ e info_out rfl out_one (hK.out undef _ s1 s2 trivial s3)
      simp only [Act.put]
      refine Wild.walk_nil ?_
      intro w9 hw9 hr9 hp9
      go_wp2_with fail
      refine bodyPost_ret (results_cell2 rfl _ _ (w.heap.size + 1) (w.heap.size + 2) 26 34 _ _ (0, 0) (0, 0) _ _ rfl hr9 Try.underlying26 rfl info_el rfl hp9 Try.underlying34 rfl info_out) rfl ?_
      have hk9 : Kept (fun k => k = w.heap.size + 1 ∨ k = w.heap.size + 2) w10 w9 := ⟨hw9.os, hw9.tape, hw9.output, Nat.le_of_eq hw9.size.symm, fun k _ hk => hw9.block k (fun e => hk (.inl e)) (fun e => hk (.inr e))⟩
      have hz := H9Z.out
      have hne : ∀ k, (Value.slice v5 (joined F me L).length c5).ownBlock = some k → k < w.heap.size ∨ w.heap.size + 4 ≤ k := fun k hk => by
        rcases (HA4.out k hk).2.2 with h3 | ⟨h3, -⟩
        · exact (H9A.out k h3).1
        · exact .inr (by omega)
      refine ⟨.slice v5 (joined F me L).length c5, by rw [HQ.out.1, HQ.out.2.1, HQ.out.2.2.1, HQ.out.2.2.2]; rfl, ?_, fun k hk => ?_, ?_⟩
      · rw [HQ.out.1]
        exact HS4.out.kept hk9 (fun k hk e => by have := hne k hk; omega)
      · have hn := hne k hk
        rcases (HA4.out k hk).2.2 with h3 | ⟨h3, h6⟩
        · refine (H9A.out k h3).2.imp id fun h7 => ⟨h7.1, (h7.2.kept HK4.out ?_).kept hk9 (by omega)⟩
          have := HA4.out k hk
          omega
        · exact .inr ⟨by omega, h6.kept hk9 (by omega)⟩
      · have hb4 : Below w.heap.size W9 w10 := HK4.out.below (by omega) (fun k h => by rcases h with rfl | rfl <;> omega)
        exact (H9W.out.trans hb4).trans ⟨hw9.os, hw9.tape, hw9.output, Nat.le_of_eq hw9.size.symm, fun k hk => hw9.block k (by omega) (by omega)⟩
    · have dj : decide (z < mine) = false := decide_eq_false hj
      rw [if_neg hj] at HL2 HO2
      go_upto_region 9 with (fail)
      obtain ⟨W8, HW8, H8E, H8P, H8R, H8L, H8Q, H8K⟩ : ∃ W, Hid (W = w5) ∧ Hid (ElB W w.heap.size 26 F T me view (.slice (some ⟨vb, vo, none⟩) votes.length vc) (clock + 1) wait) ∧ Hid (OutB W (w.heap.size + 2) 34 0 0) ∧
          Hid (W.heap[w.heap.size + 1]? = some (.cells (ElV 0 0 0 0 (.slice none 0 0) 0 0) 26 (0, 0))) ∧ Hid (SlI W .i64 (.slice (some ⟨vb, vo, none⟩) votes.length vc) L) ∧ Hid (OutB W (w.heap.size + 3) 34 O 0) ∧ Hid (Kept (fun k => k = w.heap.size ∨ k = w.heap.size + 3) w5 W) :=
        ⟨_, Lib.hid rfl, H5E, H5P, H5R, Lib.hid (by rw [HL2.out]; exact H5V.out), Lib.hid (by rw [HO2.out]; exact H5O.out), Lib.hid (Kept.refl _ _)⟩
      have H8A : Hid (∀ k, (Value.slice (some ⟨vb, vo, none⟩) votes.length vc).ownBlock = some k → (k < w.heap.size ∨ w.heap.size + 4 ≤ k) ∧ ((Value.slice (some ⟨vb, vo, none⟩) votes.length vc).ownBlock = some k ∨ (w.heap.size ≤ k ∧ IntRow W8 k))) := Lib.hid (fun k hk => ⟨.inl (HAV.out k hk), .inl hk⟩)
      rw [← HW8.out]
      obtain ⟨vx, Hvx⟩ : ∃ vx : Value, Hid (vx = .slice (some ⟨vb, vo, none⟩) votes.length vc) := ⟨_, Lib.hid rfl⟩
      rw [← Hvx.out] at H8E H8L
      have H8VX : Hid (∃ a n c, vx = .slice a n c) := Lib.hid ⟨_, _, _, Hvx.out⟩
      have H8A' := H8A
      rw [← Hvx.out] at H8A'
      have H8A2 : Hid (∀ k, vx.ownBlock = some k → (k < w.heap.size ∨ w.heap.size + 4 ≤ k) ∧ ((Value.slice (some ⟨vb, vo, none⟩) votes.length vc).ownBlock = some k ∨ (w.heap.size ≤ k ∧ IntRow W8 k))) := Lib.hid (fun k hk => H8A.out k (by rw [← Hvx.out]; exact hk))
      clear H8A H8A' HW8 c0 c1 c2 c3 c4 c5 c6 h5c
      have H8A := H8A2
      clear H8A2
      try simp only [Act.put]
      obtain ⟨c0, c1, c2, c3, c4, c5, c6⟩ := H8E.out.cells
      have f5 := H8E.out.frozen 5
      have H85 := Lib.hid (H8E.out.setClock 0)
      have k6 := H85.out.cells.2.2.2.2.2.2
      have f6 := H85.out.frozen 6
      go_upto_region 10 with (fail)
      clear c0 c1 c2 c3 c4 c5 c6 f5 k6 f6
      obtain ⟨W9, HW9, H9K, H9E, H9Q⟩ : ∃ W, Hid (W = (W8.setCell ⟨w.heap.size, 5, none⟩ (.int .i64 0)).setCell ⟨w.heap.size, 6, none⟩ (.int .i64 (min (2 * wait) 4096))) ∧ Hid (Kept (fun k => k = w.heap.size) W8 W) ∧ Hid (ElB W w.heap.size 26 F T me view vx 0 (min (2 * wait) 4096)) ∧ Hid (OutB W (w.heap.size + 3) 34 O 0) :=
        ⟨_, Lib.hid rfl, Lib.hid (((Kept.refl (fun k => k = w.heap.size) W8).set (p := ⟨w.heap.size, 5, none⟩) (.inl rfl) _).set (p := ⟨w.heap.size, 6, none⟩) (.inl rfl) _), Lib.hid (H85.out.setWait _),
          Lib.hid ((H8Q.out.setOther (p := ⟨w.heap.size, 5, none⟩) (by show w.heap.size + 3 ≠ w.heap.size; omega) _).setOther (p := ⟨w.heap.size, 6, none⟩) (by show w.heap.size + 3 ≠ w.heap.size; omega) _)⟩
      rw [← HW9.out]
      have H9Z : Hid (w.heap.size + 4 ≤ W9.heap.size) := Lib.hid (Nat.le_trans H5Z.out (Nat.le_trans H8K.out.size H9K.out.size))
      have H9P := Lib.hid (H8P.out.kept H9K.out (by omega))
      have H9R : Hid (W9.heap[w.heap.size + 1]? = some (.cells (ElV 0 0 0 0 (.slice none 0 0) 0 0) 26 (0, 0))) := Lib.hid ((H9K.out.block _ (by have h1 := H5Z.out; have h2 := H8K.out.size; omega) (by omega)).trans H8R.out)
      have H9L := Lib.hid (H8L.out.kept H9K.out (fun b hb e => by have := (H8A.out b hb).1; omega))
      have H9A : Hid (∀ k, vx.ownBlock = some k → (k < w.heap.size ∨ w.heap.size + 4 ≤ k) ∧ ((Value.slice (some ⟨vb, vo, none⟩) votes.length vc).ownBlock = some k ∨ (w.heap.size ≤ k ∧ IntRow W9 k))) := Lib.hid (fun k hk => ⟨(H8A.out k hk).1, (H8A.out k hk).2.imp id fun h => ⟨h.1, h.2.kept H9K.out (by have := (H8A.out k hk).1; omega)⟩⟩)
      have H9W : Hid (Below w.heap.size w W9) := Lib.hid (H5W.out.trans ((H8K.out.trans (H9K.out.mono (fun k h => .inl h))).below (by have := H5Z.out; omega) (fun k h => by omega)))
      clear HW9 H85 H8K H8E H8P H8R H8L H8Q H8A H9K
      go_upto_region 11 with (go_at_call 34; refine (HST.out vx W9 H9E.out H9Q.out H9L.out (fun k h => by have := (H9A.out k h).1; omega)).mono ?_; rintro e w10 ⟨rfl, v4, e4, o4, s4, a4, k4⟩; have HE4 := Lib.hid e4; have HO4 := Lib.hid o4; have HS4 := Lib.hid s4; have HA4 := Lib.hid a4; have HK4 := Lib.hid k4; clear e4 o4 s4 a4 k4)
      have HR4 : Hid (w10.heap[w.heap.size + 1]? = some (.cells (ElV 0 0 0 0 (.slice none 0 0) 0 0) 26 (0, 0))) := Lib.hid ((HK4.out.block _ (by have := H9Z.out; omega) (by omega)).trans H9R.out)
      have HP4 : Hid (OutB w10 (w.heap.size + 2) 34 0 0) := Lib.hid (H9P.out.kept HK4.out (by omega))
      obtain ⟨v5, c5, rfl⟩ := HS4.out.shape
      try simp only [Act.put]
      refine Wild.region_two (w.heap.size + 1) (w.heap.size + 2) 26 34 (ElV 0 0 0 0 (.slice none 0 0) 0 0) (ElV F T me (enterV F T me view L) (.slice v5 (joined F me L).length c5) (enterC F T me view L 0) (min (2 * wait) 4096)) #[.int .i64 0, .int .i64 0] #[.int .i64 (joinO F me L O), .int .i64 (enterO F T me view L 0)] 2 3 (by decide) (by decide) (by decide) HR4.out HP4.out (by kernel_rfl) (by kernel_rfl) (fun vs => ?_)
      refine Wild.walk_load 26 _ _ _ (elL F T me (enterV F T me view L) (.slice v5 (joined F me L).length c5) (enterC F T me view L 0) (min (2 * wait) 4096)) _ rfl (by rfl) rfl rfl (fun w' hw => rangeAt_row (cs := (elL F T me (enterV F T me view L) (.slice v5 (joined F me L).length c5) (enterC F T me view L 0) (min (2 * wait) 4096))) ((hw.1.block w.heap.size (by omega) (by omega)).trans HE4.out)) Try.underlying26 rfl info_el ?_
      simp only [Act.put, List.setIfInBounds_toArray, List.set_cons_zero, List.set_cons_succ]
      refine Wild.walk_load 34 _ _ _ [.int .i64 (joinO F me L O), .int .i64 (enterO F T me view L 0)] _ rfl (by rfl) rfl rfl (fun w' hw => rangeAt_row (cs := [.int .i64 (joinO F me L O), .int .i64 (enterO F T me view L 0)]) ((hw.1.block (w.heap.size + 3) (by omega) (by omega)).trans HO4.out)) Try.underlying34 rfl info_out ?_
      simp only [Act.put, List.setIfInBounds_toArray, List.set_cons_zero, List.set_cons_succ]
      refine Wild.walk_wild _ rfl (by rfl) (fun w' hw K hK => ?_) ?_
      · obtain ⟨s1, s2, s3⟩ := hw.1.set1 (by omega)
        rcases hw.1.one with e | e <;> exact wp_store_row 26 _ _ rfl _ (ElV F T me (enterV F T me view L) (.slice v5 (joined F me L).length c5) (enterC F T me view L 0) (min (2 * wait) 4096)) rfl rfl 26 _ e info_el rfl ElV_one (hK.out undef _ s1 s2 trivial s3)
      simp only [Act.put]
      refine Wild.walk_wild _ rfl (by rfl) (fun w' hw K hK => ?_) ?_
      · obtain ⟨s1, s2, s3⟩ := hw.1.set2 (by omega)
        rcases hw.1.two with e | e <;> exact wp_store_row 34 _ _ rfl _ #[.int .i64 (joinO F me L O), .int .i64 (enterO F T me view L 0)] rfl rfl 34 _ e info_out rfl out_one (hK.out undef _ s1 s2 trivial s3)
      simp only [Act.put]
      refine Wild.walk_nil ?_
      intro w9 hw9 hr9 hp9
      go_wp2_with fail
      refine bodyPost_ret (results_cell2 rfl _ _ (w.heap.size + 1) (w.heap.size + 2) 26 34 _ _ (0, 0) (0, 0) _ _ rfl hr9 Try.underlying26 rfl info_el rfl hp9 Try.underlying34 rfl info_out) rfl ?_
      have hk9 : Kept (fun k => k = w.heap.size + 1 ∨ k = w.heap.size + 2) w10 w9 := ⟨hw9.os, hw9.tape, hw9.output, Nat.le_of_eq hw9.size.symm, fun k _ hk => hw9.block k (fun e => hk (.inl e)) (fun e => hk (.inr e))⟩
      have hz := H9Z.out
      have hne : ∀ k, (Value.slice v5 (joined F me L).length c5).ownBlock = some k → k < w.heap.size ∨ w.heap.size + 4 ≤ k := fun k hk => by
        rcases (HA4.out k hk).2.2 with h3 | ⟨h3, -⟩
        · exact (H9A.out k h3).1
        · exact .inr (by omega)
      refine ⟨.slice v5 (joined F me L).length c5, by rw [HQ.out.1, HQ.out.2.1, HQ.out.2.2.1, HQ.out.2.2.2]; rfl, ?_, fun k hk => ?_, ?_⟩
      · rw [HQ.out.1]
        exact HS4.out.kept hk9 (fun k hk e => by have := hne k hk; omega)
      · have hn := hne k hk
        rcases (HA4.out k hk).2.2 with h3 | ⟨h3, h6⟩
        · refine (H9A.out k h3).2.imp id fun h7 => ⟨h7.1, (h7.2.kept HK4.out ?_).kept hk9 (by omega)⟩
          have := HA4.out k hk
          omega
        · exact .inr ⟨by omega, h6.kept hk9 (by omega)⟩
      · have hb4 : Below w.heap.size W9 w10 := HK4.out.below (by omega) (fun k h => by rcases h with rfl | rfl <;> omega)
        exact (H9W.out.trans hb4).trans ⟨hw9.os, hw9.tape, hw9.output, Nat.le_of_eq hw9.size.symm, fun k hk => hw9.block k (by omega) (by omega)⟩
  · skip
    have dE : decide (clock + 1 < wait) = true := HER.out.symm
    have nE : clock + 1 < wait := of_decide_eq_true dE
    go_enter Try.func18, Try.ntmps18
    go_upto_region 2 with (fail)
    change Code.wp _ _ _ _ ((((w.alloc (.cells (ElV F T me view (.slice va votes.length vc) clock wait) 26)).alloc (.cells (ElV 0 0 0 0 (.slice none 0 0) 0 0) 26)).alloc (.cells #[.int .i64 0, .int .i64 0] 34)).alloc (.cells #[.int .i64 0, .int .i64 0] 34))
    rw [← HW0.out, ← HW1.out, ← HW2.out, ← HV.out]
    go_upto_region 3 with (fail)
    rw [← HX.out]
    clear c0 c1 c2 c3 c4 c5 c6 f5
    obtain ⟨c0, c1, c2, c3, c4, c5, c6⟩ := HXE.out.cells
    go_upto_region 4 with (fail)
    clear c0 c1 c2 c3 c4 c5 c6
    refine Wild.region_two (w.heap.size + 1) (w.heap.size + 2) 26 34 (ElV 0 0 0 0 (.slice none 0 0) 0 0) (ElV F T me view (.slice va votes.length vc) (clock + 1) wait) #[.int .i64 0, .int .i64 0] #[.int .i64 0, .int .i64 0] 2 3 (by decide) (by decide) (by decide) HXR.out HXP.out (by kernel_rfl) (by kernel_rfl) (fun vs => ?_)
    refine Wild.walk_load 26 _ _ _ (elL F T me view (.slice va votes.length vc) (clock + 1) wait) _ rfl (by rfl) rfl rfl (fun w' hw => rangeAt_row (cs := (elL F T me view (.slice va votes.length vc) (clock + 1) wait)) ((hw.1.block w.heap.size (by omega) (by omega)).trans HXE.out)) Try.underlying26 rfl info_el ?_
    simp only [Act.put, List.setIfInBounds_toArray, List.set_cons_zero, List.set_cons_succ]
    refine Wild.walk_load 34 _ _ _ [.int .i64 0, .int .i64 0] _ rfl (by rfl) rfl rfl (fun w' hw => rangeAt_row (cs := [.int .i64 0, .int .i64 0]) ((hw.1.block (w.heap.size + 3) (by omega) (by omega)).trans HXO.out)) Try.underlying34 rfl info_out ?_
    simp only [Act.put, List.setIfInBounds_toArray, List.set_cons_zero, List.set_cons_succ]
    refine Wild.walk_wild _ rfl (by rfl) (fun w' hw K hK => ?_) ?_
    · obtain ⟨s1, s2, s3⟩ := hw.1.set1 (by omega)
      rcases hw.1.one with e | e <;> exact wp_store_row 26 _ _ rfl _ (ElV F T me view (.slice va votes.length vc) (clock + 1) wait) rfl rfl 26 _ e info_el rfl ElV_one (hK.out undef _ s1 s2 trivial s3)
    simp only [Act.put]
    refine Wild.walk_wild _ rfl (by rfl) (fun w' hw K hK => ?_) ?_
    · obtain ⟨s1, s2, s3⟩ := hw.1.set2 (by omega)
      rcases hw.1.two with e | e <;> exact wp_store_row 34 _ _ rfl _ #[.int .i64 0, .int .i64 0] rfl rfl 34 _ e info_out rfl out_one (hK.out undef _ s1 s2 trivial s3)
    simp only [Act.put]
    refine Wild.walk_nil ?_
    intro w9 hw9 hr9 hp9
    go_wp2_with fail
    refine bodyPost_ret (results_cell2 rfl _ _ (w.heap.size + 1) (w.heap.size + 2) 26 34 _ _ (0, 0) (0, 0) _ _ rfl hr9 Try.underlying26 rfl info_el rfl hp9 Try.underlying34 rfl info_out) rfl ?_
    refine ⟨.slice va votes.length vc, by rw [HQ.out.1, HQ.out.2.1, HQ.out.2.2.1, HQ.out.2.2.2]; rfl, ?_, fun k h => .inl h, ?_⟩
    · rw [HQ.out.1]
      exact HXV.out.kept (S := fun k => k = w.heap.size + 1 ∨ k = w.heap.size + 2) ⟨hw9.os, hw9.tape, hw9.output, Nat.le_of_eq hw9.size.symm, fun k _ hk => hw9.block k (fun e => hk (.inl e)) (fun e => hk (.inr e))⟩ (fun k hk e => by have := HAV.out k hk; omega)
    · exact HXB.out.trans ⟨hw9.os, hw9.tape, hw9.output, Nat.le_of_eq hw9.size.symm, fun k hk => hw9.block k (by omega) (by omega)⟩
end Go.Proofs.Ytgkhgjoggkcklaa

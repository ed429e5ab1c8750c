/- The walk of the document's settle. -/
import Derived.Test.YtgkhgjoggkcklaaERVote
namespace Go.Proofs.Ytgkhgjoggkcklaa
open Go Go.RowKit
set_option maxRecDepth 100000
set_option maxHeartbeats 4000000
attribute [local irreducible] Wild.walk

theorem settle_ref (F T : Int) (me : Nat) (view : Int) (v : Value) (clock wait a b : Int) (votes : List Int) (w : World) (hv : SlI w .i64 v votes) (hr : RightS F T) (hl : votes.length ≤ 1000) (hme : me < votes.length) :
    Calls Try.prog 39 #[.agg (ElV F T me view v clock wait), .agg #[.int .i64 a, .int .i64 b]] w fun e w' => ∃ v', e = .returned (.tuple #[.agg (ElV F T me (enterV F T me view votes) v' (enterC F T me view votes clock) wait), .agg #[.int .i64 (joinO F me votes a), .int .i64 (enterO F T me view votes b)]]) ∧ SlI w' .i64 v' (joined F me votes) ∧ (∀ k, v'.ownBlock = some k → v.ownBlock = some k ∨ w.heap.size ≤ k) ∧ Below w.heap.size w w' := by
  obtain ⟨N, HN⟩ : ∃ N, Hid (N = votes.length) := ⟨_, Lib.hid rfl⟩
  have HWE := Lib.hid (fun w' => Weak_ref F T w' hr)
  have HPR := Lib.hid (fun w' => Proof_ref F T w' hr)
  obtain ⟨jn, Hjn⟩ : ∃ jn, Hid (jn = joins F me votes) := ⟨_, Lib.hid rfl⟩
  obtain ⟨en, Hen⟩ : ∃ en, Hid (en = enters F T me view votes) := ⟨_, Lib.hid rfl⟩
  obtain ⟨J, HJ⟩ : ∃ J, Hid (J = nthV votes (F + 1)) := ⟨_, Lib.hid rfl⟩
  obtain ⟨U, HU⟩ : ∃ U, Hid (U = nthV (joined F me votes) (2 * F + T + 1)) := ⟨_, Lib.hid rfl⟩
  have HJL : Hid ((joined F me votes).length = N) := Lib.hid (by rw [joined, HN.out]; split <;> simp)
  obtain ⟨z, Hz⟩ : ∃ z, Hid (z = votes.getD me 0) := ⟨_, Lib.hid rfl⟩
  have d1 : decide (z < J) = jn := by rw [Hjn.out, joins, HJ.out, Hz.out]
  have d2 : decide (view < U) = en := by rw [Hen.out, enters, HU.out]
  have HNJ : Hid (∀ v' w', SlI w' .i64 v' votes → Calls Try.prog 30 #[v', .int .i64 (F + 1)] w' fun e w'' => e = .returned (.int .i64 J) ∧ Below w'.heap.size w' w'') := Lib.hid (fun v' w' h => by rw [HJ.out]; exact Nth_ref v' votes _ w' h (by omega))
  have HNU : Hid (∀ v' w', SlI w' .i64 v' (joined F me votes) → Calls Try.prog 30 #[v', .int .i64 (2 * F + T + 1)] w' fun e w'' => e = .returned (.int .i64 U) ∧ Below w'.heap.size w' w'') := Lib.hid (fun v' w' h => by rw [HU.out]; exact Nth_ref v' _ _ w' h (by rw [HJL.out, HN.out]; omega))
  have HVO := Lib.hid (fun v' w' h => voted_any F T me view v' clock wait J me votes w' h (by omega) hme)
  have HAV : Hid (∀ k, v.ownBlock = some k → k < w.heap.size) := Lib.hid (fun k hk => hv.blt (by omega) k hk)
  have HS0' := Lib.hid hv
  obtain ⟨va, vc, rfl⟩ := hv.shape
  obtain ⟨vb, vo, rfl, -, q1, hcv⟩ := hv.cellAt (i := me) hme
  have HCV := Lib.hid (hcv me hme)
  rw [← Hz.out] at HCV
  rw [← HN.out] at q1 HS0' HAV hme hl ⊢
  obtain ⟨W0, HW0, HB0, HS0, HE0⟩ : ∃ V, Hid (V = w.alloc (.cells (ElV F T me view (.slice (some ⟨vb, vo, none⟩) N vc) clock wait) 30)) ∧ Hid (Below w.heap.size w V) ∧ Hid (V.heap.size = w.heap.size + 1) ∧ Hid (ElB V w.heap.size 30 F T me view (.slice (some ⟨vb, vo, none⟩) N vc) clock wait) := ⟨_, Lib.hid rfl, Lib.hid ((Below.refl _ _).alloc (Nat.le_refl _) _), Lib.hid (by simp), Lib.hid (heap_alloc_new _ _)⟩
  obtain ⟨W1, HW1, HB1, HS1, HE1, HO1⟩ : ∃ V, Hid (V = W0.alloc (.cells #[.int .i64 a, .int .i64 b] 42)) ∧ Hid (Below w.heap.size w V) ∧ Hid (V.heap.size = w.heap.size + 2) ∧ Hid (ElB V w.heap.size 30 F T me view (.slice (some ⟨vb, vo, none⟩) N vc) clock wait) ∧ Hid (OutB V (w.heap.size + 1) 42 a b) :=
    ⟨_, Lib.hid rfl, Lib.hid (HB0.out.alloc HB0.out.size _), Lib.hid (by simp [HS0.out]), Lib.hid ((heap_alloc_old _ _ _ (by rw [HS0.out]; omega)).trans HE0.out), Lib.hid (by rw [← HS0.out]; exact heap_alloc_new _ _)⟩
  obtain ⟨W2, HW2, HB2, HS2, HE2, HO2, HR2⟩ : ∃ V, Hid (V = W1.alloc (.cells (ElV 0 0 0 0 (.slice none 0 0) 0 0) 30)) ∧ Hid (Below w.heap.size w V) ∧ Hid (V.heap.size = w.heap.size + 3) ∧ Hid (ElB V w.heap.size 30 F T me view (.slice (some ⟨vb, vo, none⟩) N vc) clock wait) ∧ Hid (OutB V (w.heap.size + 1) 42 a b) ∧ Hid (V.heap[w.heap.size + 2]? = some (.cells (ElV 0 0 0 0 (.slice none 0 0) 0 0) 30 (0, 0))) :=
    ⟨_, Lib.hid rfl, Lib.hid (HB1.out.alloc HB1.out.size _), Lib.hid (by simp [HS1.out]), Lib.hid ((heap_alloc_old _ _ _ (by rw [HS1.out]; omega)).trans HE1.out), Lib.hid ((heap_alloc_old _ _ _ (by rw [HS1.out]; omega)).trans HO1.out), Lib.hid (by rw [← HS1.out]; exact heap_alloc_new _ _)⟩
  obtain ⟨V, HV, HB, HS, HE, HO, HR, HP⟩ : ∃ V, Hid (V = W2.alloc (.cells #[.int .i64 0, .int .i64 0] 42)) ∧ Hid (Below w.heap.size w V) ∧ Hid (V.heap.size = w.heap.size + 4) ∧ Hid (ElB V w.heap.size 30 F T me view (.slice (some ⟨vb, vo, none⟩) N vc) clock wait) ∧ Hid (OutB V (w.heap.size + 1) 42 a b) ∧ Hid (V.heap[w.heap.size + 2]? = some (.cells (ElV 0 0 0 0 (.slice none 0 0) 0 0) 30 (0, 0))) ∧ Hid (OutB V (w.heap.size + 3) 42 0 0) :=
    ⟨_, Lib.hid rfl, Lib.hid (HB2.out.alloc HB2.out.size _), Lib.hid (by simp [HS2.out]), Lib.hid ((heap_alloc_old _ _ _ (by rw [HS2.out]; omega)).trans HE2.out), Lib.hid ((heap_alloc_old _ _ _ (by rw [HS2.out]; omega)).trans HO2.out), Lib.hid ((heap_alloc_old _ _ _ (by rw [HS2.out]; omega)).trans HR2.out), Lib.hid (by rw [← HS2.out]; exact heap_alloc_new _ _)⟩
  have HSV := Lib.hid (HS0'.out.later HB.out)
  have HCX : Hid (V.cell? ⟨vb, vo + me, none⟩ = some (.int .i64 z)) := Lib.hid (by rw [HB.out.cell (World.block_lt_of_cell? _ _ HCV.out)]; exact HCV.out)
  have hmi : (me : Int) < N := by omega
  clear hv hcv
  go_enter Try.func39, Try.ntmps39
  go_upto_region 1 with (fail)
  change Code.wp _ _ _ _ ((((w.alloc (.cells (ElV F T me view (.slice (some ⟨vb, vo, none⟩) N vc) clock wait) 30)).alloc (.cells #[.int .i64 a, .int .i64 b] 42)).alloc (.cells (ElV 0 0 0 0 (.slice none 0 0) 0 0) 30)).alloc (.cells #[.int .i64 0, .int .i64 0] 42))
  rw [← HW0.out, ← HW1.out, ← HW2.out, ← HV.out]
  refine Wild.region_b (fun k => match k with | 4 => some (.fix (.int .i64 (F + 1))) | 5 => some (.fix (.int .i64 J)) | _ => none) (fun _ => []) rfl (by kernel_rfl) (fun vs hvs => ?_)
  have v4 : vs 4 = .int .i64 (F + 1) := hvs 4 _ rfl
  have v5 : vs 5 = .int .i64 J := hvs 5 _ rfl
  refine Wild.walk_simple rfl (by rfl) (by rfl) (fun K hK => ?_); go_big_quiet_op; first | (refine hK _ ?_; clear hK K) | (refine ⟨_, fun _ _ => rfl, hK _ ?_⟩; clear hK K)
  refine Wild.walk_cell 24 _ _ _ (.slice (some ⟨vb, vo, none⟩) N vc) _ rfl (by rfl) rfl rfl (fun w' hw => (HE.out.later hw.1).cells.2.2.2.2.1) Try.underlying24 rfl ?_
  simp only [Act.put, List.setIfInBounds_toArray, List.set_cons_zero, List.set_cons_succ]
  refine Wild.walk_simple rfl (by rfl) (by rfl) (fun K hK => ?_); go_big_quiet_op; first | (refine hK _ ?_; clear hK K) | (refine ⟨_, fun _ _ => rfl, hK _ ?_⟩; clear hK K)
  refine Wild.walk_load 28 _ _ _ [.int .i64 F, .int .i64 T] _ rfl (by rfl) rfl rfl (fun w' hw => el_size (HE.out.later hw.1)) Try.underlying28 rfl info_rsize ?_
  simp only [Act.put, List.setIfInBounds_toArray, List.set_cons_zero, List.set_cons_succ]
  refine Wild.walk_wild _ rfl (by rfl) (fun w' hw K hK => ?_) ?_
  · go_simp
    go_at_call 53
    refine (HWE.out w').mono ?_
    rintro e w'' ⟨rfl, hb⟩
    exact hK.out _ _ (hw.1.trans (hb.mono hw.1.size)) hb rfl trivial
  rw [v4]
  simp only [Act.put, List.setIfInBounds_toArray, List.set_cons_zero, List.set_cons_succ]
  refine Wild.walk_wild _ rfl (by rfl) (fun w' hw K hK => ?_) ?_
  · go_simp
    go_at_call 30
    refine (HNJ.out _ w' (HSV.out.later hw.1)).mono ?_
    rintro e w'' ⟨rfl, hb⟩
    exact hK.out _ _ (hw.1.trans (hb.mono hw.1.size)) hb rfl trivial
  rw [v5]
  simp only [Act.put, List.setIfInBounds_toArray, List.set_cons_zero, List.set_cons_succ]
  refine Wild.walk_simple rfl (by rfl) (by rfl) (fun K hK => ?_); go_big_quiet_op; first | (refine hK _ ?_; clear hK K) | (refine ⟨_, fun _ _ => rfl, hK _ ?_⟩; clear hK K)
  refine Wild.walk_nil ?_
  intro w1 hw1 hf1
  have HBV : Hid (Below V.heap.size V w1) := Lib.hid hw1
  have HBW : Hid (Below w.heap.size w w1) := Lib.hid (HB.out.trans (hw1.mono HB.out.size))
  have HEA := Lib.hid (HE.out.later HBV.out)
  have HOA : Hid (OutB w1 (w.heap.size + 1) 42 a b) := Lib.hid ((HBV.out.block _ HO.out.lt).trans HO.out)
  have HRA : Hid (w1.heap[w.heap.size + 2]? = some (.cells (ElV 0 0 0 0 (.slice none 0 0) 0 0) 30 (0, 0))) := Lib.hid ((HBV.out.block _ (by rw [HS.out]; omega)).trans HR.out)
  have HPA : Hid (OutB w1 (w.heap.size + 3) 42 0 0) := Lib.hid ((HBV.out.block _ HP.out.lt).trans HP.out)
  have HSA := Lib.hid (HSV.out.later HBV.out)
  have HCA : Hid (w1.cell? ⟨vb, vo + me, none⟩ = some (.int .i64 z)) := Lib.hid (by rw [HBV.out.cell (World.block_lt_of_cell? _ _ HCX.out)]; exact HCX.out)
  have HZA : Hid (w.heap.size + 4 ≤ w1.heap.size) := Lib.hid (by have := HBV.out.size; have := HS.out; omega)
  clear hw1 hf1 v4 v5 hvs
  obtain ⟨c0, c1, c2, c3, c4, c5, c6⟩ := HEA.out.cells
  have hc1 := HCA.out
  cases jn
  case' false =>
    go_upto_region 5 with (fail)
    obtain ⟨W4, HW4, HE4, HO4, HR4, HP4, HS4, HB4, HZ4⟩ : ∃ W, Hid (W = w1) ∧ Hid (ElB W w.heap.size 30 F T me view (.slice (some ⟨vb, vo, none⟩) N vc) clock wait) ∧ Hid (OutB W (w.heap.size + 1) 42 (joinO F me votes a) b) ∧ Hid (W.heap[w.heap.size + 2]? = some (.cells (ElV 0 0 0 0 (.slice none 0 0) 0 0) 30 (0, 0))) ∧ Hid (OutB W (w.heap.size + 3) 42 0 0) ∧ Hid (SlI W .i64 (.slice (some ⟨vb, vo, none⟩) N vc) (joined F me votes)) ∧ Hid (Below w.heap.size w W) ∧ Hid (w.heap.size + 4 ≤ W.heap.size) :=
      ⟨_, Lib.hid rfl, HEA, Lib.hid (by rw [joinO, ← Hjn.out]; exact HOA.out), HRA, HPA, Lib.hid (by rw [joined, ← Hjn.out]; exact HSA.out), HBW, HZA⟩
    have HA4 : Hid (∀ k, (Value.slice (some ⟨vb, vo, none⟩) N vc).ownBlock = some k → (Value.slice (some ⟨vb, vo, none⟩) N vc).ownBlock = some k ∨ w.heap.size + 4 ≤ k) := Lib.hid (fun k h => .inl h)
    rw [← HW4.out]
    obtain ⟨xa, xc, Hxa⟩ : ∃ (xa : Option Addr) (xc : Nat), Hid (Value.slice (some ⟨vb, vo, none⟩) N vc = Value.slice xa N xc) := ⟨_, _, Lib.hid rfl⟩
    rw [Hxa.out] at HE4 HS4
    rw [show (∀ k, (Value.slice (some ⟨vb, vo, none⟩) N vc).ownBlock = some k → (Value.slice (some ⟨vb, vo, none⟩) N vc).ownBlock = some k ∨ w.heap.size + 4 ≤ k) = (∀ k, (Value.slice xa N xc).ownBlock = some k → (Value.slice (some ⟨vb, vo, none⟩) N vc).ownBlock = some k ∨ w.heap.size + 4 ≤ k) by rw [Hxa.out]] at HA4
    clear HW4 Hxa
  case' true =>
    have o0 := HOA.out.cells.1
    go_upto_region 4 with (first
      | ((with_reducible refine at_load 30 _ rfl ?_); refine wpList_load_row rfl 30 _ rfl _ rfl _ (ElV F T me view (.slice (some ⟨vb, vo, none⟩) N vc) clock wait) (0, 0) _ HEA.out Try.underlying30 rfl info_rel ?_)
      | (go_at_call 38; refine (HVO.out _ w1 HSA.out).mono ?_; rintro e w3 ⟨v3, rfl, s3, a3, b3⟩; have HS3 := Lib.hid s3; have HA3 := Lib.hid a3; have HB3 := Lib.hid b3; obtain ⟨ya, yc, hv3⟩ := s3.shape; rw [List.length_set, ← HN.out] at hv3; subst hv3; have HE3 := Lib.hid (HEA.out.later b3); clear s3 a3 b3)
      | ((with_reducible refine at_store 30 _ _ rfl ?_); refine wpList_store_row rfl 30 _ _ rfl w.heap.size (ElV F T me view (.slice ya N yc) clock wait) rfl rfl 30 _ HE3.out info_rel rfl ElV_one ?_))
    have HO3 : Hid (OutB w3 (w.heap.size + 1) 42 a b) := Lib.hid ((HB3.out.block _ HOA.out.lt).trans HOA.out)
    have HOX : Hid (OutB (w3.setRow w.heap.size (ElV F T me view (.slice ya N yc) clock wait)) (w.heap.size + 1) 42 a b) := Lib.hid ((setRow_other _ _ _ _ (by omega)).trans HO3.out)
    have f0 := HOX.out.frozen 0
    have g0 := HOX.out.cells.1
    clear o0
    go_upto_region 5 with (fail)
    obtain ⟨W4, HW4, HE4, HO4, HR4, HP4, HS4, HB4, HZ4⟩ : ∃ W, Hid (W = (w3.setRow w.heap.size (ElV F T me view (.slice ya N yc) clock wait)).setCell ⟨w.heap.size + 1, 0, none⟩ (.int .i64 J)) ∧ Hid (ElB W w.heap.size 30 F T me view (.slice ya N yc) clock wait) ∧ Hid (OutB W (w.heap.size + 1) 42 (joinO F me votes a) b) ∧ Hid (W.heap[w.heap.size + 2]? = some (.cells (ElV 0 0 0 0 (.slice none 0 0) 0 0) 30 (0, 0))) ∧ Hid (OutB W (w.heap.size + 3) 42 0 0) ∧ Hid (SlI W .i64 (.slice ya N yc) (joined F me votes)) ∧ Hid (Below w.heap.size w W) ∧ Hid (w.heap.size + 4 ≤ W.heap.size) :=
      ⟨_, Lib.hid rfl, Lib.hid (ElB.setOther (p := ⟨w.heap.size + 1, 0, none⟩) (setRow_heap _ _ _ _ _ _ HE3.out) (by show w.heap.size ≠ w.heap.size + 1; omega) _), Lib.hid (by rw [joinO, ← Hjn.out, if_pos rfl, ← HJ.out]; exact HOX.out.set0 J),
        Lib.hid ((Below.heap_setCell _ _ _ _ (by show w.heap.size + 2 ≠ w.heap.size + 1; omega)).trans ((setRow_other _ _ _ _ (by omega)).trans ((HB3.out.block _ (by have := HZA.out; omega)).trans HRA.out))),
        Lib.hid ((Below.heap_setCell _ _ _ _ (by show w.heap.size + 3 ≠ w.heap.size + 1; omega)).trans ((setRow_other _ _ _ _ (by omega)).trans ((HB3.out.block _ (by have := HZA.out; omega)).trans HPA.out))),
        Lib.hid (by
          rw [joined, ← Hjn.out, if_pos rfl, ← HJ.out]
          have hk : Kept (fun k => k = w.heap.size ∨ k = w.heap.size + 1) w3 ((w3.setRow w.heap.size (ElV F T me view (.slice ya N yc) clock wait)).setCell ⟨w.heap.size + 1, 0, none⟩ (.int .i64 J)) := Kept.set (S := fun k => k = w.heap.size ∨ k = w.heap.size + 1) (a := w3) (b := w3.setRow w.heap.size (ElV F T me view (.slice ya N yc) clock wait)) (p := ⟨w.heap.size + 1, 0, none⟩) ⟨rfl, rfl, rfl, by simp, fun k _ hk => setRow_other _ _ _ _ (fun e => hk (.inl e))⟩ (.inl (.inr rfl)) _
          exact HS3.out.kept hk (fun k hk e => by have h1 := HA3.out k hk; have h2 := HZA.out; rcases e with e | e <;> omega)),
        Lib.hid ((((Kept.of (HBW.out.trans (HB3.out.mono HBW.out.size))).trans (S := fun k => w.heap.size ≤ k) (b := w3) (c := w3.setRow w.heap.size (ElV F T me view (.slice ya N yc) clock wait)) ⟨rfl, rfl, rfl, by simp, fun k _ hk => setRow_other _ _ _ _ (fun e => hk (by omega))⟩).set (p := ⟨w.heap.size + 1, 0, none⟩) (.inl (by show w.heap.size ≤ w.heap.size + 1; omega)) _).below (Nat.le_refl _) (fun k h => h)),
        Lib.hid (by have h1 := HZA.out; have h2 := HB3.out.size; simp; omega)⟩
    rw [← HW4.out]
    have HA4 : Hid (∀ k, (Value.slice ya N yc).ownBlock = some k → (Value.slice (some ⟨vb, vo, none⟩) N vc).ownBlock = some k ∨ w.heap.size + 4 ≤ k) := Lib.hid (fun k h => .inr (by have h1 := HA3.out k h; have h2 := HZA.out; omega))
    obtain ⟨xa, xc, Hxa⟩ : ∃ (xa : Option Addr) (xc : Nat), Hid (ya = xa ∧ yc = xc) := ⟨_, _, Lib.hid ⟨rfl, rfl⟩⟩
    rw [Hxa.out.1, Hxa.out.2] at HE4 HS4 HA4
    clear HW4 f0 g0 Hxa
  all_goals skip
  · skip
    clear c0 c1 c2 c3 c4 c5 c6 hc1
    try simp only [Act.put]
    refine Wild.region_b (fun k => match k with | 4 => some (.fix (.int .i64 (2 * F + T + 1))) | 5 => some (.fix (.int .i64 U)) | _ => none) (fun _ => []) rfl (by kernel_rfl) (fun vs hvs => ?_)
    have v4 : vs 4 = .int .i64 (2 * F + T + 1) := hvs 4 _ rfl
    have v5 : vs 5 = .int .i64 U := hvs 5 _ rfl
    refine Wild.walk_simple rfl (by rfl) (by rfl) (fun K hK => ?_); go_big_quiet_op; first | (refine hK _ ?_; clear hK K) | (refine ⟨_, fun _ _ => rfl, hK _ ?_⟩; clear hK K)
    refine Wild.walk_cell 24 _ _ _ (.slice xa N xc) _ rfl (by rfl) rfl rfl (fun w' hw => (HE4.out.later hw.1).cells.2.2.2.2.1) Try.underlying24 rfl ?_
    simp only [Act.put, List.setIfInBounds_toArray, List.set_cons_zero, List.set_cons_succ]
    refine Wild.walk_simple rfl (by rfl) (by rfl) (fun K hK => ?_); go_big_quiet_op; first | (refine hK _ ?_; clear hK K) | (refine ⟨_, fun _ _ => rfl, hK _ ?_⟩; clear hK K)
    refine Wild.walk_load 28 _ _ _ [.int .i64 F, .int .i64 T] _ rfl (by rfl) rfl rfl (fun w' hw => el_size (HE4.out.later hw.1)) Try.underlying28 rfl info_rsize ?_
    simp only [Act.put, List.setIfInBounds_toArray, List.set_cons_zero, List.set_cons_succ]
    refine Wild.walk_wild _ rfl (by rfl) (fun w' hw K hK => ?_) ?_
    · go_simp
      go_at_call 54
      refine (HPR.out w').mono ?_
      rintro e w'' ⟨rfl, hb⟩
      exact hK.out _ _ (hw.1.trans (hb.mono hw.1.size)) hb rfl trivial
    rw [v4]
    simp only [Act.put, List.setIfInBounds_toArray, List.set_cons_zero, List.set_cons_succ]
    refine Wild.walk_wild _ rfl (by rfl) (fun w' hw K hK => ?_) ?_
    · go_simp
      go_at_call 30
      refine (HNU.out _ w' (HS4.out.later hw.1)).mono ?_
      rintro e w'' ⟨rfl, hb⟩
      exact hK.out _ _ (hw.1.trans (hb.mono hw.1.size)) hb rfl trivial
    rw [v5]
    simp only [Act.put, List.setIfInBounds_toArray, List.set_cons_zero, List.set_cons_succ]
    refine Wild.walk_simple rfl (by rfl) (by rfl) (fun K hK => ?_); go_big_quiet_op; first | (refine hK _ ?_; clear hK K) | (refine ⟨_, fun _ _ => rfl, hK _ ?_⟩; clear hK K)
    refine Wild.walk_nil ?_
    intro w5 hw5 hf5
    have HB5 : Hid (Below W4.heap.size W4 w5) := Lib.hid hw5
    have HE5 := Lib.hid (HE4.out.later HB5.out)
    have HO5 : Hid (OutB w5 (w.heap.size + 1) 42 (joinO F me votes a) b) := Lib.hid ((HB5.out.block _ HO4.out.lt).trans HO4.out)
    have HR5 : Hid (w5.heap[w.heap.size + 2]? = some (.cells (ElV 0 0 0 0 (.slice none 0 0) 0 0) 30 (0, 0))) := Lib.hid ((HB5.out.block _ (by have := HZ4.out; omega)).trans HR4.out)
    have HP5 : Hid (OutB w5 (w.heap.size + 3) 42 0 0) := Lib.hid ((HB5.out.block _ HP4.out.lt).trans HP4.out)
    have HS5 := Lib.hid (HS4.out.later HB5.out)
    have HB6 := Lib.hid (HB4.out.trans (HB5.out.mono HB4.out.size))
    clear hw5 hf5 v4 v5 hvs
    obtain ⟨c0, c1, c2, c3, c4, c5, c6⟩ := HE5.out.cells
    cases en
    · go_upto_region 10 with (fail)
      have HE7 := HE5
      have HO7 := HO5
      have HR7 := HR5
      have HP7 := HP5
      have HS7 := HS5
      have HB7 := HB6
      have HZ7 : Hid (w.heap.size + 4 ≤ w5.heap.size) := Lib.hid (by have h1 := HZ4.out; have h2 := HB5.out.size; omega)
      refine Wild.region_two (w.heap.size + 2) (w.heap.size + 3) 30 42 (ElV 0 0 0 0 (.slice none 0 0) 0 0) (ElV F T me view (.slice xa N xc) clock wait) #[.int .i64 0, .int .i64 0] #[.int .i64 (joinO F me votes a), .int .i64 b] 2 3 (by decide) (by decide) (by decide) HR7.out HP7.out (by kernel_rfl) (by kernel_rfl) (fun vs => ?_)
      refine Wild.walk_load 30 _ _ _ (elL F T me view (.slice xa N xc) clock wait) _ rfl (by rfl) rfl rfl (fun w' hw => rangeAt_row (cs := (elL F T me view (.slice xa N xc) clock wait)) ((hw.1.block w.heap.size (by omega) (by omega)).trans HE7.out)) Try.underlying30 rfl info_rel ?_
      simp only [Act.put, List.setIfInBounds_toArray, List.set_cons_zero, List.set_cons_succ]
      refine Wild.walk_load 42 _ _ _ [.int .i64 (joinO F me votes a), .int .i64 b] _ rfl (by rfl) rfl rfl (fun w' hw => rangeAt_row (cs := [.int .i64 (joinO F me votes a), .int .i64 b]) ((hw.1.block (w.heap.size + 1) (by omega) (by omega)).trans HO7.out)) Try.underlying42 rfl info_rout ?_
      simp only [Act.put, List.setIfInBounds_toArray, List.set_cons_zero, List.set_cons_succ]
      refine Wild.walk_wild _ rfl (by rfl) (fun w' hw K hK => ?_) ?_
      · obtain ⟨s1, s2, s3⟩ := hw.1.set1 (by omega)
        rcases hw.1.one with e | e <;> exact wp_store_row 30 _ _ rfl _ (ElV F T me view (.slice xa N xc) clock wait) rfl rfl 30 _ e info_rel rfl ElV_one (hK.out undef _ s1 s2 trivial s3)
      simp only [Act.put]
      refine Wild.walk_wild _ rfl (by rfl) (fun w' hw K hK => ?_) ?_
      · obtain ⟨s1, s2, s3⟩ := hw.1.set2 (by omega)
        rcases hw.1.two with e | e <;> exact wp_store_row 42 _ _ rfl _ #[.int .i64 (joinO F me votes a), .int .i64 b] rfl rfl 42 _ e info_rout rfl out_one (hK.out undef _ s1 s2 trivial s3)
      simp only [Act.put]
      refine Wild.walk_nil ?_
      intro w9 hw9 hr9 hp9
      go_wp2_with fail
      refine bodyPost_ret (results_cell2 rfl _ _ (w.heap.size + 2) (w.heap.size + 3) 30 42 _ _ (0, 0) (0, 0) _ _ rfl hr9 Try.underlying30 rfl info_rel rfl hp9 Try.underlying42 rfl info_rout) rfl ?_
      refine ⟨(.slice xa N xc), by rw [enterV, enterC, enterO, ← Hen.out]; rfl, ?_, fun k hk => (HA4.out k hk).imp id (fun h => by omega), ?_⟩
      · exact HS7.out.kept (S := fun k => k = w.heap.size + 2 ∨ k = w.heap.size + 3) ⟨hw9.os, hw9.tape, hw9.output, Nat.le_of_eq hw9.size.symm, fun k _ hk => hw9.block k (fun e => hk (.inl e)) (fun e => hk (.inr e))⟩ (fun k hk e => by
          rcases HA4.out k hk with h1 | h1
          · have := HAV.out k h1; omega
          · omega)
      · exact HB7.out.trans ⟨hw9.os, hw9.tape, hw9.output, Nat.le_of_eq hw9.size.symm, fun k hk => hw9.block k (by omega) (by omega)⟩
    · have f3 := HE5.out.frozen 3
      have HE6 := Lib.hid (HE5.out.setView U)
      have k5 := HE6.out.cells.2.2.2.2.2.1
      have f5 := HE6.out.frozen 5
      have HEx := Lib.hid (HE6.out.setClock 0)
      have HOx : Hid (OutB ((w5.setCell ⟨w.heap.size, 3, none⟩ (.int .i64 U)).setCell ⟨w.heap.size, 5, none⟩ (.int .i64 0)) (w.heap.size + 1) 42 (joinO F me votes a) b) := Lib.hid ((HO5.out.setOther (p := ⟨w.heap.size, 3, none⟩) (by show w.heap.size + 1 ≠ w.heap.size; omega) _).setOther (p := ⟨w.heap.size, 5, none⟩) (by show w.heap.size + 1 ≠ w.heap.size; omega) _)
      have k7 := HOx.out.cells.2
      have f7 := HOx.out.frozen 1
      go_upto_region 10 with (fail)
      have HKX : Hid (Kept (fun k => k = w.heap.size ∨ k = w.heap.size + 1) w5 (((w5.setCell ⟨w.heap.size, 3, none⟩ (.int .i64 U)).setCell ⟨w.heap.size, 5, none⟩ (.int .i64 0)).setCell ⟨w.heap.size + 1, 1, none⟩ (.int .i64 U))) := Lib.hid ((((Kept.refl _ _).set (p := ⟨w.heap.size, 3, none⟩) (.inl (.inl rfl)) _).set (p := ⟨w.heap.size, 5, none⟩) (.inl (.inl rfl)) _).set (p := ⟨w.heap.size + 1, 1, none⟩) (.inl (.inr rfl)) _)
      obtain ⟨W7, HW7, HK7, HE7, HO7⟩ : ∃ W, Hid (W = ((w5.setCell ⟨w.heap.size, 3, none⟩ (.int .i64 U)).setCell ⟨w.heap.size, 5, none⟩ (.int .i64 0)).setCell ⟨w.heap.size + 1, 1, none⟩ (.int .i64 U)) ∧ Hid (Kept (fun k => k = w.heap.size ∨ k = w.heap.size + 1) w5 W) ∧ Hid (ElB W w.heap.size 30 F T me U (.slice xa N xc) 0 wait) ∧ Hid (OutB W (w.heap.size + 1) 42 (joinO F me votes a) U) :=
        ⟨_, Lib.hid rfl, HKX, Lib.hid (HEx.out.setOther (p := ⟨w.heap.size + 1, 1, none⟩) (by show w.heap.size ≠ w.heap.size + 1; omega) _), Lib.hid (HOx.out.set1 U)⟩
      rw [← HW7.out]
      have HZ5 : Hid (w.heap.size + 4 ≤ w5.heap.size) := Lib.hid (by have h1 := HZ4.out; have h2 := HB5.out.size; omega)
      have HR7 : Hid (W7.heap[w.heap.size + 2]? = some (.cells (ElV 0 0 0 0 (.slice none 0 0) 0 0) 30 (0, 0))) := Lib.hid ((HK7.out.block _ (by have := HZ5.out; omega) (by omega)).trans HR5.out)
      have HP7 : Hid (OutB W7 (w.heap.size + 3) 42 0 0) := Lib.hid ((HK7.out.block _ (by have := HZ5.out; omega) (by omega)).trans HP5.out)
      have HS7 : Hid (SlI W7 .i64 (.slice xa N xc) (joined F me votes)) := Lib.hid (HS5.out.kept HK7.out (fun k hk e => by
        rcases HA4.out k hk with h1 | h1
        · have := HAV.out k h1; omega
        · omega))
      have HB7 : Hid (Below w.heap.size w W7) := Lib.hid (HB6.out.trans (HK7.out.below HB6.out.size (fun k h => by omega)))
      clear HW7 k5 f5 k7 f7 f3 HKX c0 c1 c2 c3 c4 c5 c6
      refine Wild.region_two (w.heap.size + 2) (w.heap.size + 3) 30 42 (ElV 0 0 0 0 (.slice none 0 0) 0 0) (ElV F T me U (.slice xa N xc) 0 wait) #[.int .i64 0, .int .i64 0] #[.int .i64 (joinO F me votes a), .int .i64 U] 2 3 (by decide) (by decide) (by decide) HR7.out HP7.out (by kernel_rfl) (by kernel_rfl) (fun vs => ?_)
      refine Wild.walk_load 30 _ _ _ (elL F T me U (.slice xa N xc) 0 wait) _ rfl (by rfl) rfl rfl (fun w' hw => rangeAt_row (cs := (elL F T me U (.slice xa N xc) 0 wait)) ((hw.1.block w.heap.size (by omega) (by omega)).trans HE7.out)) Try.underlying30 rfl info_rel ?_
      simp only [Act.put, List.setIfInBounds_toArray, List.set_cons_zero, List.set_cons_succ]
      refine Wild.walk_load 42 _ _ _ [.int .i64 (joinO F me votes a), .int .i64 U] _ rfl (by rfl) rfl rfl (fun w' hw => rangeAt_row (cs := [.int .i64 (joinO F me votes a), .int .i64 U]) ((hw.1.block (w.heap.size + 1) (by omega) (by omega)).trans HO7.out)) Try.underlying42 rfl info_rout ?_
      simp only [Act.put, List.setIfInBounds_toArray, List.set_cons_zero, List.set_cons_succ]
      refine Wild.walk_wild _ rfl (by rfl) (fun w' hw K hK => ?_) ?_
      · obtain ⟨s1, s2, s3⟩ := hw.1.set1 (by omega)
        rcases hw.1.one with e | e <;> exact wp_store_row 30 _ _ rfl _ (ElV F T me U (.slice xa N xc) 0 wait) rfl rfl 30 _ e info_rel rfl ElV_one (hK.out undef _ s1 s2 trivial s3)
      simp only [Act.put]
      refine Wild.walk_wild _ rfl (by rfl) (fun w' hw K hK => ?_) ?_
      · obtain ⟨s1, s2, s3⟩ := hw.1.set2 (by omega)
        rcases hw.1.two with e | e <;> exact wp_store_row 42 _ _ rfl _ #[.int .i64 (joinO F me votes a), .int .i64 U] rfl rfl 42 _ e info_rout rfl out_one (hK.out undef _ s1 s2 trivial s3)
      simp only [Act.put]
      refine Wild.walk_nil ?_
      intro w9 hw9 hr9 hp9
      go_wp2_with fail
      refine bodyPost_ret (results_cell2 rfl _ _ (w.heap.size + 2) (w.heap.size + 3) 30 42 _ _ (0, 0) (0, 0) _ _ rfl hr9 Try.underlying30 rfl info_rel rfl hp9 Try.underlying42 rfl info_rout) rfl ?_
      refine ⟨(.slice xa N xc), by rw [enterV, enterC, enterO, ← Hen.out]; rw [if_pos rfl, if_pos rfl, if_pos rfl, ← HU.out], ?_, fun k hk => (HA4.out k hk).imp id (fun h => by omega), ?_⟩
      · exact HS7.out.kept (S := fun k => k = w.heap.size + 2 ∨ k = w.heap.size + 3) ⟨hw9.os, hw9.tape, hw9.output, Nat.le_of_eq hw9.size.symm, fun k _ hk => hw9.block k (fun e => hk (.inl e)) (fun e => hk (.inr e))⟩ (fun k hk e => by
          rcases HA4.out k hk with h1 | h1
          · have := HAV.out k h1; omega
          · omega)
      · exact HB7.out.trans ⟨hw9.os, hw9.tape, hw9.output, Nat.le_of_eq hw9.size.symm, fun k hk => hw9.block k (by omega) (by omega)⟩
  · skip
    clear c0 c1 c2 c3 c4 c5 c6 hc1
    try simp only [Act.put]
    refine Wild.region_b (fun k => match k with | 4 => some (.fix (.int .i64 (2 * F + T + 1))) | 5 => some (.fix (.int .i64 U)) | _ => none) (fun _ => []) rfl (by kernel_rfl) (fun vs hvs => ?_)
    have v4 : vs 4 = .int .i64 (2 * F + T + 1) := hvs 4 _ rfl
    have v5 : vs 5 = .int .i64 U := hvs 5 _ rfl
    refine Wild.walk_simple rfl (by rfl) (by rfl) (fun K hK => ?_); go_big_quiet_op; first | (refine hK _ ?_; clear hK K) | (refine ⟨_, fun _ _ => rfl, hK _ ?_⟩; clear hK K)
    refine Wild.walk_cell 24 _ _ _ (.slice xa N xc) _ rfl (by rfl) rfl rfl (fun w' hw => (HE4.out.later hw.1).cells.2.2.2.2.1) Try.underlying24 rfl ?_
    simp only [Act.put, List.setIfInBounds_toArray, List.set_cons_zero, List.set_cons_succ]
    refine Wild.walk_simple rfl (by rfl) (by rfl) (fun K hK => ?_); go_big_quiet_op; first | (refine hK _ ?_; clear hK K) | (refine ⟨_, fun _ _ => rfl, hK _ ?_⟩; clear hK K)
    refine Wild.walk_load 28 _ _ _ [.int .i64 F, .int .i64 T] _ rfl (by rfl) rfl rfl (fun w' hw => el_size (HE4.out.later hw.1)) Try.underlying28 rfl info_rsize ?_
    simp only [Act.put, List.setIfInBounds_toArray, List.set_cons_zero, List.set_cons_succ]
    refine Wild.walk_wild _ rfl (by rfl) (fun w' hw K hK => ?_) ?_
    · go_simp
      go_at_call 54
      refine (HPR.out w').mono ?_
      rintro e w'' ⟨rfl, hb⟩
      exact hK.out _ _ (hw.1.trans (hb.mono hw.1.size)) hb rfl trivial
    rw [v4]
    simp only [Act.put, List.setIfInBounds_toArray, List.set_cons_zero, List.set_cons_succ]
    refine Wild.walk_wild _ rfl (by rfl) (fun w' hw K hK => ?_) ?_
    · go_simp
      go_at_call 30
      refine (HNU.out _ w' (HS4.out.later hw.1)).mono ?_
      rintro e w'' ⟨rfl, hb⟩
      exact hK.out _ _ (hw.1.trans (hb.mono hw.1.size)) hb rfl trivial
    rw [v5]
    simp only [Act.put, List.setIfInBounds_toArray, List.set_cons_zero, List.set_cons_succ]
    refine Wild.walk_simple rfl (by rfl) (by rfl) (fun K hK => ?_); go_big_quiet_op; first | (refine hK _ ?_; clear hK K) | (refine ⟨_, fun _ _ => rfl, hK _ ?_⟩; clear hK K)
    refine Wild.walk_nil ?_
    intro w5 hw5 hf5
    have HB5 : Hid (Below W4.heap.size W4 w5) := Lib.hid hw5
    have HE5 := Lib.hid (HE4.out.later HB5.out)
    have HO5 : Hid (OutB w5 (w.heap.size + 1) 42 (joinO F me votes a) b) := Lib.hid ((HB5.out.block _ HO4.out.lt).trans HO4.out)
    have HR5 : Hid (w5.heap[w.heap.size + 2]? = some (.cells (ElV 0 0 0 0 (.slice none 0 0) 0 0) 30 (0, 0))) := Lib.hid ((HB5.out.block _ (by have := HZ4.out; omega)).trans HR4.out)
    have HP5 : Hid (OutB w5 (w.heap.size + 3) 42 0 0) := Lib.hid ((HB5.out.block _ HP4.out.lt).trans HP4.out)
    have HS5 := Lib.hid (HS4.out.later HB5.out)
    have HB6 := Lib.hid (HB4.out.trans (HB5.out.mono HB4.out.size))
    clear hw5 hf5 v4 v5 hvs
    obtain ⟨c0, c1, c2, c3, c4, c5, c6⟩ := HE5.out.cells
    cases en
    · go_upto_region 10 with (fail)
      have HE7 := HE5
      have HO7 := HO5
      have HR7 := HR5
      have HP7 := HP5
      have HS7 := HS5
      have HB7 := HB6
      have HZ7 : Hid (w.heap.size + 4 ≤ w5.heap.size) := Lib.hid (by have h1 := HZ4.out; have h2 := HB5.out.size; omega)
      refine Wild.region_two (w.heap.size + 2) (w.heap.size + 3) 30 42 (ElV 0 0 0 0 (.slice none 0 0) 0 0) (ElV F T me view (.slice xa N xc) clock wait) #[.int .i64 0, .int .i64 0] #[.int .i64 (joinO F me votes a), .int .i64 b] 2 3 (by decide) (by decide) (by decide) HR7.out HP7.out (by kernel_rfl) (by kernel_rfl) (fun vs => ?_)
      refine Wild.walk_load 30 _ _ _ (elL F T me view (.slice xa N xc) clock wait) _ rfl (by rfl) rfl rfl (fun w' hw => rangeAt_row (cs := (elL F T me view (.slice xa N xc) clock wait)) ((hw.1.block w.heap.size (by omega) (by omega)).trans HE7.out)) Try.underlying30 rfl info_rel ?_
      simp only [Act.put, List.setIfInBounds_toArray, List.set_cons_zero, List.set_cons_succ]
      refine Wild.walk_load 42 _ _ _ [.int .i64 (joinO F me votes a), .int .i64 b] _ rfl (by rfl) rfl rfl (fun w' hw => rangeAt_row (cs := [.int .i64 (joinO F me votes a), .int .i64 b]) ((hw.1.block (w.heap.size + 1) (by omega) (by omega)).trans HO7.out)) Try.underlying42 rfl info_rout ?_
      simp only [Act.put, List.setIfInBounds_toArray, List.set_cons_zero, List.set_cons_succ]
      refine Wild.walk_wild _ rfl (by rfl) (fun w' hw K hK => ?_) ?_
      · obtain ⟨s1, s2, s3⟩ := hw.1.set1 (by omega)
        rcases hw.1.one with e | e <;> exact wp_store_row 30 _ _ rfl _ (ElV F T me view (.slice xa N xc) clock wait) rfl rfl 30 _ e info_rel rfl ElV_one (hK.out undef _ s1 s2 trivial s3)
      simp only [Act.put]
      refine Wild.walk_wild _ rfl (by rfl) (fun w' hw K hK => ?_) ?_
      · obtain ⟨s1, s2, s3⟩ := hw.1.set2 (by omega)
        rcases hw.1.two with e | e <;> exact wp_store_row 42 _ _ rfl _ #[.int .i64 (joinO F me votes a), .int .i64 b] rfl rfl 42 _ e info_rout rfl out_one (hK.out undef _ s1 s2 trivial s3)
      simp only [Act.put]
      refine Wild.walk_nil ?_
      intro w9 hw9 hr9 hp9
      go_wp2_with fail
      refine bodyPost_ret (results_cell2 rfl _ _ (w.heap.size + 2) (w.heap.size + 3) 30 42 _ _ (0, 0) (0, 0) _ _ rfl hr9 Try.underlying30 rfl info_rel rfl hp9 Try.underlying42 rfl info_rout) rfl ?_
      refine ⟨(.slice xa N xc), by rw [enterV, enterC, enterO, ← Hen.out]; rfl, ?_, fun k hk => (HA4.out k hk).imp id (fun h => by omega), ?_⟩
      · exact HS7.out.kept (S := fun k => k = w.heap.size + 2 ∨ k = w.heap.size + 3) ⟨hw9.os, hw9.tape, hw9.output, Nat.le_of_eq hw9.size.symm, fun k _ hk => hw9.block k (fun e => hk (.inl e)) (fun e => hk (.inr e))⟩ (fun k hk e => by
          rcases HA4.out k hk with h1 | h1
          · have := HAV.out k h1; omega
          · omega)
      · exact HB7.out.trans ⟨hw9.os, hw9.tape, hw9.output, Nat.le_of_eq hw9.size.symm, fun k hk => hw9.block k (by omega) (by omega)⟩
    · have f3 := HE5.out.frozen 3
      have HE6 := Lib.hid (HE5.out.setView U)
      have k5 := HE6.out.cells.2.2.2.2.2.1
      have f5 := HE6.out.frozen 5
      have HEx := Lib.hid (HE6.out.setClock 0)
      have HOx : Hid (OutB ((w5.setCell ⟨w.heap.size, 3, none⟩ (.int .i64 U)).setCell ⟨w.heap.size, 5, none⟩ (.int .i64 0)) (w.heap.size + 1) 42 (joinO F me votes a) b) := Lib.hid ((HO5.out.setOther (p := ⟨w.heap.size, 3, none⟩) (by show w.heap.size + 1 ≠ w.heap.size; omega) _).setOther (p := ⟨w.heap.size, 5, none⟩) (by show w.heap.size + 1 ≠ w.heap.size; omega) _)
      have k7 := HOx.out.cells.2
      have f7 := HOx.out.frozen 1
      go_upto_region 10 with (fail)
      have HKX : Hid (Kept (fun k => k = w.heap.size ∨ k = w.heap.size + 1) w5 (((w5.setCell ⟨w.heap.size, 3, none⟩ (.int .i64 U)).setCell ⟨w.heap.size, 5, none⟩ (.int .i64 0)).setCell ⟨w.heap.size + 1, 1, none⟩ (.int .i64 U))) := Lib.hid ((((Kept.refl _ _).set (p := ⟨w.heap.size, 3, none⟩) (.inl (.inl rfl)) _).set (p := ⟨w.heap.size, 5, none⟩) (.inl (.inl rfl)) _).set (p := ⟨w.heap.size + 1, 1, none⟩) (.inl (.inr rfl)) _)
      obtain ⟨W7, HW7, HK7, HE7, HO7⟩ : ∃ W, Hid (W = ((w5.setCell ⟨w.heap.size, 3, none⟩ (.int .i64 U)).setCell ⟨w.heap.size, 5, none⟩ (.int .i64 0)).setCell ⟨w.heap.size + 1, 1, none⟩ (.int .i64 U)) ∧ Hid (Kept (fun k => k = w.heap.size ∨ k = w.heap.size + 1) w5 W) ∧ Hid (ElB W w.heap.size 30 F T me U (.slice xa N xc) 0 wait) ∧ Hid (OutB W (w.heap.size + 1) 42 (joinO F me votes a) U) :=
        ⟨_, Lib.hid rfl, HKX, Lib.hid (HEx.out.setOther (p := ⟨w.heap.size + 1, 1, none⟩) (by show w.heap.size ≠ w.heap.size + 1; omega) _), Lib.hid (HOx.out.set1 U)⟩
      rw [← HW7.out]
      have HZ5 : Hid (w.heap.size + 4 ≤ w5.heap.size) := Lib.hid (by have h1 := HZ4.out; have h2 := HB5.out.size; omega)
      have HR7 : Hid (W7.heap[w.heap.size + 2]? = some (.cells (ElV 0 0 0 0 (.slice none 0 0) 0 0) 30 (0, 0))) := Lib.hid ((HK7.out.block _ (by have := HZ5.out; omega) (by omega)).trans HR5.out)
      have HP7 : Hid (OutB W7 (w.heap.size + 3) 42 0 0) := Lib.hid ((HK7.out.block _ (by have := HZ5.out; omega) (by omega)).trans HP5.out)
      have HS7 : Hid (SlI W7 .i64 (.slice xa N xc) (joined F me votes)) := Lib.hid (HS5.out.kept HK7.out (fun k hk e => by
        rcases HA4.out k hk with h1 | h1
        · have := HAV.out k h1; omega
        · omega))
      have HB7 : Hid (Below w.heap.size w W7) := Lib.hid (HB6.out.trans (HK7.out.below HB6.out.size (fun k h => by omega)))
      clear HW7 k5 f5 k7 f7 f3 HKX c0 c1 c2 c3 c4 c5 c6
      refine Wild.region_two (w.heap.size + 2) (w.heap.size + 3) 30 42 (ElV 0 0 0 0 (.slice none 0 0) 0 0) (ElV F T me U (.slice xa N xc) 0 wait) #[.int .i64 0, .int .i64 0] #[.int .i64 (joinO F me votes a), .int .i64 U] 2 3 (by decide) (by decide) (by decide) HR7.out HP7.out (by kernel_rfl) (by kernel_rfl) (fun vs => ?_)
      refine Wild.walk_load 30 _ _ _ (elL F T me U (.slice xa N xc) 0 wait) _ rfl (by rfl) rfl rfl (fun w' hw => rangeAt_row (cs := (elL F T me U (.slice xa N xc) 0 wait)) ((hw.1.block w.heap.size (by omega) (by omega)).trans HE7.out)) Try.underlying30 rfl info_rel ?_
      simp only [Act.put, List.setIfInBounds_toArray, List.set_cons_zero, List.set_cons_succ]
      refine Wild.walk_load 42 _ _ _ [.int .i64 (joinO F me votes a), .int .i64 U] _ rfl (by rfl) rfl rfl (fun w' hw => rangeAt_row (cs := [.int .i64 (joinO F me votes a), .int .i64 U]) ((hw.1.block (w.heap.size + 1) (by omega) (by omega)).trans HO7.out)) Try.underlying42 rfl info_rout ?_
      simp only [Act.put, List.setIfInBounds_toArray, List.set_cons_zero, List.set_cons_succ]
      refine Wild.walk_wild _ rfl (by rfl) (fun w' hw K hK => ?_) ?_
      · obtain ⟨s1, s2, s3⟩ := hw.1.set1 (by omega)
        rcases hw.1.one with e | e <;> exact wp_store_row 30 _ _ rfl _ (ElV F T me U (.slice xa N xc) 0 wait) rfl rfl 30 _ e info_rel rfl ElV_one (hK.out undef _ s1 s2 trivial s3)
      simp only [Act.put]
      refine Wild.walk_wild _ rfl (by rfl) (fun w' hw K hK => ?_) ?_
      · obtain ⟨s1, s2, s3⟩ := hw.1.set2 (by omega)
        rcases hw.1.two with e | e <;> exact wp_store_row 42 _ _ rfl _ #[.int .i64 (joinO F me votes a), .int .i64 U] rfl rfl 42 _ e info_rout rfl out_one (hK.out undef _ s1 s2 trivial s3)
      simp only [Act.put]
      refine Wild.walk_nil ?_
      intro w9 hw9 hr9 hp9
      go_wp2_with fail
      refine bodyPost_ret (results_cell2 rfl _ _ (w.heap.size + 2) (w.heap.size + 3) 30 42 _ _ (0, 0) (0, 0) _ _ rfl hr9 Try.underlying30 rfl info_rel rfl hp9 Try.underlying42 rfl info_rout) rfl ?_
      refine ⟨(.slice xa N xc), by rw [enterV, enterC, enterO, ← Hen.out]; rw [if_pos rfl, if_pos rfl, if_pos rfl, ← HU.out], ?_, fun k hk => (HA4.out k hk).imp id (fun h => by omega), ?_⟩
      · exact HS7.out.kept (S := fun k => k = w.heap.size + 2 ∨ k = w.heap.size + 3) ⟨hw9.os, hw9.tape, hw9.output, Nat.le_of_eq hw9.size.symm, fun k _ hk => hw9.block k (fun e => hk (.inl e)) (fun e => hk (.inr e))⟩ (fun k hk e => by
          rcases HA4.out k hk with h1 | h1
          · have := HAV.out k h1; omega
          · omega)
      · exact HB7.out.trans ⟨hw9.os, hw9.tape, hw9.output, Nat.le_of_eq hw9.size.symm, fun k hk => hw9.block k (by omega) (by omega)⟩
end Go.Proofs.Ytgkhgjoggkcklaa

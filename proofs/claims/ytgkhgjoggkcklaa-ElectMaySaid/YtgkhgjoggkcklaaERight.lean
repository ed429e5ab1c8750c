/- The walk of elect's Right. -/
import Derived.Test.YtgkhgjoggkcklaaEOnes
import Derived.Test.YtgkhgjoggkcklaaERok
import Derived.Test.YtgkhgjoggkcklaaVar
import Derived.Test.YtgkhgjoggkcklaaESameA
namespace Go.Proofs.Ytgkhgjoggkcklaa
open Go Go.RowKit
set_option maxRecDepth 100000
set_option maxHeartbeats 4000000
attribute [local irreducible] Wild.walk

theorem isVwB_iff (x : Int) : isVwB x = true ↔ 0 ≤ x ∧ x ≤ 100000 := by simp [isVwB]
theorem badView_iff (l : List Int) : badView l = false ↔ ∀ v ∈ l, 0 ≤ v ∧ v ≤ 100000 := by
  simp [badView, isVwB]
theorem newOk_iff (F T me : Int) : newOk F T me = true ↔ RightS F T ∧ 0 ≤ me ∧ me < 3 * F + 2 * T + 1 := by
  rw [newOk, Bool.and_eq_true, rightS_iff, decide_eq_true_iff]
theorem waits_bd4 : ∀ v ∈ waits, 4 ≤ v ∧ v ≤ 4096 := by decide
theorem Right_el (F T me view : Int) (v : Value) (clock wait : Int) (votes : List Int) (w : World) (hv : SlI w .i64 v votes) (hl : votes.length ≤ 1000000) :
    Calls Try.prog 29 #[.agg (ElV F T me view v clock wait)] w fun e w' => e = .returned (.bool (decide (RightE F T me view votes clock wait))) ∧ Below w.heap.size w w' := by
  obtain ⟨va, vc, rfl⟩ := hv.shape
  obtain ⟨N, HN⟩ : ∃ N, Hid (N = votes.length) := ⟨_, Lib.hid rfl⟩
  have HSW := Lib.hid hv
  have hNb : N ≤ 1000000 := by rw [HN.out]; exact hl
  rw [← HN.out] at HSW ⊢
  obtain ⟨V, HV, HB, HE⟩ : ∃ V, Hid (V = w.alloc (.cells (ElV F T me view (.slice va N vc) clock wait) 26)) ∧ Hid (Below w.heap.size w V) ∧ Hid (ElB V w.heap.size 26 F T me view (.slice va N vc) clock wait) := ⟨_, Lib.hid rfl, Lib.hid ((Below.refl _ _).alloc (Nat.le_refl _) _), Lib.hid (heap_alloc_new _ _)⟩
  have HS := Lib.hid (HSW.out.later HB.out)
  have HNE := Lib.hid (New_any F T me V)
  have HVI := Lib.hid (fun w' => isView_any view w')
  have HCF := Lib.hid (fun w' h => ContainsFunc_any (.slice va N vc) votes w' h hl)
  obtain ⟨R, HR⟩ : ∃ R : Bool, Hid (R = decide (RightE F T me view votes clock wait)) := ⟨_, Lib.hid rfl⟩
  rw [← HR.out]
  obtain ⟨bv, Hbv⟩ : ∃ bv, Hid (bv = isVwB view) := ⟨_, Lib.hid rfl⟩
  rw [← Hbv.out] at HVI
  clear hv hl
  by_cases hok : newOk F T me = true
  · obtain ⟨hR, hm0, hm1⟩ := (newOk_iff F T me).1 hok
    simp only [hok, if_true, forall_const] at HNE
    have HNN := Lib.hid (fun w' => N_any F T w' hR)
    have HRS := Lib.hid (show RightS F T ∧ 0 ≤ me ∧ me < 3 * F + 2 * T + 1 from ⟨hR, hm0, hm1⟩)
    obtain ⟨r1, r2, r3, r4⟩ := hR
    clear hok
    by_cases h2 : (N : Int) = 3 * F + 2 * T + 1
    · have g2 : ((N : Int) != 3 * F + 2 * T + 1) = false := by rw [h2]; simp
      cases bv
      · skip
        have HF : Hid (R = false) := Lib.hid (by rw [HR.out, decide_eq_false_iff_not]; intro h; have h8 := (isVwB_iff view).2 ⟨h.2.2.2.2.1, h.2.2.2.2.2.1⟩; rw [← Hbv.out] at h8; cases h8)
        obtain rfl := HF.out
        clear HF HR
        clear h2 Hbv
        go_enter Try.func29, Try.ntmps29
        go_upto_region 1 with (fail)
        rw [← HV.out]
        obtain ⟨k0, k1, k2, k3, k4, k5, k6⟩ := HE.out.cells
        go_upto_region 2 with (first
          | ((with_reducible refine at_load 23 _ rfl ?_); refine wpList_load_midW (by rfl) 23 _ rfl w.heap.size 0 rfl [.int .i64 F, .int .i64 T] _ (el_size HE.out) Try.underlying23 rfl info_size ?_)
          | (go_at_call 24; refine HNE.out.mono ?_; rintro e w1 ⟨vv, rfl, ⟨s1, -⟩, b1⟩; obtain ⟨na, nc, hvv⟩ := s1.shape; rw [List.length_replicate] at hvv; subst hvv; clear s1; have HB1 := Lib.hid b1; have HE1 := Lib.hid (HE.out.later b1); obtain ⟨c0, c1, c2, c3, c4, c5, c6⟩ := HE1.out.cells; clear b1)
          | ((with_reducible refine at_store 26 _ _ rfl ?_); refine wpList_store_new rfl 26 _ _ rfl (ElV F T me 0 (.slice na (3 * F + 2 * T + 1).toNat nc) 0 4) rfl rfl 26 _ info_el rfl ElV_one ?_))
        obtain ⟨W2, HW2, HB2⟩ : ∃ W, Hid (W = w1.alloc (.cells (ElV F T me 0 (.slice na (3 * F + 2 * T + 1).toNat nc) 0 4) 26)) ∧ Hid (Below V.heap.size V W) := ⟨_, Lib.hid rfl, Lib.hid (HB1.out.alloc HB1.out.size _)⟩
        rw [← HW2.out]
        have HFy := Lib.hid (HE.out.later HB2.out)
        have HS2 := Lib.hid (HS.out.later HB2.out)
        have HBW := Lib.hid (HB.out.trans (HB2.out.mono HB.out.size))
        clear HW2 HE1 HB1 k0 k1 k2 k3 k4 k5 k6 c0 c1 c2 c3 c4 c5 c6
        try simp only [Act.put]
        refine Wild.region_b (fun k => match k with | 8 => some (.fix (.int .i64 (3 * F + 2 * T + 1))) | 14 => some (.fix (.bool false)) | _ => none) (fun _ => []) rfl (by kernel_rfl) (fun vs hvs => ?_)
        have v8 : vs 8 = .int .i64 (3 * F + 2 * T + 1) := hvs 8 _ rfl
        have v14 : vs 14 = .bool false := hvs 14 _ rfl
        refine Wild.walk_simple rfl (by rfl) (by rfl) (fun K hK => ?_); go_big_quiet_op; first | (refine hK _ ?_; clear hK K) | (refine ⟨_, fun _ _ => rfl, hK _ ?_⟩; clear hK K)
        refine Wild.walk_simple rfl (by rfl) (by rfl) (fun K hK => ?_); go_big_quiet_op; first | (refine hK _ ?_; clear hK K) | (refine ⟨_, fun _ _ => rfl, hK _ ?_⟩; clear hK K)
        refine Wild.walk_simple rfl (by rfl) (by rfl) (fun K hK => ?_); go_big_quiet_op; first | (refine hK _ ?_; clear hK K) | (refine ⟨_, fun _ _ => rfl, hK _ ?_⟩; clear hK K)
        refine Wild.walk_simple rfl (by rfl) (by rfl) (fun K hK => ?_); go_big_quiet_op; first | (refine hK _ ?_; clear hK K) | (refine ⟨_, fun _ _ => rfl, hK _ ?_⟩; clear hK K)
        refine Wild.walk_cell 24 _ _ _ (.slice va N vc) _ rfl (by rfl) rfl rfl (fun w' hw => (HFy.out.later hw.1).cells.2.2.2.2.1) Try.underlying24 rfl ?_
        simp only [Act.put, List.setIfInBounds_toArray, List.set_cons_zero, List.set_cons_succ]
        refine Wild.walk_run (.int .i64 (N)) rfl (by rfl) (fun w' _ => ?_) ?_
        · unfold execOp
          go_simp
        simp only [Act.put, List.setIfInBounds_toArray, List.set_cons_zero, List.set_cons_succ]
        refine Wild.walk_simple rfl (by rfl) (by rfl) (fun K hK => ?_); go_big_quiet_op; first | (refine hK _ ?_; clear hK K) | (refine ⟨_, fun _ _ => rfl, hK _ ?_⟩; clear hK K)
        refine Wild.walk_load 23 _ _ _ [.int .i64 F, .int .i64 T] _ rfl (by rfl) rfl rfl (fun w' hw => el_size (HFy.out.later hw.1)) Try.underlying23 rfl info_size ?_
        simp only [Act.put, List.setIfInBounds_toArray, List.set_cons_zero, List.set_cons_succ]
        refine Wild.walk_wild _ rfl (by rfl) (fun w' hw K hK => ?_) ?_
        · go_simp
          go_at_call 42
          refine (HNN.out w').mono ?_
          rintro e w'' ⟨rfl, hb⟩
          exact hK.out _ _ (hw.1.trans (hb.mono hw.1.size)) hb rfl trivial
        rw [v8]
        simp only [Act.put, List.setIfInBounds_toArray, List.set_cons_zero, List.set_cons_succ]
        refine Wild.walk_simple rfl (by rfl) (by rfl) (fun K hK => ?_); go_big_quiet_op; first | (refine hK _ ?_; clear hK K) | (refine ⟨_, fun _ _ => rfl, hK _ ?_⟩; clear hK K)
        refine Wild.walk_simple rfl (by rfl) (by rfl) (fun K hK => ?_); go_big_quiet_op; first | (refine hK _ ?_; clear hK K) | (refine ⟨_, fun _ _ => rfl, hK _ ?_⟩; clear hK K)
        refine Wild.walk_simple rfl (by rfl) (by rfl) (fun K hK => ?_); go_big_quiet_op; first | (refine hK _ ?_; clear hK K) | (refine ⟨_, fun _ _ => rfl, hK _ ?_⟩; clear hK K)
        refine Wild.walk_simple rfl (by rfl) (by rfl) (fun K hK => ?_); go_big_quiet_op; first | (refine hK _ ?_; clear hK K) | (refine ⟨_, fun _ _ => rfl, hK _ ?_⟩; clear hK K)
        refine Wild.walk_cell 3 _ _ _ (.int .i64 view) _ rfl (by rfl) rfl rfl (fun w' hw => (HFy.out.later hw.1).cells.2.2.2.1) Try.underlying3 rfl ?_
        simp only [Act.put, List.setIfInBounds_toArray, List.set_cons_zero, List.set_cons_succ]
        refine Wild.walk_wild _ rfl (by rfl) (fun w' hw K hK => ?_) ?_
        · go_simp
          go_at_call 44
          refine (HVI.out w').mono ?_
          rintro e w'' ⟨rfl, rfl⟩
          exact hK.out _ _ hw.1 (Below.refl _ _) rfl trivial
        rw [v14]
        simp only [Act.put, List.setIfInBounds_toArray, List.set_cons_zero, List.set_cons_succ]
        refine Wild.walk_simple rfl (by rfl) (by rfl) (fun K hK => ?_); go_big_quiet_op; first | (refine hK _ ?_; clear hK K) | (refine ⟨_, fun _ _ => rfl, hK _ ?_⟩; clear hK K)
        refine Wild.walk_simple rfl (by rfl) (by rfl) (fun K hK => ?_); go_big_quiet_op; first | (refine hK _ ?_; clear hK K) | (refine ⟨_, fun _ _ => rfl, hK _ ?_⟩; clear hK K)
        refine Wild.walk_simple rfl (by rfl) (by rfl) (fun K hK => ?_); go_big_quiet_op; first | (refine hK _ ?_; clear hK K) | (refine ⟨_, fun _ _ => rfl, hK _ ?_⟩; clear hK K)
        refine Wild.walk_skip rfl (by rfl) ?_
        simp only [Act.put, List.setIfInBounds_toArray, List.set_cons_zero, List.set_cons_succ]
        refine Wild.walk_skip rfl (by rfl) ?_
        simp only [Act.put, List.setIfInBounds_toArray, List.set_cons_zero, List.set_cons_succ]
        refine Wild.walk_skip rfl (by rfl) ?_
        simp only [Act.put, List.setIfInBounds_toArray, List.set_cons_zero, List.set_cons_succ]
        refine Wild.walk_simple rfl (by rfl) (by rfl) (fun K hK => ?_); go_big_quiet_op; first | (refine hK _ ?_; clear hK K) | (refine ⟨_, fun _ _ => rfl, hK _ ?_⟩; clear hK K)
        refine Wild.walk_nil ?_
        intro w3 hw3 hf3
        have HB3 := Lib.hid (HBW.out.trans (Below.mono hw3 HBW.out.size))
        clear hw3 hf3 hvs
        go_wp2_with fail
        go_ret
        exact ⟨rfl, HB3.out⟩
      · have HVB := Lib.hid ((isVwB_iff view).1 Hbv.out.symm)
        by_cases h4 : clock < 0
        · have g4 : decide (clock < 0) = true := decide_eq_true h4
          have HF : Hid (R = false) := Lib.hid (by rw [HR.out, decide_eq_false_iff_not]; intro h; have h8 := h.2.2.2.2.2.2.1; omega)
          obtain rfl := HF.out
          clear HF HR
          clear h2 Hbv
          go_enter Try.func29, Try.ntmps29
          go_upto_region 1 with (fail)
          rw [← HV.out]
          obtain ⟨k0, k1, k2, k3, k4, k5, k6⟩ := HE.out.cells
          go_upto_region 2 with (first
            | ((with_reducible refine at_load 23 _ rfl ?_); refine wpList_load_midW (by rfl) 23 _ rfl w.heap.size 0 rfl [.int .i64 F, .int .i64 T] _ (el_size HE.out) Try.underlying23 rfl info_size ?_)
            | (go_at_call 24; refine HNE.out.mono ?_; rintro e w1 ⟨vv, rfl, ⟨s1, -⟩, b1⟩; obtain ⟨na, nc, hvv⟩ := s1.shape; rw [List.length_replicate] at hvv; subst hvv; clear s1; have HB1 := Lib.hid b1; have HE1 := Lib.hid (HE.out.later b1); obtain ⟨c0, c1, c2, c3, c4, c5, c6⟩ := HE1.out.cells; clear b1)
            | ((with_reducible refine at_store 26 _ _ rfl ?_); refine wpList_store_new rfl 26 _ _ rfl (ElV F T me 0 (.slice na (3 * F + 2 * T + 1).toNat nc) 0 4) rfl rfl 26 _ info_el rfl ElV_one ?_))
          obtain ⟨W2, HW2, HB2⟩ : ∃ W, Hid (W = w1.alloc (.cells (ElV F T me 0 (.slice na (3 * F + 2 * T + 1).toNat nc) 0 4) 26)) ∧ Hid (Below V.heap.size V W) := ⟨_, Lib.hid rfl, Lib.hid (HB1.out.alloc HB1.out.size _)⟩
          rw [← HW2.out]
          have HFy := Lib.hid (HE.out.later HB2.out)
          have HS2 := Lib.hid (HS.out.later HB2.out)
          have HBW := Lib.hid (HB.out.trans (HB2.out.mono HB.out.size))
          clear HW2 HE1 HB1 k0 k1 k2 k3 k4 k5 k6 c0 c1 c2 c3 c4 c5 c6
          try simp only [Act.put]
          refine Wild.region_b (fun k => match k with | 8 => some (.fix (.int .i64 (3 * F + 2 * T + 1))) | 14 => some (.fix (.bool true)) | _ => none) (fun _ => []) rfl (by kernel_rfl) (fun vs hvs => ?_)
          have v8 : vs 8 = .int .i64 (3 * F + 2 * T + 1) := hvs 8 _ rfl
          have v14 : vs 14 = .bool true := hvs 14 _ rfl
          refine Wild.walk_simple rfl (by rfl) (by rfl) (fun K hK => ?_); go_big_quiet_op; first | (refine hK _ ?_; clear hK K) | (refine ⟨_, fun _ _ => rfl, hK _ ?_⟩; clear hK K)
          refine Wild.walk_simple rfl (by rfl) (by rfl) (fun K hK => ?_); go_big_quiet_op; first | (refine hK _ ?_; clear hK K) | (refine ⟨_, fun _ _ => rfl, hK _ ?_⟩; clear hK K)
          refine Wild.walk_simple rfl (by rfl) (by rfl) (fun K hK => ?_); go_big_quiet_op; first | (refine hK _ ?_; clear hK K) | (refine ⟨_, fun _ _ => rfl, hK _ ?_⟩; clear hK K)
          refine Wild.walk_simple rfl (by rfl) (by rfl) (fun K hK => ?_); go_big_quiet_op; first | (refine hK _ ?_; clear hK K) | (refine ⟨_, fun _ _ => rfl, hK _ ?_⟩; clear hK K)
          refine Wild.walk_cell 24 _ _ _ (.slice va N vc) _ rfl (by rfl) rfl rfl (fun w' hw => (HFy.out.later hw.1).cells.2.2.2.2.1) Try.underlying24 rfl ?_
          simp only [Act.put, List.setIfInBounds_toArray, List.set_cons_zero, List.set_cons_succ]
          refine Wild.walk_run (.int .i64 (N)) rfl (by rfl) (fun w' _ => ?_) ?_
          · unfold execOp
            go_simp
          simp only [Act.put, List.setIfInBounds_toArray, List.set_cons_zero, List.set_cons_succ]
          refine Wild.walk_simple rfl (by rfl) (by rfl) (fun K hK => ?_); go_big_quiet_op; first | (refine hK _ ?_; clear hK K) | (refine ⟨_, fun _ _ => rfl, hK _ ?_⟩; clear hK K)
          refine Wild.walk_load 23 _ _ _ [.int .i64 F, .int .i64 T] _ rfl (by rfl) rfl rfl (fun w' hw => el_size (HFy.out.later hw.1)) Try.underlying23 rfl info_size ?_
          simp only [Act.put, List.setIfInBounds_toArray, List.set_cons_zero, List.set_cons_succ]
          refine Wild.walk_wild _ rfl (by rfl) (fun w' hw K hK => ?_) ?_
          · go_simp
            go_at_call 42
            refine (HNN.out w').mono ?_
            rintro e w'' ⟨rfl, hb⟩
            exact hK.out _ _ (hw.1.trans (hb.mono hw.1.size)) hb rfl trivial
          rw [v8]
          simp only [Act.put, List.setIfInBounds_toArray, List.set_cons_zero, List.set_cons_succ]
          refine Wild.walk_simple rfl (by rfl) (by rfl) (fun K hK => ?_); go_big_quiet_op; first | (refine hK _ ?_; clear hK K) | (refine ⟨_, fun _ _ => rfl, hK _ ?_⟩; clear hK K)
          refine Wild.walk_simple rfl (by rfl) (by rfl) (fun K hK => ?_); go_big_quiet_op; first | (refine hK _ ?_; clear hK K) | (refine ⟨_, fun _ _ => rfl, hK _ ?_⟩; clear hK K)
          refine Wild.walk_simple rfl (by rfl) (by rfl) (fun K hK => ?_); go_big_quiet_op; first | (refine hK _ ?_; clear hK K) | (refine ⟨_, fun _ _ => rfl, hK _ ?_⟩; clear hK K)
          refine Wild.walk_simple rfl (by rfl) (by rfl) (fun K hK => ?_); go_big_quiet_op; first | (refine hK _ ?_; clear hK K) | (refine ⟨_, fun _ _ => rfl, hK _ ?_⟩; clear hK K)
          refine Wild.walk_cell 3 _ _ _ (.int .i64 view) _ rfl (by rfl) rfl rfl (fun w' hw => (HFy.out.later hw.1).cells.2.2.2.1) Try.underlying3 rfl ?_
          simp only [Act.put, List.setIfInBounds_toArray, List.set_cons_zero, List.set_cons_succ]
          refine Wild.walk_wild _ rfl (by rfl) (fun w' hw K hK => ?_) ?_
          · go_simp
            go_at_call 44
            refine (HVI.out w').mono ?_
            rintro e w'' ⟨rfl, rfl⟩
            exact hK.out _ _ hw.1 (Below.refl _ _) rfl trivial
          rw [v14]
          simp only [Act.put, List.setIfInBounds_toArray, List.set_cons_zero, List.set_cons_succ]
          refine Wild.walk_simple rfl (by rfl) (by rfl) (fun K hK => ?_); go_big_quiet_op; first | (refine hK _ ?_; clear hK K) | (refine ⟨_, fun _ _ => rfl, hK _ ?_⟩; clear hK K)
          refine Wild.walk_simple rfl (by rfl) (by rfl) (fun K hK => ?_); go_big_quiet_op; first | (refine hK _ ?_; clear hK K) | (refine ⟨_, fun _ _ => rfl, hK _ ?_⟩; clear hK K)
          refine Wild.walk_simple rfl (by rfl) (by rfl) (fun K hK => ?_); go_big_quiet_op; first | (refine hK _ ?_; clear hK K) | (refine ⟨_, fun _ _ => rfl, hK _ ?_⟩; clear hK K)
          refine Wild.walk_simple rfl (by rfl) (by rfl) (fun K hK => ?_); go_big_quiet_op; first | (refine hK _ ?_; clear hK K) | (refine ⟨_, fun _ _ => rfl, hK _ ?_⟩; clear hK K)
          refine Wild.walk_cell 3 _ _ _ (.int .i64 clock) _ rfl (by rfl) rfl rfl (fun w' hw => (HFy.out.later hw.1).cells.2.2.2.2.2.1) Try.underlying3 rfl ?_
          simp only [Act.put, List.setIfInBounds_toArray, List.set_cons_zero, List.set_cons_succ]
          refine Wild.walk_simple rfl (by rfl) (by rfl) (fun K hK => ?_); go_big_quiet_op; first | (refine hK _ ?_; clear hK K) | (refine ⟨_, fun _ _ => rfl, hK _ ?_⟩; clear hK K)
          refine Wild.walk_simple rfl (by rfl) (by rfl) (fun K hK => ?_); go_big_quiet_op; first | (refine hK _ ?_; clear hK K) | (refine ⟨_, fun _ _ => rfl, hK _ ?_⟩; clear hK K)
          refine Wild.walk_nil ?_
          intro w3 hw3 hf3
          have HB3 := Lib.hid (HBW.out.trans (Below.mono hw3 HBW.out.size))
          clear hw3 hf3 hvs
          go_wp2_with fail
          go_ret
          exact ⟨rfl, HB3.out⟩
        · have g4 : decide (clock < 0) = false := decide_eq_false h4
          have HRW : Hid (R = decide (badView votes = false ∧ wait ∈ waits)) := Lib.hid (by
            rw [HR.out]
            refine decide_eq_decide.2 ⟨fun h => ⟨(badView_iff votes).2 h.2.2.2.2.2.2.2.1, h.2.2.2.2.2.2.2.2⟩, fun h => ⟨HRS.out.1, hm0, hm1, by rw [← HN.out]; exact h2, HVB.out.1, HVB.out.2, by omega, (badView_iff votes).1 h.1, h.2⟩⟩)
          obtain ⟨bb, Hbb⟩ : ∃ b, Hid (b = badView votes) := ⟨_, Lib.hid rfl⟩
          rw [← Hbb.out] at HCF HRW
          clear HR Hbv h2
          go_enter Try.func29, Try.ntmps29
          go_upto_region 1 with (fail)
          rw [← HV.out]
          obtain ⟨k0, k1, k2, k3, k4, k5, k6⟩ := HE.out.cells
          go_upto_region 2 with (first
            | ((with_reducible refine at_load 23 _ rfl ?_); refine wpList_load_midW (by rfl) 23 _ rfl w.heap.size 0 rfl [.int .i64 F, .int .i64 T] _ (el_size HE.out) Try.underlying23 rfl info_size ?_)
            | (go_at_call 24; refine HNE.out.mono ?_; rintro e w1 ⟨vv, rfl, ⟨s1, -⟩, b1⟩; obtain ⟨na, nc, hvv⟩ := s1.shape; rw [List.length_replicate] at hvv; subst hvv; clear s1; have HB1 := Lib.hid b1; have HE1 := Lib.hid (HE.out.later b1); obtain ⟨c0, c1, c2, c3, c4, c5, c6⟩ := HE1.out.cells; clear b1)
            | ((with_reducible refine at_store 26 _ _ rfl ?_); refine wpList_store_new rfl 26 _ _ rfl (ElV F T me 0 (.slice na (3 * F + 2 * T + 1).toNat nc) 0 4) rfl rfl 26 _ info_el rfl ElV_one ?_))
          obtain ⟨W2, HW2, HB2⟩ : ∃ W, Hid (W = w1.alloc (.cells (ElV F T me 0 (.slice na (3 * F + 2 * T + 1).toNat nc) 0 4) 26)) ∧ Hid (Below V.heap.size V W) := ⟨_, Lib.hid rfl, Lib.hid (HB1.out.alloc HB1.out.size _)⟩
          rw [← HW2.out]
          have HFy := Lib.hid (HE.out.later HB2.out)
          have HS2 := Lib.hid (HS.out.later HB2.out)
          have HBW := Lib.hid (HB.out.trans (HB2.out.mono HB.out.size))
          clear HW2 HE1 HB1 k0 k1 k2 k3 k4 k5 k6 c0 c1 c2 c3 c4 c5 c6
          try simp only [Act.put]
          refine Wild.region_b (fun k => match k with | 8 => some (.fix (.int .i64 (3 * F + 2 * T + 1))) | 14 => some (.fix (.bool true)) | _ => none) (fun _ => []) rfl (by kernel_rfl) (fun vs hvs => ?_)
          have v8 : vs 8 = .int .i64 (3 * F + 2 * T + 1) := hvs 8 _ rfl
          have v14 : vs 14 = .bool true := hvs 14 _ rfl
          refine Wild.walk_simple rfl (by rfl) (by rfl) (fun K hK => ?_); go_big_quiet_op; first | (refine hK _ ?_; clear hK K) | (refine ⟨_, fun _ _ => rfl, hK _ ?_⟩; clear hK K)
          refine Wild.walk_simple rfl (by rfl) (by rfl) (fun K hK => ?_); go_big_quiet_op; first | (refine hK _ ?_; clear hK K) | (refine ⟨_, fun _ _ => rfl, hK _ ?_⟩; clear hK K)
          refine Wild.walk_simple rfl (by rfl) (by rfl) (fun K hK => ?_); go_big_quiet_op; first | (refine hK _ ?_; clear hK K) | (refine ⟨_, fun _ _ => rfl, hK _ ?_⟩; clear hK K)
          refine Wild.walk_simple rfl (by rfl) (by rfl) (fun K hK => ?_); go_big_quiet_op; first | (refine hK _ ?_; clear hK K) | (refine ⟨_, fun _ _ => rfl, hK _ ?_⟩; clear hK K)
          refine Wild.walk_cell 24 _ _ _ (.slice va N vc) _ rfl (by rfl) rfl rfl (fun w' hw => (HFy.out.later hw.1).cells.2.2.2.2.1) Try.underlying24 rfl ?_
          simp only [Act.put, List.setIfInBounds_toArray, List.set_cons_zero, List.set_cons_succ]
          refine Wild.walk_run (.int .i64 (N)) rfl (by rfl) (fun w' _ => ?_) ?_
          · unfold execOp
            go_simp
          simp only [Act.put, List.setIfInBounds_toArray, List.set_cons_zero, List.set_cons_succ]
          refine Wild.walk_simple rfl (by rfl) (by rfl) (fun K hK => ?_); go_big_quiet_op; first | (refine hK _ ?_; clear hK K) | (refine ⟨_, fun _ _ => rfl, hK _ ?_⟩; clear hK K)
          refine Wild.walk_load 23 _ _ _ [.int .i64 F, .int .i64 T] _ rfl (by rfl) rfl rfl (fun w' hw => el_size (HFy.out.later hw.1)) Try.underlying23 rfl info_size ?_
          simp only [Act.put, List.setIfInBounds_toArray, List.set_cons_zero, List.set_cons_succ]
          refine Wild.walk_wild _ rfl (by rfl) (fun w' hw K hK => ?_) ?_
          · go_simp
            go_at_call 42
            refine (HNN.out w').mono ?_
            rintro e w'' ⟨rfl, hb⟩
            exact hK.out _ _ (hw.1.trans (hb.mono hw.1.size)) hb rfl trivial
          rw [v8]
          simp only [Act.put, List.setIfInBounds_toArray, List.set_cons_zero, List.set_cons_succ]
          refine Wild.walk_simple rfl (by rfl) (by rfl) (fun K hK => ?_); go_big_quiet_op; first | (refine hK _ ?_; clear hK K) | (refine ⟨_, fun _ _ => rfl, hK _ ?_⟩; clear hK K)
          refine Wild.walk_simple rfl (by rfl) (by rfl) (fun K hK => ?_); go_big_quiet_op; first | (refine hK _ ?_; clear hK K) | (refine ⟨_, fun _ _ => rfl, hK _ ?_⟩; clear hK K)
          refine Wild.walk_simple rfl (by rfl) (by rfl) (fun K hK => ?_); go_big_quiet_op; first | (refine hK _ ?_; clear hK K) | (refine ⟨_, fun _ _ => rfl, hK _ ?_⟩; clear hK K)
          refine Wild.walk_simple rfl (by rfl) (by rfl) (fun K hK => ?_); go_big_quiet_op; first | (refine hK _ ?_; clear hK K) | (refine ⟨_, fun _ _ => rfl, hK _ ?_⟩; clear hK K)
          refine Wild.walk_cell 3 _ _ _ (.int .i64 view) _ rfl (by rfl) rfl rfl (fun w' hw => (HFy.out.later hw.1).cells.2.2.2.1) Try.underlying3 rfl ?_
          simp only [Act.put, List.setIfInBounds_toArray, List.set_cons_zero, List.set_cons_succ]
          refine Wild.walk_wild _ rfl (by rfl) (fun w' hw K hK => ?_) ?_
          · go_simp
            go_at_call 44
            refine (HVI.out w').mono ?_
            rintro e w'' ⟨rfl, rfl⟩
            exact hK.out _ _ hw.1 (Below.refl _ _) rfl trivial
          rw [v14]
          simp only [Act.put, List.setIfInBounds_toArray, List.set_cons_zero, List.set_cons_succ]
          refine Wild.walk_simple rfl (by rfl) (by rfl) (fun K hK => ?_); go_big_quiet_op; first | (refine hK _ ?_; clear hK K) | (refine ⟨_, fun _ _ => rfl, hK _ ?_⟩; clear hK K)
          refine Wild.walk_simple rfl (by rfl) (by rfl) (fun K hK => ?_); go_big_quiet_op; first | (refine hK _ ?_; clear hK K) | (refine ⟨_, fun _ _ => rfl, hK _ ?_⟩; clear hK K)
          refine Wild.walk_simple rfl (by rfl) (by rfl) (fun K hK => ?_); go_big_quiet_op; first | (refine hK _ ?_; clear hK K) | (refine ⟨_, fun _ _ => rfl, hK _ ?_⟩; clear hK K)
          refine Wild.walk_simple rfl (by rfl) (by rfl) (fun K hK => ?_); go_big_quiet_op; first | (refine hK _ ?_; clear hK K) | (refine ⟨_, fun _ _ => rfl, hK _ ?_⟩; clear hK K)
          refine Wild.walk_cell 3 _ _ _ (.int .i64 clock) _ rfl (by rfl) rfl rfl (fun w' hw => (HFy.out.later hw.1).cells.2.2.2.2.2.1) Try.underlying3 rfl ?_
          simp only [Act.put, List.setIfInBounds_toArray, List.set_cons_zero, List.set_cons_succ]
          refine Wild.walk_simple rfl (by rfl) (by rfl) (fun K hK => ?_); go_big_quiet_op; first | (refine hK _ ?_; clear hK K) | (refine ⟨_, fun _ _ => rfl, hK _ ?_⟩; clear hK K)
          refine Wild.walk_simple rfl (by rfl) (by rfl) (fun K hK => ?_); go_big_quiet_op; first | (refine hK _ ?_; clear hK K) | (refine ⟨_, fun _ _ => rfl, hK _ ?_⟩; clear hK K)
          refine Wild.walk_nil ?_
          intro w3 hw3 hf3
          have HB3 := Lib.hid (HBW.out.trans (Below.mono hw3 HBW.out.size))
          have HE3 := Lib.hid (HFy.out.later hw3)
          have HS3 := Lib.hid (HS2.out.later hw3)
          clear hw3 hf3 hvs
          obtain ⟨c0, c1, c2, c3, c4, c5, c6⟩ := HE3.out.cells
          go_upto_region 4 with (fail)
          cases bb
          · by_cases h5 : wait < 4
            · have HF : Hid (R = false) := Lib.hid (by rw [HRW.out, decide_eq_false_iff_not]; intro h; have := waits_bd4 _ h.2; omega)
              obtain rfl := HF.out
              have g5 : decide (4 ≤ wait) = false := by rw [decide_eq_false_iff_not]; omega
              have n5 : ¬ 4 ≤ wait := by omega
              clear h5 HRW HF
              go_wp2_with (go_at_call 45; refine (HCF.out w3 HS3.out).mono ?_; rintro e w4 ⟨rfl, rfl⟩)
              go_ret
              exact ⟨rfl, HB3.out⟩
            · have g5 : decide (4 ≤ wait) = true := by rw [decide_eq_true_iff]; omega
              have p5 : 4 ≤ wait := by omega
              by_cases h6 : 4096 < wait
              · have HF : Hid (R = false) := Lib.hid (by rw [HRW.out, decide_eq_false_iff_not]; intro h; have := waits_bd4 _ h.2; omega)
                obtain rfl := HF.out
                have g6 : decide (wait ≤ 4096) = false := by rw [decide_eq_false_iff_not]; omega
                have n6 : ¬ wait ≤ 4096 := by omega
                clear h5 h6 HRW HF
                go_wp2_with (go_at_call 45; refine (HCF.out w3 HS3.out).mono ?_; rintro e w4 ⟨rfl, rfl⟩)
                go_ret
                exact ⟨rfl, HB3.out⟩
              · have g6 : decide (wait ≤ 4096) = true := by rw [decide_eq_true_iff]; omega
                have p6 : wait ≤ 4096 := by omega
                obtain ⟨n, rfl⟩ : ∃ n : Nat, wait = n := ⟨wait.toNat, by omega⟩
                have HOC := Lib.hid (fun w' => OnesCount_any n w' (by omega))
                have HOL := Lib.hid (ones_law n (by omega) (by omega))
                have HF : Hid (R = decide (onesF n = 1)) := Lib.hid (by rw [HRW.out, HOL.out]; exact decide_eq_decide.2 ⟨fun h => h.2, fun h => ⟨rfl, h⟩⟩)
                obtain ⟨q, Hq⟩ : ∃ q, Hid (q = onesF n) := ⟨_, Lib.hid rfl⟩
                rw [← Hq.out] at HOC HF
                clear h5 h6 HRW HOL
                by_cases h7 : q = 1
                · have g7 : (q == 1) = true := by rw [h7]; rfl
                  rw [decide_eq_true h7] at HF
                  obtain rfl := HF.out
                  clear h7 Hq
                  go_wp2_with (first
                    | (go_at_call 45; refine (HCF.out w3 HS3.out).mono ?_; rintro e w4 ⟨rfl, rfl⟩)
                    | (go_at_call 47; refine (HOC.out _).mono ?_; rintro e w4 ⟨rfl, rfl⟩))
                  go_ret
                  exact ⟨rfl, HB3.out⟩
                · have g7 : (q == 1) = false := beq_eq_false_iff_ne.2 h7
                  rw [decide_eq_false h7] at HF
                  obtain rfl := HF.out
                  clear h7 Hq
                  go_wp2_with (first
                    | (go_at_call 45; refine (HCF.out w3 HS3.out).mono ?_; rintro e w4 ⟨rfl, rfl⟩)
                    | (go_at_call 47; refine (HOC.out _).mono ?_; rintro e w4 ⟨rfl, rfl⟩))
                  go_ret
                  exact ⟨rfl, HB3.out⟩
          · have HF : Hid (R = false) := Lib.hid (by rw [HRW.out, decide_eq_false_iff_not]; intro h; cases h.1)
            obtain rfl := HF.out
            clear HRW HF
            go_wp2_with (go_at_call 45; refine (HCF.out w3 HS3.out).mono ?_; rintro e w4 ⟨rfl, rfl⟩)
            go_ret
            exact ⟨rfl, HB3.out⟩
    · have g2 : ((N : Int) != 3 * F + 2 * T + 1) = true := bne_iff_ne.2 h2
      have HF : Hid (R = false) := Lib.hid (by rw [HR.out, decide_eq_false_iff_not]; intro h; exact h2 (by rw [HN.out]; exact h.2.2.2.1))
      obtain rfl := HF.out
      clear HF HR
      clear h2 Hbv
      go_enter Try.func29, Try.ntmps29
      go_upto_region 1 with (fail)
      rw [← HV.out]
      obtain ⟨k0, k1, k2, k3, k4, k5, k6⟩ := HE.out.cells
      go_upto_region 2 with (first
        | ((with_reducible refine at_load 23 _ rfl ?_); refine wpList_load_midW (by rfl) 23 _ rfl w.heap.size 0 rfl [.int .i64 F, .int .i64 T] _ (el_size HE.out) Try.underlying23 rfl info_size ?_)
        | (go_at_call 24; refine HNE.out.mono ?_; rintro e w1 ⟨vv, rfl, ⟨s1, -⟩, b1⟩; obtain ⟨na, nc, hvv⟩ := s1.shape; rw [List.length_replicate] at hvv; subst hvv; clear s1; have HB1 := Lib.hid b1; have HE1 := Lib.hid (HE.out.later b1); obtain ⟨c0, c1, c2, c3, c4, c5, c6⟩ := HE1.out.cells; clear b1)
        | ((with_reducible refine at_store 26 _ _ rfl ?_); refine wpList_store_new rfl 26 _ _ rfl (ElV F T me 0 (.slice na (3 * F + 2 * T + 1).toNat nc) 0 4) rfl rfl 26 _ info_el rfl ElV_one ?_))
      obtain ⟨W2, HW2, HB2⟩ : ∃ W, Hid (W = w1.alloc (.cells (ElV F T me 0 (.slice na (3 * F + 2 * T + 1).toNat nc) 0 4) 26)) ∧ Hid (Below V.heap.size V W) := ⟨_, Lib.hid rfl, Lib.hid (HB1.out.alloc HB1.out.size _)⟩
      rw [← HW2.out]
      have HFy := Lib.hid (HE.out.later HB2.out)
      have HS2 := Lib.hid (HS.out.later HB2.out)
      have HBW := Lib.hid (HB.out.trans (HB2.out.mono HB.out.size))
      clear HW2 HE1 HB1 k0 k1 k2 k3 k4 k5 k6 c0 c1 c2 c3 c4 c5 c6
      try simp only [Act.put]
      refine Wild.region_b (fun k => match k with | 8 => some (.fix (.int .i64 (3 * F + 2 * T + 1))) | _ => none) (fun _ => []) rfl (by kernel_rfl) (fun vs hvs => ?_)
      have v8 : vs 8 = .int .i64 (3 * F + 2 * T + 1) := hvs 8 _ rfl
      refine Wild.walk_simple rfl (by rfl) (by rfl) (fun K hK => ?_); go_big_quiet_op; first | (refine hK _ ?_; clear hK K) | (refine ⟨_, fun _ _ => rfl, hK _ ?_⟩; clear hK K)
      refine Wild.walk_simple rfl (by rfl) (by rfl) (fun K hK => ?_); go_big_quiet_op; first | (refine hK _ ?_; clear hK K) | (refine ⟨_, fun _ _ => rfl, hK _ ?_⟩; clear hK K)
      refine Wild.walk_simple rfl (by rfl) (by rfl) (fun K hK => ?_); go_big_quiet_op; first | (refine hK _ ?_; clear hK K) | (refine ⟨_, fun _ _ => rfl, hK _ ?_⟩; clear hK K)
      refine Wild.walk_simple rfl (by rfl) (by rfl) (fun K hK => ?_); go_big_quiet_op; first | (refine hK _ ?_; clear hK K) | (refine ⟨_, fun _ _ => rfl, hK _ ?_⟩; clear hK K)
      refine Wild.walk_cell 24 _ _ _ (.slice va N vc) _ rfl (by rfl) rfl rfl (fun w' hw => (HFy.out.later hw.1).cells.2.2.2.2.1) Try.underlying24 rfl ?_
      simp only [Act.put, List.setIfInBounds_toArray, List.set_cons_zero, List.set_cons_succ]
      refine Wild.walk_run (.int .i64 (N)) rfl (by rfl) (fun w' _ => ?_) ?_
      · unfold execOp
        go_simp
      simp only [Act.put, List.setIfInBounds_toArray, List.set_cons_zero, List.set_cons_succ]
      refine Wild.walk_simple rfl (by rfl) (by rfl) (fun K hK => ?_); go_big_quiet_op; first | (refine hK _ ?_; clear hK K) | (refine ⟨_, fun _ _ => rfl, hK _ ?_⟩; clear hK K)
      refine Wild.walk_load 23 _ _ _ [.int .i64 F, .int .i64 T] _ rfl (by rfl) rfl rfl (fun w' hw => el_size (HFy.out.later hw.1)) Try.underlying23 rfl info_size ?_
      simp only [Act.put, List.setIfInBounds_toArray, List.set_cons_zero, List.set_cons_succ]
      refine Wild.walk_wild _ rfl (by rfl) (fun w' hw K hK => ?_) ?_
      · go_simp
        go_at_call 42
        refine (HNN.out w').mono ?_
        rintro e w'' ⟨rfl, hb⟩
        exact hK.out _ _ (hw.1.trans (hb.mono hw.1.size)) hb rfl trivial
      rw [v8]
      simp only [Act.put, List.setIfInBounds_toArray, List.set_cons_zero, List.set_cons_succ]
      refine Wild.walk_simple rfl (by rfl) (by rfl) (fun K hK => ?_); go_big_quiet_op; first | (refine hK _ ?_; clear hK K) | (refine ⟨_, fun _ _ => rfl, hK _ ?_⟩; clear hK K)
      refine Wild.walk_simple rfl (by rfl) (by rfl) (fun K hK => ?_); go_big_quiet_op; first | (refine hK _ ?_; clear hK K) | (refine ⟨_, fun _ _ => rfl, hK _ ?_⟩; clear hK K)
      refine Wild.walk_simple rfl (by rfl) (by rfl) (fun K hK => ?_); go_big_quiet_op; first | (refine hK _ ?_; clear hK K) | (refine ⟨_, fun _ _ => rfl, hK _ ?_⟩; clear hK K)
      refine Wild.walk_skip rfl (by rfl) ?_
      simp only [Act.put, List.setIfInBounds_toArray, List.set_cons_zero, List.set_cons_succ]
      refine Wild.walk_skip rfl (by rfl) ?_
      simp only [Act.put, List.setIfInBounds_toArray, List.set_cons_zero, List.set_cons_succ]
      refine Wild.walk_skip rfl (by rfl) ?_
      simp only [Act.put, List.setIfInBounds_toArray, List.set_cons_zero, List.set_cons_succ]
      refine Wild.walk_skip rfl (by rfl) ?_
      simp only [Act.put, List.setIfInBounds_toArray, List.set_cons_zero, List.set_cons_succ]
      refine Wild.walk_simple rfl (by rfl) (by rfl) (fun K hK => ?_); go_big_quiet_op; first | (refine hK _ ?_; clear hK K) | (refine ⟨_, fun _ _ => rfl, hK _ ?_⟩; clear hK K)
      refine Wild.walk_simple rfl (by rfl) (by rfl) (fun K hK => ?_); go_big_quiet_op; first | (refine hK _ ?_; clear hK K) | (refine ⟨_, fun _ _ => rfl, hK _ ?_⟩; clear hK K)
      refine Wild.walk_skip rfl (by rfl) ?_
      simp only [Act.put, List.setIfInBounds_toArray, List.set_cons_zero, List.set_cons_succ]
      refine Wild.walk_skip rfl (by rfl) ?_
      simp only [Act.put, List.setIfInBounds_toArray, List.set_cons_zero, List.set_cons_succ]
      refine Wild.walk_skip rfl (by rfl) ?_
      simp only [Act.put, List.setIfInBounds_toArray, List.set_cons_zero, List.set_cons_succ]
      refine Wild.walk_simple rfl (by rfl) (by rfl) (fun K hK => ?_); go_big_quiet_op; first | (refine hK _ ?_; clear hK K) | (refine ⟨_, fun _ _ => rfl, hK _ ?_⟩; clear hK K)
      refine Wild.walk_nil ?_
      intro w3 hw3 hf3
      have HB3 := Lib.hid (HBW.out.trans (Below.mono hw3 HBW.out.size))
      clear hw3 hf3 hvs
      go_wp2_with fail
      go_ret
      exact ⟨rfl, HB3.out⟩
  · have hok' : newOk F T me = false := by simpa using hok
    simp only [hok', Bool.false_eq_true, if_false, false_implies, true_and, exists_const] at HNE
    have HF : Hid (R = false) := Lib.hid (by rw [HR.out, decide_eq_false_iff_not]; intro h; exact hok ((newOk_iff F T me).2 ⟨h.1, h.2.1, h.2.2.1⟩))
    obtain rfl := HF.out
    clear HF HR
    clear hok hok' Hbv
    go_enter Try.func29, Try.ntmps29
    go_upto_region 1 with (fail)
    rw [← HV.out]
    obtain ⟨k0, k1, k2, k3, k4, k5, k6⟩ := HE.out.cells
    go_upto_region 2 with (first
      | ((with_reducible refine at_load 23 _ rfl ?_); refine wpList_load_midW (by rfl) 23 _ rfl w.heap.size 0 rfl [.int .i64 F, .int .i64 T] _ (el_size HE.out) Try.underlying23 rfl info_size ?_)
      | (go_at_call 24; refine HNE.out.mono ?_; rintro e w1 ⟨rfl, b1⟩; have HB1 := Lib.hid b1; have HE1 := Lib.hid (HE.out.later b1); obtain ⟨c0, c1, c2, c3, c4, c5, c6⟩ := HE1.out.cells; clear b1)
      | ((with_reducible refine at_store 26 _ _ rfl ?_); refine wpList_store_new rfl 26 _ _ rfl (ElV 0 0 0 0 (.slice none 0 0) 0 0) rfl rfl 26 _ info_el rfl ElV_one ?_))
    obtain ⟨W2, HW2, HB2⟩ : ∃ W, Hid (W = w1.alloc (.cells (ElV 0 0 0 0 (.slice none 0 0) 0 0) 26)) ∧ Hid (Below V.heap.size V W) := ⟨_, Lib.hid rfl, Lib.hid (HB1.out.alloc HB1.out.size _)⟩
    rw [← HW2.out]
    have HFy := Lib.hid (HE.out.later HB2.out)
    have HS2 := Lib.hid (HS.out.later HB2.out)
    have HBW := Lib.hid (HB.out.trans (HB2.out.mono HB.out.size))
    clear HW2 HE1 HB1 k0 k1 k2 k3 k4 k5 k6 c0 c1 c2 c3 c4 c5 c6
    try simp only [Act.put]
    refine Wild.region_b (fun _ => none) (fun _ => []) rfl (by kernel_rfl) (fun vs hvs => ?_)
    refine Wild.walk_simple rfl (by rfl) (by rfl) (fun K hK => ?_); go_big_quiet_op; first | (refine hK _ ?_; clear hK K) | (refine ⟨_, fun _ _ => rfl, hK _ ?_⟩; clear hK K)
    refine Wild.walk_simple rfl (by rfl) (by rfl) (fun K hK => ?_); go_big_quiet_op; first | (refine hK _ ?_; clear hK K) | (refine ⟨_, fun _ _ => rfl, hK _ ?_⟩; clear hK K)
    refine Wild.walk_simple rfl (by rfl) (by rfl) (fun K hK => ?_); go_big_quiet_op; first | (refine hK _ ?_; clear hK K) | (refine ⟨_, fun _ _ => rfl, hK _ ?_⟩; clear hK K)
    refine Wild.walk_skip rfl (by rfl) ?_
    simp only [Act.put, List.setIfInBounds_toArray, List.set_cons_zero, List.set_cons_succ]
    refine Wild.walk_skip rfl (by rfl) ?_
    simp only [Act.put, List.setIfInBounds_toArray, List.set_cons_zero, List.set_cons_succ]
    refine Wild.walk_skip rfl (by rfl) ?_
    simp only [Act.put, List.setIfInBounds_toArray, List.set_cons_zero, List.set_cons_succ]
    refine Wild.walk_skip rfl (by rfl) ?_
    simp only [Act.put, List.setIfInBounds_toArray, List.set_cons_zero, List.set_cons_succ]
    refine Wild.walk_skip rfl (by rfl) ?_
    simp only [Act.put, List.setIfInBounds_toArray, List.set_cons_zero, List.set_cons_succ]
    refine Wild.walk_skip rfl (by rfl) ?_
    simp only [Act.put, List.setIfInBounds_toArray, List.set_cons_zero, List.set_cons_succ]
    refine Wild.walk_skip rfl (by rfl) ?_
    simp only [Act.put, List.setIfInBounds_toArray, List.set_cons_zero, List.set_cons_succ]
    refine Wild.walk_simple rfl (by rfl) (by rfl) (fun K hK => ?_); go_big_quiet_op; first | (refine hK _ ?_; clear hK K) | (refine ⟨_, fun _ _ => rfl, hK _ ?_⟩; clear hK K)
    refine Wild.walk_simple rfl (by rfl) (by rfl) (fun K hK => ?_); go_big_quiet_op; first | (refine hK _ ?_; clear hK K) | (refine ⟨_, fun _ _ => rfl, hK _ ?_⟩; clear hK K)
    refine Wild.walk_skip rfl (by rfl) ?_
    simp only [Act.put, List.setIfInBounds_toArray, List.set_cons_zero, List.set_cons_succ]
    refine Wild.walk_skip rfl (by rfl) ?_
    simp only [Act.put, List.setIfInBounds_toArray, List.set_cons_zero, List.set_cons_succ]
    refine Wild.walk_skip rfl (by rfl) ?_
    simp only [Act.put, List.setIfInBounds_toArray, List.set_cons_zero, List.set_cons_succ]
    refine Wild.walk_skip rfl (by rfl) ?_
    simp only [Act.put, List.setIfInBounds_toArray, List.set_cons_zero, List.set_cons_succ]
    refine Wild.walk_simple rfl (by rfl) (by rfl) (fun K hK => ?_); go_big_quiet_op; first | (refine hK _ ?_; clear hK K) | (refine ⟨_, fun _ _ => rfl, hK _ ?_⟩; clear hK K)
    refine Wild.walk_simple rfl (by rfl) (by rfl) (fun K hK => ?_); go_big_quiet_op; first | (refine hK _ ?_; clear hK K) | (refine ⟨_, fun _ _ => rfl, hK _ ?_⟩; clear hK K)
    refine Wild.walk_skip rfl (by rfl) ?_
    simp only [Act.put, List.setIfInBounds_toArray, List.set_cons_zero, List.set_cons_succ]
    refine Wild.walk_skip rfl (by rfl) ?_
    simp only [Act.put, List.setIfInBounds_toArray, List.set_cons_zero, List.set_cons_succ]
    refine Wild.walk_skip rfl (by rfl) ?_
    simp only [Act.put, List.setIfInBounds_toArray, List.set_cons_zero, List.set_cons_succ]
    refine Wild.walk_simple rfl (by rfl) (by rfl) (fun K hK => ?_); go_big_quiet_op; first | (refine hK _ ?_; clear hK K) | (refine ⟨_, fun _ _ => rfl, hK _ ?_⟩; clear hK K)
    refine Wild.walk_nil ?_
    intro w3 hw3 hf3
    have HB3 := Lib.hid (HBW.out.trans (Below.mono hw3 HBW.out.size))
    clear hw3 hf3 hvs
    go_wp2_with fail
    go_ret
    exact ⟨rfl, HB3.out⟩
end Go.Proofs.Ytgkhgjoggkcklaa

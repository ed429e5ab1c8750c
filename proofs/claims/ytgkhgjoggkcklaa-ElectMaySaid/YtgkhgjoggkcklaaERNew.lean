/- The walk of the document's New. -/
import Derived.Test.YtgkhgjoggkcklaaENew
import Derived.Test.YtgkhgjoggkcklaaEPlain
namespace Go.Proofs.Ytgkhgjoggkcklaa
open Go Go.RowKit
set_option maxRecDepth 100000
set_option maxHeartbeats 2000000

theorem built_rnew (F T me : Int) (b n c : Nat) : Try.prog.built 30 [(0, .agg (SizeV F T)), (1, .int .i64 me), (3, .slice (some ⟨b, 0, none⟩) n c), (5, .int .i64 4)] = some (ElV F T me 0 (.slice (some ⟨b, 0, none⟩) n c) 0 4) := by kernel_rfl
theorem New_ref (F T me : Int) (w : World) : Calls Try.prog 26 #[.agg (SizeV F T), .int .i64 me] w fun e w' => ∃ vv, e = .returned (.tuple #[.agg (if newOk F T me then ElV F T me 0 vv 0 4 else ElV 0 0 0 0 (.slice none 0 0) 0 0), .int .i64 (if newOk F T me then 0 else 1)]) ∧ (newOk F T me = true → SlI w' .i64 vv (List.replicate (3 * F + 2 * T + 1).toNat 0) ∧ ∀ k, vv.ownBlock = some k → w.heap.size ≤ k) ∧ Below w.heap.size w w' := by
  obtain ⟨W0, HW0, HB0, HS0, HE0⟩ : ∃ V, Hid (V = w.alloc (.cells (SizeV F T) 28)) ∧ Hid (Below w.heap.size w V) ∧ Hid (V.heap.size = w.heap.size + 1) ∧ Hid (V.heap[w.heap.size]? = some (.cells (SizeV F T) 28 (0, 0))) := ⟨_, Lib.hid rfl, Lib.hid ((Below.refl _ _).alloc (Nat.le_refl _) _), Lib.hid (by simp), Lib.hid (heap_alloc_new _ _)⟩
  obtain ⟨V, HV, HB, HS, HE, HR⟩ : ∃ V, Hid (V = W0.alloc (.cells (ElV 0 0 0 0 (.slice none 0 0) 0 0) 30)) ∧ Hid (Below w.heap.size w V) ∧ Hid (V.heap.size = w.heap.size + 2) ∧ Hid (V.heap[w.heap.size]? = some (.cells (SizeV F T) 28 (0, 0))) ∧ Hid (V.heap[w.heap.size + 1]? = some (.cells (ElV 0 0 0 0 (.slice none 0 0) 0 0) 30 (0, 0))) :=
    ⟨_, Lib.hid rfl, Lib.hid (HB0.out.alloc HB0.out.size _), Lib.hid (by simp [HS0.out]), Lib.hid ((heap_alloc_old _ _ _ (by rw [HS0.out]; omega)).trans HE0.out), Lib.hid (by rw [← HS0.out]; exact heap_alloc_new _ _)⟩
  have HRS := Lib.hid (fun w' => Right_rsize F T w')
  have IS : (Try.prog.info? 28).map (·.size) = some (SizeV F T).size := info_rsize
  by_cases hok : newOk F T me = true
  · simp only [hok, if_true, forall_const]
    obtain ⟨h1, h2⟩ : rightS F T = true ∧ (0 ≤ me ∧ me < 3 * F + 2 * T + 1) := by simpa [newOk] using hok
    have hR := (rightS_iff F T).1 h1
    have HNN := Lib.hid (fun w' => N_ref F T w' hR)
    obtain ⟨N, HN⟩ : ∃ N : Nat, Hid (3 * F + 2 * T + 1 = N) := ⟨(3 * F + 2 * T + 1).toNat, Lib.hid (by obtain ⟨r1, r2, r3, r4⟩ := hR; omega)⟩
    have HNB : Hid (N ≤ 1000) := Lib.hid (by have := HN.out; obtain ⟨r1, r2, r3, r4⟩ := hR; omega)
    rw [h1] at HRS
    rw [HN.out] at HNN h2 ⊢
    obtain ⟨h2, h3⟩ := h2
    have hm1 : decide (me < 0) = false := by rw [decide_eq_false_iff_not]; omega
    have hm2 : decide ((N : Int) ≤ me) = false := by rw [decide_eq_false_iff_not]; omega
    have hNb := HNB.out
    rw [Int.toNat_natCast]
    clear hok h1 hR
    go_enter Try.func26, Try.ntmps26
    go_upto_region 1 with (fail)
    rw [← HW0.out]
    change Code.wp _ _ _ _ (W0.alloc (.cells (ElV 0 0 0 0 (.slice none 0 0) 0 0) 30))
    rw [← HV.out]
    go_upto_region 3 with (first
      | ((with_reducible refine at_load 28 _ rfl ?_); refine wpList_load_row rfl 28 _ rfl _ rfl _ (SizeV F T) (0, 0) _ HE.out Try.underlying28 rfl IS ?_)
      | (go_at_call 31; refine (HRS.out _).mono ?_; rintro e w1 ⟨rfl, b1⟩; have HB1 := Lib.hid b1; have HE1 : Hid (w1.heap[w.heap.size]? = some (.cells (SizeV F T) 28 (0, 0))) := Lib.hid ((b1.block _ (by rw [HS.out]; omega)).trans HE.out); have k0 : w1.cell? ⟨w.heap.size, 0, none⟩ = some (.int .i64 F) := cell_of_row _ _ 0 _ _ (0, 0) HE1.out; have k1 : w1.cell? ⟨w.heap.size, 1, none⟩ = some (.int .i64 T) := cell_of_row _ _ 1 _ _ (0, 0) HE1.out; clear b1)
      | (go_at_call 32; refine (HNN.out _).mono ?_; rintro e w2 ⟨rfl, b2⟩; have HB2 := Lib.hid b2; have HE2 := Lib.hid ((b2.block _ (Array.getElem?_eq_some_iff.1 HE1.out).1).trans HE1.out); clear b2))
    refine Wild.region_tail2_b 6 (fun k => match k with | 3 => some (.fix (.int .i64 N)) | 4 => some (.made w2.heap.size (List.replicate N 0)) | _ => none) (fun _ => []) rfl rfl rfl rfl rfl (by kernel_rfl) (by kernel_rfl) (by kernel_rfl) (by kernel_rfl) (fun vs hvs => ?_)
    have h3' : vs 3 = .int .i64 N := hvs 3 _ rfl
    obtain ⟨gb, hgb, h4'⟩ := hvs 4 _ rfl
    rw [List.length_replicate] at h4'
    simp only [List.take_succ_cons, List.take_zero]
    refine Wild.walk_load 28 _ _ _ [.int .i64 F, .int .i64 T] _ rfl (by rfl) rfl rfl (fun w' hw => rangeAt_row (cs := [.int .i64 F, .int .i64 T]) ((hw.1.block _ (Array.getElem?_eq_some_iff.1 HE2.out).1).trans HE2.out)) Try.underlying28 rfl info_rsize ?_
    simp only [Act.put, List.setIfInBounds_toArray, List.set_cons_zero, List.set_cons_succ]
    repeat (refine Wild.walk_simple rfl (by rfl) (by rfl) (fun K hK => ?_); go_big_quiet_op; first | (refine hK _ ?_; clear hK K) | (refine ⟨_, fun _ _ => rfl, hK _ ?_⟩; clear hK K))
    refine Wild.walk_load 28 _ _ _ [.int .i64 F, .int .i64 T] _ rfl (by rfl) rfl rfl (fun w' hw => rangeAt_row (cs := [.int .i64 F, .int .i64 T]) ((hw.1.block _ (Array.getElem?_eq_some_iff.1 HE2.out).1).trans HE2.out)) Try.underlying28 rfl info_rsize ?_
    simp only [Act.put, List.setIfInBounds_toArray, List.set_cons_zero, List.set_cons_succ]
    refine Wild.walk_wild _ rfl (by rfl) (fun w' hw K hK => ?_) ?_
    · go_simp
      go_at_call 32
      refine (HNN.out w').mono ?_
      rintro e w'' ⟨rfl, hb⟩
      exact hK.out _ _ (hw.1.trans (hb.mono hw.1.size)) hb rfl trivial
    rw [h3']
    simp only [Act.put, List.setIfInBounds_toArray, List.set_cons_zero, List.set_cons_succ]
    refine Wild.walk_wild _ rfl (by rfl) (fun w' hw K hK => ?_) ?_
    · have hm := make64 w' N (N : Int) rfl (by omega)
      go_simp
      refine hK.out _ _ (hw.1.alloc hw.1.size _) ((Below.refl _ _).alloc (Nat.le_refl _) _) ⟨w'.heap.size, hw.1.size, by rw [List.length_replicate]⟩ (made64 w' N (by omega))
    rw [h4']
    simp only [Act.put, List.setIfInBounds_toArray, List.set_cons_zero, List.set_cons_succ]
    refine Wild.walk_built 30 [(0, .tmp 20), (1, .tmp 21), (3, .tmp 24), (5, .const (.int .i64 4))] rfl (by rfl) rfl [(0, .agg (SizeV F T)), (1, .int .i64 me), (3, .slice (some ⟨gb, 0, none⟩) N N), (5, .int .i64 4)] rfl _ (built_rnew F T me gb N N) ?_
    simp only [Act.put, List.setIfInBounds_toArray, List.set_cons_zero, List.set_cons_succ]
    refine Wild.walk_nil ?_
    intro w7 hw7 hf7
    have hs7 : SlI w7 .i64 (.slice (some ⟨gb, 0, none⟩) N N) (List.replicate N 0) := by have := hf7 4 _ rfl (by decide); rw [h4'] at this; exact this
    have hb7 : Below w2.heap.size w2 w7 := hw7
    have HBx := Lib.hid (HB.out.trans (HB1.out.trans (HB2.out.mono HB1.out.size) |>.mono (by rw [HS.out]; omega)))
    have HR2 : Hid (w2.heap[w.heap.size + 1]? = some (.cells (ElV 0 0 0 0 (.slice none 0 0) 0 0) 30 (0, 0))) := Lib.hid (((HB1.out.trans (HB2.out.mono HB1.out.size)).block _ (by rw [HS.out]; omega)).trans HR.out)
    have hlt := (Array.getElem?_eq_some_iff.1 HR2.out).1
    have hr7 := (hb7.block _ hlt).trans HR2.out
    refine wp_store_row 30 _ _ rfl (w.heap.size + 1) (ElV F T me 0 (.slice (some ⟨gb, 0, none⟩) N N) 0 4) rfl rfl 30 _ hr7 info_rel rfl ElV_one ?_
    have HX9 := Lib.hid (setRow_heap _ _ _ (ElV F T me 0 (.slice (some ⟨gb, 0, none⟩) N N) 0 4) _ _ hr7)
    have HS9 : Hid (SlI (w7.setRow (w.heap.size + 1) (ElV F T me 0 (.slice (some ⟨gb, 0, none⟩) N N) 0 4)) .i64 (.slice (some ⟨gb, 0, none⟩) N N) (List.replicate N 0)) := Lib.hid (hs7.kept ((Kept.refl (· = w.heap.size + 1) w7).row rfl _) (fun b hb e => by
      have e1 : gb = b := Option.some.inj hb
      omega))
    have HB9 := Lib.hid (below_row (B := w.heap.size) (HBx.out.trans (hb7.mono HBx.out.size)) (b := w.heap.size + 1) (by omega) (ElV F T me 0 (.slice (some ⟨gb, 0, none⟩) N N) 0 4))
    clear hs7 hb7 hw7 hf7 hr7 h3' h4' hvs
    go_simp
    go_wp2_with fail
    exact bodyPost_ret (results_cell_el rfl _ _ (w.heap.size + 1) 30 _ (0, 0) _ rfl HX9.out Try.underlying30 rfl info_rel) rfl ⟨_, rfl, ⟨HS9.out, fun b hb => by
      have e1 : gb = b := Option.some.inj hb
      have := HBx.out.size
      omega⟩, HB9.out⟩
  · have hok' : newOk F T me = false := by simpa using hok
    simp only [hok', Bool.false_eq_true, if_false, false_implies, true_and, exists_const]
    have HZB : ∀ w, (Instr.build 30 #[]).run Try.prog w = .ok (.agg (ElV 0 0 0 0 (.slice none 0 0) 0 0)) w := fun w => by kernel_rfl
    obtain ⟨b, Hb⟩ : ∃ b, Hid (b = rightS F T) := ⟨_, Lib.hid rfl⟩
    rw [← Hb.out] at HRS
    have HNN := Lib.hid (fun w' hR => N_ref F T w' hR)
    have HIF := Lib.hid (rightS_iff F T)
    have hcond : b = true → ¬ (0 ≤ me ∧ me < 3 * F + 2 * T + 1) := fun hb h => by
      rw [Hb.out] at hb
      rw [newOk, hb, decide_eq_true h] at hok'
      cases hok'
    clear hok hok'
    cases b
    · clear hcond
      go_enter Try.func26, Try.ntmps26
      go_upto_region 1 with (fail)
      rw [← HW0.out]
      change Code.wp _ _ _ _ (W0.alloc (.cells (ElV 0 0 0 0 (.slice none 0 0) 0 0) 30))
      rw [← HV.out]
      go_wp2_with (first
        | ((with_reducible refine at_load 28 _ rfl ?_); refine wpList_load_row rfl 28 _ rfl _ rfl _ (SizeV F T) (0, 0) _ HE.out Try.underlying28 rfl IS ?_)
        | (go_at_call 31; refine (HRS.out _).mono ?_; rintro e w1 ⟨rfl, b1⟩; have HB1 := Lib.hid b1; have HR1 := Lib.hid ((b1.block _ (by rw [HS.out]; omega)).trans HR.out); clear b1)
        | refine wpList_build0 rfl 30 rfl _ HZB ?_
        | refine wpList_store_same rfl 30 _ _ rfl _ (ElV 0 0 0 0 (.slice none 0 0) 0 0) rfl rfl 30 HR1.out info_rel ElV_one ?_)
      exact bodyPost_ret (results_cell_el rfl _ _ (w.heap.size + 1) 30 _ (0, 0) _ rfl HR1.out Try.underlying30 rfl info_rel) rfl ⟨rfl, HB.out.trans (HB1.out.mono (by rw [HS.out]; omega))⟩
    · have hR := HIF.out.1 Hb.out.symm
      by_cases hm : me < 0
      · clear hcond
        go_enter Try.func26, Try.ntmps26
        go_upto_region 1 with (fail)
        rw [← HW0.out]
        change Code.wp _ _ _ _ (W0.alloc (.cells (ElV 0 0 0 0 (.slice none 0 0) 0 0) 30))
        rw [← HV.out]
        go_wp2_with (first
          | ((with_reducible refine at_load 28 _ rfl ?_); refine wpList_load_row rfl 28 _ rfl _ rfl _ (SizeV F T) (0, 0) _ HE.out Try.underlying28 rfl IS ?_)
          | (go_at_call 31; refine (HRS.out _).mono ?_; rintro e w1 ⟨rfl, b1⟩; have HB1 := Lib.hid (HB.out.trans (b1.mono (by rw [HS.out]; omega))); have HR1 := Lib.hid ((b1.block _ (by rw [HS.out]; omega)).trans HR.out); have HE1 : Hid (w1.heap[w.heap.size]? = some (.cells (SizeV F T) 28 (0, 0))) := Lib.hid ((b1.block _ (by rw [HS.out]; omega)).trans HE.out); have k0 : w1.cell? ⟨w.heap.size, 0, none⟩ = some (.int .i64 F) := cell_of_row _ _ 0 _ _ (0, 0) HE1.out; have k1 : w1.cell? ⟨w.heap.size, 1, none⟩ = some (.int .i64 T) := cell_of_row _ _ 1 _ _ (0, 0) HE1.out; clear b1)
          | refine wpList_build0 rfl 30 rfl _ HZB ?_
          | refine wpList_store_same rfl 30 _ _ rfl _ (ElV 0 0 0 0 (.slice none 0 0) 0 0) rfl rfl 30 HR1.out info_rel ElV_one ?_)
        exact bodyPost_ret (results_cell_el rfl _ _ (w.heap.size + 1) 30 _ (0, 0) _ rfl HR1.out Try.underlying30 rfl info_rel) rfl ⟨rfl, HB1.out⟩
      · have hm0 : ¬ me < 0 := hm
        have hm1 : decide (me < 0) = false := by rw [decide_eq_false_iff_not]; exact hm
        have hm2 : decide (3 * F + 2 * T + 1 ≤ me) = true := by
          rw [decide_eq_true_iff]
          have := hcond rfl
          omega
        clear hcond
        go_enter Try.func26, Try.ntmps26
        go_upto_region 1 with (fail)
        rw [← HW0.out]
        change Code.wp _ _ _ _ (W0.alloc (.cells (ElV 0 0 0 0 (.slice none 0 0) 0 0) 30))
        rw [← HV.out]
        go_wp2_with (first
          | ((with_reducible refine at_load 28 _ rfl ?_); refine wpList_load_row rfl 28 _ rfl _ rfl _ (SizeV F T) (0, 0) _ HE.out Try.underlying28 rfl IS ?_)
          | (go_at_call 31; refine (HRS.out _).mono ?_; rintro e w1 ⟨rfl, b1⟩; have HB1 := Lib.hid (HB.out.trans (b1.mono (by rw [HS.out]; omega))); have HR1 := Lib.hid ((b1.block _ (by rw [HS.out]; omega)).trans HR.out); have HE1 : Hid (w1.heap[w.heap.size]? = some (.cells (SizeV F T) 28 (0, 0))) := Lib.hid ((b1.block _ (by rw [HS.out]; omega)).trans HE.out); have k0 : w1.cell? ⟨w.heap.size, 0, none⟩ = some (.int .i64 F) := cell_of_row _ _ 0 _ _ (0, 0) HE1.out; have k1 : w1.cell? ⟨w.heap.size, 1, none⟩ = some (.int .i64 T) := cell_of_row _ _ 1 _ _ (0, 0) HE1.out; clear b1)
          | (go_at_call 32; refine (HNN.out _ hR).mono ?_; rintro e w2 ⟨rfl, b2⟩; have HB2 := Lib.hid (HB1.out.trans (b2.mono HB1.out.size)); have HR2 := Lib.hid ((b2.block _ (Array.getElem?_eq_some_iff.1 HR1.out).1).trans HR1.out); clear b2)
          | refine wpList_build0 rfl 30 rfl _ HZB ?_
          | refine wpList_store_same rfl 30 _ _ rfl _ (ElV 0 0 0 0 (.slice none 0 0) 0 0) rfl rfl 30 HR2.out info_rel ElV_one ?_)
        exact bodyPost_ret (results_cell_el rfl _ _ (w.heap.size + 1) 30 _ (0, 0) _ rfl HR2.out Try.underlying30 rfl info_rel) rfl ⟨rfl, HB2.out⟩
end Go.Proofs.Ytgkhgjoggkcklaa

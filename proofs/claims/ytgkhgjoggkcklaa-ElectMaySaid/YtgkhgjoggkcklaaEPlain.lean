/- The walks of the chapter's sized and plain. -/
import Derived.Test.YtgkhgjoggkcklaaEAlive
namespace Go.Proofs.Ytgkhgjoggkcklaa
open Go Go.RowKit
set_option maxRecDepth 100000
set_option maxHeartbeats 1000000

theorem info_rsize : (Try.prog.info? 28).map (·.size) = some 2 := by kernel_rfl
theorem info_rel : (Try.prog.info? 30).map (·.size) = some 7 := by kernel_rfl
theorem info_rout : (Try.prog.info? 42).map (·.size) = some 2 := by kernel_rfl
theorem built_rsize (F T : Int) : Try.prog.built 28 [(0, .int .i64 F), (1, .int .i64 T)] = some (SizeV F T) := by kernel_rfl
theorem built_rel (F T me view : Int) (a : Option Addr) (n c : Nat) (clock wait : Int) : Try.prog.built 30 [(0, .agg (SizeV F T)), (1, .int .i64 me), (2, .int .i64 view), (3, .slice a n c), (4, .int .i64 clock), (5, .int .i64 wait)] = some (ElV F T me view (.slice a n c) clock wait) := by kernel_rfl
theorem sized_any (F T : Int) (w : World) : Calls Try.prog 27 #[.agg (SizeV F T)] w fun e w' => e = .returned (.agg (SizeV F T)) ∧ Below w.heap.size w w' := by
  obtain ⟨W0, HW0, HB0, HS0, HE0⟩ : ∃ V, Hid (V = w.alloc (.cells (SizeV F T) 23)) ∧ Hid (Below w.heap.size w V) ∧ Hid (V.heap.size = w.heap.size + 1) ∧ Hid (V.heap[w.heap.size]? = some (.cells (SizeV F T) 23 (0, 0))) := ⟨_, Lib.hid rfl, Lib.hid ((Below.refl _ _).alloc (Nat.le_refl _) _), Lib.hid (by simp), Lib.hid (heap_alloc_new _ _)⟩
  obtain ⟨V, HV, HB, HS, HE, HR⟩ : ∃ V, Hid (V = W0.alloc (.cells (SizeV 0 0) 28)) ∧ Hid (Below w.heap.size w V) ∧ Hid (V.heap.size = w.heap.size + 2) ∧ Hid (V.heap[w.heap.size]? = some (.cells (SizeV F T) 23 (0, 0))) ∧ Hid (V.heap[w.heap.size + 1]? = some (.cells (SizeV 0 0) 28 (0, 0))) :=
    ⟨_, Lib.hid rfl, Lib.hid (HB0.out.alloc HB0.out.size _), Lib.hid (by simp [HS0.out]), Lib.hid ((heap_alloc_old _ _ _ (by rw [HS0.out]; omega)).trans HE0.out), Lib.hid (by rw [← HS0.out]; exact heap_alloc_new _ _)⟩
  have k0 : V.cell? ⟨w.heap.size, 0, none⟩ = some (.int .i64 F) := cell_of_row _ _ 0 _ _ (0, 0) HE.out
  have k1 : V.cell? ⟨w.heap.size, 1, none⟩ = some (.int .i64 T) := cell_of_row _ _ 1 _ _ (0, 0) HE.out
  have HX := Lib.hid (setRow_heap _ _ _ (SizeV F T) _ _ HR.out)
  have HB9 := Lib.hid (below_row (B := w.heap.size) HB.out (b := w.heap.size + 1) (by omega) (SizeV F T))
  go_enter Try.func27, Try.ntmps27
  go_upto_region 1 with (fail)
  rw [← HW0.out]
  change Code.wp _ _ _ _ (W0.alloc (.cells (SizeV 0 0) 28))
  rw [← HV.out]
  go_wp2_with (first
    | ((with_reducible refine at_build 28 _ rfl ?_); refine wpList_built rfl 28 [(0, .tmp 4), (1, .tmp 6)] rfl [(0, .int .i64 F), (1, .int .i64 T)] rfl _ (built_rsize F T) ?_)
    | ((with_reducible refine at_store 28 _ _ rfl ?_); refine wpList_store_row rfl 28 _ _ rfl (w.heap.size + 1) (SizeV F T) rfl rfl 28 _ HR.out info_rsize rfl out_one ?_))
  exact bodyPost_ret (results_cell_row rfl _ _ (w.heap.size + 1) 28 _ (0, 0) _ rfl HX.out Try.underlying28 rfl info_rsize) rfl ⟨rfl, HB9.out⟩

theorem plain_any (F T me view : Int) (va : Option Addr) (vn vc : Nat) (clock wait : Int) (w : World) : Calls Try.prog 10 #[.agg (ElV F T me view (.slice va vn vc) clock wait)] w fun e w' => e = .returned (.agg (ElV F T me view (.slice va vn vc) clock wait)) ∧ Below w.heap.size w w' := by
  obtain ⟨W0, HW0, HB0, HS0, HE0⟩ : ∃ V, Hid (V = w.alloc (.cells (ElV F T me view (.slice va vn vc) clock wait) 26)) ∧ Hid (Below w.heap.size w V) ∧ Hid (V.heap.size = w.heap.size + 1) ∧ Hid (ElB V w.heap.size 26 F T me view (.slice va vn vc) clock wait) := ⟨_, Lib.hid rfl, Lib.hid ((Below.refl _ _).alloc (Nat.le_refl _) _), Lib.hid (by simp), Lib.hid (heap_alloc_new _ _)⟩
  obtain ⟨V, HV, HB, HS, HE, HR⟩ : ∃ V, Hid (V = W0.alloc (.cells (ElV 0 0 0 0 (.slice none 0 0) 0 0) 30)) ∧ Hid (Below w.heap.size w V) ∧ Hid (V.heap.size = w.heap.size + 2) ∧ Hid (ElB V w.heap.size 26 F T me view (.slice va vn vc) clock wait) ∧ Hid (V.heap[w.heap.size + 1]? = some (.cells (ElV 0 0 0 0 (.slice none 0 0) 0 0) 30 (0, 0))) :=
    ⟨_, Lib.hid rfl, Lib.hid (HB0.out.alloc HB0.out.size _), Lib.hid (by simp [HS0.out]), Lib.hid ((heap_alloc_old _ _ _ (by rw [HS0.out]; omega)).trans HE0.out), Lib.hid (by rw [← HS0.out]; exact heap_alloc_new _ _)⟩
  have HSI := Lib.hid (fun w' => sized_any F T w')
  go_enter Try.func10, Try.ntmps10
  go_upto_region 1 with (fail)
  rw [← HW0.out]
  change Code.wp _ _ _ _ (W0.alloc (.cells (ElV 0 0 0 0 (.slice none 0 0) 0 0) 30))
  rw [← HV.out]
  refine Wild.region_tail_b 14 (fun k => match k with | 2 => some (.fix (.agg (SizeV F T))) | _ => none) (fun _ => []) rfl rfl rfl rfl (by kernel_rfl) (by kernel_rfl) (fun vs hvs => ?_)
  have h2 : vs 2 = .agg (SizeV F T) := hvs 2 _ rfl
  simp only [List.take_succ_cons, List.take_zero]
  repeat (refine Wild.walk_simple rfl (by rfl) (by rfl) (fun K hK => ?_); go_big_quiet_op; first | (refine hK _ ?_; clear hK K) | (refine ⟨_, fun _ _ => rfl, hK _ ?_⟩; clear hK K))
  refine Wild.walk_load 23 _ _ _ [.int .i64 F, .int .i64 T] _ rfl (by rfl) rfl rfl (fun w' hw => el_size (HE.out.later hw.1)) Try.underlying23 rfl info_size ?_
  simp only [Act.put, List.setIfInBounds_toArray, List.set_cons_zero, List.set_cons_succ]
  refine Wild.walk_wild _ rfl (by rfl) (fun w' hw K hK => ?_) ?_
  · go_simp
    go_at_call 27
    refine (HSI.out w').mono ?_
    rintro e w'' ⟨rfl, hb⟩
    exact hK.out _ _ (hw.1.trans (hb.mono hw.1.size)) hb rfl trivial
  rw [h2]
  simp only [Act.put, List.setIfInBounds_toArray, List.set_cons_zero, List.set_cons_succ]
  repeat (refine Wild.walk_simple rfl (by rfl) (by rfl) (fun K hK => ?_); go_big_quiet_op; first | (refine hK _ ?_; clear hK K) | (refine ⟨_, fun _ _ => rfl, hK _ ?_⟩; clear hK K))
  refine Wild.walk_cell 3 _ _ _ (.int .i64 me) _ rfl (by rfl) rfl rfl (fun w' hw => (HE.out.later hw.1).cells.2.2.1) Try.underlying3 rfl ?_
  simp only [Act.put, List.setIfInBounds_toArray, List.set_cons_zero, List.set_cons_succ]
  repeat (refine Wild.walk_simple rfl (by rfl) (by rfl) (fun K hK => ?_); go_big_quiet_op; first | (refine hK _ ?_; clear hK K) | (refine ⟨_, fun _ _ => rfl, hK _ ?_⟩; clear hK K))
  refine Wild.walk_cell 3 _ _ _ (.int .i64 view) _ rfl (by rfl) rfl rfl (fun w' hw => (HE.out.later hw.1).cells.2.2.2.1) Try.underlying3 rfl ?_
  simp only [Act.put, List.setIfInBounds_toArray, List.set_cons_zero, List.set_cons_succ]
  repeat (refine Wild.walk_simple rfl (by rfl) (by rfl) (fun K hK => ?_); go_big_quiet_op; first | (refine hK _ ?_; clear hK K) | (refine ⟨_, fun _ _ => rfl, hK _ ?_⟩; clear hK K))
  refine Wild.walk_cell 24 _ _ _ (.slice va vn vc) _ rfl (by rfl) rfl rfl (fun w' hw => (HE.out.later hw.1).cells.2.2.2.2.1) Try.underlying24 rfl ?_
  simp only [Act.put, List.setIfInBounds_toArray, List.set_cons_zero, List.set_cons_succ]
  repeat (refine Wild.walk_simple rfl (by rfl) (by rfl) (fun K hK => ?_); go_big_quiet_op; first | (refine hK _ ?_; clear hK K) | (refine ⟨_, fun _ _ => rfl, hK _ ?_⟩; clear hK K))
  refine Wild.walk_cell 3 _ _ _ (.int .i64 clock) _ rfl (by rfl) rfl rfl (fun w' hw => (HE.out.later hw.1).cells.2.2.2.2.2.1) Try.underlying3 rfl ?_
  simp only [Act.put, List.setIfInBounds_toArray, List.set_cons_zero, List.set_cons_succ]
  repeat (refine Wild.walk_simple rfl (by rfl) (by rfl) (fun K hK => ?_); go_big_quiet_op; first | (refine hK _ ?_; clear hK K) | (refine ⟨_, fun _ _ => rfl, hK _ ?_⟩; clear hK K))
  refine Wild.walk_cell 3 _ _ _ (.int .i64 wait) _ rfl (by rfl) rfl rfl (fun w' hw => (HE.out.later hw.1).cells.2.2.2.2.2.2) Try.underlying3 rfl ?_
  simp only [Act.put, List.setIfInBounds_toArray, List.set_cons_zero, List.set_cons_succ]
  repeat (refine Wild.walk_simple rfl (by rfl) (by rfl) (fun K hK => ?_); go_big_quiet_op; first | (refine hK _ ?_; clear hK K) | (refine ⟨_, fun _ _ => rfl, hK _ ?_⟩; clear hK K))
  refine Wild.walk_built 30 [(0, .tmp 5), (1, .tmp 7), (2, .tmp 9), (3, .tmp 11), (4, .tmp 13), (5, .tmp 15)] rfl (by rfl) rfl [(0, .agg (SizeV F T)), (1, .int .i64 me), (2, .int .i64 view), (3, .slice va vn vc), (4, .int .i64 clock), (5, .int .i64 wait)] rfl _ (built_rel F T me view va vn vc clock wait) ?_
  simp only [Act.put, List.setIfInBounds_toArray, List.set_cons_zero, List.set_cons_succ]
  refine Wild.walk_nil ?_
  intro w7 hw7 hf7
  have hr7 := (hw7.block _ (by rw [HS.out]; omega)).trans HR.out
  refine wp_store_row 30 _ _ rfl (w.heap.size + 1) (ElV F T me view (.slice va vn vc) clock wait) rfl rfl 30 _ hr7 info_rel rfl ElV_one ?_
  have HX9 := Lib.hid (setRow_heap _ _ _ (ElV F T me view (.slice va vn vc) clock wait) _ _ hr7)
  have HB9 := Lib.hid (below_row (B := w.heap.size) (HB.out.trans (Below.mono hw7 HB.out.size)) (b := w.heap.size + 1) (by omega) (ElV F T me view (.slice va vn vc) clock wait))
  clear hw7 hf7 hr7 h2 hvs
  go_simp
  go_wp2_with fail
  exact bodyPost_ret (results_cell_row rfl _ _ (w.heap.size + 1) 30 _ (0, 0) _ rfl HX9.out Try.underlying30 rfl info_rel) rfl ⟨rfl, HB9.out⟩
end Go.Proofs.Ytgkhgjoggkcklaa

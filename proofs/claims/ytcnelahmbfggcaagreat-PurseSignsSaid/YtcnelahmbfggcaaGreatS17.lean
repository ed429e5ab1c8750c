/- The walks of the document's Owns, New, Left, Crash (chapter 06). -/
import Derived.Test.YtcnelahmbfggcaaGreatG16
import Derived.Test.YtcnelahmbfggcaaGreatG14
namespace Go.Proofs.YtcnelahmbfggcaaGreat
open Go Go.RowKit
set_option maxRecDepth 100000
set_option maxHeartbeats 2000000
attribute [local irreducible] Wild.walk WildF.walk

theorem Owns_ref6 (I S : List UInt8) (k h nx nt st : Int) (tv sv : Value) (text s : List UInt8) (w : World) (hI : I.length = 16) (hS : S.length = 32) (ht : Sl w tv text) (hs : Sl w sv s) (htl : text.length ≤ 1000000) (hsl : s.length ≤ 1000000) (hm : mayT k h = true) :
    Calls Tryz.prog 10 #[.agg (PurseV I S k h nx nt st).toArray, tv, sv] w fun e w' => e = .returned (.bool (verV (pubL I S k h) text s == 0)) ∧ Below w.heap.size w w' := by
  obtain ⟨V, HV, HB, HR⟩ : ∃ V, Hid (V = w.alloc (.cells (PurseV I S k h nx nt st).toArray 33)) ∧ Hid (Below w.heap.size w V) ∧ Hid (V.heap[w.heap.size]? = some (.cells (PurseV I S k h nx nt st).toArray 33 (0, 0))) := ⟨_, Lib.hid rfl, Lib.hid ((Below.refl _ _).alloc (Nat.le_refl _) _), Lib.hid (heap_alloc_new _ _)⟩
  have RT := Lib.hid (purse_T HR.out)
  have ITL : Hid ((Tryz.prog.info? 31).map (·.size) = some (TreeV I S k h).length) := Lib.hid (by rw [info_treeR, TreeV_length _ _ _ _ hI hS])
  have HPB := Lib.hid (fun w' => Public_ref5 I S k h w' hI hS)
  have e1 : errL k h = 0 := by rw [errL, if_pos hm]
  rw [e1] at HPB
  have HVR := Lib.hid (fun pv w' a b c => Verify_ref5 pv tv sv (pubL I S k h) text s w' a b c htl hsl)
  generalize pubL I S k h = Pk at *
  obtain ⟨vv, Hvv⟩ : ∃ vv, Hid (vv = verV Pk text s) := ⟨_, Lib.hid rfl⟩
  rw [← Hvv.out] at HVR ⊢
  have HT := Lib.hid (ht.later HB.out)
  have HS := Lib.hid (hs.later HB.out)
  obtain ⟨ta, tc, rfl⟩ := ht.shape
  obtain ⟨sa, sc, rfl⟩ := hs.shape
  clear ht hs hI hS hm e1
  go_enter Tryz.func10, Tryz.ntmps10
  go_upto_region 1 with (fail)
  rw [← HV.out]
  go_wp2_with (first
    | (refine wpList_load_mid rfl 31 _ rfl w.heap.size 0 (by rfl) (TreeV I S k h) _ RT.out Tryz.underlying31 rfl ITL.out ?_)
    | (go_at_call 23; refine (HPB.out V).mono ?_; rintro e w1 ⟨pv, rfl, s1, b1⟩; have HP1 := Lib.hid s1; have HB1 := Lib.hid b1; clear s1 b1)
    | (go_at_call 24; refine (HVR.out _ w1 HP1.out (HT.out.later HB1.out) (HS.out.later HB1.out)).mono ?_; rintro e w2 ⟨rfl, b2⟩; have HB2 := Lib.hid (HB1.out.trans (b2.mono HB1.out.size)); clear b2))
  go_ret
  exact ⟨rfl, HB.out.trans (HB2.out.mono HB.out.size)⟩
end Go.Proofs.YtcnelahmbfggcaaGreat

/- The walks of the document's New, Left, Crash, Sign (chapter 06). -/
namespace Go.Proofs.YtcnelahmbfggcaaGreat
open Go Go.RowKit
set_option maxRecDepth 100000
set_option maxHeartbeats 2000000
attribute [local irreducible] Wild.walk WildF.walk

theorem new_builtR (I S : List UInt8) (k h st : Int) (hI : I.length = 16) (hS : S.length = 32) :
    Tryz.prog.built 33 [(0, .agg (TreeV I S k h).toArray), (3, .int .i64 st)] = some (PurseV I S k h 0 0 st).toArray := by
  rw [built_rpurse]
  have h1 := fill_step ([(0, 50), (50, 1), (51, 1), (52, 1)].toArray[·]?) [] (TreeV zero16 zero32 0 0) (TreeV I S k h) [.int .i64 0, .int .i64 0, .int .i64 0] 0 (.agg (TreeV I S k h).toArray) [(3, .int .i64 st)] (by rw [TreeV_length _ _ _ _ hI hS]; rfl) rfl (by rw [TreeV_length _ _ _ _ hI hS, TreeV_length _ _ _ _ rfl rfl])
  have h2 := fill_step ([(0, 50), (50, 1), (51, 1), (52, 1)].toArray[·]?) (TreeV I S k h ++ [.int .i64 0, .int .i64 0]) [.int .i64 0] [.int .i64 st] [] 3 (.int .i64 st) [] (by rw [List.length_append, TreeV_length _ _ _ _ hI hS]; rfl) rfl rfl
  simp only [List.nil_append, List.append_assoc, List.cons_append, List.append_nil] at h1 h2
  have h0 : (PurseV zero16 zero32 0 0 0 0 0).toArray = (TreeV zero16 zero32 0 0 ++ [Value.int .i64 0, Value.int .i64 0, Value.int .i64 0]).toArray := rfl
  rw [h0, h1, h2]
  rfl
theorem rpurse_built0 : Tryz.prog.built 33 [] = some (PurseV zero16 zero32 0 0 0 0 0).toArray := by rw [built_rpurse]; rfl
theorem New_ref6 (I S : List UInt8) (k h st : Int) (w : World) (hI : I.length = 16) (hS : S.length = 32) :
    Calls Tryz.prog 12 #[.agg (TreeV I S k h).toArray, .int .i64 st] w fun e w' => e = .returned (.tuple #[.agg (if rightB k h 0 0 st then PurseV I S k h 0 0 st else PurseV zero16 zero32 0 0 0 0 0).toArray, .int .i64 (if rightB k h 0 0 st then 0 else 1)]) ∧ Below w.heap.size w w' := by
  obtain ⟨Z, HZ⟩ : ∃ Z, Hid (Z = (PurseV zero16 zero32 0 0 0 0 0).toArray) := ⟨_, Lib.hid rfl⟩
  obtain ⟨K, HK⟩ : ∃ K, Hid (K = (PurseV I S k h 0 0 st).toArray) := ⟨_, Lib.hid rfl⟩
  obtain ⟨W0, HW0, HB0, HS0, HR0⟩ : ∃ V, Hid (V = w.alloc (.cells (TreeV I S k h).toArray 31)) ∧ Hid (Below w.heap.size w V) ∧ Hid (V.heap.size = w.heap.size + 1) ∧ Hid (V.heap[w.heap.size]? = some (.cells (TreeV I S k h).toArray 31 (0, 0))) := ⟨_, Lib.hid rfl, Lib.hid ((Below.refl _ _).alloc (Nat.le_refl _) _), Lib.hid (by simp), Lib.hid (heap_alloc_new _ _)⟩
  obtain ⟨V, HV, HVB, HVS, HVR, HVZ⟩ : ∃ V, Hid (V = W0.alloc (.cells Z 33)) ∧ Hid (Below w.heap.size w V) ∧ Hid (V.heap.size = w.heap.size + 2) ∧ Hid (V.heap[w.heap.size]? = some (.cells (TreeV I S k h).toArray 31 (0, 0))) ∧ Hid (V.heap[w.heap.size + 1]? = some (.cells Z 33 (0, 0))) :=
    ⟨_, Lib.hid rfl, Lib.hid (HB0.out.alloc HB0.out.size _), Lib.hid (by simp [HS0.out]), Lib.hid ((heap_alloc_old _ _ (by rw [HS0.out]; omega)).trans HR0.out), Lib.hid (by rw [← HS0.out]; exact heap_alloc_new _ _)⟩
  obtain ⟨X, HX, HXB, HXZ, HXK⟩ : ∃ X, Hid (X = V.alloc (.cells K 33)) ∧ Hid (Below w.heap.size w X) ∧ Hid (X.heap[w.heap.size + 1]? = some (.cells Z 33 (0, 0))) ∧ Hid (X.heap[w.heap.size + 2]? = some (.cells K 33 (0, 0))) :=
    ⟨_, Lib.hid rfl, Lib.hid (HVB.out.alloc HVB.out.size _), Lib.hid ((heap_alloc_old _ _ (by rw [HVS.out]; omega)).trans HVZ.out), Lib.hid (by rw [← HVS.out]; exact heap_alloc_new _ _)⟩
  have IT : Hid ((Tryz.prog.info? 31).map (·.size) = some (TreeV I S k h).toArray.size) := Lib.hid (by rw [info_treeR, List.size_toArray, TreeV_length _ _ _ _ hI hS])
  have IK : Hid ((Tryz.prog.info? 33).map (·.size) = some K.size) := Lib.hid (by rw [HK.out, info_purseR, List.size_toArray, PurseV_length _ _ _ _ _ _ _ hI hS])
  have IZ : Hid ((Tryz.prog.info? 33).map (·.size) = some Z.size) := Lib.hid (by rw [HZ.out, info_purseR]; rfl)
  have HKS : Hid (K.size = 53) := Lib.hid (by rw [HK.out, List.size_toArray, PurseV_length _ _ _ _ _ _ _ hI hS])
  have HZS : Hid (Z.size = 53) := Lib.hid (by rw [HZ.out]; rfl)
  have HKO : Hid (K.all (·.oneCell') = true) := Lib.hid (by rw [HK.out]; exact PurseV_one _ _ _ _ _ _ _)
  have HZO : Hid (Z.all (·.oneCell') = true) := Lib.hid (by rw [HZ.out]; exact PurseV_one _ _ _ _ _ _ _)
  have HBK : Hid (Tryz.prog.built 33 [(0, .agg (TreeV I S k h).toArray), (3, .int .i64 st)] = some K) := Lib.hid (by rw [HK.out]; exact new_builtR I S k h st hI hS)
  have HBZ : Hid (Tryz.prog.built 33 [] = some Z) := Lib.hid (by rw [HZ.out]; exact rpurse_built0)
  have HRI := Lib.hid (fun w' => Right_ref6 I S k h 0 0 st w' hI hS)
  rw [← HK.out] at HRI
  cases hr : rightB k h 0 0 st
  · rw [hr] at HRI
    have HG : Hid ((if false = true then PurseV I S k h 0 0 st else PurseV zero16 zero32 0 0 0 0 0).toArray = Z ∧ (if false = true then (0 : Int) else 1) = 1) := Lib.hid ⟨HZ.out.symm, rfl⟩
    rw [HG.out.1, HG.out.2]
    clear hr hI hS
    go_enter Tryz.func12, Tryz.ntmps12
    go_upto_region 1 with (fail)
    rw [← HW0.out]
    change Code.wp _ _ _ _ (W0.alloc (.cells (PurseV zero16 zero32 0 0 0 0 0).toArray 33))
    rw [← HZ.out, ← HV.out]
    go_upto_region 2 with (first
      | ((with_reducible refine at_load 31 _ rfl ?_); refine wpList_load_row rfl 31 _ rfl _ rfl _ (TreeV I S k h).toArray (0, 0) _ HVR.out Tryz.underlying31 rfl IT.out ?_)
      | ((with_reducible refine at_build 33 _ rfl ?_); refine wpList_built rfl 33 [(0, .tmp 7), (3, .tmp 8)] rfl [(0, .agg (TreeV I S k h).toArray), (3, .int .i64 st)] rfl _ HBK.out ?_)
      | ((with_reducible refine at_store 33 _ _ rfl ?_); first | refine wpList_store_new rfl 33 _ _ rfl K rfl rfl 33 _ IK.out (by rw [HKS.out]; rfl) HKO.out ?_))
    rw [← HX.out, HVS.out]
    go_wp2_with (first
      | ((with_reducible refine at_load 33 _ rfl ?_); first | refine wpList_load_row rfl 33 _ rfl _ rfl _ K (0, 0) _ HXK.out Tryz.underlying33 rfl IK.out ?_ | refine wpList_load_row rfl 33 _ rfl _ rfl _ K (0, 0) _ HXK1.out Tryz.underlying33 rfl IK.out ?_)
      | (go_at_call 6; refine (HRI.out X).mono ?_; rintro e w1 ⟨rfl, b1⟩; have HB1 := Lib.hid b1; have HX1 := Lib.hid ((b1.block _ (Array.getElem?_eq_some_iff.1 HXZ.out).1).trans HXZ.out); have HXK1 := Lib.hid ((b1.block _ (Array.getElem?_eq_some_iff.1 HXK.out).1).trans HXK.out); clear b1)
      | ((with_reducible refine at_build 33 _ rfl ?_); refine wpList_built rfl 33 [] rfl [] rfl _ HBZ.out ?_)
      | ((with_reducible refine at_store 33 _ _ rfl ?_); refine wpList_store_same rfl 33 _ _ rfl _ Z rfl rfl 33 HX1.out IZ.out HZO.out ?_))
    exact bodyPost_ret (results_cell_row_tmp rfl _ _ (w.heap.size + 1) 33 _ (0, 0) _ rfl (HX1.out) Tryz.underlying33 rfl IZ.out) rfl ⟨rfl, HXB.out.trans (HB1.out.mono HXB.out.size)⟩
  · rw [hr] at HRI
    have HG : Hid ((if true = true then PurseV I S k h 0 0 st else PurseV zero16 zero32 0 0 0 0 0).toArray = K ∧ (if true = true then (0 : Int) else 1) = 0) := Lib.hid ⟨HK.out.symm, rfl⟩
    rw [HG.out.1, HG.out.2]
    clear hr hI hS
    go_enter Tryz.func12, Tryz.ntmps12
    go_upto_region 1 with (fail)
    rw [← HW0.out]
    change Code.wp _ _ _ _ (W0.alloc (.cells (PurseV zero16 zero32 0 0 0 0 0).toArray 33))
    rw [← HZ.out, ← HV.out]
    go_upto_region 2 with (first
      | ((with_reducible refine at_load 31 _ rfl ?_); refine wpList_load_row rfl 31 _ rfl _ rfl _ (TreeV I S k h).toArray (0, 0) _ HVR.out Tryz.underlying31 rfl IT.out ?_)
      | ((with_reducible refine at_build 33 _ rfl ?_); refine wpList_built rfl 33 [(0, .tmp 7), (3, .tmp 8)] rfl [(0, .agg (TreeV I S k h).toArray), (3, .int .i64 st)] rfl _ HBK.out ?_)
      | ((with_reducible refine at_store 33 _ _ rfl ?_); first | refine wpList_store_new rfl 33 _ _ rfl K rfl rfl 33 _ IK.out (by rw [HKS.out]; rfl) HKO.out ?_))
    rw [← HX.out, HVS.out]
    go_wp2_with (first
      | ((with_reducible refine at_load 33 _ rfl ?_); first | refine wpList_load_row rfl 33 _ rfl _ rfl _ K (0, 0) _ HXK.out Tryz.underlying33 rfl IK.out ?_ | refine wpList_load_row rfl 33 _ rfl _ rfl _ K (0, 0) _ HXK1.out Tryz.underlying33 rfl IK.out ?_)
      | (go_at_call 6; refine (HRI.out X).mono ?_; rintro e w1 ⟨rfl, b1⟩; have HB1 := Lib.hid b1; have HX1 := Lib.hid ((b1.block _ (Array.getElem?_eq_some_iff.1 HXZ.out).1).trans HXZ.out); have HXK1 := Lib.hid ((b1.block _ (Array.getElem?_eq_some_iff.1 HXK.out).1).trans HXK.out); clear b1)
      | ((with_reducible refine at_build 33 _ rfl ?_); refine wpList_built rfl 33 [] rfl [] rfl _ HBZ.out ?_)
      | ((with_reducible refine at_store 33 _ _ rfl ?_); refine wpList_store_row rfl 33 _ _ rfl _ K rfl rfl 33 _ HX1.out IK.out (by rw [HKS.out, HZS.out]) HKO.out ?_))
    exact bodyPost_ret (results_cell_row_tmp rfl _ _ (w.heap.size + 1) 33 _ (0, 0) _ rfl (setRow_heap _ _ _ _ _ _ HX1.out) Tryz.underlying33 rfl IK.out) rfl ⟨rfl, below_row (HXB.out.trans (HB1.out.mono HXB.out.size)) (by omega) _⟩
theorem Left_ref6 (I S : List UInt8) (k h nx nt st : Int) (w : World) (hI : I.length = 16) (hS : S.length = 32) (hn : 0 ≤ nx ∧ nx ≤ 32) :
    Calls Tryz.prog 19 #[.agg (PurseV I S k h nx nt st).toArray] w fun e w' => e = .returned (.int .i64 (leavesV k h - nx)) ∧ Below w.heap.size w w' := by
  obtain ⟨V, HV, HB, HR⟩ : ∃ V, Hid (V = w.alloc (.cells (PurseV I S k h nx nt st).toArray 33)) ∧ Hid (Below w.heap.size w V) ∧ Hid (V.heap[w.heap.size]? = some (.cells (PurseV I S k h nx nt st).toArray 33 (0, 0))) := ⟨_, Lib.hid rfl, Lib.hid ((Below.refl _ _).alloc (Nat.le_refl _) _), Lib.hid (heap_alloc_new _ _)⟩
  have ITL : Hid ((Tryz.prog.info? 31).map (·.size) = some (TreeV I S k h).length) := Lib.hid (by rw [info_treeR, TreeV_length _ _ _ _ hI hS])
  have HRT := Lib.hid (purse_T HR.out)
  have HLV := Lib.hid (fun w' => leaves_ref6 I S k h w' hI hS)
  have HHI := Lib.hid hI
  have HHS := Lib.hid hS
  have HRL : Hid (w.heap.size < V.heap.size) := Lib.hid (Array.getElem?_eq_some_iff.1 HR.out).1
  obtain ⟨n1, n2⟩ := leavesV_bd k h
  generalize leavesV k h = n at *
  obtain ⟨m1, m2⟩ := hn
  have ew : wrap64 (n - nx) = n - nx := by unfold wrap64; omega
  clear hI hS
  go_enter Tryz.func19, Tryz.ntmps19
  go_upto_region 1 with (fail)
  rw [← HV.out]
  refine Wild.region_b (fun j => match j with | 2 => some (.fix (.int .i64 n)) | _ => none) (fun _ => []) rfl (by kernel_rfl) (fun vs hvs => ?_)
  have h1 : vs 2 = .int .i64 n := hvs 2 _ rfl
  refine Wild.walk_simple rfl (by rfl) (by rfl) (fun K hK => ?_); go_big_quiet_op; first | (refine hK _ ?_; clear hK K) | (refine ⟨_, fun _ _ => rfl, hK _ ?_⟩; clear hK K)
  refine Wild.walk_load 31 _ _ _ (TreeV I S k h) _ rfl (by rfl) rfl rfl (fun w' hw => rangeAt_blw HRT.out hw.1) Tryz.underlying31 rfl ITL.out ?_
  simp only [Act.put, List.setIfInBounds_toArray, List.set_cons_zero, List.set_cons_succ]
  refine Wild.walk_wild _ rfl (by rfl) (fun w' hw K hK => ?_) ?_
  · go_simp
    go_at_call 20
    refine (HLV.out w').mono ?_
    rintro e w'' ⟨rfl, hb⟩
    exact hK.out _ _ (hw.1.trans (hb.mono hw.1.size)) hb rfl trivial
  rw [h1]
  simp only [Act.put, List.setIfInBounds_toArray, List.set_cons_zero, List.set_cons_succ]
  refine Wild.walk_simple rfl (by rfl) (by rfl) (fun K hK => ?_); go_big_quiet_op; first | (refine hK _ ?_; clear hK K) | (refine ⟨_, fun _ _ => rfl, hK _ ?_⟩; clear hK K)
  refine Wild.walk_cell 3 _ _ _ (.int .i64 nx) _ rfl (by rfl) rfl rfl (fun w' hw => purse_N ((hw.1.block _ HRL.out).trans HR.out) HHI.out HHS.out) Tryz.underlying3 rfl ?_
  simp only [Act.put, List.setIfInBounds_toArray, List.set_cons_zero, List.set_cons_succ]
  refine Wild.walk_simple rfl (by rfl) (by rfl) (fun K hK => ?_); go_big_quiet_op; first | (refine hK _ ?_; clear hK K) | (refine ⟨_, fun _ _ => rfl, hK _ ?_⟩; clear hK K)
  refine Wild.walk_simple rfl (by rfl) (by rfl) (fun K hK => ?_); go_big_quiet_op; first | (refine hK _ ?_; clear hK K) | (refine ⟨_, fun _ _ => rfl, hK _ ?_⟩; clear hK K)
  refine Wild.walk_nil ?_
  intro w5 hw5 _
  have HB5 : Hid (Below w.heap.size w w5) := Lib.hid (HB.out.trans (Below.mono hw5 HB.out.size))
  clear hw5 hvs h1
  try simp only [ew]
  go_wp2_with fail
  go_ret
  exact ⟨rfl, HB5.out⟩
theorem Crash_ref6 (I S : List UInt8) (k h nx nt st : Int) (w : World) (hI : I.length = 16) (hS : S.length = 32) :
    Calls Tryz.prog 17 #[.agg (PurseV I S k h nx nt st).toArray] w fun e w' => e = .returned (.agg (PurseV I S k h nt nt st).toArray) ∧ Below w.heap.size w w' := by
  obtain ⟨Z, HZ⟩ : ∃ Z, Hid (Z = (PurseV zero16 zero32 0 0 0 0 0).toArray) := ⟨_, Lib.hid rfl⟩
  obtain ⟨W0, HW0, HB0, HS0, HR0⟩ : ∃ V, Hid (V = w.alloc (.cells (PurseV I S k h nx nt st).toArray 33)) ∧ Hid (Below w.heap.size w V) ∧ Hid (V.heap.size = w.heap.size + 1) ∧ Hid (V.heap[w.heap.size]? = some (.cells (PurseV I S k h nx nt st).toArray 33 (0, 0))) := ⟨_, Lib.hid rfl, Lib.hid ((Below.refl _ _).alloc (Nat.le_refl _) _), Lib.hid (by simp), Lib.hid (heap_alloc_new _ _)⟩
  obtain ⟨V, HV, HVB, HVS, HVR, HVZ⟩ : ∃ V, Hid (V = W0.alloc (.cells Z 33)) ∧ Hid (Below w.heap.size w V) ∧ Hid (V.heap.size = w.heap.size + 2) ∧ Hid (V.heap[w.heap.size]? = some (.cells (PurseV I S k h nx nt st).toArray 33 (0, 0))) ∧ Hid (V.heap[w.heap.size + 1]? = some (.cells Z 33 (0, 0))) :=
    ⟨_, Lib.hid rfl, Lib.hid (HB0.out.alloc HB0.out.size _), Lib.hid (by simp [HS0.out]), Lib.hid ((heap_alloc_old _ _ (by rw [HS0.out]; omega)).trans HR0.out), Lib.hid (by rw [← HS0.out]; exact heap_alloc_new _ _)⟩
  have IP : ∀ nx nt, Hid ((Tryz.prog.info? 33).map (·.size) = some (PurseV I S k h nx nt st).toArray.size) := fun nx nt => Lib.hid (by rw [info_purseR, List.size_toArray, PurseV_length _ _ _ _ _ _ _ hI hS])
  have HPS : ∀ nx nt, Hid ((PurseV I S k h nx nt st).toArray.size = 53) := fun nx nt => Lib.hid (by rw [List.size_toArray, PurseV_length _ _ _ _ _ _ _ hI hS])
  have HZS : Hid (Z.size = 53) := Lib.hid (by rw [HZ.out]; rfl)
  have ITL : Hid ((Tryz.prog.info? 31).map (·.size) = some (TreeV I S k h).length) := Lib.hid (by rw [info_treeR, TreeV_length _ _ _ _ hI hS])
  have HHI := Lib.hid hI
  have HHS := Lib.hid hS
  have RT := Lib.hid (purse_T HVR.out)
  have kd := purse_D HVR.out hI hS
  have ks := purse_St HVR.out hI hS
  have IPn := IP nt nt
  have HPSn := HPS nt nt
  have HBP := Lib.hid (rpurse_all I S k h nt nt st hI hS)
  clear hI hS IP HPS
  go_enter Tryz.func17, Tryz.ntmps17
  go_upto_region 1 with (fail)
  rw [← HW0.out]
  change Code.wp _ _ _ _ (W0.alloc (.cells (PurseV zero16 zero32 0 0 0 0 0).toArray 33))
  rw [← HZ.out, ← HV.out]
  go_wp2_with (first
    | (refine wpList_load_mid rfl 31 _ rfl w.heap.size 0 (by rfl) (TreeV I S k h) _ RT.out Tryz.underlying31 rfl ITL.out ?_)
    | ((with_reducible refine at_build 33 _ rfl ?_); refine wpList_built rfl 33 [_, _, _, _] rfl [(0, .agg (TreeV I S k h).toArray), (1, .int .i64 nt), (2, .int .i64 nt), (3, .int .i64 st)] rfl _ HBP.out ?_)
    | ((with_reducible refine at_store 33 _ _ rfl ?_); refine wpList_store_row rfl 33 _ _ rfl _ (PurseV I S k h nt nt st).toArray rfl rfl 33 _ HVZ.out IPn.out (by rw [HZS.out, HPSn.out]) (PurseV_one _ _ _ _ _ _ _) ?_))
  exact bodyPost_ret (results_cell_row rfl _ _ (w.heap.size + 1) 33 _ (0, 0) _ rfl (setRow_heap _ _ _ _ _ _ HVZ.out) Tryz.underlying33 rfl IPn.out) rfl ⟨rfl, below_row HVB.out (by omega) _⟩
theorem Sign_spentR (I S : List UInt8) (k h nt st : Int) (tv : Value) (w : World) (hI : I.length = 16) (hS : S.length = 32) (text : List UInt8) (ht : Sl w tv text) :
    Calls Tryz.prog 15 #[.agg (PurseV I S k h (leavesV k h) nt st).toArray, tv] w fun e w' => e = .returned (.tuple #[.agg (PurseV I S k h (leavesV k h) nt st).toArray, .slice none 0 0, .bool false, .int .i64 12]) ∧ Below w.heap.size w w' := by
  obtain ⟨Z, HZ⟩ : ∃ Z, Hid (Z = (PurseV zero16 zero32 0 0 0 0 0).toArray) := ⟨_, Lib.hid rfl⟩
  obtain ⟨W0, HW0, HB0, HS0, HR0⟩ : ∃ V, Hid (V = w.alloc (.cells (PurseV I S k h (leavesV k h) nt st).toArray 33)) ∧ Hid (Below w.heap.size w V) ∧ Hid (V.heap.size = w.heap.size + 1) ∧ Hid (V.heap[w.heap.size]? = some (.cells (PurseV I S k h (leavesV k h) nt st).toArray 33 (0, 0))) := ⟨_, Lib.hid rfl, Lib.hid ((Below.refl _ _).alloc (Nat.le_refl _) _), Lib.hid (by simp), Lib.hid (heap_alloc_new _ _)⟩
  obtain ⟨V, HV, HVB, HVS, HVR, HVZ⟩ : ∃ V, Hid (V = W0.alloc (.cells Z 33)) ∧ Hid (Below w.heap.size w V) ∧ Hid (V.heap.size = w.heap.size + 2) ∧ Hid (V.heap[w.heap.size]? = some (.cells (PurseV I S k h (leavesV k h) nt st).toArray 33 (0, 0))) ∧ Hid (V.heap[w.heap.size + 1]? = some (.cells Z 33 (0, 0))) :=
    ⟨_, Lib.hid rfl, Lib.hid (HB0.out.alloc HB0.out.size _), Lib.hid (by simp [HS0.out]), Lib.hid ((heap_alloc_old _ _ (by rw [HS0.out]; omega)).trans HR0.out), Lib.hid (by rw [← HS0.out]; exact heap_alloc_new _ _)⟩
  have IP : ∀ nx nt, Hid ((Tryz.prog.info? 33).map (·.size) = some (PurseV I S k h nx nt st).toArray.size) := fun nx nt => Lib.hid (by rw [info_purseR, List.size_toArray, PurseV_length _ _ _ _ _ _ _ hI hS])
  have HPS : ∀ nx nt, Hid ((PurseV I S k h nx nt st).toArray.size = 53) := fun nx nt => Lib.hid (by rw [List.size_toArray, PurseV_length _ _ _ _ _ _ _ hI hS])
  have HZS : Hid (Z.size = 53) := Lib.hid (by rw [HZ.out]; rfl)
  have ITL : Hid ((Tryz.prog.info? 31).map (·.size) = some (TreeV I S k h).length) := Lib.hid (by rw [info_treeR, TreeV_length _ _ _ _ hI hS])
  have HHI := Lib.hid hI
  have HHS := Lib.hid hS
  have RT := Lib.hid (purse_T HVR.out)
  have HLV := Lib.hid (fun w' => leaves_ref6 I S k h w' hI hS)
  obtain ⟨ta, tc, rfl⟩ := ht.shape
  generalize leavesV k h = n at *
  have IPn := IP n nt
  have HPSn := HPS n nt
  clear hI hS ht IP HPS
  go_enter Tryz.func15, Tryz.ntmps15
  go_upto_region 1 with (fail)
  rw [← HW0.out]
  change Code.wp _ _ _ _ (W0.alloc (.cells (PurseV zero16 zero32 0 0 0 0 0).toArray 33))
  rw [← HZ.out, ← HV.out]
  go_wp2_with (first
    | (refine wpList_load_mid rfl 31 _ rfl w.heap.size 0 (by rfl) (TreeV I S k h) _ RT.out Tryz.underlying31 rfl ITL.out ?_)
    | (go_at_call 20; refine (HLV.out V).mono ?_; rintro e w1 ⟨rfl, b1⟩; have HB1 := Lib.hid b1; have HR1 := Lib.hid ((b1.block _ (Array.getElem?_eq_some_iff.1 HVR.out).1).trans HVR.out); have HZ1 := Lib.hid ((b1.block _ (Array.getElem?_eq_some_iff.1 HVZ.out).1).trans HVZ.out); have kn := purse_N HR1.out HHI.out HHS.out; clear b1)
    | ((with_reducible refine at_load 33 _ rfl ?_); refine wpList_load_row rfl 33 _ rfl _ rfl _ (PurseV I S k h n nt st).toArray (0, 0) _ HR1.out Tryz.underlying33 rfl IPn.out ?_)
    | ((with_reducible refine at_store 33 _ _ rfl ?_); refine wpList_store_row rfl 33 _ _ rfl _ (PurseV I S k h n nt st).toArray rfl rfl 33 _ HZ1.out IPn.out (by rw [HZS.out, HPSn.out]) (PurseV_one _ _ _ _ _ _ _) ?_))
  exact bodyPost_ret (results_cell_row_tmp3 rfl _ _ (w.heap.size + 1) 33 _ (0, 0) _ rfl (setRow_heap _ _ _ _ _ _ HZ1.out) Tryz.underlying33 rfl IPn.out) rfl ⟨rfl, below_row (HVB.out.trans (HB1.out.mono HVB.out.size)) (by omega) _⟩
theorem Sign_noteR (I S : List UInt8) (k : Int) (h Q : Nat) (nt st : Int) (tv : Value) (text : List UInt8) (w : World) (hI : I.length = 16) (hS : S.length = 32) (hk : -9223372036854775808 ≤ k ∧ k ≤ 9223372036854775807) (hm : mayT k h = true) (hQ : Q < 2 ^ h) (hst : 1 ≤ st ∧ st ≤ 8) (hn : nt = (Q : Int)) (ht : Sl w tv text) (htl : text.length ≤ 1000000) :
    Calls Tryz.prog 15 #[.agg (PurseV I S k h Q nt st).toArray, tv] w fun e w' => ∃ v, e = .returned (.tuple #[.agg (PurseV I S k h (Q + 1 : Nat) (min ((Q : Int) + st) ((2 ^ h : Nat) : Int)) st).toArray, v, .bool true, .int .i64 0]) ∧ Sl w' v (lsigN I S k h Q text) ∧ Below w.heap.size w w' := by
  obtain ⟨nd, Hnd⟩ : ∃ nd : Int, Hid (nd = (min ((Q : Int) + st) ((2 ^ h : Nat) : Int))) := ⟨_, Lib.hid rfl⟩
  rw [← Hnd.out]
  obtain ⟨Z, HZ⟩ : ∃ Z, Hid (Z = (PurseV zero16 zero32 0 0 0 0 0).toArray) := ⟨_, Lib.hid rfl⟩
  obtain ⟨W0, HW0, HB0, HS0, HR0⟩ : ∃ V, Hid (V = w.alloc (.cells (PurseV I S k h Q nt st).toArray 33)) ∧ Hid (Below w.heap.size w V) ∧ Hid (V.heap.size = w.heap.size + 1) ∧ Hid (V.heap[w.heap.size]? = some (.cells (PurseV I S k h Q nt st).toArray 33 (0, 0))) := ⟨_, Lib.hid rfl, Lib.hid ((Below.refl _ _).alloc (Nat.le_refl _) _), Lib.hid (by simp), Lib.hid (heap_alloc_new _ _)⟩
  obtain ⟨V, HV, HVB, HVS, HVR, HVZ⟩ : ∃ V, Hid (V = W0.alloc (.cells Z 33)) ∧ Hid (Below w.heap.size w V) ∧ Hid (V.heap.size = w.heap.size + 2) ∧ Hid (V.heap[w.heap.size]? = some (.cells (PurseV I S k h Q nt st).toArray 33 (0, 0))) ∧ Hid (V.heap[w.heap.size + 1]? = some (.cells Z 33 (0, 0))) :=
    ⟨_, Lib.hid rfl, Lib.hid (HB0.out.alloc HB0.out.size _), Lib.hid (by simp [HS0.out]), Lib.hid ((heap_alloc_old _ _ (by rw [HS0.out]; omega)).trans HR0.out), Lib.hid (by rw [← HS0.out]; exact heap_alloc_new _ _)⟩
  have IP : ∀ nx nt, Hid ((Tryz.prog.info? 33).map (·.size) = some (PurseV I S k h nx nt st).toArray.size) := fun nx nt => Lib.hid (by rw [info_purseR, List.size_toArray, PurseV_length _ _ _ _ _ _ _ hI hS])
  have HPS : ∀ nx nt, Hid ((PurseV I S k h nx nt st).toArray.size = 53) := fun nx nt => Lib.hid (by rw [List.size_toArray, PurseV_length _ _ _ _ _ _ _ hI hS])
  have HZS : Hid (Z.size = 53) := Lib.hid (by rw [HZ.out]; rfl)
  have ITL : Hid ((Tryz.prog.info? 31).map (·.size) = some (TreeV I S k h).length) := Lib.hid (by rw [info_treeR, TreeV_length _ _ _ _ hI hS])
  have HHI := Lib.hid hI
  have HHS := Lib.hid hS
  have RT := Lib.hid (purse_T HVR.out)
  obtain ⟨-, h2, h3⟩ := (mayT_iff k h).1 hm
  obtain ⟨p5, p1⟩ := pow5 h (by omega)
  obtain ⟨P, HPo⟩ : ∃ P, Hid (P = 2 ^ h) := ⟨_, Lib.hid rfl⟩
  rw [← HPo.out] at p5 p1 hQ Hnd
  have HLV : Hid (leavesV k h = (P : Int)) := Lib.hid (by rw [leavesV, if_pos hm, Int.toNat_natCast, ← HPo.out])
  have HLE := Lib.hid (fun w' => leaves_ref6 I S k h w' hI hS)
  rw [HLV.out] at HLE
  have hlk : leafOk h Q = true := by rw [leafOk, decide_eq_true_iff, Int.toNat_natCast, ← HPo.out]; omega
  have HSG := Lib.hid (fun tv w' h1 => Sign_ref5 I S k h Q tv text w' hI hS hk h1 htl)
  have e2 : lsigE k h Q = 0 := by rw [lsigE, hm, hlk]; rfl
  have e3 : lsigV I S k h Q text = lsigN I S k h Q text := by rw [lsigV, hm, hlk]; rfl
  rw [e2, e3] at HSG
  have HSL : Hid (48 < (lsigN I S k h Q text).length) := Lib.hid (lsig_long I S k h Q text hm (by omega))
  generalize lsigN I S k h Q text = sg at *
  have HTW := Lib.hid ht
  obtain ⟨ta, tc, rfl⟩ := ht.shape
  obtain ⟨s1, s2⟩ := hst
  obtain ⟨qx, Hqx⟩ : ∃ q : Int, Hid (q = ((Q + 1 : Nat) : Int)) := ⟨_, Lib.hid rfl⟩
  have EQ1 : Hid ((Q : Int) + 1 = qx) := Lib.hid (by rw [Hqx.out]; omega)
  rw [← Hqx.out]
  have hge : nt ≤ (Q : Int) := by omega
  have hlt : ¬ (P : Int) ≤ (Q : Int) := by omega
  have IPo := IP qx nt
  have HPSo := HPS qx nt
  have IPf := IP qx nd
  have HPSf := HPS qx nd
  have HBP := Lib.hid (rpurse_all I S k h qx nt st hI hS)
  have HMN : Hid (min (P : Int) (nt + st) = nd) := Lib.hid (by rw [Hnd.out, hn, Int.min_comm])
  have ewm : wrap64 (nt + st) = nt + st := by unfold wrap64; omega
  clear hI hS hk ht hm hlk e2 e3 IP HPS hn
  go_enter Tryz.func15, Tryz.ntmps15
  go_upto_region 1 with (fail)
  rw [← HW0.out]
  change Code.wp _ _ _ _ (W0.alloc (.cells (PurseV zero16 zero32 0 0 0 0 0).toArray 33))
  rw [← HZ.out, ← HV.out]
  go_upto_region 4 with (first
    | (refine wpList_load_mid rfl 31 _ rfl w.heap.size 0 (by rfl) (TreeV I S k h) _ RT.out Tryz.underlying31 rfl ITL.out ?_)
    | (go_at_call 20; refine (HLE.out V).mono ?_; rintro e w1 ⟨rfl, b1⟩; have HB1 := Lib.hid b1; have HR1 := Lib.hid ((b1.block _ (Array.getElem?_eq_some_iff.1 HVR.out).1).trans HVR.out); have HZ1 := Lib.hid ((b1.block _ (Array.getElem?_eq_some_iff.1 HVZ.out).1).trans HVZ.out); have kn := purse_N HR1.out HHI.out HHS.out; clear b1))
  have HBV : Hid (Below w.heap.size w w1) := Lib.hid (HVB.out.trans (HB1.out.mono HVB.out.size))
  have RT1 := Lib.hid (purse_T HR1.out)
  have kd := purse_D HR1.out HHI.out HHS.out
  have ks := purse_St HR1.out HHI.out HHS.out
  have eqw : IntKind.i64.wrap ((Q : Int) + 1) = (Q : Int) + 1 := by rw [IntKind.wrap_i64]; omega
  go_upto_region 5 with (first
    | (refine wpList_load_mid rfl 31 _ rfl w.heap.size 0 (by rfl) (TreeV I S k h) _ RT1.out Tryz.underlying31 rfl ITL.out ?_)
    | ((with_reducible refine at_build 33 _ rfl ?_); rw [EQ1.out]; refine wpList_built rfl 33 [(0, .tmp 22), (1, .tmp 25), (2, .tmp 27), (3, .tmp 29)] rfl [(0, .agg (TreeV I S k h).toArray), (1, .int .i64 qx), (2, .int .i64 nt), (3, .int .i64 st)] rfl _ HBP.out ?_)
    | ((with_reducible refine at_store 33 _ _ rfl ?_); refine wpList_store_new rfl 33 _ _ rfl (PurseV I S k h qx nt st).toArray rfl rfl 33 _ IPo.out (by rw [HPSo.out]; rfl) (PurseV_one _ _ _ _ _ _ _) ?_))
  clear kn kd ks eqw
  obtain ⟨ob, Hob⟩ : ∃ b, Hid (b = w1.heap.size) := ⟨_, Lib.hid rfl⟩
  have Hob2 : Hid (w.heap.size + 2 ≤ ob) := Lib.hid (by rw [Hob.out]; have := HB1.out.size; rw [HVS.out] at this; exact this)
  obtain ⟨W2, HW2, HB2, HR2, HZ2, HO2⟩ : ∃ W, Hid (W = w1.alloc (.cells (PurseV I S k h qx nt st).toArray 33)) ∧ Hid (Below w.heap.size w W) ∧ Hid (W.heap[w.heap.size]? = some (.cells (PurseV I S k h Q nt st).toArray 33 (0, 0))) ∧ Hid (W.heap[w.heap.size + 1]? = some (.cells Z 33 (0, 0))) ∧ Hid (W.heap[ob]? = some (.cells (PurseV I S k h qx nt st).toArray 33 (0, 0))) :=
    ⟨_, Lib.hid rfl, Lib.hid (HBV.out.alloc HBV.out.size _), Lib.hid ((heap_alloc_old _ _ (Array.getElem?_eq_some_iff.1 HR1.out).1).trans HR1.out), Lib.hid ((heap_alloc_old _ _ (Array.getElem?_eq_some_iff.1 HZ1.out).1).trans HZ1.out), Lib.hid (by rw [Hob.out]; exact heap_alloc_new _ _)⟩
  rw [← HW2.out, ← Hob.out]
  have kn := purse_N HR2.out HHI.out HHS.out
  have kd := purse_D HR2.out HHI.out HHS.out
  have ks := purse_St HR2.out HHI.out HHS.out
  have ko := purse_D HO2.out HHI.out HHS.out
  have kf := frozen_of_row W2 ob 51 _ _ HO2.out
  obtain ⟨W3, HW3, HB3, HR3, HZ3, HO3⟩ : ∃ W, Hid (W = W2.setCell ⟨ob, 51, none⟩ (.int .i64 nd)) ∧ Hid (Below w.heap.size w W) ∧ Hid (W.heap[w.heap.size]? = some (.cells (PurseV I S k h Q nt st).toArray 33 (0, 0))) ∧ Hid (W.heap[w.heap.size + 1]? = some (.cells Z 33 (0, 0))) ∧ Hid (W.heap[ob]? = some (.cells (PurseV I S k h qx nd st).toArray 33 (0, 0))) :=
    ⟨_, Lib.hid rfl, Lib.hid (HB2.out.setCell (by show w.heap.size ≤ ob; have := Hob2.out; omega) _), Lib.hid ((heap_setCell_other _ _ _ _ (by show w.heap.size ≠ ob; have := Hob2.out; omega)).trans HR2.out), Lib.hid ((heap_setCell_other _ _ _ _ (by show w.heap.size + 1 ≠ ob; have := Hob2.out; omega)).trans HZ2.out), Lib.hid (purse_setD HO2.out HHI.out HHS.out nd)⟩
  go_upto_region 8 with (fail)
  rw [HMN.out]
  change Code.wp _ _ _ _ (W2.setCell ⟨ob, 51, none⟩ (.int .i64 nd))
  rw [← HW3.out]
  clear kn kd ks ko kf ewm
  have RT3 := Lib.hid (purse_T HR3.out)
  have kn := purse_N HR3.out HHI.out HHS.out
  go_wp2_with (first
    | (refine wpList_load_mid rfl 31 _ rfl w.heap.size 0 (by rfl) (TreeV I S k h) _ RT3.out Tryz.underlying31 rfl ITL.out ?_)
    | (go_at_call 27; refine (HSG.out _ W3 (HTW.out.later HB3.out)).mono ?_; rintro e w4 ⟨sv, rfl, s4, b4⟩; have HS4 := Lib.hid s4; have HB4 := Lib.hid (HB3.out.trans (b4.mono HB3.out.size)); have HZ4 := Lib.hid ((b4.block _ (Array.getElem?_eq_some_iff.1 HZ3.out).1).trans HZ3.out); have HO4 := Lib.hid ((b4.block _ (Array.getElem?_eq_some_iff.1 HO3.out).1).trans HO3.out); clear s4 b4)
    | ((with_reducible refine at_load 33 _ rfl ?_); refine wpList_load_row rfl 33 _ rfl _ rfl _ (PurseV I S k h qx nd st).toArray (0, 0) _ HO4.out Tryz.underlying33 rfl IPf.out ?_)
    | ((with_reducible refine at_store 33 _ _ rfl ?_); refine wpList_store_row rfl 33 _ _ rfl _ (PurseV I S k h qx nd st).toArray rfl rfl 33 _ HZ4.out IPf.out (by rw [HZS.out, HPSf.out]) (PurseV_one _ _ _ _ _ _ _) ?_))
  have HZ4' : w4.heap[w.heap.size + 1]? = some (.cells (PurseV zero16 zero32 0 0 0 0 0).toArray 33 (0, 0)) := by rw [HZ4.out, HZ.out]
  exact bodyPost_ret (results_cell_row_tmp3 rfl _ _ (w.heap.size + 1) 33 _ (0, 0) _ rfl (setRow_heap _ _ _ _ _ _ HZ4.out) Tryz.underlying33 rfl IPf.out) rfl ⟨_, rfl, Sl.away HS4.out HSL.out HZ4' rfl rfl HZ4' rfl rfl (fun blk _ h1 _ => setRow_other _ _ _ _ h1), below_row HB4.out (by omega) _⟩
theorem Sign_moreR (I S : List UInt8) (k : Int) (h Q : Nat) (nt st : Int) (tv : Value) (text : List UInt8) (w : World) (hI : I.length = 16) (hS : S.length = 32) (hk : -9223372036854775808 ≤ k ∧ k ≤ 9223372036854775807) (hm : mayT k h = true) (hQ : Q < 2 ^ h) (hst : 1 ≤ st ∧ st ≤ 8) (hnt : (Q : Int) < nt ∧ nt ≤ 32) (ht : Sl w tv text) (htl : text.length ≤ 1000000) :
    Calls Tryz.prog 15 #[.agg (PurseV I S k h Q nt st).toArray, tv] w fun e w' => ∃ v, e = .returned (.tuple #[.agg (PurseV I S k h (Q + 1 : Nat) nt st).toArray, v, .bool false, .int .i64 0]) ∧ Sl w' v (lsigN I S k h Q text) ∧ Below w.heap.size w w' := by
  obtain ⟨nd, Hnd⟩ : ∃ nd : Int, Hid (nd = nt) := ⟨_, Lib.hid rfl⟩
  obtain ⟨Z, HZ⟩ : ∃ Z, Hid (Z = (PurseV zero16 zero32 0 0 0 0 0).toArray) := ⟨_, Lib.hid rfl⟩
  obtain ⟨W0, HW0, HB0, HS0, HR0⟩ : ∃ V, Hid (V = w.alloc (.cells (PurseV I S k h Q nt st).toArray 33)) ∧ Hid (Below w.heap.size w V) ∧ Hid (V.heap.size = w.heap.size + 1) ∧ Hid (V.heap[w.heap.size]? = some (.cells (PurseV I S k h Q nt st).toArray 33 (0, 0))) := ⟨_, Lib.hid rfl, Lib.hid ((Below.refl _ _).alloc (Nat.le_refl _) _), Lib.hid (by simp), Lib.hid (heap_alloc_new _ _)⟩
  obtain ⟨V, HV, HVB, HVS, HVR, HVZ⟩ : ∃ V, Hid (V = W0.alloc (.cells Z 33)) ∧ Hid (Below w.heap.size w V) ∧ Hid (V.heap.size = w.heap.size + 2) ∧ Hid (V.heap[w.heap.size]? = some (.cells (PurseV I S k h Q nt st).toArray 33 (0, 0))) ∧ Hid (V.heap[w.heap.size + 1]? = some (.cells Z 33 (0, 0))) :=
    ⟨_, Lib.hid rfl, Lib.hid (HB0.out.alloc HB0.out.size _), Lib.hid (by simp [HS0.out]), Lib.hid ((heap_alloc_old _ _ (by rw [HS0.out]; omega)).trans HR0.out), Lib.hid (by rw [← HS0.out]; exact heap_alloc_new _ _)⟩
  have IP : ∀ nx nt, Hid ((Tryz.prog.info? 33).map (·.size) = some (PurseV I S k h nx nt st).toArray.size) := fun nx nt => Lib.hid (by rw [info_purseR, List.size_toArray, PurseV_length _ _ _ _ _ _ _ hI hS])
  have HPS : ∀ nx nt, Hid ((PurseV I S k h nx nt st).toArray.size = 53) := fun nx nt => Lib.hid (by rw [List.size_toArray, PurseV_length _ _ _ _ _ _ _ hI hS])
  have HZS : Hid (Z.size = 53) := Lib.hid (by rw [HZ.out]; rfl)
  have ITL : Hid ((Tryz.prog.info? 31).map (·.size) = some (TreeV I S k h).length) := Lib.hid (by rw [info_treeR, TreeV_length _ _ _ _ hI hS])
  have HHI := Lib.hid hI
  have HHS := Lib.hid hS
  have RT := Lib.hid (purse_T HVR.out)
  obtain ⟨-, h2, h3⟩ := (mayT_iff k h).1 hm
  obtain ⟨p5, p1⟩ := pow5 h (by omega)
  obtain ⟨P, HPo⟩ : ∃ P, Hid (P = 2 ^ h) := ⟨_, Lib.hid rfl⟩
  rw [← HPo.out] at p5 p1 hQ
  have HLV : Hid (leavesV k h = (P : Int)) := Lib.hid (by rw [leavesV, if_pos hm, Int.toNat_natCast, ← HPo.out])
  have HLE := Lib.hid (fun w' => leaves_ref6 I S k h w' hI hS)
  rw [HLV.out] at HLE
  have hlk : leafOk h Q = true := by rw [leafOk, decide_eq_true_iff, Int.toNat_natCast, ← HPo.out]; omega
  have HSG := Lib.hid (fun tv w' h1 => Sign_ref5 I S k h Q tv text w' hI hS hk h1 htl)
  have e2 : lsigE k h Q = 0 := by rw [lsigE, hm, hlk]; rfl
  have e3 : lsigV I S k h Q text = lsigN I S k h Q text := by rw [lsigV, hm, hlk]; rfl
  rw [e2, e3] at HSG
  have HSL : Hid (48 < (lsigN I S k h Q text).length) := Lib.hid (lsig_long I S k h Q text hm (by omega))
  generalize lsigN I S k h Q text = sg at *
  have HTW := Lib.hid ht
  obtain ⟨ta, tc, rfl⟩ := ht.shape
  obtain ⟨s1, s2⟩ := hst
  obtain ⟨qx, Hqx⟩ : ∃ q : Int, Hid (q = ((Q + 1 : Nat) : Int)) := ⟨_, Lib.hid rfl⟩
  have EQ1 : Hid ((Q : Int) + 1 = qx) := Lib.hid (by rw [Hqx.out]; omega)
  rw [← Hqx.out]
  obtain ⟨t1, t2⟩ := hnt
  have hge : ¬ nt ≤ (Q : Int) := by omega
  have hged : decide (nt ≤ (Q : Int)) = false := decide_eq_false hge
  have hlt : ¬ (P : Int) ≤ (Q : Int) := by omega
  have IPo := IP qx nt
  have HPSo := HPS qx nt
  have IPf := IP qx nd
  have HPSf := HPS qx nd
  have HBP := Lib.hid (rpurse_all I S k h qx nt st hI hS)
  clear hI hS hk ht hm hlk e2 e3 IP HPS
  go_enter Tryz.func15, Tryz.ntmps15
  go_upto_region 1 with (fail)
  rw [← HW0.out]
  change Code.wp _ _ _ _ (W0.alloc (.cells (PurseV zero16 zero32 0 0 0 0 0).toArray 33))
  rw [← HZ.out, ← HV.out]
  go_upto_region 4 with (first
    | (refine wpList_load_mid rfl 31 _ rfl w.heap.size 0 (by rfl) (TreeV I S k h) _ RT.out Tryz.underlying31 rfl ITL.out ?_)
    | (go_at_call 20; refine (HLE.out V).mono ?_; rintro e w1 ⟨rfl, b1⟩; have HB1 := Lib.hid b1; have HR1 := Lib.hid ((b1.block _ (Array.getElem?_eq_some_iff.1 HVR.out).1).trans HVR.out); have HZ1 := Lib.hid ((b1.block _ (Array.getElem?_eq_some_iff.1 HVZ.out).1).trans HVZ.out); have kn := purse_N HR1.out HHI.out HHS.out; clear b1))
  have HBV : Hid (Below w.heap.size w w1) := Lib.hid (HVB.out.trans (HB1.out.mono HVB.out.size))
  have RT1 := Lib.hid (purse_T HR1.out)
  have kd := purse_D HR1.out HHI.out HHS.out
  have ks := purse_St HR1.out HHI.out HHS.out
  have eqw : IntKind.i64.wrap ((Q : Int) + 1) = (Q : Int) + 1 := by rw [IntKind.wrap_i64]; omega
  go_upto_region 5 with (first
    | (refine wpList_load_mid rfl 31 _ rfl w.heap.size 0 (by rfl) (TreeV I S k h) _ RT1.out Tryz.underlying31 rfl ITL.out ?_)
    | ((with_reducible refine at_build 33 _ rfl ?_); rw [EQ1.out]; refine wpList_built rfl 33 [(0, .tmp 22), (1, .tmp 25), (2, .tmp 27), (3, .tmp 29)] rfl [(0, .agg (TreeV I S k h).toArray), (1, .int .i64 qx), (2, .int .i64 nt), (3, .int .i64 st)] rfl _ HBP.out ?_)
    | ((with_reducible refine at_store 33 _ _ rfl ?_); refine wpList_store_new rfl 33 _ _ rfl (PurseV I S k h qx nt st).toArray rfl rfl 33 _ IPo.out (by rw [HPSo.out]; rfl) (PurseV_one _ _ _ _ _ _ _) ?_))
  clear kn kd ks eqw
  obtain ⟨ob, Hob⟩ : ∃ b, Hid (b = w1.heap.size) := ⟨_, Lib.hid rfl⟩
  have Hob2 : Hid (w.heap.size + 2 ≤ ob) := Lib.hid (by rw [Hob.out]; have := HB1.out.size; rw [HVS.out] at this; exact this)
  obtain ⟨W2, HW2, HB2, HR2, HZ2, HO2⟩ : ∃ W, Hid (W = w1.alloc (.cells (PurseV I S k h qx nt st).toArray 33)) ∧ Hid (Below w.heap.size w W) ∧ Hid (W.heap[w.heap.size]? = some (.cells (PurseV I S k h Q nt st).toArray 33 (0, 0))) ∧ Hid (W.heap[w.heap.size + 1]? = some (.cells Z 33 (0, 0))) ∧ Hid (W.heap[ob]? = some (.cells (PurseV I S k h qx nt st).toArray 33 (0, 0))) :=
    ⟨_, Lib.hid rfl, Lib.hid (HBV.out.alloc HBV.out.size _), Lib.hid ((heap_alloc_old _ _ (Array.getElem?_eq_some_iff.1 HR1.out).1).trans HR1.out), Lib.hid ((heap_alloc_old _ _ (Array.getElem?_eq_some_iff.1 HZ1.out).1).trans HZ1.out), Lib.hid (by rw [Hob.out]; exact heap_alloc_new _ _)⟩
  rw [← HW2.out, ← Hob.out]
  have kn := purse_N HR2.out HHI.out HHS.out
  have kd := purse_D HR2.out HHI.out HHS.out
  have ks := purse_St HR2.out HHI.out HHS.out
  go_upto_region 8 with (fail)
  clear kn kd ks
  obtain ⟨W3, HW3, HB3, HR3, HZ3, HO3⟩ : ∃ W, Hid (W = W2) ∧ Hid (Below w.heap.size w W) ∧ Hid (W.heap[w.heap.size]? = some (.cells (PurseV I S k h Q nt st).toArray 33 (0, 0))) ∧ Hid (W.heap[w.heap.size + 1]? = some (.cells Z 33 (0, 0))) ∧ Hid (W.heap[ob]? = some (.cells (PurseV I S k h qx nd st).toArray 33 (0, 0))) :=
    ⟨_, Lib.hid rfl, HB2, HR2, HZ2, Lib.hid (by rw [Hnd.out]; exact HO2.out)⟩
  rw [← HW3.out]
  have RT3 := Lib.hid (purse_T HR3.out)
  have kn := purse_N HR3.out HHI.out HHS.out
  go_wp2_with (first
    | (refine wpList_load_mid rfl 31 _ rfl w.heap.size 0 (by rfl) (TreeV I S k h) _ RT3.out Tryz.underlying31 rfl ITL.out ?_)
    | (go_at_call 27; refine (HSG.out _ W3 (HTW.out.later HB3.out)).mono ?_; rintro e w4 ⟨sv, rfl, s4, b4⟩; have HS4 := Lib.hid s4; have HB4 := Lib.hid (HB3.out.trans (b4.mono HB3.out.size)); have HZ4 := Lib.hid ((b4.block _ (Array.getElem?_eq_some_iff.1 HZ3.out).1).trans HZ3.out); have HO4 := Lib.hid ((b4.block _ (Array.getElem?_eq_some_iff.1 HO3.out).1).trans HO3.out); clear s4 b4)
    | ((with_reducible refine at_load 33 _ rfl ?_); refine wpList_load_row rfl 33 _ rfl _ rfl _ (PurseV I S k h qx nd st).toArray (0, 0) _ HO4.out Tryz.underlying33 rfl IPf.out ?_)
    | ((with_reducible refine at_store 33 _ _ rfl ?_); refine wpList_store_row rfl 33 _ _ rfl _ (PurseV I S k h qx nd st).toArray rfl rfl 33 _ HZ4.out IPf.out (by rw [HZS.out, HPSf.out]) (PurseV_one _ _ _ _ _ _ _) ?_))
  have HZ4' : w4.heap[w.heap.size + 1]? = some (.cells (PurseV zero16 zero32 0 0 0 0 0).toArray 33 (0, 0)) := by rw [HZ4.out, HZ.out]
  exact bodyPost_ret (results_cell_row_tmp3 rfl _ _ (w.heap.size + 1) 33 _ (0, 0) _ rfl (setRow_heap _ _ _ _ _ _ HZ4.out) Tryz.underlying33 rfl IPf.out) rfl ⟨_, by rw [Hnd.out]; rfl, Sl.away HS4.out HSL.out HZ4' rfl rfl HZ4' rfl rfl (fun blk _ h1 _ => setRow_other _ _ _ _ h1), below_row HB4.out (by omega) _⟩
end Go.Proofs.YtcnelahmbfggcaaGreat

/- The walk of the law PurseSigns. -/
namespace Go.Proofs.YtcnelahmbfggcaaGreat
open Go Go.RowKit
set_option maxRecDepth 100000
set_option maxHeartbeats 4000000
attribute [local irreducible] Wild.walk WildF.walk

/-- the tree of the document's purse -/
theorem field_tree (I S : List UInt8) (k h nx nt st : Int) (hI : I.length = 16) (hS : S.length = 32) (W : World) :
    (Instr.field 33 (.agg (PurseV I S k h nx nt st).toArray) 0).run Tryz.prog W = .ok (.agg (TreeV I S k h).toArray) W := by
  have hl := TreeV_length I S k h hI hS
  have := run_part_agg (w := W) Tryz.underlying31 rfl [] (TreeV I S k h) [.int .i64 nx, .int .i64 nt, .int .i64 st] (by rw [hl]; kernel_rfl)
  rw [List.nil_append, List.length_nil] at this
  rw [Instr.field, Sem.run_bind, run_underlying Tryz.underlying33]
  simp only [Result.andThen_ok]
  rw [PurseV]
  exact this

/-- what a purse that is right signs: the program and the document agree -/
theorem Sign_both (I S : List UInt8) (k h nx nt st : Int) (text : List UInt8) (hI : I.length = 16) (hS : S.length = 32) (hk : -9223372036854775808 ≤ k ∧ k ≤ 9223372036854775807) (hr : rightB k h nx nt st = true) (htl : text.length ≤ 1000000) :
    ∃ (qx qt : Int) (nb : Bool) (er : Int) (sg : List UInt8),
      (∀ (tv : Value) (w : World), Sl w tv text → Calls Tryz.prog 14 #[.agg (PurseV I S k h nx nt st).toArray, tv] w fun e w' => ∃ v, e = .returned (.tuple #[.agg (PurseV I S k h qx qt st).toArray, v, .bool nb, .int .i64 er]) ∧ Sl w' v sg ∧ Below w.heap.size w w') ∧
      (∀ (tv : Value) (w : World), Sl w tv text → Calls Tryz.prog 15 #[.agg (PurseV I S k h nx nt st).toArray, tv] w fun e w' => ∃ v, e = .returned (.tuple #[.agg (PurseV I S k h qx qt st).toArray, v, .bool nb, .int .i64 er]) ∧ Sl w' v sg ∧ Below w.heap.size w w') := by
  obtain ⟨r1, r2, r3, r4, r5, r6⟩ := (rightB_iff _ _ _ _ _).1 hr
  have hm := leaves_pos k h r1
  obtain ⟨l1, l2⟩ := leavesV_bd k h
  by_cases hsp : nx = leavesV k h
  · subst hsp
    refine ⟨leavesV k h, nt, false, 12, [], fun tv w ht => (Sign_spent I S k h nt st tv w hI hS hk text ht).mono ?_, fun tv w ht => (Sign_spentR I S k h nt st tv w hI hS text ht).mono ?_⟩
    · rintro e w' ⟨rfl, hb⟩
      exact ⟨_, rfl, .inl ⟨rfl, _, _, rfl⟩, hb⟩
    · rintro e w' ⟨rfl, hb⟩
      exact ⟨_, rfl, .inl ⟨rfl, _, _, rfl⟩, hb⟩
  · obtain ⟨H, rfl⟩ : ∃ H : Nat, h = H := ⟨h.toNat, by have := ((mayT_iff k h).1 hm).2; omega⟩
    have HLN : leavesV k H = ((2 ^ H : Nat) : Int) := by rw [leavesV, if_pos hm, Int.toNat_natCast]
    obtain ⟨P, hP⟩ : ∃ P, P = 2 ^ H := ⟨_, rfl⟩
    rw [← hP] at HLN
    rw [HLN] at hsp r1 r6 l1 l2
    obtain ⟨Q, rfl⟩ : ∃ Q : Nat, nx = Q := ⟨nx.toNat, by omega⟩
    have hQ : Q < 2 ^ H := by rw [← hP]; omega
    by_cases hnt : nt ≤ (Q : Int)
    · have hn : nt = (Q : Int) := by omega
      refine ⟨_, _, true, 0, lsigN I S k H Q text, fun tv w ht => ?_, fun tv w ht => Sign_noteR I S k H Q nt st tv text w hI hS hk hm hQ ⟨r2, r3⟩ hn ht htl⟩
      subst hn
      exact Sign_note I S k H Q st tv text w hI hS hk hm hQ ⟨r2, r3⟩ ht htl
    · exact ⟨_, _, false, 0, lsigN I S k H Q text, fun tv w ht => Sign_more I S k H Q nt st tv text w hI hS hk hm hQ ⟨r2, r3⟩ ⟨by omega, by omega⟩ ht htl, fun tv w ht => Sign_moreR I S k H Q nt st tv text w hI hS hk hm hQ ⟨r2, r3⟩ ⟨by omega, by omega⟩ ht htl⟩
theorem purse_extract (I S : List UInt8) (k h nx nt st : Int) (hI : I.length = 16) (hS : S.length = 32) : (PurseV I S k h nx nt st).toArray.extract 0 50 = (TreeV I S k h).toArray := by
  have hl := TreeV_length I S k h hI hS
  rw [PurseV]
  simp only [List.extract_toArray, List.extract_eq_take_drop, List.drop_zero, Nat.sub_zero]
  rw [List.take_append_of_le_length (by omega), List.take_of_length_le (by omega)]
theorem PurseSigns_main (I S : List UInt8) (k h nx nt st sp : Int) (tv : Value) (text : List UInt8) (w : World) (hI : I.length = 16) (hS : S.length = 32) (hk : -9223372036854775808 ≤ k ∧ k ≤ 9223372036854775807) (ht : Sl w tv text) :
    Calls Tryz.prog 4 #[.agg (PurseV I S k h nx nt st).toArray, tv, .int .i64 sp] w fun e w' => e = .returned (.bool true) ∧ Below w.heap.size w w' := by
  obtain ⟨W0, HW0, HB0, HS0, HR0⟩ : ∃ V, Hid (V = w.alloc (.cells (PurseV I S k h nx nt st).toArray 27)) ∧ Hid (Below w.heap.size w V) ∧ Hid (V.heap.size = w.heap.size + 1) ∧ Hid (V.heap[w.heap.size]? = some (.cells (PurseV I S k h nx nt st).toArray 27 (0, 0))) := ⟨_, Lib.hid rfl, Lib.hid ((Below.refl _ _).alloc (Nat.le_refl _) _), Lib.hid (by simp), Lib.hid (heap_alloc_new _ _)⟩
  have IK : Hid ((Tryz.prog.info? 27).map (·.size) = some (PurseV I S k h nx nt st).toArray.size) := Lib.hid (by rw [info_purse, List.size_toArray, PurseV_length _ _ _ _ _ _ _ hI hS])
  have ITL : Hid ((Tryz.prog.info? 25).map (·.size) = some (TreeV I S k h).length) := Lib.hid (by rw [info_tree, TreeV_length _ _ _ _ hI hS])
  have HRT := Lib.hid (purse_T HR0.out)
  have HTB : Hid (∀ w', Below W0.heap.size W0 w' → Hid (w'.heap[w.heap.size]? = some (.cells (PurseV I S k h nx nt st).toArray 27 (0, 0)))) := Lib.hid (fun w' hb => Lib.hid ((hb.block _ (by rw [HS0.out]; omega)).trans HR0.out))
  have HLO := Lib.hid (fun w' => low06_any I S k h w' hI hS)
  have HAL := Lib.hid alive06_any
  have HPL := Lib.hid (fun w' => plain06_any I S k h nx nt st w' hI hS)
  have HRI := Lib.hid (fun w' => Right_ref6 I S k h nx nt st w' hI hS)
  have HHI := Lib.hid hI
  have HHS := Lib.hid hS
  have HTT : Hid (∀ w', Below W0.heap.size W0 w' → w'.rangeAt w.heap.size 0 (TreeV I S k h)) := Lib.hid (fun w' hb => purse_T (HTB.out w' hb).out)
  have HT0 := Lib.hid (ht.later HB0.out)
  obtain ⟨ta, tc, rfl⟩ := ht.shape
  clear ht
  cases hlo : lowH h
  · rw [hlo] at HLO
    clear hlo hI hS hk
    go_enter Tryz.func4, Tryz.ntmps4
    go_upto_region 1 with (fail)
    rw [← HW0.out]
    go_wp2_with (first
      | (refine wpList_load_mid rfl 25 _ rfl w.heap.size 0 (by rfl) (TreeV I S k h) _ HRT.out Tryz.underlying25 rfl ITL.out ?_)
      | (go_at_call 5; refine (HLO.out W0).mono ?_; rintro e w1 ⟨rfl, b1⟩; have HB1 := Lib.hid b1; clear b1)
      | (go_at_call 8; refine (HAL.out w1).mono ?_; rintro e w2 ⟨rfl, b2⟩; have HB2 := Lib.hid (HB1.out.trans (b2.mono HB1.out.size)); clear b2))
    go_ret
    exact ⟨rfl, HB0.out.trans (HB2.out.mono HB0.out.size)⟩
  · rw [hlo] at HLO
    clear hlo
    by_cases htl : text.length ≤ 1000
    · have hti : (text.length : Int) ≤ 1000 := by omega
      have hdt : decide ((1000 : Int) < (text.length : Int)) = false := decide_eq_false (by omega)
      obtain ⟨I', S', k', h', st', hI', hS', hA⟩ : ∃ (I' S' : List UInt8) (k' h' st' : Int), I'.length = 16 ∧ S'.length = 32 ∧ (if rightB k h 0 0 sp then PurseV I S k h 0 0 sp else PurseV zero16 zero32 0 0 0 0 0) = PurseV I' S' k' h' 0 0 st' := by
        split
        · exact ⟨I, S, k, h, sp, hI, hS, rfl⟩
        · exact ⟨zero16, zero32, 0, 0, 0, rfl, rfl, rfl⟩
      obtain ⟨AL, HAd⟩ : ∃ K, Hid (K = PurseV I' S' k' h' 0 0 st') := ⟨_, Lib.hid rfl⟩
      obtain ⟨KL, HKd⟩ : ∃ K, Hid (K = PurseV I S k h nx nt st) := ⟨_, Lib.hid rfl⟩
      obtain ⟨en, Hen⟩ : ∃ e : Int, Hid (e = if rightB k h 0 0 sp then 0 else 1) := ⟨_, Lib.hid rfl⟩
      have HNA := Lib.hid (fun w' => New_pur I S k h sp w' hI hS hk)
      have HNR := Lib.hid (fun w' => New_ref6 I S k h sp w' hI hS)
      simp only [hA, ← HAd.out, ← Hen.out] at HNA HNR
      have HPA := Lib.hid (fun w' => plain06_any I' S' k' h' 0 0 st' w' hI' hS')
      rw [← HAd.out] at HPA
      have HRA := Lib.hid (fun w' => Right_pur I S k h nx nt st w' hI hS hk)
      have hqA : ∀ W, (Op.equalIn 10000 33 (.agg AL.toArray) (.agg AL.toArray)).run Tryz.prog W = .ok true W := fun W => by rw [HAd.out]; exact eq_rpurse I' S' k' h' 0 0 st' hI' hS' W
      have HQA := Lib.hid hqA
      have IA : Hid ((Tryz.prog.info? 27).map (·.size) = some AL.toArray.size) := Lib.hid (by rw [HAd.out, info_purse, List.size_toArray, PurseV_length _ _ _ _ _ _ _ hI' hS'])
      have IAR : Hid ((Tryz.prog.info? 33).map (·.size) = some AL.toArray.size) := Lib.hid (by rw [HAd.out, info_purseR, List.size_toArray, PurseV_length _ _ _ _ _ _ _ hI' hS'])
      have IALl : Hid ((Tryz.prog.info? 27).map (·.size) = some AL.length) := Lib.hid (by rw [HAd.out, info_purse, PurseV_length _ _ _ _ _ _ _ hI' hS'])
      have IARl : Hid ((Tryz.prog.info? 33).map (·.size) = some AL.length) := Lib.hid (by rw [HAd.out, info_purseR, PurseV_length _ _ _ _ _ _ _ hI' hS'])
      have SA : Hid (AL.toArray.size = 53) := Lib.hid (by rw [HAd.out, List.size_toArray, PurseV_length _ _ _ _ _ _ _ hI' hS'])
      have OA : Hid (AL.toArray.all (·.oneCell') = true) := Lib.hid (by rw [HAd.out]; exact PurseV_one _ _ _ _ _ _ _)
      have HEX : Hid (KL.toArray.extract 0 50 = (TreeV I S k h).toArray) := Lib.hid (by rw [HKd.out]; exact purse_extract I S k h nx nt st hI hS)
      have IKL : Hid ((Tryz.prog.info? 27).map (·.size) = some KL.length) := Lib.hid (by rw [HKd.out, info_purse, PurseV_length _ _ _ _ _ _ _ hI hS])
      have HBOTH := fun (hr : rightB k h nx nt st = true) => Sign_both I S k h nx nt st text hI hS hk hr (by omega)
      have HCA := Lib.hid (fun w' => Crash_pur I S k h nx nt st w' hI hS)
      have HCR := Lib.hid (fun w' => Crash_ref6 I S k h nx nt st w' hI hS)
      have HLB := fun (hr : rightB k h nx nt st = true) => (⟨fun w' => Left_pur I S k h nx nt st w' hI hS hk ⟨((rightB_iff _ _ _ _ _).1 hr).2.2.2.1, by have := (rightB_iff _ _ _ _ _).1 hr; have := leavesV_bd k h; omega⟩, fun w' => Left_ref6 I S k h nx nt st w' hI hS ⟨((rightB_iff _ _ _ _ _).1 hr).2.2.2.1, by have := (rightB_iff _ _ _ _ _).1 hr; have := leavesV_bd k h; omega⟩⟩ : _ ∧ _)
      rw [← HKd.out] at HPL HRI HRA IK HTB HR0 HW0 HCA HCR HBOTH HLB ⊢
      clear hA hqA
      have HPART : Hid (∀ W : World, (Instr.field 33 (.agg KL.toArray) 0).run Tryz.prog W = .ok (.agg (TreeV I S k h).toArray) W) := Lib.hid (fun W => by rw [HKd.out]; exact field_tree I S k h nx nt st hI hS W)
      cases hr : rightB k h nx nt st
      · rw [hr] at HRI HRA
        clear hr hI hS hk hI' hS' HBOTH HLB
        go_enter Tryz.func4, Tryz.ntmps4
        go_upto_region 1 with (fail)
        rw [← HW0.out]
        go_upto_region 4 with (first
          | (refine wpList_load_mid rfl 25 _ rfl w.heap.size 0 (by rfl) (TreeV I S k h) _ (HRT.out) Tryz.underlying25 rfl ITL.out ?_)
          | (refine wpList_load_mid rfl 25 _ rfl w.heap.size 0 (by rfl) (TreeV I S k h) _ (HTT.out _ HB1.out) Tryz.underlying25 rfl ITL.out ?_)
          | (go_at_call 5; refine (HLO.out W0).mono ?_; rintro e w1 ⟨rfl, b1⟩; have HB1 := Lib.hid b1; clear b1)
          | (go_at_call 11; refine (HNA.out w1).mono ?_; rintro e w2 ⟨rfl, b2⟩; have HB2 := Lib.hid (HB1.out.trans (b2.mono HB1.out.size)); clear b2)
          | ((with_reducible refine at_store 27 _ _ rfl ?_); refine wpList_store_new rfl 27 _ _ rfl AL.toArray rfl rfl 27 _ IA.out (by rw [SA.out]; rfl) OA.out ?_))
        obtain ⟨xb, Hxb⟩ : ∃ b, Hid (b = w2.heap.size) := ⟨_, Lib.hid rfl⟩
        obtain ⟨WX, HWX, HBX, HRX⟩ : ∃ W, Hid (W = w2.alloc (.cells AL.toArray 27)) ∧ Hid (Below W0.heap.size W0 W) ∧ Hid (W.heap[xb]? = some (.cells AL.toArray 27 (0, 0))) := ⟨_, Lib.hid rfl, Lib.hid (HB2.out.alloc HB2.out.size _), Lib.hid (by rw [Hxb.out]; exact heap_alloc_new _ _)⟩
        rw [← HWX.out, ← Hxb.out]
        have hpart := HPART.out
        go_upto_region 5 with (first
          | ((with_reducible refine at_load 27 _ rfl ?_); first | refine wpList_load_row rfl 27 _ rfl _ rfl _ KL.toArray (0, 0) _ (HTB.out _ HBX.out).out Tryz.underlying27 rfl IK.out ?_)
          | (go_at_call 7; (with_reducible refine (HPL.out WX).mono ?_); rintro e w3 ⟨rfl, b3⟩; have HB3 := Lib.hid (HBX.out.trans (b3.mono HBX.out.size)); have HRX3 := Lib.hid ((b3.block _ (Array.getElem?_eq_some_iff.1 HRX.out).1).trans HRX.out); clear b3)
          | (go_at_call 12; refine (HNR.out w3).mono ?_; rintro e w4 ⟨rfl, b4⟩; have HB4 := Lib.hid (HB3.out.trans (b4.mono HB3.out.size)); have HRX4 := Lib.hid ((b4.block _ (Array.getElem?_eq_some_iff.1 HRX3.out).1).trans HRX3.out); clear b4)
          | ((with_reducible refine at_store 33 _ _ rfl ?_); refine wpList_store_new rfl 33 _ _ rfl AL.toArray rfl rfl 33 _ IAR.out (by rw [SA.out]; rfl) OA.out ?_))
        clear hpart
        obtain ⟨yb, Hyb⟩ : ∃ b, Hid (b = w4.heap.size) := ⟨_, Lib.hid rfl⟩
        obtain ⟨WY, HWY, HBY, HRXY, HRY⟩ : ∃ W, Hid (W = w4.alloc (.cells AL.toArray 33)) ∧ Hid (Below W0.heap.size W0 W) ∧ Hid (W.heap[xb]? = some (.cells AL.toArray 27 (0, 0))) ∧ Hid (W.heap[yb]? = some (.cells AL.toArray 33 (0, 0))) := ⟨_, Lib.hid rfl, Lib.hid (HB4.out.alloc HB4.out.size _), Lib.hid ((heap_alloc_old _ _ (Array.getElem?_eq_some_iff.1 HRX4.out).1).trans HRX4.out), Lib.hid (by rw [Hyb.out]; exact heap_alloc_new _ _)⟩
        rw [← HWY.out, ← Hyb.out]
        have HROWY : Hid (∀ w', Below WY.heap.size WY w' → Hid (w'.heap[xb]? = some (.cells AL.toArray 27 (0, 0))) ∧ Hid (w'.heap[yb]? = some (.cells AL.toArray 33 (0, 0))) ∧ Hid (Below W0.heap.size W0 w')) := Lib.hid (fun w' hb => ⟨Lib.hid ((hb.block _ (Array.getElem?_eq_some_iff.1 HRXY.out).1).trans HRXY.out), Lib.hid ((hb.block _ (Array.getElem?_eq_some_iff.1 HRY.out).1).trans HRY.out), Lib.hid (HBY.out.trans (hb.mono HBY.out.size))⟩)
        go_upto_region 6 with (first
          | ((with_reducible refine at_load 27 _ rfl ?_); first | refine wpList_load_row rfl 27 _ rfl _ rfl _ KL.toArray (0, 0) _ (HTB.out _ HBY.out).out Tryz.underlying27 rfl IK.out ?_)
          | (go_at_call 7; (with_reducible refine (HPL.out WY).mono ?_); rintro e w5 ⟨rfl, b5⟩; have HB5 := Lib.hid (HBY.out.trans (b5.mono HBY.out.size)); have HC5 := Lib.hid b5; clear b5)
          | (go_at_call 6; refine (HRI.out w5).mono ?_; rintro e w6 ⟨rfl, b6⟩; have HB6 := Lib.hid (HB5.out.trans (b6.mono HB5.out.size)); have HC6 := Lib.hid (HC5.out.trans (b6.mono HC5.out.size)); clear b6))
        have hqA := HQA.out
        try simp only [Act.put]
        refine Wild.region_b (fun k => match k with | 1 => some (.fix (.agg AL.toArray)) | 11 => some (.fix (.bool false)) | _ => none) (fun _ => []) rfl (by kernel_rfl) (fun vs hvs => ?_)
        have v1 : vs 1 = .agg AL.toArray := hvs 1 _ rfl
        have v11 : vs 11 = .bool false := hvs 11 _ rfl
        refine Wild.walk_load 27 _ _ _ AL _ rfl (by rfl) rfl rfl (fun w' hw => rangeAt_row (HROWY.out w' (HC6.out.trans (Below.mono hw.1 HC6.out.size))).1.out) Tryz.underlying27 rfl IALl.out ?_
        simp only [Act.put, List.setIfInBounds_toArray, List.set_cons_zero, List.set_cons_succ]
        refine Wild.walk_wild _ rfl (by rfl) (fun w' hw K hK => ?_) ?_
        · go_simp
          go_at_call 7
          refine (HPA.out w').mono ?_
          rintro e w'' ⟨rfl, hb⟩
          exact hK.out _ _ (hw.1.trans (hb.mono hw.1.size)) hb rfl trivial
        rw [v1]
        simp only [Act.put, List.setIfInBounds_toArray, List.set_cons_zero, List.set_cons_succ]
        refine Wild.walk_load 33 _ _ _ AL _ rfl (by rfl) rfl rfl (fun w' hw => rangeAt_row (HROWY.out w' (HC6.out.trans (Below.mono hw.1 HC6.out.size))).2.1.out) Tryz.underlying33 rfl IARl.out ?_
        simp only [Act.put, List.setIfInBounds_toArray, List.set_cons_zero, List.set_cons_succ]
        refine Wild.walk_simple rfl (by rfl) (by rfl) (fun K hK => ?_); go_big_quiet_op; first | (refine hK _ ?_; clear hK K) | (refine ⟨_, fun _ _ => rfl, hK _ ?_⟩; clear hK K)
        refine Wild.walk_simple rfl (by rfl) (by rfl) (fun K hK => ?_); go_big_quiet_op; first | (refine hK _ ?_; clear hK K) | (refine ⟨_, fun _ _ => rfl, hK _ ?_⟩; clear hK K)
        refine Wild.walk_simple rfl (by rfl) (by rfl) (fun K hK => ?_); go_big_quiet_op; first | (refine hK _ ?_; clear hK K) | (refine ⟨_, fun _ _ => rfl, hK _ ?_⟩; clear hK K)
        refine Wild.walk_simple rfl (by rfl) (by rfl) (fun K hK => ?_); go_big_quiet_op; first | (refine hK _ ?_; clear hK K) | (refine ⟨_, fun _ _ => rfl, hK _ ?_⟩; clear hK K)
        refine Wild.walk_simple rfl (by rfl) (by rfl) (fun K hK => ?_); go_big_quiet_op; first | (refine hK _ ?_; clear hK K) | (refine ⟨_, fun _ _ => rfl, hK _ ?_⟩; clear hK K)
        refine Wild.walk_simple rfl (by rfl) (by rfl) (fun K hK => ?_); go_big_quiet_op; first | (refine hK _ ?_; clear hK K) | (refine ⟨_, fun _ _ => rfl, hK _ ?_⟩; clear hK K)
        refine Wild.walk_simple rfl (by rfl) (by rfl) (fun K hK => ?_); go_big_quiet_op; first | (refine hK _ ?_; clear hK K) | (refine ⟨_, fun _ _ => rfl, hK _ ?_⟩; clear hK K)
        refine Wild.walk_load 27 _ _ _ KL _ rfl (by rfl) rfl rfl (fun w' hw => rangeAt_row (HTB.out w' (HROWY.out w' (HC6.out.trans (Below.mono hw.1 HC6.out.size))).2.2.out).out) Tryz.underlying27 rfl IKL.out ?_
        simp only [Act.put, List.setIfInBounds_toArray, List.set_cons_zero, List.set_cons_succ]
        refine Wild.walk_wild _ rfl (by rfl) (fun w' hw K hK => ?_) ?_
        · go_simp
          go_at_call 13
          refine (HRA.out w').mono ?_
          rintro e w'' ⟨rfl, hb⟩
          exact hK.out _ _ (hw.1.trans (hb.mono hw.1.size)) hb rfl trivial
        rw [v11]
        simp only [Act.put, List.setIfInBounds_toArray, List.set_cons_zero, List.set_cons_succ]
        refine Wild.walk_simple rfl (by rfl) (by rfl) (fun K hK => ?_); go_big_quiet_op; first | (refine hK _ ?_; clear hK K) | (refine ⟨_, fun _ _ => rfl, hK _ ?_⟩; clear hK K)
        refine Wild.walk_simple rfl (by rfl) (by rfl) (fun K hK => ?_); go_big_quiet_op; first | (refine hK _ ?_; clear hK K) | (refine ⟨_, fun _ _ => rfl, hK _ ?_⟩; clear hK K)
        refine Wild.walk_simple rfl (by rfl) (by rfl) (fun K hK => ?_); go_big_quiet_op; first | (refine hK _ ?_; clear hK K) | (refine ⟨_, fun _ _ => rfl, hK _ ?_⟩; clear hK K)
        refine Wild.walk_nil ?_
        intro w7 hw7 _
        have HB7 : Hid (Below W0.heap.size W0 w7) := Lib.hid (HB6.out.trans (Below.mono hw7 HB6.out.size))
        clear hw7 hvs v1 v11 hqA
        go_wp2_with (go_at_call 8; refine (HAL.out w7).mono ?_; rintro e w8 ⟨rfl, b8⟩; have HB8 := Lib.hid (HB7.out.trans (b8.mono HB7.out.size)); clear b8)
        go_ret
        exact ⟨rfl, HB0.out.trans (HB8.out.mono HB0.out.size)⟩
      · rw [hr] at HRI HRA
        obtain ⟨qx, qt, nb, er, sg, hsa, hsr⟩ := HBOTH hr
        obtain ⟨hla, hlr⟩ := HLB hr
        obtain ⟨QL, HQd⟩ : ∃ K, Hid (K = PurseV I S k h qx qt st) := ⟨_, Lib.hid rfl⟩
        obtain ⟨CL, HCd⟩ : ∃ K, Hid (K = PurseV I S k h nt nt st) := ⟨_, Lib.hid rfl⟩
        have HSA := Lib.hid hsa
        have HSR := Lib.hid hsr
        have HLA := Lib.hid hla
        have HLR := Lib.hid hlr
        have HPQ := Lib.hid (fun w' => plain06_any I S k h qx qt st w' hI hS)
        have HPC := Lib.hid (fun w' => plain06_any I S k h nt nt st w' hI hS)
        have HQQ : Hid (∀ W, (Op.equalIn 10000 33 (.agg QL.toArray) (.agg QL.toArray)).run Tryz.prog W = .ok true W) := Lib.hid (fun W => by rw [HQd.out]; exact eq_rpurse I S k h qx qt st hI hS W)
        have HQC : Hid (∀ W, (Op.equalIn 10000 33 (.agg CL.toArray) (.agg CL.toArray)).run Tryz.prog W = .ok true W) := Lib.hid (fun W => by rw [HCd.out]; exact eq_rpurse I S k h nt nt st hI hS W)
        have IQ : Hid ((Tryz.prog.info? 27).map (·.size) = some QL.toArray.size) := Lib.hid (by rw [HQd.out, info_purse, List.size_toArray, PurseV_length _ _ _ _ _ _ _ hI hS])
        have IQR : Hid ((Tryz.prog.info? 33).map (·.size) = some QL.toArray.size) := Lib.hid (by rw [HQd.out, info_purseR, List.size_toArray, PurseV_length _ _ _ _ _ _ _ hI hS])
        have IQl : Hid ((Tryz.prog.info? 27).map (·.size) = some QL.length) := Lib.hid (by rw [HQd.out, info_purse, PurseV_length _ _ _ _ _ _ _ hI hS])
        have IQRl : Hid ((Tryz.prog.info? 33).map (·.size) = some QL.length) := Lib.hid (by rw [HQd.out, info_purseR, PurseV_length _ _ _ _ _ _ _ hI hS])
        have SQ : Hid (QL.toArray.size = 53) := Lib.hid (by rw [HQd.out, List.size_toArray, PurseV_length _ _ _ _ _ _ _ hI hS])
        have OQ : Hid (QL.toArray.all (·.oneCell') = true) := Lib.hid (by rw [HQd.out]; exact PurseV_one _ _ _ _ _ _ _)
        rw [← HQd.out] at HSA HSR HPQ
        rw [← HCd.out] at HPC HCA HCR
        generalize leavesV k h - nx = lf at *
        clear hsa hsr hla hlr hr hI hS hk hI' hS' HBOTH HLB
        go_enter Tryz.func4, Tryz.ntmps4
        go_upto_region 1 with (fail)
        rw [← HW0.out]
        go_upto_region 4 with (first
          | (refine wpList_load_mid rfl 25 _ rfl w.heap.size 0 (by rfl) (TreeV I S k h) _ (HRT.out) Tryz.underlying25 rfl ITL.out ?_)
          | (refine wpList_load_mid rfl 25 _ rfl w.heap.size 0 (by rfl) (TreeV I S k h) _ (HTT.out _ HB1.out) Tryz.underlying25 rfl ITL.out ?_)
          | (go_at_call 5; refine (HLO.out W0).mono ?_; rintro e w1 ⟨rfl, b1⟩; have HB1 := Lib.hid b1; clear b1)
          | (go_at_call 11; refine (HNA.out w1).mono ?_; rintro e w2 ⟨rfl, b2⟩; have HB2 := Lib.hid (HB1.out.trans (b2.mono HB1.out.size)); clear b2)
          | ((with_reducible refine at_store 27 _ _ rfl ?_); refine wpList_store_new rfl 27 _ _ rfl AL.toArray rfl rfl 27 _ IA.out (by rw [SA.out]; rfl) OA.out ?_))
        obtain ⟨xb, Hxb⟩ : ∃ b, Hid (b = w2.heap.size) := ⟨_, Lib.hid rfl⟩
        obtain ⟨WX, HWX, HBX, HRX⟩ : ∃ W, Hid (W = w2.alloc (.cells AL.toArray 27)) ∧ Hid (Below W0.heap.size W0 W) ∧ Hid (W.heap[xb]? = some (.cells AL.toArray 27 (0, 0))) := ⟨_, Lib.hid rfl, Lib.hid (HB2.out.alloc HB2.out.size _), Lib.hid (by rw [Hxb.out]; exact heap_alloc_new _ _)⟩
        rw [← HWX.out, ← Hxb.out]
        have hpart := HPART.out
        go_upto_region 5 with (first
          | ((with_reducible refine at_load 27 _ rfl ?_); first | refine wpList_load_row rfl 27 _ rfl _ rfl _ KL.toArray (0, 0) _ (HTB.out _ HBX.out).out Tryz.underlying27 rfl IK.out ?_)
          | (go_at_call 7; (with_reducible refine (HPL.out WX).mono ?_); rintro e w3 ⟨rfl, b3⟩; have HB3 := Lib.hid (HBX.out.trans (b3.mono HBX.out.size)); have HRX3 := Lib.hid ((b3.block _ (Array.getElem?_eq_some_iff.1 HRX.out).1).trans HRX.out); clear b3)
          | (go_at_call 12; refine (HNR.out w3).mono ?_; rintro e w4 ⟨rfl, b4⟩; have HB4 := Lib.hid (HB3.out.trans (b4.mono HB3.out.size)); have HRX4 := Lib.hid ((b4.block _ (Array.getElem?_eq_some_iff.1 HRX3.out).1).trans HRX3.out); clear b4)
          | ((with_reducible refine at_store 33 _ _ rfl ?_); refine wpList_store_new rfl 33 _ _ rfl AL.toArray rfl rfl 33 _ IAR.out (by rw [SA.out]; rfl) OA.out ?_))
        clear hpart
        obtain ⟨yb, Hyb⟩ : ∃ b, Hid (b = w4.heap.size) := ⟨_, Lib.hid rfl⟩
        obtain ⟨WY, HWY, HBY, HRXY, HRY⟩ : ∃ W, Hid (W = w4.alloc (.cells AL.toArray 33)) ∧ Hid (Below W0.heap.size W0 W) ∧ Hid (W.heap[xb]? = some (.cells AL.toArray 27 (0, 0))) ∧ Hid (W.heap[yb]? = some (.cells AL.toArray 33 (0, 0))) := ⟨_, Lib.hid rfl, Lib.hid (HB4.out.alloc HB4.out.size _), Lib.hid ((heap_alloc_old _ _ (Array.getElem?_eq_some_iff.1 HRX4.out).1).trans HRX4.out), Lib.hid (by rw [Hyb.out]; exact heap_alloc_new _ _)⟩
        rw [← HWY.out, ← Hyb.out]
        have HROWY : Hid (∀ w', Below WY.heap.size WY w' → Hid (w'.heap[xb]? = some (.cells AL.toArray 27 (0, 0))) ∧ Hid (w'.heap[yb]? = some (.cells AL.toArray 33 (0, 0))) ∧ Hid (Below W0.heap.size W0 w')) := Lib.hid (fun w' hb => ⟨Lib.hid ((hb.block _ (Array.getElem?_eq_some_iff.1 HRXY.out).1).trans HRXY.out), Lib.hid ((hb.block _ (Array.getElem?_eq_some_iff.1 HRY.out).1).trans HRY.out), Lib.hid (HBY.out.trans (hb.mono HBY.out.size))⟩)
        go_upto_region 6 with (first
          | ((with_reducible refine at_load 27 _ rfl ?_); first | refine wpList_load_row rfl 27 _ rfl _ rfl _ KL.toArray (0, 0) _ (HTB.out _ HBY.out).out Tryz.underlying27 rfl IK.out ?_)
          | (go_at_call 7; (with_reducible refine (HPL.out WY).mono ?_); rintro e w5 ⟨rfl, b5⟩; have HB5 := Lib.hid (HBY.out.trans (b5.mono HBY.out.size)); have HC5 := Lib.hid b5; clear b5)
          | (go_at_call 6; refine (HRI.out w5).mono ?_; rintro e w6 ⟨rfl, b6⟩; have HB6 := Lib.hid (HB5.out.trans (b6.mono HB5.out.size)); have HC6 := Lib.hid (HC5.out.trans (b6.mono HC5.out.size)); clear b6))
        have hqA := HQA.out
        try simp only [Act.put]
        refine Wild.region_b (fun k => match k with | 1 => some (.fix (.agg AL.toArray)) | 11 => some (.fix (.bool true)) | _ => none) (fun _ => []) rfl (by kernel_rfl) (fun vs hvs => ?_)
        have v1 : vs 1 = .agg AL.toArray := hvs 1 _ rfl
        have v11 : vs 11 = .bool true := hvs 11 _ rfl
        refine Wild.walk_load 27 _ _ _ AL _ rfl (by rfl) rfl rfl (fun w' hw => rangeAt_row (HROWY.out w' (HC6.out.trans (Below.mono hw.1 HC6.out.size))).1.out) Tryz.underlying27 rfl IALl.out ?_
        simp only [Act.put, List.setIfInBounds_toArray, List.set_cons_zero, List.set_cons_succ]
        refine Wild.walk_wild _ rfl (by rfl) (fun w' hw K hK => ?_) ?_
        · go_simp
          go_at_call 7
          refine (HPA.out w').mono ?_
          rintro e w'' ⟨rfl, hb⟩
          exact hK.out _ _ (hw.1.trans (hb.mono hw.1.size)) hb rfl trivial
        rw [v1]
        simp only [Act.put, List.setIfInBounds_toArray, List.set_cons_zero, List.set_cons_succ]
        refine Wild.walk_load 33 _ _ _ AL _ rfl (by rfl) rfl rfl (fun w' hw => rangeAt_row (HROWY.out w' (HC6.out.trans (Below.mono hw.1 HC6.out.size))).2.1.out) Tryz.underlying33 rfl IARl.out ?_
        simp only [Act.put, List.setIfInBounds_toArray, List.set_cons_zero, List.set_cons_succ]
        refine Wild.walk_simple rfl (by rfl) (by rfl) (fun K hK => ?_); go_big_quiet_op; first | (refine hK _ ?_; clear hK K) | (refine ⟨_, fun _ _ => rfl, hK _ ?_⟩; clear hK K)
        refine Wild.walk_simple rfl (by rfl) (by rfl) (fun K hK => ?_); go_big_quiet_op; first | (refine hK _ ?_; clear hK K) | (refine ⟨_, fun _ _ => rfl, hK _ ?_⟩; clear hK K)
        refine Wild.walk_simple rfl (by rfl) (by rfl) (fun K hK => ?_); go_big_quiet_op; first | (refine hK _ ?_; clear hK K) | (refine ⟨_, fun _ _ => rfl, hK _ ?_⟩; clear hK K)
        refine Wild.walk_simple rfl (by rfl) (by rfl) (fun K hK => ?_); go_big_quiet_op; first | (refine hK _ ?_; clear hK K) | (refine ⟨_, fun _ _ => rfl, hK _ ?_⟩; clear hK K)
        refine Wild.walk_simple rfl (by rfl) (by rfl) (fun K hK => ?_); go_big_quiet_op; first | (refine hK _ ?_; clear hK K) | (refine ⟨_, fun _ _ => rfl, hK _ ?_⟩; clear hK K)
        refine Wild.walk_simple rfl (by rfl) (by rfl) (fun K hK => ?_); go_big_quiet_op; first | (refine hK _ ?_; clear hK K) | (refine ⟨_, fun _ _ => rfl, hK _ ?_⟩; clear hK K)
        refine Wild.walk_simple rfl (by rfl) (by rfl) (fun K hK => ?_); go_big_quiet_op; first | (refine hK _ ?_; clear hK K) | (refine ⟨_, fun _ _ => rfl, hK _ ?_⟩; clear hK K)
        refine Wild.walk_load 27 _ _ _ KL _ rfl (by rfl) rfl rfl (fun w' hw => rangeAt_row (HTB.out w' (HROWY.out w' (HC6.out.trans (Below.mono hw.1 HC6.out.size))).2.2.out).out) Tryz.underlying27 rfl IKL.out ?_
        simp only [Act.put, List.setIfInBounds_toArray, List.set_cons_zero, List.set_cons_succ]
        refine Wild.walk_wild _ rfl (by rfl) (fun w' hw K hK => ?_) ?_
        · go_simp
          go_at_call 13
          refine (HRA.out w').mono ?_
          rintro e w'' ⟨rfl, hb⟩
          exact hK.out _ _ (hw.1.trans (hb.mono hw.1.size)) hb rfl trivial
        rw [v11]
        simp only [Act.put, List.setIfInBounds_toArray, List.set_cons_zero, List.set_cons_succ]
        refine Wild.walk_simple rfl (by rfl) (by rfl) (fun K hK => ?_); go_big_quiet_op; first | (refine hK _ ?_; clear hK K) | (refine ⟨_, fun _ _ => rfl, hK _ ?_⟩; clear hK K)
        refine Wild.walk_simple rfl (by rfl) (by rfl) (fun K hK => ?_); go_big_quiet_op; first | (refine hK _ ?_; clear hK K) | (refine ⟨_, fun _ _ => rfl, hK _ ?_⟩; clear hK K)
        refine Wild.walk_simple rfl (by rfl) (by rfl) (fun K hK => ?_); go_big_quiet_op; first | (refine hK _ ?_; clear hK K) | (refine ⟨_, fun _ _ => rfl, hK _ ?_⟩; clear hK K)
        refine Wild.walk_nil ?_
        intro w7 hw7 _
        have HB7 : Hid (Below W0.heap.size W0 w7) := Lib.hid (HB6.out.trans (Below.mono hw7 HB6.out.size))
        clear hw7 hvs v1 v11 hqA
        go_upto_region 11 with (first
          | ((with_reducible refine at_load 27 _ rfl ?_); first | refine wpList_load_row rfl 27 _ rfl _ rfl _ KL.toArray (0, 0) _ (HTB.out _ HB7.out).out Tryz.underlying27 rfl IK.out ?_)
          | (go_at_call 14; refine (HSA.out _ w7 (HT0.out.later HB7.out)).mono ?_; rintro e w8 ⟨sv, rfl, s8, b8⟩; have HS8 := Lib.hid s8; have HB8 := Lib.hid (HB7.out.trans (b8.mono HB7.out.size)); clear s8 b8)
          | ((with_reducible refine at_store 27 _ _ rfl ?_); refine wpList_store_new rfl 27 _ _ rfl QL.toArray rfl rfl 27 _ IQ.out (by rw [SQ.out]; rfl) OQ.out ?_))
        obtain ⟨ab, Hab⟩ : ∃ b, Hid (b = w8.heap.size) := ⟨_, Lib.hid rfl⟩
        obtain ⟨WA, HWA, HBA, HRAW, HSA8⟩ : ∃ W, Hid (W = w8.alloc (.cells QL.toArray 27)) ∧ Hid (Below W0.heap.size W0 W) ∧ Hid (W.heap[ab]? = some (.cells QL.toArray 27 (0, 0))) ∧ Hid (Sl W sv sg) := ⟨_, Lib.hid rfl, Lib.hid (HB8.out.alloc HB8.out.size _), Lib.hid (by rw [Hab.out]; exact heap_alloc_new _ _), Lib.hid (HS8.out.later ((Below.refl _ _).alloc (Nat.le_refl _) _))⟩
        rw [← HWA.out, ← Hab.out]
        go_upto_region 12 with (first
          | ((with_reducible refine at_load 27 _ rfl ?_); first | refine wpList_load_row rfl 27 _ rfl _ rfl _ KL.toArray (0, 0) _ (HTB.out _ HBA.out).out Tryz.underlying27 rfl IK.out ?_)
          | (go_at_call 7; (with_reducible refine (HPL.out WA).mono ?_); rintro e w9 ⟨rfl, b9⟩; have HB9 := Lib.hid (HBA.out.trans (b9.mono HBA.out.size)); have HC9 := Lib.hid b9; clear b9)
          | (go_at_call 15; refine (HSR.out _ w9 (HT0.out.later HB9.out)).mono ?_; rintro e wA ⟨tv', rfl, sA, bA⟩; have HTA := Lib.hid sA; have HBA2 := Lib.hid (HB9.out.trans (bA.mono HB9.out.size)); have HCA2 := Lib.hid (HC9.out.trans (bA.mono HC9.out.size)); clear sA bA)
          | ((with_reducible refine at_store 33 _ _ rfl ?_); refine wpList_store_new rfl 33 _ _ rfl QL.toArray rfl rfl 33 _ IQR.out (by rw [SQ.out]; rfl) OQ.out ?_))
        obtain ⟨bb, Hbb⟩ : ∃ b, Hid (b = wA.heap.size) := ⟨_, Lib.hid rfl⟩
        obtain ⟨WB, HWB, HBB, HRAB, HRBB, HSB, HTB2⟩ : ∃ W, Hid (W = wA.alloc (.cells QL.toArray 33)) ∧ Hid (Below W0.heap.size W0 W) ∧ Hid (W.heap[ab]? = some (.cells QL.toArray 27 (0, 0))) ∧ Hid (W.heap[bb]? = some (.cells QL.toArray 33 (0, 0))) ∧ Hid (Sl W sv sg) ∧ Hid (Sl W tv' sg) := by
          have hb : Below WA.heap.size WA (wA.alloc (.cells QL.toArray 33)) := HCA2.out.alloc HCA2.out.size _
          exact ⟨_, Lib.hid rfl, Lib.hid (HBA2.out.alloc HBA2.out.size _), Lib.hid ((hb.block _ (Array.getElem?_eq_some_iff.1 HRAW.out).1).trans HRAW.out), Lib.hid (by rw [Hbb.out]; exact heap_alloc_new _ _), Lib.hid (HSA8.out.later hb), Lib.hid (HTA.out.later ((Below.refl _ _).alloc (Nat.le_refl _) _))⟩
        rw [← HWB.out, ← Hbb.out]
        have hqQ := HQQ.out
        have hqC := HQC.out
        try simp only [Act.put]
        refine Wild.region_b (fun k => match k with | 0 => some (.fix (.bool true)) | 3 => some (.fix (.agg QL.toArray)) | 26 => some (.fix (.agg CL.toArray)) | 27 => some (.fix (.agg CL.toArray)) | 29 => some (.fix (.agg KL.toArray)) | 30 => some (.fix (.agg CL.toArray)) | 35 => some (.fix (.int .i64 lf)) | 37 => some (.fix (.agg KL.toArray)) | 38 => some (.fix (.int .i64 lf)) | _ => none) (fun _ => []) rfl (by kernel_rfl) (fun vs hvs => ?_)
        have v0 : vs 0 = .bool true := hvs 0 _ rfl
        have v3 : vs 3 = .agg QL.toArray := hvs 3 _ rfl
        have v26 : vs 26 = .agg CL.toArray := hvs 26 _ rfl
        have v27 : vs 27 = .agg CL.toArray := hvs 27 _ rfl
        have v29 : vs 29 = .agg KL.toArray := hvs 29 _ rfl
        have v30 : vs 30 = .agg CL.toArray := hvs 30 _ rfl
        have v35 : vs 35 = .int .i64 lf := hvs 35 _ rfl
        have v37 : vs 37 = .agg KL.toArray := hvs 37 _ rfl
        have v38 : vs 38 = .int .i64 lf := hvs 38 _ rfl
        refine Wild.walk_wild _ rfl (by rfl) (fun w' hw K hK => ?_) ?_
        · go_simp
          go_at_call 8
          refine (HAL.out w').mono ?_
          rintro e w'' ⟨rfl, hb⟩
          exact hK.out _ _ (hw.1.trans (hb.mono hw.1.size)) hb rfl trivial
        rw [v0]
        simp only [Act.put, List.setIfInBounds_toArray, List.set_cons_zero, List.set_cons_succ]
        refine Wild.walk_simple rfl (by rfl) (by rfl) (fun K hK => ?_); go_big_quiet_op; first | (refine hK _ ?_; clear hK K) | (refine ⟨_, fun _ _ => rfl, hK _ ?_⟩; clear hK K)
        refine Wild.walk_load 27 _ _ _ QL _ rfl (by rfl) rfl rfl (fun w' hw => rangeAt_blw (rangeAt_row HRAB.out) hw.1) Tryz.underlying27 rfl IQl.out ?_
        simp only [Act.put, List.setIfInBounds_toArray, List.set_cons_zero, List.set_cons_succ]
        refine Wild.walk_wild _ rfl (by rfl) (fun w' hw K hK => ?_) ?_
        · go_simp
          go_at_call 7
          refine (HPQ.out w').mono ?_
          rintro e w'' ⟨rfl, hb⟩
          exact hK.out _ _ (hw.1.trans (hb.mono hw.1.size)) hb rfl trivial
        rw [v3]
        simp only [Act.put, List.setIfInBounds_toArray, List.set_cons_zero, List.set_cons_succ]
        refine Wild.walk_load 33 _ _ _ QL _ rfl (by rfl) rfl rfl (fun w' hw => rangeAt_blw (rangeAt_row HRBB.out) hw.1) Tryz.underlying33 rfl IQRl.out ?_
        simp only [Act.put, List.setIfInBounds_toArray, List.set_cons_zero, List.set_cons_succ]
        refine Wild.walk_simple rfl (by rfl) (by rfl) (fun K hK => ?_); go_big_quiet_op; first | (refine hK _ ?_; clear hK K) | (refine ⟨_, fun _ _ => rfl, hK _ ?_⟩; clear hK K)
        refine Wild.walk_simple rfl (by rfl) (by rfl) (fun K hK => ?_); go_big_quiet_op; first | (refine hK _ ?_; clear hK K) | (refine ⟨_, fun _ _ => rfl, hK _ ?_⟩; clear hK K)
        refine Wild.walk_simple rfl (by rfl) (by rfl) (fun K hK => ?_); go_big_quiet_op; first | (refine hK _ ?_; clear hK K) | (refine ⟨_, fun _ _ => rfl, hK _ ?_⟩; clear hK K)
        refine Wild.walk_simple rfl (by rfl) (by rfl) (fun K hK => ?_); go_big_quiet_op; first | (refine hK _ ?_; clear hK K) | (refine ⟨_, fun _ _ => rfl, hK _ ?_⟩; clear hK K)
        refine Wild.walk_run (.string ⟨sg.toArray⟩) rfl (by rfl) (fun w' hw => ?_) ?_
        · have h : Sl w' sv sg := HSB.out.later hw.1
          have := h.conv
          go_simp
        simp only [Act.put, List.setIfInBounds_toArray, List.set_cons_zero, List.set_cons_succ]
        refine Wild.walk_simple rfl (by rfl) (by rfl) (fun K hK => ?_); go_big_quiet_op; first | (refine hK _ ?_; clear hK K) | (refine ⟨_, fun _ _ => rfl, hK _ ?_⟩; clear hK K)
        refine Wild.walk_run (.string ⟨sg.toArray⟩) rfl (by rfl) (fun w' hw => ?_) ?_
        · have h : Sl w' tv' sg := HTB2.out.later hw.1
          have := h.conv
          go_simp
        simp only [Act.put, List.setIfInBounds_toArray, List.set_cons_zero, List.set_cons_succ]
        refine Wild.walk_simple rfl (by rfl) (by rfl) (fun K hK => ?_); go_big_quiet_op; first | (refine hK _ ?_; clear hK K) | (refine ⟨_, fun _ _ => rfl, hK _ ?_⟩; clear hK K)
        refine Wild.walk_simple rfl (by rfl) (by rfl) (fun K hK => ?_); go_big_quiet_op; first | (refine hK _ ?_; clear hK K) | (refine ⟨_, fun _ _ => rfl, hK _ ?_⟩; clear hK K)
        refine Wild.walk_simple rfl (by rfl) (by rfl) (fun K hK => ?_); go_big_quiet_op; first | (refine hK _ ?_; clear hK K) | (refine ⟨_, fun _ _ => rfl, hK _ ?_⟩; clear hK K)
        refine Wild.walk_simple rfl (by rfl) (by rfl) (fun K hK => ?_); go_big_quiet_op; first | (refine hK _ ?_; clear hK K) | (refine ⟨_, fun _ _ => rfl, hK _ ?_⟩; clear hK K)
        refine Wild.walk_simple rfl (by rfl) (by rfl) (fun K hK => ?_); go_big_quiet_op; first | (refine hK _ ?_; clear hK K) | (refine ⟨_, fun _ _ => rfl, hK _ ?_⟩; clear hK K)
        refine Wild.walk_simple rfl (by rfl) (by rfl) (fun K hK => ?_); go_big_quiet_op; first | (refine hK _ ?_; clear hK K) | (refine ⟨_, fun _ _ => rfl, hK _ ?_⟩; clear hK K)
        refine Wild.walk_simple rfl (by rfl) (by rfl) (fun K hK => ?_); go_big_quiet_op; first | (refine hK _ ?_; clear hK K) | (refine ⟨_, fun _ _ => rfl, hK _ ?_⟩; clear hK K)
        refine Wild.walk_simple rfl (by rfl) (by rfl) (fun K hK => ?_); go_big_quiet_op; first | (refine hK _ ?_; clear hK K) | (refine ⟨_, fun _ _ => rfl, hK _ ?_⟩; clear hK K)
        refine Wild.walk_simple rfl (by rfl) (by rfl) (fun K hK => ?_); go_big_quiet_op; first | (refine hK _ ?_; clear hK K) | (refine ⟨_, fun _ _ => rfl, hK _ ?_⟩; clear hK K)
        refine Wild.walk_simple rfl (by rfl) (by rfl) (fun K hK => ?_); go_big_quiet_op; first | (refine hK _ ?_; clear hK K) | (refine ⟨_, fun _ _ => rfl, hK _ ?_⟩; clear hK K)
        refine Wild.walk_simple rfl (by rfl) (by rfl) (fun K hK => ?_); go_big_quiet_op; first | (refine hK _ ?_; clear hK K) | (refine ⟨_, fun _ _ => rfl, hK _ ?_⟩; clear hK K)
        refine Wild.walk_simple rfl (by rfl) (by rfl) (fun K hK => ?_); go_big_quiet_op; first | (refine hK _ ?_; clear hK K) | (refine ⟨_, fun _ _ => rfl, hK _ ?_⟩; clear hK K)
        refine Wild.walk_simple rfl (by rfl) (by rfl) (fun K hK => ?_); go_big_quiet_op; first | (refine hK _ ?_; clear hK K) | (refine ⟨_, fun _ _ => rfl, hK _ ?_⟩; clear hK K)
        refine Wild.walk_load 27 _ _ _ KL _ rfl (by rfl) rfl rfl (fun w' hw => rangeAt_row (HTB.out w' (HBB.out.trans (Below.mono hw.1 HBB.out.size))).out) Tryz.underlying27 rfl IKL.out ?_
        simp only [Act.put, List.setIfInBounds_toArray, List.set_cons_zero, List.set_cons_succ]
        refine Wild.walk_wild _ rfl (by rfl) (fun w' hw K hK => ?_) ?_
        · go_simp
          go_at_call 16
          refine (HCA.out w').mono ?_
          rintro e w'' ⟨rfl, hb⟩
          exact hK.out _ _ (hw.1.trans (hb.mono hw.1.size)) hb rfl trivial
        rw [v26]
        simp only [Act.put, List.setIfInBounds_toArray, List.set_cons_zero, List.set_cons_succ]
        refine Wild.walk_wild _ rfl (by rfl) (fun w' hw K hK => ?_) ?_
        · go_simp
          go_at_call 7
          refine (HPC.out w').mono ?_
          rintro e w'' ⟨rfl, hb⟩
          exact hK.out _ _ (hw.1.trans (hb.mono hw.1.size)) hb rfl trivial
        rw [v27]
        simp only [Act.put, List.setIfInBounds_toArray, List.set_cons_zero, List.set_cons_succ]
        refine Wild.walk_load 27 _ _ _ KL _ rfl (by rfl) rfl rfl (fun w' hw => rangeAt_row (HTB.out w' (HBB.out.trans (Below.mono hw.1 HBB.out.size))).out) Tryz.underlying27 rfl IKL.out ?_
        simp only [Act.put, List.setIfInBounds_toArray, List.set_cons_zero, List.set_cons_succ]
        refine Wild.walk_wild _ rfl (by rfl) (fun w' hw K hK => ?_) ?_
        · go_simp
          go_at_call 7
          refine (HPL.out w').mono ?_
          rintro e w'' ⟨rfl, hb⟩
          exact hK.out _ _ (hw.1.trans (hb.mono hw.1.size)) hb rfl trivial
        rw [v29]
        simp only [Act.put, List.setIfInBounds_toArray, List.set_cons_zero, List.set_cons_succ]
        refine Wild.walk_wild _ rfl (by rfl) (fun w' hw K hK => ?_) ?_
        · go_simp
          go_at_call 17
          refine (HCR.out w').mono ?_
          rintro e w'' ⟨rfl, hb⟩
          exact hK.out _ _ (hw.1.trans (hb.mono hw.1.size)) hb rfl trivial
        rw [v30]
        simp only [Act.put, List.setIfInBounds_toArray, List.set_cons_zero, List.set_cons_succ]
        refine Wild.walk_simple rfl (by rfl) (by rfl) (fun K hK => ?_); go_big_quiet_op; first | (refine hK _ ?_; clear hK K) | (refine ⟨_, fun _ _ => rfl, hK _ ?_⟩; clear hK K)
        refine Wild.walk_simple rfl (by rfl) (by rfl) (fun K hK => ?_); go_big_quiet_op; first | (refine hK _ ?_; clear hK K) | (refine ⟨_, fun _ _ => rfl, hK _ ?_⟩; clear hK K)
        refine Wild.walk_simple rfl (by rfl) (by rfl) (fun K hK => ?_); go_big_quiet_op; first | (refine hK _ ?_; clear hK K) | (refine ⟨_, fun _ _ => rfl, hK _ ?_⟩; clear hK K)
        refine Wild.walk_load 27 _ _ _ KL _ rfl (by rfl) rfl rfl (fun w' hw => rangeAt_row (HTB.out w' (HBB.out.trans (Below.mono hw.1 HBB.out.size))).out) Tryz.underlying27 rfl IKL.out ?_
        simp only [Act.put, List.setIfInBounds_toArray, List.set_cons_zero, List.set_cons_succ]
        refine Wild.walk_wild _ rfl (by rfl) (fun w' hw K hK => ?_) ?_
        · go_simp
          go_at_call 18
          refine (HLA.out w').mono ?_
          rintro e w'' ⟨rfl, hb⟩
          exact hK.out _ _ (hw.1.trans (hb.mono hw.1.size)) hb rfl trivial
        rw [v35]
        simp only [Act.put, List.setIfInBounds_toArray, List.set_cons_zero, List.set_cons_succ]
        refine Wild.walk_load 27 _ _ _ KL _ rfl (by rfl) rfl rfl (fun w' hw => rangeAt_row (HTB.out w' (HBB.out.trans (Below.mono hw.1 HBB.out.size))).out) Tryz.underlying27 rfl IKL.out ?_
        simp only [Act.put, List.setIfInBounds_toArray, List.set_cons_zero, List.set_cons_succ]
        refine Wild.walk_wild _ rfl (by rfl) (fun w' hw K hK => ?_) ?_
        · go_simp
          go_at_call 7
          refine (HPL.out w').mono ?_
          rintro e w'' ⟨rfl, hb⟩
          exact hK.out _ _ (hw.1.trans (hb.mono hw.1.size)) hb rfl trivial
        rw [v37]
        simp only [Act.put, List.setIfInBounds_toArray, List.set_cons_zero, List.set_cons_succ]
        refine Wild.walk_wild _ rfl (by rfl) (fun w' hw K hK => ?_) ?_
        · go_simp
          go_at_call 19
          refine (HLR.out w').mono ?_
          rintro e w'' ⟨rfl, hb⟩
          exact hK.out _ _ (hw.1.trans (hb.mono hw.1.size)) hb rfl trivial
        rw [v38]
        simp only [Act.put, List.setIfInBounds_toArray, List.set_cons_zero, List.set_cons_succ]
        refine Wild.walk_simple rfl (by rfl) (by rfl) (fun K hK => ?_); go_big_quiet_op; first | (refine hK _ ?_; clear hK K) | (refine ⟨_, fun _ _ => rfl, hK _ ?_⟩; clear hK K)
        refine Wild.walk_simple rfl (by rfl) (by rfl) (fun K hK => ?_); go_big_quiet_op; first | (refine hK _ ?_; clear hK K) | (refine ⟨_, fun _ _ => rfl, hK _ ?_⟩; clear hK K)
        refine Wild.walk_simple rfl (by rfl) (by rfl) (fun K hK => ?_); go_big_quiet_op; first | (refine hK _ ?_; clear hK K) | (refine ⟨_, fun _ _ => rfl, hK _ ?_⟩; clear hK K)
        refine Wild.walk_nil ?_
        intro wZ hwZ _
        have HBZ : Hid (Below W0.heap.size W0 wZ) := Lib.hid (HBB.out.trans (Below.mono hwZ HBB.out.size))
        clear hwZ hvs
        go_wp2_with fail
        go_ret
        exact ⟨rfl, HB0.out.trans (HBZ.out.mono HB0.out.size)⟩
    · have hti : ¬ (text.length : Int) ≤ 1000 := by omega
      clear hI hS hk
      go_enter Tryz.func4, Tryz.ntmps4
      go_upto_region 1 with (fail)
      rw [← HW0.out]
      go_wp2_with (first
        | (refine wpList_load_mid rfl 25 _ rfl w.heap.size 0 (by rfl) (TreeV I S k h) _ HRT.out Tryz.underlying25 rfl ITL.out ?_)
        | (go_at_call 5; refine (HLO.out W0).mono ?_; rintro e w1 ⟨rfl, b1⟩; have HB1 := Lib.hid b1; clear b1)
        | (go_at_call 8; refine (HAL.out w1).mono ?_; rintro e w2 ⟨rfl, b2⟩; have HB2 := Lib.hid (HB1.out.trans (b2.mono HB1.out.size)); clear b2))
      go_ret
      exact ⟨rfl, HB0.out.trans (HB2.out.mono HB0.out.size)⟩
end Go.Proofs.YtcnelahmbfggcaaGreat


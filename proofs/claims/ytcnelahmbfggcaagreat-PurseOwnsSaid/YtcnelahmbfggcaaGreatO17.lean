/- The walks of the document's Owns, New, Left, Crash (chapter 06). -/
import Derived.Test.YtcnelahmbfggcaaGreatG16
import Derived.Test.YtcnelahmbfggcaaGreatG14
namespace Go.Proofs.YtcnelahmbfggcaaGreat
open Go Go.RowKit
set_option maxRecDepth 100000
set_option maxHeartbeats 2000000
attribute [local irreducible] Wild.walk WildF.walk

theorem Owns_ref6 (I S : List UInt8) (k h nx nt st : Int) (tv sv : Value) (text s : List UInt8) (w : World) (hI : I.length = 16) (hS : S.length = 32) (ht : Sl w tv text) (hs : Sl w sv s) (htl : text.length ≤ 1000000) (hsl : s.length ≤ 1000000) (hm : mayT k h = true) :
    Calls Tryz.prog 10 #[.agg (PurseV I S k h nx nt st).toArray, tv, sv] w fun e w' => e = .returned (.bool (verV (pubL I S k h) text s == 0)) ∧ Below w.heap.size w w' := by
  obtain ⟨V, HV, HB, HR⟩ : ∃ V, Hid (V = w.alloc (.cells (PurseV I S k h nx nt st).toArray 33)) ∧ Hid (Below w.heap.size w V) ∧ Hid (V.heap[w.heap.size]? = some (.cells (PurseV I S k h nx nt st).toArray 33 (0, 0))) := ⟨_, Lib.hid rfl, Lib.hid ((Below.refl _ _).alloc (Nat.le_refl _) _), Lib.hid (heap_alloc_new _ _)⟩
  have RT := Lib.hid (purse_T HR.out)
  have ITL : Hid ((Tryz.prog.info? 31).map (·.size) = some (TreeV I S k h).length) := Lib.hid (by rw [info_treeR, TreeV_length _ _ _ _ hI hS])
  have HPB := Lib.hid (fun w' => Public_ref5 I S k h w' hI hS)
  have e1 : errL k h = 0 := by rw [errL, if_pos hm]
  rw [e1] at HPB
  have HVR := Lib.hid (fun pv w' a b c => Verify_ref5 pv tv sv (pubL I S k h) text s w' a b c htl hsl)
  generalize pubL I S k h = Pk at *
  obtain ⟨vv, Hvv⟩ : ∃ vv, Hid (vv = verV Pk text s) := ⟨_, Lib.hid rfl⟩
  rw [← Hvv.out] at HVR ⊢
  have HT := Lib.hid (ht.later HB.out)
  have HS := Lib.hid (hs.later HB.out)
  obtain ⟨ta, tc, rfl⟩ := ht.shape
  obtain ⟨sa, sc, rfl⟩ := hs.shape
  clear ht hs hI hS hm e1
  go_enter Tryz.func10, Tryz.ntmps10
  go_upto_region 1 with (fail)
  rw [← HV.out]
  go_wp2_with (first
    | (refine wpList_load_mid rfl 31 _ rfl w.heap.size 0 (by rfl) (TreeV I S k h) _ RT.out Tryz.underlying31 rfl ITL.out ?_)
    | (go_at_call 23; refine (HPB.out V).mono ?_; rintro e w1 ⟨pv, rfl, s1, b1⟩; have HP1 := Lib.hid s1; have HB1 := Lib.hid b1; clear s1 b1)
    | (go_at_call 24; refine (HVR.out _ w1 HP1.out (HT.out.later HB1.out) (HS.out.later HB1.out)).mono ?_; rintro e w2 ⟨rfl, b2⟩; have HB2 := Lib.hid (HB1.out.trans (b2.mono HB1.out.size)); clear b2))
  go_ret
  exact ⟨rfl, HB.out.trans (HB2.out.mono HB.out.size)⟩
end Go.Proofs.YtcnelahmbfggcaaGreat

/- The walk of the law PurseOwns. -/
namespace Go.Proofs.YtcnelahmbfggcaaGreat
open Go Go.RowKit
set_option maxRecDepth 100000
set_option maxHeartbeats 2000000
attribute [local irreducible] Wild.walk WildF.walk

theorem PurseOwns_main (I S : List UInt8) (k h nx nt st : Int) (tv sv : Value) (text s : List UInt8) (w : World) (hI : I.length = 16) (hS : S.length = 32) (hk : -9223372036854775808 ≤ k ∧ k ≤ 9223372036854775807) (ht : Sl w tv text) (hs : Sl w sv s) :
    Calls Tryz.prog 3 #[.agg (PurseV I S k h nx nt st).toArray, tv, sv] w fun e w' => e = .returned (.bool true) ∧ Below w.heap.size w w' := by
  obtain ⟨W0, HW0, HB0, HS0, HR0⟩ : ∃ V, Hid (V = w.alloc (.cells (PurseV I S k h nx nt st).toArray 27)) ∧ Hid (Below w.heap.size w V) ∧ Hid (V.heap.size = w.heap.size + 1) ∧ Hid (V.heap[w.heap.size]? = some (.cells (PurseV I S k h nx nt st).toArray 27 (0, 0))) := ⟨_, Lib.hid rfl, Lib.hid ((Below.refl _ _).alloc (Nat.le_refl _) _), Lib.hid (by simp), Lib.hid (heap_alloc_new _ _)⟩
  have IK : Hid ((Tryz.prog.info? 27).map (·.size) = some (PurseV I S k h nx nt st).toArray.size) := Lib.hid (by rw [info_purse, List.size_toArray, PurseV_length _ _ _ _ _ _ _ hI hS])
  have ITL : Hid ((Tryz.prog.info? 25).map (·.size) = some (TreeV I S k h).length) := Lib.hid (by rw [info_tree, TreeV_length _ _ _ _ hI hS])
  have HRT := Lib.hid (purse_T HR0.out)
  have HTB : Hid (∀ w', Below W0.heap.size W0 w' → Hid (w'.heap[w.heap.size]? = some (.cells (PurseV I S k h nx nt st).toArray 27 (0, 0)))) := Lib.hid (fun w' hb => Lib.hid ((hb.block _ (by rw [HS0.out]; omega)).trans HR0.out))
  have HLO := Lib.hid (fun w' => low06_any I S k h w' hI hS)
  have HAL := Lib.hid alive06_any
  have HPL := Lib.hid (fun w' => plain06_any I S k h nx nt st w' hI hS)
  have HRI := Lib.hid (fun w' => Right_ref6 I S k h nx nt st w' hI hS)
  have HHI := Lib.hid hI
  have HHS := Lib.hid hS
  have HT0 := Lib.hid (ht.later HB0.out)
  have HS0' := Lib.hid (hs.later HB0.out)
  obtain ⟨ta, tc, rfl⟩ := ht.shape
  obtain ⟨sa, sc, rfl⟩ := hs.shape
  clear ht hs
  cases hlo : lowH h
  · rw [hlo] at HLO
    clear hlo hI hS hk
    go_enter Tryz.func3, Tryz.ntmps3
    go_upto_region 1 with (fail)
    rw [← HW0.out]
    go_wp2_with (first
      | (refine wpList_load_mid rfl 25 _ rfl w.heap.size 0 (by rfl) (TreeV I S k h) _ HRT.out Tryz.underlying25 rfl ITL.out ?_)
      | (go_at_call 5; refine (HLO.out W0).mono ?_; rintro e w1 ⟨rfl, b1⟩; have HB1 := Lib.hid b1; clear b1)
      | (go_at_call 8; refine (HAL.out w1).mono ?_; rintro e w2 ⟨rfl, b2⟩; have HB2 := Lib.hid (HB1.out.trans (b2.mono HB1.out.size)); clear b2))
    go_ret
    exact ⟨rfl, HB0.out.trans (HB2.out.mono HB0.out.size)⟩
  · rw [hlo] at HLO
    clear hlo
    by_cases htl : text.length ≤ 1000
    · have hti : (text.length : Int) ≤ 1000 := by omega
      have hdt : decide ((1000 : Int) < (text.length : Int)) = false := decide_eq_false (by omega)
      by_cases hsl : s.length ≤ 9200
      · have hsi : (s.length : Int) ≤ 9200 := by omega
        have hds : decide ((9200 : Int) < (s.length : Int)) = false := decide_eq_false (by omega)
        cases hr : rightB k h nx nt st
        · rw [hr] at HRI
          clear hr hI hS hk
          go_enter Tryz.func3, Tryz.ntmps3
          go_upto_region 1 with (fail)
          rw [← HW0.out]
          go_wp2_with (first
            | (refine wpList_load_mid rfl 25 _ rfl w.heap.size 0 (by rfl) (TreeV I S k h) _ HRT.out Tryz.underlying25 rfl ITL.out ?_)
            | (go_at_call 5; refine (HLO.out W0).mono ?_; rintro e w1 ⟨rfl, b1⟩; have HB1 := Lib.hid b1; clear b1)
            | ((with_reducible refine at_load 27 _ rfl ?_); first | refine wpList_load_want (by rfl) 27 _ rfl w.heap.size rfl _ (PurseV I S k h nx nt st).toArray (0, 0) _ (HTB.out _ HB1.out).out Tryz.underlying27 rfl IK.out ?_)
            | (go_at_call 7; refine (HPL.out w1).mono ?_; rintro e w2 ⟨rfl, b2⟩; have HB2 := Lib.hid (HB1.out.trans (b2.mono HB1.out.size)); clear b2)
            | (go_at_call 6; refine (HRI.out w2).mono ?_; rintro e w3 ⟨rfl, b3⟩; have HB3 := Lib.hid (HB2.out.trans (b3.mono HB2.out.size)); clear b3)
            | (go_at_call 8; refine (HAL.out w3).mono ?_; rintro e w4 ⟨rfl, b4⟩; have HB4 := Lib.hid (HB3.out.trans (b4.mono HB3.out.size)); clear b4))
          go_ret
          exact ⟨rfl, HB0.out.trans (HB4.out.mono HB0.out.size)⟩
        · rw [hr] at HRI
          have hm := leaves_pos k h ((rightB_iff _ _ _ _ _).1 hr).1
          have HOA := Lib.hid (fun tv sv w' a b => Owns_pur I S k h nx nt st tv sv text s w' hI hS hk a b (by omega) (by omega) hm)
          have HOR := Lib.hid (fun tv sv w' a b => Owns_ref6 I S k h nx nt st tv sv text s w' hI hS a b (by omega) (by omega) hm)
          have IKL : Hid ((Tryz.prog.info? 27).map (·.size) = some (PurseV I S k h nx nt st).length) := Lib.hid (by rw [info_purse, PurseV_length _ _ _ _ _ _ _ hI hS])
          generalize (verV (pubL I S k h) text s == 0) = vb at *
          obtain ⟨KV, HKV⟩ : ∃ K, Hid (K = (PurseV I S k h nx nt st).toArray) := ⟨_, Lib.hid rfl⟩
          rw [← HKV.out] at HOR
          have HPK : Hid (∀ w' : World, Calls Tryz.prog 7 #[.agg (PurseV I S k h nx nt st).toArray] w' fun e w'' => e = .returned (.agg KV) ∧ Below w'.heap.size w' w'') := Lib.hid (fun w' => by rw [HKV.out]; exact HPL.out w')
          clear hr hI hS hk hm
          go_enter Tryz.func3, Tryz.ntmps3
          go_upto_region 1 with (fail)
          rw [← HW0.out]
          go_upto_region 3 with (first
            | (refine wpList_load_mid rfl 25 _ rfl w.heap.size 0 (by rfl) (TreeV I S k h) _ HRT.out Tryz.underlying25 rfl ITL.out ?_)
            | (go_at_call 5; refine (HLO.out W0).mono ?_; rintro e w1 ⟨rfl, b1⟩; have HB1 := Lib.hid b1; clear b1)
            | ((with_reducible refine at_load 27 _ rfl ?_); first | refine wpList_load_want (by rfl) 27 _ rfl w.heap.size rfl _ (PurseV I S k h nx nt st).toArray (0, 0) _ (HTB.out _ HB1.out).out Tryz.underlying27 rfl IK.out ?_)
            | (go_at_call 7; refine (HPL.out w1).mono ?_; rintro e w2 ⟨rfl, b2⟩; have HB2 := Lib.hid (HB1.out.trans (b2.mono HB1.out.size)); clear b2)
            | (go_at_call 6; refine (HRI.out w2).mono ?_; rintro e w3 ⟨rfl, b3⟩; have HB3 := Lib.hid (HB2.out.trans (b3.mono HB2.out.size)); clear b3))
          try simp only [Act.put]
          refine Wild.region_b (fun k => match k with | 0 => some (.fix (.bool true)) | 5 => some (.fix (.bool vb)) | 7 => some (.fix (.agg KV)) | 10 => some (.fix (.bool vb)) | _ => none) (fun _ => []) rfl (by kernel_rfl) (fun vs hvs => ?_)
          have v0 : vs 0 = .bool true := hvs 0 _ rfl
          have v5 : vs 5 = .bool vb := hvs 5 _ rfl
          have v7 : vs 7 = .agg KV := hvs 7 _ rfl
          have v10 : vs 10 = .bool vb := hvs 10 _ rfl
          refine Wild.walk_wild _ rfl (by rfl) (fun w' hw K hK => ?_) ?_
          · go_simp
            go_at_call 8
            refine (HAL.out w').mono ?_
            rintro e w'' ⟨rfl, hb⟩
            exact hK.out _ _ (hw.1.trans (hb.mono hw.1.size)) hb rfl trivial
          rw [v0]
          simp only [Act.put, List.setIfInBounds_toArray, List.set_cons_zero, List.set_cons_succ]
          refine Wild.walk_simple rfl (by rfl) (by rfl) (fun K hK => ?_); go_big_quiet_op; first | (refine hK _ ?_; clear hK K) | (refine ⟨_, fun _ _ => rfl, hK _ ?_⟩; clear hK K)
          refine Wild.walk_load 27 _ _ _ (PurseV I S k h nx nt st) _ rfl (by rfl) rfl rfl (fun w' hw => rangeAt_row (HTB.out w' (HB3.out.trans (Below.mono hw.1 HB3.out.size))).out) Tryz.underlying27 rfl IKL.out ?_
          simp only [Act.put, List.setIfInBounds_toArray, List.set_cons_zero, List.set_cons_succ]
          refine Wild.walk_simple rfl (by rfl) (by rfl) (fun K hK => ?_); go_big_quiet_op; first | (refine hK _ ?_; clear hK K) | (refine ⟨_, fun _ _ => rfl, hK _ ?_⟩; clear hK K)
          refine Wild.walk_simple rfl (by rfl) (by rfl) (fun K hK => ?_); go_big_quiet_op; first | (refine hK _ ?_; clear hK K) | (refine ⟨_, fun _ _ => rfl, hK _ ?_⟩; clear hK K)
          refine Wild.walk_wild _ rfl (by rfl) (fun w' hw K hK => ?_) ?_
          · go_simp
            go_at_call 9
            refine (HOA.out _ _ w' (HT0.out.later (HB3.out.trans (Below.mono hw.1 HB3.out.size))) (HS0'.out.later (HB3.out.trans (Below.mono hw.1 HB3.out.size)))).mono ?_
            rintro e w'' ⟨rfl, hb⟩
            exact hK.out _ _ (hw.1.trans (hb.mono hw.1.size)) hb rfl trivial
          rw [v5]
          simp only [Act.put, List.setIfInBounds_toArray, List.set_cons_zero, List.set_cons_succ]
          refine Wild.walk_load 27 _ _ _ (PurseV I S k h nx nt st) _ rfl (by rfl) rfl rfl (fun w' hw => rangeAt_row (HTB.out w' (HB3.out.trans (Below.mono hw.1 HB3.out.size))).out) Tryz.underlying27 rfl IKL.out ?_
          simp only [Act.put, List.setIfInBounds_toArray, List.set_cons_zero, List.set_cons_succ]
          refine Wild.walk_wild _ rfl (by rfl) (fun w' hw K hK => ?_) ?_
          · go_simp
            go_at_call 7
            refine (HPK.out w').mono ?_
            rintro e w'' ⟨rfl, hb⟩
            exact hK.out _ _ (hw.1.trans (hb.mono hw.1.size)) hb rfl trivial
          rw [v7]
          simp only [Act.put, List.setIfInBounds_toArray, List.set_cons_zero, List.set_cons_succ]
          refine Wild.walk_simple rfl (by rfl) (by rfl) (fun K hK => ?_); go_big_quiet_op; first | (refine hK _ ?_; clear hK K) | (refine ⟨_, fun _ _ => rfl, hK _ ?_⟩; clear hK K)
          refine Wild.walk_simple rfl (by rfl) (by rfl) (fun K hK => ?_); go_big_quiet_op; first | (refine hK _ ?_; clear hK K) | (refine ⟨_, fun _ _ => rfl, hK _ ?_⟩; clear hK K)
          refine Wild.walk_wild _ rfl (by rfl) (fun w' hw K hK => ?_) ?_
          · go_simp
            go_at_call 10
            refine (HOR.out _ _ w' (HT0.out.later (HB3.out.trans (Below.mono hw.1 HB3.out.size))) (HS0'.out.later (HB3.out.trans (Below.mono hw.1 HB3.out.size)))).mono ?_
            rintro e w'' ⟨rfl, hb⟩
            exact hK.out _ _ (hw.1.trans (hb.mono hw.1.size)) hb rfl trivial
          rw [v10]
          simp only [Act.put, List.setIfInBounds_toArray, List.set_cons_zero, List.set_cons_succ]
          refine Wild.walk_simple rfl (by rfl) (by rfl) (fun K hK => ?_); go_big_quiet_op; first | (refine hK _ ?_; clear hK K) | (refine ⟨_, fun _ _ => rfl, hK _ ?_⟩; clear hK K)
          refine Wild.walk_simple rfl (by rfl) (by rfl) (fun K hK => ?_); go_big_quiet_op; first | (refine hK _ ?_; clear hK K) | (refine ⟨_, fun _ _ => rfl, hK _ ?_⟩; clear hK K)
          refine Wild.walk_simple rfl (by rfl) (by rfl) (fun K hK => ?_); go_big_quiet_op; first | (refine hK _ ?_; clear hK K) | (refine ⟨_, fun _ _ => rfl, hK _ ?_⟩; clear hK K)
          refine Wild.walk_nil ?_
          intro wX hwX _
          have HBX : Hid (Below W0.heap.size W0 wX) := Lib.hid (HB3.out.trans (Below.mono hwX HB3.out.size))
          clear hwX hvs
          go_wp2_with fail
          go_ret
          exact ⟨by cases vb <;> rfl, HB0.out.trans (HBX.out.mono HB0.out.size)⟩
      · have hsi : ¬ (s.length : Int) ≤ 9200 := by omega
        clear hI hS hk
        go_enter Tryz.func3, Tryz.ntmps3
        go_upto_region 1 with (fail)
        rw [← HW0.out]
        go_wp2_with (first
          | (refine wpList_load_mid rfl 25 _ rfl w.heap.size 0 (by rfl) (TreeV I S k h) _ HRT.out Tryz.underlying25 rfl ITL.out ?_)
          | (go_at_call 5; refine (HLO.out W0).mono ?_; rintro e w1 ⟨rfl, b1⟩; have HB1 := Lib.hid b1; clear b1)
          | (go_at_call 8; refine (HAL.out w1).mono ?_; rintro e w2 ⟨rfl, b2⟩; have HB2 := Lib.hid (HB1.out.trans (b2.mono HB1.out.size)); clear b2))
        go_ret
        exact ⟨rfl, HB0.out.trans (HB2.out.mono HB0.out.size)⟩
    · have hti : ¬ (text.length : Int) ≤ 1000 := by omega
      clear hI hS hk
      go_enter Tryz.func3, Tryz.ntmps3
      go_upto_region 1 with (fail)
      rw [← HW0.out]
      go_wp2_with (first
        | (refine wpList_load_mid rfl 25 _ rfl w.heap.size 0 (by rfl) (TreeV I S k h) _ HRT.out Tryz.underlying25 rfl ITL.out ?_)
        | (go_at_call 5; refine (HLO.out W0).mono ?_; rintro e w1 ⟨rfl, b1⟩; have HB1 := Lib.hid b1; clear b1)
        | (go_at_call 8; refine (HAL.out w1).mono ?_; rintro e w2 ⟨rfl, b2⟩; have HB2 := Lib.hid (HB1.out.trans (b2.mono HB1.out.size)); clear b2))
      go_ret
      exact ⟨rfl, HB0.out.trans (HB2.out.mono HB0.out.size)⟩
end Go.Proofs.YtcnelahmbfggcaaGreat


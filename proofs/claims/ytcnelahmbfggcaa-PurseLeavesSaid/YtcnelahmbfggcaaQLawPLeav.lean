/- The walk of the law PurseLeaves. -/
import Derived.Test.YtcnelahmbfggcaaG14
namespace Go.Proofs.Ytcnelahmbfggcaa
open Go Go.RowKit
set_option maxRecDepth 100000
set_option maxHeartbeats 2000000
attribute [local irreducible] Wild.walk WildF.walk

theorem Sign_note' (I S : List UInt8) (k : Int) (h Q : Nat) (nt st : Int) (tv : Value) (text : List UInt8) (w : World) (hI : I.length = 16) (hS : S.length = 32) (hk : -9223372036854775808 ≤ k ∧ k ≤ 9223372036854775807) (hm : mayT k h = true) (hQ : Q < 2 ^ h) (hst : 1 ≤ st ∧ st ≤ 8) (hn : nt = (Q : Int)) (ht : Sl w tv text) (htl : text.length ≤ 1000000) :
    Calls Try.prog 11 #[.agg (PurseV I S k h Q nt st).toArray, tv] w fun e w' => ∃ v, e = .returned (.tuple #[.agg (PurseV I S k h (Q + 1 : Nat) (min ((Q : Int) + st) ((2 ^ h : Nat) : Int)) st).toArray, v, .bool true, .int .i64 0]) ∧ Sl w' v (lsigN I S k h Q text) ∧ Below w.heap.size w w' := by
  subst hn
  exact Sign_note I S k h Q st tv text w hI hS hk hm hQ hst ht htl
theorem PurseLeaves_main (I S : List UInt8) (k h nx nt st : Int) (tv : Value) (text : List UInt8) (w : World) (hI : I.length = 16) (hS : S.length = 32) (hk : -9223372036854775808 ≤ k ∧ k ≤ 9223372036854775807) (ht : Sl w tv text) :
    Calls Try.prog 4 #[.agg (PurseV I S k h nx nt st).toArray, tv] w fun e w' => e = .returned (.bool true) ∧ Below w.heap.size w w' := by
  obtain ⟨W0, HW0, HB0, HS0, HR0⟩ : ∃ V, Hid (V = w.alloc (.cells (PurseV I S k h nx nt st).toArray 30)) ∧ Hid (Below w.heap.size w V) ∧ Hid (V.heap.size = w.heap.size + 1) ∧ Hid (V.heap[w.heap.size]? = some (.cells (PurseV I S k h nx nt st).toArray 30 (0, 0))) := ⟨_, Lib.hid rfl, Lib.hid ((Below.refl _ _).alloc (Nat.le_refl _) _), Lib.hid (by simp), Lib.hid (heap_alloc_new _ _)⟩
  have IK : Hid ((Try.prog.info? 30).map (·.size) = some (PurseV I S k h nx nt st).toArray.size) := Lib.hid (by rw [info_purse, List.size_toArray, PurseV_length _ _ _ _ _ _ _ hI hS])
  have ITL : Hid ((Try.prog.info? 25).map (·.size) = some (TreeV I S k h).length) := Lib.hid (by rw [info_tree, TreeV_length _ _ _ _ hI hS])
  have HRT := Lib.hid (purse_T HR0.out)
  have HTB : Hid (∀ w', Below W0.heap.size W0 w' → Hid (w'.heap[w.heap.size]? = some (.cells (PurseV I S k h nx nt st).toArray 30 (0, 0)))) := Lib.hid (fun w' hb => Lib.hid ((hb.block _ (by rw [HS0.out]; omega)).trans HR0.out))
  have HLO := Lib.hid (fun w' => low06_any I S k h w' hI hS)
  have HAL := Lib.hid alive06_any
  have HPL := Lib.hid (fun w' => plain06_any I S k h nx nt st w' hI hS)
  have HRI := Lib.hid (fun w' => Right_ref6 I S k h nx nt st w' hI hS)
  have HHI := Lib.hid hI
  have HHS := Lib.hid hS
  have HT0 := Lib.hid (ht.later HB0.out)
  obtain ⟨ta, tc, rfl⟩ := ht.shape
  clear ht
  cases hlo : lowH h
  · rw [hlo] at HLO
    clear hlo hI hS hk
    go_enter Try.func4, Try.ntmps4
    go_upto_region 1 with (fail)
    rw [← HW0.out]
    go_wp2_with (first
      | (refine wpList_load_mid rfl 25 _ rfl w.heap.size 0 (by rfl) (TreeV I S k h) _ HRT.out Try.underlying25 rfl ITL.out ?_)
      | (go_at_call 5; refine (HLO.out W0).mono ?_; rintro e w1 ⟨rfl, b1⟩; have HB1 := Lib.hid b1; clear b1)
      | (go_at_call 6; refine (HAL.out w1).mono ?_; rintro e w2 ⟨rfl, b2⟩; have HB2 := Lib.hid (HB1.out.trans (b2.mono HB1.out.size)); clear b2))
    go_ret
    exact ⟨rfl, HB0.out.trans (HB2.out.mono HB0.out.size)⟩
  · rw [hlo] at HLO
    clear hlo
    by_cases htl : text.length ≤ 1000
    · have hti : (text.length : Int) ≤ 1000 := by omega
      have hdt : decide ((1000 : Int) < (text.length : Int)) = false := decide_eq_false (by omega)
      cases hr : rightB k h nx nt st
      · rw [hr] at HRI
        clear hr hI hS hk
        go_enter Try.func4, Try.ntmps4
        go_upto_region 1 with (fail)
        rw [← HW0.out]
        go_wp2_with (first
          | (refine wpList_load_mid rfl 25 _ rfl w.heap.size 0 (by rfl) (TreeV I S k h) _ HRT.out Try.underlying25 rfl ITL.out ?_)
          | (go_at_call 5; refine (HLO.out W0).mono ?_; rintro e w1 ⟨rfl, b1⟩; have HB1 := Lib.hid b1; clear b1)
          | ((with_reducible refine at_load 30 _ rfl ?_); first | refine wpList_load_want (by rfl) 30 _ rfl w.heap.size rfl _ (PurseV I S k h nx nt st).toArray (0, 0) _ (HTB.out _ HB1.out).out Try.underlying30 rfl IK.out ?_)
          | (go_at_call 9; refine (HPL.out w1).mono ?_; rintro e w2 ⟨rfl, b2⟩; have HB2 := Lib.hid (HB1.out.trans (b2.mono HB1.out.size)); clear b2)
          | (go_at_call 8; refine (HRI.out w2).mono ?_; rintro e w3 ⟨rfl, b3⟩; have HB3 := Lib.hid (HB2.out.trans (b3.mono HB2.out.size)); clear b3)
          | (go_at_call 6; refine (HAL.out w3).mono ?_; rintro e w4 ⟨rfl, b4⟩; have HB4 := Lib.hid (HB3.out.trans (b4.mono HB3.out.size)); clear b4))
        go_ret
        exact ⟨rfl, HB0.out.trans (HB4.out.mono HB0.out.size)⟩
      · rw [hr] at HRI
        obtain ⟨r1, r2, r3, r4, r5, r6⟩ := (rightB_iff _ _ _ _ _).1 hr
        have hm := leaves_pos k h r1
        obtain ⟨l1, l2⟩ := leavesV_bd k h
        have HRC : Hid (rightB k h nt nt st = true) := Lib.hid ((rightB_iff _ _ _ _ _).2 ⟨r1, r2, r3, by omega, Int.le_refl _, r6⟩)
        have HCR := Lib.hid (fun w' => Crash_pur I S k h nx nt st w' hI hS)
        have HRP := Lib.hid (fun w' => Right_pur I S k h nt nt st w' hI hS hk)
        rw [HRC.out] at HRP
        have HLp := Lib.hid (fun w' => Left_pur I S k h nx nt st w' hI hS hk ⟨by omega, by omega⟩)
        have HLc := Lib.hid (fun w' => Left_pur I S k h nt nt st w' hI hS hk ⟨by omega, by omega⟩)
        have ICt : Hid ((Try.prog.info? 30).map (·.size) = some (PurseV I S k h nt nt st).toArray.size) := Lib.hid (by rw [info_purse, List.size_toArray, PurseV_length _ _ _ _ _ _ _ hI hS])
        have HSC : Hid ((PurseV I S k h nt nt st).toArray.size = 53) := Lib.hid (by rw [List.size_toArray, PurseV_length _ _ _ _ _ _ _ hI hS])
        have HLV : Hid (leavesV k h = leavesV k h) := Lib.hid rfl
        by_cases hsp : nx = leavesV k h
        · obtain ⟨n, Hn⟩ : ∃ n, Hid (n = leavesV k h) := ⟨_, Lib.hid rfl⟩
          have HSG := Lib.hid (fun tv w' hh => Sign_spent I S k h nt st tv w' hI hS hk text hh)
          rw [← Hn.out] at HSG HLp HLc hsp r1 r6 l1 l2
          subst hsp
          have hntn : nt = nx := by omega
          subst hntn
          have heq := fun W => eq_purse I S k h nt nt st hI hS W
          have HX : Hid (nt - nt = 0) := Lib.hid (by omega)
          rw [HX.out] at HLp HLc
          clear hm hr hI hS hk r1 r2 r3 r4 r5 r6 l1 l2 HLV
          have IQ : Hid ((Try.prog.info? 30).map (·.size) = some (PurseV I S k h nt nt st).toArray.size) := Lib.hid (by rw [info_purse, List.size_toArray, PurseV_length _ _ _ _ _ _ _ HHI.out HHS.out])
          have IQL : Hid ((Try.prog.info? 30).map (·.size) = some (PurseV I S k h nt nt st).length) := Lib.hid (by rw [info_purse, PurseV_length _ _ _ _ _ _ _ HHI.out HHS.out])
          have ICL : Hid ((Try.prog.info? 30).map (·.size) = some (PurseV I S k h nt nt st).length) := Lib.hid (by rw [info_purse, PurseV_length _ _ _ _ _ _ _ HHI.out HHS.out])
          have SQ : Hid ((PurseV I S k h nt nt st).toArray.size = 53) := Lib.hid (by rw [List.size_toArray, PurseV_length _ _ _ _ _ _ _ HHI.out HHS.out])
          have OQ := Lib.hid (PurseV_one I S k h nt nt st)
          have IKL := ICL
          have ew : wrap64 ((0 : Int) - 0) = 0 := by unfold wrap64; omega
          go_enter Try.func4, Try.ntmps4
          go_upto_region 1 with (fail)
          rw [← HW0.out]
          go_upto_region 4 with (first
            | (refine wpList_load_mid rfl 25 _ rfl w.heap.size 0 (by rfl) (TreeV I S k h) _ HRT.out Try.underlying25 rfl ITL.out ?_)
            | (go_at_call 5; refine (HLO.out W0).mono ?_; rintro e w1 ⟨rfl, b1⟩; have HB1 := Lib.hid b1; clear b1)
            | ((with_reducible refine at_load 30 _ rfl ?_); first | refine wpList_load_want (by rfl) 30 _ rfl w.heap.size rfl _ (PurseV I S k h nt nt st).toArray (0, 0) _ (HTB.out _ HB1.out).out Try.underlying30 rfl IK.out ?_ | refine wpList_load_want (by rfl) 30 _ rfl w.heap.size rfl _ (PurseV I S k h nt nt st).toArray (0, 0) _ (HTB.out _ HB3.out).out Try.underlying30 rfl IK.out ?_)
            | (go_at_call 9; refine (HPL.out w1).mono ?_; rintro e w2 ⟨rfl, b2⟩; have HB2 := Lib.hid (HB1.out.trans (b2.mono HB1.out.size)); clear b2)
            | (go_at_call 8; refine (HRI.out w2).mono ?_; rintro e w3 ⟨rfl, b3⟩; have HB3 := Lib.hid (HB2.out.trans (b3.mono HB2.out.size)); clear b3)
            | (go_at_call 11; refine (HSG.out _ w3 (HT0.out.later HB3.out)).mono ?_; rintro e w4 ⟨rfl, b4⟩; have HB4 := Lib.hid (HB3.out.trans (b4.mono HB3.out.size)); clear b4)
            | ((with_reducible refine at_store 30 _ _ rfl ?_); refine wpList_store_new rfl 30 _ _ rfl (PurseV I S k h nt nt st).toArray rfl rfl 30 _ IQ.out (by rw [SQ.out]; rfl) OQ.out ?_))
          obtain ⟨qb, Hqb⟩ : ∃ b, Hid (b = w4.heap.size) := ⟨_, Lib.hid rfl⟩
          obtain ⟨V4, HV4, HBV4, HRQ4⟩ : ∃ W, Hid (W = w4.alloc (.cells (PurseV I S k h nt nt st).toArray 30)) ∧ Hid (Below W0.heap.size W0 W) ∧ Hid (W.heap[qb]? = some (.cells (PurseV I S k h nt nt st).toArray 30 (0, 0))) := ⟨_, Lib.hid rfl, Lib.hid (HB4.out.alloc HB4.out.size _), Lib.hid (by rw [Hqb.out]; exact heap_alloc_new _ _)⟩
          rw [← HV4.out, ← Hqb.out]
          go_upto_region 5 with (first
            | ((with_reducible refine at_load 30 _ rfl ?_); first | refine wpList_load_want (by rfl) 30 _ rfl w.heap.size rfl _ (PurseV I S k h nt nt st).toArray (0, 0) _ (HTB.out _ HBV4.out).out Try.underlying30 rfl IK.out ?_)
            | (go_at_call 10; refine (HCR.out V4).mono ?_; rintro e w5 ⟨rfl, b5⟩; have HB5 := Lib.hid (HBV4.out.trans (b5.mono HBV4.out.size)); have HRQ5 := Lib.hid ((b5.block _ (Array.getElem?_eq_some_iff.1 HRQ4.out).1).trans HRQ4.out); clear b5)
            | ((with_reducible refine at_store 30 _ _ rfl ?_); refine wpList_store_new rfl 30 _ _ rfl (PurseV I S k h nt nt st).toArray rfl rfl 30 _ ICt.out (by rw [HSC.out]; rfl) (PurseV_one _ _ _ _ _ _ _) ?_))
          obtain ⟨cb, Hcb⟩ : ∃ b, Hid (b = w5.heap.size) := ⟨_, Lib.hid rfl⟩
          obtain ⟨WC, HWC, HBC, HRC1, HRQ⟩ : ∃ W, Hid (W = w5.alloc (.cells (PurseV I S k h nt nt st).toArray 30)) ∧ Hid (Below W0.heap.size W0 W) ∧ Hid (W.heap[cb]? = some (.cells (PurseV I S k h nt nt st).toArray 30 (0, 0))) ∧ Hid (W.heap[qb]? = some (.cells (PurseV I S k h nt nt st).toArray 30 (0, 0))) := ⟨_, Lib.hid rfl, Lib.hid (HB5.out.alloc HB5.out.size _), Lib.hid (by rw [Hcb.out]; exact heap_alloc_new _ _), Lib.hid ((heap_alloc_old _ _ (Array.getElem?_eq_some_iff.1 HRQ5.out).1).trans HRQ5.out)⟩
          rw [← HWC.out, ← Hcb.out]
          have HROW : Hid (∀ w', Below WC.heap.size WC w' → Hid (w'.heap[w.heap.size]? = some (.cells (PurseV I S k h nt nt st).toArray 30 (0, 0))) ∧ Hid (w'.heap[qb]? = some (.cells (PurseV I S k h nt nt st).toArray 30 (0, 0))) ∧ Hid (w'.heap[cb]? = some (.cells (PurseV I S k h nt nt st).toArray 30 (0, 0))) ∧ Hid (Below w.heap.size w w')) := Lib.hid (fun w' hb => ⟨HTB.out w' (HBC.out.trans (hb.mono HBC.out.size)), Lib.hid ((hb.block _ (Array.getElem?_eq_some_iff.1 HRQ.out).1).trans HRQ.out), Lib.hid ((hb.block _ (Array.getElem?_eq_some_iff.1 HRC1.out).1).trans HRC1.out), Lib.hid (HB0.out.trans ((HBC.out.trans (hb.mono HBC.out.size)).mono HB0.out.size))⟩)
          have HCC : Hid (Below WC.heap.size WC WC) := Lib.hid (Below.refl _ _)
          try simp only [Act.put]
          refine Wild.region_b (fun k => match k with | 1 => some (.fix (.int .i64 0)) | 3 => some (.fix (.int .i64 0)) | _ => none) (fun _ => []) rfl (by kernel_rfl) (fun vs hvs => ?_)
          have v1 : vs 1 = .int .i64 0 := hvs 1 _ rfl
          have v3 : vs 3 = .int .i64 0 := hvs 3 _ rfl
          refine Wild.walk_load 30 _ _ _ (PurseV I S k h nt nt st) _ rfl (by rfl) rfl rfl (fun w' hw => rangeAt_row (HROW.out w' (HCC.out.trans (Below.mono hw.1 HCC.out.size))).1.out) Try.underlying30 rfl IKL.out ?_
          simp only [Act.put, List.setIfInBounds_toArray, List.set_cons_zero, List.set_cons_succ]
          refine Wild.walk_wild _ rfl (by rfl) (fun w' hw K hK => ?_) ?_
          · go_simp
            go_at_call 12
            refine (HLp.out w').mono ?_
            rintro e w'' ⟨rfl, hb⟩
            exact hK.out _ _ (hw.1.trans (hb.mono hw.1.size)) hb rfl trivial
          rw [v1]
          simp only [Act.put, List.setIfInBounds_toArray, List.set_cons_zero, List.set_cons_succ]
          refine Wild.walk_load 30 _ _ _ (PurseV I S k h nt nt st) _ rfl (by rfl) rfl rfl (fun w' hw => rangeAt_row (HROW.out w' (HCC.out.trans (Below.mono hw.1 HCC.out.size))).2.2.1.out) Try.underlying30 rfl ICL.out ?_
          simp only [Act.put, List.setIfInBounds_toArray, List.set_cons_zero, List.set_cons_succ]
          refine Wild.walk_wild _ rfl (by rfl) (fun w' hw K hK => ?_) ?_
          · go_simp
            go_at_call 12
            refine (HLc.out w').mono ?_
            rintro e w'' ⟨rfl, hb⟩
            exact hK.out _ _ (hw.1.trans (hb.mono hw.1.size)) hb rfl trivial
          rw [v3]
          simp only [Act.put, List.setIfInBounds_toArray, List.set_cons_zero, List.set_cons_succ]
          refine Wild.walk_simple rfl (by rfl) (by rfl) (fun K hK => ?_); go_big_quiet_op; first | (refine hK _ ?_; clear hK K) | (refine ⟨_, fun _ _ => rfl, hK _ ?_⟩; clear hK K)
          refine Wild.walk_simple rfl (by rfl) (by rfl) (fun K hK => ?_); go_big_quiet_op; first | (refine hK _ ?_; clear hK K) | (refine ⟨_, fun _ _ => rfl, hK _ ?_⟩; clear hK K)
          refine Wild.walk_nil ?_
          intro w6 hw6 _
          have HC6 : Hid (Below WC.heap.size WC w6) := Lib.hid hw6
          clear hw6 hvs v1 v3
          have kn := purse_N (HROW.out w6 HC6.out).1.out HHI.out HHS.out
          have kd := purse_D (HROW.out w6 HC6.out).1.out HHI.out HHS.out
          have hz : nt - nt = 0 := by omega
          have hzw : wrap64 (nt - nt) = 0 := by rw [hz]; unfold wrap64; omega
          go_wp2_with (first
            | ((with_reducible refine at_load 30 _ rfl ?_); first | refine wpList_load_want (by rfl) 30 _ rfl cb rfl _ (PurseV I S k h nt nt st).toArray (0, 0) _ (HROW.out _ HC6.out).2.2.1.out Try.underlying30 rfl IK.out ?_ | refine wpList_load_want (by rfl) 30 _ rfl cb rfl _ (PurseV I S k h nt nt st).toArray (0, 0) _ (HROW.out _ HC7.out).2.2.1.out Try.underlying30 rfl IK.out ?_ | refine wpList_load_want (by rfl) 30 _ rfl w.heap.size rfl _ (PurseV I S k h nt nt st).toArray (0, 0) _ (HROW.out _ HC8.out).1.out Try.underlying30 rfl IK.out ?_ | refine wpList_load_want (by rfl) 30 _ rfl w.heap.size rfl _ (PurseV I S k h nt nt st).toArray (0, 0) _ (HROW.out _ HC10.out).1.out Try.underlying30 rfl IK.out ?_ | refine wpList_load_want (by rfl) 30 _ rfl qb rfl _ (PurseV I S k h nt nt st).toArray (0, 0) _ (HROW.out _ HC10.out).2.1.out Try.underlying30 rfl IK.out ?_)
            | (go_at_call 12; (with_reducible refine (HLc.out w6).mono ?_); rintro e w7 ⟨rfl, b7⟩; have HC7 := Lib.hid (HC6.out.trans (b7.mono HC6.out.size)); clear b7)
            | (go_at_call 15; refine (HRP.out w7).mono ?_; rintro e w8 ⟨rfl, b8⟩; have HC8 := Lib.hid (HC7.out.trans (b8.mono HC7.out.size)); clear b8)
            | (go_at_call 12; (with_reducible refine (HLp.out w8).mono ?_); rintro e w9 ⟨rfl, b9⟩; have HC9 := Lib.hid (HC8.out.trans (b9.mono HC8.out.size)); clear b9)
            | (go_at_call 6; refine (HAL.out w9).mono ?_; rintro e w10 ⟨rfl, b10⟩; have HC10 := Lib.hid (HC9.out.trans (b10.mono HC9.out.size)); clear b10))
          go_ret
          exact ⟨rfl, (HROW.out _ HC10.out).2.2.2.out⟩
        · obtain ⟨H, rfl⟩ : ∃ H : Nat, h = H := ⟨h.toNat, by have := ((mayT_iff k h).1 hm).2; omega⟩
          have HLN : leavesV k H = ((2 ^ H : Nat) : Int) := by rw [leavesV, if_pos hm, Int.toNat_natCast]
          obtain ⟨P, HPo⟩ : ∃ P, Hid (P = 2 ^ H) := ⟨_, Lib.hid rfl⟩
          rw [← HPo.out] at HLN
          rw [HLN] at HLp HLc hsp r1 r6 l1 l2
          obtain ⟨Q, rfl⟩ : ∃ Q : Nat, nx = Q := ⟨nx.toNat, by omega⟩
          have hQ : Q < 2 ^ H := by rw [← HPo.out]; omega
          by_cases hnt : nt ≤ (Q : Int)
          · have hntq : nt = (Q : Int) := by omega
            obtain ⟨qt, Hqt⟩ : ∃ qt : Int, Hid (qt = min ((Q : Int) + st) (P : Int)) := ⟨_, Lib.hid rfl⟩
            have HSG := Lib.hid (fun tv w' hh => Sign_note' I S k H Q nt st tv text w' hI hS hk hm hQ ⟨r2, r3⟩ hntq hh (by omega))
            rw [← HPo.out, ← Hqt.out] at HSG
            have hqb : (Q : Int) + 1 ≤ qt ∧ qt ≤ P := by rw [Hqt.out]; omega
            clear hntq Hqt
            obtain ⟨qx, Hqx⟩ : ∃ q : Int, Hid (q = ((Q + 1 : Nat) : Int)) := ⟨_, Lib.hid rfl⟩
            rw [← Hqx.out] at HSG
            have hqx : qx = (Q : Int) + 1 := by rw [Hqx.out]; omega
            have IQ : Hid ((Try.prog.info? 30).map (·.size) = some (PurseV I S k H qx qt st).toArray.size) := Lib.hid (by rw [info_purse, List.size_toArray, PurseV_length _ _ _ _ _ _ _ HHI.out HHS.out])
            have IQL : Hid ((Try.prog.info? 30).map (·.size) = some (PurseV I S k H qx qt st).length) := Lib.hid (by rw [info_purse, PurseV_length _ _ _ _ _ _ _ HHI.out HHS.out])
            have ICL : Hid ((Try.prog.info? 30).map (·.size) = some (PurseV I S k H nt nt st).length) := Lib.hid (by rw [info_purse, PurseV_length _ _ _ _ _ _ _ HHI.out HHS.out])
            have SQ : Hid ((PurseV I S k H qx qt st).toArray.size = 53) := Lib.hid (by rw [List.size_toArray, PurseV_length _ _ _ _ _ _ _ HHI.out HHS.out])
            have OQ := Lib.hid (PurseV_one I S k H qx qt st)
            have IKL : Hid ((Try.prog.info? 30).map (·.size) = some (PurseV I S k H Q nt st).length) := Lib.hid (by rw [info_purse, PurseV_length _ _ _ _ _ _ _ hI hS])
            have HLq := Lib.hid (fun w' => Left_pur I S k H qx qt st w' hI hS hk ⟨by omega, by omega⟩)
            have HRq := Lib.hid (fun w' => Right_pur I S k H qx qt st w' hI hS hk)
            rw [(rightB_iff _ _ _ _ _).2 ⟨by rw [HLN]; exact r1, r2, r3, by omega, by omega, by rw [HLN]; omega⟩] at HRq
            rw [HLN] at HLq
            obtain ⟨LP, HLP⟩ : ∃ L, Hid (L = (P : Int) - Q) := ⟨_, Lib.hid rfl⟩
            obtain ⟨LC, HLC⟩ : ∃ L, Hid (L = (P : Int) - nt) := ⟨_, Lib.hid rfl⟩
            obtain ⟨LQ, HLQ⟩ : ∃ L, Hid (L = (P : Int) - qx) := ⟨_, Lib.hid rfl⟩
            have hLP := HLP.out
            have hLC := HLC.out
            have hLQ := HLQ.out
            rw [← hLP] at HLp
            rw [← hLC] at HLc
            rw [← hLQ] at HLq
            obtain ⟨df, Hdf⟩ : ∃ d, Hid (d = nt - (Q : Int)) := ⟨_, Lib.hid rfl⟩
            have hdf := Hdf.out
            have ew : wrap64 (LP - LC) = df := by unfold wrap64; omega
            have ewn : wrap64 (nt - (Q : Int)) = df := by unfold wrap64; omega
            have EW1 : Hid (wrap64 (LP - 1) = LQ) := Lib.hid (by unfold wrap64; omega)
            have hc0 : decide (LC < 0) = false := decide_eq_false (by omega)
            have hp0 : (LP == 0) = false := by
              have : LP ≠ 0 := by omega
              simpa using this
            have hp1 : ¬ LP = 0 := by omega
            have hge : decide (qx ≤ qt) = true := decide_eq_true (by omega)
            clear hqx hLP hLC hLQ hdf HLN hm hr hI hS hk r1 r2 r3 r4 r5 r6 l1 l2 hsp hQ hqb HLV
            go_enter Try.func4, Try.ntmps4
            go_upto_region 1 with (fail)
            rw [← HW0.out]
            go_upto_region 4 with (first
              | (refine wpList_load_mid rfl 25 _ rfl w.heap.size 0 (by rfl) (TreeV I S k H) _ HRT.out Try.underlying25 rfl ITL.out ?_)
              | (go_at_call 5; refine (HLO.out W0).mono ?_; rintro e w1 ⟨rfl, b1⟩; have HB1 := Lib.hid b1; clear b1)
              | ((with_reducible refine at_load 30 _ rfl ?_); first | refine wpList_load_want (by rfl) 30 _ rfl w.heap.size rfl _ (PurseV I S k H Q nt st).toArray (0, 0) _ (HTB.out _ HB1.out).out Try.underlying30 rfl IK.out ?_ | refine wpList_load_want (by rfl) 30 _ rfl w.heap.size rfl _ (PurseV I S k H Q nt st).toArray (0, 0) _ (HTB.out _ HB3.out).out Try.underlying30 rfl IK.out ?_)
              | (go_at_call 9; refine (HPL.out w1).mono ?_; rintro e w2 ⟨rfl, b2⟩; have HB2 := Lib.hid (HB1.out.trans (b2.mono HB1.out.size)); clear b2)
              | (go_at_call 8; refine (HRI.out w2).mono ?_; rintro e w3 ⟨rfl, b3⟩; have HB3 := Lib.hid (HB2.out.trans (b3.mono HB2.out.size)); clear b3)
              | (go_at_call 11; refine (HSG.out _ w3 (HT0.out.later HB3.out)).mono ?_; rintro e w4 ⟨sv, rfl, -, b4⟩; have HB4 := Lib.hid (HB3.out.trans (b4.mono HB3.out.size)); clear b4)
              | ((with_reducible refine at_store 30 _ _ rfl ?_); refine wpList_store_new rfl 30 _ _ rfl (PurseV I S k H qx qt st).toArray rfl rfl 30 _ IQ.out (by rw [SQ.out]; rfl) OQ.out ?_))
            obtain ⟨qb, Hqb⟩ : ∃ b, Hid (b = w4.heap.size) := ⟨_, Lib.hid rfl⟩
            obtain ⟨V4, HV4, HBV4, HRQ4⟩ : ∃ W, Hid (W = w4.alloc (.cells (PurseV I S k H qx qt st).toArray 30)) ∧ Hid (Below W0.heap.size W0 W) ∧ Hid (W.heap[qb]? = some (.cells (PurseV I S k H qx qt st).toArray 30 (0, 0))) := ⟨_, Lib.hid rfl, Lib.hid (HB4.out.alloc HB4.out.size _), Lib.hid (by rw [Hqb.out]; exact heap_alloc_new _ _)⟩
            rw [← HV4.out, ← Hqb.out]
            go_upto_region 5 with (first
              | ((with_reducible refine at_load 30 _ rfl ?_); first | refine wpList_load_want (by rfl) 30 _ rfl w.heap.size rfl _ (PurseV I S k H Q nt st).toArray (0, 0) _ (HTB.out _ HBV4.out).out Try.underlying30 rfl IK.out ?_)
              | (go_at_call 10; refine (HCR.out V4).mono ?_; rintro e w5 ⟨rfl, b5⟩; have HB5 := Lib.hid (HBV4.out.trans (b5.mono HBV4.out.size)); have HRQ5 := Lib.hid ((b5.block _ (Array.getElem?_eq_some_iff.1 HRQ4.out).1).trans HRQ4.out); clear b5)
              | ((with_reducible refine at_store 30 _ _ rfl ?_); refine wpList_store_new rfl 30 _ _ rfl (PurseV I S k H nt nt st).toArray rfl rfl 30 _ ICt.out (by rw [HSC.out]; rfl) (PurseV_one _ _ _ _ _ _ _) ?_))
            obtain ⟨cb, Hcb⟩ : ∃ b, Hid (b = w5.heap.size) := ⟨_, Lib.hid rfl⟩
            obtain ⟨WC, HWC, HBC, HRC1, HRQ⟩ : ∃ W, Hid (W = w5.alloc (.cells (PurseV I S k H nt nt st).toArray 30)) ∧ Hid (Below W0.heap.size W0 W) ∧ Hid (W.heap[cb]? = some (.cells (PurseV I S k H nt nt st).toArray 30 (0, 0))) ∧ Hid (W.heap[qb]? = some (.cells (PurseV I S k H qx qt st).toArray 30 (0, 0))) := ⟨_, Lib.hid rfl, Lib.hid (HB5.out.alloc HB5.out.size _), Lib.hid (by rw [Hcb.out]; exact heap_alloc_new _ _), Lib.hid ((heap_alloc_old _ _ (Array.getElem?_eq_some_iff.1 HRQ5.out).1).trans HRQ5.out)⟩
            rw [← HWC.out, ← Hcb.out]
            have HROW : Hid (∀ w', Below WC.heap.size WC w' → Hid (w'.heap[w.heap.size]? = some (.cells (PurseV I S k H Q nt st).toArray 30 (0, 0))) ∧ Hid (w'.heap[qb]? = some (.cells (PurseV I S k H qx qt st).toArray 30 (0, 0))) ∧ Hid (w'.heap[cb]? = some (.cells (PurseV I S k H nt nt st).toArray 30 (0, 0))) ∧ Hid (Below w.heap.size w w')) := Lib.hid (fun w' hb => ⟨HTB.out w' (HBC.out.trans (hb.mono HBC.out.size)), Lib.hid ((hb.block _ (Array.getElem?_eq_some_iff.1 HRQ.out).1).trans HRQ.out), Lib.hid ((hb.block _ (Array.getElem?_eq_some_iff.1 HRC1.out).1).trans HRC1.out), Lib.hid (HB0.out.trans ((HBC.out.trans (hb.mono HBC.out.size)).mono HB0.out.size))⟩)
            have HCC : Hid (Below WC.heap.size WC WC) := Lib.hid (Below.refl _ _)
            try simp only [Act.put]
            refine Wild.region_b (fun k => match k with | 1 => some (.fix (.int .i64 LP)) | 3 => some (.fix (.int .i64 LC)) | _ => none) (fun _ => []) rfl (by kernel_rfl) (fun vs hvs => ?_)
            have v1 : vs 1 = .int .i64 LP := hvs 1 _ rfl
            have v3 : vs 3 = .int .i64 LC := hvs 3 _ rfl
            refine Wild.walk_load 30 _ _ _ (PurseV I S k H Q nt st) _ rfl (by rfl) rfl rfl (fun w' hw => rangeAt_row (HROW.out w' (HCC.out.trans (Below.mono hw.1 HCC.out.size))).1.out) Try.underlying30 rfl IKL.out ?_
            simp only [Act.put, List.setIfInBounds_toArray, List.set_cons_zero, List.set_cons_succ]
            refine Wild.walk_wild _ rfl (by rfl) (fun w' hw K hK => ?_) ?_
            · go_simp
              go_at_call 12
              refine (HLp.out w').mono ?_
              rintro e w'' ⟨rfl, hb⟩
              exact hK.out _ _ (hw.1.trans (hb.mono hw.1.size)) hb rfl trivial
            rw [v1]
            simp only [Act.put, List.setIfInBounds_toArray, List.set_cons_zero, List.set_cons_succ]
            refine Wild.walk_load 30 _ _ _ (PurseV I S k H nt nt st) _ rfl (by rfl) rfl rfl (fun w' hw => rangeAt_row (HROW.out w' (HCC.out.trans (Below.mono hw.1 HCC.out.size))).2.2.1.out) Try.underlying30 rfl ICL.out ?_
            simp only [Act.put, List.setIfInBounds_toArray, List.set_cons_zero, List.set_cons_succ]
            refine Wild.walk_wild _ rfl (by rfl) (fun w' hw K hK => ?_) ?_
            · go_simp
              go_at_call 12
              refine (HLc.out w').mono ?_
              rintro e w'' ⟨rfl, hb⟩
              exact hK.out _ _ (hw.1.trans (hb.mono hw.1.size)) hb rfl trivial
            rw [v3]
            simp only [Act.put, List.setIfInBounds_toArray, List.set_cons_zero, List.set_cons_succ]
            refine Wild.walk_simple rfl (by rfl) (by rfl) (fun K hK => ?_); go_big_quiet_op; first | (refine hK _ ?_; clear hK K) | (refine ⟨_, fun _ _ => rfl, hK _ ?_⟩; clear hK K)
            refine Wild.walk_simple rfl (by rfl) (by rfl) (fun K hK => ?_); go_big_quiet_op; first | (refine hK _ ?_; clear hK K) | (refine ⟨_, fun _ _ => rfl, hK _ ?_⟩; clear hK K)
            try simp only [ew]
            refine Wild.walk_nil ?_
            intro w6 hw6 _
            have HC6 : Hid (Below WC.heap.size WC w6) := Lib.hid hw6
            clear hw6 hvs v1 v3
            have kn := purse_N (HROW.out w6 HC6.out).1.out HHI.out HHS.out
            have kd := purse_D (HROW.out w6 HC6.out).1.out HHI.out HHS.out
            go_upto_region 10 with (first
              | ((with_reducible refine at_load 30 _ rfl ?_); first | refine wpList_load_want (by rfl) 30 _ rfl cb rfl _ (PurseV I S k H nt nt st).toArray (0, 0) _ (HROW.out _ HC6.out).2.2.1.out Try.underlying30 rfl ICt.out ?_ | refine wpList_load_want (by rfl) 30 _ rfl cb rfl _ (PurseV I S k H nt nt st).toArray (0, 0) _ (HROW.out _ HC7.out).2.2.1.out Try.underlying30 rfl ICt.out ?_ | refine wpList_load_want (by rfl) 30 _ rfl w.heap.size rfl _ (PurseV I S k H Q nt st).toArray (0, 0) _ (HROW.out _ HC8.out).1.out Try.underlying30 rfl IK.out ?_)
              | (go_at_call 12; (with_reducible refine (HLc.out w6).mono ?_); rintro e w7 ⟨rfl, b7⟩; have HC7 := Lib.hid (HC6.out.trans (b7.mono HC6.out.size)); clear b7)
              | (go_at_call 15; refine (HRP.out w7).mono ?_; rintro e w8 ⟨rfl, b8⟩; have HC8 := Lib.hid (HC7.out.trans (b8.mono HC7.out.size)); clear b8)
              | (go_at_call 12; (with_reducible refine (HLp.out w8).mono ?_); rintro e w9 ⟨rfl, b9⟩; have HC9 := Lib.hid (HC8.out.trans (b9.mono HC8.out.size)); clear b9))
            clear kn kd
            try simp only [Act.put]
            refine Wild.region_b (fun k => match k with | 0 => some (.fix (.bool true)) | 7 => some (.fix (.int .i64 LQ)) | 9 => some (.fix (.int .i64 LP)) | 15 => some (.fix (.bool true)) | _ => none) (fun _ => []) rfl (by kernel_rfl) (fun vs hvs => ?_)
            have v0 : vs 0 = .bool true := hvs 0 _ rfl
            have v7 : vs 7 = .int .i64 LQ := hvs 7 _ rfl
            have v9 : vs 9 = .int .i64 LP := hvs 9 _ rfl
            have v15 : vs 15 = .bool true := hvs 15 _ rfl
            refine Wild.walk_wild _ rfl (by rfl) (fun w' hw K hK => ?_) ?_
            · go_simp
              go_at_call 6
              refine (HAL.out w').mono ?_
              rintro e w'' ⟨rfl, hb⟩
              exact hK.out _ _ (hw.1.trans (hb.mono hw.1.size)) hb rfl trivial
            rw [v0]
            simp only [Act.put, List.setIfInBounds_toArray, List.set_cons_zero, List.set_cons_succ]
            refine Wild.walk_simple rfl (by rfl) (by rfl) (fun K hK => ?_); go_big_quiet_op; first | (refine hK _ ?_; clear hK K) | (refine ⟨_, fun _ _ => rfl, hK _ ?_⟩; clear hK K)
            refine Wild.walk_simple rfl (by rfl) (by rfl) (fun K hK => ?_); go_big_quiet_op; first | (refine hK _ ?_; clear hK K) | (refine ⟨_, fun _ _ => rfl, hK _ ?_⟩; clear hK K)
            refine Wild.walk_simple rfl (by rfl) (by rfl) (fun K hK => ?_); go_big_quiet_op; first | (refine hK _ ?_; clear hK K) | (refine ⟨_, fun _ _ => rfl, hK _ ?_⟩; clear hK K)
            refine Wild.walk_simple rfl (by rfl) (by rfl) (fun K hK => ?_); go_big_quiet_op; first | (refine hK _ ?_; clear hK K) | (refine ⟨_, fun _ _ => rfl, hK _ ?_⟩; clear hK K)
            refine Wild.walk_simple rfl (by rfl) (by rfl) (fun K hK => ?_); go_big_quiet_op; first | (refine hK _ ?_; clear hK K) | (refine ⟨_, fun _ _ => rfl, hK _ ?_⟩; clear hK K)
            refine Wild.walk_load 30 _ _ _ (PurseV I S k H qx qt st) _ rfl (by rfl) rfl rfl (fun w' hw => rangeAt_row (HROW.out w' (HC9.out.trans (Below.mono hw.1 HC9.out.size))).2.1.out) Try.underlying30 rfl IQL.out ?_
            simp only [Act.put, List.setIfInBounds_toArray, List.set_cons_zero, List.set_cons_succ]
            refine Wild.walk_wild _ rfl (by rfl) (fun w' hw K hK => ?_) ?_
            · go_simp
              go_at_call 12
              refine (HLq.out w').mono ?_
              rintro e w'' ⟨rfl, hb⟩
              exact hK.out _ _ (hw.1.trans (hb.mono hw.1.size)) hb rfl trivial
            rw [v7]
            simp only [Act.put, List.setIfInBounds_toArray, List.set_cons_zero, List.set_cons_succ]
            refine Wild.walk_load 30 _ _ _ (PurseV I S k H Q nt st) _ rfl (by rfl) rfl rfl (fun w' hw => rangeAt_row (HROW.out w' (HC9.out.trans (Below.mono hw.1 HC9.out.size))).1.out) Try.underlying30 rfl IKL.out ?_
            simp only [Act.put, List.setIfInBounds_toArray, List.set_cons_zero, List.set_cons_succ]
            refine Wild.walk_wild _ rfl (by rfl) (fun w' hw K hK => ?_) ?_
            · go_simp
              go_at_call 12
              refine (HLp.out w').mono ?_
              rintro e w'' ⟨rfl, hb⟩
              exact hK.out _ _ (hw.1.trans (hb.mono hw.1.size)) hb rfl trivial
            rw [v9]
            simp only [Act.put, List.setIfInBounds_toArray, List.set_cons_zero, List.set_cons_succ]
            refine Wild.walk_simple rfl (by rfl) (by rfl) (fun K hK => ?_); go_big_quiet_op; first | (refine hK _ ?_; clear hK K) | (refine ⟨_, fun _ _ => rfl, hK _ ?_⟩; clear hK K)
            try simp only [EW1.out]
            refine Wild.walk_simple rfl (by rfl) (by rfl) (fun K hK => ?_); go_big_quiet_op; first | (refine hK _ ?_; clear hK K) | (refine ⟨_, fun _ _ => rfl, hK _ ?_⟩; clear hK K)
            refine Wild.walk_simple rfl (by rfl) (by rfl) (fun K hK => ?_); go_big_quiet_op; first | (refine hK _ ?_; clear hK K) | (refine ⟨_, fun _ _ => rfl, hK _ ?_⟩; clear hK K)
            refine Wild.walk_simple rfl (by rfl) (by rfl) (fun K hK => ?_); go_big_quiet_op; first | (refine hK _ ?_; clear hK K) | (refine ⟨_, fun _ _ => rfl, hK _ ?_⟩; clear hK K)
            refine Wild.walk_load 30 _ _ _ (PurseV I S k H qx qt st) _ rfl (by rfl) rfl rfl (fun w' hw => rangeAt_row (HROW.out w' (HC9.out.trans (Below.mono hw.1 HC9.out.size))).2.1.out) Try.underlying30 rfl IQL.out ?_
            simp only [Act.put, List.setIfInBounds_toArray, List.set_cons_zero, List.set_cons_succ]
            refine Wild.walk_wild _ rfl (by rfl) (fun w' hw K hK => ?_) ?_
            · go_simp
              go_at_call 15
              refine (HRq.out w').mono ?_
              rintro e w'' ⟨rfl, hb⟩
              exact hK.out _ _ (hw.1.trans (hb.mono hw.1.size)) hb rfl trivial
            rw [v15]
            simp only [Act.put, List.setIfInBounds_toArray, List.set_cons_zero, List.set_cons_succ]
            refine Wild.walk_simple rfl (by rfl) (by rfl) (fun K hK => ?_); go_big_quiet_op; first | (refine hK _ ?_; clear hK K) | (refine ⟨_, fun _ _ => rfl, hK _ ?_⟩; clear hK K)
            refine Wild.walk_simple rfl (by rfl) (by rfl) (fun K hK => ?_); go_big_quiet_op; first | (refine hK _ ?_; clear hK K) | (refine ⟨_, fun _ _ => rfl, hK _ ?_⟩; clear hK K)
            refine Wild.walk_simple rfl (by rfl) (by rfl) (fun K hK => ?_); go_big_quiet_op; first | (refine hK _ ?_; clear hK K) | (refine ⟨_, fun _ _ => rfl, hK _ ?_⟩; clear hK K)
            refine Wild.walk_cell 3 _ _ _ (.int .i64 qt) _ rfl (by rfl) rfl rfl (fun w' hw => purse_D (HROW.out w' (HC9.out.trans (Below.mono hw.1 HC9.out.size))).2.1.out HHI.out HHS.out) Try.underlying3 rfl ?_
            simp only [Act.put, List.setIfInBounds_toArray, List.set_cons_zero, List.set_cons_succ]
            refine Wild.walk_simple rfl (by rfl) (by rfl) (fun K hK => ?_); go_big_quiet_op; first | (refine hK _ ?_; clear hK K) | (refine ⟨_, fun _ _ => rfl, hK _ ?_⟩; clear hK K)
            refine Wild.walk_cell 3 _ _ _ (.int .i64 qx) _ rfl (by rfl) rfl rfl (fun w' hw => purse_N (HROW.out w' (HC9.out.trans (Below.mono hw.1 HC9.out.size))).2.1.out HHI.out HHS.out) Try.underlying3 rfl ?_
            simp only [Act.put, List.setIfInBounds_toArray, List.set_cons_zero, List.set_cons_succ]
            refine Wild.walk_simple rfl (by rfl) (by rfl) (fun K hK => ?_); go_big_quiet_op; first | (refine hK _ ?_; clear hK K) | (refine ⟨_, fun _ _ => rfl, hK _ ?_⟩; clear hK K)
            try simp only [hge]
            refine Wild.walk_simple rfl (by rfl) (by rfl) (fun K hK => ?_); go_big_quiet_op; first | (refine hK _ ?_; clear hK K) | (refine ⟨_, fun _ _ => rfl, hK _ ?_⟩; clear hK K)
            refine Wild.walk_simple rfl (by rfl) (by rfl) (fun K hK => ?_); go_big_quiet_op; first | (refine hK _ ?_; clear hK K) | (refine ⟨_, fun _ _ => rfl, hK _ ?_⟩; clear hK K)
            refine Wild.walk_simple rfl (by rfl) (by rfl) (fun K hK => ?_); go_big_quiet_op; first | (refine hK _ ?_; clear hK K) | (refine ⟨_, fun _ _ => rfl, hK _ ?_⟩; clear hK K)
            refine Wild.walk_simple rfl (by rfl) (by rfl) (fun K hK => ?_); go_big_quiet_op; first | (refine hK _ ?_; clear hK K) | (refine ⟨_, fun _ _ => rfl, hK _ ?_⟩; clear hK K)
            refine Wild.walk_skip rfl (by rfl) ?_
            simp only [Act.put, List.setIfInBounds_toArray, List.set_cons_zero, List.set_cons_succ]
            refine Wild.walk_skip rfl (by rfl) ?_
            simp only [Act.put, List.setIfInBounds_toArray, List.set_cons_zero, List.set_cons_succ]
            refine Wild.walk_skip rfl (by rfl) ?_
            simp only [Act.put, List.setIfInBounds_toArray, List.set_cons_zero, List.set_cons_succ]
            refine Wild.walk_skip rfl (by rfl) ?_
            simp only [Act.put, List.setIfInBounds_toArray, List.set_cons_zero, List.set_cons_succ]
            refine Wild.walk_skip rfl (by rfl) ?_
            simp only [Act.put, List.setIfInBounds_toArray, List.set_cons_zero, List.set_cons_succ]
            refine Wild.walk_simple rfl (by rfl) (by rfl) (fun K hK => ?_); go_big_quiet_op; first | (refine hK _ ?_; clear hK K) | (refine ⟨_, fun _ _ => rfl, hK _ ?_⟩; clear hK K)
            refine Wild.walk_simple rfl (by rfl) (by rfl) (fun K hK => ?_); go_big_quiet_op; first | (refine hK _ ?_; clear hK K) | (refine ⟨_, fun _ _ => rfl, hK _ ?_⟩; clear hK K)
            refine Wild.walk_simple rfl (by rfl) (by rfl) (fun K hK => ?_); go_big_quiet_op; first | (refine hK _ ?_; clear hK K) | (refine ⟨_, fun _ _ => rfl, hK _ ?_⟩; clear hK K)
            refine Wild.walk_nil ?_
            intro wX hwX _
            have HCX : Hid (Below WC.heap.size WC wX) := Lib.hid (HC9.out.trans (Below.mono hwX HC9.out.size))
            clear hwX hvs
            go_wp2_with fail
            go_ret
            exact ⟨rfl, (HROW.out _ HCX.out).2.2.2.out⟩
          · have HSG := Lib.hid (fun tv w' hh => Sign_more I S k H Q nt st tv text w' hI hS hk hm hQ ⟨r2, r3⟩ ⟨by omega, by omega⟩ hh (by omega))
            have hqb : (Q : Int) + 1 ≤ nt ∧ nt ≤ P := by omega
            obtain ⟨qx, Hqx⟩ : ∃ q : Int, Hid (q = ((Q + 1 : Nat) : Int)) := ⟨_, Lib.hid rfl⟩
            rw [← Hqx.out] at HSG
            have hqx : qx = (Q : Int) + 1 := by rw [Hqx.out]; omega
            have IQ : Hid ((Try.prog.info? 30).map (·.size) = some (PurseV I S k H qx nt st).toArray.size) := Lib.hid (by rw [info_purse, List.size_toArray, PurseV_length _ _ _ _ _ _ _ HHI.out HHS.out])
            have IQL : Hid ((Try.prog.info? 30).map (·.size) = some (PurseV I S k H qx nt st).length) := Lib.hid (by rw [info_purse, PurseV_length _ _ _ _ _ _ _ HHI.out HHS.out])
            have ICL : Hid ((Try.prog.info? 30).map (·.size) = some (PurseV I S k H nt nt st).length) := Lib.hid (by rw [info_purse, PurseV_length _ _ _ _ _ _ _ HHI.out HHS.out])
            have SQ : Hid ((PurseV I S k H qx nt st).toArray.size = 53) := Lib.hid (by rw [List.size_toArray, PurseV_length _ _ _ _ _ _ _ HHI.out HHS.out])
            have OQ := Lib.hid (PurseV_one I S k H qx nt st)
            have IKL : Hid ((Try.prog.info? 30).map (·.size) = some (PurseV I S k H Q nt st).length) := Lib.hid (by rw [info_purse, PurseV_length _ _ _ _ _ _ _ hI hS])
            have HLq := Lib.hid (fun w' => Left_pur I S k H qx nt st w' hI hS hk ⟨by omega, by omega⟩)
            have HRq := Lib.hid (fun w' => Right_pur I S k H qx nt st w' hI hS hk)
            rw [(rightB_iff _ _ _ _ _).2 ⟨by rw [HLN]; exact r1, r2, r3, by omega, by omega, by rw [HLN]; omega⟩] at HRq
            rw [HLN] at HLq
            obtain ⟨LP, HLP⟩ : ∃ L, Hid (L = (P : Int) - Q) := ⟨_, Lib.hid rfl⟩
            obtain ⟨LC, HLC⟩ : ∃ L, Hid (L = (P : Int) - nt) := ⟨_, Lib.hid rfl⟩
            obtain ⟨LQ, HLQ⟩ : ∃ L, Hid (L = (P : Int) - qx) := ⟨_, Lib.hid rfl⟩
            have hLP := HLP.out
            have hLC := HLC.out
            have hLQ := HLQ.out
            rw [← hLP] at HLp
            rw [← hLC] at HLc
            rw [← hLQ] at HLq
            obtain ⟨df, Hdf⟩ : ∃ d, Hid (d = nt - (Q : Int)) := ⟨_, Lib.hid rfl⟩
            have hdf := Hdf.out
            have ew : wrap64 (LP - LC) = df := by unfold wrap64; omega
            have ewn : wrap64 (nt - (Q : Int)) = df := by unfold wrap64; omega
            have EW1 : Hid (wrap64 (LP - 1) = LQ) := Lib.hid (by unfold wrap64; omega)
            have hc0 : decide (LC < 0) = false := decide_eq_false (by omega)
            have hp0 : (LP == 0) = false := by
              have : LP ≠ 0 := by omega
              simpa using this
            have hp1 : ¬ LP = 0 := by omega
            have hge : decide (qx ≤ nt) = true := decide_eq_true (by omega)
            clear hqx hLP hLC hLQ hdf HLN hm hr hI hS hk r1 r2 r3 r4 r5 r6 l1 l2 hsp hQ hqb HLV
            go_enter Try.func4, Try.ntmps4
            go_upto_region 1 with (fail)
            rw [← HW0.out]
            go_upto_region 4 with (first
              | (refine wpList_load_mid rfl 25 _ rfl w.heap.size 0 (by rfl) (TreeV I S k H) _ HRT.out Try.underlying25 rfl ITL.out ?_)
              | (go_at_call 5; refine (HLO.out W0).mono ?_; rintro e w1 ⟨rfl, b1⟩; have HB1 := Lib.hid b1; clear b1)
              | ((with_reducible refine at_load 30 _ rfl ?_); first | refine wpList_load_want (by rfl) 30 _ rfl w.heap.size rfl _ (PurseV I S k H Q nt st).toArray (0, 0) _ (HTB.out _ HB1.out).out Try.underlying30 rfl IK.out ?_ | refine wpList_load_want (by rfl) 30 _ rfl w.heap.size rfl _ (PurseV I S k H Q nt st).toArray (0, 0) _ (HTB.out _ HB3.out).out Try.underlying30 rfl IK.out ?_)
              | (go_at_call 9; refine (HPL.out w1).mono ?_; rintro e w2 ⟨rfl, b2⟩; have HB2 := Lib.hid (HB1.out.trans (b2.mono HB1.out.size)); clear b2)
              | (go_at_call 8; refine (HRI.out w2).mono ?_; rintro e w3 ⟨rfl, b3⟩; have HB3 := Lib.hid (HB2.out.trans (b3.mono HB2.out.size)); clear b3)
              | (go_at_call 11; refine (HSG.out _ w3 (HT0.out.later HB3.out)).mono ?_; rintro e w4 ⟨sv, rfl, -, b4⟩; have HB4 := Lib.hid (HB3.out.trans (b4.mono HB3.out.size)); clear b4)
              | ((with_reducible refine at_store 30 _ _ rfl ?_); refine wpList_store_new rfl 30 _ _ rfl (PurseV I S k H qx nt st).toArray rfl rfl 30 _ IQ.out (by rw [SQ.out]; rfl) OQ.out ?_))
            obtain ⟨qb, Hqb⟩ : ∃ b, Hid (b = w4.heap.size) := ⟨_, Lib.hid rfl⟩
            obtain ⟨V4, HV4, HBV4, HRQ4⟩ : ∃ W, Hid (W = w4.alloc (.cells (PurseV I S k H qx nt st).toArray 30)) ∧ Hid (Below W0.heap.size W0 W) ∧ Hid (W.heap[qb]? = some (.cells (PurseV I S k H qx nt st).toArray 30 (0, 0))) := ⟨_, Lib.hid rfl, Lib.hid (HB4.out.alloc HB4.out.size _), Lib.hid (by rw [Hqb.out]; exact heap_alloc_new _ _)⟩
            rw [← HV4.out, ← Hqb.out]
            go_upto_region 5 with (first
              | ((with_reducible refine at_load 30 _ rfl ?_); first | refine wpList_load_want (by rfl) 30 _ rfl w.heap.size rfl _ (PurseV I S k H Q nt st).toArray (0, 0) _ (HTB.out _ HBV4.out).out Try.underlying30 rfl IK.out ?_)
              | (go_at_call 10; refine (HCR.out V4).mono ?_; rintro e w5 ⟨rfl, b5⟩; have HB5 := Lib.hid (HBV4.out.trans (b5.mono HBV4.out.size)); have HRQ5 := Lib.hid ((b5.block _ (Array.getElem?_eq_some_iff.1 HRQ4.out).1).trans HRQ4.out); clear b5)
              | ((with_reducible refine at_store 30 _ _ rfl ?_); refine wpList_store_new rfl 30 _ _ rfl (PurseV I S k H nt nt st).toArray rfl rfl 30 _ ICt.out (by rw [HSC.out]; rfl) (PurseV_one _ _ _ _ _ _ _) ?_))
            obtain ⟨cb, Hcb⟩ : ∃ b, Hid (b = w5.heap.size) := ⟨_, Lib.hid rfl⟩
            obtain ⟨WC, HWC, HBC, HRC1, HRQ⟩ : ∃ W, Hid (W = w5.alloc (.cells (PurseV I S k H nt nt st).toArray 30)) ∧ Hid (Below W0.heap.size W0 W) ∧ Hid (W.heap[cb]? = some (.cells (PurseV I S k H nt nt st).toArray 30 (0, 0))) ∧ Hid (W.heap[qb]? = some (.cells (PurseV I S k H qx nt st).toArray 30 (0, 0))) := ⟨_, Lib.hid rfl, Lib.hid (HB5.out.alloc HB5.out.size _), Lib.hid (by rw [Hcb.out]; exact heap_alloc_new _ _), Lib.hid ((heap_alloc_old _ _ (Array.getElem?_eq_some_iff.1 HRQ5.out).1).trans HRQ5.out)⟩
            rw [← HWC.out, ← Hcb.out]
            have HROW : Hid (∀ w', Below WC.heap.size WC w' → Hid (w'.heap[w.heap.size]? = some (.cells (PurseV I S k H Q nt st).toArray 30 (0, 0))) ∧ Hid (w'.heap[qb]? = some (.cells (PurseV I S k H qx nt st).toArray 30 (0, 0))) ∧ Hid (w'.heap[cb]? = some (.cells (PurseV I S k H nt nt st).toArray 30 (0, 0))) ∧ Hid (Below w.heap.size w w')) := Lib.hid (fun w' hb => ⟨HTB.out w' (HBC.out.trans (hb.mono HBC.out.size)), Lib.hid ((hb.block _ (Array.getElem?_eq_some_iff.1 HRQ.out).1).trans HRQ.out), Lib.hid ((hb.block _ (Array.getElem?_eq_some_iff.1 HRC1.out).1).trans HRC1.out), Lib.hid (HB0.out.trans ((HBC.out.trans (hb.mono HBC.out.size)).mono HB0.out.size))⟩)
            have HCC : Hid (Below WC.heap.size WC WC) := Lib.hid (Below.refl _ _)
            try simp only [Act.put]
            refine Wild.region_b (fun k => match k with | 1 => some (.fix (.int .i64 LP)) | 3 => some (.fix (.int .i64 LC)) | _ => none) (fun _ => []) rfl (by kernel_rfl) (fun vs hvs => ?_)
            have v1 : vs 1 = .int .i64 LP := hvs 1 _ rfl
            have v3 : vs 3 = .int .i64 LC := hvs 3 _ rfl
            refine Wild.walk_load 30 _ _ _ (PurseV I S k H Q nt st) _ rfl (by rfl) rfl rfl (fun w' hw => rangeAt_row (HROW.out w' (HCC.out.trans (Below.mono hw.1 HCC.out.size))).1.out) Try.underlying30 rfl IKL.out ?_
            simp only [Act.put, List.setIfInBounds_toArray, List.set_cons_zero, List.set_cons_succ]
            refine Wild.walk_wild _ rfl (by rfl) (fun w' hw K hK => ?_) ?_
            · go_simp
              go_at_call 12
              refine (HLp.out w').mono ?_
              rintro e w'' ⟨rfl, hb⟩
              exact hK.out _ _ (hw.1.trans (hb.mono hw.1.size)) hb rfl trivial
            rw [v1]
            simp only [Act.put, List.setIfInBounds_toArray, List.set_cons_zero, List.set_cons_succ]
            refine Wild.walk_load 30 _ _ _ (PurseV I S k H nt nt st) _ rfl (by rfl) rfl rfl (fun w' hw => rangeAt_row (HROW.out w' (HCC.out.trans (Below.mono hw.1 HCC.out.size))).2.2.1.out) Try.underlying30 rfl ICL.out ?_
            simp only [Act.put, List.setIfInBounds_toArray, List.set_cons_zero, List.set_cons_succ]
            refine Wild.walk_wild _ rfl (by rfl) (fun w' hw K hK => ?_) ?_
            · go_simp
              go_at_call 12
              refine (HLc.out w').mono ?_
              rintro e w'' ⟨rfl, hb⟩
              exact hK.out _ _ (hw.1.trans (hb.mono hw.1.size)) hb rfl trivial
            rw [v3]
            simp only [Act.put, List.setIfInBounds_toArray, List.set_cons_zero, List.set_cons_succ]
            refine Wild.walk_simple rfl (by rfl) (by rfl) (fun K hK => ?_); go_big_quiet_op; first | (refine hK _ ?_; clear hK K) | (refine ⟨_, fun _ _ => rfl, hK _ ?_⟩; clear hK K)
            refine Wild.walk_simple rfl (by rfl) (by rfl) (fun K hK => ?_); go_big_quiet_op; first | (refine hK _ ?_; clear hK K) | (refine ⟨_, fun _ _ => rfl, hK _ ?_⟩; clear hK K)
            try simp only [ew]
            refine Wild.walk_nil ?_
            intro w6 hw6 _
            have HC6 : Hid (Below WC.heap.size WC w6) := Lib.hid hw6
            clear hw6 hvs v1 v3
            have kn := purse_N (HROW.out w6 HC6.out).1.out HHI.out HHS.out
            have kd := purse_D (HROW.out w6 HC6.out).1.out HHI.out HHS.out
            go_upto_region 10 with (first
              | ((with_reducible refine at_load 30 _ rfl ?_); first | refine wpList_load_want (by rfl) 30 _ rfl cb rfl _ (PurseV I S k H nt nt st).toArray (0, 0) _ (HROW.out _ HC6.out).2.2.1.out Try.underlying30 rfl ICt.out ?_ | refine wpList_load_want (by rfl) 30 _ rfl cb rfl _ (PurseV I S k H nt nt st).toArray (0, 0) _ (HROW.out _ HC7.out).2.2.1.out Try.underlying30 rfl ICt.out ?_ | refine wpList_load_want (by rfl) 30 _ rfl w.heap.size rfl _ (PurseV I S k H Q nt st).toArray (0, 0) _ (HROW.out _ HC8.out).1.out Try.underlying30 rfl IK.out ?_)
              | (go_at_call 12; (with_reducible refine (HLc.out w6).mono ?_); rintro e w7 ⟨rfl, b7⟩; have HC7 := Lib.hid (HC6.out.trans (b7.mono HC6.out.size)); clear b7)
              | (go_at_call 15; refine (HRP.out w7).mono ?_; rintro e w8 ⟨rfl, b8⟩; have HC8 := Lib.hid (HC7.out.trans (b8.mono HC7.out.size)); clear b8)
              | (go_at_call 12; (with_reducible refine (HLp.out w8).mono ?_); rintro e w9 ⟨rfl, b9⟩; have HC9 := Lib.hid (HC8.out.trans (b9.mono HC8.out.size)); clear b9))
            clear kn kd
            try simp only [Act.put]
            refine Wild.region_b (fun k => match k with | 0 => some (.fix (.bool true)) | 7 => some (.fix (.int .i64 LQ)) | 9 => some (.fix (.int .i64 LP)) | 15 => some (.fix (.bool true)) | _ => none) (fun _ => []) rfl (by kernel_rfl) (fun vs hvs => ?_)
            have v0 : vs 0 = .bool true := hvs 0 _ rfl
            have v7 : vs 7 = .int .i64 LQ := hvs 7 _ rfl
            have v9 : vs 9 = .int .i64 LP := hvs 9 _ rfl
            have v15 : vs 15 = .bool true := hvs 15 _ rfl
            refine Wild.walk_wild _ rfl (by rfl) (fun w' hw K hK => ?_) ?_
            · go_simp
              go_at_call 6
              refine (HAL.out w').mono ?_
              rintro e w'' ⟨rfl, hb⟩
              exact hK.out _ _ (hw.1.trans (hb.mono hw.1.size)) hb rfl trivial
            rw [v0]
            simp only [Act.put, List.setIfInBounds_toArray, List.set_cons_zero, List.set_cons_succ]
            refine Wild.walk_simple rfl (by rfl) (by rfl) (fun K hK => ?_); go_big_quiet_op; first | (refine hK _ ?_; clear hK K) | (refine ⟨_, fun _ _ => rfl, hK _ ?_⟩; clear hK K)
            refine Wild.walk_simple rfl (by rfl) (by rfl) (fun K hK => ?_); go_big_quiet_op; first | (refine hK _ ?_; clear hK K) | (refine ⟨_, fun _ _ => rfl, hK _ ?_⟩; clear hK K)
            refine Wild.walk_simple rfl (by rfl) (by rfl) (fun K hK => ?_); go_big_quiet_op; first | (refine hK _ ?_; clear hK K) | (refine ⟨_, fun _ _ => rfl, hK _ ?_⟩; clear hK K)
            refine Wild.walk_simple rfl (by rfl) (by rfl) (fun K hK => ?_); go_big_quiet_op; first | (refine hK _ ?_; clear hK K) | (refine ⟨_, fun _ _ => rfl, hK _ ?_⟩; clear hK K)
            refine Wild.walk_simple rfl (by rfl) (by rfl) (fun K hK => ?_); go_big_quiet_op; first | (refine hK _ ?_; clear hK K) | (refine ⟨_, fun _ _ => rfl, hK _ ?_⟩; clear hK K)
            refine Wild.walk_load 30 _ _ _ (PurseV I S k H qx nt st) _ rfl (by rfl) rfl rfl (fun w' hw => rangeAt_row (HROW.out w' (HC9.out.trans (Below.mono hw.1 HC9.out.size))).2.1.out) Try.underlying30 rfl IQL.out ?_
            simp only [Act.put, List.setIfInBounds_toArray, List.set_cons_zero, List.set_cons_succ]
            refine Wild.walk_wild _ rfl (by rfl) (fun w' hw K hK => ?_) ?_
            · go_simp
              go_at_call 12
              refine (HLq.out w').mono ?_
              rintro e w'' ⟨rfl, hb⟩
              exact hK.out _ _ (hw.1.trans (hb.mono hw.1.size)) hb rfl trivial
            rw [v7]
            simp only [Act.put, List.setIfInBounds_toArray, List.set_cons_zero, List.set_cons_succ]
            refine Wild.walk_load 30 _ _ _ (PurseV I S k H Q nt st) _ rfl (by rfl) rfl rfl (fun w' hw => rangeAt_row (HROW.out w' (HC9.out.trans (Below.mono hw.1 HC9.out.size))).1.out) Try.underlying30 rfl IKL.out ?_
            simp only [Act.put, List.setIfInBounds_toArray, List.set_cons_zero, List.set_cons_succ]
            refine Wild.walk_wild _ rfl (by rfl) (fun w' hw K hK => ?_) ?_
            · go_simp
              go_at_call 12
              refine (HLp.out w').mono ?_
              rintro e w'' ⟨rfl, hb⟩
              exact hK.out _ _ (hw.1.trans (hb.mono hw.1.size)) hb rfl trivial
            rw [v9]
            simp only [Act.put, List.setIfInBounds_toArray, List.set_cons_zero, List.set_cons_succ]
            refine Wild.walk_simple rfl (by rfl) (by rfl) (fun K hK => ?_); go_big_quiet_op; first | (refine hK _ ?_; clear hK K) | (refine ⟨_, fun _ _ => rfl, hK _ ?_⟩; clear hK K)
            try simp only [EW1.out]
            refine Wild.walk_simple rfl (by rfl) (by rfl) (fun K hK => ?_); go_big_quiet_op; first | (refine hK _ ?_; clear hK K) | (refine ⟨_, fun _ _ => rfl, hK _ ?_⟩; clear hK K)
            refine Wild.walk_simple rfl (by rfl) (by rfl) (fun K hK => ?_); go_big_quiet_op; first | (refine hK _ ?_; clear hK K) | (refine ⟨_, fun _ _ => rfl, hK _ ?_⟩; clear hK K)
            refine Wild.walk_simple rfl (by rfl) (by rfl) (fun K hK => ?_); go_big_quiet_op; first | (refine hK _ ?_; clear hK K) | (refine ⟨_, fun _ _ => rfl, hK _ ?_⟩; clear hK K)
            refine Wild.walk_load 30 _ _ _ (PurseV I S k H qx nt st) _ rfl (by rfl) rfl rfl (fun w' hw => rangeAt_row (HROW.out w' (HC9.out.trans (Below.mono hw.1 HC9.out.size))).2.1.out) Try.underlying30 rfl IQL.out ?_
            simp only [Act.put, List.setIfInBounds_toArray, List.set_cons_zero, List.set_cons_succ]
            refine Wild.walk_wild _ rfl (by rfl) (fun w' hw K hK => ?_) ?_
            · go_simp
              go_at_call 15
              refine (HRq.out w').mono ?_
              rintro e w'' ⟨rfl, hb⟩
              exact hK.out _ _ (hw.1.trans (hb.mono hw.1.size)) hb rfl trivial
            rw [v15]
            simp only [Act.put, List.setIfInBounds_toArray, List.set_cons_zero, List.set_cons_succ]
            refine Wild.walk_simple rfl (by rfl) (by rfl) (fun K hK => ?_); go_big_quiet_op; first | (refine hK _ ?_; clear hK K) | (refine ⟨_, fun _ _ => rfl, hK _ ?_⟩; clear hK K)
            refine Wild.walk_simple rfl (by rfl) (by rfl) (fun K hK => ?_); go_big_quiet_op; first | (refine hK _ ?_; clear hK K) | (refine ⟨_, fun _ _ => rfl, hK _ ?_⟩; clear hK K)
            refine Wild.walk_simple rfl (by rfl) (by rfl) (fun K hK => ?_); go_big_quiet_op; first | (refine hK _ ?_; clear hK K) | (refine ⟨_, fun _ _ => rfl, hK _ ?_⟩; clear hK K)
            refine Wild.walk_cell 3 _ _ _ (.int .i64 nt) _ rfl (by rfl) rfl rfl (fun w' hw => purse_D (HROW.out w' (HC9.out.trans (Below.mono hw.1 HC9.out.size))).2.1.out HHI.out HHS.out) Try.underlying3 rfl ?_
            simp only [Act.put, List.setIfInBounds_toArray, List.set_cons_zero, List.set_cons_succ]
            refine Wild.walk_simple rfl (by rfl) (by rfl) (fun K hK => ?_); go_big_quiet_op; first | (refine hK _ ?_; clear hK K) | (refine ⟨_, fun _ _ => rfl, hK _ ?_⟩; clear hK K)
            refine Wild.walk_cell 3 _ _ _ (.int .i64 qx) _ rfl (by rfl) rfl rfl (fun w' hw => purse_N (HROW.out w' (HC9.out.trans (Below.mono hw.1 HC9.out.size))).2.1.out HHI.out HHS.out) Try.underlying3 rfl ?_
            simp only [Act.put, List.setIfInBounds_toArray, List.set_cons_zero, List.set_cons_succ]
            refine Wild.walk_simple rfl (by rfl) (by rfl) (fun K hK => ?_); go_big_quiet_op; first | (refine hK _ ?_; clear hK K) | (refine ⟨_, fun _ _ => rfl, hK _ ?_⟩; clear hK K)
            try simp only [hge]
            refine Wild.walk_simple rfl (by rfl) (by rfl) (fun K hK => ?_); go_big_quiet_op; first | (refine hK _ ?_; clear hK K) | (refine ⟨_, fun _ _ => rfl, hK _ ?_⟩; clear hK K)
            refine Wild.walk_simple rfl (by rfl) (by rfl) (fun K hK => ?_); go_big_quiet_op; first | (refine hK _ ?_; clear hK K) | (refine ⟨_, fun _ _ => rfl, hK _ ?_⟩; clear hK K)
            refine Wild.walk_simple rfl (by rfl) (by rfl) (fun K hK => ?_); go_big_quiet_op; first | (refine hK _ ?_; clear hK K) | (refine ⟨_, fun _ _ => rfl, hK _ ?_⟩; clear hK K)
            refine Wild.walk_simple rfl (by rfl) (by rfl) (fun K hK => ?_); go_big_quiet_op; first | (refine hK _ ?_; clear hK K) | (refine ⟨_, fun _ _ => rfl, hK _ ?_⟩; clear hK K)
            refine Wild.walk_simple rfl (by rfl) (by rfl) (fun K hK => ?_); go_big_quiet_op; first | (refine hK _ ?_; clear hK K) | (refine ⟨_, fun _ _ => rfl, hK _ ?_⟩; clear hK K)
            refine Wild.walk_cell 3 _ _ _ (.int .i64 nt) _ rfl (by rfl) rfl rfl (fun w' hw => purse_D (HROW.out w' (HC9.out.trans (Below.mono hw.1 HC9.out.size))).2.1.out HHI.out HHS.out) Try.underlying3 rfl ?_
            simp only [Act.put, List.setIfInBounds_toArray, List.set_cons_zero, List.set_cons_succ]
            refine Wild.walk_simple rfl (by rfl) (by rfl) (fun K hK => ?_); go_big_quiet_op; first | (refine hK _ ?_; clear hK K) | (refine ⟨_, fun _ _ => rfl, hK _ ?_⟩; clear hK K)
            refine Wild.walk_cell 3 _ _ _ (.int .i64 nt) _ rfl (by rfl) rfl rfl (fun w' hw => purse_D (HROW.out w' (HC9.out.trans (Below.mono hw.1 HC9.out.size))).1.out HHI.out HHS.out) Try.underlying3 rfl ?_
            simp only [Act.put, List.setIfInBounds_toArray, List.set_cons_zero, List.set_cons_succ]
            refine Wild.walk_simple rfl (by rfl) (by rfl) (fun K hK => ?_); go_big_quiet_op; first | (refine hK _ ?_; clear hK K) | (refine ⟨_, fun _ _ => rfl, hK _ ?_⟩; clear hK K)
            refine Wild.walk_simple rfl (by rfl) (by rfl) (fun K hK => ?_); go_big_quiet_op; first | (refine hK _ ?_; clear hK K) | (refine ⟨_, fun _ _ => rfl, hK _ ?_⟩; clear hK K)
            refine Wild.walk_simple rfl (by rfl) (by rfl) (fun K hK => ?_); go_big_quiet_op; first | (refine hK _ ?_; clear hK K) | (refine ⟨_, fun _ _ => rfl, hK _ ?_⟩; clear hK K)
            refine Wild.walk_simple rfl (by rfl) (by rfl) (fun K hK => ?_); go_big_quiet_op; first | (refine hK _ ?_; clear hK K) | (refine ⟨_, fun _ _ => rfl, hK _ ?_⟩; clear hK K)
            refine Wild.walk_nil ?_
            intro wX hwX _
            have HCX : Hid (Below WC.heap.size WC wX) := Lib.hid (HC9.out.trans (Below.mono hwX HC9.out.size))
            clear hwX hvs
            go_wp2_with fail
            go_ret
            exact ⟨rfl, (HROW.out _ HCX.out).2.2.2.out⟩
    · have hti : ¬ (text.length : Int) ≤ 1000 := by omega
      clear hI hS hk
      go_enter Try.func4, Try.ntmps4
      go_upto_region 1 with (fail)
      rw [← HW0.out]
      go_wp2_with (first
        | (refine wpList_load_mid rfl 25 _ rfl w.heap.size 0 (by rfl) (TreeV I S k h) _ HRT.out Try.underlying25 rfl ITL.out ?_)
        | (go_at_call 5; refine (HLO.out W0).mono ?_; rintro e w1 ⟨rfl, b1⟩; have HB1 := Lib.hid b1; clear b1)
        | (go_at_call 6; refine (HAL.out w1).mono ?_; rintro e w2 ⟨rfl, b2⟩; have HB2 := Lib.hid (HB1.out.trans (b2.mono HB1.out.size)); clear b2))
      go_ret
      exact ⟨rfl, HB0.out.trans (HB2.out.mono HB0.out.size)⟩
end Go.Proofs.Ytcnelahmbfggcaa


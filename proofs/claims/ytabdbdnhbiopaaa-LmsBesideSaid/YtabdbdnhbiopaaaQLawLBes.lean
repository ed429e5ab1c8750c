/- The walk of the law LmsBeside. -/
import Derived.Test.YtabdbdnhbiopaaaG13
namespace Go.Proofs.Ytabdbdnhbiopaaa
open Go Go.RowKit
set_option maxRecDepth 100000
set_option maxHeartbeats 1000000
attribute [local irreducible] Wild.walk WildF.walk

theorem beside_piece (I S : List UInt8) (k : Int) (H n i : Nat) : ∀ j, i < j → ((besideN I S k H n j).drop (32 * i)).take 32 = knotV I S k H ((n / 2 ^ i) ^^^ 1)
  | 0, h => by omega
  | j + 1, h => by
    have hl := besideN_length I S k H n j
    rw [besideN]
    by_cases hn : i < j
    · rw [List.drop_append_of_le_length (by omega), List.take_append_of_le_length (by rw [List.length_drop]; omega)]
      exact beside_piece I S k H n i j hn
    · obtain rfl : i = j := by omega
      rw [List.drop_append, List.drop_of_length_le (by omega), hl, Nat.sub_self, List.drop_zero, List.nil_append, List.take_of_length_le]
      rw [knotV_length]
      exact Nat.le_refl _
theorem div_one_of (P Q : Nat) (h : Q < P) : (P + Q) / P = 1 := by rw [Nat.add_div_left Q (by omega), Nat.div_eq_of_lt h]
theorem knotOk_in (k : Int) (H m : Nat) (hm : mayT k H = true) (h1 : 1 ≤ m) (h2 : m < 2 ^ (H + 1)) : knotOk k H m = true := by
  rw [knotOk, hm, Bool.true_and, decide_eq_true_iff, Int.toNat_natCast]; omega
theorem LmsBeside_main (I S : List UInt8) (k h q : Int) (tv : Value) (text : List UInt8) (w : World) (hI : I.length = 16) (hS : S.length = 32) (hk : -9223372036854775808 ≤ k ∧ k ≤ 9223372036854775807) (ht : Sl w tv text) :
    Calls Try.prog 8 #[.agg (TreeV I S k h).toArray, .int .i64 q, tv] w fun e w' => e = .returned (.bool true) ∧ Below w.heap.size w w' := by
  obtain ⟨W0, HW0, HB0, HS0, HR0⟩ : ∃ V, Hid (V = w.alloc (.cells (TreeV I S k h).toArray 25)) ∧ Hid (Below w.heap.size w V) ∧ Hid (V.heap.size = w.heap.size + 1) ∧ Hid (V.heap[w.heap.size]? = some (.cells (TreeV I S k h).toArray 25 (0, 0))) := ⟨_, Lib.hid rfl, Lib.hid ((Below.refl _ _).alloc (Nat.le_refl _) _), Lib.hid (by simp), Lib.hid (heap_alloc_new _ _)⟩
  have IK : Hid ((Try.prog.info? 25).map (·.size) = some (TreeV I S k h).toArray.size) := Lib.hid (by rw [info_tree, List.size_toArray, TreeV_length _ _ _ _ hI hS])
  have HTB : Hid (∀ w', Below W0.heap.size W0 w' → Hid (w'.heap[w.heap.size]? = some (.cells (TreeV I S k h).toArray 25 (0, 0)))) := Lib.hid (fun w' hb => Lib.hid ((hb.block _ (by rw [HS0.out]; omega)).trans HR0.out))
  have HBZ : Hid (Below W0.heap.size W0 W0) := Lib.hid (Below.refl _ _)
  have HLO := Lib.hid (fun w' => low05_any I S k h w' hI hS)
  have HAL := Lib.hid alive05_any
  have HHI := Lib.hid hI
  have HHS := Lib.hid hS
  have HT0 := Lib.hid (ht.later HB0.out)
  obtain ⟨ta, tc, rfl⟩ := ht.shape
  clear ht
  cases hlo : lowB h
  · rw [hlo] at HLO
    clear hlo
    clear hI hS hk
    go_enter Try.func8, Try.ntmps8
    go_upto_region 1 with (fail)
    rw [← HW0.out]
    go_wp2_with (first
      | ((with_reducible refine at_load 25 _ rfl ?_); first | refine wpList_load_row rfl 25 _ rfl _ rfl _ (TreeV I S k h).toArray (0, 0) _ (HTB.out _ HBZ.out).out Try.underlying25 rfl IK.out ?_)
      | (go_at_call 9; refine (HLO.out W0).mono ?_; rintro e w1 ⟨rfl, b1⟩; have HB1 := Lib.hid (HBZ.out.trans (b1.mono HBZ.out.size)); clear b1)
      | (go_at_call 10; refine (HAL.out w1).mono ?_; rintro e w2 ⟨rfl, b2⟩; have HB2 := Lib.hid (HB1.out.trans (b2.mono HB1.out.size)); clear b2))
    go_ret
    exact ⟨rfl, HB0.out.trans (HB2.out.mono HB0.out.size)⟩
  · rw [hlo] at HLO
    by_cases htl : text.length ≤ 2000
    · have hti : (text.length : Int) ≤ 2000 := by omega
      have hh5 : mayT k h = true → 1 ≤ h ∧ h ≤ 5 := fun e => ((mayT_iff k h).1 e).2
      have HP := Lib.hid (fun w' => Public_lms I S k h w' hI hS hk)
      have HSG := Lib.hid (fun tv w' h1 => Sign_lms I S k h q tv text w' hI hS hk h1 (by omega))
      cases hm : mayT k h
      · have e1 : errL k h = 1 := by rw [errL, hm]; rfl
        have e2 : lsigE k h q = 1 := by rw [lsigE, hm]; rfl
        rw [e1] at HP
        rw [e2] at HSG
        clear hI hS hk hlo hh5 hm e1 e2
        go_enter Try.func8, Try.ntmps8
        go_upto_region 1 with (fail)
        rw [← HW0.out]
        go_wp2_with (first
          | ((with_reducible refine at_load 25 _ rfl ?_); first | refine wpList_load_row rfl 25 _ rfl _ rfl _ (TreeV I S k h).toArray (0, 0) _ (HTB.out _ HBZ.out).out Try.underlying25 rfl IK.out ?_ | refine wpList_load_row rfl 25 _ rfl _ rfl _ (TreeV I S k h).toArray (0, 0) _ (HTB.out _ HB1.out).out Try.underlying25 rfl IK.out ?_ | refine wpList_load_row rfl 25 _ rfl _ rfl _ (TreeV I S k h).toArray (0, 0) _ (HTB.out _ HB2.out).out Try.underlying25 rfl IK.out ?_)
          | (go_at_call 9; refine (HLO.out W0).mono ?_; rintro e w1 ⟨rfl, b1⟩; have HB1 := Lib.hid (HBZ.out.trans (b1.mono HBZ.out.size)); clear b1)
          | (go_at_call 11; refine (HSG.out _ w1 (HT0.out.later HB1.out)).mono ?_; rintro e w2 ⟨sv, rfl, s2, b2⟩; have HB2 := Lib.hid (HB1.out.trans (b2.mono HB1.out.size)); clear s2; clear b2)
          | (go_at_call 18; refine (HP.out w2).mono ?_; rintro e w3 ⟨pv, rfl, s3, b3⟩; have HB3 := Lib.hid (HB2.out.trans (b3.mono HB2.out.size)); clear s3; clear b3)
          | (go_at_call 10; refine (HAL.out w3).mono ?_; rintro e w4 ⟨rfl, b4⟩; have HB4 := Lib.hid (HB3.out.trans (b4.mono HB3.out.size)); clear b4))
        go_ret
        exact ⟨rfl, HB0.out.trans (HB4.out.mono HB0.out.size)⟩
      · obtain ⟨H, rfl⟩ : ∃ H : Nat, h = H := ⟨h.toNat, by have := hh5 hm; omega⟩
        have hH := hh5 hm
        obtain ⟨K, rfl⟩ : ∃ K : Nat, k = K := ⟨k.toNat, by have := (isW_iff _).1 ((mayT_iff _ _).1 hm).1; omega⟩
        have hK : K = 1 ∨ K = 2 ∨ K = 4 ∨ K = 8 := by have := (isW_iff _).1 ((mayT_iff _ _).1 hm).1; omega
        have e1 : errL K H = 0 := by rw [errL, hm]; rfl
        obtain ⟨p5, p1⟩ := pow5 H (by omega)
        obtain ⟨P, HPo⟩ : ∃ P, Hid (P = 2 ^ H) := ⟨_, Lib.hid rfl⟩
        rw [← HPo.out] at p5 p1
        have ew := wrap_pow H P HPo.out (by omega)
        obtain ⟨M, m1, m2⟩ : ∃ M : Nat, manyW K = M ∧ M ≤ 265 := ⟨_, (manyW_w K hK).1, (manyW_w K hK).2⟩
        rw [e1] at HP
        cases hq : leafOk H q
        · have e2 : lsigE K H q = 12 := by rw [lsigE, hm, hq]; rfl
          rw [e2] at HSG
          clear hI hS hk hlo hh5 hm hq m1 m2 hK ew p5 p1 hH e1 e2
          go_enter Try.func8, Try.ntmps8
          go_upto_region 1 with (fail)
          rw [← HW0.out]
          go_wp2_with (first
            | ((with_reducible refine at_load 25 _ rfl ?_); first | refine wpList_load_row rfl 25 _ rfl _ rfl _ (TreeV I S K H).toArray (0, 0) _ (HTB.out _ HBZ.out).out Try.underlying25 rfl IK.out ?_ | refine wpList_load_row rfl 25 _ rfl _ rfl _ (TreeV I S K H).toArray (0, 0) _ (HTB.out _ HB1.out).out Try.underlying25 rfl IK.out ?_ | refine wpList_load_row rfl 25 _ rfl _ rfl _ (TreeV I S K H).toArray (0, 0) _ (HTB.out _ HB2.out).out Try.underlying25 rfl IK.out ?_)
            | (go_at_call 9; refine (HLO.out W0).mono ?_; rintro e w1 ⟨rfl, b1⟩; have HB1 := Lib.hid (HBZ.out.trans (b1.mono HBZ.out.size)); clear b1)
            | (go_at_call 11; refine (HSG.out _ w1 (HT0.out.later HB1.out)).mono ?_; rintro e w2 ⟨sv, rfl, s2, b2⟩; have HB2 := Lib.hid (HB1.out.trans (b2.mono HB1.out.size)); clear s2; clear b2)
            | (go_at_call 18; refine (HP.out w2).mono ?_; rintro e w3 ⟨pv, rfl, s3, b3⟩; have HB3 := Lib.hid (HB2.out.trans (b3.mono HB2.out.size)); clear s3; clear b3)
            | (go_at_call 10; refine (HAL.out w3).mono ?_; rintro e w4 ⟨rfl, b4⟩; have HB4 := Lib.hid (HB3.out.trans (b4.mono HB3.out.size)); clear b4))
          go_ret
          exact ⟨rfl, HB0.out.trans (HB4.out.mono HB0.out.size)⟩
        · have hq2 : 0 ≤ q ∧ q < P := by
            rw [leafOk, decide_eq_true_iff, Int.toNat_natCast, ← HPo.out] at hq
            exact hq
          obtain ⟨Q, rfl⟩ : ∃ Q : Nat, q = Q := ⟨q.toNat, by omega⟩
          have hQ : Q < P := by omega
          have e2 : lsigE K H Q = 0 := by rw [lsigE, hm, hq]; rfl
          have e3 : lsigV I S K H Q text = lsigN I S K H Q text := by rw [lsigV, hm, hq]; rfl
          have e4 : pubL I S K H = pubP I S K H := by rw [pubL, hm]; rfl
          obtain ⟨f1, -, f3, -, -, -⟩ := lsig_facts I S K H Q text hm (by omega)
          obtain ⟨g1, -, -, -, -, -, -, g8⟩ := open_pub I S K H hI hm
          obtain ⟨B, HBd⟩ : ∃ B, Hid (B = 36 + 32 * (manyW K).toNat + 8) := ⟨_, Lib.hid rfl⟩
          rw [← HBd.out] at f1 f3
          have hB9 : B ≤ 9000 := by rw [HBd.out, m1, Int.toNat_natCast]; omega
          obtain ⟨L, HL⟩ : ∃ L, Hid (L = B + 32 * H) := ⟨_, Lib.hid rfl⟩
          rw [← HL.out] at f1
          obtain ⟨Z, HZ⟩ : ∃ Z, Hid (Z = lsigN I S K H Q text) := ⟨_, Lib.hid rfl⟩
          obtain ⟨Pk, HPk⟩ : ∃ Z, Hid (Z = pubP I S K H) := ⟨_, Lib.hid rfl⟩
          obtain ⟨Rt, HRt⟩ : ∃ Z, Hid (Z = knotV I S K H 1) := ⟨_, Lib.hid rfl⟩
          have HRtL : Hid (Rt.length = 32) := Lib.hid (by rw [HRt.out]; exact knotV_length _ _ _ _ _)
          rw [← HZ.out] at f1 f3 e3
          rw [← HPk.out] at g1 g8 e4
          rw [← HRt.out] at g8
          rw [e2, e3] at HSG
          rw [e4] at HP
          have HZL := Lib.hid f1
          have HPL := Lib.hid g1
          have HZD := Lib.hid f3
          have HPD := Lib.hid g8
          have HKM : Hid (∀ (m : Nat) (w' : World), 1 ≤ m → m < 2 ^ (H + 1) → Calls Try.prog 20 #[.agg (TreeV I S K H).toArray, .int .i64 m] w' fun e w'' => e = .returned (.tuple #[.agg (B8 (knotV I S K H m)).toArray, .int .i64 0]) ∧ Below w'.heap.size w' w'') := Lib.hid (fun m w' h1 h2 => by
            have h := Knot_lms I S K H m w' hI hS hk
            simp only [knotOk_in K H m hm h1 h2, if_true, Int.toNat_natCast] at h
            exact h)
          have HK1 := Lib.hid (fun w' => HKM.out 1 w' (by decide) (Nat.one_lt_two_pow (by omega)))
          rw [← HRt.out] at HK1
          have hL32 : decide ((L : Int) < 32 * (H : Int)) = false := decide_eq_false (by rw [HL.out]; omega)
          have HSUB : Hid ((L : Int) - 32 * (H : Int) = (B : Int)) := Lib.hid (by rw [HL.out]; omega)
          have hL92 : L ≤ 9200 := by rw [HL.out]; omega
          have KT := Lib.hid (fun w' (hb : Below W0.heap.size W0 w') => tree_H (HTB.out w' hb).out hI hS)
          have hd56 : decide ((56 : Int) < 56) = false := by decide
          clear hd56
          clear hI hS hk hm hq hq2 e1 e2 e3 e4 m1 m2 hK f1 f3 g1 g8 hlo hh5
          go_enter Try.func8, Try.ntmps8
          go_upto_region 1 with (fail)
          rw [← HW0.out]
          go_upto_region 8 with (first
            | ((with_reducible refine at_load 25 _ rfl ?_); first | refine wpList_load_row rfl 25 _ rfl _ rfl _ (TreeV I S K H).toArray (0, 0) _ (HTB.out _ HBZ.out).out Try.underlying25 rfl IK.out ?_ | refine wpList_load_row rfl 25 _ rfl _ rfl _ (TreeV I S K H).toArray (0, 0) _ (HTB.out _ HB1.out).out Try.underlying25 rfl IK.out ?_ | refine wpList_load_row rfl 25 _ rfl _ rfl _ (TreeV I S K H).toArray (0, 0) _ (HTB.out _ HB2.out).out Try.underlying25 rfl IK.out ?_ | refine wpList_load_row rfl 25 _ rfl _ rfl _ (TreeV I S K H).toArray (0, 0) _ (HTB.out _ HB3.out).out Try.underlying25 rfl IK.out ?_)
            | (go_at_call 9; refine (HLO.out W0).mono ?_; rintro e w1 ⟨rfl, b1⟩; have HB1 := Lib.hid (HBZ.out.trans (b1.mono HBZ.out.size)); clear b1)
            | (go_at_call 11; refine (HSG.out _ w1 (HT0.out.later HB1.out)).mono ?_; rintro e w2 ⟨sv, rfl, s2, b2⟩; have HB2 := Lib.hid (HB1.out.trans (b2.mono HB1.out.size)); obtain ⟨sa, sc, rfl⟩ := Sl.shape s2; obtain ⟨sb, so, rfl, -, q1, q2, hcs⟩ := Sl.cells s2 (by rw [HZL.out, HL.out]; omega); rw [HZL.out] at s2 q1 ⊢; have HSZ := Lib.hid s2; clear s2 hcs; clear b2)
            | (go_at_call 18; refine (HP.out w2).mono ?_; rintro e w3 ⟨pv, rfl, s3, b3⟩; have HB3 := Lib.hid (HB2.out.trans (b3.mono HB2.out.size)); obtain ⟨pa, pc, rfl⟩ := Sl.shape s3; obtain ⟨pb, po, rfl, -, q3, q4, hpcs⟩ := Sl.cells s3 (by rw [HPL.out]; decide); have GPr : Hid (Sl w3 (.slice (some ⟨pb, po + 24, none⟩) 32 (pc - 24)) Rt) := Lib.hid (by have h := Sl.part hpcs 24 32 (pc - 24) (by rw [HPL.out]; omega) (by rw [HPL.out] at q3; omega) (by omega); rw [List.take_of_length_le (by rw [List.length_drop, HPL.out]; omega), HPD.out] at h; exact h); rw [HPL.out] at q3 ⊢; have HSZ3 := Lib.hid (HSZ.out.later b3); clear s3 hpcs; clear b3)
            | (go_at_call 20; refine (HK1.out w3).mono ?_; rintro e w4 ⟨rfl, b4⟩; have HB4 := Lib.hid (HB3.out.trans (b4.mono HB3.out.size)); have HSZ4 := Lib.hid (HSZ3.out.later b4); have GPr4 := Lib.hid (GPr.out.later b4); clear b4)
            | ((with_reducible refine at_store 23 _ _ rfl ?_); refine wpList_store_new rfl 23 _ _ rfl (B8 Rt).toArray rfl rfl 23 _ (arr32 HRtL.out).1 (arr32 HRtL.out).2 (B8_oneA Rt) ?_))
          obtain ⟨rb, Hrb⟩ : ∃ b, Hid (b = w4.heap.size) := ⟨_, Lib.hid rfl⟩
          obtain ⟨W4, HW4, HBW4, HRR, HSW, HPW⟩ : ∃ W, Hid (W = w4.alloc (.cells (B8 Rt).toArray 23)) ∧ Hid (Below W0.heap.size W0 W) ∧ Hid (Sl W (.slice (some ⟨rb, 0, none⟩) 32 32) Rt) ∧ Hid (Sl W (.slice (some ⟨sb, so, none⟩) L sc) Z) ∧ Hid (Sl W (.slice (some ⟨pb, po + 24, none⟩) 32 (pc - 24)) Rt) := ⟨_, Lib.hid rfl, Lib.hid (HB4.out.alloc HB4.out.size _), Lib.hid (Sl.made w4 Rt _ _ 32 rb rfl HRtL.out.symm (by decide) Hrb.out), Lib.hid (HSZ4.out.later ((Below.refl _ _).alloc (Nat.le_refl _) _)), Lib.hid (GPr4.out.later ((Below.refl _ _).alloc (Nat.le_refl _) _))⟩
          rw [← HW4.out, ← Hrb.out]
          try simp only [Act.put]
          refine Wild.region_b (fun _ => none) (fun _ => []) rfl (by kernel_rfl) (fun vs hvs => ?_)
          refine Wild.walk_simple rfl (by rfl) (by rfl) (fun K hK => ?_); go_big_quiet_op; first | (refine hK _ ?_; clear hK K) | (refine ⟨_, fun _ _ => rfl, hK _ ?_⟩; clear hK K)
          refine Wild.walk_simple rfl (by rfl) (by rfl) (fun K hK => ?_); go_big_quiet_op; first | (refine hK _ ?_; clear hK K) | (refine ⟨_, fun _ _ => rfl, hK _ ?_⟩; clear hK K)
          refine Wild.walk_simple rfl (by rfl) (by rfl) (fun K hK => ?_); go_big_quiet_op; first | (refine hK _ ?_; clear hK K) | (refine ⟨_, fun _ _ => rfl, hK _ ?_⟩; clear hK K)
          refine Wild.walk_simple rfl (by rfl) (by rfl) (fun K hK => ?_); go_big_quiet_op; first | (refine hK _ ?_; clear hK K) | (refine ⟨_, fun _ _ => rfl, hK _ ?_⟩; clear hK K)
          refine Wild.walk_run (.int .i64 56) rfl (by rfl) (fun w' _ => by unfold execOp; go_simp) ?_
          simp only [Act.put, List.setIfInBounds_toArray, List.set_cons_zero, List.set_cons_succ]
          refine Wild.walk_simple rfl (by rfl) (by rfl) (fun K hK => ?_); go_big_quiet_op; first | (refine hK _ ?_; clear hK K) | (refine ⟨_, fun _ _ => rfl, hK _ ?_⟩; clear hK K)
          refine Wild.walk_simple rfl (by rfl) (by rfl) (fun K hK => ?_); go_big_quiet_op; first | (refine hK _ ?_; clear hK K) | (refine ⟨_, fun _ _ => rfl, hK _ ?_⟩; clear hK K)
          refine Wild.walk_simple rfl (by rfl) (by rfl) (fun K hK => ?_); go_big_quiet_op; first | (refine hK _ ?_; clear hK K) | (refine ⟨_, fun _ _ => rfl, hK _ ?_⟩; clear hK K)
          refine Wild.walk_simple rfl (by rfl) (by rfl) (fun K hK => ?_); go_big_quiet_op; first | (refine hK _ ?_; clear hK K) | (refine ⟨_, fun _ _ => rfl, hK _ ?_⟩; clear hK K)
          refine Wild.walk_run (.int .i64 L) rfl (by rfl) (fun w' _ => by unfold execOp; go_simp) ?_
          simp only [Act.put, List.setIfInBounds_toArray, List.set_cons_zero, List.set_cons_succ]
          refine Wild.walk_simple rfl (by rfl) (by rfl) (fun K hK => ?_); go_big_quiet_op; first | (refine hK _ ?_; clear hK K) | (refine ⟨_, fun _ _ => rfl, hK _ ?_⟩; clear hK K)
          refine Wild.walk_cell 3 _ _ _ (.int .i64 H) _ rfl (by rfl) rfl rfl (fun w' hw => KT.out w' (HBW4.out.trans (Below.mono hw.1 HBW4.out.size))) Try.underlying3 rfl ?_
          simp only [Act.put, List.setIfInBounds_toArray, List.set_cons_zero, List.set_cons_succ]
          refine Wild.walk_simple rfl (by rfl) (by rfl) (fun K hK => ?_); go_big_quiet_op; first | (refine hK _ ?_; clear hK K) | (refine ⟨_, fun _ _ => rfl, hK _ ?_⟩; clear hK K)
          refine Wild.walk_simple rfl (by rfl) (by rfl) (fun K hK => ?_); go_big_quiet_op; first | (refine hK _ ?_; clear hK K) | (refine ⟨_, fun _ _ => rfl, hK _ ?_⟩; clear hK K)
          try simp only [hL32]
          refine Wild.walk_simple rfl (by rfl) (by rfl) (fun K hK => ?_); go_big_quiet_op; first | (refine hK _ ?_; clear hK K) | (refine ⟨_, fun _ _ => rfl, hK _ ?_⟩; clear hK K)
          refine Wild.walk_simple rfl (by rfl) (by rfl) (fun K hK => ?_); go_big_quiet_op; first | (refine hK _ ?_; clear hK K) | (refine ⟨_, fun _ _ => rfl, hK _ ?_⟩; clear hK K)
          refine Wild.walk_simple rfl (by rfl) (by rfl) (fun K hK => ?_); go_big_quiet_op; first | (refine hK _ ?_; clear hK K) | (refine ⟨_, fun _ _ => rfl, hK _ ?_⟩; clear hK K)
          refine Wild.walk_simple rfl (by rfl) (by rfl) (fun K hK => ?_); go_big_quiet_op; first | (refine hK _ ?_; clear hK K) | (refine ⟨_, fun _ _ => rfl, hK _ ?_⟩; clear hK K)
          refine Wild.walk_run (.string ⟨Rt.toArray⟩) rfl (by rfl) (fun w' hw => ?_) ?_
          · have h : Sl w' (.slice (some ⟨pb, po + 24, none⟩) 32 (pc - 24)) Rt := HPW.out.later hw.1
            have := h.conv
            go_simp
          simp only [Act.put, List.setIfInBounds_toArray, List.set_cons_zero, List.set_cons_succ]
          refine Wild.walk_simple rfl (by rfl) (by rfl) (fun K hK => ?_); go_big_quiet_op; first | (refine hK _ ?_; clear hK K) | (refine ⟨_, fun _ _ => rfl, hK _ ?_⟩; clear hK K)
          refine Wild.walk_run (.string ⟨Rt.toArray⟩) rfl (by rfl) (fun w' hw => ?_) ?_
          · have h : Sl w' (.slice (some ⟨rb, 0, none⟩) 32 32) Rt := HRR.out.later hw.1
            have := h.conv
            go_simp
          simp only [Act.put, List.setIfInBounds_toArray, List.set_cons_zero, List.set_cons_succ]
          refine Wild.walk_simple rfl (by rfl) (by rfl) (fun K hK => ?_); go_big_quiet_op; first | (refine hK _ ?_; clear hK K) | (refine ⟨_, fun _ _ => rfl, hK _ ?_⟩; clear hK K)
          refine Wild.walk_simple rfl (by rfl) (by rfl) (fun K hK => ?_); go_big_quiet_op; first | (refine hK _ ?_; clear hK K) | (refine ⟨_, fun _ _ => rfl, hK _ ?_⟩; clear hK K)
          refine Wild.walk_nil ?_
          intro w5 hw5 _
          have HB45 : Hid (Below W4.heap.size W4 w5) := Lib.hid hw5
          have HB5 : Hid (Below W0.heap.size W0 w5) := Lib.hid (HBW4.out.trans (Below.mono hw5 HBW4.out.size))
          have HSW5 := Lib.hid (HSW.out.later HB45.out)
          clear hw5 hvs HSZ HSZ3 HSZ4 GPr GPr4
          have kh := KT.out w5 HB5.out
          go_upto_region 11 with (fail)
          simp only [HSUB.out]
          clear hL32
          go_upto_region 12 with (fail)
          clear kh hti
          try simp only [ew]
          go_loopw [13, 14] (fun av rv wr => ∃ j : Nat, j ≤ H ∧ rv = .int .i64 ((P + Q) / 2 ^ j : Nat) ∧ av = .int .i64 (B + 32 * j : Nat) ∧ Hid (Below w5.heap.size w5 wr)) (fun _ rv _ => (intOf rv).toNat)
          case atStart => exact ⟨0, by omega, by simp, by simp, Lib.hid (Below.refl _ _)⟩
          case round =>
            obtain ⟨j, hj, rfl, rfl, HBj⟩ := hrel
            obtain ⟨n, Hn⟩ : ∃ n, Hid (n = (P + Q) / 2 ^ j) := ⟨_, Lib.hid rfl⟩
            have Hn2 : Hid (n / 2 = (P + Q) / 2 ^ (j + 1)) := Lib.hid (by rw [Hn.out, div_two])
            rw [← Hn.out]
            have hnle : n ≤ P + Q := by rw [Hn.out]; exact Nat.div_le_self _ _
            obtain ⟨a, Ha⟩ : ∃ a, Hid (a = B + 32 * j) := ⟨_, Lib.hid rfl⟩
            rw [← Ha.out]
            have HB0j : Hid (Below W0.heap.size W0 wr) := Lib.hid (HB5.out.trans (HBj.out.mono HB5.out.size))
            by_cases hlt : j < H
            · have hge : 2 ≤ n := by
                rw [Hn.out, HPo.out, Nat.le_div_iff_mul_le (Nat.pow_pos (by decide))]
                have h8 : 2 * 2 ^ j ≤ 2 ^ H := by rw [Nat.mul_comm, ← Nat.pow_succ]; exact Nat.pow_le_pow_right (by decide) (by omega)
                omega
              have hgi : (1 : Int) < n := by omega
              have ex := xor_one n (by omega)
              obtain ⟨m, Hm⟩ : ∃ m, Hid (m = n ^^^ 1) := ⟨_, Lib.hid rfl⟩
              rw [← Hm.out] at ex
              have HMB : Hid (1 ≤ m ∧ m < 2 ^ (H + 1)) := Lib.hid (by rw [Hm.out]; exact xor_bd H (by omega) n (by omega) hge (by rw [Nat.pow_succ, ← HPo.out]; omega))
              obtain ⟨X, HX⟩ : ∃ X, Hid (X = knotV I S K H m) := ⟨_, Lib.hid rfl⟩
              have HXL : Hid (X.length = 32) := Lib.hid (by rw [HX.out]; exact knotV_length _ _ _ _ _)
              have HKX := Lib.hid (fun w' => HKM.out m w' HMB.out.1 HMB.out.2)
              rw [← HX.out] at HKX
              have haL : a + 32 ≤ L := by rw [Ha.out, HL.out]; omega
              have GX : Hid (Sl w5 (.slice (some ⟨sb, so + a, none⟩) 32 (sc - a)) X) := Lib.hid (by
                obtain ⟨sb', so', e, -, -, -, hcs⟩ := Sl.cells HSW5.out (by rw [HZL.out]; omega)
                injection e with e
                injection e with e1 e2
                subst e1
                subst e2
                have h := Sl.part hcs a 32 (sc - a) (by rw [HZL.out]; omega) (by omega) (by omega)
                have e5 : (Z.drop a).take 32 = X := by
                  rw [HX.out, Hm.out, Hn.out, HPo.out, ← beside_piece I S K H (2 ^ H + Q) j H hlt, ← HZD.out, List.drop_drop, Ha.out]
                rw [e5] at h
                exact h)
              have haI : (a : Int) + 32 ≤ sc := by omega
              have HT1 := HTB.out _ HB0j.out
              go_upto_region 15 with (first
                | ((with_reducible refine at_load 25 _ rfl ?_); refine wpList_load_row rfl 25 _ rfl _ rfl _ (TreeV I S K H).toArray (0, 0) _ HT1.out Try.underlying25 rfl IK.out ?_)
                | (go_at_call 20; refine (HKX.out wr).mono ?_; rintro e w6 ⟨rfl, b6⟩; have HB6 := Lib.hid b6; clear b6)
                | ((with_reducible refine at_store 23 _ _ rfl ?_); refine wpList_store_new rfl 23 _ _ rfl (B8 X).toArray rfl rfl 23 _ (arr32 HXL.out).1 (arr32 HXL.out).2 (B8_oneA X) ?_))
              obtain ⟨xb, Hxb⟩ : ∃ b, Hid (b = w6.heap.size) := ⟨_, Lib.hid rfl⟩
              obtain ⟨W6, HW6, HBW6, HXW, HGW⟩ : ∃ W, Hid (W = w6.alloc (.cells (B8 X).toArray 23)) ∧ Hid (Below w5.heap.size w5 W) ∧ Hid (Sl W (.slice (some ⟨xb, 0, none⟩) 32 32) X) ∧ Hid (Sl W (.slice (some ⟨sb, so + a, none⟩) 32 (sc - a)) X) := by
                have hb : Below w5.heap.size w5 (w6.alloc (.cells (B8 X).toArray 23)) := (HBj.out.trans (HB6.out.mono HBj.out.size)).alloc (HBj.out.trans (HB6.out.mono HBj.out.size)).size _
                exact ⟨_, Lib.hid rfl, Lib.hid hb, Lib.hid (Sl.made w6 X _ _ 32 xb rfl HXL.out.symm (by decide) Hxb.out), Lib.hid (GX.out.later hb)⟩
              rw [← HW6.out, ← Hxb.out]
              try simp only [Act.put]
              refine Wild.region_b (fun _ => none) (fun _ => []) rfl (by kernel_rfl) (fun vs hvs => ?_)
              refine Wild.walk_simple rfl (by rfl) (by rfl) (fun K hK => ?_); go_big_quiet_op; first | (refine hK _ ?_; clear hK K) | (refine ⟨_, fun _ _ => rfl, hK _ ?_⟩; clear hK K)
              refine Wild.walk_simple rfl (by rfl) (by rfl) (fun K hK => ?_); go_big_quiet_op; first | (refine hK _ ?_; clear hK K) | (refine ⟨_, fun _ _ => rfl, hK _ ?_⟩; clear hK K)
              refine Wild.walk_simple rfl (by rfl) (by rfl) (fun K hK => ?_); go_big_quiet_op; first | (refine hK _ ?_; clear hK K) | (refine ⟨_, fun _ _ => rfl, hK _ ?_⟩; clear hK K)
              refine Wild.walk_simple rfl (by rfl) (by rfl) (fun K hK => ?_); go_big_quiet_op; first | (refine hK _ ?_; clear hK K) | (refine ⟨_, fun _ _ => rfl, hK _ ?_⟩; clear hK K)
              refine Wild.walk_simple rfl (by rfl) (by rfl) (fun K hK => ?_); go_big_quiet_op; first | (refine hK _ ?_; clear hK K) | (refine ⟨_, fun _ _ => rfl, hK _ ?_⟩; clear hK K)
              refine Wild.walk_simple rfl (by rfl) (by rfl) (fun K hK => ?_); go_big_quiet_op; first | (refine hK _ ?_; clear hK K) | (refine ⟨_, fun _ _ => rfl, hK _ ?_⟩; clear hK K)
              refine Wild.walk_simple rfl (by rfl) (by rfl) (fun K hK => ?_); go_big_quiet_op; first | (refine hK _ ?_; clear hK K) | (refine ⟨_, fun _ _ => rfl, hK _ ?_⟩; clear hK K)
              refine Wild.walk_simple rfl (by rfl) (by rfl) (fun K hK => ?_); go_big_quiet_op; first | (refine hK _ ?_; clear hK K) | (refine ⟨_, fun _ _ => rfl, hK _ ?_⟩; clear hK K)
              try simp only [Nat.add_sub_cancel_left]
              refine Wild.walk_run (.string ⟨X.toArray⟩) rfl (by rfl) (fun w' hw => ?_) ?_
              · have h : Sl w' (.slice (some ⟨sb, so + a, none⟩) 32 (sc - a)) X := HGW.out.later hw.1
                have := h.conv
                go_simp
              simp only [Act.put, List.setIfInBounds_toArray, List.set_cons_zero, List.set_cons_succ]
              refine Wild.walk_simple rfl (by rfl) (by rfl) (fun K hK => ?_); go_big_quiet_op; first | (refine hK _ ?_; clear hK K) | (refine ⟨_, fun _ _ => rfl, hK _ ?_⟩; clear hK K)
              refine Wild.walk_run (.string ⟨X.toArray⟩) rfl (by rfl) (fun w' hw => ?_) ?_
              · have h : Sl w' (.slice (some ⟨xb, 0, none⟩) 32 32) X := HXW.out.later hw.1
                have := h.conv
                go_simp
              simp only [Act.put, List.setIfInBounds_toArray, List.set_cons_zero, List.set_cons_succ]
              refine Wild.walk_simple rfl (by rfl) (by rfl) (fun K hK => ?_); go_big_quiet_op; first | (refine hK _ ?_; clear hK K) | (refine ⟨_, fun _ _ => rfl, hK _ ?_⟩; clear hK K)
              refine Wild.walk_simple rfl (by rfl) (by rfl) (fun K hK => ?_); go_big_quiet_op; first | (refine hK _ ?_; clear hK K) | (refine ⟨_, fun _ _ => rfl, hK _ ?_⟩; clear hK K)
              refine Wild.walk_nil ?_
              intro w7 hw7 _
              have HB7 : Hid (Below w5.heap.size w5 w7) := Lib.hid (HBW6.out.trans (Below.mono hw7 HBW6.out.size))
              have HA2 : Hid (a + 32 = B + 32 * (j + 1)) := Lib.hid (by rw [Ha.out]; omega)
              clear hw7 hvs HT1 ex
              go_wp2_with fail
              go_roundw
              case rel => exact ⟨j + 1, by omega, by rw [← Hn2.out]; go_num, by rw [← HA2.out]; go_num, HB7⟩
              case measure => simp [intOf]; omega
            · obtain rfl : j = H := by omega
              have hn1 : n = 1 := by
                rw [Hn.out, ← HPo.out]
                exact div_one_of P Q hQ
              subst hn1
              go_wp2_with (first
                | (go_at_call 10; refine (HAL.out wr).mono ?_; rintro e w8 ⟨rfl, b8⟩; have HB8 := Lib.hid (HB0j.out.trans (b8.mono HB0j.out.size)); clear b8))
              go_ret
              exact ⟨rfl, HB0.out.trans (HB8.out.mono HB0.out.size)⟩
    · have hti : ¬ (text.length : Int) ≤ 2000 := by omega
      clear hlo
      clear hI hS hk
      go_enter Try.func8, Try.ntmps8
      go_upto_region 1 with (fail)
      rw [← HW0.out]
      go_wp2_with (first
        | ((with_reducible refine at_load 25 _ rfl ?_); first | refine wpList_load_row rfl 25 _ rfl _ rfl _ (TreeV I S k h).toArray (0, 0) _ (HTB.out _ HBZ.out).out Try.underlying25 rfl IK.out ?_)
        | (go_at_call 9; refine (HLO.out W0).mono ?_; rintro e w1 ⟨rfl, b1⟩; have HB1 := Lib.hid (HBZ.out.trans (b1.mono HBZ.out.size)); clear b1)
        | (go_at_call 10; refine (HAL.out w1).mono ?_; rintro e w2 ⟨rfl, b2⟩; have HB2 := Lib.hid (HB1.out.trans (b2.mono HB1.out.size)); clear b2))
      go_ret
      exact ⟨rfl, HB0.out.trans (HB2.out.mono HB0.out.size)⟩
end Go.Proofs.Ytabdbdnhbiopaaa


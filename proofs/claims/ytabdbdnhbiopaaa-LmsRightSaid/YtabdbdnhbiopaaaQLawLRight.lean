/- The walk of the law LmsRight. -/
import Derived.Test.YtabdbdnhbiopaaaG13
namespace Go.Proofs.Ytabdbdnhbiopaaa
open Go Go.RowKit
set_option maxRecDepth 100000
set_option maxHeartbeats 1000000
attribute [local irreducible] Wild.walk WildF.walk

theorem LmsRight_main (I S : List UInt8) (k h q : Int) (tv : Value) (text : List UInt8) (w : World) (hI : I.length = 16) (hS : S.length = 32) (hk : -9223372036854775808 ≤ k ∧ k ≤ 9223372036854775807) (ht : Sl w tv text) :
    Calls Try.prog 5 #[.agg (TreeV I S k h).toArray, .int .i64 q, tv] w fun e w' => e = .returned (.bool true) ∧ Below w.heap.size w w' := by
  obtain ⟨W0, HW0, HB0, HS0, HR0⟩ : ∃ V, Hid (V = w.alloc (.cells (TreeV I S k h).toArray 25)) ∧ Hid (Below w.heap.size w V) ∧ Hid (V.heap.size = w.heap.size + 1) ∧ Hid (V.heap[w.heap.size]? = some (.cells (TreeV I S k h).toArray 25 (0, 0))) := ⟨_, Lib.hid rfl, Lib.hid ((Below.refl _ _).alloc (Nat.le_refl _) _), Lib.hid (by simp), Lib.hid (heap_alloc_new _ _)⟩
  have IK : Hid ((Try.prog.info? 25).map (·.size) = some (TreeV I S k h).toArray.size) := Lib.hid (by rw [info_tree, List.size_toArray, TreeV_length _ _ _ _ hI hS])
  have HTB : Hid (∀ w', Below W0.heap.size W0 w' → Hid (w'.heap[w.heap.size]? = some (.cells (TreeV I S k h).toArray 25 (0, 0)))) := Lib.hid (fun w' hb => Lib.hid ((hb.block _ (by rw [HS0.out]; omega)).trans HR0.out))
  have HBZ : Hid (Below W0.heap.size W0 W0) := Lib.hid (Below.refl _ _)
  have HLO := Lib.hid (fun w' => low05_any I S k h w' hI hS)
  have HAL := Lib.hid alive05_any
  have HHI := Lib.hid hI
  have HHS := Lib.hid hS
  have HT0 := Lib.hid (ht.later HB0.out)
  obtain ⟨ta, tc, rfl⟩ := ht.shape
  clear ht
  cases hlo : lowB h
  · rw [hlo] at HLO
    clear hlo
    clear hI hS hk
    go_enter Try.func5, Try.ntmps5
    go_upto_region 1 with (fail)
    rw [← HW0.out]
    go_wp2_with (first
      | ((with_reducible refine at_load 25 _ rfl ?_); first | refine wpList_load_row rfl 25 _ rfl _ rfl _ (TreeV I S k h).toArray (0, 0) _ (HTB.out _ HBZ.out).out Try.underlying25 rfl IK.out ?_)
      | (go_at_call 9; refine (HLO.out W0).mono ?_; rintro e w1 ⟨rfl, b1⟩; have HB1 := Lib.hid (HBZ.out.trans (b1.mono HBZ.out.size)); clear b1)
      | (go_at_call 10; refine (HAL.out w1).mono ?_; rintro e w2 ⟨rfl, b2⟩; have HB2 := Lib.hid (HB1.out.trans (b2.mono HB1.out.size)); clear b2))
    go_ret
    exact ⟨rfl, HB0.out.trans (HB2.out.mono HB0.out.size)⟩
  · rw [hlo] at HLO
    by_cases htl : text.length ≤ 2000
    · have hti : (text.length : Int) ≤ 2000 := by omega
      have hh5 : mayT k h = true → 1 ≤ h ∧ h ≤ 5 := fun e => ((mayT_iff k h).1 e).2
      have HP := Lib.hid (fun w' => Public_lms I S k h w' hI hS hk)
      have HSG := Lib.hid (fun tv w' h1 => Sign_lms I S k h q tv text w' hI hS hk h1 (by omega))
      have HLG := Lib.hid (fun w' => Long_lms I S k h w' hI hS hk)
      cases hm : mayT k h
      · have e1 : errL k h = 1 := by rw [errL, hm]; rfl
        have e2 : lsigE k h q = 1 := by rw [lsigE, hm]; rfl
        rw [e1] at HP HLG
        rw [e2] at HSG
        clear hI hS hk hlo hh5 hm e1 e2
        go_enter Try.func5, Try.ntmps5
        go_upto_region 1 with (fail)
        rw [← HW0.out]
        go_wp2_with (first
          | ((with_reducible refine at_load 25 _ rfl ?_); first | refine wpList_load_row rfl 25 _ rfl _ rfl _ (TreeV I S k h).toArray (0, 0) _ (HTB.out _ HBZ.out).out Try.underlying25 rfl IK.out ?_ | refine wpList_load_row rfl 25 _ rfl _ rfl _ (TreeV I S k h).toArray (0, 0) _ (HTB.out _ HB1.out).out Try.underlying25 rfl IK.out ?_ | refine wpList_load_row rfl 25 _ rfl _ rfl _ (TreeV I S k h).toArray (0, 0) _ (HTB.out _ HB2.out).out Try.underlying25 rfl IK.out ?_ | refine wpList_load_row rfl 25 _ rfl _ rfl _ (TreeV I S k h).toArray (0, 0) _ (HTB.out _ HB3.out).out Try.underlying25 rfl IK.out ?_)
          | (go_at_call 9; refine (HLO.out W0).mono ?_; rintro e w1 ⟨rfl, b1⟩; have HB1 := Lib.hid (HBZ.out.trans (b1.mono HBZ.out.size)); clear b1)
          | (go_at_call 18; refine (HP.out w1).mono ?_; rintro e w2 ⟨pv, rfl, s2, b2⟩; have HB2 := Lib.hid (HB1.out.trans (b2.mono HB1.out.size)); clear s2; clear b2)
          | (go_at_call 11; refine (HSG.out _ w2 (HT0.out.later HB2.out)).mono ?_; rintro e w3 ⟨sv, rfl, s3, b3⟩; have HB3 := Lib.hid (HB2.out.trans (b3.mono HB2.out.size)); clear s3; clear b3)
          | (go_at_call 19; refine (HLG.out w3).mono ?_; rintro e w4 ⟨rfl, b4⟩; have HB4 := Lib.hid (HB3.out.trans (b4.mono HB3.out.size)); clear b4)
          | (go_at_call 10; refine (HAL.out w4).mono ?_; rintro e w5 ⟨rfl, b5⟩; have HB5 := Lib.hid (HB4.out.trans (b5.mono HB4.out.size)); clear b5))
        go_ret
        exact ⟨rfl, HB0.out.trans (HB5.out.mono HB0.out.size)⟩
      · obtain ⟨H, rfl⟩ : ∃ H : Nat, h = H := ⟨h.toNat, by have := hh5 hm; omega⟩
        have hH := hh5 hm
        obtain ⟨K, rfl⟩ : ∃ K : Nat, k = K := ⟨k.toNat, by have := (isW_iff _).1 ((mayT_iff _ _).1 hm).1; omega⟩
        have hK : K = 1 ∨ K = 2 ∨ K = 4 ∨ K = 8 := by have := (isW_iff _).1 ((mayT_iff _ _).1 hm).1; omega
        have e1 : errL K H = 0 := by rw [errL, hm]; rfl
        obtain ⟨p5, p1⟩ := pow5 H (by omega)
        obtain ⟨P, HPo⟩ : ∃ P, Hid (P = 2 ^ H) := ⟨_, Lib.hid rfl⟩
        rw [← HPo.out] at p5 p1
        have ew := wrap_pow H P HPo.out (by omega)
        obtain ⟨M, m1, m2⟩ : ∃ M : Nat, manyW K = M ∧ M ≤ 265 := ⟨_, (manyW_w K hK).1, (manyW_w K hK).2⟩
        have hlg : longL K H = ((36 + 32 * (manyW K).toNat + 8 + 32 * H : Nat) : Int) := by rw [longL, hm, if_pos rfl, m1, Int.toNat_natCast]; omega
        obtain ⟨L, HL⟩ : ∃ L, Hid (L = 36 + 32 * (manyW K).toNat + 8 + 32 * H) := ⟨_, Lib.hid rfl⟩
        have hL9 : L ≤ 9200 := by rw [HL.out, m1, Int.toNat_natCast]; omega
        have hL4 : 4 ≤ L := by rw [HL.out]; omega
        rw [← HL.out] at hlg
        rw [e1] at HP HLG
        rw [hlg] at HLG
        have kt := fun w' (hb : Below W0.heap.size W0 w') => tree_H (HTB.out w' hb).out hI hS
        have KT := Lib.hid kt
        have hmt := hm
        clear kt hlo hh5 e1 hlg
        cases hq : leafOk H q
        · have e2 : lsigE K H q = 12 := by rw [lsigE, hm, hq]; rfl
          have e3 : lsigV I S K H q text = [] := by rw [lsigV, hm, hq]; rfl
          rw [e2, e3] at HSG
          have hq2 : q < 0 ∨ (P : Int) ≤ q := by
            rw [leafOk, decide_eq_false_iff_not, Int.toNat_natCast, ← HPo.out] at hq
            omega
          by_cases hq0 : q < 0
          · have g0 : decide (q < 0) = true := decide_eq_true hq0
            clear hI hS hk hm hmt hq hq2 e2 e3 m1 m2 hK
            go_enter Try.func5, Try.ntmps5
            go_upto_region 1 with (fail)
            rw [← HW0.out]
            go_wp2_with (first
              | ((with_reducible refine at_load 25 _ rfl ?_); first | refine wpList_load_row rfl 25 _ rfl _ rfl _ (TreeV I S K H).toArray (0, 0) _ (HTB.out _ HBZ.out).out Try.underlying25 rfl IK.out ?_ | refine wpList_load_row rfl 25 _ rfl _ rfl _ (TreeV I S K H).toArray (0, 0) _ (HTB.out _ HB1.out).out Try.underlying25 rfl IK.out ?_ | refine wpList_load_row rfl 25 _ rfl _ rfl _ (TreeV I S K H).toArray (0, 0) _ (HTB.out _ HB2.out).out Try.underlying25 rfl IK.out ?_ | refine wpList_load_row rfl 25 _ rfl _ rfl _ (TreeV I S K H).toArray (0, 0) _ (HTB.out _ HB3.out).out Try.underlying25 rfl IK.out ?_)
              | (go_at_call 9; refine (HLO.out W0).mono ?_; rintro e w1 ⟨rfl, b1⟩; have HB1 := Lib.hid (HBZ.out.trans (b1.mono HBZ.out.size)); clear b1)
              | (go_at_call 18; refine (HP.out w1).mono ?_; rintro e w2 ⟨pv, rfl, s2, b2⟩; have HB2 := Lib.hid (HB1.out.trans (b2.mono HB1.out.size)); clear s2; clear b2)
              | (go_at_call 11; refine (HSG.out _ w2 (HT0.out.later HB2.out)).mono ?_; rintro e w3 ⟨sv, rfl, s3, b3⟩; have HB3 := Lib.hid (HB2.out.trans (b3.mono HB2.out.size)); obtain ⟨sa, sc, rfl⟩ := Sl.shape s3; clear s3; clear b3)
              | (go_at_call 19; refine (HLG.out w3).mono ?_; rintro e w4 ⟨rfl, b4⟩; have HB4 := Lib.hid (HB3.out.trans (b4.mono HB3.out.size)); have kh := KT.out w4 HB4.out; clear b4)
              | (go_at_call 10; refine (HAL.out w4).mono ?_; rintro e w5 ⟨rfl, b5⟩; have HB5 := Lib.hid (HB4.out.trans (b5.mono HB4.out.size)); clear b5))
            go_ret
            exact ⟨rfl, HB0.out.trans (HB5.out.mono HB0.out.size)⟩
          · have g0 : decide (q < 0) = false := decide_eq_false hq0
            have hq1 : (P : Int) ≤ q := by omega
            have g1 : decide ((P : Int) ≤ q) = true := decide_eq_true hq1
            clear hI hS hk hm hmt hq hq2 e2 e3 m1 m2 hK
            go_enter Try.func5, Try.ntmps5
            go_upto_region 1 with (fail)
            rw [← HW0.out]
            go_wp2_with (first
              | ((with_reducible refine at_load 25 _ rfl ?_); first | refine wpList_load_row rfl 25 _ rfl _ rfl _ (TreeV I S K H).toArray (0, 0) _ (HTB.out _ HBZ.out).out Try.underlying25 rfl IK.out ?_ | refine wpList_load_row rfl 25 _ rfl _ rfl _ (TreeV I S K H).toArray (0, 0) _ (HTB.out _ HB1.out).out Try.underlying25 rfl IK.out ?_ | refine wpList_load_row rfl 25 _ rfl _ rfl _ (TreeV I S K H).toArray (0, 0) _ (HTB.out _ HB2.out).out Try.underlying25 rfl IK.out ?_ | refine wpList_load_row rfl 25 _ rfl _ rfl _ (TreeV I S K H).toArray (0, 0) _ (HTB.out _ HB3.out).out Try.underlying25 rfl IK.out ?_)
              | (go_at_call 9; refine (HLO.out W0).mono ?_; rintro e w1 ⟨rfl, b1⟩; have HB1 := Lib.hid (HBZ.out.trans (b1.mono HBZ.out.size)); clear b1)
              | (go_at_call 18; refine (HP.out w1).mono ?_; rintro e w2 ⟨pv, rfl, s2, b2⟩; have HB2 := Lib.hid (HB1.out.trans (b2.mono HB1.out.size)); clear s2; clear b2)
              | (go_at_call 11; refine (HSG.out _ w2 (HT0.out.later HB2.out)).mono ?_; rintro e w3 ⟨sv, rfl, s3, b3⟩; have HB3 := Lib.hid (HB2.out.trans (b3.mono HB2.out.size)); obtain ⟨sa, sc, rfl⟩ := Sl.shape s3; clear s3; clear b3)
              | (go_at_call 19; refine (HLG.out w3).mono ?_; rintro e w4 ⟨rfl, b4⟩; have HB4 := Lib.hid (HB3.out.trans (b4.mono HB3.out.size)); have kh := KT.out w4 HB4.out; clear b4)
              | (go_at_call 10; refine (HAL.out w4).mono ?_; rintro e w5 ⟨rfl, b5⟩; have HB5 := Lib.hid (HB4.out.trans (b5.mono HB4.out.size)); clear b5))
            go_ret
            exact ⟨rfl, HB0.out.trans (HB5.out.mono HB0.out.size)⟩
        · have hq2 : 0 ≤ q ∧ q < P := by
            rw [leafOk, decide_eq_true_iff, Int.toNat_natCast, ← HPo.out] at hq
            exact hq
          obtain ⟨Q, rfl⟩ : ∃ Q : Nat, q = Q := ⟨q.toNat, by omega⟩
          have hQ : Q < P := by omega
          have e2 : lsigE K H Q = 0 := by rw [lsigE, hm, hq]; rfl
          have e3 : lsigV I S K H Q text = lsigN I S K H Q text := by rw [lsigV, hm, hq]; rfl
          have e4 : pubL I S K H = pubP I S K H := by rw [pubL, hm]; rfl
          obtain ⟨f1, -, -, -, -, f6⟩ := lsig_facts I S K H Q text hm (by omega)
          have f7 := ver_right I S K H Q text hI hm (by rw [← HPo.out]; exact hQ)
          obtain ⟨Z, HZ⟩ : ∃ Z, Hid (Z = lsigN I S K H Q text) := ⟨_, Lib.hid rfl⟩
          obtain ⟨Pk, HPk⟩ : ∃ Z, Hid (Z = pubP I S K H) := ⟨_, Lib.hid rfl⟩
          rw [← HZ.out, ← HL.out] at f1
          rw [← HZ.out] at f6 e3
          rw [← HZ.out, ← HPk.out] at f7
          rw [e2, e3] at HSG
          rw [e4, ← HPk.out] at HP
          have HZL := Lib.hid f1
          have HLF := Lib.hid (fun v w' hv => Leaf_any v Z w' hv (by omega))
          rw [f6, leafE, if_neg (by omega)] at HLF
          have HVR := Lib.hid (fun pv tv sv w' a b c => Verify_lms pv tv sv Pk text Z w' a b c (by omega) (by omega))
          rw [f7] at HVR
          have g0 : decide ((Q : Int) < 0) = false := decide_eq_false (by omega)
          have hq1 : ¬ (P : Int) ≤ Q := by omega
          have g1 : decide ((P : Int) ≤ Q) = false := decide_eq_false hq1
          clear hI hS hk hm hmt hq hq2 e2 e3 e4 m1 m2 hK f1 f6 f7
          go_enter Try.func5, Try.ntmps5
          go_upto_region 1 with (fail)
          rw [← HW0.out]
          go_wp2_with (first
            | ((with_reducible refine at_load 25 _ rfl ?_); first | refine wpList_load_row rfl 25 _ rfl _ rfl _ (TreeV I S K H).toArray (0, 0) _ (HTB.out _ HBZ.out).out Try.underlying25 rfl IK.out ?_ | refine wpList_load_row rfl 25 _ rfl _ rfl _ (TreeV I S K H).toArray (0, 0) _ (HTB.out _ HB1.out).out Try.underlying25 rfl IK.out ?_ | refine wpList_load_row rfl 25 _ rfl _ rfl _ (TreeV I S K H).toArray (0, 0) _ (HTB.out _ HB2.out).out Try.underlying25 rfl IK.out ?_ | refine wpList_load_row rfl 25 _ rfl _ rfl _ (TreeV I S K H).toArray (0, 0) _ (HTB.out _ HB3.out).out Try.underlying25 rfl IK.out ?_)
            | (go_at_call 9; refine (HLO.out W0).mono ?_; rintro e w1 ⟨rfl, b1⟩; have HB1 := Lib.hid (HBZ.out.trans (b1.mono HBZ.out.size)); clear b1)
            | (go_at_call 18; refine (HP.out w1).mono ?_; rintro e w2 ⟨pv, rfl, s2, b2⟩; have HB2 := Lib.hid (HB1.out.trans (b2.mono HB1.out.size)); have HSP := Lib.hid s2; clear s2; clear b2)
            | (go_at_call 11; refine (HSG.out _ w2 (HT0.out.later HB2.out)).mono ?_; rintro e w3 ⟨sv, rfl, s3, b3⟩; have HB3 := Lib.hid (HB2.out.trans (b3.mono HB2.out.size)); obtain ⟨sa, sc, rfl⟩ := Sl.shape s3; rw [HZL.out] at s3 ⊢; have HSP3 := Lib.hid (HSP.out.later b3); have HSS := Lib.hid s3; clear s3; clear b3)
            | (go_at_call 19; refine (HLG.out w3).mono ?_; rintro e w4 ⟨rfl, b4⟩; have HB4 := Lib.hid (HB3.out.trans (b4.mono HB3.out.size)); have kh := KT.out w4 HB4.out; have HSP4 := Lib.hid (HSP3.out.later b4); have HSS4 := Lib.hid (HSS.out.later b4); clear b4)
            | (go_at_call 14; refine (HLF.out _ w4 HSS4.out).mono ?_; rintro e w5 ⟨rfl, b5⟩; have HB5 := Lib.hid (HB4.out.trans (b5.mono HB4.out.size)); have HSP5 := Lib.hid (HSP4.out.later b5); have HSS5 := Lib.hid (HSS4.out.later b5); clear b5)
            | (go_at_call 10; refine (HAL.out w5).mono ?_; rintro e w6 ⟨rfl, b6⟩; have HB6 := Lib.hid (HB5.out.trans (b6.mono HB5.out.size)); have HSP6 := Lib.hid (HSP5.out.later b6); have HSS6 := Lib.hid (HSS5.out.later b6); clear b6)
            | (go_at_call 16; refine (HVR.out _ _ _ w6 HSP6.out (HT0.out.later HB6.out) HSS6.out).mono ?_; rintro e w7 ⟨rfl, b7⟩; have HB7 := Lib.hid (HB6.out.trans (b7.mono HB6.out.size)); clear b7))
          go_ret
          exact ⟨rfl, HB0.out.trans (HB7.out.mono HB0.out.size)⟩
    · have hti : ¬ (text.length : Int) ≤ 2000 := by omega
      clear hlo
      clear hI hS hk
      go_enter Try.func5, Try.ntmps5
      go_upto_region 1 with (fail)
      rw [← HW0.out]
      go_wp2_with (first
        | ((with_reducible refine at_load 25 _ rfl ?_); first | refine wpList_load_row rfl 25 _ rfl _ rfl _ (TreeV I S k h).toArray (0, 0) _ (HTB.out _ HBZ.out).out Try.underlying25 rfl IK.out ?_)
        | (go_at_call 9; refine (HLO.out W0).mono ?_; rintro e w1 ⟨rfl, b1⟩; have HB1 := Lib.hid (HBZ.out.trans (b1.mono HBZ.out.size)); clear b1)
        | (go_at_call 10; refine (HAL.out w1).mono ?_; rintro e w2 ⟨rfl, b2⟩; have HB2 := Lib.hid (HB1.out.trans (b2.mono HB1.out.size)); clear b2))
      go_ret
      exact ⟨rfl, HB0.out.trans (HB2.out.mono HB0.out.size)⟩
end Go.Proofs.Ytabdbdnhbiopaaa


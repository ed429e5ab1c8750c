/- The walk of the law LmsLengths. -/
import Derived.Test.YtabdbdnhbiopaaaG13
namespace Go.Proofs.Ytabdbdnhbiopaaa
open Go Go.RowKit
set_option maxRecDepth 100000
set_option maxHeartbeats 1000000
attribute [local irreducible] Wild.walk WildF.walk

theorem ver_55 (p text s : List UInt8) (h : p.length = 56) : verV (p.take 55) text s = 3 := by
  have e : openOk (p.take 55) = false := by
    have : ¬ (p.take 55).length = 56 := by rw [List.length_take]; omega
    rw [openOk, decide_eq_false this]; rfl
  rw [verV, verOk, e]; rfl
theorem ver_len (I S : List UInt8) (K H : Nat) (text s : List UInt8) (hI : I.length = 16) (hm : mayT K H = true) (h : ¬ s.length = 36 + 32 * (manyW K).toNat + 8 + 32 * H) : verV (pubP I S K H) text s = 3 := by
  obtain ⟨-, o2, o3, o4, o5, -⟩ := open_pub I S K H hI hm
  rw [verV, verOk, o5, verL, o3, o4, decide_eq_false h]; rfl
theorem ver_leaf (I S : List UInt8) (K H : Nat) (text s : List UInt8) (hI : I.length = 16) (hm : mayT K H = true) (h : ¬ leafN s < 2 ^ H) : verV (pubP I S K H) text s = 3 := by
  obtain ⟨-, o2, o3, o4, o5, -⟩ := open_pub I S K H hI hm
  rw [verV, verOk, o5, o4, decide_eq_false h]; simp
theorem LmsLengths_main (I S : List UInt8) (k h : Int) (sv tv : Value) (s text : List UInt8) (w : World) (hI : I.length = 16) (hS : S.length = 32) (hk : -9223372036854775808 ≤ k ∧ k ≤ 9223372036854775807) (hs : Sl w sv s) (ht : Sl w tv text) :
    Calls Try.prog 6 #[.agg (TreeV I S k h).toArray, sv, tv] w fun e w' => e = .returned (.bool true) ∧ Below w.heap.size w w' := by
  obtain ⟨W0, HW0, HB0, HS0, HR0⟩ : ∃ V, Hid (V = w.alloc (.cells (TreeV I S k h).toArray 25)) ∧ Hid (Below w.heap.size w V) ∧ Hid (V.heap.size = w.heap.size + 1) ∧ Hid (V.heap[w.heap.size]? = some (.cells (TreeV I S k h).toArray 25 (0, 0))) := ⟨_, Lib.hid rfl, Lib.hid ((Below.refl _ _).alloc (Nat.le_refl _) _), Lib.hid (by simp), Lib.hid (heap_alloc_new _ _)⟩
  have IK : Hid ((Try.prog.info? 25).map (·.size) = some (TreeV I S k h).toArray.size) := Lib.hid (by rw [info_tree, List.size_toArray, TreeV_length _ _ _ _ hI hS])
  have HTB : Hid (∀ w', Below W0.heap.size W0 w' → Hid (w'.heap[w.heap.size]? = some (.cells (TreeV I S k h).toArray 25 (0, 0)))) := Lib.hid (fun w' hb => Lib.hid ((hb.block _ (by rw [HS0.out]; omega)).trans HR0.out))
  have HBZ : Hid (Below W0.heap.size W0 W0) := Lib.hid (Below.refl _ _)
  have HLO := Lib.hid (fun w' => low05_any I S k h w' hI hS)
  have HAL := Lib.hid alive05_any
  have HHI := Lib.hid hI
  have HHS := Lib.hid hS
  have HT0 := Lib.hid (ht.later HB0.out)
  have HSS0 := Lib.hid (hs.later HB0.out)
  obtain ⟨ta, tc, rfl⟩ := ht.shape
  obtain ⟨sa, sc, rfl⟩ := hs.shape
  clear ht hs
  obtain ⟨Ls, hLs⟩ : ∃ n, n = s.length := ⟨_, rfl⟩
  rw [← hLs] at HSS0 ⊢
  cases hlo : lowB h
  · rw [hlo] at HLO
    clear hlo
    clear hI hS hk hLs
    go_enter Try.func6, Try.ntmps6
    go_upto_region 1 with (fail)
    rw [← HW0.out]
    go_wp2_with (first
      | ((with_reducible refine at_load 25 _ rfl ?_); first | refine wpList_load_row rfl 25 _ rfl _ rfl _ (TreeV I S k h).toArray (0, 0) _ (HTB.out _ HBZ.out).out Try.underlying25 rfl IK.out ?_)
      | (go_at_call 9; refine (HLO.out W0).mono ?_; rintro e w1 ⟨rfl, b1⟩; have HB1 := Lib.hid (HBZ.out.trans (b1.mono HBZ.out.size)); clear b1)
      | (go_at_call 10; refine (HAL.out w1).mono ?_; rintro e w2 ⟨rfl, b2⟩; have HB2 := Lib.hid (HB1.out.trans (b2.mono HB1.out.size)); clear b2))
    go_ret
    exact ⟨rfl, HB0.out.trans (HB2.out.mono HB0.out.size)⟩
  · rw [hlo] at HLO
    by_cases hsl : Ls ≤ 9200
    · have hsi : (Ls : Int) ≤ 9200 := by omega
      by_cases htl : text.length ≤ 2000
      · have hti : (text.length : Int) ≤ 2000 := by omega
        have hh5 : mayT k h = true → 1 ≤ h ∧ h ≤ 5 := fun e => ((mayT_iff k h).1 e).2
        have HP := Lib.hid (fun w' => Public_lms I S k h w' hI hS hk)
        have HLG := Lib.hid (fun w' => Long_lms I S k h w' hI hS hk)
        cases hm : mayT k h
        · have e1 : errL k h = 1 := by rw [errL, hm]; rfl
          rw [e1] at HP HLG
          clear hI hS hk hlo hh5 hm e1 hLs
          go_enter Try.func6, Try.ntmps6
          go_upto_region 1 with (fail)
          rw [← HW0.out]
          go_wp2_with (first
            | ((with_reducible refine at_load 25 _ rfl ?_); first | refine wpList_load_row rfl 25 _ rfl _ rfl _ (TreeV I S k h).toArray (0, 0) _ (HTB.out _ HBZ.out).out Try.underlying25 rfl IK.out ?_ | refine wpList_load_row rfl 25 _ rfl _ rfl _ (TreeV I S k h).toArray (0, 0) _ (HTB.out _ HB1.out).out Try.underlying25 rfl IK.out ?_ | refine wpList_load_row rfl 25 _ rfl _ rfl _ (TreeV I S k h).toArray (0, 0) _ (HTB.out _ HB2.out).out Try.underlying25 rfl IK.out ?_)
            | (go_at_call 9; refine (HLO.out W0).mono ?_; rintro e w1 ⟨rfl, b1⟩; have HB1 := Lib.hid (HBZ.out.trans (b1.mono HBZ.out.size)); clear b1)
            | (go_at_call 18; refine (HP.out w1).mono ?_; rintro e w2 ⟨pv, rfl, s2, b2⟩; have HB2 := Lib.hid (HB1.out.trans (b2.mono HB1.out.size)); clear s2; clear b2)
            | (go_at_call 19; refine (HLG.out w2).mono ?_; rintro e w3 ⟨rfl, b3⟩; have HB3 := Lib.hid (HB2.out.trans (b3.mono HB2.out.size)); clear b3)
            | (go_at_call 10; refine (HAL.out w3).mono ?_; rintro e w4 ⟨rfl, b4⟩; have HB4 := Lib.hid (HB3.out.trans (b4.mono HB3.out.size)); clear b4))
          go_ret
          exact ⟨rfl, HB0.out.trans (HB4.out.mono HB0.out.size)⟩
        · obtain ⟨H, rfl⟩ : ∃ H : Nat, h = H := ⟨h.toNat, by have := hh5 hm; omega⟩
          have hH := hh5 hm
          obtain ⟨K, rfl⟩ : ∃ K : Nat, k = K := ⟨k.toNat, by have := (isW_iff _).1 ((mayT_iff _ _).1 hm).1; omega⟩
          have hK : K = 1 ∨ K = 2 ∨ K = 4 ∨ K = 8 := by have := (isW_iff _).1 ((mayT_iff _ _).1 hm).1; omega
          have e1 : errL K H = 0 := by rw [errL, hm]; rfl
          obtain ⟨p5, p1⟩ := pow5 H (by omega)
          obtain ⟨P, HPo⟩ : ∃ P, Hid (P = 2 ^ H) := ⟨_, Lib.hid rfl⟩
          rw [← HPo.out] at p5 p1
          have ew := wrap_pow H P HPo.out (by omega)
          obtain ⟨M, m1, m2⟩ : ∃ M : Nat, manyW K = M ∧ M ≤ 265 := ⟨_, (manyW_w K hK).1, (manyW_w K hK).2⟩
          have hlg : longL K H = ((36 + 32 * (manyW K).toNat + 8 + 32 * H : Nat) : Int) := by rw [longL, hm, if_pos rfl, m1, Int.toNat_natCast]; omega
          obtain ⟨L, HL⟩ : ∃ L, Hid (L = 36 + 32 * (manyW K).toNat + 8 + 32 * H) := ⟨_, Lib.hid rfl⟩
          have hL4 : 4 ≤ L := by rw [HL.out]; omega
          rw [← HL.out] at hlg
          rw [e1] at HP HLG
          rw [hlg] at HLG
          have e4 : pubL I S K H = pubP I S K H := by rw [pubL, hm]; rfl
          obtain ⟨Pk, HPk⟩ : ∃ Z, Hid (Z = pubP I S K H) := ⟨_, Lib.hid rfl⟩
          rw [e4, ← HPk.out] at HP
          have HPL : Hid (Pk.length = 56) := Lib.hid (by rw [HPk.out]; exact (open_pub I S K H hI hm).1)
          have HV55 := Lib.hid (fun pv tv sv w' a b c => Verify_lms pv tv sv (Pk.take 55) text s w' a b c (by omega) (by omega))
          rw [ver_55 Pk text s HPL.out] at HV55
          have HVR := Lib.hid (fun pv tv sv w' a b c => Verify_lms pv tv sv Pk text s w' a b c (by omega) (by omega))
          have KT := Lib.hid (fun w' (hb : Below W0.heap.size W0 w') => tree_H (HTB.out w' hb).out hI hS)
          by_cases hlen : Ls = L
          · have HLF := Lib.hid (fun v w' hv => Leaf_any v s w' hv (by omega))
            rw [leafE, if_neg (by omega)] at HLF
            obtain ⟨Q, hQ⟩ : ∃ Q, Q = leafN s := ⟨_, rfl⟩
            rw [← hQ] at HLF
            have hQ32 : Q < 4294967296 := by rw [hQ]; exact leafN_lt s
            clear hlg e1 e4 hLs
            subst hlen
            by_cases hq : Q < P
            · have g1 : decide ((Q : Int) < (P : Int)) = true := decide_eq_true (by omega)
              clear hI hS hk hlo hh5 hm hQ m1 m2 hK HVR
              go_enter Try.func6, Try.ntmps6
              go_upto_region 1 with (fail)
              rw [← HW0.out]
              go_wp2_with (first
                | ((with_reducible refine at_load 25 _ rfl ?_); first | refine wpList_load_row rfl 25 _ rfl _ rfl _ (TreeV I S K H).toArray (0, 0) _ (HTB.out _ HBZ.out).out Try.underlying25 rfl IK.out ?_ | refine wpList_load_row rfl 25 _ rfl _ rfl _ (TreeV I S K H).toArray (0, 0) _ (HTB.out _ HB1.out).out Try.underlying25 rfl IK.out ?_ | refine wpList_load_row rfl 25 _ rfl _ rfl _ (TreeV I S K H).toArray (0, 0) _ (HTB.out _ HB2.out).out Try.underlying25 rfl IK.out ?_)
                | (go_at_call 9; refine (HLO.out W0).mono ?_; rintro e w1 ⟨rfl, b1⟩; have HB1 := Lib.hid (HBZ.out.trans (b1.mono HBZ.out.size)); clear b1)
                | (go_at_call 18; refine (HP.out w1).mono ?_; rintro e w2 ⟨pv, rfl, s2, b2⟩; have HB2 := Lib.hid (HB1.out.trans (b2.mono HB1.out.size)); obtain ⟨pa, pc, rfl⟩ := Sl.shape s2; obtain ⟨pb, po, rfl, -, q1, q2, hpcs⟩ := Sl.cells s2 (by rw [HPL.out]; decide); have HPT : Hid (Sl w2 (.slice (some ⟨pb, po, none⟩) 55 pc) (Pk.take 55)) := Lib.hid (by have h := Sl.part hpcs 0 55 pc (by rw [HPL.out]; omega) (by rw [HPL.out] at q1; omega) (by omega); simpa using h); rw [HPL.out] at s2 q1 ⊢; have HSP := Lib.hid s2; clear s2 hpcs; clear b2)
                | (go_at_call 19; refine (HLG.out w2).mono ?_; rintro e w3 ⟨rfl, b3⟩; have HB3 := Lib.hid (HB2.out.trans (b3.mono HB2.out.size)); have HPT3 := Lib.hid (HPT.out.later b3); have HSP3 := Lib.hid (HSP.out.later b3); clear b3)
                | (go_at_call 16; (with_reducible refine (HV55.out _ _ _ w3 HPT3.out (HT0.out.later HB3.out) (HSS0.out.later HB3.out)).mono ?_); rintro e w4 ⟨rfl, b4⟩; have HB4 := Lib.hid (HB3.out.trans (b4.mono HB3.out.size)); have HSP4 := Lib.hid (HSP3.out.later b4); clear b4)
                | (go_at_call 14; refine (HLF.out _ w4 (HSS0.out.later HB4.out)).mono ?_; rintro e w5 ⟨rfl, b5⟩; have HB5 := Lib.hid (HB4.out.trans (b5.mono HB4.out.size)); have HSP5 := Lib.hid (HSP4.out.later b5); clear b5)
                | (go_at_call 10; refine (HAL.out w5).mono ?_; rintro e w6 ⟨rfl, b6⟩; have HB6 := Lib.hid (HB5.out.trans (b6.mono HB5.out.size)); have kh := KT.out w6 HB6.out; clear b6))
              go_ret
              exact ⟨rfl, HB0.out.trans (HB6.out.mono HB0.out.size)⟩
            · have g1 : decide ((Q : Int) < (P : Int)) = false := decide_eq_false (by omega)
              rw [HPk.out, ver_leaf I S K H text s hI hm (by rw [← hQ, ← HPo.out]; exact hq), ← HPk.out] at HVR
              clear hI hS hk hlo hh5 hm hQ m1 m2 hK
              go_enter Try.func6, Try.ntmps6
              go_upto_region 1 with (fail)
              rw [← HW0.out]
              go_wp2_with (first
                | ((with_reducible refine at_load 25 _ rfl ?_); first | refine wpList_load_row rfl 25 _ rfl _ rfl _ (TreeV I S K H).toArray (0, 0) _ (HTB.out _ HBZ.out).out Try.underlying25 rfl IK.out ?_ | refine wpList_load_row rfl 25 _ rfl _ rfl _ (TreeV I S K H).toArray (0, 0) _ (HTB.out _ HB1.out).out Try.underlying25 rfl IK.out ?_ | refine wpList_load_row rfl 25 _ rfl _ rfl _ (TreeV I S K H).toArray (0, 0) _ (HTB.out _ HB2.out).out Try.underlying25 rfl IK.out ?_)
                | (go_at_call 9; refine (HLO.out W0).mono ?_; rintro e w1 ⟨rfl, b1⟩; have HB1 := Lib.hid (HBZ.out.trans (b1.mono HBZ.out.size)); clear b1)
                | (go_at_call 18; refine (HP.out w1).mono ?_; rintro e w2 ⟨pv, rfl, s2, b2⟩; have HB2 := Lib.hid (HB1.out.trans (b2.mono HB1.out.size)); obtain ⟨pa, pc, rfl⟩ := Sl.shape s2; obtain ⟨pb, po, rfl, -, q1, q2, hpcs⟩ := Sl.cells s2 (by rw [HPL.out]; decide); have HPT : Hid (Sl w2 (.slice (some ⟨pb, po, none⟩) 55 pc) (Pk.take 55)) := Lib.hid (by have h := Sl.part hpcs 0 55 pc (by rw [HPL.out]; omega) (by rw [HPL.out] at q1; omega) (by omega); simpa using h); rw [HPL.out] at s2 q1 ⊢; have HSP := Lib.hid s2; clear s2 hpcs; clear b2)
                | (go_at_call 19; refine (HLG.out w2).mono ?_; rintro e w3 ⟨rfl, b3⟩; have HB3 := Lib.hid (HB2.out.trans (b3.mono HB2.out.size)); have HPT3 := Lib.hid (HPT.out.later b3); have HSP3 := Lib.hid (HSP.out.later b3); clear b3)
                | (go_at_call 16; (with_reducible refine (HV55.out _ _ _ w3 HPT3.out (HT0.out.later HB3.out) (HSS0.out.later HB3.out)).mono ?_); rintro e w4 ⟨rfl, b4⟩; have HB4 := Lib.hid (HB3.out.trans (b4.mono HB3.out.size)); have HSP4 := Lib.hid (HSP3.out.later b4); clear b4)
                | (go_at_call 14; refine (HLF.out _ w4 (HSS0.out.later HB4.out)).mono ?_; rintro e w5 ⟨rfl, b5⟩; have HB5 := Lib.hid (HB4.out.trans (b5.mono HB4.out.size)); have HSP5 := Lib.hid (HSP4.out.later b5); clear b5)
                | (go_at_call 10; refine (HAL.out w5).mono ?_; rintro e w6 ⟨rfl, b6⟩; have HB6 := Lib.hid (HB5.out.trans (b6.mono HB5.out.size)); have kh := KT.out w6 HB6.out; have HSP6 := Lib.hid (HSP5.out.later b6); clear b6)
                | (go_at_call 16; (with_reducible refine (HVR.out _ _ _ w6 HSP6.out (HT0.out.later HB6.out) (HSS0.out.later HB6.out)).mono ?_); rintro e w7 ⟨rfl, b7⟩; have HB7 := Lib.hid (HB6.out.trans (b7.mono HB6.out.size)); clear b7))
              go_ret
              exact ⟨rfl, HB0.out.trans (HB7.out.mono HB0.out.size)⟩
          · have hne : ¬ (Ls : Int) = (L : Int) := by omega
            rw [HPk.out, ver_len I S K H text s hI hm (by rw [← HL.out, ← hLs]; exact hlen), ← HPk.out] at HVR
            clear hI hS hk hlo hh5 hm m1 m2 hK hlg e1 e4 hLs hlen
            go_enter Try.func6, Try.ntmps6
            go_upto_region 1 with (fail)
            rw [← HW0.out]
            go_wp2_with (first
              | ((with_reducible refine at_load 25 _ rfl ?_); first | refine wpList_load_row rfl 25 _ rfl _ rfl _ (TreeV I S K H).toArray (0, 0) _ (HTB.out _ HBZ.out).out Try.underlying25 rfl IK.out ?_ | refine wpList_load_row rfl 25 _ rfl _ rfl _ (TreeV I S K H).toArray (0, 0) _ (HTB.out _ HB1.out).out Try.underlying25 rfl IK.out ?_ | refine wpList_load_row rfl 25 _ rfl _ rfl _ (TreeV I S K H).toArray (0, 0) _ (HTB.out _ HB2.out).out Try.underlying25 rfl IK.out ?_)
              | (go_at_call 9; refine (HLO.out W0).mono ?_; rintro e w1 ⟨rfl, b1⟩; have HB1 := Lib.hid (HBZ.out.trans (b1.mono HBZ.out.size)); clear b1)
              | (go_at_call 18; refine (HP.out w1).mono ?_; rintro e w2 ⟨pv, rfl, s2, b2⟩; have HB2 := Lib.hid (HB1.out.trans (b2.mono HB1.out.size)); obtain ⟨pa, pc, rfl⟩ := Sl.shape s2; obtain ⟨pb, po, rfl, -, q1, q2, hpcs⟩ := Sl.cells s2 (by rw [HPL.out]; decide); have HPT : Hid (Sl w2 (.slice (some ⟨pb, po, none⟩) 55 pc) (Pk.take 55)) := Lib.hid (by have h := Sl.part hpcs 0 55 pc (by rw [HPL.out]; omega) (by rw [HPL.out] at q1; omega) (by omega); simpa using h); rw [HPL.out] at s2 q1 ⊢; have HSP := Lib.hid s2; clear s2 hpcs; clear b2)
              | (go_at_call 19; refine (HLG.out w2).mono ?_; rintro e w3 ⟨rfl, b3⟩; have HB3 := Lib.hid (HB2.out.trans (b3.mono HB2.out.size)); have HPT3 := Lib.hid (HPT.out.later b3); have HSP3 := Lib.hid (HSP.out.later b3); clear b3)
              | (go_at_call 16; (with_reducible refine (HV55.out _ _ _ w3 HPT3.out (HT0.out.later HB3.out) (HSS0.out.later HB3.out)).mono ?_); rintro e w4 ⟨rfl, b4⟩; have HB4 := Lib.hid (HB3.out.trans (b4.mono HB3.out.size)); have HSP4 := Lib.hid (HSP3.out.later b4); clear b4)
              | (go_at_call 10; refine (HAL.out w4).mono ?_; rintro e w5 ⟨rfl, b5⟩; have HB5 := Lib.hid (HB4.out.trans (b5.mono HB4.out.size)); have HSP5 := Lib.hid (HSP4.out.later b5); clear b5)
              | (go_at_call 16; (with_reducible refine (HVR.out _ _ _ w5 HSP5.out (HT0.out.later HB5.out) (HSS0.out.later HB5.out)).mono ?_); rintro e w6 ⟨rfl, b6⟩; have HB6 := Lib.hid (HB5.out.trans (b6.mono HB5.out.size)); clear b6))
            go_ret
            exact ⟨rfl, HB0.out.trans (HB6.out.mono HB0.out.size)⟩
      · have hti : ¬ (text.length : Int) ≤ 2000 := by omega
        clear hlo
        clear hI hS hk hLs
        go_enter Try.func6, Try.ntmps6
        go_upto_region 1 with (fail)
        rw [← HW0.out]
        go_wp2_with (first
          | ((with_reducible refine at_load 25 _ rfl ?_); first | refine wpList_load_row rfl 25 _ rfl _ rfl _ (TreeV I S k h).toArray (0, 0) _ (HTB.out _ HBZ.out).out Try.underlying25 rfl IK.out ?_)
          | (go_at_call 9; refine (HLO.out W0).mono ?_; rintro e w1 ⟨rfl, b1⟩; have HB1 := Lib.hid (HBZ.out.trans (b1.mono HBZ.out.size)); clear b1)
          | (go_at_call 10; refine (HAL.out w1).mono ?_; rintro e w2 ⟨rfl, b2⟩; have HB2 := Lib.hid (HB1.out.trans (b2.mono HB1.out.size)); clear b2))
        go_ret
        exact ⟨rfl, HB0.out.trans (HB2.out.mono HB0.out.size)⟩
    · have hsi : ¬ (Ls : Int) ≤ 9200 := by omega
      clear hlo
      clear hI hS hk hLs
      go_enter Try.func6, Try.ntmps6
      go_upto_region 1 with (fail)
      rw [← HW0.out]
      go_wp2_with (first
        | ((with_reducible refine at_load 25 _ rfl ?_); first | refine wpList_load_row rfl 25 _ rfl _ rfl _ (TreeV I S k h).toArray (0, 0) _ (HTB.out _ HBZ.out).out Try.underlying25 rfl IK.out ?_)
        | (go_at_call 9; refine (HLO.out W0).mono ?_; rintro e w1 ⟨rfl, b1⟩; have HB1 := Lib.hid (HBZ.out.trans (b1.mono HBZ.out.size)); clear b1)
        | (go_at_call 10; refine (HAL.out w1).mono ?_; rintro e w2 ⟨rfl, b2⟩; have HB2 := Lib.hid (HB1.out.trans (b2.mono HB1.out.size)); clear b2))
      go_ret
      exact ⟨rfl, HB0.out.trans (HB2.out.mono HB0.out.size)⟩
end Go.Proofs.Ytabdbdnhbiopaaa


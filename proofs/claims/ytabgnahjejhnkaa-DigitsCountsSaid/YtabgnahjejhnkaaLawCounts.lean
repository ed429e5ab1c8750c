/- The walk of the law DigitsCounts. -/
import Derived.Test.YtabgnahjejhnkaaDigI
namespace Go.Proofs.Ytabgnahjejhnkaa
open Go Go.RowKit
set_option maxHeartbeats 2000000
set_option maxRecDepth 100000

theorem allN_bd (l : List UInt8) (k j : Nat) (hj : j < (NI (allN l k)).length) : 0 ≤ (NI (allN l k)).getD j 0 ∧ (NI (allN l k)).getD j 0 < ((2 ^ k : Nat) : Int) := by
  rw [NI_length, allN_length] at hj
  rw [NI_getD, allN_getD l k j hj]
  have := dig_lt (l ++ tailB l k) j k
  omega
theorem numN_mod (l : List UInt8) (k : Nat) : numN l k % 2 ^ (16 - chkN k * k) = 0 := by
  rw [numN]; exact Nat.mul_mod_left _ _
theorem DigitsCounts_any (l : List UInt8) (b : Int) (w : World) (hl : l.length = 32) (hb : 0 ≤ b ∧ b ≤ 255) :
    Calls Try.prog 13 #[.agg (B8 l).toArray, .int .u8 b] w fun e w' => e = .returned (.bool true) ∧ Below w.heap.size w w' := by
  have I32 : Hid ((Try.prog.info? 29).map (·.size) = some (B8 l).toArray.size) := Lib.hid (by rw [info_h32]; simp [B8_length, hl])
  obtain ⟨V, HV, HVB, HVR⟩ : ∃ V, Hid (V = w.alloc (.cells (B8 l).toArray 29)) ∧ Hid (Below w.heap.size w V) ∧ Hid (Arr8 V w.heap.size 29 l) := ⟨_, Lib.hid rfl, Lib.hid ((Below.refl _ _).alloc (Nat.le_refl _) _), Lib.hid (box32 l w)⟩
  have key : ∀ k : Nat, k = 1 ∨ k = 2 ∨ k = 4 ∨ k = 8 →
      Hid (∀ w', Calls Try.prog 37 #[.int .i64 k] w' fun e w'' => e = .returned (.tuple #[.int .i64 ((256 / k : Nat) : Int), .int .i64 0]) ∧ Below w'.heap.size w' w'') ∧
      Hid (∀ w', Calls Try.prog 39 #[.int .i64 k] w' fun e w'' => e = .returned (.tuple #[.int .i64 (chkN k : Int), .int .i64 0]) ∧ Below w'.heap.size w' w'') ∧
      Hid (∀ w', Calls Try.prog 41 #[.int .i64 k] w' fun e w'' => e = .returned (.tuple #[.int .i64 ((16 - chkN k * k : Nat) : Int), .int .i64 0]) ∧ Below w'.heap.size w' w'') ∧
      Hid (∀ w', Calls Try.prog 35 #[.agg (B8 l).toArray, .int .i64 k] w' fun e w'' => e = .returned (.tuple #[.int .i64 (numN l k : Int), .int .i64 0]) ∧ Below w'.heap.size w' w'') ∧
      Hid (∀ w', Calls Try.prog 32 #[.agg (B8 l).toArray, .int .i64 k] w' fun e w'' => ∃ v, e = .returned (.tuple #[v, .int .i64 0]) ∧ SlI w'' .i64 v (NI (allN l k)) ∧ Below w'.heap.size w' w'') := by
    intro k hk
    obtain ⟨e1, e2, e3, e4⟩ := own_of k hk
    have hw : isW (k : Int) = true := (isW_iff _).2 (by omega)
    refine ⟨Lib.hid fun w' => ?_, Lib.hid fun w' => ?_, Lib.hid fun w' => ?_, Lib.hid fun w' => ?_, Lib.hid fun w' => ?_⟩
    · have := Own_any k w' (by omega); rwa [e1, e4] at this
    · have := Check_any k w' (by omega); rwa [e2, e4] at this
    · have := Shift_any k w' (by omega); rwa [e3, e4] at this
    · have := Number_any l k w' hl (by omega); rwa [if_pos hw, Int.toNat_natCast, e4] at this
    · have := All_any l k w' hl (by omega); rwa [allV, if_pos hw, Int.toNat_natCast, e4] at this
  have hc : b % 4 = 0 ∨ b % 4 = 1 ∨ b % 4 = 2 ∨ b % 4 = 3 := by omega
  rcases hc with hc | hc | hc | hc
  · obtain ⟨K1, K2, K3, K4, K5⟩ := key 1 (by omega)
    have ec : ((chkN 1 : Nat) : Int) = 9 := rfl
    have es : ((16 - chkN 1 * 1 : Nat) : Int) = 7 := rfl
    rw [ec] at K2
    rw [es] at K3
    clear ec es
    have hx := numN_lt l 1 (by omega)
    have hm := numN_mod l 1
    have HL : Hid ((NI (allN l 1)).length = 265) := Lib.hid (by rw [NI_length, allN_length]; rfl)
    have HBD := Lib.hid (allN_bd l 1)
    rw [HL.out] at HBD
    generalize numN l 1 = x at K4 hx hm
    generalize NI (allN l 1) = A at K5 HL HBD
    have hm2 : (x : Int) % 128 = 0 := by
      have : x % 128 = 0 := hm
      omega
    have hx3 : (x : Int) < 65536 := by omega
    have HX := Lib.hid hx
    clear key hm hx
    go_enter Try.func13, Try.ntmps13
    go_upto_region 1 with (fail)
    rw [← HV.out]
    go_wp2_with fail
    refine (K1.out V).mono ?_
    rintro e w1 ⟨rfl, b1⟩
    have HR1 := Lib.hid (HVR.out.later (b1.block _ (Array.getElem?_eq_some_iff.1 HVR.out).1))
    have HB1 := Lib.hid (HVB.out.trans (b1.mono HVB.out.size))
    clear b1
    go_wp2_with fail
    refine (K2.out w1).mono ?_
    rintro e w2 ⟨rfl, b2⟩
    have HR2 := Lib.hid (HR1.out.later (b2.block _ (Array.getElem?_eq_some_iff.1 HR1.out).1))
    have HB2 := Lib.hid (HB1.out.trans (b2.mono HB1.out.size))
    clear b2
    go_wp2_with fail
    refine (K3.out w2).mono ?_
    rintro e w3 ⟨rfl, b3⟩
    have HR3 := Lib.hid (HR2.out.later (b3.block _ (Array.getElem?_eq_some_iff.1 HR2.out).1))
    have HB3 := Lib.hid (HB2.out.trans (b3.mono HB2.out.size))
    clear b3
    go_wp2_with (refine wpList_load_row rfl 29 _ rfl w.heap.size rfl _ (B8 l).toArray (0, 0) _ HR3.out Try.underlying29 rfl I32.out ?_)
    refine (K4.out w3).mono ?_
    rintro e w4 ⟨rfl, b4⟩
    have HR4 := Lib.hid (HR3.out.later (b4.block _ (Array.getElem?_eq_some_iff.1 HR3.out).1))
    have HB4 := Lib.hid (HB3.out.trans (b4.mono HB3.out.size))
    clear b4
    go_wp2_with (refine wpList_load_row rfl 29 _ rfl w.heap.size rfl _ (B8 l).toArray (0, 0) _ HR4.out Try.underlying29 rfl I32.out ?_)
    refine (K5.out w4).mono ?_
    rintro e w5 ⟨v, rfl, s5, b5⟩
    have HB5 := Lib.hid (HB4.out.trans (b5.mono HB4.out.size))
    have HS5 := Lib.hid s5
    obtain ⟨a, c, rfl⟩ := s5.shape
    rw [HL.out]
    clear s5 b5
    go_wp2_with fail
    go_loopw [16] (fun i wr => ∃ j d : Nat, j ≤ 265 ∧ i = .int .i64 j ∧ wr = w5.drewN d) (fun i _ => 265 - (intOf i).toNat)
    case atStart => exact ⟨0, 0, by omega, rfl, rfl⟩
    case round =>
      obtain ⟨j, d, hj, rfl, rfl⟩ := hrel
      by_cases hlt : j < 265
      · obtain ⟨b1, o1, rfl, _, q1, c1⟩ := HS5.out.cellAt (i := j) (by rw [HL.out]; exact hlt)
        have d1 := c1 j (by rw [HL.out]; exact hlt)
        obtain ⟨z1, z2⟩ := HBD.out j hlt
        rw [HL.out] at q1
        generalize A.getD j 0 = z at d1 z1 z2
        have z2' : z < 2 := z2
        have z4 : decide ((2 : Int) ≤ z) = false := by rw [decide_eq_false_iff_not]; omega
        have z3 : decide (z < 0) = false := by rw [decide_eq_false_iff_not]; omega
        have hlt' : (j : Int) < 265 := by omega
        clear c1 z2
        go_wp2_with fail
        go_quiet (fail)
        go_wp2_with fail
        go_roundw
        case rel => exact ⟨j + 1, d + nq, by omega, by go_num, rfl⟩
        case measure => simp [intOf]; omega
      · obtain rfl : j = 265 := by omega
        go_wp2_with fail
        refine (alive03_any _).mono ?_
        rintro e w11 ⟨rfl, b11⟩
        have HB11 : Hid (Below w.heap.size w w11) := Lib.hid (HB5.out.trans ((show Below w5.heap.size w5 w11 from ⟨b11.os, b11.tape, b11.output, b11.size, b11.block⟩).mono HB5.out.size))
        clear b11
        go_wp2_with fail
        go_ret
        exact ⟨rfl, HB11.out⟩
  · obtain ⟨K1, K2, K3, K4, K5⟩ := key 2 (by omega)
    have ec : ((chkN 2 : Nat) : Int) = 5 := rfl
    have es : ((16 - chkN 2 * 2 : Nat) : Int) = 6 := rfl
    rw [ec] at K2
    rw [es] at K3
    clear ec es
    have hx := numN_lt l 2 (by omega)
    have hm := numN_mod l 2
    have HL : Hid ((NI (allN l 2)).length = 133) := Lib.hid (by rw [NI_length, allN_length]; rfl)
    have HBD := Lib.hid (allN_bd l 2)
    rw [HL.out] at HBD
    generalize numN l 2 = x at K4 hx hm
    generalize NI (allN l 2) = A at K5 HL HBD
    have hm2 : (x : Int) % 64 = 0 := by
      have : x % 64 = 0 := hm
      omega
    have hx3 : (x : Int) < 65536 := by omega
    have HX := Lib.hid hx
    clear key hm hx
    go_enter Try.func13, Try.ntmps13
    go_upto_region 1 with (fail)
    rw [← HV.out]
    go_wp2_with fail
    refine (K1.out V).mono ?_
    rintro e w1 ⟨rfl, b1⟩
    have HR1 := Lib.hid (HVR.out.later (b1.block _ (Array.getElem?_eq_some_iff.1 HVR.out).1))
    have HB1 := Lib.hid (HVB.out.trans (b1.mono HVB.out.size))
    clear b1
    go_wp2_with fail
    refine (K2.out w1).mono ?_
    rintro e w2 ⟨rfl, b2⟩
    have HR2 := Lib.hid (HR1.out.later (b2.block _ (Array.getElem?_eq_some_iff.1 HR1.out).1))
    have HB2 := Lib.hid (HB1.out.trans (b2.mono HB1.out.size))
    clear b2
    go_wp2_with fail
    refine (K3.out w2).mono ?_
    rintro e w3 ⟨rfl, b3⟩
    have HR3 := Lib.hid (HR2.out.later (b3.block _ (Array.getElem?_eq_some_iff.1 HR2.out).1))
    have HB3 := Lib.hid (HB2.out.trans (b3.mono HB2.out.size))
    clear b3
    go_wp2_with (refine wpList_load_row rfl 29 _ rfl w.heap.size rfl _ (B8 l).toArray (0, 0) _ HR3.out Try.underlying29 rfl I32.out ?_)
    refine (K4.out w3).mono ?_
    rintro e w4 ⟨rfl, b4⟩
    have HR4 := Lib.hid (HR3.out.later (b4.block _ (Array.getElem?_eq_some_iff.1 HR3.out).1))
    have HB4 := Lib.hid (HB3.out.trans (b4.mono HB3.out.size))
    clear b4
    go_wp2_with (refine wpList_load_row rfl 29 _ rfl w.heap.size rfl _ (B8 l).toArray (0, 0) _ HR4.out Try.underlying29 rfl I32.out ?_)
    refine (K5.out w4).mono ?_
    rintro e w5 ⟨v, rfl, s5, b5⟩
    have HB5 := Lib.hid (HB4.out.trans (b5.mono HB4.out.size))
    have HS5 := Lib.hid s5
    obtain ⟨a, c, rfl⟩ := s5.shape
    rw [HL.out]
    clear s5 b5
    go_wp2_with fail
    go_loopw [16] (fun i wr => ∃ j d : Nat, j ≤ 133 ∧ i = .int .i64 j ∧ wr = w5.drewN d) (fun i _ => 133 - (intOf i).toNat)
    case atStart => exact ⟨0, 0, by omega, rfl, rfl⟩
    case round =>
      obtain ⟨j, d, hj, rfl, rfl⟩ := hrel
      by_cases hlt : j < 133
      · obtain ⟨b1, o1, rfl, _, q1, c1⟩ := HS5.out.cellAt (i := j) (by rw [HL.out]; exact hlt)
        have d1 := c1 j (by rw [HL.out]; exact hlt)
        obtain ⟨z1, z2⟩ := HBD.out j hlt
        rw [HL.out] at q1
        generalize A.getD j 0 = z at d1 z1 z2
        have z2' : z < 4 := z2
        have z4 : decide ((4 : Int) ≤ z) = false := by rw [decide_eq_false_iff_not]; omega
        have z3 : decide (z < 0) = false := by rw [decide_eq_false_iff_not]; omega
        have hlt' : (j : Int) < 133 := by omega
        clear c1 z2
        go_wp2_with fail
        go_quiet (fail)
        go_wp2_with fail
        go_roundw
        case rel => exact ⟨j + 1, d + nq, by omega, by go_num, rfl⟩
        case measure => simp [intOf]; omega
      · obtain rfl : j = 133 := by omega
        go_wp2_with fail
        refine (alive03_any _).mono ?_
        rintro e w11 ⟨rfl, b11⟩
        have HB11 : Hid (Below w.heap.size w w11) := Lib.hid (HB5.out.trans ((show Below w5.heap.size w5 w11 from ⟨b11.os, b11.tape, b11.output, b11.size, b11.block⟩).mono HB5.out.size))
        clear b11
        go_wp2_with fail
        go_ret
        exact ⟨rfl, HB11.out⟩
  · obtain ⟨K1, K2, K3, K4, K5⟩ := key 4 (by omega)
    have ec : ((chkN 4 : Nat) : Int) = 3 := rfl
    have es : ((16 - chkN 4 * 4 : Nat) : Int) = 4 := rfl
    rw [ec] at K2
    rw [es] at K3
    clear ec es
    have hx := numN_lt l 4 (by omega)
    have hm := numN_mod l 4
    have HL : Hid ((NI (allN l 4)).length = 67) := Lib.hid (by rw [NI_length, allN_length]; rfl)
    have HBD := Lib.hid (allN_bd l 4)
    rw [HL.out] at HBD
    generalize numN l 4 = x at K4 hx hm
    generalize NI (allN l 4) = A at K5 HL HBD
    have hm2 : (x : Int) % 16 = 0 := by
      have : x % 16 = 0 := hm
      omega
    have hx3 : (x : Int) < 65536 := by omega
    have HX := Lib.hid hx
    clear key hm hx
    go_enter Try.func13, Try.ntmps13
    go_upto_region 1 with (fail)
    rw [← HV.out]
    go_wp2_with fail
    refine (K1.out V).mono ?_
    rintro e w1 ⟨rfl, b1⟩
    have HR1 := Lib.hid (HVR.out.later (b1.block _ (Array.getElem?_eq_some_iff.1 HVR.out).1))
    have HB1 := Lib.hid (HVB.out.trans (b1.mono HVB.out.size))
    clear b1
    go_wp2_with fail
    refine (K2.out w1).mono ?_
    rintro e w2 ⟨rfl, b2⟩
    have HR2 := Lib.hid (HR1.out.later (b2.block _ (Array.getElem?_eq_some_iff.1 HR1.out).1))
    have HB2 := Lib.hid (HB1.out.trans (b2.mono HB1.out.size))
    clear b2
    go_wp2_with fail
    refine (K3.out w2).mono ?_
    rintro e w3 ⟨rfl, b3⟩
    have HR3 := Lib.hid (HR2.out.later (b3.block _ (Array.getElem?_eq_some_iff.1 HR2.out).1))
    have HB3 := Lib.hid (HB2.out.trans (b3.mono HB2.out.size))
    clear b3
    go_wp2_with (refine wpList_load_row rfl 29 _ rfl w.heap.size rfl _ (B8 l).toArray (0, 0) _ HR3.out Try.underlying29 rfl I32.out ?_)
    refine (K4.out w3).mono ?_
    rintro e w4 ⟨rfl, b4⟩
    have HR4 := Lib.hid (HR3.out.later (b4.block _ (Array.getElem?_eq_some_iff.1 HR3.out).1))
    have HB4 := Lib.hid (HB3.out.trans (b4.mono HB3.out.size))
    clear b4
    go_wp2_with (refine wpList_load_row rfl 29 _ rfl w.heap.size rfl _ (B8 l).toArray (0, 0) _ HR4.out Try.underlying29 rfl I32.out ?_)
    refine (K5.out w4).mono ?_
    rintro e w5 ⟨v, rfl, s5, b5⟩
    have HB5 := Lib.hid (HB4.out.trans (b5.mono HB4.out.size))
    have HS5 := Lib.hid s5
    obtain ⟨a, c, rfl⟩ := s5.shape
    rw [HL.out]
    clear s5 b5
    go_wp2_with fail
    go_loopw [16] (fun i wr => ∃ j d : Nat, j ≤ 67 ∧ i = .int .i64 j ∧ wr = w5.drewN d) (fun i _ => 67 - (intOf i).toNat)
    case atStart => exact ⟨0, 0, by omega, rfl, rfl⟩
    case round =>
      obtain ⟨j, d, hj, rfl, rfl⟩ := hrel
      by_cases hlt : j < 67
      · obtain ⟨b1, o1, rfl, _, q1, c1⟩ := HS5.out.cellAt (i := j) (by rw [HL.out]; exact hlt)
        have d1 := c1 j (by rw [HL.out]; exact hlt)
        obtain ⟨z1, z2⟩ := HBD.out j hlt
        rw [HL.out] at q1
        generalize A.getD j 0 = z at d1 z1 z2
        have z2' : z < 16 := z2
        have z4 : decide ((16 : Int) ≤ z) = false := by rw [decide_eq_false_iff_not]; omega
        have z3 : decide (z < 0) = false := by rw [decide_eq_false_iff_not]; omega
        have hlt' : (j : Int) < 67 := by omega
        clear c1 z2
        go_wp2_with fail
        go_quiet (fail)
        go_wp2_with fail
        go_roundw
        case rel => exact ⟨j + 1, d + nq, by omega, by go_num, rfl⟩
        case measure => simp [intOf]; omega
      · obtain rfl : j = 67 := by omega
        go_wp2_with fail
        refine (alive03_any _).mono ?_
        rintro e w11 ⟨rfl, b11⟩
        have HB11 : Hid (Below w.heap.size w w11) := Lib.hid (HB5.out.trans ((show Below w5.heap.size w5 w11 from ⟨b11.os, b11.tape, b11.output, b11.size, b11.block⟩).mono HB5.out.size))
        clear b11
        go_wp2_with fail
        go_ret
        exact ⟨rfl, HB11.out⟩
  · obtain ⟨K1, K2, K3, K4, K5⟩ := key 8 (by omega)
    have ec : ((chkN 8 : Nat) : Int) = 2 := rfl
    have es : ((16 - chkN 8 * 8 : Nat) : Int) = 0 := rfl
    rw [ec] at K2
    rw [es] at K3
    clear ec es
    have hx := numN_lt l 8 (by omega)
    have hm := numN_mod l 8
    have HL : Hid ((NI (allN l 8)).length = 34) := Lib.hid (by rw [NI_length, allN_length]; rfl)
    have HBD := Lib.hid (allN_bd l 8)
    rw [HL.out] at HBD
    generalize numN l 8 = x at K4 hx hm
    generalize NI (allN l 8) = A at K5 HL HBD
    have hm2 : (x : Int) % 1 = 0 := by
      have : x % 1 = 0 := hm
      omega
    have hx3 : (x : Int) < 65536 := by omega
    have HX := Lib.hid hx
    clear key hm hx
    go_enter Try.func13, Try.ntmps13
    go_upto_region 1 with (fail)
    rw [← HV.out]
    go_wp2_with fail
    refine (K1.out V).mono ?_
    rintro e w1 ⟨rfl, b1⟩
    have HR1 := Lib.hid (HVR.out.later (b1.block _ (Array.getElem?_eq_some_iff.1 HVR.out).1))
    have HB1 := Lib.hid (HVB.out.trans (b1.mono HVB.out.size))
    clear b1
    go_wp2_with fail
    refine (K2.out w1).mono ?_
    rintro e w2 ⟨rfl, b2⟩
    have HR2 := Lib.hid (HR1.out.later (b2.block _ (Array.getElem?_eq_some_iff.1 HR1.out).1))
    have HB2 := Lib.hid (HB1.out.trans (b2.mono HB1.out.size))
    clear b2
    go_wp2_with fail
    refine (K3.out w2).mono ?_
    rintro e w3 ⟨rfl, b3⟩
    have HR3 := Lib.hid (HR2.out.later (b3.block _ (Array.getElem?_eq_some_iff.1 HR2.out).1))
    have HB3 := Lib.hid (HB2.out.trans (b3.mono HB2.out.size))
    clear b3
    go_wp2_with (refine wpList_load_row rfl 29 _ rfl w.heap.size rfl _ (B8 l).toArray (0, 0) _ HR3.out Try.underlying29 rfl I32.out ?_)
    refine (K4.out w3).mono ?_
    rintro e w4 ⟨rfl, b4⟩
    have HR4 := Lib.hid (HR3.out.later (b4.block _ (Array.getElem?_eq_some_iff.1 HR3.out).1))
    have HB4 := Lib.hid (HB3.out.trans (b4.mono HB3.out.size))
    clear b4
    go_wp2_with (refine wpList_load_row rfl 29 _ rfl w.heap.size rfl _ (B8 l).toArray (0, 0) _ HR4.out Try.underlying29 rfl I32.out ?_)
    refine (K5.out w4).mono ?_
    rintro e w5 ⟨v, rfl, s5, b5⟩
    have HB5 := Lib.hid (HB4.out.trans (b5.mono HB4.out.size))
    have HS5 := Lib.hid s5
    obtain ⟨a, c, rfl⟩ := s5.shape
    rw [HL.out]
    clear s5 b5
    go_wp2_with fail
    go_loopw [16] (fun i wr => ∃ j d : Nat, j ≤ 34 ∧ i = .int .i64 j ∧ wr = w5.drewN d) (fun i _ => 34 - (intOf i).toNat)
    case atStart => exact ⟨0, 0, by omega, rfl, rfl⟩
    case round =>
      obtain ⟨j, d, hj, rfl, rfl⟩ := hrel
      by_cases hlt : j < 34
      · obtain ⟨b1, o1, rfl, _, q1, c1⟩ := HS5.out.cellAt (i := j) (by rw [HL.out]; exact hlt)
        have d1 := c1 j (by rw [HL.out]; exact hlt)
        obtain ⟨z1, z2⟩ := HBD.out j hlt
        rw [HL.out] at q1
        generalize A.getD j 0 = z at d1 z1 z2
        have z2' : z < 256 := z2
        have z4 : decide ((256 : Int) ≤ z) = false := by rw [decide_eq_false_iff_not]; omega
        have z3 : decide (z < 0) = false := by rw [decide_eq_false_iff_not]; omega
        have hlt' : (j : Int) < 34 := by omega
        clear c1 z2
        go_wp2_with fail
        go_quiet (fail)
        go_wp2_with fail
        go_roundw
        case rel => exact ⟨j + 1, d + nq, by omega, by go_num, rfl⟩
        case measure => simp [intOf]; omega
      · obtain rfl : j = 34 := by omega
        go_wp2_with fail
        refine (alive03_any _).mono ?_
        rintro e w11 ⟨rfl, b11⟩
        have HB11 : Hid (Below w.heap.size w w11) := Lib.hid (HB5.out.trans ((show Below w5.heap.size w5 w11 from ⟨b11.os, b11.tape, b11.output, b11.size, b11.block⟩).mono HB5.out.size))
        clear b11
        go_wp2_with fail
        go_ret
        exact ⟨rfl, HB11.out⟩
end Go.Proofs.Ytabgnahjejhnkaa

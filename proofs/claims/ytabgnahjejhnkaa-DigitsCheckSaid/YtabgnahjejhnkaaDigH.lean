/- The walks of the document's Shift, Number and All; Ints. -/
import Derived.Test.YtabgnahjejhnkaaDigG
namespace Go.Proofs.Ytabgnahjejhnkaa
open Go Go.RowKit
set_option maxHeartbeats 1000000

theorem rShift_any (n : Int) (w : World) (hn : -9223372036854775808 ≤ n ∧ n ≤ 9223372036854775807) : Calls Try.prog 42 #[.int .i64 n] w fun e w' => e = .returned (.tuple #[.int .i64 (shiftW n), .int .i64 (errW n)]) ∧ ∃ m, w' = w.drewN m := by
  have HC := Lib.hid (rCheck_any n w)
  by_cases hw : isW n = true
  · obtain ⟨k, rfl⟩ : ∃ k : Nat, n = k := ⟨n.toNat, by rcases (isW_iff n).1 hw with h | h | h | h <;> omega⟩
    have hk : k = 1 ∨ k = 2 ∨ k = 4 ∨ k = 8 := by rcases (isW_iff _).1 hw with h | h | h | h <;> omega
    obtain ⟨e1, e2, e3, e4⟩ := own_of k hk
    rw [e3, e4]
    rw [e2, e4] at HC
    obtain ⟨c, hc⟩ : ∃ c, c = chkN k := ⟨_, rfl⟩
    obtain ⟨sh, hsh⟩ : ∃ sh, sh = 16 - chkN k * k := ⟨_, rfl⟩
    have hck : (c : Int) * k = 16 - sh := by rw [hc, hsh]; rcases hk with rfl | rfl | rfl | rfl <;> decide
    have hsb : sh ≤ 7 := by rw [hsh]; rcases hk with rfl | rfl | rfl | rfl <;> decide
    rw [← hc] at HC
    rw [← hsh]
    clear hw hk e1 e2 e3 e4 hc hsh
    go_enter Try.func42, Try.ntmps42
    go_wp2_with fail
    refine HC.out.mono ?_
    rintro e w1 ⟨rfl, m, rfl⟩
    go_wp2_with fail
    go_ret2
    have e16 : (16 : Int) - (16 - sh) = sh := by omega
    exact ⟨by simp [e16], m, rfl⟩
  · have hw' : isW n = false := by simpa using hw
    have e1 : shiftW n = 0 := by simp [shiftW, hw']
    have e3 : errW n = 1 := by simp [errW, hw']
    rw [e3] at HC
    rw [e1, e3]
    generalize chkW n = c at HC
    clear hw hw' e1 e3
    go_enter Try.func42, Try.ntmps42
    go_wp2_with fail
    refine HC.out.mono ?_
    rintro e w1 ⟨rfl, m, rfl⟩
    go_wp2_with fail
    go_ret2
    exact ⟨rfl, m, rfl⟩

theorem digV_ok (l : List UInt8) (j k : Nat) (hl : l.length = 32) (hk : k = 1 ∨ k = 2 ∨ k = 4 ∨ k = 8) (hj : j < 256 / k) : digV l j k = dig l j k ∧ digE l j k = 0 := by
  have hw : isW (k : Int) = true := (isW_iff _).2 (by omega)
  have h1 : (j : Int) < (l.length : Int) * 8 / k := by
    rw [hl]
    rcases hk with rfl | rfl | rfl | rfl <;> omega
  have : digOk l j k = true := by simp [digOk, hw, h1]
  simp [digV, digE, this]

theorem rNumber_any (l : List UInt8) (n : Int) (w : World) (hl : l.length = 32) (hn : -9223372036854775808 ≤ n ∧ n ≤ 9223372036854775807) :
    Calls Try.prog 36 #[.agg (B8 l).toArray, .int .i64 n] w fun e w' => e = .returned (.tuple #[.int .i64 (if isW n then (numN l n.toNat : Int) else 0), .int .i64 (errW n)]) ∧ Below w.heap.size w w' := by
  have I32 : Hid ((Try.prog.info? 29).map (·.size) = some (B8 l).toArray.size) := Lib.hid (by rw [info_h32]; simp [B8_length, hl])
  obtain ⟨V, HV, HVB, HVR⟩ : ∃ V, Hid (V = w.alloc (.cells (B8 l).toArray 29)) ∧ Hid (Below w.heap.size w V) ∧ Hid (Arr8 V w.heap.size 29 l) := ⟨_, Lib.hid rfl, Lib.hid ((Below.refl _ _).alloc (Nat.le_refl _) _), Lib.hid (box32 l w)⟩
  have HC := Lib.hid (rShift_any n V hn)
  by_cases hw : isW n = true
  · obtain ⟨k, rfl⟩ : ∃ k : Nat, n = k := ⟨n.toNat, by rcases (isW_iff n).1 hw with h | h | h | h <;> omega⟩
    have hk : k = 1 ∨ k = 2 ∨ k = 4 ∨ k = 8 := by rcases (isW_iff _).1 hw with h | h | h | h <;> omega
    obtain ⟨e1, e2, e3, e4⟩ := own_of k hk
    rw [if_pos hw, Int.toNat_natCast, e4]
    rw [e3, e4] at HC
    obtain ⟨R, HR⟩ : ∃ R, Hid (R = numN l k) := ⟨_, Lib.hid rfl⟩
    rw [← HR.out]
    obtain ⟨own, hown⟩ : ∃ own, own = 256 / k := ⟨_, rfl⟩
    obtain ⟨sh, hsh⟩ : ∃ sh, sh = 16 - chkN k * k := ⟨_, rfl⟩
    obtain ⟨P, hP⟩ : ∃ P, P = 2 ^ k := ⟨_, rfl⟩
    have HRM : Hid (R = (own * (P - 1) - sumD l k own) * 2 ^ sh) := Lib.hid (by rw [HR.out, numN, ← hown, ← hsh, ← hP])
    have hob : own ≤ 256 := by rw [hown]; rcases hk with rfl | rfl | rfl | rfl <;> decide
    have hPb : 2 ≤ P ∧ P ≤ 256 := by rw [hP]; rcases hk with rfl | rfl | rfl | rfl <;> decide
    have hoP : own * (P - 1) ≤ 8160 := by rw [hown, hP]; rcases hk with rfl | rfl | rfl | rfl <;> decide
    have hsb : sh ≤ 7 := by rw [hsh]; rcases hk with rfl | rfl | rfl | rfl <;> decide
    have hkb : 1 ≤ k ∧ k ≤ 8 := by omega
    have hRb : R < 65536 := by rw [HR.out]; exact numN_lt l k hk
    have hdiv : (256 : Int) / k = own := by rw [hown]; rcases hk with rfl | rfl | rfl | rfl <;> decide
    have HP := Lib.hid (fun w' => power_any k w' (by omega))
    have HPS := Lib.hid (fun w' => power_any sh w' (by omega))
    rw [← hP] at HP
    rw [← hsh] at HC
    have HDV := Lib.hid (fun j hj => digV_ok l j k hl hk hj)
    rw [← hown] at HDV
    have HSL := Lib.hid (fun j => sumD_le l k j)
    rw [← hP] at HSL
    have HDL := Lib.hid (fun j => dig_lt l j k)
    rw [← hP] at HDL
    have HL := Lib.hid hl
    clear hw hk e1 e2 e3 e4 hown hsh hP hl
    go_enter Try.func36, Try.ntmps36
    go_upto_region 1 with (fail)
    rw [← HV.out]
    go_wp2_with fail
    refine HC.out.mono ?_
    rintro e w1 ⟨rfl, mm, rfl⟩
    have HS1 : Hid (Sl (V.drewN mm) (.slice (some ⟨w.heap.size, 0, none⟩) 32 32) l) := Lib.hid (Sl.ofBlock (show (V.drewN mm).heap[w.heap.size]? = _ from HVR.out) HL.out.symm (Nat.le_refl _) (by simp [maxLen]) (fun i _ => by rw [Nat.zero_add, List.getElem?_toArray]))
    have HBB : Hid (Below w.heap.size w (V.drewN mm)) := Lib.hid ⟨HVB.out.os, HVB.out.tape, HVB.out.output, HVB.out.size, HVB.out.block⟩
    generalize V.drewN mm = X at HS1 HBB ⊢
    go_wp2_with fail
    go_loop [8, 9] (fun s i => ∃ j x : Nat, j ≤ own ∧ i = .int .i64 j ∧ s = .int .i64 x ∧ x ≤ 8160 ∧ Hid (x + sumD l k j = j * (P - 1))) (fun _ i => own - (intOf i).toNat)
    case atStart => exact ⟨0, 0, by omega, rfl, rfl, by omega, Lib.hid (by simp [sumD])⟩
    case round =>
      obtain ⟨j, x, hj, rfl, rfl, hx, HX⟩ := hrel
      by_cases hlt : j < own
      · obtain ⟨v1, v2⟩ := HDV.out j hlt
        have HD := Lib.hid (rDigit_any _ l j k X HS1.out (by rw [HL.out]; omega) (by omega))
        rw [v1, v2] at HD
        have hdl := HDL.out j
        have HSD : Hid (sumD l k (j + 1) = sumD l k j + dig l j k) := Lib.hid rfl
        generalize dig l j k = d at HD HSD hdl v1
        have HJ : Hid (x + P - 1 - d + sumD l k (j + 1) = (j + 1) * (P - 1)) := Lib.hid (by
          have := HX.out
          rw [HSD.out, Nat.add_mul]
          omega)
        have hx2 : x + P - 1 - d ≤ 8160 := by
          have h1 := HJ.out
          have h2 : (j + 1) * (P - 1) ≤ own * (P - 1) := Nat.mul_le_mul_right _ (by omega)
          omega
        clear v1 v2
        go_wp2_with (first
          | (go_at_call 16; refine HD.out.mono ?_; rintro e w' ⟨rfl, rfl⟩)
          | (go_at_call 58; refine (HP.out _).mono ?_; rintro e w' ⟨rfl, rfl⟩))
        go_round
        case rel => exact ⟨j + 1, x + P - 1 - d, by omega, by go_num, by go_num, hx2, HJ⟩
        case measure => simp [intOf]; omega
      · obtain rfl : j = own := by omega
        have hxR : x * 2 ^ sh = R := by
          have := HX.out
          rw [HRM.out]
          congr 1
          omega
        obtain ⟨y, hy⟩ : ∃ y, y = 2 ^ sh := ⟨_, rfl⟩
        rw [← hy] at HPS hxR
        have hxi : (x : Int) * y = (R : Int) := by rw [← hxR]; simp
        have hy2 : y ≤ 128 := by rw [hy]; exact Nat.le_trans (Nat.pow_le_pow_right (by omega) hsb) (by decide)
        clear hy hxR
        go_wp2_with (go_at_call 58; refine (HPS.out _).mono ?_; rintro e w' ⟨rfl, rfl⟩)
        go_ret2
        exact ⟨rfl, HBB.out⟩
  · have hw' : isW n = false := by simpa using hw
    have e1 : shiftW n = 0 := by simp [shiftW, hw']
    have e3 : errW n = 1 := by simp [errW, hw']
    rw [e1, e3] at HC
    rw [if_neg hw, e3]
    clear hw hw' e1 e3
    go_enter Try.func36, Try.ntmps36
    go_upto_region 1 with (fail)
    rw [← HV.out]
    go_wp2_with fail
    refine HC.out.mono ?_
    rintro e w1 ⟨rfl, m, rfl⟩
    go_wp2_with fail
    go_ret2
    exact ⟨rfl, ⟨HVB.out.os, HVB.out.tape, HVB.out.output, HVB.out.size, HVB.out.block⟩⟩

theorem Ints_any (va vb : Value) (la lb : List Int) (w : World) (ha : SlI w .i64 va la) (hb : SlI w .i64 vb lb) (hla : la.length ≤ 1000000) (hlb : lb.length ≤ 1000000) :
    Calls Try.prog 33 #[va, vb] w fun e w' => e = .returned (.bool (decide (la = lb))) ∧ ∃ m, w' = w.drewN m := by
  obtain ⟨R, HR⟩ : ∃ R, Hid (R = decide (la = lb)) := ⟨_, Lib.hid rfl⟩
  rw [← HR.out]
  obtain ⟨aa, ca, rfl⟩ := ha.shape
  obtain ⟨ab, cb, rfl⟩ := hb.shape
  obtain ⟨m, HM⟩ : ∃ m, Hid (m = la.length) := ⟨_, Lib.hid rfl⟩
  obtain ⟨n, HN⟩ : ∃ n, Hid (n = lb.length) := ⟨_, Lib.hid rfl⟩
  have HA := Lib.hid ha
  have HB := Lib.hid hb
  rw [← HM.out] at hla ⊢
  rw [← HN.out] at hlb ⊢
  clear ha hb
  by_cases hmn : m = n
  · subst hmn
    go_enter Try.func33, Try.ntmps33
    go_wp2_with fail
    go_loopw [5] (fun i wr => ∃ j d : Nat, j ≤ m ∧ i = .int .i64 j ∧ wr = w.drewN d ∧ Hid (la.take j = lb.take j)) (fun i _ => m - (intOf i).toNat)
    case atStart => exact ⟨0, 0, by omega, rfl, rfl, Lib.hid rfl⟩
    case round =>
      obtain ⟨j, d, hj, rfl, rfl, HJ⟩ := hrel
      by_cases hlt : j < m
      · obtain ⟨b1, o1, rfl, _, q1, c1⟩ := HA.out.cellAt (i := j) (by rw [← HM.out]; exact hlt)
        obtain ⟨b2, o2, rfl, _, q2, c2⟩ := HB.out.cellAt (i := j) (by rw [← HN.out]; exact hlt)
        rw [← HM.out] at q1
        rw [← HN.out] at q2
        have d1 := c1 j (by rw [← HM.out]; exact hlt)
        have d2 := c2 j (by rw [← HN.out]; exact hlt)
        have hlt' : (j : Int) < m := by omega
        by_cases he : la.getD j 0 = lb.getD j 0
        · have HT : Hid (la.take (j + 1) = lb.take (j + 1)) := Lib.hid (by
            rw [← take_snocI la j (by rw [← HM.out]; exact hlt), ← take_snocI lb j (by rw [← HN.out]; exact hlt), HJ.out, he])
          rw [he] at d1
          generalize lb.getD j 0 = z at d1 d2
          clear c1 c2 he
          go_wp2_with fail
          go_quiet (fail)
          go_wp2_with fail
          go_roundw
          case rel => exact ⟨j + 1, d + nq, by omega, by go_num, rfl, HT⟩
          case measure => simp [intOf]; omega
        · have HF : Hid (R = false) := Lib.hid (by
            rw [HR.out, decide_eq_false_iff_not]
            intro e
            exact he (by rw [e]))
          have hne : (la.getD j 0 == lb.getD j 0) = false := by simpa using he
          generalize la.getD j 0 = z1 at d1 hne he
          generalize lb.getD j 0 = z2 at d2 hne he
          clear c1 c2
          go_wp2_with fail
          go_quiet (fail)
          go_wp2_with fail
          go_ret
          exact ⟨by rw [HF.out]; rfl, d + nq, by rw [World.drewN_drewN]⟩
      · obtain rfl : j = m := by omega
        have HT : Hid (R = true) := Lib.hid (by
          have := HJ.out
          rw [List.take_of_length_le (by rw [← HM.out]; exact Nat.le_refl _), List.take_of_length_le (by rw [← HN.out]; exact Nat.le_refl _)] at this
          rw [HR.out, this]; simp)
        go_wp2_with fail
        go_ret
        exact ⟨by rw [HT.out]; rfl, d, rfl⟩
  · have hmi : ¬ (m : Int) = n := by omega
    have HF : Hid (R = false) := Lib.hid (by
      rw [HR.out, decide_eq_false_iff_not]
      intro e
      exact hmn (by rw [HM.out, HN.out, e]))
    go_enter Try.func33, Try.ntmps33
    go_wp2_with fail
    go_ret
    exact ⟨by rw [HF.out]; rfl, 0, rfl⟩
end Go.Proofs.Ytabgnahjejhnkaa

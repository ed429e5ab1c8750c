/- The walk of the document's All. -/
import Derived.Test.YtabgnahjejhnkaaDigH
namespace Go.Proofs.Ytabgnahjejhnkaa
open Go Go.RowKit
set_option maxHeartbeats 1000000

theorem allN_take_own (l : List UInt8) (k j : Nat) (hl : l.length = 32) (hk : k = 1 ∨ k = 2 ∨ k = 4 ∨ k = 8) (hj : j < 256 / k) : (NI (allN l k)).getD j 0 = (dig l j k : Int) := by
  rw [NI_getD, allN_getD l k j (by omega), dig_own l _ j k hl hk hj]
theorem allN_take_chk (l : List UInt8) (k j : Nat) (hl : l.length = 32) (hk : k = 1 ∨ k = 2 ∨ k = 4 ∨ k = 8) (hj : j < chkN k) : (NI (allN l k)).getD (256 / k + j) 0 = (dig (tailB l k) j k : Int) := by
  rw [NI_getD, allN_getD l k _ (by omega), dig_tail l _ j k hl hk]
theorem digV_tail (l : List UInt8) (j k : Nat) (hl : l.length = 2) (hk : k = 1 ∨ k = 2 ∨ k = 4 ∨ k = 8) (hj : j < chkN k) : digV l j k = dig l j k ∧ digE l j k = 0 := by
  have hw : isW (k : Int) = true := (isW_iff _).2 (by omega)
  have h1 : (j : Int) < (l.length : Int) * 8 / k := by
    rw [hl]
    rcases hk with rfl | rfl | rfl | rfl <;> simp [chkN] at hj ⊢ <;> omega
  have : digOk l j k = true := by simp [digOk, hw, h1]
  simp [digV, digE, this]

theorem one_int (w : World) (d : Int) : SlI (w.alloc (.cells #[.int .i64 d] 3)) .i64 (.slice (some ⟨w.heap.size, 0, none⟩) 1 1) [d] :=
  (RowI.made w 3 .i64 [d] _ rfl).sl rfl (Nat.le_refl _) (by simp [maxLen])
theorem rAll_any (l : List UInt8) (n : Int) (w : World) (hl : l.length = 32) (hn : -9223372036854775808 ≤ n ∧ n ≤ 9223372036854775807) :
    Calls Try.prog 34 #[.agg (B8 l).toArray, .int .i64 n] w fun e w' => ∃ v, e = .returned (.tuple #[v, .int .i64 (errW n)]) ∧ SlI w' .i64 v (allV l n) ∧ Below w.heap.size w w' := by
  have I32 : Hid ((Try.prog.info? 29).map (·.size) = some (B8 l).toArray.size) := Lib.hid (by rw [info_h32]; simp [B8_length, hl])
  obtain ⟨V, HV, HVB, HVR⟩ : ∃ V, Hid (V = w.alloc (.cells (B8 l).toArray 29)) ∧ Hid (Below w.heap.size w V) ∧ Hid (Arr8 V w.heap.size 29 l) := ⟨_, Lib.hid rfl, Lib.hid ((Below.refl _ _).alloc (Nat.le_refl _) _), Lib.hid (box32 l w)⟩
  have HN := Lib.hid (rNumber_any l n V hl hn)
  by_cases hw : isW n = true
  · obtain ⟨k, rfl⟩ : ∃ k : Nat, n = k := ⟨n.toNat, by rcases (isW_iff n).1 hw with h | h | h | h <;> omega⟩
    have hk : k = 1 ∨ k = 2 ∨ k = 4 ∨ k = 8 := by rcases (isW_iff _).1 hw with h | h | h | h <;> omega
    have HAV : Hid (allV l k = NI (allN l k)) := Lib.hid (by rw [allV, if_pos hw, Int.toNat_natCast])
    obtain ⟨e1, e2, e3, e4⟩ := own_of k hk
    rw [if_pos hw, Int.toNat_natCast, e4] at HN
    rw [e4]
    have HCK := Lib.hid (fun w' => rCheck_any k w')
    rw [e2, e4] at HCK
    obtain ⟨own, hown⟩ : ∃ own, own = 256 / k := ⟨_, rfl⟩
    obtain ⟨chk, hchk⟩ : ∃ chk, chk = chkN k := ⟨_, rfl⟩
    obtain ⟨x, hx⟩ : ∃ x, x = numN l k := ⟨_, rfl⟩
    have hob : own ≤ 256 := by rw [hown]; rcases hk with rfl | rfl | rfl | rfl <;> decide
    have hcb : chk ≤ 9 := by rw [hchk]; rcases hk with rfl | rfl | rfl | rfl <;> decide
    have hxb : x < 65536 := by rw [hx]; exact numN_lt l k hk
    have hkb : 1 ≤ k ∧ k ≤ 8 := by omega
    have hdiv : (256 : Int) / k = own := by rw [hown]; rcases hk with rfl | rfl | rfl | rfl <;> decide
    obtain ⟨A, HA⟩ : ∃ A, Hid (A = NI (allN l k)) := ⟨_, Lib.hid rfl⟩
    have HAL : Hid (A.length = own + chk) := Lib.hid (by rw [HA.out, NI_length, allN_length, hown, hchk])
    have HG1 : Hid (∀ j, j < own → A.getD j 0 = digV l j k) := Lib.hid fun j hj => by rw [HA.out, allN_take_own l k j hl hk (by rw [← hown]; exact hj), (digV_ok l j k hl hk (by rw [← hown]; exact hj)).1]
    have HG2 : Hid (∀ j, j < chk → A.getD (own + j) 0 = digV (tailB l k) j k) := Lib.hid fun j hj => by rw [HA.out, hown, allN_take_chk l k j hl hk (by rw [← hchk]; exact hj), (digV_tail _ j k rfl hk (by rw [← hchk]; exact hj)).1]
    obtain ⟨y1, hy1⟩ : ∃ y, y = x / 256 := ⟨_, rfl⟩
    obtain ⟨y0, hy0⟩ : ∃ y, y = x % 256 := ⟨_, rfl⟩
    have HT : Hid (B8 (tailB l k) = [.int .u8 (y1 : Int), .int .u8 (y0 : Int)]) := Lib.hid (by
      rw [tailB, ← hx, hy1, hy0]
      have h1 : x / 256 % 256 = x / 256 := by omega
      simp [B8, bn, h1])
    have q1 : (x : Int) / 256 = (y1 : Int) := by omega
    have q0 : (x : Int) % 256 = (y0 : Int) := by omega
    have q2 : (y1 : Int) % 256 = (y1 : Int) := by omega
    have q3 : (y0 : Int) % 256 = (y0 : Int) := by omega
    rw [← hx] at HN
    rw [← hchk] at HCK
    have HL := Lib.hid hl
    clear hw hk e1 e2 e3 e4 hown hchk hx hl hy1 hy0
    go_enter Try.func34, Try.ntmps34
    go_upto_region 1 with (fail)
    rw [← HV.out]
    go_wp2_with (refine wpList_load_row rfl 29 _ rfl w.heap.size rfl _ (B8 l).toArray (0, 0) _ HVR.out Try.underlying29 rfl I32.out ?_)
    refine HN.out.mono ?_
    rintro e w1 ⟨rfl, hb1⟩
    obtain ⟨W2, HW2, HB2, HR2, HO2, HBQ⟩ : ∃ W2, Hid (W2 = w1.alloc (.cells #[] 3)) ∧ Hid (Below w.heap.size w W2) ∧ Hid (W2.heap[w.heap.size]? = some (.cells (B8 l).toArray 29 (0, 0))) ∧ Hid (OwnI W2 w1.heap.size 3 .i64 (.slice (some ⟨w1.heap.size, 0, none⟩) 0 0) []) ∧ Hid (V.heap.size ≤ w1.heap.size) :=
      ⟨_, Lib.hid rfl, Lib.hid ((HVB.out.trans (hb1.mono HVB.out.size)).alloc (Nat.le_trans HVB.out.size hb1.size) _), Lib.hid ((heap_alloc_old _ _ (by have := (Array.getElem?_eq_some_iff.1 HVR.out).1; have := hb1.size; omega)).trans ((hb1.block _ (Array.getElem?_eq_some_iff.1 HVR.out).1).trans HVR.out)), Lib.hid (OwnI.none w1 _ _), Lib.hid hb1.size⟩
    clear hb1
    go_upto_region 5 with (fail)
    rw [← HW2.out]
    obtain ⟨B, hB⟩ : ∃ B, B = w1.heap.size := ⟨_, rfl⟩
    rw [← hB] at HO2 HBQ ⊢
    have HWB : Hid (w.heap.size < B ∧ B < W2.heap.size) := Lib.hid (by
      have h1 := (Array.getElem?_eq_some_iff.1 HVR.out).1
      have h2 := HBQ.out
      rw [HW2.out, hB]
      simp
      omega)
    clear hB
    obtain ⟨i0, hi, hz0, hz1, hz2⟩ := info_parts info_i64
    have HI := Lib.hid hi
    have HZ0 := Lib.hid hz0
    have HZ1 := Lib.hid hz1
    have HZ2 := Lib.hid hz2
    clear hi hz0 hz1 hz2
    go_wp2_with fail
    go_loopw [8, 9] (fun s i wr => ∃ j : Nat, j ≤ own ∧ i = .int .i64 j ∧ Hid (OwnI wr B 3 .i64 s (A.take j)) ∧ Hid (Below B W2 wr)) (fun _ i _ => own - (intOf i).toNat)
    case atStart => exact ⟨0, by omega, rfl, HO2, Lib.hid (Below.refl _ _)⟩
    case round =>
      obtain ⟨j, hj, rfl, HO, HB⟩ := hrel
      obtain ⟨sa, sc, rfl⟩ := HO.out.shape
      have hlen : (A.take j).length = j := by rw [List.length_take, HAL.out]; omega
      have HLEN := Lib.hid hlen
      rw [hlen] at HO ⊢
      clear hlen
      have HSW : Hid (Sl wr (.slice (some ⟨w.heap.size, 0, none⟩) 32 32) l) := Lib.hid (by
        exact Sl.ofBlock ((HB.out.block _ HWB.out.1).trans HR2.out) HL.out.symm (Nat.le_refl _) (by simp [maxLen]) (fun i _ => by rw [Nat.zero_add, List.getElem?_toArray]))
      by_cases hlt : j < own
      · have HD := Lib.hid (fun w' (h : Sl w' (.slice (some ⟨w.heap.size, 0, none⟩) 32 32) l) => rDigit_any _ l j k w' h (by rw [HL.out]; omega) (by omega))
        have HG := Lib.hid (HG1.out j hlt)
        have HTS := Lib.hid (take_snocI A j (by rw [HAL.out]; omega))
        rw [HG.out] at HTS
        generalize digV l j k = d at HD HTS
        generalize digE l j k = ee at HD
        go_wp2_with fail
        refine (HD.out wr HSW.out).mono ?_
        rintro e w' ⟨rfl, rfl⟩
        have HOA : Hid (OwnI (w'.alloc (.cells #[.int .i64 d] 3)) B 3 .i64 (.slice sa j sc) (A.take j)) := Lib.hid (HO.out.later ((Below.refl _ _).alloc (Nat.le_refl _) _))
        have HS1 := Lib.hid (one_int w' d)
        have HLL : Hid ((A.take j).length + [d].length ≤ 1000000000) := Lib.hid (by rw [HLEN.out]; simp; omega)
        have HBa : Hid (B ≤ (w'.alloc (.cells #[.int .i64 d] 3)).heap.size) := Lib.hid (by have := HB.out.size; have := HWB.out; simp; omega)
        go_wp2_with (at_builtin; refine wpList_appendI rfl _ _ 52 3 rfl .i64 8 Try.underlying52 HI.out HZ0.out HZ1.out HZ2.out (by decide) B _ (A.take j) rfl HOA.out _ [d] rfl HS1.out HLL.out HBa.out ?_; intro v3 w3 hv3 hg3 hor3)
        have HB3 := Lib.hid ((HB.out.alloc (by have := HB.out.size; have := HWB.out; omega) (.cells #[.int .i64 d] 3)).trans (HOA.out.below hg3 HBa.out))
        have HV3 : Hid (OwnI w3 B 3 .i64 v3 (A.take (j + 1))) := Lib.hid (by rw [← HTS.out]; exact hv3)
        clear hv3 hg3 hor3
        go_roundw
        case rel => exact ⟨j + 1, by omega, by go_num, HV3, HB3⟩
        case measure => simp [intOf]; omega
      · obtain rfl : j = own := by omega
        go_wp2_with fail
        refine (HCK.out wr).mono ?_
        rintro e w' ⟨rfl, mm, rfl⟩
        have HO' : Hid (OwnI (wr.drewN mm) B 3 .i64 (.slice sa j sc) (A.take (j + 0))) := HO
        have HB' : Hid (Below B W2 (wr.drewN mm)) := Lib.hid ⟨HB.out.os, HB.out.tape, HB.out.output, HB.out.size, HB.out.block⟩
        clear HO HB HSW
        generalize wr.drewN mm = X at HO' HB' ⊢
        go_wp2_with fail
        go_loopw [8, 14] (fun s i wr => ∃ q : Nat, q ≤ chk ∧ i = .int .i64 q ∧ Hid (OwnI wr B 3 .i64 s (A.take (j + q))) ∧ Hid (Below B W2 wr)) (fun _ i _ => chk - (intOf i).toNat)
        case atStart => exact ⟨0, by omega, rfl, HO', HB'⟩
        case round =>
          obtain ⟨q, hq, rfl, HO, HB⟩ := hrel
          obtain ⟨ta, tc, rfl⟩ := HO.out.shape
          have hlen : (A.take (j + q)).length = j + q := by rw [List.length_take, HAL.out]; omega
          have HLQ := Lib.hid hlen
          rw [hlen] at HO ⊢
          clear hlen
          by_cases hlt2 : q < chk
          · have HTB : Hid (Sl (wr.alloc (.cells #[.int .u8 (y1 : Int), .int .u8 (y0 : Int)] 5)) (.slice (some ⟨wr.heap.size, 0, none⟩) 2 2) (tailB l k)) := Lib.hid (Sl.made wr (tailB l k) _ _ _ _ (by rw [HT.out]) rfl (by decide) rfl)
            have HD := Lib.hid (fun w' (h : Sl w' (.slice (some ⟨wr.heap.size, 0, none⟩) 2 2) (tailB l k)) => rDigit_any _ (tailB l k) q k w' h (by simp [tailB]) (by omega))
            have HG := Lib.hid (HG2.out q hlt2)
            have HTS := Lib.hid (take_snocI A (j + q) (by rw [HAL.out]; omega))
            rw [HG.out] at HTS
            generalize digV (tailB l k) q k = d at HD HTS
            generalize digE (tailB l k) q k = ee at HD
            have HXB : Hid (Below B W2 (wr.alloc (.cells #[.int .u8 (y1 : Int), .int .u8 (y0 : Int)] 5))) := Lib.hid (HB.out.alloc (by have := HB.out.size; have := HWB.out; omega) _)
            have HXO : Hid (OwnI (wr.alloc (.cells #[.int .u8 (y1 : Int), .int .u8 (y0 : Int)] 5)) B 3 .i64 (.slice ta (j + q) tc) (A.take (j + q))) := Lib.hid (HO.out.later ((Below.refl _ _).alloc (Nat.le_refl _) _))
            go_wp2_with fail
            refine (HD.out _ HTB.out).mono ?_
            rintro e w' ⟨rfl, he⟩
            rw [← he] at HXB HXO
            clear he HD HTB
            have HOA : Hid (OwnI (w'.alloc (.cells #[.int .i64 d] 3)) B 3 .i64 (.slice ta (j + q) tc) (A.take (j + q))) := Lib.hid (HXO.out.later ((Below.refl _ _).alloc (Nat.le_refl _) _))
            have HS1 := Lib.hid (one_int w' d)
            have HLL : Hid ((A.take (j + q)).length + [d].length ≤ 1000000000) := Lib.hid (by rw [HLQ.out]; simp; omega)
            have HBa : Hid (B ≤ (w'.alloc (.cells #[.int .i64 d] 3)).heap.size) := Lib.hid (by have := HXB.out.size; have := HWB.out; simp; omega)
            go_wp2_with (at_builtin; refine wpList_appendI rfl _ _ 52 3 rfl .i64 8 Try.underlying52 HI.out HZ0.out HZ1.out HZ2.out (by decide) B _ (A.take (j + q)) rfl HOA.out _ [d] rfl HS1.out HLL.out HBa.out ?_; intro v3 w3 hv3 hg3 hor3)
            have HB3 := Lib.hid ((HXB.out.alloc (by have := HXB.out.size; have := HWB.out; omega) (.cells #[.int .i64 d] 3)).trans (HOA.out.below hg3 HBa.out))
            have HV3 : Hid (OwnI w3 B 3 .i64 v3 (A.take (j + (q + 1)))) := Lib.hid (by rw [← Nat.add_assoc, ← HTS.out]; exact hv3)
            clear hv3 hg3 hor3
            go_roundw
            case rel => exact ⟨q + 1, by omega, by go_num, HV3, HB3⟩
            case measure => simp [intOf]; omega
          · obtain rfl : q = chk := by omega
            have HF : Hid (SlI wr .i64 (.slice ta (j + q) tc) (allV l k)) := Lib.hid (by
              have h := HO.out.sl
              rw [List.take_of_length_le (by rw [HAL.out]; exact Nat.le_refl _)] at h
              rw [HAV.out, ← HA.out]
              exact h)
            have HBF : Hid (Below w.heap.size w wr) := Lib.hid (HB2.out.trans (HB.out.mono (Nat.le_of_lt HWB.out.1)))
            go_wp2_with fail
            go_ret2
            exact ⟨_, rfl, HF.out, HBF.out⟩
  · have hw' : isW n = false := by simpa using hw
    have HAV : Hid (allV l n = []) := Lib.hid (by rw [allV, if_neg hw])
    have he : errW n = 1 := by simp [errW, hw']
    rw [if_neg hw, he] at HN
    rw [he]
    clear hw hw' he
    go_enter Try.func34, Try.ntmps34
    go_upto_region 1 with (fail)
    rw [← HV.out]
    go_wp2_with (refine wpList_load_row rfl 29 _ rfl w.heap.size rfl _ (B8 l).toArray (0, 0) _ HVR.out Try.underlying29 rfl I32.out ?_)
    refine HN.out.mono ?_
    rintro e w1 ⟨rfl, hb1⟩
    have HB1 := Lib.hid (HVB.out.trans (hb1.mono HVB.out.size))
    clear hb1
    go_wp2_with fail
    go_ret2
    exact ⟨_, rfl, .inl ⟨HAV.out, _, _, rfl⟩, HB1.out⟩
end Go.Proofs.Ytabgnahjejhnkaa

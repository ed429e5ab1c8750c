/- The walks of the document's Four, head, many, last, Type, Long. -/
import Derived.Test.YtcnelahmbfggcaaGreatG3
import Derived.Test.YtcnelahmbfggcaaGreatRefD
import Derived.Test.YtcnelahmbfggcaaGreatG1
namespace Go.Proofs.YtcnelahmbfggcaaGreat
open Go Go.RowKit
set_option maxRecDepth 100000
set_option maxHeartbeats 1000000

theorem Four_ref (q : Nat) (w : World) (hq : q < 4294967296) : Calls Tryz.prog 44 #[.int .u32 q] w fun e w' => ∃ a, e = .returned (.slice a 4 4) ∧ Sl w' (.slice a 4 4) (fourN q) ∧ Below w.heap.size w w' := by
  obtain ⟨a, ha⟩ : ∃ a, a = q / 16777216 := ⟨_, rfl⟩
  obtain ⟨b, hb⟩ : ∃ b, b = q / 65536 % 256 := ⟨_, rfl⟩
  obtain ⟨c, hc⟩ : ∃ c, c = q / 256 % 256 := ⟨_, rfl⟩
  obtain ⟨d, hd⟩ : ∃ d, d = q % 256 := ⟨_, rfl⟩
  have HF : Hid (#[Value.int .u8 a, .int .u8 b, .int .u8 c, .int .u8 d] = (B8 (fourN q)).toArray) := Lib.hid (by
    have h1 : q / 16777216 % 256 = q / 16777216 := by omega
    simp [fourN, B8, bn, ha, hb, hc, hd, h1])
  have ha' : (q : Int) / 16777216 = a := by omega
  have hb' : (q : Int) / 65536 % 256 = b := by omega
  have hc' : (q : Int) / 256 % 256 = c := by omega
  have hd' : (q : Int) % 256 = d := by omega
  have HS : Hid (Sl (w.alloc (.cells #[.int .u8 a, .int .u8 b, .int .u8 c, .int .u8 d] 5)) (.slice (some ⟨w.heap.size, 0, none⟩) 4 4) (fourN q)) := Lib.hid (Sl.made w (fourN q) _ _ _ _ HF.out rfl (by decide) rfl)
  clear ha hb hc hd
  go_enter Tryz.func44, Tryz.ntmps44
  go_wp2_with fail
  go_ret
  exact ⟨_, rfl, HS.out, (Below.refl _ _).alloc (Nat.le_refl _) _⟩

theorem head_ref (I S : List UInt8) (q : Nat) (d : Int) (w : World) (hI : I.length = 16) (hq : q < 4294967296) :
    Calls Tryz.prog 81 #[.agg (KeyV I S q d).toArray] w fun e w' => ∃ v, e = .returned v ∧ Own8 w' w.heap.size v (I ++ fourN q) ∧ Below w.heap.size w w' := by
  obtain ⟨W0, HW0, HB0, HS0, HR0⟩ : ∃ V, Hid (V = w.alloc (.cells (KeyV I S q d).toArray 93)) ∧ Hid (Below w.heap.size w V) ∧ Hid (V.heap.size = w.heap.size + 1) ∧ Hid (V.heap[w.heap.size]? = some (.cells (KeyV I S q d).toArray 93 (0, 0))) := ⟨_, Lib.hid rfl, Lib.hid ((Below.refl _ _).alloc (Nat.le_refl _) _), Lib.hid (by simp), Lib.hid (heap_alloc_new _ _)⟩
  have HB1 : Hid (Below W0.heap.size W0 (W0.alloc (.cells #[] 5))) := Lib.hid ((Below.refl _ _).alloc (Nat.le_refl _) _)
  have HO1 : Hid (Own8 (W0.alloc (.cells #[] 5)) W0.heap.size (.slice (some ⟨W0.heap.size, 0, none⟩) 0 0) []) := Lib.hid (own_none W0)
  have HR1 : Hid ((W0.alloc (.cells #[] 5)).heap[w.heap.size]? = some (.cells (KeyV I S q d).toArray 93 (0, 0))) := Lib.hid ((heap_alloc_old _ _ (by rw [HS0.out]; omega)).trans HR0.out)
  have HI := Lib.hid hI
  have HSI := Lib.hid (key_I HR1.out hI)
  clear hI
  go_enter Tryz.func81, Tryz.ntmps81
  go_upto_region 1 with (fail)
  rw [← HW0.out]
  go_wp2_with (first
    | (go_at_call 44; refine (Four_ref q _ hq).mono ?_; rintro e w3 ⟨a3, rfl, s3, b3⟩; have HF3 := Lib.hid s3; have HB3 := Lib.hid (HB2.out.trans (b3.mono HB2.out.size)); have HO3 := Lib.hid (HO2.out.later b3); clear s3 b3)
    | (at_builtin; refine wpList_append8 rfl _ _ rfl W0.heap.size _ [] rfl HO1.out _ I rfl HSI.out (by simp [HI.out]) HB1.out.size ?_; intro v2 w2 hv2 hg2 _; have HB2 := Lib.hid (HB1.out.trans (HO1.out.below hg2 HB1.out.size)); have HO2 := Lib.hid hv2; have hq2 := key_Q ((HB2.out.block _ (by rw [HS0.out]; omega)).trans HR0.out) HI.out; clear hv2 hg2)
    | (at_builtin; refine wpList_append8 rfl _ _ rfl W0.heap.size _ I rfl HO3.out _ (fourN q) rfl HF3.out (by simp [HI.out, fourN]) HB3.out.size ?_; intro v4 w4 hv4 hg4 _; have HB4 := Lib.hid (HB3.out.trans (HO3.out.below hg4 HB3.out.size)); have HO4 := Lib.hid hv4; clear hv4 hg4))
  go_ret
  exact ⟨_, rfl, OwnC.down HO4.out HB0.out.size, HB0.out.trans (HB4.out.mono HB0.out.size)⟩
end Go.Proofs.YtcnelahmbfggcaaGreat

/- The walks of the document's many, last, Long, Type. -/
namespace Go.Proofs.YtcnelahmbfggcaaGreat
open Go Go.RowKit
set_option maxRecDepth 100000
set_option maxHeartbeats 1000000

theorem many_ref (n : Int) (w : World) : Calls Tryz.prog 71 #[.int .i64 n] w fun e w' => e = .returned (.int .i64 (manyW n)) ∧ Below w.heap.size w w' := by
  have H1 := Lib.hid (rOwn_any n w)
  have H2 := Lib.hid (rCheck_any n w)
  by_cases hw : isW n = true
  · have e3 : errW n = 0 := by simp [errW, hw]
    rw [e3] at H1 H2
    have hm : manyW n = ownW n + chkW n := by rw [manyW, if_pos hw]
    have ho : 0 ≤ ownW n ∧ ownW n ≤ 256 := by
      rcases (isW_iff n).1 hw with rfl | rfl | rfl | rfl <;> decide
    have hc : 0 ≤ chkW n ∧ chkW n ≤ 9 := by
      rcases (isW_iff n).1 hw with rfl | rfl | rfl | rfl <;> decide
    rw [hm]
    generalize ownW n = o at *
    generalize chkW n = c at *
    clear hw e3 hm
    go_enter Tryz.func71, Tryz.ntmps71
    go_wp2_with (first
      | (go_at_call 91; refine H1.out.mono ?_; rintro e w' ⟨rfl, rfl⟩)
      | (go_at_call 92; refine H2.out.mono ?_; rintro e w' ⟨rfl, m, rfl⟩))
    go_ret
    exact ⟨rfl, (by first | exact Below.refl _ _ | exact below_drewN (Below.refl _ _) _)⟩
  · have hw' : isW n = false := by simpa using hw
    have e3 : errW n = 1 := by simp [errW, hw']
    rw [e3] at H1 H2
    have hm : manyW n = 0 := by rw [manyW, if_neg hw]
    rw [hm]
    generalize ownW n = o at *
    generalize chkW n = c at *
    clear hw hw' e3 hm
    go_enter Tryz.func71, Tryz.ntmps71
    go_wp2_with (first
      | (go_at_call 91; refine H1.out.mono ?_; rintro e w' ⟨rfl, rfl⟩)
      | (go_at_call 92; refine H2.out.mono ?_; rintro e w' ⟨rfl, m, rfl⟩))
    go_ret
    exact ⟨rfl, (by first | exact Below.refl _ _ | exact below_drewN (Below.refl _ _) _)⟩
theorem last_ref (n : Nat) (w : World) (hn : n ≤ 24) : Calls Tryz.prog 76 #[.int .i64 n] w fun e w' => e = .returned (.int .i64 ((2 ^ n - 1 : Nat) : Int)) ∧ w' = w := by
  obtain ⟨R, HR⟩ : ∃ R, Hid (R = 2 ^ n) := ⟨_, Lib.hid rfl⟩
  have hR1 : 1 ≤ R := by rw [HR.out]; exact Nat.one_le_two_pow
  rw [← HR.out]
  go_enter Tryz.func76, Tryz.ntmps76
  go_wp2_with fail
  go_loop [3, 4] (fun p i => ∃ j q : Nat, j ≤ n ∧ i = .int .i64 j ∧ p = .int .i64 q ∧ q ≤ 16777216 ∧ Hid (q = 2 ^ j)) (fun _ i => n - (intOf i).toNat)
  case atStart => exact ⟨0, 1, by omega, rfl, rfl, by omega, Lib.hid rfl⟩
  case round =>
    obtain ⟨j, q, hj, rfl, rfl, hq, HQ⟩ := hrel
    by_cases hlt : j < n
    · have HQ2 : Hid (2 * q = 2 ^ (j + 1)) := Lib.hid (by rw [HQ.out, Nat.pow_succ]; omega)
      have hq2 : 2 * q ≤ 16777216 := by
        rw [HQ2.out]
        exact Nat.le_trans (Nat.pow_le_pow_right (by omega) (by omega : j + 1 ≤ 24)) (by decide)
      go_wp2_with fail
      go_round
      case rel => exact ⟨j + 1, 2 * q, by omega, by go_num, by go_num, hq2, HQ2⟩
      case measure => simp [intOf]; omega
    · obtain rfl : j = n := by omega
      have HE : Hid (R = q) := Lib.hid (by rw [HR.out, HQ.out])
      have HE2 : Hid (((R - 1 : Nat) : Int) = (q : Int) - 1) := Lib.hid (by have := HE.out; omega)
      go_wp2_with fail
      go_ret
      exact ⟨by rw [HE2.out]; rfl, rfl⟩
theorem Long_ref (n : Int) (w : World) : Calls Tryz.prog 48 #[.int .i64 n] w fun e w' => e = .returned (.tuple #[.int .i64 (if isW n then 36 + 32 * manyW n else 0), .int .i64 (errW n)]) ∧ Below w.heap.size w w' := by
  have H1 := Lib.hid (many_ref n w)
  obtain ⟨m1, m2⟩ := manyW_bd n
  by_cases hw : isW n = true
  · have e3 : errW n = 0 := by simp [errW, hw]
    rw [if_pos hw, e3]
    have hm : 1 ≤ manyW n := by
      rcases (isW_iff n).1 hw with rfl | rfl | rfl | rfl <;> decide
    generalize manyW n = m at *
    clear hw e3
    go_enter Tryz.func48, Tryz.ntmps48
    go_wp2_with (go_at_call 71; refine H1.out.mono ?_; rintro e w' ⟨rfl, hb⟩)
    go_ret2
    exact ⟨rfl, by assumption⟩
  · have hw' : isW n = false := by simpa using hw
    have e3 : errW n = 1 := by simp [errW, hw']
    have hm : manyW n = 0 := by rw [manyW, if_neg hw]
    rw [if_neg hw, e3]
    rw [hm] at H1
    clear hw hw' e3 hm m1 m2
    go_enter Tryz.func48, Tryz.ntmps48
    go_wp2_with (go_at_call 71; refine H1.out.mono ?_; rintro e w' ⟨rfl, hb⟩)
    go_ret2
    exact ⟨rfl, by assumption⟩
theorem Type_ref (n : Int) (w : World) : Calls Tryz.prog 43 #[.int .i64 n] w fun e w' => e = .returned (.tuple #[.int .u32 (typeN n), .int .i64 (errW n)]) ∧ w' = w := by
  by_cases hw : isW n = true
  · rcases (isW_iff n).1 hw with rfl | rfl | rfl | rfl
    all_goals
      clear hw
      go_enter Tryz.func43, Tryz.ntmps43
      go_wp2_with fail
      go_ret2
      exact ⟨rfl, rfl⟩
  · have hw' : isW n = false := by simpa using hw
    have h' := mt (isW_iff n).2 hw
    have h1 : n ≠ 1 := by omega
    have h2 : n ≠ 2 := by omega
    have h3 : n ≠ 4 := by omega
    have h4 : n ≠ 8 := by omega
    have e3 : errW n = 1 := by simp [errW, hw']
    have e4 : typeN n = 0 := by simp [typeN, h1, h2, h3, h4]
    rw [e3, e4]
    clear hw hw' h' e3 e4
    go_enter Tryz.func43, Tryz.ntmps43
    go_wp2_with fail
    go_ret2
    exact ⟨rfl, rfl⟩
end Go.Proofs.YtcnelahmbfggcaaGreat

/- The walk of the document's Secret. -/
namespace Go.Proofs.YtcnelahmbfggcaaGreat
open Go Go.RowKit
set_option maxRecDepth 100000
set_option maxHeartbeats 1000000

theorem info_rkey : (Tryz.prog.info? 93).map (·.size) = some 50 := by kernel_rfl
theorem head_len (I : List UInt8) (q : Nat) : (I ++ fourN q).length = I.length + 4 := by simp [fourN]
theorem secret_parts (I S : List UInt8) (q i : Nat) : secretN I S q i = sha (((I ++ fourN q) ++ (twoN i ++ [255])) ++ S) := by
  simp [secretN, hashN]

theorem Secret_ref (I S : List UInt8) (q : Nat) (d i : Int) (w : World) (hI : I.length = 16) (hS : S.length = 32) (hq : q < 4294967296) :
    Calls Tryz.prog 82 #[.agg (KeyV I S q d).toArray, .int .i64 i] w fun e w' => e = .returned (.tuple #[.agg (B8 (secV I S q d i)).toArray, .int .i64 (if 0 ≤ i ∧ i < manyW d then 0 else 1)]) ∧ Below w.heap.size w w' := by
  obtain ⟨W0, HW0, HB0, HS0, HR0⟩ : ∃ V, Hid (V = w.alloc (.cells (KeyV I S q d).toArray 93)) ∧ Hid (Below w.heap.size w V) ∧ Hid (V.heap.size = w.heap.size + 1) ∧ Hid (V.heap[w.heap.size]? = some (.cells (KeyV I S q d).toArray 93 (0, 0))) := ⟨_, Lib.hid rfl, Lib.hid ((Below.refl _ _).alloc (Nat.le_refl _) _), Lib.hid (by simp), Lib.hid (heap_alloc_new _ _)⟩
  obtain ⟨V, HV, HVB, HVS, HVR, HVZ⟩ : ∃ V, Hid (V = W0.alloc (.cells (Array.replicate 32 (.int .u8 0)) 23)) ∧ Hid (Below w.heap.size w V) ∧ Hid (V.heap.size = w.heap.size + 2) ∧ Hid (V.heap[w.heap.size]? = some (.cells (KeyV I S q d).toArray 93 (0, 0))) ∧ Hid (V.heap[w.heap.size + 1]? = some (.cells (Array.replicate 32 (.int .u8 0)) 23 (0, 0))) :=
    ⟨_, Lib.hid rfl, Lib.hid (HB0.out.alloc HB0.out.size _), Lib.hid (by simp [HS0.out]), Lib.hid ((heap_alloc_old _ _ (by rw [HS0.out]; omega)).trans HR0.out), Lib.hid (by rw [← HS0.out]; exact heap_alloc_new _ _)⟩
  have IK : Hid ((Tryz.prog.info? 93).map (·.size) = some (KeyV I S q d).toArray.size) := Lib.hid (by rw [info_rkey, List.size_toArray, KeyV_length _ _ _ _ hI hS])
  have H1 := many_ref d V
  have hkw := key_W HVR.out hI hS
  obtain ⟨hm1, hm2⟩ := manyW_bd d
  obtain ⟨Z, HZ⟩ : ∃ Z, Hid (Z = (B8 zero32).toArray) := ⟨_, Lib.hid rfl⟩
  have HZB : Hid (∀ w, (Instr.build 23 #[]).run Tryz.prog w = .ok (.agg Z) w) := Lib.hid (by rw [HZ.out]; exact fun w => by kernel_rfl)
  have HZI : Hid ((Tryz.prog.info? 23).map (·.size) = some Z.size) := Lib.hid (by rw [HZ.out, info_32]; rfl)
  have HZE : Hid (Array.replicate 32 (Value.int .u8 0) = Z) := Lib.hid (by rw [HZ.out]; rfl)
  have HZO : Hid (Z.all (·.oneCell') = true) := Lib.hid (by rw [HZ.out]; exact B8_oneA _)
  have HV1 : Hid (0 ≤ i ∧ i < manyW d → secV I S q d i = secretN I S q i.toNat) := Lib.hid fun h => by rw [secV, if_pos h]
  have HV2 : Hid (¬ (0 ≤ i ∧ i < manyW d) → (B8 (secV I S q d i)).toArray = Z) := Lib.hid fun h => by rw [secV, if_neg h, HZ.out]
  have HHE := Lib.hid (fun w' => head_ref I S q d w' hI hq)
  by_cases hin : 0 ≤ i ∧ i < manyW d
  · rw [if_pos hin, HV1.out hin]
    obtain ⟨j, rfl⟩ : ∃ j : Nat, i = j := ⟨i.toNat, by omega⟩
    obtain ⟨h0, hj⟩ := hin
    rw [Int.toNat_natCast]
    generalize manyW d = m at *
    obtain ⟨R, HR⟩ : ∃ R, Hid (R = secretN I S q j) := ⟨_, Lib.hid rfl⟩
    have HRL : Hid (R.length = 32) := Lib.hid (by rw [HR.out]; exact sha_length _)
    have I32 : Hid ((Tryz.prog.info? 23).map (·.size) = some (B8 R).toArray.size) := Lib.hid (by rw [info_32]; simp [B8_length, HRL.out])
    have HRP : Hid (R = sha (((I ++ fourN q) ++ (twoN j ++ [255])) ++ S)) := Lib.hid (by rw [HR.out, secret_parts])
    rw [← HR.out]
    obtain ⟨t1, ht1⟩ : ∃ t1, t1 = j / 256 := ⟨_, rfl⟩
    obtain ⟨t0, ht0⟩ : ∃ t0, t0 = j % 256 := ⟨_, rfl⟩
    have HF : Hid (#[Value.int .u8 t1, .int .u8 t0, .int .u8 255] = (B8 (twoN j ++ [255])).toArray) := Lib.hid (by
      have h1 : j / 256 % 256 = j / 256 := by omega
      simp [twoN, B8, bn, ht1, ht0, h1])
    have ht1' : (j : Int) / 256 = t1 := by omega
    have ht0' : (j : Int) % 256 = t0 := by omega
    have ht1b : t1 < 256 := by omega
    have ht0b : t0 < 256 := by omega
    have ht2' : (t1 : Int) % 256 = t1 := by omega
    have ht3' : (t0 : Int) % 256 = t0 := by omega
    obtain ⟨H, HH⟩ : ∃ H, Hid (H = I ++ fourN q) := ⟨_, Lib.hid rfl⟩
    have HHL : Hid (H.length = 20) := Lib.hid (by rw [HH.out, head_len, hI])
    obtain ⟨T, HT⟩ : ∃ T, Hid (T = twoN j ++ [255]) := ⟨_, Lib.hid rfl⟩
    have HTL : Hid (T.length = 3) := Lib.hid (by rw [HT.out]; rfl)
    rw [← HH.out] at HHE
    rw [← HH.out, ← HT.out] at HRP
    rw [← HT.out] at HF
    have HHI := Lib.hid hI
    have HHS := Lib.hid hS
    have HM := Lib.hid H1
    clear ht1 ht0 HV1 HV2 hI hS H1
    go_enter Tryz.func82, Tryz.ntmps82
    go_upto_region 1 with (fail)
    rw [← HW0.out]
    change Code.wp _ _ _ _ (W0.alloc (.cells (Array.replicate 32 (.int .u8 0)) 23))
    rw [← HV.out]
    go_wp2_with (first
      | (go_at_call 71; refine HM.out.mono ?_; rintro e w1 ⟨rfl, b1⟩; have HB1 := Lib.hid b1; have HR1 := Lib.hid ((b1.block _ (by rw [HVS.out]; omega)).trans HVR.out); clear b1)
      | (refine wpList_load_row rfl 93 _ rfl _ rfl _ (KeyV I S q d).toArray (0, 0) _ HR1.out Tryz.underlying93 rfl IK.out ?_)
      | (go_at_call 81; refine (HHE.out w1).mono ?_; rintro e w2 ⟨v2, rfl, o2, b2⟩; have HO2 := Lib.hid (OwnC.down (o2.later ((Below.refl _ _).alloc (Nat.le_refl _) (.cells #[.int .u8 t1, .int .u8 t0, .int .u8 255] 5))) HB1.out.size); have HB2 := Lib.hid ((HB1.out.trans (b2.mono HB1.out.size)).alloc (HB1.out.trans (b2.mono HB1.out.size)).size (.cells #[.int .u8 t1, .int .u8 t0, .int .u8 255] 5)); have HF2 := Lib.hid (Sl.made w2 T 5 _ 3 _ HF.out (by rw [HTL.out]) (by decide) rfl); clear o2 b2)
      | (at_builtin; refine wpList_append8 rfl _ _ rfl V.heap.size _ H rfl HO2.out _ T rfl HF2.out (by rw [HHL.out, HTL.out]; decide) HB2.out.size ?_; intro v3 w3 hv3 hg3 _; have HB3 := Lib.hid (HB2.out.trans (Own8.below HO2.out hg3 HB2.out.size)); have HO3 := Lib.hid hv3; have HSS := Lib.hid (key_S ((HB3.out.block _ (by rw [HVS.out]; omega)).trans HVR.out) HHI.out HHS.out); clear hv3 hg3)
      | (at_builtin; refine wpList_append8 rfl _ _ rfl V.heap.size _ (H ++ T) rfl HO3.out _ S rfl HSS.out (by rw [List.length_append, HHL.out, HTL.out, HHS.out]; decide) HB3.out.size ?_; intro v4 w4 hv4 hg4 _; have HB4 := Lib.hid (HB3.out.trans (Own8.below HO3.out hg4 HB3.out.size)); have HO4 := Lib.hid hv4; clear hv4 hg4)
      | (go_at_call 78; refine (Sum_ref _ _ w4 HO4.out.sl (by rw [List.length_append, List.length_append, HHL.out, HTL.out, HHS.out]; decide)).mono ?_; rintro e w5 ⟨rfl, b5⟩; rw [← HRP.out]; have HB5 := Lib.hid (HB4.out.trans (b5.mono HB4.out.size)); have HZ5 := Lib.hid ((HB5.out.block _ (by rw [HVS.out]; omega)).trans HVZ.out); clear b5)
      | (refine wpList_store_row rfl 23 _ _ rfl _ (B8 R).toArray rfl rfl 23 _ HZ5.out I32.out (by simp [B8_length, HRL.out]) (B8_oneA R) ?_))
    exact bodyPost_ret (results_cell_row_tmp rfl _ _ (w.heap.size + 1) 23 _ (0, 0) _ rfl (setRow_heap _ _ _ _ _ _ HZ5.out) Tryz.underlying23 rfl I32.out) rfl ⟨rfl, below_row (HVB.out.trans (HB5.out.mono HVB.out.size)) (by omega) _⟩
  · rw [if_neg hin, HV2.out hin]
    have HVZ' : Hid (V.heap[w.heap.size + 1]? = some (.cells Z 23 (0, 0))) := Lib.hid (by rw [← HZE.out]; exact HVZ.out)
    generalize manyW d = m at *
    have HM := Lib.hid H1
    clear HV1 HV2 hI hS H1
    by_cases h0 : i < 0
    · clear hin
      go_enter Tryz.func82, Tryz.ntmps82
      go_upto_region 1 with (fail)
      rw [← HW0.out]
      change Code.wp _ _ _ _ (W0.alloc (.cells (Array.replicate 32 (.int .u8 0)) 23))
      rw [← HV.out]
      go_wp2_with (first
        | refine wpList_build0 rfl 23 rfl (.agg Z) HZB.out ?_
        | refine wpList_store_same rfl 23 _ _ rfl _ Z rfl rfl 23 HVZ'.out HZI.out HZO.out ?_)
      exact bodyPost_ret (results_cell_row_tmp rfl _ _ (w.heap.size + 1) 23 _ (0, 0) _ rfl HVZ'.out Tryz.underlying23 rfl HZI.out) rfl ⟨rfl, HVB.out⟩
    · have h1 : m ≤ i := by omega
      clear hin
      go_enter Tryz.func82, Tryz.ntmps82
      go_upto_region 1 with (fail)
      rw [← HW0.out]
      change Code.wp _ _ _ _ (W0.alloc (.cells (Array.replicate 32 (.int .u8 0)) 23))
      rw [← HV.out]
      go_wp2_with (first
        | (go_at_call 71; refine HM.out.mono ?_; rintro e w1 ⟨rfl, b1⟩; have HB1 := Lib.hid (HVB.out.trans (b1.mono HVB.out.size)); have HZ1 := Lib.hid ((b1.block _ (by rw [HVS.out]; omega)).trans HVZ'.out); clear b1)
        | refine wpList_build0 rfl 23 rfl (.agg Z) HZB.out ?_
        | refine wpList_store_same rfl 23 _ _ rfl _ Z rfl rfl 23 HZ1.out HZI.out HZO.out ?_)
      exact bodyPost_ret (results_cell_row_tmp rfl _ _ (w.heap.size + 1) 23 _ (0, 0) _ rfl HZ1.out Tryz.underlying23 rfl HZI.out) rfl ⟨rfl, HB1.out⟩
end Go.Proofs.YtcnelahmbfggcaaGreat

/- The walk of the document's Chain. -/
namespace Go.Proofs.YtcnelahmbfggcaaGreat
open Go Go.RowKit
set_option maxRecDepth 100000
set_option maxHeartbeats 1000000

theorem chain_step (I : List UInt8) (q j : Nat) (x : List UInt8) (a c : Nat) (hac : a ≤ c) :
    chainN I q j x a (c + 1 - a) = sha (((I ++ fourN q) ++ (twoN j ++ [UInt8.ofNat c])) ++ chainN I q j x a (c - a)) := by
  rw [show c + 1 - a = (c - a) + 1 by omega, chainN, show a + (c - a) = c by omega, hashN]
  simp

theorem Chain_ref (I S : List UInt8) (q : Nat) (d i a b : Int) (x : List UInt8) (w : World) (hI : I.length = 16) (hS : S.length = 32) (hq : q < 4294967296) (hx : x.length = 32) :
    Calls Tryz.prog 75 #[.agg (KeyV I S q d).toArray, .int .i64 i, .int .i64 a, .int .i64 b, .agg (B8 x).toArray] w fun e w' => e = .returned (.tuple #[.agg (B8 (chV I q d i a b x)).toArray, .int .i64 (if chOk d i a b then 0 else 1)]) ∧ Below w.heap.size w w' := by
  obtain ⟨W0, HW0, HB0, HS0, HR0⟩ : ∃ V, Hid (V = w.alloc (.cells (KeyV I S q d).toArray 93)) ∧ Hid (Below w.heap.size w V) ∧ Hid (V.heap.size = w.heap.size + 1) ∧ Hid (V.heap[w.heap.size]? = some (.cells (KeyV I S q d).toArray 93 (0, 0))) := ⟨_, Lib.hid rfl, Lib.hid ((Below.refl _ _).alloc (Nat.le_refl _) _), Lib.hid (by simp), Lib.hid (heap_alloc_new _ _)⟩
  obtain ⟨W1, HW1, HB1, HS1, HR1, HX1⟩ : ∃ V, Hid (V = W0.alloc (.cells (B8 x).toArray 23)) ∧ Hid (Below w.heap.size w V) ∧ Hid (V.heap.size = w.heap.size + 2) ∧ Hid (V.heap[w.heap.size]? = some (.cells (KeyV I S q d).toArray 93 (0, 0))) ∧ Hid (V.heap[w.heap.size + 1]? = some (.cells (B8 x).toArray 23 (0, 0))) :=
    ⟨_, Lib.hid rfl, Lib.hid (HB0.out.alloc HB0.out.size _), Lib.hid (by simp [HS0.out]), Lib.hid ((heap_alloc_old _ _ (by rw [HS0.out]; omega)).trans HR0.out), Lib.hid (by rw [← HS0.out]; exact heap_alloc_new _ _)⟩
  obtain ⟨V, HV, HVB, HVS, HVR, HVX, HVZ⟩ : ∃ V, Hid (V = W1.alloc (.cells (Array.replicate 32 (.int .u8 0)) 23)) ∧ Hid (Below w.heap.size w V) ∧ Hid (V.heap.size = w.heap.size + 3) ∧ Hid (V.heap[w.heap.size]? = some (.cells (KeyV I S q d).toArray 93 (0, 0))) ∧ Hid (V.heap[w.heap.size + 1]? = some (.cells (B8 x).toArray 23 (0, 0))) ∧ Hid (V.heap[w.heap.size + 2]? = some (.cells (Array.replicate 32 (.int .u8 0)) 23 (0, 0))) :=
    ⟨_, Lib.hid rfl, Lib.hid (HB1.out.alloc HB1.out.size _), Lib.hid (by simp [HS1.out]), Lib.hid ((heap_alloc_old _ _ (by rw [HS1.out]; omega)).trans HR1.out), Lib.hid ((heap_alloc_old _ _ (by rw [HS1.out]; omega)).trans HX1.out), Lib.hid (by rw [← HS1.out]; exact heap_alloc_new _ _)⟩
  have IK : Hid ((Tryz.prog.info? 93).map (·.size) = some (KeyV I S q d).toArray.size) := Lib.hid (by rw [info_rkey, List.size_toArray, KeyV_length _ _ _ _ hI hS])
  have HM := Lib.hid (many_ref d V)
  have hkw := key_W HVR.out hI hS
  obtain ⟨hm1, hm2⟩ := manyW_bd d
  obtain ⟨Z, HZ⟩ : ∃ Z, Hid (Z = (B8 zero32).toArray) := ⟨_, Lib.hid rfl⟩
  have HZB : Hid (∀ w, (Instr.build 23 #[]).run Tryz.prog w = .ok (.agg Z) w) := Lib.hid (by rw [HZ.out]; exact fun w => by kernel_rfl)
  have HZI : Hid ((Tryz.prog.info? 23).map (·.size) = some Z.size) := Lib.hid (by rw [HZ.out, info_32]; rfl)
  have HZE : Hid (Array.replicate 32 (Value.int .u8 0) = Z) := Lib.hid (by rw [HZ.out]; rfl)
  have HZO : Hid (Z.all (·.oneCell') = true) := Lib.hid (by rw [HZ.out]; exact B8_oneA _)
  have HVZ' : Hid (V.heap[w.heap.size + 2]? = some (.cells Z 23 (0, 0))) := Lib.hid (by rw [← HZE.out]; exact HVZ.out)
  have HV2 : Hid (chOk d i a b = false → (B8 (chV I q d i a b x)).toArray = Z) := Lib.hid fun h => by rw [chV, if_neg (by simp [h]), HZ.out]
  have HHE := Lib.hid (fun w' => head_ref I S q d w' hI hq)
  by_cases hin : 0 ≤ i ∧ i < manyW d
  · obtain ⟨k, rfl, hk⟩ := width_of_digit hin
    have hk8 : k ≤ 24 := by omega
    have HLA := Lib.hid (fun w' => last_ref k w' hk8)
    obtain ⟨L, HL⟩ : ∃ L, Hid (L = 2 ^ k - 1) := ⟨_, Lib.hid rfl⟩
    rw [← HL.out] at HLA
    have hLb : L ≤ 255 := by rw [HL.out]; rcases hk with rfl | rfl | rfl | rfl <;> decide
    have HOK : Hid (chOk k i a b = decide (0 ≤ a ∧ a ≤ b ∧ b ≤ (L : Int))) := Lib.hid (by
      rw [chOk, Int.toNat_natCast, HL.out, Bool.eq_iff_iff, decide_eq_true_iff, decide_eq_true_iff]
      exact ⟨fun h => h.2.2, fun h => ⟨hin.1, hin.2, h⟩⟩)
    obtain ⟨j, rfl⟩ : ∃ j : Nat, i = j := ⟨i.toNat, by omega⟩
    obtain ⟨_, hj⟩ := hin
    have HC := Lib.hid (fun a n => chainN_length I q j x a n hx)
    have HST := Lib.hid (fun a c h => chain_step I q j x a c h)
    have HV1 : Hid (chOk k j a b = true → chV I q k j a b x = chainN I q j x a.toNat (b.toNat - a.toNat)) := Lib.hid fun h => by rw [chV, if_pos h, Int.toNat_natCast]
    rw [HOK.out] at HV1 HV2 ⊢
    generalize manyW k = m at *
    have f0 : decide ((j : Int) < 0) = false := by rw [decide_eq_false_iff_not]; omega
    have f1 : decide (m ≤ (j : Int)) = false := by rw [decide_eq_false_iff_not]; omega
    by_cases hok : 0 ≤ a ∧ a ≤ b ∧ b ≤ (L : Int)
    · rw [decide_eq_true hok, HV1.out (decide_eq_true hok)]
      obtain ⟨ha, hab, hbL⟩ := hok
      obtain ⟨a, rfl⟩ : ∃ n : Nat, a = n := ⟨a.toNat, by omega⟩
      obtain ⟨b, rfl⟩ : ∃ n : Nat, b = n := ⟨b.toNat, by omega⟩
      rw [Int.toNat_natCast, Int.toNat_natCast]
      have hab' : a ≤ b := by omega
      have f2 : decide ((a : Int) < 0) = false := by rw [decide_eq_false_iff_not]; omega
      have f3 : decide ((b : Int) < a) = false := by rw [decide_eq_false_iff_not]; omega
      have f4 : decide (b < a) = false := by rw [decide_eq_false_iff_not]; omega
      have f5 : decide ((L : Int) < b) = false := by rw [decide_eq_false_iff_not]; omega
      have f6 : decide (L < b) = false := by rw [decide_eq_false_iff_not]; omega
      obtain ⟨Y, HY⟩ : ∃ Y, Hid (Y = chainN I q j x a (b - a)) := ⟨_, Lib.hid rfl⟩
      rw [← HY.out]
      obtain ⟨t1, ht1⟩ : ∃ t1, t1 = j / 256 := ⟨_, rfl⟩
      obtain ⟨t0, ht0⟩ : ∃ t0, t0 = j % 256 := ⟨_, rfl⟩
      have HF : Hid (∀ c, c ≤ 255 → #[Value.int .u8 t1, .int .u8 t0, .int .u8 (c : Nat)] = (B8 (twoN j ++ [UInt8.ofNat c])).toArray) := Lib.hid (fun c hc => by
        have h1 : j / 256 % 256 = j / 256 := by omega
        have h2 : c % 256 = c := by omega
        simp [twoN, B8, bn, ht1, ht0, h1, h2])
      have ht1' : (j : Int) / 256 = t1 := by omega
      have ht0' : (j : Int) % 256 = t0 := by omega
      have ht1b : t1 < 256 := by omega
      have ht0b : t0 < 256 := by omega
      have ht2' : (t1 : Int) % 256 = t1 := by omega
      have ht3' : (t0 : Int) % 256 = t0 := by omega
      obtain ⟨H, HH⟩ : ∃ H, Hid (H = I ++ fourN q) := ⟨_, Lib.hid rfl⟩
      have HHL : Hid (H.length = 20) := Lib.hid (by rw [HH.out, head_len, hI])
      rw [← HH.out] at HHE HST
      clear ht1 ht0 HV1 HV2 hk hk8 ha hx HOK
      go_enter Tryz.func75, Tryz.ntmps75
      go_upto_region 1 with (fail)
      rw [← HW0.out, ← HW1.out]
      change Code.wp _ _ _ _ (W1.alloc (.cells (Array.replicate 32 (.int .u8 0)) 23))
      rw [← HV.out]
      go_wp2_with (first
        | (go_at_call 71; refine HM.out.mono ?_; rintro e w1 ⟨rfl, b1⟩; have HBM := Lib.hid (HVB.out.trans (b1.mono HVB.out.size)); have HRM := Lib.hid ((b1.block _ (by rw [HVS.out]; omega)).trans HVR.out); have HXM := Lib.hid ((b1.block _ (by rw [HVS.out]; omega)).trans HVX.out); have HZM := Lib.hid ((b1.block _ (by rw [HVS.out]; omega)).trans HVZ.out); have hkw2 := key_W ((b1.block _ (by rw [HVS.out]; omega)).trans HVR.out) (by assumption) (by assumption); clear b1)
        | (go_at_call 76; refine (HLA.out _).mono ?_; rintro e w1' ⟨rfl, rfl⟩))
      have HHI := Lib.hid hI
      have HB255 : Hid (b ≤ 255) := Lib.hid (by omega)
      clear hI hS hkw hkw2 f0 f1 f2 f3 f4 f5 f6 hbL hLb hm1 hm2
      go_loopw [12] (fun i' wr => ∃ c : Nat, a ≤ c ∧ c ≤ b ∧ i' = .int .i64 c ∧ Hid (wr.heap[w.heap.size]? = some (.cells (KeyV I S q k).toArray 93 (0, 0))) ∧ Hid (wr.heap[w.heap.size + 1]? = some (.cells (B8 (chainN I q j x a (c - a))).toArray 23 (0, 0))) ∧ Hid (wr.heap[w.heap.size + 2]? = some (.cells (Array.replicate 32 (.int .u8 0)) 23 (0, 0))) ∧ Hid (Below w.heap.size w wr)) (fun i' _ => b - (intOf i').toNat)
      case atStart => exact ⟨a, by omega, hab', rfl, HRM, by rw [Nat.sub_self]; exact HXM, HZM, HBM⟩
      case round =>
        obtain ⟨c, hac, hcb, rfl, HKR, HXR, HZR, HBR⟩ := hrel
        by_cases hlt : c < b
        · have hlt' : (c : Int) < b := by omega
          have hc1 : (c : Int) % 256 = c := by have := HB255.out; omega
          obtain ⟨X, HX⟩ : ∃ X, Hid (X = chainN I q j x a (c - a)) := ⟨_, Lib.hid rfl⟩
          obtain ⟨R, HR⟩ : ∃ R, Hid (R = chainN I q j x a (c + 1 - a)) := ⟨_, Lib.hid rfl⟩
          obtain ⟨T, HT⟩ : ∃ T, Hid (T = twoN j ++ [UInt8.ofNat c]) := ⟨_, Lib.hid rfl⟩
          have HTL : Hid (T.length = 3) := Lib.hid (by rw [HT.out]; rfl)
          have HRP : Hid (R = sha ((H ++ T) ++ X)) := Lib.hid (by rw [HR.out, HX.out, HT.out]; exact HST.out a c hac)
          have HXL : Hid (X.length = 32) := Lib.hid (by rw [HX.out]; exact HC.out _ _)
          have HRL : Hid (R.length = 32) := Lib.hid (by rw [HR.out]; exact HC.out _ _)
          have J32 : Hid ((Tryz.prog.info? 23).map (·.size) = some (B8 R).toArray.size) := Lib.hid (by rw [info_32]; simp [B8_length, HRL.out])
          rw [← HX.out] at HXR
          have HFC : Hid (#[Value.int .u8 t1, .int .u8 t0, .int .u8 (c : Int)] = (B8 T).toArray) := Lib.hid (by rw [HT.out]; exact HF.out c (by have := HB255.out; omega))
          have hsz : Hid (w.heap.size + 2 < wr.heap.size) := Lib.hid (Array.getElem?_eq_some_iff.1 HZR.out).1
          go_wp2_with (first
            | (refine wpList_load_row rfl 93 _ rfl _ rfl _ (KeyV I S q k).toArray (0, 0) _ HKR.out Tryz.underlying93 rfl IK.out ?_)
            | (go_at_call 81; refine (HHE.out wr).mono ?_; rintro e w2 ⟨v2, rfl, o2, b2⟩; have HO2 := Lib.hid (o2.later ((Below.refl _ _).alloc (Nat.le_refl _) (.cells #[.int .u8 t1, .int .u8 t0, .int .u8 c] 5))); have HB2 := Lib.hid (b2.alloc b2.size (.cells #[.int .u8 t1, .int .u8 t0, .int .u8 c] 5)); have HF2 := Lib.hid (Sl.made w2 T 5 _ 3 _ HFC.out (by rw [HTL.out]) (by decide) rfl); clear o2 b2)
            | (at_builtin; refine wpList_append8 rfl _ _ rfl wr.heap.size _ H rfl HO2.out _ T rfl HF2.out (by rw [HHL.out, HTL.out]; decide) HB2.out.size ?_; intro v3 w3 hv3 hg3 _; have HB3 := Lib.hid (HB2.out.trans (Own8.below HO2.out hg3 HB2.out.size)); have HO3 := Lib.hid hv3; have HXS : Hid (Sl w3 (.slice (some ⟨w.heap.size + 1, 0, none⟩) 32 32) X) := Lib.hid (Sl.ofBlock ((HB3.out.block _ (by have := hsz.out; omega)).trans HXR.out) HXL.out.symm (Nat.le_refl _) (by simp [maxLen]) (fun i _ => by rw [Nat.zero_add, List.getElem?_toArray])); clear hv3 hg3)
            | (at_builtin; refine wpList_append8 rfl _ _ rfl wr.heap.size _ (H ++ T) rfl HO3.out _ X rfl HXS.out (by rw [List.length_append, HHL.out, HTL.out, HXL.out]; decide) HB3.out.size ?_; intro v4 w4 hv4 hg4 _; have HB4 := Lib.hid (HB3.out.trans (Own8.below HO3.out hg4 HB3.out.size)); have HO4 := Lib.hid hv4; clear hv4 hg4)
            | (go_at_call 78; refine (Sum_ref _ _ w4 HO4.out.sl (by rw [List.length_append, List.length_append, HHL.out, HTL.out, HXL.out]; decide)).mono ?_; rintro e w5 ⟨rfl, b5⟩; rw [← HRP.out]; have HB5 := Lib.hid (HB4.out.trans (b5.mono HB4.out.size)); have HX5 := Lib.hid ((HB5.out.block _ (by have := hsz.out; omega)).trans HXR.out); clear b5)
            | (refine wpList_store_row rfl 23 _ _ rfl _ (B8 R).toArray rfl rfl 23 _ HX5.out J32.out (by simp [B8_length, HXL.out, HRL.out]) (B8_oneA R) ?_))
          have HB6 : Hid (Below w.heap.size w (w5.setRow (w.heap.size + 1) (B8 R).toArray)) := Lib.hid (below_row (HBR.out.trans (HB5.out.mono (by have := hsz.out; omega))) (by omega) _)
          have HX6 : Hid ((w5.setRow (w.heap.size + 1) (B8 R).toArray).heap[w.heap.size + 1]? = some (.cells (B8 (chainN I q j x a (c + 1 - a))).toArray 23 (0, 0))) := Lib.hid (by rw [← HR.out]; exact setRow_heap _ _ _ _ _ _ HX5.out)
          have HZ6 : Hid ((w5.setRow (w.heap.size + 1) (B8 R).toArray).heap[w.heap.size + 2]? = some (.cells (Array.replicate 32 (.int .u8 0)) 23 (0, 0))) := Lib.hid ((setRow_other _ _ _ _ (by omega)).trans ((HB5.out.block _ hsz.out).trans HZR.out))
          have HK6 : Hid ((w5.setRow (w.heap.size + 1) (B8 R).toArray).heap[w.heap.size]? = some (.cells (KeyV I S q k).toArray 93 (0, 0))) := Lib.hid ((setRow_other _ _ _ _ (by omega)).trans ((HB5.out.block _ (by have := hsz.out; omega)).trans HKR.out))
          go_roundw
          case rel => exact ⟨c + 1, by omega, by omega, by go_num, HK6, HX6, HZ6, HB6⟩
          case measure => simp [intOf]; omega
        · obtain rfl : c = b := by omega
          have HXL : Hid (Y.length = 32) := Lib.hid (by rw [HY.out]; exact HC.out _ _)
          rw [← HY.out] at HXR
          have I32 : Hid ((Tryz.prog.info? 23).map (·.size) = some (B8 Y).toArray.size) := Lib.hid (by rw [info_32]; simp [B8_length, HXL.out])
          go_wp2_with (first
            | refine wpList_load_row rfl 23 _ rfl _ rfl _ (B8 Y).toArray (0, 0) _ HXR.out Tryz.underlying23 rfl I32.out ?_
            | refine wpList_store_row rfl 23 _ _ rfl _ (B8 Y).toArray rfl rfl 23 _ HZR.out I32.out (by simp [B8_length, HXL.out]) (B8_oneA Y) ?_)
          exact bodyPost_ret (results_cell_row_tmp rfl _ _ (w.heap.size + 2) 23 _ (0, 0) _ rfl (setRow_heap _ _ _ _ _ _ HZR.out) Tryz.underlying23 rfl I32.out) rfl ⟨rfl, below_row HBR.out (by omega) _⟩
    · rw [decide_eq_false hok, HV2.out (decide_eq_false hok)]
      clear HV1 HV2 HOK HC HST hk hj
      by_cases ha : a < 0
      · have f2 : decide (a < 0) = true := decide_eq_true ha
        clear hok ha
        go_enter Tryz.func75, Tryz.ntmps75
        go_upto_region 1 with (fail)
        rw [← HW0.out, ← HW1.out]
        change Code.wp _ _ _ _ (W1.alloc (.cells (Array.replicate 32 (.int .u8 0)) 23))
        rw [← HV.out]
        go_wp2_with (first
          | (go_at_call 71; refine HM.out.mono ?_; rintro e w1 ⟨rfl, b1⟩; have HBM := Lib.hid (HVB.out.trans (b1.mono HVB.out.size)); have HZM := Lib.hid ((b1.block _ (by rw [HVS.out]; omega)).trans HVZ'.out); clear b1)
          | refine wpList_build0 rfl 23 rfl (.agg Z) HZB.out ?_
          | refine wpList_store_same rfl 23 _ _ rfl _ Z rfl rfl 23 HZM.out HZI.out HZO.out ?_)
        exact bodyPost_ret (results_cell_row_tmp rfl _ _ (w.heap.size + 2) 23 _ (0, 0) _ rfl HZM.out Tryz.underlying23 rfl HZI.out) rfl ⟨rfl, HBM.out⟩
      · have f2 : decide (a < 0) = false := decide_eq_false ha
        by_cases hab : b < a
        · have f3 : decide (b < a) = true := decide_eq_true hab
          clear hok ha hab
          go_enter Tryz.func75, Tryz.ntmps75
          go_upto_region 1 with (fail)
          rw [← HW0.out, ← HW1.out]
          change Code.wp _ _ _ _ (W1.alloc (.cells (Array.replicate 32 (.int .u8 0)) 23))
          rw [← HV.out]
          go_wp2_with (first
            | (go_at_call 71; refine HM.out.mono ?_; rintro e w1 ⟨rfl, b1⟩; have HBM := Lib.hid (HVB.out.trans (b1.mono HVB.out.size)); have HZM := Lib.hid ((b1.block _ (by rw [HVS.out]; omega)).trans HVZ'.out); clear b1)
            | refine wpList_build0 rfl 23 rfl (.agg Z) HZB.out ?_
            | refine wpList_store_same rfl 23 _ _ rfl _ Z rfl rfl 23 HZM.out HZI.out HZO.out ?_)
          exact bodyPost_ret (results_cell_row_tmp rfl _ _ (w.heap.size + 2) 23 _ (0, 0) _ rfl HZM.out Tryz.underlying23 rfl HZI.out) rfl ⟨rfl, HBM.out⟩
        · have f3 : decide (b < a) = false := decide_eq_false hab
          have f5 : decide ((L : Int) < b) = true := decide_eq_true (by omega)
          clear hok ha hab
          go_enter Tryz.func75, Tryz.ntmps75
          go_upto_region 1 with (fail)
          rw [← HW0.out, ← HW1.out]
          change Code.wp _ _ _ _ (W1.alloc (.cells (Array.replicate 32 (.int .u8 0)) 23))
          rw [← HV.out]
          go_wp2_with (first
            | (go_at_call 71; refine HM.out.mono ?_; rintro e w1 ⟨rfl, b1⟩; have HBM := Lib.hid (HVB.out.trans (b1.mono HVB.out.size)); have HZM := Lib.hid ((b1.block _ (by rw [HVS.out]; omega)).trans HVZ'.out); have hkw2 := key_W ((b1.block _ (by rw [HVS.out]; omega)).trans HVR.out) (by assumption) (by assumption); clear b1)
            | (go_at_call 76; refine (HLA.out _).mono ?_; rintro e w1' ⟨rfl, rfl⟩)
            | refine wpList_build0 rfl 23 rfl (.agg Z) HZB.out ?_
            | refine wpList_store_same rfl 23 _ _ rfl _ Z rfl rfl 23 HZM.out HZI.out HZO.out ?_)
          exact bodyPost_ret (results_cell_row_tmp rfl _ _ (w.heap.size + 2) 23 _ (0, 0) _ rfl HZM.out Tryz.underlying23 rfl HZI.out) rfl ⟨rfl, HBM.out⟩
  · have hch : chOk d i a b = false := by rw [chOk, decide_eq_false_iff_not]; exact fun h => hin ⟨h.1, h.2.1⟩
    rw [hch, HV2.out hch]
    generalize manyW d = m at *
    clear HV2 hch
    by_cases h0 : i < 0
    · have f0 : decide (i < 0) = true := decide_eq_true h0
      clear hin h0
      go_enter Tryz.func75, Tryz.ntmps75
      go_upto_region 1 with (fail)
      rw [← HW0.out, ← HW1.out]
      change Code.wp _ _ _ _ (W1.alloc (.cells (Array.replicate 32 (.int .u8 0)) 23))
      rw [← HV.out]
      go_wp2_with (first
        | refine wpList_build0 rfl 23 rfl (.agg Z) HZB.out ?_
        | refine wpList_store_same rfl 23 _ _ rfl _ Z rfl rfl 23 HVZ'.out HZI.out HZO.out ?_)
      exact bodyPost_ret (results_cell_row_tmp rfl _ _ (w.heap.size + 2) 23 _ (0, 0) _ rfl HVZ'.out Tryz.underlying23 rfl HZI.out) rfl ⟨rfl, HVB.out⟩
    · have f0 : decide (i < 0) = false := decide_eq_false h0
      have f1 : decide (m ≤ i) = true := decide_eq_true (by omega)
      clear hin h0
      go_enter Tryz.func75, Tryz.ntmps75
      go_upto_region 1 with (fail)
      rw [← HW0.out, ← HW1.out]
      change Code.wp _ _ _ _ (W1.alloc (.cells (Array.replicate 32 (.int .u8 0)) 23))
      rw [← HV.out]
      go_wp2_with (first
        | (go_at_call 71; refine HM.out.mono ?_; rintro e w1 ⟨rfl, b1⟩; have HBM := Lib.hid (HVB.out.trans (b1.mono HVB.out.size)); have HZM := Lib.hid ((b1.block _ (by rw [HVS.out]; omega)).trans HVZ'.out); clear b1)
        | refine wpList_build0 rfl 23 rfl (.agg Z) HZB.out ?_
        | refine wpList_store_same rfl 23 _ _ rfl _ Z rfl rfl 23 HZM.out HZI.out HZO.out ?_)
      exact bodyPost_ret (results_cell_row_tmp rfl _ _ (w.heap.size + 2) 23 _ (0, 0) _ rfl HZM.out Tryz.underlying23 rfl HZI.out) rfl ⟨rfl, HBM.out⟩
end Go.Proofs.YtcnelahmbfggcaaGreat


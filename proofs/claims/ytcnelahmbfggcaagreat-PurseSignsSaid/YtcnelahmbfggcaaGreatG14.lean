/- The walks of the document's Leaf and Sign, and of chapter 05's plain. -/
import Derived.Test.YtcnelahmbfggcaaGreatG13
import Derived.Test.YtcnelahmbfggcaaGreatG10
import Derived.Test.YtcnelahmbfggcaaGreatG11
import Derived.Test.YtcnelahmbfggcaaGreatG6
import Derived.Test.YtcnelahmbfggcaaGreatG12
import Derived.Test.YtcnelahmbfggcaaGreatG7
import Derived.Test.YtcnelahmbfggcaaGreatG5
namespace Go.Proofs.YtcnelahmbfggcaaGreat
open Go Go.RowKit
set_option maxRecDepth 100000
set_option maxHeartbeats 4000000
attribute [local irreducible] Wild.walk WildF.walk

theorem i_leafR (x0 x1 x2 x3 : UInt8) : wrap64 (wrap64 (wrap64 (wrap64 (wrap64 (bn x0) * 16777216) + wrap64 (wrap64 (bn x1) * 65536)) + wrap64 (wrap64 (bn x2) * 256)) + wrap64 (bn x3)) =
    ((x0.toNat * 16777216 + x1.toNat * 65536 + x2.toNat * 256 + x3.toNat : Nat) : Int) := by
  have h0 := bn_lt x0
  have h1 := bn_lt x1
  have h2 := bn_lt x2
  have h3 := bn_lt x3
  show _ = ((bn x0 * 16777216 + bn x1 * 65536 + bn x2 * 256 + bn x3 : Nat) : Int)
  generalize bn x0 = a at *
  generalize bn x1 = b at *
  generalize bn x2 = c at *
  generalize bn x3 = d at *
  rw [wr_in (a : Int) (by omega), wr_in (b : Int) (by omega), wr_in (c : Int) (by omega), wr_in (d : Int) (by omega)]
  rw [wr_in ((a : Int) * 16777216) (by omega), wr_in ((b : Int) * 65536) (by omega), wr_in ((c : Int) * 256) (by omega)]
  rw [wr_in ((a : Int) * 16777216 + (b : Int) * 65536) (by omega), wr_in ((a : Int) * 16777216 + (b : Int) * 65536 + (c : Int) * 256) (by omega), wr_in _ (by omega)]
  omega
theorem Leaf_ref (v : Value) (l : List UInt8) (w : World) (hv : Sl w v l) (hm : l.length ≤ 1000000) :
    Calls Tryz.prog 49 #[v] w fun e w' => e = .returned (.tuple #[.int .i64 (leafN l), .int .i64 (leafE l)]) ∧ Below w.heap.size w w' := by
  obtain ⟨a, cap, rfl⟩ := hv.shape
  by_cases h4 : l.length < 4
  · rw [leafN, leafE, if_pos h4, if_pos h4]
    have g : (l.length : Int) < 4 := by omega
    clear hv
    generalize l.length = len at *
    go_enter Tryz.func49, Tryz.ntmps49
    go_wp2_with fail
    go_ret2
    exact ⟨rfl, Below.refl _ _⟩
  · obtain ⟨b, off, rfl, -, -, -, hc⟩ := Sl.cells hv (by omega)
    have h0 := hc 0 (by omega)
    have h1 := hc 1 (by omega)
    have h2 := hc 2 (by omega)
    have h3 := hc 3 (by omega)
    have g0 : (0 : Int) < l.length := by omega
    have g1 : (1 : Int) < l.length := by omega
    have g2 : (2 : Int) < l.length := by omega
    have g3 : (3 : Int) < l.length := by omega
    have g4 : ¬ (l.length : Int) < 4 := by omega
    rw [leafN, leafE, if_neg h4, if_neg h4]
    clear hc hv h4
    generalize l.length = len at *
    rw [Nat.add_zero] at h0
    generalize l.getD 0 0 = x0 at *
    generalize l.getD 1 0 = x1 at *
    generalize l.getD 2 0 = x2 at *
    generalize l.getD 3 0 = x3 at *
    go_enter Tryz.func49, Tryz.ntmps49
    go_wp2_with fail
    go_quiet (fail)
    go_wp2
    go_ret2
    exact ⟨by rw [← i_leafR]; rfl, ⟨rfl, rfl, rfl, Nat.le_refl _, fun _ _ => rfl⟩⟩
theorem Sign_ref5 (I S : List UInt8) (k h q : Int) (tv : Value) (text : List UInt8) (w : World) (hI : I.length = 16) (hS : S.length = 32) (hk : -9223372036854775808 ≤ k ∧ k ≤ 9223372036854775807) (ht : Sl w tv text) (htl : text.length ≤ 1000000) :
    Calls Tryz.prog 27 #[.agg (TreeV I S k h).toArray, .int .i64 q, tv] w fun e w' => ∃ v, e = .returned (.tuple #[v, .int .i64 (lsigE k h q)]) ∧ Sl w' v (lsigV I S k h q text) ∧ Below w.heap.size w w' := by
  obtain ⟨V, HV, HB, HR⟩ : ∃ V, Hid (V = w.alloc (.cells (TreeV I S k h).toArray 31)) ∧ Hid (Below w.heap.size w V) ∧ Hid (V.heap[w.heap.size]? = some (.cells (TreeV I S k h).toArray 31 (0, 0))) := ⟨_, Lib.hid rfl, Lib.hid ((Below.refl _ _).alloc (Nat.le_refl _) _), Lib.hid (heap_alloc_new _ _)⟩
  have IT : Hid ((Tryz.prog.info? 31).map (·.size) = some (TreeV I S k h).toArray.size) := Lib.hid (by rw [info_treeR, List.size_toArray, TreeV_length _ _ _ _ hI hS])
  have HMA := Lib.hid (may_ref5 I S k h V hI hS)
  have HTX := Lib.hid (ht.later HB.out)
  have HHI := Lib.hid hI
  have HHS := Lib.hid hS
  have HTB : Hid (∀ w', Below V.heap.size V w' → w'.heap[w.heap.size]? = some (.cells (TreeV I S k h).toArray 31 (0, 0))) := Lib.hid (fun w' hb => (hb.block _ (Array.getElem?_eq_some_iff.1 HR.out).1).trans HR.out)
  obtain ⟨ta, tc, rfl⟩ := ht.shape
  by_cases hm : mayT k h = true
  · obtain ⟨h1, h2, h3⟩ := (mayT_iff k h).1 hm
    have he : errW k = 0 := by rw [errW, if_pos h1]
    rw [hm] at HMA
    obtain ⟨H, rfl⟩ : ∃ H : Nat, h = H := ⟨h.toNat, by omega⟩
    have hH : H ≤ 5 := by omega
    obtain ⟨p5, p1⟩ := pow5 H hH
    have HLV := Lib.hid (fun w' => leaves_ref H w' hH)
    obtain ⟨P, HP⟩ : ∃ P, Hid (P = 2 ^ H) := ⟨_, Lib.hid rfl⟩
    rw [← HP.out] at p5 p1 HLV
    by_cases hq0 : q < 0
    · have g0 : decide (q < 0) = true := decide_eq_true hq0
      have HL : Hid (lsigV I S k H q text = [] ∧ lsigE k H q = 12) := Lib.hid (by
        have e : leafOk H q = false := by rw [leafOk, decide_eq_false_iff_not]; omega
        rw [lsigV, lsigE, hm, e]; exact ⟨rfl, rfl⟩)
      rw [HL.out.1, HL.out.2]
      clear hm h1 he hI hS hk ht
      go_enter Tryz.func27, Tryz.ntmps27
      go_upto_region 1 with (fail)
      rw [← HV.out]
      go_wp2_with (first
        | ((with_reducible refine at_load 31 _ rfl ?_); refine wpList_load_row rfl 31 _ rfl _ rfl _ (TreeV I S k H).toArray (0, 0) _ HR.out Tryz.underlying31 rfl IT.out ?_)
        | (go_at_call 42; refine HMA.out.mono ?_; rintro e w1 ⟨rfl, b1⟩; have HB1 := Lib.hid b1; clear b1))
      go_ret2
      exact ⟨_, rfl, .inl ⟨rfl, _, _, rfl⟩, HB.out.trans (HB1.out.mono HB.out.size)⟩
    · have g0 : decide (q < 0) = false := decide_eq_false hq0
      by_cases hq1 : (P : Int) ≤ q
      · have g1 : decide ((P : Int) ≤ q) = true := decide_eq_true hq1
        have HL : Hid (lsigV I S k H q text = [] ∧ lsigE k H q = 12) := Lib.hid (by
          have e : leafOk H q = false := by rw [leafOk, decide_eq_false_iff_not, Int.toNat_natCast, ← HP.out]; omega
          rw [lsigV, lsigE, hm, e]; exact ⟨rfl, rfl⟩)
        rw [HL.out.1, HL.out.2]
        clear hm h1 he hI hS hk ht
        go_enter Tryz.func27, Tryz.ntmps27
        go_upto_region 1 with (fail)
        rw [← HV.out]
        go_wp2_with (first
          | ((with_reducible refine at_load 31 _ rfl ?_); refine wpList_load_row rfl 31 _ rfl _ rfl _ (TreeV I S k H).toArray (0, 0) _ HR.out Tryz.underlying31 rfl IT.out ?_)
          | (go_at_call 42; refine HMA.out.mono ?_; rintro e w1 ⟨rfl, b1⟩; have HB1 := Lib.hid b1; have kh := tree_H (HTB.out _ b1) HHI.out HHS.out; clear b1)
          | (go_at_call 50; refine (HLV.out _).mono ?_; rintro e wl ⟨rfl, hwl⟩; rw [hwl]; clear hwl))
        go_ret2
        exact ⟨_, rfl, .inl ⟨rfl, _, _, rfl⟩, HB.out.trans (HB1.out.mono HB.out.size)⟩
      · have g1 : decide ((P : Int) ≤ q) = false := decide_eq_false hq1
        obtain ⟨Q, rfl⟩ : ∃ Q : Nat, q = Q := ⟨q.toNat, by omega⟩
        have hQ : Q < P := by omega
        have HL : Hid (lsigV I S k H Q text = lsigN I S k H Q text ∧ lsigE k H Q = 0) := Lib.hid (by
          have e : leafOk H Q = true := by rw [leafOk, decide_eq_true_iff, Int.toNat_natCast, ← HP.out]; omega
          rw [lsigV, lsigE, hm, e]; exact ⟨rfl, rfl⟩)
        rw [HL.out.1, HL.out.2]
        have htd0 : 0 ≤ typedN H ∧ typedN H ≤ 105 := by rw [typedN]; split <;> omega
        obtain ⟨td, htd⟩ : ∃ td : Nat, typedN H = td := ⟨(typedN H).toNat, by omega⟩
        have HKY := Lib.hid (fun w' => key_ref5 I S k H Q w' hI hS (by omega))
        have HSI := Lib.hid (fun w' h => Sign_ref I S Q k (.slice ta text.length tc) text w' hI hS (by omega) hk h htl)
        have HTD := Lib.hid (fun w' => typed_ref H w' (by omega))
        have HF1 := Lib.hid (fun w' => Four_ref td w' (by omega))
        have HFQ := Lib.hid (fun w' => Four_own Q w' (by omega))
        have HSU := Lib.hid (fun r w' h1 h2 => knot_ref I S k H hI hS hH r w' h1 h2)
        obtain ⟨O, HO⟩ : ∃ O, Hid (O = signV I S Q k text) := ⟨_, Lib.hid rfl⟩
        have HOL : Hid (O.length ≤ 10000) := Lib.hid (by rw [HO.out]; exact signV_le _ _ _ _ _)
        obtain ⟨A1, HA1⟩ : ∃ L, Hid (L = fourN Q) := ⟨_, Lib.hid rfl⟩
        obtain ⟨A2, HA2⟩ : ∃ L, Hid (L = fourN td) := ⟨_, Lib.hid rfl⟩
        have HL1 : Hid (A1.length = 4) := Lib.hid (by rw [HA1.out]; rfl)
        have HL2 : Hid (A2.length = 4) := Lib.hid (by rw [HA2.out]; rfl)
        simp only [← HA1.out] at HFQ
        simp only [← HA2.out] at HF1
        obtain ⟨R1, HR1⟩ : ∃ R, Hid (R = A1 ++ O) := ⟨_, Lib.hid rfl⟩
        obtain ⟨R, HRR⟩ : ∃ R, Hid (R = R1 ++ A2) := ⟨_, Lib.hid rfl⟩
        have HRL1 : Hid (R1.length ≤ 10004) := Lib.hid (by rw [HR1.out, List.length_append, HL1.out]; have := HOL.out; omega)
        have HRL : Hid (R.length ≤ 10008) := Lib.hid (by rw [HRR.out, List.length_append, HL2.out]; have := HRL1.out; omega)
        have HFIN : Hid (lsigN I S k H Q text = R ++ besideN I S k H (P + Q) H) := Lib.hid (by rw [lsigN, htd, Int.toNat_natCast, ← HO.out, HRR.out, HR1.out, HA1.out, HA2.out, ← HP.out]; simp)
        simp only [he, ← HO.out] at HSI
        simp only [htd] at HTD
        rw [HFIN.out]
        obtain ⟨Z, HZ⟩ : ∃ Z, Hid (Z = Array.replicate 32 (Value.int .u8 0)) := ⟨_, Lib.hid rfl⟩
        have HZB : Hid (∀ w, (Instr.build 23 #[]).run Tryz.prog w = .ok (.agg Z) w) := Lib.hid (by rw [HZ.out]; exact fun w => by kernel_rfl)
        have HZI : Hid ((Tryz.prog.info? 23).map (·.size) = some Z.size) := Lib.hid (by rw [HZ.out, info_32]; rfl)
        have HZS : Hid (Z.size = 32) := Lib.hid (by rw [HZ.out]; simp)
        have HZO : Hid (Z.all (·.oneCell') = true) := Lib.hid (by rw [HZ.out]; exact B8_oneA zero32)
        have hqm : (Q : Int) % 4294967296 = Q := by omega
        clear hm h1 he hI hS hk ht htd htd0
        go_enter Tryz.func27, Tryz.ntmps27
        go_upto_region 1 with (fail)
        rw [← HV.out]
        go_upto_region 9 with (first
          | ((with_reducible refine at_load 31 _ rfl ?_); first | refine wpList_load_row rfl 31 _ rfl _ rfl _ (TreeV I S k H).toArray (0, 0) _ HR.out Tryz.underlying31 rfl IT.out ?_ | refine wpList_load_row rfl 31 _ rfl _ rfl _ (TreeV I S k H).toArray (0, 0) _ (HTB.out _ HB1.out) Tryz.underlying31 rfl IT.out ?_)
          | (go_at_call 42; refine HMA.out.mono ?_; rintro e w1 ⟨rfl, b1⟩; have HB1 := Lib.hid b1; have HT1 := Lib.hid (HTX.out.later b1); have kh := tree_H (HTB.out _ b1) HHI.out HHS.out; clear b1)
          | (go_at_call 50; refine (HLV.out _).mono ?_; rintro e wl ⟨rfl, hwl⟩; rw [hwl]; clear hwl)
          | (go_at_call 57; refine (HKY.out w1).mono ?_; rintro e w2 ⟨rfl, b2⟩; have HB2 := Lib.hid (HB1.out.trans (b2.mono HB1.out.size)); have HT2 := Lib.hid (HT1.out.later b2); clear b2)
          | (go_at_call 56; refine (HSI.out w2 HT2.out).mono ?_; rintro e w3 ⟨sv, rfl, s3, b3⟩; have HB3 := Lib.hid (HB2.out.trans (b3.mono HB2.out.size)); have HS3 := Lib.hid s3; obtain ⟨sa, sc, rfl⟩ := Sl.shape s3; clear s3 b3)
          | (go_at_call 44; (with_reducible refine (HFQ.out w3).mono ?_); rintro e w4 ⟨a4, rfl, s4, b4⟩; have HO4 := Lib.hid (OwnC.down s4 HB3.out.size); have HS4 := Lib.hid (HS3.out.later b4); have HB4 := Lib.hid (HB3.out.trans (b4.mono HB3.out.size)); clear s4 b4)
          | (at_builtin; refine wpList_append8 rfl _ _ rfl V.heap.size _ A1 rfl HO4.out _ O rfl HS4.out (by rw [HL1.out]; have := HOL.out; omega) HB4.out.size ?_; intro v5 w5 hv5 hg5 _; have HB5 := Lib.hid (HB4.out.trans (Own8.below HO4.out hg5 HB4.out.size)); rw [← HR1.out] at hv5; have HO5 := Lib.hid hv5; have kh := tree_H (HTB.out _ HB5.out) HHI.out HHS.out; clear hv5 hg5)
          | (go_at_call 45; refine (HTD.out _).mono ?_; rintro e wt ⟨rfl, hwt⟩; rw [hwt]; clear hwt)
          | (go_at_call 44; (with_reducible refine (HF1.out w5).mono ?_); rintro e w6 ⟨a6, rfl, s6, b6⟩; have HO6 := Lib.hid (HO5.out.later b6); have HS6 := Lib.hid s6; have HB6 := Lib.hid (HB5.out.trans (b6.mono HB5.out.size)); clear s6 b6)
          | (at_builtin; refine wpList_append8 rfl _ _ rfl V.heap.size _ R1 rfl HO6.out _ A2 rfl HS6.out (by rw [HL2.out]; have := HRL1.out; omega) HB6.out.size ?_; intro v7 w7 hv7 hg7 _; have HB7 := Lib.hid (HB6.out.trans (Own8.below HO6.out hg7 HB6.out.size)); rw [← HRR.out] at hv7; have HO7 := Lib.hid hv7; have kh := tree_H (HTB.out _ HB7.out) HHI.out HHS.out; clear hv7 hg7))
        clear kh
        go_loopw [10, 11] (fun out rv wr => ∃ j : Nat, j ≤ H ∧ rv = .int .i64 ((P + Q) / 2 ^ j : Nat) ∧ Hid (Own8 wr V.heap.size out (R ++ besideN I S k H (P + Q) j)) ∧ Hid (Below V.heap.size V wr)) (fun _ rv _ => (intOf rv).toNat)
        case atStart => exact ⟨0, by omega, by simp, Lib.hid (by simpa [besideN] using HO7.out), HB7⟩
        case round =>
          obtain ⟨j, hj, rfl, HOj, HBj⟩ := hrel
          obtain ⟨n, Hn⟩ : ∃ n, Hid (n = (P + Q) / 2 ^ j) := ⟨_, Lib.hid rfl⟩
          have Hn2 : Hid (n / 2 = (P + Q) / 2 ^ (j + 1)) := Lib.hid (by rw [Hn.out, div_two])
          rw [← Hn.out]
          have hnle : n ≤ P + Q := by rw [Hn.out]; exact Nat.div_le_self _ _
          obtain ⟨oa, oc, hov⟩ := HOj.out.shape
          subst hov
          by_cases hlt : j < H
          · have hge : 2 ≤ n := by
              rw [Hn.out, HP.out, Nat.le_div_iff_mul_le (Nat.pow_pos (by decide))]
              have h8 : 2 * 2 ^ j ≤ 2 ^ H := by rw [Nat.mul_comm, ← Nat.pow_succ]; exact Nat.pow_le_pow_right (by decide) (by omega)
              omega
            have hgi : (1 : Int) < n := by omega
            have hxp := xor_par n (by omega)
            obtain ⟨m, Hm⟩ : ∃ m, Hid (m = n ^^^ 1) := ⟨_, Lib.hid rfl⟩
            rw [← Hm.out] at hxp
            have HMB : Hid (1 ≤ m ∧ m < 2 ^ (H + 1)) := Lib.hid (by rw [Hm.out]; exact xor_bd H (by omega) n (by omega) hge (by rw [Nat.pow_succ, ← HP.out]; omega))
            obtain ⟨X, HX⟩ : ∃ X, Hid (X = knotV I S k H m) := ⟨_, Lib.hid rfl⟩
            have HXL : Hid (X.length = 32) := Lib.hid (by rw [HX.out]; exact knotV_length _ _ _ _ _)
            have HS1 := Lib.hid (fun w' => HSU.out m w' HMB.out.1 HMB.out.2)
            have HNX : Hid ((R ++ besideN I S k H (P + Q) j) ++ X = R ++ besideN I S k H (P + Q) (j + 1)) := Lib.hid (by rw [besideN, ← Hn.out, ← Hm.out, ← HX.out, List.append_assoc])
            have HLL : Hid ((R ++ besideN I S k H (P + Q) j).length + X.length ≤ 1000000000) := Lib.hid (by rw [List.length_append, besideN_length, HXL.out]; have := HRL.out; omega)
            rw [← HX.out] at HS1
            generalize R ++ besideN I S k H (P + Q) j = L at HOj HNX HLL
            obtain ⟨xb, Hxb⟩ : ∃ b, Hid (b = wr.heap.size) := ⟨_, Lib.hid rfl⟩
            obtain ⟨W1, HW1, HB1, HZ1, HBr⟩ : ∃ W, Hid (W = wr.alloc (.cells Z 23)) ∧ Hid (Below wr.heap.size wr W) ∧ Hid (W.heap[xb]? = some (.cells Z 23 (0, 0))) ∧ Hid (Below V.heap.size V W) := ⟨_, Lib.hid rfl, Lib.hid ((Below.refl _ _).alloc (Nat.le_refl _) _), Lib.hid (by rw [Hxb.out]; exact heap_alloc_new _ _), Lib.hid (HBj.out.alloc HBj.out.size _)⟩
            have HT1 := Lib.hid (HTB.out _ HBr.out)
            have HVX : Hid (V.heap.size ≤ xb) := Lib.hid (by rw [Hxb.out]; exact HBj.out.size)
            go_upto_region 12 with (first
              | refine wpList_build0 rfl 23 rfl (.agg Z) HZB.out ?_
              | refine wpList_store_new rfl 23 _ _ rfl Z rfl rfl 23 _ HZI.out (by rw [HZS.out]; rfl) HZO.out ?_)
            rw [← HW1.out, ← Hxb.out]
            try simp only [Act.put]
            have HEND : Hid (∀ w6, Below W1.heap.size W1 w6 → Hid (w6.heap[xb]? = some (.cells Z 23 (0, 0))) ∧ Hid (Own8 (w6.setRow xb (B8 X).toArray) V.heap.size (.slice oa L.length oc) L) ∧ Hid (Below V.heap.size V (w6.setRow xb (B8 X).toArray)) ∧ Hid (Sl (w6.setRow xb (B8 X).toArray) (.slice (some ⟨xb, 0, none⟩) 32 32) X)) := Lib.hid (fun w6 hb => by
              have h0 := (hb.block _ (Array.getElem?_eq_some_iff.1 HZ1.out).1).trans HZ1.out
              have hbr : Below wr.heap.size wr w6 := HB1.out.trans (hb.mono HB1.out.size)
              have hbs : Below wr.heap.size wr (w6.setRow xb (B8 X).toArray) := below_row hbr (by rw [Hxb.out]; exact Nat.le_refl _) _
              exact ⟨Lib.hid h0, Lib.hid (HOj.out.later hbs), Lib.hid (HBj.out.trans (hbs.mono HBj.out.size)), Lib.hid (Sl.ofBlock (setRow_heap _ _ _ _ _ _ h0) HXL.out.symm (Nat.le_refl _) (by simp [maxLen]) fun i hi => by rw [Nat.zero_add, List.getElem?_toArray])⟩)
            by_cases hpar : n % 2 = 0
            · rw [if_pos hpar] at hxp
              have hpi : (n : Int) % 2 = 0 := by omega
              have HEM : Hid ((n : Int) + 1 = (m : Int)) := Lib.hid (by omega)
              have emw : IntKind.i64.wrap ((n : Int) + 1) = (n : Int) + 1 := by rw [IntKind.wrap_i64]; omega
              go_wp2_with (first
                | ((with_reducible refine at_load 31 _ rfl ?_); refine wpList_load_row rfl 31 _ rfl _ rfl _ (TreeV I S k H).toArray (0, 0) _ HT1.out Tryz.underlying31 rfl IT.out ?_)
                | (go_at_call 46; rw [HEM.out]; (with_reducible refine (HS1.out W1).mono ?_); rintro e w6 ⟨rfl, b6⟩; obtain ⟨HZ6, HO7, HB7, HX7⟩ := HEND.out w6 b6; clear b6)
                | ((with_reducible refine at_store 23 _ _ rfl ?_); refine wpList_store_row rfl 23 _ _ rfl _ (B8 X).toArray rfl rfl 23 _ HZ6.out (arr32 HXL.out).1 (by rw [HZS.out]; simp [B8_length, HXL.out]) (B8_oneA X) ?_; generalize w6.setRow xb (B8 X).toArray = w7 at *)
                | (at_builtin; refine wpList_append8 rfl _ _ rfl V.heap.size _ L rfl HO7.out _ X rfl HX7.out HLL.out HB7.out.size ?_; intro v9 w9 hv9 hg9 ho9; have HB9 := Lib.hid (HB7.out.trans (Own8.below HO7.out hg9 HB7.out.size)); have HO9 := Lib.hid hv9; clear hv9 hg9 ho9))
              go_roundw
              case rel =>
                exact ⟨j + 1, by omega, by rw [← Hn2.out]; go_num, Lib.hid (by rw [← HNX.out]; exact HO9.out), HB9⟩
              case measure => simp [intOf]; omega
            · rw [if_neg hpar] at hxp
              have hpi : (n : Int) % 2 = 1 := by omega
              have HEM : Hid ((n : Int) - 1 = (m : Int)) := Lib.hid (by omega)
              have emw : IntKind.i64.wrap ((n : Int) - 1) = (n : Int) - 1 := by rw [IntKind.wrap_i64]; omega
              go_wp2_with (first
                | ((with_reducible refine at_load 31 _ rfl ?_); refine wpList_load_row rfl 31 _ rfl _ rfl _ (TreeV I S k H).toArray (0, 0) _ HT1.out Tryz.underlying31 rfl IT.out ?_)
                | (go_at_call 46; rw [HEM.out]; (with_reducible refine (HS1.out W1).mono ?_); rintro e w6 ⟨rfl, b6⟩; obtain ⟨HZ6, HO7, HB7, HX7⟩ := HEND.out w6 b6; clear b6)
                | ((with_reducible refine at_store 23 _ _ rfl ?_); refine wpList_store_row rfl 23 _ _ rfl _ (B8 X).toArray rfl rfl 23 _ HZ6.out (arr32 HXL.out).1 (by rw [HZS.out]; simp [B8_length, HXL.out]) (B8_oneA X) ?_; generalize w6.setRow xb (B8 X).toArray = w7 at *)
                | (at_builtin; refine wpList_append8 rfl _ _ rfl V.heap.size _ L rfl HO7.out _ X rfl HX7.out HLL.out HB7.out.size ?_; intro v9 w9 hv9 hg9 ho9; have HB9 := Lib.hid (HB7.out.trans (Own8.below HO7.out hg9 HB7.out.size)); have HO9 := Lib.hid hv9; clear hv9 hg9 ho9))
              go_roundw
              case rel =>
                exact ⟨j + 1, by omega, by rw [← Hn2.out]; go_num, Lib.hid (by rw [← HNX.out]; exact HO9.out), HB9⟩
              case measure => simp [intOf]; omega
          · obtain rfl : j = H := by omega
            have hn1 : n = 1 := by
              rw [Hn.out, ← HP.out]
              exact Nat.div_eq_of_lt_le (by omega) (by omega)
            subst hn1
            have HFS := Lib.hid HOj.out.sl
            have HBF : Hid (Below w.heap.size w wr) := Lib.hid (HB.out.trans (HBj.out.mono HB.out.size))
            go_wp2_with fail
            go_ret2
            exact ⟨_, rfl, HFS.out, HBF.out⟩
  · have hmf : mayT k h = false := by simpa using hm
    rw [hmf] at HMA
    have HL : Hid (lsigV I S k h q text = [] ∧ lsigE k h q = 1) := Lib.hid ⟨by rw [lsigV, hmf]; rfl, by rw [lsigE, if_neg hm]⟩
    rw [HL.out.1, HL.out.2]
    clear hm hmf hI hS hk ht
    go_enter Tryz.func27, Tryz.ntmps27
    go_upto_region 1 with (fail)
    rw [← HV.out]
    go_wp2_with (first
      | ((with_reducible refine at_load 31 _ rfl ?_); refine wpList_load_row rfl 31 _ rfl _ rfl _ (TreeV I S k h).toArray (0, 0) _ HR.out Tryz.underlying31 rfl IT.out ?_)
      | (go_at_call 42; refine HMA.out.mono ?_; rintro e w1 ⟨rfl, b1⟩; have HB1 := Lib.hid b1; clear b1))
    go_ret2
    exact ⟨_, rfl, .inl ⟨rfl, _, _, rfl⟩, HB.out.trans (HB1.out.mono HB.out.size)⟩
end Go.Proofs.YtcnelahmbfggcaaGreat

/- The walk of the document's form. -/
namespace Go.Proofs.YtcnelahmbfggcaaGreat
open Go Go.RowKit
set_option maxRecDepth 100000
set_option maxHeartbeats 2000000
attribute [local irreducible] Wild.walk WildF.walk

theorem treeR_built0 : Tryz.prog.built 31 [] = some (TreeV zero16 zero32 0 0).toArray := by rw [built_treeR]; rfl
theorem tree_Icell {t : TypeId} {w : World} {b : Nat} {I S : List UInt8} {k h : Int} (hr : w.heap[b]? = some (.cells (TreeV I S k h).toArray t (0, 0))) (hI : I.length = 16) (i : Nat) (hi : i < 16) :
    w.cell? ⟨b, i, none⟩ = some (.int .u8 (bn (I.getD i 0))) := by
  have h := (tree_ranges hr hI).1 i (.int .u8 (bn (I.getD i 0))) (by rw [B8_getElem?, List.getElem?_eq_getElem (by omega), List.getD_eq_getElem?_getD, List.getElem?_eq_getElem (by omega)]; rfl)
  rwa [Nat.zero_add] at h
theorem B8_set (I : List UInt8) (i : Nat) (x : UInt8) : (B8 I).set i (.int .u8 (bn x)) = B8 (I.set i x) := by simp [B8, List.map_set]
theorem tree_setI {t : TypeId} {w : World} {b : Nat} {I S : List UInt8} {k h : Int} (hr : w.heap[b]? = some (.cells (TreeV I S k h).toArray t (0, 0))) (hI : I.length = 16) (i : Nat) (hi : i < 16) (x : UInt8) :
    (w.setCell ⟨b, i, none⟩ (.int .u8 (bn x))).heap[b]? = some (.cells (TreeV (I.set i x) S k h).toArray t (0, 0)) := by
  rw [heap_setCell_same w b i _ _ _ hr, List.setIfInBounds_toArray]
  congr 3
  rw [TreeV, TreeV, List.set_append_left _ _ (by rw [B8_length]; omega), B8_set]
theorem form_ref (pv : Value) (p : List UInt8) (w : World) (hp : Sl w pv p) :
    Calls Tryz.prog 47 #[pv] w fun e w' => e = .returned (.tuple #[.agg (TreeV (openI p) zero32 (openW p) (openH p)).toArray, .bool (openOk p)]) ∧ Below w.heap.size w w' := by
  obtain ⟨V, HV, HB, HS1, HZ⟩ : ∃ V, Hid (V = w.alloc (.cells (TreeV zero16 zero32 0 0).toArray 31)) ∧ Hid (Below w.heap.size w V) ∧ Hid (V.heap.size = w.heap.size + 1) ∧ Hid (V.heap[w.heap.size]? = some (.cells (TreeV zero16 zero32 0 0).toArray 31 (0, 0))) :=
    ⟨_, Lib.hid rfl, Lib.hid ((Below.refl _ _).alloc (Nat.le_refl _) _), Lib.hid (by simp), Lib.hid (heap_alloc_new _ _)⟩
  obtain ⟨Z, HZe⟩ : ∃ Z, Hid (Z = (TreeV zero16 zero32 0 0).toArray) := ⟨_, Lib.hid rfl⟩
  have HB0 : Hid (Tryz.prog.built 31 [] = some Z) := Lib.hid (by rw [HZe.out]; exact treeR_built0)
  have HIZ : Hid ((Tryz.prog.info? 31).map (·.size) = some Z.size) := Lib.hid (by rw [HZe.out, info_treeR]; rfl)
  have HOZ : Hid (Z.all (·.oneCell') = true) := Lib.hid (by rw [HZe.out]; exact TreeV_one _ _ _ _)
  have HSZ : Hid (Z.size = 50) := Lib.hid (by rw [HZe.out]; rfl)
  rw [← HZe.out] at HZ HV
  obtain ⟨pa, pc, rfl⟩ := hp.shape
  have HP := Lib.hid (hp.later HB.out)
  have HPW := Lib.hid hp
  by_cases h56 : p.length = 56
  · have HL : Hid (openI p = pI p ∧ openW p = oWn p 4 ∧ openH p = oHn p 5 ∧ openOk p = mayT (openW p) (openH p)) := Lib.hid ⟨by rw [openI, if_pos h56], by rw [openW, if_pos h56], by rw [openH, if_pos h56], by rw [openOk, decide_eq_true h56, Bool.true_and]⟩
    rw [HL.out.2.2.2, HL.out.1, HL.out.2.1, HL.out.2.2.1]
    obtain ⟨pb, po, rfl, -, q1, q2, hcs⟩ := Sl.cells HP.out (by omega)
    have HCS := Lib.hid hcs
    obtain ⟨I, HI⟩ : ∃ I, Hid (I = pI p) := ⟨_, Lib.hid rfl⟩
    have HIL : Hid (I.length = 16) := Lib.hid (by rw [HI.out, pI, List.length_take, List.length_drop]; omega)
    have HIT : ∀ k h, Hid ((Tryz.prog.info? 31).map (·.size) = some (TreeV I zero32 k h).toArray.size) := fun k h => Lib.hid (by rw [info_treeR, List.size_toArray, TreeV_length _ _ _ _ HIL.out rfl])
    have HITL' : ∀ k h, Hid ((Tryz.prog.info? 31).map (·.size) = some (TreeV I zero32 k h).length) := fun k h => Lib.hid (by rw [info_treeR, TreeV_length _ _ _ _ HIL.out rfl])
    have HST : ∀ k h, Hid ((TreeV I zero32 k h).toArray.size = 50) := fun k h => Lib.hid (by rw [List.size_toArray, TreeV_length _ _ _ _ HIL.out rfl])
    obtain ⟨h, Hh⟩ : ∃ h : Nat, Hid (h = oHn p 5) := ⟨_, Lib.hid rfl⟩
    have Hh5 : Hid (h ≤ 5) := Lib.hid (by rw [Hh.out]; exact oHn_le p 5)
    obtain ⟨k, Hk⟩ : ∃ k : Nat, Hid (k = oWn p 4) := ⟨_, Lib.hid rfl⟩
    have Hk5 : Hid (k ≤ 16) := Lib.hid (by rw [Hk.out]; exact oWn_le p 4)
    have HMA := Lib.hid (fun w' => may_ref5 I zero32 k h w' HIL.out rfl)
    have HITL := HITL' k h
    clear HITL'
    rw [← HI.out, ← Hh.out, ← Hk.out]
    obtain ⟨ok, Hok⟩ : ∃ ok, Hid (ok = mayT k h) := ⟨_, Lib.hid rfl⟩
    rw [← Hok.out] at HMA ⊢
    rw [h56] at q1 HPW ⊢
    have HIB : Hid (∀ j, j < 16 → I.getD j 0 = p.getD (8 + j) 0) := Lib.hid (fun j hj => by rw [HI.out, pI]; simp only [List.getD_eq_getElem?_getD, List.getElem?_take, List.getElem?_drop]; rw [if_pos hj])
    have HIT9 : ∀ X : List UInt8, X.length = 16 → ∀ k h, Hid ((Tryz.prog.info? 31).map (·.size) = some (TreeV X zero32 k h).toArray.size) := fun X hX k h => Lib.hid (by rw [info_treeR, List.size_toArray, TreeV_length _ _ _ _ hX rfl])
    clear HI hp
    go_enter Tryz.func47, Tryz.ntmps47
    go_upto_region 1 with (fail)
    change Code.wp _ _ _ _ (w.alloc (.cells (TreeV zero16 zero32 0 0).toArray 31))
    rw [← HZe.out, ← HV.out]
    go_upto_region 4 with (first
      | (with_reducible refine at_build 31 _ rfl ?_; refine wpList_built rfl 31 [] rfl [] rfl _ HB0.out ?_)
      | ((with_reducible refine at_store 31 _ _ rfl ?_); refine wpList_store_new rfl 31 _ _ rfl Z rfl rfl 31 _ HIZ.out (by rw [HSZ.out]; rfl) HOZ.out ?_))
    obtain ⟨V2, HV2, HB2, HR2, HZ2⟩ : ∃ W, Hid (W = V.alloc (.cells Z 31)) ∧ Hid (Below w.heap.size w W) ∧ Hid (W.heap[w.heap.size + 1]? = some (.cells (TreeV zero16 zero32 0 0).toArray 31 (0, 0))) ∧ Hid (W.heap[w.heap.size]? = some (.cells Z 31 (0, 0))) :=
      ⟨_, Lib.hid rfl, Lib.hid (HB.out.alloc HB.out.size _), Lib.hid (by rw [← HS1.out, ← HZe.out]; exact heap_alloc_new _ _), Lib.hid ((heap_alloc_old _ _ (by rw [HS1.out]; omega)).trans HZ.out)⟩
    rw [← HV2.out, HS1.out]
    have HG1 : Hid (Sl w (.slice (some ⟨pb, po, none⟩) 4 pc) (p4 p)) := Lib.hid (by
      obtain ⟨pb', po', e, -, -, -, hcs'⟩ := Sl.cells HPW.out (by omega)
      injection e with e
      injection e with e1 e2
      subst e1
      subst e2
      have h := Sl.part hcs' 0 4 pc (by omega) (by omega) (by omega)
      rw [p4]; simpa using h)
    have HG2 : Hid (Sl w (.slice (some ⟨pb, po + 4, none⟩) 4 (pc - 4)) (p8 p)) := Lib.hid (by
      obtain ⟨pb', po', e, -, -, -, hcs'⟩ := Sl.cells HPW.out (by omega)
      injection e with e
      injection e with e1 e2
      subst e1
      subst e2
      have h := Sl.part hcs' 4 4 (pc - 4) (by omega) (by omega) (by omega)
      rw [p8]; exact h)
    obtain ⟨G, HG⟩ : ∃ G, Hid (G = p4 p) := ⟨_, Lib.hid rfl⟩
    obtain ⟨G8, HG8⟩ : ∃ G, Hid (G = p8 p) := ⟨_, Lib.hid rfl⟩
    rw [← HG.out] at HG1
    rw [← HG8.out] at HG2
    have HPC : Hid (∀ j, j < 16 → w.cell? ⟨pb, po + (8 + j), none⟩ = some (.int .u8 (bn (I.getD j 0)))) := Lib.hid (fun j hj => by
      obtain ⟨pb', po', e, -, -, -, hcs'⟩ := Sl.cells HPW.out (by omega)
      injection e with e
      injection e with e1 e2
      subst e1
      subst e2
      rw [HIB.out j hj]; exact hcs' (8 + j) (by omega))
    clear HV2 HV HP hcs
    go_upto_region 5 with (fail)
    go_loopw [5] (fun rv wr => ∃ j J : Nat, j ≤ 5 ∧ rv = .int .i64 J ∧ Hid (J = j + 1) ∧ Hid (wr.heap[w.heap.size + 1]? = some (.cells (TreeV zero16 zero32 0 (oHn p j)).toArray 31 (0, 0))) ∧ Hid (wr.heap[w.heap.size]? = some (.cells Z 31 (0, 0))) ∧ Hid (Below w.heap.size w wr)) (fun rv _ => 7 - (intOf rv).toNat)
    case atStart => exact ⟨0, 1, by omega, rfl, Lib.hid rfl, HR2, HZ2, HB2⟩
    case round =>
      obtain ⟨j, J, hj, rfl, HJ, HTj, HZj, HBj⟩ := hrel
      have hJ := HJ.out
      by_cases hlt : j < 5
      · have hlt5 : decide ((J : Int) ≤ 5) = true := decide_eq_true (by omega)
        have htd0 : 0 ≤ typedN J ∧ typedN J ≤ 105 := by rw [typedN]; split <;> omega
        obtain ⟨td, htd⟩ : ∃ td : Nat, typedN J = td := ⟨(typedN J).toNat, by omega⟩
        have HTD := Lib.hid (fun w' => typed_ref J w' (by omega))
        have HF1 := Lib.hid (fun w' => Four_ref td w' (by omega))
        rw [htd] at HTD
        obtain ⟨T4, HT4⟩ : ∃ T, Hid (T = fourN td) := ⟨_, Lib.hid rfl⟩
        have HT4L : Hid (T4.length = 4) := Lib.hid (by rw [HT4.out]; rfl)
        simp only [← HT4.out] at HF1
        have HON : Hid (oHn p (j + 1) = if T4 = G then J else oHn p j) := Lib.hid (by rw [oHn, ← hJ, htd, Int.toNat_natCast, ← HT4.out, ← HG.out])
        have hJ5 : J ≤ 5 := by omega
        clear htd htd0 hlt hJ hj
        go_upto_region 7 with (fail)
        try simp only [hlt5]
        clear hlt5
        try simp only [Act.put]
        refine Wild.region_b (fun k => match k with | 1 => some (.fix (.int .u32 td)) | 2 => some (.shut T4) | _ => none) (fun k => match k with | 3 => [2] | _ => []) rfl (by kernel_rfl) (fun vs hvs => ?_)
        have h1 : vs 1 = .int .u32 td := hvs 1 _ rfl
        obtain ⟨a2, h2⟩ := hvs 2 _ rfl
        refine Wild.walk_simple rfl (by rfl) (by rfl) (fun K hK => ?_); go_big_quiet_op; first | (refine hK _ ?_; clear hK K) | (refine ⟨_, fun _ _ => rfl, hK _ ?_⟩; clear hK K)
        refine Wild.walk_wild _ rfl (by rfl) (fun w' hw K hK => ?_) ?_
        · go_simp
          go_at_call 45
          refine (HTD.out w').mono ?_
          rintro e w'' ⟨rfl, rfl⟩
          exact hK.out _ _ hw.1 (Below.refl _ _) rfl trivial
        rw [h1]
        simp only [Act.put, List.setIfInBounds_toArray, List.set_cons_zero, List.set_cons_succ]
        refine Wild.walk_wild _ rfl (by rfl) (fun w' hw K hK => ?_) ?_
        · go_simp
          go_at_call 44
          refine (HF1.out w').mono ?_
          rintro e w'' ⟨a, rfl, s, hb⟩
          rw [← HT4L.out] at s
          rw [← HT4L.out]
          exact hK.out _ _ (hw.1.trans (hb.mono hw.1.size)) hb ⟨a, rfl⟩ s
        rw [h2]
        simp only [Act.put, List.setIfInBounds_toArray, List.set_cons_zero, List.set_cons_succ]
        refine Wild.walk_run (.string ⟨T4.toArray⟩) rfl (by rfl) (fun w' hw => ?_) ?_
        · have h : Sl w' (vs 2) T4 := hw.2 2 (by simp [Wild.tab]) rfl
          rw [h2] at h
          have := h.conv
          go_simp
        simp only [Act.put, List.setIfInBounds_toArray, List.set_cons_zero, List.set_cons_succ]
        refine Wild.walk_simple rfl (by rfl) (by rfl) (fun K hK => ?_); go_big_quiet_op; first | (refine hK _ ?_; clear hK K) | (refine ⟨_, fun _ _ => rfl, hK _ ?_⟩; clear hK K)
        refine Wild.walk_simple rfl (by rfl) (by rfl) (fun K hK => ?_); go_big_quiet_op; first | (refine hK _ ?_; clear hK K) | (refine ⟨_, fun _ _ => rfl, hK _ ?_⟩; clear hK K)
        refine Wild.walk_run (.string ⟨G.toArray⟩) rfl (by rfl) (fun w' hw => ?_) ?_
        · have h : Sl w' (.slice (some ⟨pb, po, none⟩) 4 pc) G := HG1.out.later (HBj.out.trans (Below.mono hw.1 HBj.out.size))
          have := h.conv
          go_simp
        simp only [Act.put, List.setIfInBounds_toArray, List.set_cons_zero, List.set_cons_succ]
        refine Wild.walk_simple rfl (by rfl) (by rfl) (fun K hK => ?_); go_big_quiet_op; first | (refine hK _ ?_; clear hK K) | (refine ⟨_, fun _ _ => rfl, hK _ ?_⟩; clear hK K)
        refine Wild.walk_nil ?_
        intro w5 hw5 _
        have HB5 : Hid (Below wr.heap.size wr w5) := Lib.hid hw5
        have HB6 : Hid (Below w.heap.size w w5) := Lib.hid (HBj.out.trans (Below.mono hw5 HBj.out.size))
        have HT5 := Lib.hid ((HB5.out.block _ (Array.getElem?_eq_some_iff.1 HTj.out).1).trans HTj.out)
        have HZ5 := Lib.hid ((HB5.out.block _ (Array.getElem?_eq_some_iff.1 HZj.out).1).trans HZj.out)
        generalize vs (0 + 1 + 1) = y2
        clear hw5 h1 h2 hvs
        cases hq : (T4 == G)
        · have HON' : Hid (oHn p (j + 1) = oHn p j) := Lib.hid (by rw [HON.out, if_neg (by simpa using hq)])
          clear hq
          go_upto_region 5 with (fail)
          refine ⟨⟨j + 1, J + 1, by have := HJ.out; omega, rfl, Lib.hid (by rw [HJ.out]), Lib.hid (by rw [HON'.out]; exact HT5.out), HZ5, HB6⟩, ?_⟩
          simp [intOf]; omega
        · have HON' : Hid (oHn p (j + 1) = J) := Lib.hid (by rw [HON.out, if_pos (by simpa using hq)])
          clear hq
          have kc := tree_H HT5.out rfl rfl
          have kf := frozen_of_row w5 (w.heap.size + 1) 49 _ _ HT5.out
          have HT6 := Lib.hid (tree_setH HT5.out rfl rfl (J : Int))
          have HZ6 : Hid ((w5.setCell ⟨w.heap.size + 1, 49, none⟩ (.int .i64 J)).heap[w.heap.size]? = some (.cells Z 31 (0, 0))) := Lib.hid ((heap_setCell_other _ _ _ _ (by simp)).trans HZ5.out)
          have HB7 : Hid (Below w.heap.size w (w5.setCell ⟨w.heap.size + 1, 49, none⟩ (.int .i64 J))) := Lib.hid (HB6.out.setCell (by simp) _)
          go_upto_region 5 with (fail)
          refine ⟨⟨j + 1, J + 1, by have := HJ.out; omega, rfl, Lib.hid (by rw [HJ.out]), Lib.hid (by rw [HON'.out]; exact HT6.out), HZ6, HB7⟩, ?_⟩
          simp [intOf]; omega
      · obtain rfl : j = 5 := by omega
        obtain rfl : J = 6 := hJ
        clear hlt hj HJ HB HS1 HB2 HZ2 HR2
        go_upto_region 10 with (fail)
        rw [← Hh.out] at HTj
        try simp only [show ((6 : Nat) : Int) = 6 from rfl]
        go_loopw [6] (fun rv wr => ∃ j J : Nat, j ≤ 4 ∧ rv = .int .i64 J ∧ Hid (J = 2 ^ j) ∧ Hid (wr.heap[w.heap.size + 1]? = some (.cells (TreeV zero16 zero32 (oWn p j) h).toArray 31 (0, 0))) ∧ Hid (wr.heap[w.heap.size]? = some (.cells Z 31 (0, 0))) ∧ Hid (Below w.heap.size w wr)) (fun rv _ => 32 - (intOf rv).toNat)
        case atStart => exact ⟨0, 1, by omega, rfl, Lib.hid rfl, HTj, HZj, HBj⟩
        case round =>
          clear HTj HZj HBj
          obtain ⟨j, J, hj, rfl, HJ, HTj, HZj, HBj⟩ := hrel
          have hJ := HJ.out
          by_cases hlt : j < 4
          · have hJ8 : J ≤ 8 := by rw [hJ]; exact Nat.pow_le_pow_right (n := 2) (by decide) (show j ≤ 3 by omega)
            have hlt5 : decide ((J : Int) ≤ 8) = true := decide_eq_true (by omega)
            have htd0 := typeN_bd J
            obtain ⟨td, htd⟩ : ∃ td : Nat, typeN J = td := ⟨(typeN J).toNat, by omega⟩
            have htd4 : td ≤ 4 := by omega
            have HTY := Lib.hid (fun w' => Type_ref J w')
            have HF1 := Lib.hid (fun w' => Four_ref td w' (by omega))
            rw [htd] at HTY
            obtain ⟨er, her⟩ : ∃ er, er = errW J := ⟨_, rfl⟩
            rw [← her] at HTY
            obtain ⟨T4, HT4⟩ : ∃ T, Hid (T = fourN td) := ⟨_, Lib.hid rfl⟩
            have HT4L : Hid (T4.length = 4) := Lib.hid (by rw [HT4.out]; rfl)
            simp only [← HT4.out] at HF1
            have HON : Hid (oWn p (j + 1) = if T4 = G8 then J else oWn p j) := Lib.hid (by rw [oWn, ← hJ, htd, Int.toNat_natCast, ← HT4.out, ← HG8.out])
            have hj4 : j + 1 ≤ 4 := hlt
            have hJ1 : 1 ≤ J := by rw [hJ]; exact Nat.pow_pos (by decide)
            clear htd htd0 hlt hJ hj her htd4
            go_upto_region 13 with (first
              | (go_at_call 43; refine (HTY.out wr).mono ?_; rintro e w3 ⟨rfl, hw3⟩; rw [hw3]; clear hw3))
            try simp only [hlt5]
            clear hlt5
            try simp only [Act.put]
            refine Wild.region_b (fun k => match k with | 1 => some (.shut T4) | _ => none) (fun k => match k with | 2 => [1] | _ => []) rfl (by kernel_rfl) (fun vs hvs => ?_)
            obtain ⟨a2, h2⟩ := hvs 1 _ rfl
            refine Wild.walk_simple rfl (by rfl) (by rfl) (fun K hK => ?_); go_big_quiet_op; first | (refine hK _ ?_; clear hK K) | (refine ⟨_, fun _ _ => rfl, hK _ ?_⟩; clear hK K)
            refine Wild.walk_wild _ rfl (by rfl) (fun w' hw K hK => ?_) ?_
            · go_simp
              go_at_call 44
              refine (HF1.out w').mono ?_
              rintro e w'' ⟨a, rfl, s, hb⟩
              rw [← HT4L.out] at s
              rw [← HT4L.out]
              exact hK.out _ _ (hw.1.trans (hb.mono hw.1.size)) hb ⟨a, rfl⟩ s
            rw [h2]
            simp only [Act.put, List.setIfInBounds_toArray, List.set_cons_zero, List.set_cons_succ]
            refine Wild.walk_run (.string ⟨T4.toArray⟩) rfl (by rfl) (fun w' hw => ?_) ?_
            · have h : Sl w' (vs 1) T4 := hw.2 1 (by simp [Wild.tab]) rfl
              rw [h2] at h
              have := h.conv
              go_simp
            simp only [Act.put, List.setIfInBounds_toArray, List.set_cons_zero, List.set_cons_succ]
            refine Wild.walk_simple rfl (by rfl) (by rfl) (fun K hK => ?_); go_big_quiet_op; first | (refine hK _ ?_; clear hK K) | (refine ⟨_, fun _ _ => rfl, hK _ ?_⟩; clear hK K)
            refine Wild.walk_simple rfl (by rfl) (by rfl) (fun K hK => ?_); go_big_quiet_op; first | (refine hK _ ?_; clear hK K) | (refine ⟨_, fun _ _ => rfl, hK _ ?_⟩; clear hK K)
            refine Wild.walk_run (.string ⟨G8.toArray⟩) rfl (by rfl) (fun w' hw => ?_) ?_
            · have h : Sl w' (.slice (some ⟨pb, po + 4, none⟩) 4 (pc - 4)) G8 := HG2.out.later (HBj.out.trans (Below.mono hw.1 HBj.out.size))
              have := h.conv
              go_simp
            simp only [Act.put, List.setIfInBounds_toArray, List.set_cons_zero, List.set_cons_succ]
            refine Wild.walk_simple rfl (by rfl) (by rfl) (fun K hK => ?_); go_big_quiet_op; first | (refine hK _ ?_; clear hK K) | (refine ⟨_, fun _ _ => rfl, hK _ ?_⟩; clear hK K)
            refine Wild.walk_nil ?_
            intro w5 hw5 _
            have HB5 : Hid (Below wr.heap.size wr w5) := Lib.hid hw5
            have HB6 : Hid (Below w.heap.size w w5) := Lib.hid (HBj.out.trans (HB5.out.mono HBj.out.size))
            have HT5 := Lib.hid ((HB5.out.block _ (Array.getElem?_eq_some_iff.1 HTj.out).1).trans HTj.out)
            have HZ5 := Lib.hid ((HB5.out.block _ (Array.getElem?_eq_some_iff.1 HZj.out).1).trans HZj.out)
            generalize vs (0 + 1) = y2
            clear hw5 h2 hvs
            cases hq : (T4 == G8)
            · have HON' : Hid (oWn p (j + 1) = oWn p j) := Lib.hid (by rw [HON.out, if_neg (by simpa using hq)])
              clear hq
              go_wp2_with fail
              go_roundw
              case rel => exact ⟨j + 1, 2 * J, hj4, by go_num, Lib.hid (by rw [HJ.out, Nat.pow_succ]; omega), Lib.hid (by rw [HON'.out]; exact HT5.out), HZ5, HB6⟩
              case measure => simp [intOf]; omega
            · have HON' : Hid (oWn p (j + 1) = J) := Lib.hid (by rw [HON.out, if_pos (by simpa using hq)])
              clear hq
              have kc := tree_W HT5.out rfl rfl
              have kf := frozen_of_row w5 (w.heap.size + 1) 48 _ _ HT5.out
              have HT6 := Lib.hid (tree_setW HT5.out rfl rfl (J : Int))
              have HZ6 : Hid ((w5.setCell ⟨w.heap.size + 1, 48, none⟩ (.int .i64 J)).heap[w.heap.size]? = some (.cells Z 31 (0, 0))) := Lib.hid ((heap_setCell_other _ _ _ _ (by simp)).trans HZ5.out)
              have HB7 : Hid (Below w.heap.size w (w5.setCell ⟨w.heap.size + 1, 48, none⟩ (.int .i64 J))) := Lib.hid (HB6.out.setCell (by simp) _)
              go_wp2_with fail
              go_roundw
              case rel => exact ⟨j + 1, 2 * J, hj4, by go_num, Lib.hid (by rw [HJ.out, Nat.pow_succ]; omega), Lib.hid (by rw [HON'.out]; exact HT6.out), HZ6, HB7⟩
              case measure => simp [intOf]; omega
          · obtain rfl : j = 4 := by omega
            obtain rfl : J = 16 := hJ
            rw [← Hk.out] at HTj
            have hd : decide ((16 : Int) ≤ 8) = false := by decide
            clear hlt hj HJ hd
            go_upto_region 16 with (fail)
            go_loopw [9] (fun iv wi => ∃ i : Nat, i ≤ 16 ∧ iv = .int .i64 i ∧ Hid (wi.heap[w.heap.size + 1]? = some (.cells (TreeV (I.take i ++ List.replicate (16 - i) 0) zero32 k h).toArray 31 (0, 0))) ∧ Hid (wi.heap[w.heap.size]? = some (.cells Z 31 (0, 0))) ∧ Hid (Below w.heap.size w wi)) (fun iv _ => 17 - (intOf iv).toNat)
            case atStart => exact ⟨0, by omega, rfl, HTj, HZj, HBj⟩
            case round =>
              clear HTj HZj HBj
              obtain ⟨i, hi, rfl, HTk, HZk, HBk⟩ := hrel
              by_cases hlt : i < 16
              · have hlti : (i : Int) < 16 := by omega
                have hb1 : (8 : Int) + i < 56 := by omega
                have hsc : wr.cell? ⟨pb, po + (8 + i), none⟩ = some (.int .u8 (bn (I.getD i 0))) := by
                  rw [HBk.out.cell (World.block_lt_of_cell? _ _ (HPC.out i hlt))]; exact HPC.out i hlt
                obtain ⟨X, HX⟩ : ∃ X, Hid (X = I.take i ++ List.replicate (16 - i) 0) := ⟨_, Lib.hid rfl⟩
                have HXL : Hid (X.length = 16) := Lib.hid (by rw [HX.out, List.length_append, List.length_take, List.length_replicate, HIL.out]; omega)
                rw [← HX.out] at HTk
                have hcell := tree_Icell HTk.out HXL.out i hlt
                have hfz := frozen_of_row wr (w.heap.size + 1) i _ _ HTk.out
                obtain ⟨xj, Hxj⟩ : ∃ xj, Hid (xj = I.getD i 0) := ⟨_, Lib.hid rfl⟩
                rw [← Hxj.out] at hsc
                have HSF : Hid (X.set i xj = I.take (i + 1) ++ List.replicate (16 - (i + 1)) 0) := Lib.hid (by
                  rw [HX.out, Hxj.out, set_fill8 (I.take i) 16 i (I.getD i 0) (by rw [List.length_take, HIL.out]; omega) (by omega), take_snoc8 I i (by rw [HIL.out]; omega)])
                generalize X.getD i 0 = old at hcell
                have HT6 := Lib.hid (tree_setI HTk.out HXL.out i hlt xj)
                rw [HSF.out] at HT6
                have HZ6 : Hid ((wr.setCell ⟨w.heap.size + 1, i, none⟩ (.int .u8 (bn xj))).heap[w.heap.size]? = some (.cells Z 31 (0, 0))) := Lib.hid ((heap_setCell_other _ _ _ _ (by simp)).trans HZk.out)
                have HB6 : Hid (Below w.heap.size w (wr.setCell ⟨w.heap.size + 1, i, none⟩ (.int .u8 (bn xj)))) := Lib.hid (HBk.out.setCell (by simp) _)
                go_wp2_with fail
                exact ⟨⟨i + 1, by omega, by go_num, HT6, HZ6, HB6⟩, by simp [intOf]; omega⟩
              · obtain rfl : i = 16 := by omega
                rw [List.take_of_length_le (by rw [HIL.out]; omega), show 16 - 16 = 0 from rfl, List.replicate_zero, List.append_nil] at HTk
                rw [show ((16 : Nat) : Int) = 16 from rfl]
                have hd16 : decide ((16 : Int) < 16) = false := by decide
                clear hlt hi hd16
                go_upto_region 19 with (fail)
                try simp only [Act.put]
                refine Wild.region_tail2_b 3 (fun n => match n with | 2 => some (.fix (.bool ok)) | _ => none) (fun _ => []) rfl rfl rfl rfl rfl (by kernel_rfl) (by kernel_rfl) (by kernel_rfl) (by kernel_rfl) (fun vs hvs => ?_)
                have h2 : vs 2 = .bool ok := hvs 2 _ rfl
                simp only [List.take_succ_cons, List.take_zero]
                refine Wild.walk_load 31 _ _ _ (TreeV I zero32 k h) _ rfl (by rfl) rfl rfl (fun w' hw => rangeAt_blw (rangeAt_row HTk.out) hw.1) Tryz.underlying31 rfl HITL.out ?_
                simp only [Act.put, List.setIfInBounds_toArray, List.set_cons_zero, List.set_cons_succ]
                refine Wild.walk_load 31 _ _ _ (TreeV I zero32 k h) _ rfl (by rfl) rfl rfl (fun w' hw => rangeAt_blw (rangeAt_row HTk.out) hw.1) Tryz.underlying31 rfl HITL.out ?_
                simp only [Act.put, List.setIfInBounds_toArray, List.set_cons_zero, List.set_cons_succ]
                refine Wild.walk_wild _ rfl (by rfl) (fun w' hw K hK => ?_) ?_
                · go_simp
                  go_at_call 42
                  refine (HMA.out w').mono ?_
                  rintro e w'' ⟨rfl, hb⟩
                  exact hK.out _ _ (hw.1.trans (hb.mono hw.1.size)) hb rfl trivial
                rw [h2]
                simp only [Act.put, List.setIfInBounds_toArray, List.set_cons_zero, List.set_cons_succ]
                refine Wild.walk_nil ?_
                intro w7 hw7 _
                have HZ7 := Lib.hid ((Below.block hw7 _ (Array.getElem?_eq_some_iff.1 HZk.out).1).trans HZk.out)
                have HB7 : Hid (Below w.heap.size w w7) := Lib.hid (HBk.out.trans (Below.mono hw7 HBk.out.size))
                have HZ8 := Lib.hid (setRow_heap w7 w.heap.size _ (TreeV I zero32 k h).toArray _ _ HZ7.out)
                have HB8 := Lib.hid (below_row HB7.out (Nat.le_refl _) (TreeV I zero32 k h).toArray)
                clear hw7 h2 hvs
                refine wp_store_row 31 _ _ rfl _ (TreeV I zero32 k h).toArray rfl rfl 31 _ HZ7.out (HIT k h).out (by rw [HSZ.out, (HST k h).out]) (TreeV_one _ _ _ _) ?_
                go_wp2_with fail
                exact bodyPost_ret (results_cell_row_tmp rfl _ _ w.heap.size 31 _ (0, 0) _ rfl HZ8.out Tryz.underlying31 rfl (HIT k h).out) rfl ⟨rfl, HB8.out⟩
  · have HL : Hid (openI p = zero16 ∧ openW p = 0 ∧ openH p = 0 ∧ openOk p = false) := Lib.hid ⟨by rw [openI, if_neg h56], by rw [openW, if_neg h56], by rw [openH, if_neg h56], by rw [openOk, decide_eq_false h56]; rfl⟩
    rw [HL.out.2.2.2, HL.out.1, HL.out.2.1, HL.out.2.2.1]
    have hne : ¬ (p.length : Int) = 56 := by omega
    clear hp
    go_enter Tryz.func47, Tryz.ntmps47
    go_upto_region 1 with (fail)
    change Code.wp _ _ _ _ (w.alloc (.cells (TreeV zero16 zero32 0 0).toArray 31))
    rw [← HZe.out, ← HV.out]
    go_wp2_with (first
      | (with_reducible refine at_build 31 _ rfl ?_; refine wpList_built rfl 31 [] rfl [] rfl _ HB0.out ?_)
      | (with_reducible refine at_store 31 _ _ rfl ?_; refine wpList_store_same rfl 31 _ _ rfl _ Z rfl rfl 31 HZ.out HIZ.out HOZ.out ?_))
    exact bodyPost_ret (results_cell_row_tmp rfl _ _ w.heap.size 31 _ (0, 0) _ rfl HZ.out Tryz.underlying31 rfl HIZ.out) rfl ⟨by rw [HZe.out]; rfl, HB.out⟩
end Go.Proofs.YtcnelahmbfggcaaGreat

/- The walk of the document's Verify. -/
namespace Go.Proofs.YtcnelahmbfggcaaGreat
open Go Go.RowKit
set_option maxRecDepth 100000
set_option maxHeartbeats 8000000
attribute [local irreducible] Wild.walk WildF.walk

theorem div_one_ofR (P Q : Nat) (h : Q < P) : (P + Q) / P = 1 := by rw [Nat.add_div_left Q (by omega), Nat.div_eq_of_lt h]
theorem Verify_closedR (pv tv sv : Value) (p text s : List UInt8) (w : World) (hp : Sl w pv p) (ht : Sl w tv text) (hs : Sl w sv s) (hok : openOk p = false) :
    Calls Tryz.prog 24 #[pv, tv, sv] w fun e w' => e = .returned (.int .i64 3) ∧ Below w.heap.size w w' := by
  have HOP := Lib.hid (form_ref pv p w hp)
  rw [hok] at HOP
  obtain ⟨T, HT⟩ : ∃ T, Hid (T = (TreeV (openI p) zero32 (openW p) (openH p)).toArray) := ⟨_, Lib.hid rfl⟩
  rw [← HT.out] at HOP
  have HTI : Hid ((Tryz.prog.info? 31).map (·.size) = some T.size) := Lib.hid (by rw [HT.out, info_treeR, List.size_toArray, TreeV_length _ _ _ _ (openI_length p) rfl])
  have HTO : Hid (T.all (·.oneCell') = true) := Lib.hid (by rw [HT.out]; exact TreeV_one _ _ _ _)
  have HTS : Hid (T.size = 50) := Lib.hid (by rw [HT.out, List.size_toArray, TreeV_length _ _ _ _ (openI_length p) rfl])
  obtain ⟨pa, pc, rfl⟩ := hp.shape
  obtain ⟨ta, tc, rfl⟩ := ht.shape
  obtain ⟨sa, sc, rfl⟩ := hs.shape
  clear hp ht hs hok
  go_enter Tryz.func24, Tryz.ntmps24
  go_wp2_with (first
    | (go_at_call 47; refine HOP.out.mono ?_; rintro e w1 ⟨rfl, b1⟩; have HB1 := Lib.hid b1; clear b1)
    | ((with_reducible refine at_store 31 _ _ rfl ?_); refine wpList_store_new rfl 31 _ _ rfl T rfl rfl 31 _ HTI.out (by rw [HTS.out]; rfl) HTO.out ?_))
  go_ret
  exact ⟨rfl, HB1.out.alloc HB1.out.size _⟩
theorem Verify_mainR (pv tv sv : Value) (p text s : List UInt8) (w : World) (hp : Sl w pv p) (ht : Sl w tv text) (hs : Sl w sv s) (htl : text.length ≤ 1000000) (hsl : s.length ≤ 1000000) (hok : openOk p = true) :
    Calls Tryz.prog 24 #[pv, tv, sv] w fun e w' => e = .returned (.int .i64 (verV p text s)) ∧ Below w.heap.size w w' := by
  have HOP := Lib.hid (form_ref pv p w hp)
  rw [hok] at HOP
  obtain ⟨hp56, hk, hkw, hh1, hh5, hp8⟩ := openOk_facts p hok
  have hIL := openI_length p
  have hvl : verL p = 36 + 32 * (manyW (openW p)).toNat := rfl
  obtain ⟨k, Hk⟩ : ∃ k, Hid (k = openW p) := ⟨_, Lib.hid rfl⟩
  obtain ⟨h, Hh⟩ : ∃ h, Hid (h = openH p) := ⟨_, Lib.hid rfl⟩
  obtain ⟨I, HI⟩ : ∃ I, Hid (I = openI p) := ⟨_, Lib.hid rfl⟩
  have HVV : Hid (verV p text s = if verOk p s then (if verR p text s = p.drop 24 then 0 else 16) else 3) := Lib.hid rfl
  have HVO : Hid (verOk p s = (decide (s.length = verL p + 8 + 32 * openH p) && (decide (leafN s < 2 ^ openH p) && (((s.drop (4 + verL p)).take 4 == p4 p) && ((s.drop 4).take 4 == p8 p))))) := Lib.hid (by rw [verOk, hok, Bool.true_and])
  have HVR : Hid (verR p text s = climb (openI p) (openH p) (2 ^ openH p + leafN s) (hashN (openI p) (2 ^ openH p + leafN s) 33410 [candV (openI p) (leafN s) text ((s.drop 4).take (verL p))]) (s.drop (verL p + 8))) := Lib.hid rfl
  obtain ⟨R, HR⟩ : ∃ R, Hid (R = verV p text s) := ⟨_, Lib.hid rfl⟩
  rw [← HR.out] at HVV ⊢
  rw [← Hk.out, ← Hh.out, ← HI.out] at HOP
  rw [← Hh.out] at HVO HVR hh1 hh5
  rw [← HI.out] at HVR hIL
  rw [← Hk.out] at hk hkw hp8 hvl
  obtain ⟨M, m1, m2⟩ : ∃ M : Nat, manyW k = M ∧ M ≤ 265 := ⟨_, (manyW_w k hk).1, (manyW_w k hk).2⟩
  obtain ⟨n, Hn⟩ : ∃ n, Hid (n = verL p) := ⟨_, Lib.hid rfl⟩
  rw [← Hn.out] at HVO HVR hvl
  have hmk : 36 + 32 * manyW k = (n : Int) := by omega
  have hn9 : n ≤ 9000 := by omega
  have HLN := Lib.hid (fun w' => Long_ref k w')
  have herr : errW k = 0 := by rw [errW, if_pos hkw]
  simp only [hkw, if_true, hmk, herr] at HLN
  have HLF := Lib.hid (fun w' h => Leaf_ref sv s w' h hsl)
  have HLV := Lib.hid (fun w' => leaves_ref h w' hh5)
  obtain ⟨T, HT⟩ : ∃ T, Hid (T = (TreeV I zero32 k h).toArray) := ⟨_, Lib.hid rfl⟩
  have HTI : Hid ((Tryz.prog.info? 31).map (·.size) = some T.size) := Lib.hid (by rw [HT.out, info_treeR, List.size_toArray, TreeV_length _ _ _ _ hIL rfl])
  have HTO : Hid (T.all (·.oneCell') = true) := Lib.hid (by rw [HT.out]; exact TreeV_one _ _ _ _)
  have HTS : Hid (T.size = 50) := Lib.hid (by rw [HT.out, List.size_toArray, TreeV_length _ _ _ _ hIL rfl])
  rw [← HT.out] at HOP
  have HHIL := Lib.hid hIL
  have HPW := Lib.hid hp
  have HTW := Lib.hid ht
  have HSW := Lib.hid hs
  obtain ⟨pa, pc, rfl⟩ := hp.shape
  obtain ⟨ta, tc, rfl⟩ := ht.shape
  obtain ⟨sa, sc, rfl⟩ := hs.shape
  rw [hp56] at HOP HPW ⊢
  have HP56 := Lib.hid hp56
  have hpl0 : 0 < p.length := by rw [hp56]; decide
  obtain ⟨pb, po, rfl, -, p1, p2, hpcs⟩ := Sl.cells HPW.out hpl0
  rw [hp56] at p1
  clear hp hp56
  obtain ⟨P, HPo⟩ : ∃ P, Hid (P = 2 ^ h) := ⟨_, Lib.hid rfl⟩
  obtain ⟨pw5, pw1⟩ := pow5 h hh5
  rw [← HPo.out] at pw5 pw1 HLV
  obtain ⟨P4, HP4⟩ : ∃ E, Hid (E = p4 p) := ⟨_, Lib.hid rfl⟩
  obtain ⟨P8, HP8⟩ : ∃ E, Hid (E = p8 p) := ⟨_, Lib.hid rfl⟩
  have GP4 : Hid (Sl w (.slice (some ⟨pb, po, none⟩) 4 pc) P4) := Lib.hid (by have h := Sl.part hpcs 0 4 pc (by rw [HP56.out]; omega) (by omega) (by omega); rw [HP4.out, p4]; simpa using h)
  have GP8 : Hid (Sl w (.slice (some ⟨pb, po + 4, none⟩) 4 (pc - 4)) P8) := Lib.hid (by rw [HP8.out, p8]; exact Sl.part hpcs 4 4 _ (by rw [HP56.out]; omega) (by omega) (by omega))
  obtain ⟨Pr, HPr⟩ : ∃ X, Hid (X = p.drop 24) := ⟨_, Lib.hid rfl⟩
  have GPr : Hid (Sl w (.slice (some ⟨pb, po + 24, none⟩) 32 (pc - 24)) Pr) := Lib.hid (by
    have h := Sl.part hpcs 24 32 (pc - 24) (by rw [HP56.out]; omega) (by omega) (by omega)
    rw [List.take_of_length_le (by rw [List.length_drop, HP56.out]; omega)] at h
    rw [HPr.out]; exact h)
  have hpc4 : (4 : Int) ≤ pc := by omega
  have hpc8 : (8 : Int) ≤ pc := by omega
  obtain ⟨Ls, hLs⟩ : ∃ Ls, Ls = s.length := ⟨_, rfl⟩
  have key : Hid (∀ (w1 : World), Below w.heap.size w w1 → ∃ W, Hid (W = w1.alloc (.cells T 31)) ∧ Hid (Below w.heap.size w W) ∧ Hid (W.heap[w1.heap.size]? = some (.cells (TreeV I zero32 k h).toArray 31 (0, 0)))) := Lib.hid (fun w1 b1 =>
    ⟨_, Lib.hid rfl, Lib.hid (b1.alloc b1.size _), Lib.hid (by rw [HT.out]; exact heap_alloc_new _ _)⟩)
  have HLS := Lib.hid hLs
  rw [← hLs] at HSW HLF ⊢
  clear ht hs hok hp8 hvl hmk Hn herr m1 m2 hpcs hpl0
  by_cases hlen : Ls = n + 8 + 32 * h
  · have hlb : ((Ls : Int) != 4 + (n : Int) + 4 + 32 * (h : Int)) = false := by
      have : (Ls : Int) = 4 + (n : Int) + 4 + 32 * (h : Int) := by omega
      rw [this]; simp
    have hle : (Ls : Int) = 4 + (n : Int) + 4 + 32 * (h : Int) := by omega
    have HLE := Lib.hid hle
    clear hle
    have HVO1 : Hid (verOk p s = (decide (leafN s < 2 ^ h) && (((s.drop (4 + n)).take 4 == p4 p) && ((s.drop 4).take 4 == p8 p)))) := Lib.hid (by rw [HVO.out, decide_eq_true (by rw [← hLs]; exact hlen), Bool.true_and])
    obtain ⟨sb, so, rfl, -, q1, q2, hcs⟩ := Sl.cells HSW.out (by omega)
    rw [← hLs] at q1
    have HCS := Lib.hid hcs
    obtain ⟨Qn, HQn⟩ : ∃ q, Hid (q = leafN s) := ⟨_, Lib.hid rfl⟩
    have HQ32 : Hid (Qn < 4294967296) := Lib.hid (by rw [HQn.out]; exact leafN_lt s)
    have hfe : leafE s = 0 := by rw [leafE, if_neg (by omega)]
    rw [← HQn.out, hfe] at HLF
    rw [← HQn.out] at HVO1 HVR
    obtain ⟨E4, HE4⟩ : ∃ E, Hid (E = (s.drop (4 + n)).take 4) := ⟨_, Lib.hid rfl⟩
    obtain ⟨S8, HS8⟩ : ∃ E, Hid (E = (s.drop 4).take 4) := ⟨_, Lib.hid rfl⟩
    have GE4 : Hid (Sl w (.slice (some ⟨sb, so + (4 + n), none⟩) 4 (sc - (4 + n))) E4) := Lib.hid (by rw [HE4.out]; exact Sl.part hcs (4 + n) 4 _ (by omega) (by omega) (by omega))
    have GS8 : Hid (Sl w (.slice (some ⟨sb, so + 4, none⟩) 4 (sc - 4)) S8) := Lib.hid (by rw [HS8.out]; exact Sl.part hcs 4 4 _ (by omega) (by omega) (by omega))
    rw [← HPo.out, ← HE4.out, ← HS8.out, ← HP4.out, ← HP8.out] at HVO1
    have hsc8 : (8 : Int) ≤ sc := by omega
    have hsn : (8 : Int) + (n : Int) ≤ sc := by omega
    have h84 : 8 + n - (4 + n) = 4 := by omega
    have HLEN := Lib.hid hlen
    clear hfe hcs hlen hLs
    cases hs8 : (S8 == P8)
    · have HV3 : Hid (R = 3) := Lib.hid (by rw [HVV.out, HVO1.out, hs8, Bool.and_false, Bool.and_false]; rfl)
      have hs8' : (S8 != P8) = true := by simp [bne, hs8]
      go_enter Tryz.func24, Tryz.ntmps24
      go_upto_region 2 with (first
        | (go_at_call 47; refine HOP.out.mono ?_; rintro e w1 ⟨rfl, b1⟩; have HB1 := Lib.hid b1; clear b1)
        | ((with_reducible refine at_store 31 _ _ rfl ?_); refine wpList_store_new rfl 31 _ _ rfl T rfl rfl 31 _ HTI.out (by rw [HTS.out]; rfl) HTO.out ?_))
      obtain ⟨W2, HW2, HB2, HT2⟩ := key.out w1 HB1.out
      rw [← HW2.out]
      generalize w1.heap.size = b at *
      have HT2L : Hid (b < W2.heap.size) := Lib.hid (Array.getElem?_eq_some_iff.1 HT2.out).1
      have kw := tree_W HT2.out hIL rfl
      go_upto_region 5 with (go_at_call 48; refine (HLN.out W2).mono ?_; rintro e w3 ⟨rfl, b3⟩; have HB3 := Lib.hid (HB2.out.trans (b3.mono HB2.out.size)); have HB23 := Lib.hid b3; clear b3)
      clear kw
      try simp only [Act.put]
      refine Wild.region_b (fun _ => none) (fun _ => []) rfl (by kernel_rfl) (fun vs hvs => ?_)
      refine Wild.walk_simple rfl (by rfl) (by rfl) (fun K hK => ?_); go_big_quiet_op; first | (refine hK _ ?_; clear hK K) | (refine ⟨_, fun _ _ => rfl, hK _ ?_⟩; clear hK K)
      refine Wild.walk_run (.int .i64 Ls) rfl (by rfl) (fun w' _ => by unfold execOp; go_simp) ?_
      simp only [Act.put, List.setIfInBounds_toArray, List.set_cons_zero, List.set_cons_succ]
      refine Wild.walk_simple rfl (by rfl) (by rfl) (fun K hK => ?_); go_big_quiet_op; first | (refine hK _ ?_; clear hK K) | (refine ⟨_, fun _ _ => rfl, hK _ ?_⟩; clear hK K)
      refine Wild.walk_simple rfl (by rfl) (by rfl) (fun K hK => ?_); go_big_quiet_op; first | (refine hK _ ?_; clear hK K) | (refine ⟨_, fun _ _ => rfl, hK _ ?_⟩; clear hK K)
      refine Wild.walk_simple rfl (by rfl) (by rfl) (fun K hK => ?_); go_big_quiet_op; first | (refine hK _ ?_; clear hK K) | (refine ⟨_, fun _ _ => rfl, hK _ ?_⟩; clear hK K)
      refine Wild.walk_simple rfl (by rfl) (by rfl) (fun K hK => ?_); go_big_quiet_op; first | (refine hK _ ?_; clear hK K) | (refine ⟨_, fun _ _ => rfl, hK _ ?_⟩; clear hK K)
      refine Wild.walk_cell 3 _ _ _ (.int .i64 h) _ rfl (by rfl) rfl rfl (fun w' hw => tree_H (((HB23.out.trans (Below.mono hw.1 HB23.out.size)).block _ HT2L.out).trans HT2.out) HHIL.out rfl) Tryz.underlying3 rfl ?_
      simp only [Act.put, List.setIfInBounds_toArray, List.set_cons_zero, List.set_cons_succ]
      refine Wild.walk_simple rfl (by rfl) (by rfl) (fun K hK => ?_); go_big_quiet_op; first | (refine hK _ ?_; clear hK K) | (refine ⟨_, fun _ _ => rfl, hK _ ?_⟩; clear hK K)
      refine Wild.walk_simple rfl (by rfl) (by rfl) (fun K hK => ?_); go_big_quiet_op; first | (refine hK _ ?_; clear hK K) | (refine ⟨_, fun _ _ => rfl, hK _ ?_⟩; clear hK K)
      refine Wild.walk_simple rfl (by rfl) (by rfl) (fun K hK => ?_); go_big_quiet_op; first | (refine hK _ ?_; clear hK K) | (refine ⟨_, fun _ _ => rfl, hK _ ?_⟩; clear hK K)
      try simp only [hlb]
      refine Wild.walk_simple rfl (by rfl) (by rfl) (fun K hK => ?_); go_big_quiet_op; first | (refine hK _ ?_; clear hK K) | (refine ⟨_, fun _ _ => rfl, hK _ ?_⟩; clear hK K)
      refine Wild.walk_simple rfl (by rfl) (by rfl) (fun K hK => ?_); go_big_quiet_op; first | (refine hK _ ?_; clear hK K) | (refine ⟨_, fun _ _ => rfl, hK _ ?_⟩; clear hK K)
      refine Wild.walk_simple rfl (by rfl) (by rfl) (fun K hK => ?_); go_big_quiet_op; first | (refine hK _ ?_; clear hK K) | (refine ⟨_, fun _ _ => rfl, hK _ ?_⟩; clear hK K)
      refine Wild.walk_run (.string ⟨S8.toArray⟩) rfl (by rfl) (fun w' hw => ?_) ?_
      · have h : Sl w' (.slice (some ⟨sb, so + 4, none⟩) 4 (sc - 4)) S8 := GS8.out.later (HB3.out.trans (Below.mono hw.1 HB3.out.size))
        have := h.conv
        go_simp
      simp only [Act.put, List.setIfInBounds_toArray, List.set_cons_zero, List.set_cons_succ]
      refine Wild.walk_simple rfl (by rfl) (by rfl) (fun K hK => ?_); go_big_quiet_op; first | (refine hK _ ?_; clear hK K) | (refine ⟨_, fun _ _ => rfl, hK _ ?_⟩; clear hK K)
      refine Wild.walk_simple rfl (by rfl) (by rfl) (fun K hK => ?_); go_big_quiet_op; first | (refine hK _ ?_; clear hK K) | (refine ⟨_, fun _ _ => rfl, hK _ ?_⟩; clear hK K)
      refine Wild.walk_run (.string ⟨P8.toArray⟩) rfl (by rfl) (fun w' hw => ?_) ?_
      · have h : Sl w' (.slice (some ⟨pb, po + 4, none⟩) 4 (pc - 4)) P8 := GP8.out.later (HB3.out.trans (Below.mono hw.1 HB3.out.size))
        have := h.conv
        go_simp
      simp only [Act.put, List.setIfInBounds_toArray, List.set_cons_zero, List.set_cons_succ]
      refine Wild.walk_simple rfl (by rfl) (by rfl) (fun K hK => ?_); go_big_quiet_op; first | (refine hK _ ?_; clear hK K) | (refine ⟨_, fun _ _ => rfl, hK _ ?_⟩; clear hK K)
      refine Wild.walk_simple rfl (by rfl) (by rfl) (fun K hK => ?_); go_big_quiet_op; first | (refine hK _ ?_; clear hK K) | (refine ⟨_, fun _ _ => rfl, hK _ ?_⟩; clear hK K)
      refine Wild.walk_simple rfl (by rfl) (by rfl) (fun K hK => ?_); go_big_quiet_op; first | (refine hK _ ?_; clear hK K) | (refine ⟨_, fun _ _ => rfl, hK _ ?_⟩; clear hK K)
      refine Wild.walk_skip rfl (by rfl) ?_
      simp only [Act.put, List.setIfInBounds_toArray, List.set_cons_zero, List.set_cons_succ]
      refine Wild.walk_skip rfl (by rfl) ?_
      simp only [Act.put, List.setIfInBounds_toArray, List.set_cons_zero, List.set_cons_succ]
      refine Wild.walk_skip rfl (by rfl) ?_
      simp only [Act.put, List.setIfInBounds_toArray, List.set_cons_zero, List.set_cons_succ]
      refine Wild.walk_skip rfl (by rfl) ?_
      simp only [Act.put, List.setIfInBounds_toArray, List.set_cons_zero, List.set_cons_succ]
      refine Wild.walk_skip rfl (by rfl) ?_
      simp only [Act.put, List.setIfInBounds_toArray, List.set_cons_zero, List.set_cons_succ]
      refine Wild.walk_skip rfl (by rfl) ?_
      simp only [Act.put, List.setIfInBounds_toArray, List.set_cons_zero, List.set_cons_succ]
      try simp only [show 8 + n - (4 + n) = 4 by omega]
      refine Wild.walk_skip rfl (by rfl) ?_
      simp only [Act.put, List.setIfInBounds_toArray, List.set_cons_zero, List.set_cons_succ]
      refine Wild.walk_skip rfl (by rfl) ?_
      simp only [Act.put, List.setIfInBounds_toArray, List.set_cons_zero, List.set_cons_succ]
      refine Wild.walk_skip rfl (by rfl) ?_
      simp only [Act.put, List.setIfInBounds_toArray, List.set_cons_zero, List.set_cons_succ]
      refine Wild.walk_skip rfl (by rfl) ?_
      simp only [Act.put, List.setIfInBounds_toArray, List.set_cons_zero, List.set_cons_succ]
      refine Wild.walk_skip rfl (by rfl) ?_
      simp only [Act.put, List.setIfInBounds_toArray, List.set_cons_zero, List.set_cons_succ]
      refine Wild.walk_simple rfl (by rfl) (by rfl) (fun K hK => ?_); go_big_quiet_op; first | (refine hK _ ?_; clear hK K) | (refine ⟨_, fun _ _ => rfl, hK _ ?_⟩; clear hK K)
      refine Wild.walk_nil ?_
      intro w4 hw4 _
      have HB4 : Hid (Below w.heap.size w w4) := Lib.hid (HB3.out.trans (Below.mono hw4 HB3.out.size))
      have HB24 : Hid (Below W2.heap.size W2 w4) := Lib.hid (HB23.out.trans (Below.mono hw4 HB23.out.size))
      clear hw4 hvs
      go_wp2_with fail
      go_ret
      exact ⟨by rw [HV3.out]; rfl, HB4.out⟩
    · cases he4 : (E4 == P4)
      · have HV3 : Hid (R = 3) := Lib.hid (by rw [HVV.out, HVO1.out, he4, Bool.false_and, Bool.and_false]; rfl)
        have he4' : (E4 != P4) = true := by simp [bne, he4]
        go_enter Tryz.func24, Tryz.ntmps24
        go_upto_region 2 with (first
          | (go_at_call 47; refine HOP.out.mono ?_; rintro e w1 ⟨rfl, b1⟩; have HB1 := Lib.hid b1; clear b1)
          | ((with_reducible refine at_store 31 _ _ rfl ?_); refine wpList_store_new rfl 31 _ _ rfl T rfl rfl 31 _ HTI.out (by rw [HTS.out]; rfl) HTO.out ?_))
        obtain ⟨W2, HW2, HB2, HT2⟩ := key.out w1 HB1.out
        rw [← HW2.out]
        generalize w1.heap.size = b at *
        have HT2L : Hid (b < W2.heap.size) := Lib.hid (Array.getElem?_eq_some_iff.1 HT2.out).1
        have kw := tree_W HT2.out hIL rfl
        go_upto_region 5 with (go_at_call 48; refine (HLN.out W2).mono ?_; rintro e w3 ⟨rfl, b3⟩; have HB3 := Lib.hid (HB2.out.trans (b3.mono HB2.out.size)); have HB23 := Lib.hid b3; clear b3)
        clear kw
        try simp only [Act.put]
        refine Wild.region_b (fun _ => none) (fun _ => []) rfl (by kernel_rfl) (fun vs hvs => ?_)
        refine Wild.walk_simple rfl (by rfl) (by rfl) (fun K hK => ?_); go_big_quiet_op; first | (refine hK _ ?_; clear hK K) | (refine ⟨_, fun _ _ => rfl, hK _ ?_⟩; clear hK K)
        refine Wild.walk_run (.int .i64 Ls) rfl (by rfl) (fun w' _ => by unfold execOp; go_simp) ?_
        simp only [Act.put, List.setIfInBounds_toArray, List.set_cons_zero, List.set_cons_succ]
        refine Wild.walk_simple rfl (by rfl) (by rfl) (fun K hK => ?_); go_big_quiet_op; first | (refine hK _ ?_; clear hK K) | (refine ⟨_, fun _ _ => rfl, hK _ ?_⟩; clear hK K)
        refine Wild.walk_simple rfl (by rfl) (by rfl) (fun K hK => ?_); go_big_quiet_op; first | (refine hK _ ?_; clear hK K) | (refine ⟨_, fun _ _ => rfl, hK _ ?_⟩; clear hK K)
        refine Wild.walk_simple rfl (by rfl) (by rfl) (fun K hK => ?_); go_big_quiet_op; first | (refine hK _ ?_; clear hK K) | (refine ⟨_, fun _ _ => rfl, hK _ ?_⟩; clear hK K)
        refine Wild.walk_simple rfl (by rfl) (by rfl) (fun K hK => ?_); go_big_quiet_op; first | (refine hK _ ?_; clear hK K) | (refine ⟨_, fun _ _ => rfl, hK _ ?_⟩; clear hK K)
        refine Wild.walk_cell 3 _ _ _ (.int .i64 h) _ rfl (by rfl) rfl rfl (fun w' hw => tree_H (((HB23.out.trans (Below.mono hw.1 HB23.out.size)).block _ HT2L.out).trans HT2.out) HHIL.out rfl) Tryz.underlying3 rfl ?_
        simp only [Act.put, List.setIfInBounds_toArray, List.set_cons_zero, List.set_cons_succ]
        refine Wild.walk_simple rfl (by rfl) (by rfl) (fun K hK => ?_); go_big_quiet_op; first | (refine hK _ ?_; clear hK K) | (refine ⟨_, fun _ _ => rfl, hK _ ?_⟩; clear hK K)
        refine Wild.walk_simple rfl (by rfl) (by rfl) (fun K hK => ?_); go_big_quiet_op; first | (refine hK _ ?_; clear hK K) | (refine ⟨_, fun _ _ => rfl, hK _ ?_⟩; clear hK K)
        refine Wild.walk_simple rfl (by rfl) (by rfl) (fun K hK => ?_); go_big_quiet_op; first | (refine hK _ ?_; clear hK K) | (refine ⟨_, fun _ _ => rfl, hK _ ?_⟩; clear hK K)
        try simp only [hlb]
        refine Wild.walk_simple rfl (by rfl) (by rfl) (fun K hK => ?_); go_big_quiet_op; first | (refine hK _ ?_; clear hK K) | (refine ⟨_, fun _ _ => rfl, hK _ ?_⟩; clear hK K)
        refine Wild.walk_simple rfl (by rfl) (by rfl) (fun K hK => ?_); go_big_quiet_op; first | (refine hK _ ?_; clear hK K) | (refine ⟨_, fun _ _ => rfl, hK _ ?_⟩; clear hK K)
        refine Wild.walk_simple rfl (by rfl) (by rfl) (fun K hK => ?_); go_big_quiet_op; first | (refine hK _ ?_; clear hK K) | (refine ⟨_, fun _ _ => rfl, hK _ ?_⟩; clear hK K)
        refine Wild.walk_run (.string ⟨S8.toArray⟩) rfl (by rfl) (fun w' hw => ?_) ?_
        · have h : Sl w' (.slice (some ⟨sb, so + 4, none⟩) 4 (sc - 4)) S8 := GS8.out.later (HB3.out.trans (Below.mono hw.1 HB3.out.size))
          have := h.conv
          go_simp
        simp only [Act.put, List.setIfInBounds_toArray, List.set_cons_zero, List.set_cons_succ]
        refine Wild.walk_simple rfl (by rfl) (by rfl) (fun K hK => ?_); go_big_quiet_op; first | (refine hK _ ?_; clear hK K) | (refine ⟨_, fun _ _ => rfl, hK _ ?_⟩; clear hK K)
        refine Wild.walk_simple rfl (by rfl) (by rfl) (fun K hK => ?_); go_big_quiet_op; first | (refine hK _ ?_; clear hK K) | (refine ⟨_, fun _ _ => rfl, hK _ ?_⟩; clear hK K)
        refine Wild.walk_run (.string ⟨P8.toArray⟩) rfl (by rfl) (fun w' hw => ?_) ?_
        · have h : Sl w' (.slice (some ⟨pb, po + 4, none⟩) 4 (pc - 4)) P8 := GP8.out.later (HB3.out.trans (Below.mono hw.1 HB3.out.size))
          have := h.conv
          go_simp
        simp only [Act.put, List.setIfInBounds_toArray, List.set_cons_zero, List.set_cons_succ]
        refine Wild.walk_simple rfl (by rfl) (by rfl) (fun K hK => ?_); go_big_quiet_op; first | (refine hK _ ?_; clear hK K) | (refine ⟨_, fun _ _ => rfl, hK _ ?_⟩; clear hK K)
        refine Wild.walk_simple rfl (by rfl) (by rfl) (fun K hK => ?_); go_big_quiet_op; first | (refine hK _ ?_; clear hK K) | (refine ⟨_, fun _ _ => rfl, hK _ ?_⟩; clear hK K)
        refine Wild.walk_simple rfl (by rfl) (by rfl) (fun K hK => ?_); go_big_quiet_op; first | (refine hK _ ?_; clear hK K) | (refine ⟨_, fun _ _ => rfl, hK _ ?_⟩; clear hK K)
        refine Wild.walk_simple rfl (by rfl) (by rfl) (fun K hK => ?_); go_big_quiet_op; first | (refine hK _ ?_; clear hK K) | (refine ⟨_, fun _ _ => rfl, hK _ ?_⟩; clear hK K)
        refine Wild.walk_simple rfl (by rfl) (by rfl) (fun K hK => ?_); go_big_quiet_op; first | (refine hK _ ?_; clear hK K) | (refine ⟨_, fun _ _ => rfl, hK _ ?_⟩; clear hK K)
        refine Wild.walk_simple rfl (by rfl) (by rfl) (fun K hK => ?_); go_big_quiet_op; first | (refine hK _ ?_; clear hK K) | (refine ⟨_, fun _ _ => rfl, hK _ ?_⟩; clear hK K)
        refine Wild.walk_simple rfl (by rfl) (by rfl) (fun K hK => ?_); go_big_quiet_op; first | (refine hK _ ?_; clear hK K) | (refine ⟨_, fun _ _ => rfl, hK _ ?_⟩; clear hK K)
        refine Wild.walk_simple rfl (by rfl) (by rfl) (fun K hK => ?_); go_big_quiet_op; first | (refine hK _ ?_; clear hK K) | (refine ⟨_, fun _ _ => rfl, hK _ ?_⟩; clear hK K)
        refine Wild.walk_simple rfl (by rfl) (by rfl) (fun K hK => ?_); go_big_quiet_op; first | (refine hK _ ?_; clear hK K) | (refine ⟨_, fun _ _ => rfl, hK _ ?_⟩; clear hK K)
        try simp only [show 8 + n - (4 + n) = 4 by omega]
        refine Wild.walk_run (.string ⟨E4.toArray⟩) rfl (by rfl) (fun w' hw => ?_) ?_
        · have h : Sl w' (.slice (some ⟨sb, so + (4 + n), none⟩) 4 (sc - (4 + n))) E4 := GE4.out.later (HB3.out.trans (Below.mono hw.1 HB3.out.size))
          have := h.conv
          go_simp
        simp only [Act.put, List.setIfInBounds_toArray, List.set_cons_zero, List.set_cons_succ]
        refine Wild.walk_simple rfl (by rfl) (by rfl) (fun K hK => ?_); go_big_quiet_op; first | (refine hK _ ?_; clear hK K) | (refine ⟨_, fun _ _ => rfl, hK _ ?_⟩; clear hK K)
        refine Wild.walk_simple rfl (by rfl) (by rfl) (fun K hK => ?_); go_big_quiet_op; first | (refine hK _ ?_; clear hK K) | (refine ⟨_, fun _ _ => rfl, hK _ ?_⟩; clear hK K)
        refine Wild.walk_run (.string ⟨P4.toArray⟩) rfl (by rfl) (fun w' hw => ?_) ?_
        · have h : Sl w' (.slice (some ⟨pb, po, none⟩) 4 pc) P4 := GP4.out.later (HB3.out.trans (Below.mono hw.1 HB3.out.size))
          have := h.conv
          go_simp
        simp only [Act.put, List.setIfInBounds_toArray, List.set_cons_zero, List.set_cons_succ]
        refine Wild.walk_simple rfl (by rfl) (by rfl) (fun K hK => ?_); go_big_quiet_op; first | (refine hK _ ?_; clear hK K) | (refine ⟨_, fun _ _ => rfl, hK _ ?_⟩; clear hK K)
        refine Wild.walk_simple rfl (by rfl) (by rfl) (fun K hK => ?_); go_big_quiet_op; first | (refine hK _ ?_; clear hK K) | (refine ⟨_, fun _ _ => rfl, hK _ ?_⟩; clear hK K)
        refine Wild.walk_nil ?_
        intro w4 hw4 _
        have HB4 : Hid (Below w.heap.size w w4) := Lib.hid (HB3.out.trans (Below.mono hw4 HB3.out.size))
        have HB24 : Hid (Below W2.heap.size W2 w4) := Lib.hid (HB23.out.trans (Below.mono hw4 HB23.out.size))
        clear hw4 hvs
        go_wp2_with fail
        go_ret
        exact ⟨by rw [HV3.out]; rfl, HB4.out⟩
      · have hs8' : (S8 != P8) = false := by simp [bne, hs8]
        have he4' : (E4 != P4) = false := by simp [bne, he4]
        have HVT : Hid (verOk p s = decide (Qn < P)) := Lib.hid (by rw [HVO1.out, he4, hs8]; simp)
        go_enter Tryz.func24, Tryz.ntmps24
        go_upto_region 2 with (first
          | (go_at_call 47; refine HOP.out.mono ?_; rintro e w1 ⟨rfl, b1⟩; have HB1 := Lib.hid b1; clear b1)
          | ((with_reducible refine at_store 31 _ _ rfl ?_); refine wpList_store_new rfl 31 _ _ rfl T rfl rfl 31 _ HTI.out (by rw [HTS.out]; rfl) HTO.out ?_))
        obtain ⟨W2, HW2, HB2, HT2⟩ := key.out w1 HB1.out
        rw [← HW2.out]
        generalize w1.heap.size = b at *
        have HT2L : Hid (b < W2.heap.size) := Lib.hid (Array.getElem?_eq_some_iff.1 HT2.out).1
        have kw := tree_W HT2.out hIL rfl
        go_upto_region 5 with (go_at_call 48; refine (HLN.out W2).mono ?_; rintro e w3 ⟨rfl, b3⟩; have HB3 := Lib.hid (HB2.out.trans (b3.mono HB2.out.size)); have HB23 := Lib.hid b3; clear b3)
        clear kw
        try simp only [Act.put]
        refine Wild.region_b (fun _ => none) (fun _ => []) rfl (by kernel_rfl) (fun vs hvs => ?_)
        refine Wild.walk_simple rfl (by rfl) (by rfl) (fun K hK => ?_); go_big_quiet_op; first | (refine hK _ ?_; clear hK K) | (refine ⟨_, fun _ _ => rfl, hK _ ?_⟩; clear hK K)
        refine Wild.walk_run (.int .i64 Ls) rfl (by rfl) (fun w' _ => by unfold execOp; go_simp) ?_
        simp only [Act.put, List.setIfInBounds_toArray, List.set_cons_zero, List.set_cons_succ]
        refine Wild.walk_simple rfl (by rfl) (by rfl) (fun K hK => ?_); go_big_quiet_op; first | (refine hK _ ?_; clear hK K) | (refine ⟨_, fun _ _ => rfl, hK _ ?_⟩; clear hK K)
        refine Wild.walk_simple rfl (by rfl) (by rfl) (fun K hK => ?_); go_big_quiet_op; first | (refine hK _ ?_; clear hK K) | (refine ⟨_, fun _ _ => rfl, hK _ ?_⟩; clear hK K)
        refine Wild.walk_simple rfl (by rfl) (by rfl) (fun K hK => ?_); go_big_quiet_op; first | (refine hK _ ?_; clear hK K) | (refine ⟨_, fun _ _ => rfl, hK _ ?_⟩; clear hK K)
        refine Wild.walk_simple rfl (by rfl) (by rfl) (fun K hK => ?_); go_big_quiet_op; first | (refine hK _ ?_; clear hK K) | (refine ⟨_, fun _ _ => rfl, hK _ ?_⟩; clear hK K)
        refine Wild.walk_cell 3 _ _ _ (.int .i64 h) _ rfl (by rfl) rfl rfl (fun w' hw => tree_H (((HB23.out.trans (Below.mono hw.1 HB23.out.size)).block _ HT2L.out).trans HT2.out) HHIL.out rfl) Tryz.underlying3 rfl ?_
        simp only [Act.put, List.setIfInBounds_toArray, List.set_cons_zero, List.set_cons_succ]
        refine Wild.walk_simple rfl (by rfl) (by rfl) (fun K hK => ?_); go_big_quiet_op; first | (refine hK _ ?_; clear hK K) | (refine ⟨_, fun _ _ => rfl, hK _ ?_⟩; clear hK K)
        refine Wild.walk_simple rfl (by rfl) (by rfl) (fun K hK => ?_); go_big_quiet_op; first | (refine hK _ ?_; clear hK K) | (refine ⟨_, fun _ _ => rfl, hK _ ?_⟩; clear hK K)
        refine Wild.walk_simple rfl (by rfl) (by rfl) (fun K hK => ?_); go_big_quiet_op; first | (refine hK _ ?_; clear hK K) | (refine ⟨_, fun _ _ => rfl, hK _ ?_⟩; clear hK K)
        try simp only [hlb]
        refine Wild.walk_simple rfl (by rfl) (by rfl) (fun K hK => ?_); go_big_quiet_op; first | (refine hK _ ?_; clear hK K) | (refine ⟨_, fun _ _ => rfl, hK _ ?_⟩; clear hK K)
        refine Wild.walk_simple rfl (by rfl) (by rfl) (fun K hK => ?_); go_big_quiet_op; first | (refine hK _ ?_; clear hK K) | (refine ⟨_, fun _ _ => rfl, hK _ ?_⟩; clear hK K)
        refine Wild.walk_simple rfl (by rfl) (by rfl) (fun K hK => ?_); go_big_quiet_op; first | (refine hK _ ?_; clear hK K) | (refine ⟨_, fun _ _ => rfl, hK _ ?_⟩; clear hK K)
        refine Wild.walk_run (.string ⟨S8.toArray⟩) rfl (by rfl) (fun w' hw => ?_) ?_
        · have h : Sl w' (.slice (some ⟨sb, so + 4, none⟩) 4 (sc - 4)) S8 := GS8.out.later (HB3.out.trans (Below.mono hw.1 HB3.out.size))
          have := h.conv
          go_simp
        simp only [Act.put, List.setIfInBounds_toArray, List.set_cons_zero, List.set_cons_succ]
        refine Wild.walk_simple rfl (by rfl) (by rfl) (fun K hK => ?_); go_big_quiet_op; first | (refine hK _ ?_; clear hK K) | (refine ⟨_, fun _ _ => rfl, hK _ ?_⟩; clear hK K)
        refine Wild.walk_simple rfl (by rfl) (by rfl) (fun K hK => ?_); go_big_quiet_op; first | (refine hK _ ?_; clear hK K) | (refine ⟨_, fun _ _ => rfl, hK _ ?_⟩; clear hK K)
        refine Wild.walk_run (.string ⟨P8.toArray⟩) rfl (by rfl) (fun w' hw => ?_) ?_
        · have h : Sl w' (.slice (some ⟨pb, po + 4, none⟩) 4 (pc - 4)) P8 := GP8.out.later (HB3.out.trans (Below.mono hw.1 HB3.out.size))
          have := h.conv
          go_simp
        simp only [Act.put, List.setIfInBounds_toArray, List.set_cons_zero, List.set_cons_succ]
        refine Wild.walk_simple rfl (by rfl) (by rfl) (fun K hK => ?_); go_big_quiet_op; first | (refine hK _ ?_; clear hK K) | (refine ⟨_, fun _ _ => rfl, hK _ ?_⟩; clear hK K)
        refine Wild.walk_simple rfl (by rfl) (by rfl) (fun K hK => ?_); go_big_quiet_op; first | (refine hK _ ?_; clear hK K) | (refine ⟨_, fun _ _ => rfl, hK _ ?_⟩; clear hK K)
        refine Wild.walk_simple rfl (by rfl) (by rfl) (fun K hK => ?_); go_big_quiet_op; first | (refine hK _ ?_; clear hK K) | (refine ⟨_, fun _ _ => rfl, hK _ ?_⟩; clear hK K)
        refine Wild.walk_simple rfl (by rfl) (by rfl) (fun K hK => ?_); go_big_quiet_op; first | (refine hK _ ?_; clear hK K) | (refine ⟨_, fun _ _ => rfl, hK _ ?_⟩; clear hK K)
        refine Wild.walk_simple rfl (by rfl) (by rfl) (fun K hK => ?_); go_big_quiet_op; first | (refine hK _ ?_; clear hK K) | (refine ⟨_, fun _ _ => rfl, hK _ ?_⟩; clear hK K)
        refine Wild.walk_simple rfl (by rfl) (by rfl) (fun K hK => ?_); go_big_quiet_op; first | (refine hK _ ?_; clear hK K) | (refine ⟨_, fun _ _ => rfl, hK _ ?_⟩; clear hK K)
        refine Wild.walk_simple rfl (by rfl) (by rfl) (fun K hK => ?_); go_big_quiet_op; first | (refine hK _ ?_; clear hK K) | (refine ⟨_, fun _ _ => rfl, hK _ ?_⟩; clear hK K)
        refine Wild.walk_simple rfl (by rfl) (by rfl) (fun K hK => ?_); go_big_quiet_op; first | (refine hK _ ?_; clear hK K) | (refine ⟨_, fun _ _ => rfl, hK _ ?_⟩; clear hK K)
        refine Wild.walk_simple rfl (by rfl) (by rfl) (fun K hK => ?_); go_big_quiet_op; first | (refine hK _ ?_; clear hK K) | (refine ⟨_, fun _ _ => rfl, hK _ ?_⟩; clear hK K)
        try simp only [show 8 + n - (4 + n) = 4 by omega]
        refine Wild.walk_run (.string ⟨E4.toArray⟩) rfl (by rfl) (fun w' hw => ?_) ?_
        · have h : Sl w' (.slice (some ⟨sb, so + (4 + n), none⟩) 4 (sc - (4 + n))) E4 := GE4.out.later (HB3.out.trans (Below.mono hw.1 HB3.out.size))
          have := h.conv
          go_simp
        simp only [Act.put, List.setIfInBounds_toArray, List.set_cons_zero, List.set_cons_succ]
        refine Wild.walk_simple rfl (by rfl) (by rfl) (fun K hK => ?_); go_big_quiet_op; first | (refine hK _ ?_; clear hK K) | (refine ⟨_, fun _ _ => rfl, hK _ ?_⟩; clear hK K)
        refine Wild.walk_simple rfl (by rfl) (by rfl) (fun K hK => ?_); go_big_quiet_op; first | (refine hK _ ?_; clear hK K) | (refine ⟨_, fun _ _ => rfl, hK _ ?_⟩; clear hK K)
        refine Wild.walk_run (.string ⟨P4.toArray⟩) rfl (by rfl) (fun w' hw => ?_) ?_
        · have h : Sl w' (.slice (some ⟨pb, po, none⟩) 4 pc) P4 := GP4.out.later (HB3.out.trans (Below.mono hw.1 HB3.out.size))
          have := h.conv
          go_simp
        simp only [Act.put, List.setIfInBounds_toArray, List.set_cons_zero, List.set_cons_succ]
        refine Wild.walk_simple rfl (by rfl) (by rfl) (fun K hK => ?_); go_big_quiet_op; first | (refine hK _ ?_; clear hK K) | (refine ⟨_, fun _ _ => rfl, hK _ ?_⟩; clear hK K)
        refine Wild.walk_simple rfl (by rfl) (by rfl) (fun K hK => ?_); go_big_quiet_op; first | (refine hK _ ?_; clear hK K) | (refine ⟨_, fun _ _ => rfl, hK _ ?_⟩; clear hK K)
        refine Wild.walk_nil ?_
        intro w4 hw4 _
        have HB4 : Hid (Below w.heap.size w w4) := Lib.hid (HB3.out.trans (Below.mono hw4 HB3.out.size))
        have HB24 : Hid (Below W2.heap.size W2 w4) := Lib.hid (HB23.out.trans (Below.mono hw4 HB23.out.size))
        clear hw4 hvs
        have HSV4 := Lib.hid (HSW.out.later HB4.out)
        go_upto_region 8 with (go_at_call 49; refine (HLF.out w4 HSV4.out).mono ?_; rintro e w5 ⟨rfl, b5⟩; have HB5 := Lib.hid (HB4.out.trans (b5.mono HB4.out.size)); have HB25 := Lib.hid (HB24.out.trans (b5.mono HB24.out.size)); clear b5)
        have HT5 : Hid (w5.heap[b]? = some (.cells (TreeV I zero32 k h).toArray 31 (0, 0))) := Lib.hid ((HB25.out.block _ HT2L.out).trans HT2.out)
        have kh := tree_H HT5.out hIL rfl
        by_cases hq : P ≤ Qn
        · have HV3 : Hid (R = 3) := Lib.hid (by rw [HVV.out, HVT.out, decide_eq_false (by omega)]; rfl)
          have g1 : (P : Int) ≤ (Qn : Int) := by omega
          go_wp2_with (go_at_call 50; refine (HLV.out _).mono ?_; rintro e wl ⟨rfl, hwl⟩; rw [hwl]; clear hwl)
          go_ret
          exact ⟨by rw [HV3.out]; rfl, HB5.out⟩
        have g1 : ¬ (P : Int) ≤ (Qn : Int) := by omega
        have hQP : Qn < P := by omega
        have HVT2 : Hid (R = if verR p text s = p.drop 24 then 0 else 16) := Lib.hid (by rw [HVV.out, HVT.out, decide_eq_true hQP]; rfl)
        obtain ⟨X, HXx⟩ : ∃ X, Hid (X = (s.drop 4).take n) := ⟨_, Lib.hid rfl⟩
        have HLS4 : Hid (n + 8 + 32 * h = s.length) := Lib.hid (by rw [← HLS.out]; exact HLEN.out.symm)
        have HXL : Hid (X.length = n) := Lib.hid (by rw [HXx.out, List.length_take, List.length_drop]; have := HLS4.out; omega)
        have GX : Hid (Sl w (.slice (some ⟨sb, so + 4, none⟩) n (sc - 4)) X) := Lib.hid (by rw [HXx.out]; exact Sl.part HCS.out 4 n _ (by have := HLS4.out; omega) (by omega) (by omega))
        obtain ⟨Bs, HBs⟩ : ∃ X, Hid (X = s.drop (n + 8)) := ⟨_, Lib.hid rfl⟩
        have HBsL : Hid (Bs.length = 32 * h) := Lib.hid (by rw [HBs.out, List.length_drop]; have := HLS4.out; omega)
        obtain ⟨C, HC⟩ : ∃ C, Hid (C = candV I Qn text X) := ⟨_, Lib.hid rfl⟩
        have HCL : Hid (C.length = 32) := Lib.hid (by rw [HC.out]; exact candV_length _ _ _ _)
        obtain ⟨er, Her⟩ : ∃ er, Hid (er = candErr X) := ⟨_, Lib.hid rfl⟩
        have HCA := Lib.hid (fun w' h1 h2 => Candidate_ref I Qn (.slice ta text.length tc) (.slice (some ⟨sb, so + 4, none⟩) n (sc - 4)) text X w' hIL HQ32.out h1 h2 htl (by rw [HXL.out]; omega))
        simp only [← HC.out, ← Her.out] at HCA
        obtain ⟨D, HD⟩ : ∃ D, Hid (D = hashN I (P + Qn) 33410 [C]) := ⟨_, Lib.hid rfl⟩
        have HDL : Hid (D.length = 32) := Lib.hid (by rw [HD.out]; exact sha_length _)
        have HLW := Lib.hid (fun w' => low_ref I (P + Qn) C w' hIL (by omega) HCL.out)
        simp only [← HD.out] at HLW
        obtain ⟨F, HF⟩ : ∃ F, Hid (F = climb I h (P + Qn) D Bs) := ⟨_, Lib.hid rfl⟩
        have HFL : Hid (F.length = 32) := Lib.hid (by rw [HF.out]; exact climb_length _ _ _ _ _ HDL.out)
        have HVF : Hid (verR p text s = F) := Lib.hid (by rw [HVR.out, HF.out, HD.out, HC.out, HXx.out, HBs.out, HPo.out])
        have HHA := Lib.hid (fun r x y w' h1 h2 h3 => high_ref I r x y w' hIL h1 h2 h3)
        have I16L : Hid ((Tryz.prog.info? 22).map (·.size) = some (B8 I).length) := Lib.hid (by rw [info_16]; simp [B8_length, hIL])
        have HQM : (Qn : Int) % 4294967296 = Qn := by have := HQ32.out; omega
        clear hq
        have hdq : decide (P ≤ Qn) = false := decide_eq_false (by omega)
        go_upto_region 10 with (go_at_call 50; refine (HLV.out _).mono ?_; rintro e wl ⟨rfl, hwl⟩; rw [hwl]; clear hwl)
        try simp only [Act.put, hdq]
        clear kh hdq g1
        have HR5 := Lib.hid (tree_ranges HT5.out HHIL.out).1
        have HTX5 := Lib.hid (HTW.out.later HB5.out)
        have HSX5 := Lib.hid (GX.out.later HB5.out)
        have HT5L : Hid (b < w5.heap.size) := Lib.hid (Array.getElem?_eq_some_iff.1 HT5.out).1
        refine Wild.region_v (fun j => match j with | 9 => some (.tuple #[.agg (B8 C).toArray, .int .i64 er]) | _ => none) 23 (Array.replicate 32 (.int .u8 0)) (B8 C).toArray 13 14 rfl rfl (by decide) (by decide) (by kernel_rfl) (by kernel_rfl) (fun vs hvs => ?_)
        have h9 : vs 9 = .tuple #[.agg (B8 C).toArray, .int .i64 er] := hvs 9 _ rfl
        refine Wild.walk_simple rfl (by rfl) (by rfl) (fun K hK => ?_); go_big_quiet_op; first | (refine hK _ ?_; clear hK K) | (refine ⟨_, fun _ _ => rfl, hK _ ?_⟩; clear hK K)
        refine Wild.walk_load 22 _ _ _ (B8 I) _ rfl (by rfl) rfl rfl (fun w' hw => rangeAt_blw HR5.out hw.1) Tryz.underlying22 rfl I16L.out ?_
        simp only [Act.put, List.setIfInBounds_toArray, List.set_cons_zero, List.set_cons_succ]
        refine Wild.walk_simple rfl (by rfl) (by rfl) (fun K hK => ?_); go_big_quiet_op; first | (refine hK _ ?_; clear hK K) | (refine ⟨_, fun _ _ => rfl, hK _ ?_⟩; clear hK K)
        refine Wild.walk_simple rfl (by rfl) (by rfl) (fun K hK => ?_); go_big_quiet_op; first | (refine hK _ ?_; clear hK K) | (refine ⟨_, fun _ _ => rfl, hK _ ?_⟩; clear hK K)
        try simp only [HQM]
        refine Wild.walk_simple rfl (by rfl) (by rfl) (fun K hK => ?_); go_big_quiet_op; first | (refine hK _ ?_; clear hK K) | (refine ⟨_, fun _ _ => rfl, hK _ ?_⟩; clear hK K)
        refine Wild.walk_simple rfl (by rfl) (by rfl) (fun K hK => ?_); go_big_quiet_op; first | (refine hK _ ?_; clear hK K) | (refine ⟨_, fun _ _ => rfl, hK _ ?_⟩; clear hK K)
        refine Wild.walk_simple rfl (by rfl) (by rfl) (fun K hK => ?_); go_big_quiet_op; first | (refine hK _ ?_; clear hK K) | (refine ⟨_, fun _ _ => rfl, hK _ ?_⟩; clear hK K)
        refine Wild.walk_simple rfl (by rfl) (by rfl) (fun K hK => ?_); go_big_quiet_op; first | (refine hK _ ?_; clear hK K) | (refine ⟨_, fun _ _ => rfl, hK _ ?_⟩; clear hK K)
        refine Wild.walk_simple rfl (by rfl) (by rfl) (fun K hK => ?_); go_big_quiet_op; first | (refine hK _ ?_; clear hK K) | (refine ⟨_, fun _ _ => rfl, hK _ ?_⟩; clear hK K)
        try simp only [Nat.add_sub_cancel_left]
        refine Wild.walk_wild _ rfl (by rfl) (fun w' hw K hK => ?_) ?_
        · go_simp
          go_at_call 51
          refine (HCA.out w' (HTX5.out.later hw.1) (HSX5.out.later hw.1)).mono ?_
          rintro e w'' ⟨rfl, hb⟩
          exact hK.out _ _ (hw.1.trans (hb.mono hw.1.size)) (Wild.G1.of_below hb) rfl trivial
        rw [h9]
        simp only [Act.put, List.setIfInBounds_toArray, List.set_cons_zero, List.set_cons_succ]
        refine Wild.walk_simple rfl (by rfl) (by rfl) (fun K hK => ?_); go_big_quiet_op; first | (refine hK _ ?_; clear hK K) | (refine ⟨_, fun _ _ => rfl, hK _ ?_⟩; clear hK K)
        refine Wild.walk_simple rfl (by rfl) (by rfl) (fun K hK => ?_); go_big_quiet_op; first | (refine hK _ ?_; clear hK K) | (refine ⟨_, fun _ _ => rfl, hK _ ?_⟩; clear hK K)
        refine Wild.walk_simple rfl (by rfl) (by rfl) (fun K hK => ?_); go_big_quiet_op; first | (refine hK _ ?_; clear hK K) | (refine ⟨_, fun _ _ => rfl, hK _ ?_⟩; clear hK K)
        refine Wild.walk_wild _ rfl (by rfl) (fun w' hw K hK => ?_) ?_
        · go_simp
          exact hK.out (.pointer (some ⟨w'.heap.size, 0, none⟩)) _ (hw.1.alloc hw.1.size _) (Wild.G1.of_below ((Below.refl _ _).alloc (Nat.le_refl _) _)) trivial ⟨w'.heap.size, rfl, hw.1.size, .inl (heap_alloc_new _ _)⟩
        simp only [Act.put, List.setIfInBounds_toArray, List.set_cons_zero, List.set_cons_succ]
        refine Wild.walk_wild _ rfl (by rfl) (fun w' hw K hK => ?_) ?_
        · have hf := Wild.spv_var (P := Tryz.prog) rfl hw rfl
          refine Wild.step_store (B := w5.heap.size) (v := vs 13) 23 _ _ rfl rfl rfl (arr32 HCL.out).1 (by simp [B8_length, HCL.out]) (B8_oneA C) hf (fun b h1 h2 h3 h4 => ?_)
          exact hK.out _ _ (below_row hw.1 h2 _) h3 trivial ⟨b, h1, h2, h4⟩
        simp only [Act.put]
        refine Wild.walk_simple rfl (by rfl) (by rfl) (fun K hK => ?_); go_big_quiet_op; first | (refine hK _ ?_; clear hK K) | (refine ⟨_, fun _ _ => rfl, hK _ ?_⟩; clear hK K)
        refine Wild.walk_nil ?_
        intro w6 hw6 hf6
        obtain ⟨cb, h1, h2, h3⟩ := hf6
        have h1' : vs (0 + 1 + 1 + 1 + 1 + 1 + 1 + 1 + 1 + 1 + 1 + 1 + 1 + 1) = .pointer (some ⟨cb, 0, none⟩) := h1
        rw [h1']
        have HC6 := Lib.hid h3
        have HB6 : Hid (Below w.heap.size w w6) := Lib.hid (HB5.out.trans (Below.mono hw6 HB5.out.size))
        have HT6 : Hid (w6.heap[b]? = some (.cells (TreeV I zero32 k h).toArray 31 (0, 0))) := Lib.hid ((Below.block hw6 _ HT5L.out).trans HT5.out)
        have HR6 := Lib.hid (tree_ranges HT6.out HHIL.out).1
        clear h1 h1' h2 h3 hw6 hvs h9 HTX5 HSX5 HR5
        have kh := tree_H HT6.out HHIL.out rfl
        have hpq : (P : Int) + (Qn : Int) = ((P + Qn : Nat) : Int) := rfl
        have HPQ := Lib.hid hpq
        clear hpq
        go_upto_region 13 with (first
          | (go_at_call 50; refine (HLV.out _).mono ?_; rintro e wl ⟨rfl, hwl⟩; rw [hwl]; clear hwl)
          | (refine wpList_load_mid rfl 22 _ rfl b 0 (by rfl) (B8 I) _ HR6.out Tryz.underlying22 rfl I16L.out ?_)
          | ((with_reducible refine at_load 23 _ rfl ?_); refine wpList_load_row rfl 23 _ rfl _ rfl _ (B8 C).toArray (0, 0) _ HC6.out Tryz.underlying23 rfl (arr32 HCL.out).1 ?_)
          | (go_at_call 52; rw [HPQ.out]; refine (HLW.out w6).mono ?_; rintro e w7 ⟨rfl, b7⟩; have HB7 := Lib.hid (HB6.out.trans (b7.mono HB6.out.size)); have HT7 := Lib.hid ((b7.block _ (Array.getElem?_eq_some_iff.1 HT6.out).1).trans HT6.out); clear b7)
          | ((with_reducible refine at_store 23 _ _ rfl ?_); refine wpList_store_new rfl 23 _ _ rfl (B8 D).toArray rfl rfl 23 _ (arr32 HDL.out).1 (arr32 HDL.out).2 (B8_oneA D) ?_))
        obtain ⟨W8, HW8, HB8, HX8, HT8⟩ : ∃ W, Hid (W = w7.alloc (.cells (B8 D).toArray 23)) ∧ Hid (Below w.heap.size w W) ∧ Hid (W.heap[w7.heap.size]? = some (.cells (B8 D).toArray 23 (0, 0))) ∧ Hid (W.heap[b]? = some (.cells (TreeV I zero32 k h).toArray 31 (0, 0))) := ⟨_, Lib.hid rfl, Lib.hid (HB7.out.alloc HB7.out.size _), Lib.hid (heap_alloc_new _ _), Lib.hid ((heap_alloc_old _ _ (Array.getElem?_eq_some_iff.1 HT7.out).1).trans HT7.out)⟩
        have HXB : Hid (b < w7.heap.size ∧ w.heap.size ≤ w7.heap.size) := Lib.hid ⟨(Array.getElem?_eq_some_iff.1 HT7.out).1, HB7.out.size⟩
        have HW8S : Hid (W8.heap.size = w7.heap.size + 1) := Lib.hid (by rw [HW8.out]; simp)
        rw [← HW8.out]
        generalize w7.heap.size = xb at *
        clear kh
        try simp only [Act.put]
        go_upto_region 14 with (fail)
        go_loopw [15, 17] (fun rv av wr => ∃ (j : Nat) (x' : List UInt8), j ≤ h ∧ rv = .int .i64 ((P + Qn) / 2 ^ j : Nat) ∧ av = .int .i64 (8 + n + 32 * j : Nat) ∧ Hid (x'.length = 32) ∧ Hid (wr.heap[xb]? = some (.cells (B8 x').toArray 23 (0, 0))) ∧ Hid (climb I (h - j) ((P + Qn) / 2 ^ j) x' (Bs.drop (32 * j)) = F) ∧ Hid (Below xb W8 wr)) (fun rv _ _ => (intOf rv).toNat)
        case atStart => exact ⟨0, D, by omega, by simp, by simp, HDL, HX8, Lib.hid (by simpa using HF.out.symm), Lib.hid (Below.refl _ _)⟩
        case round =>
          obtain ⟨j, x, hj, rfl, rfl, HXl, HXr, HFj, HBj⟩ := hrel
          obtain ⟨r, Hr⟩ : ∃ r, Hid (r = (P + Qn) / 2 ^ j) := ⟨_, Lib.hid rfl⟩
          have Hr2 : Hid (r / 2 = (P + Qn) / 2 ^ (j + 1)) := Lib.hid (by rw [Hr.out, div_two])
          rw [← Hr.out] at HFj ⊢
          have hrle : r ≤ P + Qn := by rw [Hr.out]; exact Nat.div_le_self _ _
          obtain ⟨a, Ha⟩ : ∃ a, Hid (a = 8 + n + 32 * j) := ⟨_, Lib.hid rfl⟩
          rw [← Ha.out]
          have HB0j : Hid (Below w.heap.size w wr) := Lib.hid (HB8.out.trans (HBj.out.mono HXB.out.2))
          by_cases hlt : j < h
          · have hge : 2 ≤ r := by
              rw [Hr.out, HPo.out, Nat.le_div_iff_mul_le (Nat.pow_pos (by decide))]
              have h8 : 2 * 2 ^ j ≤ 2 ^ h := by rw [Nat.mul_comm, ← Nat.pow_succ]; exact Nat.pow_le_pow_right (by decide) (by omega)
              omega
            have hgi : (1 : Int) < r := by omega
            obtain ⟨Y, HY⟩ : ∃ Y, Hid (Y = (Bs.drop (32 * j)).take 32) := ⟨_, Lib.hid rfl⟩
            have HYL : Hid (Y.length = 32) := Lib.hid (by rw [HY.out, List.length_take, List.length_drop, HBsL.out]; omega)
            have HYB : Hid (∀ i, i < 32 → Y.getD i 0 = s.getD (a + i) 0) := Lib.hid (fun i hi => by
              rw [HY.out, HBs.out, Ha.out]
              simp only [List.getD_eq_getElem?_getD, List.getElem?_take, List.getElem?_drop]
              rw [if_pos hi, show n + 8 + (32 * j + i) = 8 + n + 32 * j + i by omega])
            have haL : a + 32 ≤ Ls := by rw [Ha.out, HLEN.out]; omega
            have hLs6 : (Ls : Int) ≤ 1000000 := by rw [HLS.out]; omega
            have ha6 : (a : Int) ≤ 1000000 := by omega
            have haS : a + 32 ≤ s.length := by rw [← HLS.out]; exact haL
            have HAS := Lib.hid haS
            obtain ⟨d, hd⟩ : ∃ d, h - j = d + 1 := ⟨h - j - 1, by omega⟩
            have HFD : Hid (climb I d (r / 2) (hashN I (r / 2) 33667 (if r % 2 = 0 then [x, Y] else [Y, x])) (Bs.drop (32 * (j + 1))) = F) := Lib.hid (by
              rw [← HFj.out, hd, climb, HY.out, List.drop_drop, show 32 * j + 32 = 32 * (j + 1) by omega])
            have HDD : Hid (h - (j + 1) = d) := Lib.hid (by omega)
            have HJ1 : Hid (j + 1 ≤ h) := Lib.hid hlt
            obtain ⟨Z, HZ⟩ : ∃ Z, Hid (Z = (B8 zero32).toArray) := ⟨_, Lib.hid rfl⟩
            have HZB : Hid (∀ w, (Instr.build 23 #[]).run Tryz.prog w = .ok (.agg Z) w) := Lib.hid (by rw [HZ.out]; exact fun w => by kernel_rfl)
            have HZI : Hid ((Tryz.prog.info? 23).map (·.size) = some Z.size) := Lib.hid (by rw [HZ.out, info_32]; rfl)
            have HZO : Hid (Z.all (·.oneCell') = true) := Lib.hid (by rw [HZ.out]; exact B8_oneA _)
            have HZS : Hid (Z.size = 32) := Lib.hid (by rw [HZ.out]; rfl)
            obtain ⟨yb, Hyb⟩ : ∃ b, Hid (b = wr.heap.size) := ⟨_, Lib.hid rfl⟩
            obtain ⟨V, HV, HVB, HVA⟩ : ∃ V, Hid (V = wr.alloc (.cells Z 23)) ∧ Hid (Below wr.heap.size wr V) ∧ Hid (Arr8 V yb 23 (Y.take 0 ++ List.replicate (32 - 0) 0)) :=
              ⟨_, Lib.hid rfl, Lib.hid ((Below.refl _ _).alloc (Nat.le_refl _) _), Lib.hid (by unfold Arr8; rw [HZ.out, Hyb.out]; exact heap_alloc_new _ _)⟩
            have HYX : Hid (xb < yb ∧ w.heap.size ≤ yb ∧ b < xb) := Lib.hid ⟨by rw [Hyb.out]; exact (Array.getElem?_eq_some_iff.1 HXr.out).1, by rw [Hyb.out]; exact HB0j.out.size, HXB.out.1⟩
            have HVF : Hid (∀ wy, Below yb V wy → Hid (Below wr.heap.size wr wy) ∧ Hid (Below w.heap.size w wy) ∧ Hid (Below xb W8 wy) ∧ Hid (wy.heap[xb]? = some (.cells (B8 x).toArray 23 (0, 0))) ∧ Hid (wy.heap[b]? = some (.cells (TreeV I zero32 k h).toArray 31 (0, 0)))) := Lib.hid (fun wy hb => by
              have h1 : Below wr.heap.size wr wy := HVB.out.trans (by rw [← Hyb.out]; exact hb)
              have h2 : Below xb W8 wy := HBj.out.trans (h1.mono (by rw [← Hyb.out]; exact Nat.le_of_lt HYX.out.1))
              exact ⟨Lib.hid h1, Lib.hid (HB0j.out.trans (h1.mono HB0j.out.size)), Lib.hid h2, Lib.hid ((h1.block _ (Array.getElem?_eq_some_iff.1 HXr.out).1).trans HXr.out), Lib.hid ((h2.block _ HYX.out.2.2).trans HT8.out)⟩)
            clear haS hd hj
            go_upto_region 17 with (first
              | refine wpList_build0 rfl 23 rfl (.agg Z) HZB.out ?_
              | refine wpList_store_new rfl 23 _ _ rfl Z rfl rfl 23 _ HZI.out (by rw [HZS.out]; rfl) HZO.out ?_)
            rw [← HV.out, ← Hyb.out]
            try simp only [Act.put]
            go_wp2_with fail
            go_loopw [19] (fun i wy => ∃ m : Nat, m ≤ 32 ∧ i = .int .i64 m ∧ Hid (Arr8 wy yb 23 (Y.take m ++ List.replicate (32 - m) 0)) ∧ Hid (Below yb V wy)) (fun i _ => 33 - (intOf i).toNat)
            case atStart => exact ⟨0, by omega, rfl, HVA, Lib.hid (Below.refl _ _)⟩
            case round =>
              obtain ⟨m, hm, rfl, HA, HBy⟩ := hrel
              obtain ⟨HBr, HBw, HBx, HXy, HTy⟩ := HVF.out _ HBy.out
              by_cases hm2 : m < 32
              · have hm2' : (m : Int) < 32 := by omega
                have ham : (a : Int) + m < Ls := by omega
                have hsc : wr.cell? ⟨sb, so + (a + m), none⟩ = some (.int .u8 (bn (Y.getD m 0))) := by
                  have h1 : a + m < s.length := by have := HAS.out; omega
                  rw [HBw.out.cell (World.block_lt_of_cell? _ _ (HCS.out _ h1)), HCS.out _ h1, HYB.out m hm2]
                have hcell := HA.out.cell (i := m) (by have := HYL.out; simp; omega)
                have hfz := HA.out.frozen m
                generalize (Y.take m ++ List.replicate (32 - m) 0).getD m 0 = old at hcell
                obtain ⟨xj, Hxj⟩ : ∃ xj, Hid (xj = Y.getD m 0) := ⟨_, Lib.hid rfl⟩
                rw [← Hxj.out] at hsc
                have HSF : Hid ((Y.take m ++ List.replicate (32 - m) 0).set m (Y.getD m 0) = Y.take (m + 1) ++ List.replicate (32 - (m + 1)) 0) := Lib.hid (by
                  rw [set_fill8 (Y.take m) 32 m (Y.getD m 0) (by rw [List.length_take, HYL.out]; omega) (by omega), take_snoc8 Y m (by rw [HYL.out]; omega)])
                rw [← Hxj.out] at HSF
                go_wp2_with fail
                exact ⟨⟨m + 1, by omega, by go_num, Lib.hid (by rw [← HSF.out]; exact HA.out.set m xj), Lib.hid (HBy.out.setCell (Nat.le_refl _) _)⟩, by simp [intOf]; omega⟩
              · obtain rfl : m = 32 := by omega
                rw [show ((32 : Nat) : Int) = 32 from rfl]
                have HYy : Hid (wr.heap[yb]? = some (.cells (B8 Y).toArray 23 (0, 0))) := Lib.hid (by
                  have h := HA.out
                  rw [List.take_of_length_le (by rw [HYL.out]; omega)] at h
                  have h' : Arr8 wr yb 23 Y := by simpa using h
                  exact h')
                have HRy := Lib.hid (tree_ranges HTy.out HHIL.out).1
                have HEND : Hid (∀ (R' : List UInt8) (w9 : World), Below wr.heap.size wr w9 → Hid (w9.heap[xb]? = some (.cells (B8 x).toArray 23 (0, 0))) ∧ Hid (Below xb W8 (w9.setRow xb (B8 R').toArray))) := Lib.hid (fun R' w9 hb => ⟨Lib.hid ((hb.block _ (Array.getElem?_eq_some_iff.1 HXy.out).1).trans HXy.out), Lib.hid (below_row (HBx.out.trans (hb.mono (Nat.le_of_lt (Array.getElem?_eq_some_iff.1 HXy.out).1))) (Nat.le_refl _) _)⟩)
                have HHr : Hid (r / 2 < 4294967296) := Lib.hid (by omega)
                by_cases hpar : r % 2 = 0
                · obtain ⟨N, HN⟩ : ∃ N, Hid (N = hashN I (r / 2) 33667 [x, Y]) := ⟨_, Lib.hid rfl⟩
                  have HNL : Hid (N.length = 32) := Lib.hid (by rw [HN.out]; exact sha_length _)
                  have HF2 : Hid (climb I d (r / 2) N (Bs.drop (32 * (j + 1))) = F) := Lib.hid (by rw [← HFD.out, if_pos hpar, HN.out])
                  have HH1 := Lib.hid (fun w' => HHA.out (r / 2) x Y w' HHr.out HXl.out HYL.out)
                  simp only [← HN.out] at HH1
                  have hpi : (r : Int) % 2 = 0 := by omega
                  clear hpar hm2 hm
                  go_wp2_with (first
                    | (refine wpList_load_mid rfl 22 _ rfl b 0 (by rfl) (B8 I) _ HRy.out Tryz.underlying22 rfl I16L.out ?_)
                    | ((with_reducible refine at_load 23 _ rfl ?_); first | refine wpList_load_row rfl 23 _ rfl xb rfl _ (B8 x).toArray (0, 0) _ HXy.out Tryz.underlying23 rfl (arr32 HXl.out).1 ?_ | refine wpList_load_row rfl 23 _ rfl yb rfl _ (B8 Y).toArray (0, 0) _ HYy.out Tryz.underlying23 rfl (arr32 HYL.out).1 ?_)
                    | (go_at_call 53; refine (HH1.out wr).mono ?_; rintro e w9 ⟨rfl, b9⟩; obtain ⟨HX9, HB9⟩ := HEND.out N w9 b9; have HN9 := Lib.hid (setRow_heap w9 xb _ (B8 N).toArray _ _ HX9.out); clear b9)
                    | ((with_reducible refine at_store 23 _ _ rfl ?_); refine wpList_store_row rfl 23 _ _ rfl _ (B8 N).toArray rfl rfl 23 _ HX9.out (arr32 HNL.out).1 (by simp [B8_length, HNL.out, HXl.out]) (B8_oneA N) ?_; generalize w9.setRow xb (B8 N).toArray = wA at *))
                  go_roundw
                  case rel => exact ⟨j + 1, N, HJ1.out, by rw [← Hr2.out]; go_num, by rw [show 8 + n + 32 * (j + 1) = a + 32 by rw [Ha.out]; omega]; go_num, HNL, HN9, Lib.hid (by rw [HDD.out, ← Hr2.out]; exact HF2.out), HB9⟩
                  case measure => simp [intOf]; omega
                · obtain ⟨N, HN⟩ : ∃ N, Hid (N = hashN I (r / 2) 33667 [Y, x]) := ⟨_, Lib.hid rfl⟩
                  have HNL : Hid (N.length = 32) := Lib.hid (by rw [HN.out]; exact sha_length _)
                  have HF2 : Hid (climb I d (r / 2) N (Bs.drop (32 * (j + 1))) = F) := Lib.hid (by rw [← HFD.out, if_neg hpar, HN.out])
                  have HH1 := Lib.hid (fun w' => HHA.out (r / 2) Y x w' HHr.out HYL.out HXl.out)
                  simp only [← HN.out] at HH1
                  have hpi : (r : Int) % 2 = 1 := by omega
                  clear hpar hm2 hm
                  go_wp2_with (first
                    | (refine wpList_load_mid rfl 22 _ rfl b 0 (by rfl) (B8 I) _ HRy.out Tryz.underlying22 rfl I16L.out ?_)
                    | ((with_reducible refine at_load 23 _ rfl ?_); first | refine wpList_load_row rfl 23 _ rfl xb rfl _ (B8 x).toArray (0, 0) _ HXy.out Tryz.underlying23 rfl (arr32 HXl.out).1 ?_ | refine wpList_load_row rfl 23 _ rfl yb rfl _ (B8 Y).toArray (0, 0) _ HYy.out Tryz.underlying23 rfl (arr32 HYL.out).1 ?_)
                    | (go_at_call 53; refine (HH1.out wr).mono ?_; rintro e w9 ⟨rfl, b9⟩; obtain ⟨HX9, HB9⟩ := HEND.out N w9 b9; have HN9 := Lib.hid (setRow_heap w9 xb _ (B8 N).toArray _ _ HX9.out); clear b9)
                    | ((with_reducible refine at_store 23 _ _ rfl ?_); refine wpList_store_row rfl 23 _ _ rfl _ (B8 N).toArray rfl rfl 23 _ HX9.out (arr32 HNL.out).1 (by simp [B8_length, HNL.out, HXl.out]) (B8_oneA N) ?_; generalize w9.setRow xb (B8 N).toArray = wA at *))
                  go_roundw
                  case rel => exact ⟨j + 1, N, HJ1.out, by rw [← Hr2.out]; go_num, by rw [show 8 + n + 32 * (j + 1) = a + 32 by rw [Ha.out]; omega]; go_num, HNL, HN9, Lib.hid (by rw [HDD.out, ← Hr2.out]; exact HF2.out), HB9⟩
                  case measure => simp [intOf]; omega
          · obtain rfl : j = h := by omega
            have hr1 : r = 1 := by
              rw [Hr.out, ← HPo.out]
              exact div_one_ofR P Qn hQP
            subst hr1
            rw [Nat.sub_self, climb] at HFj
            have HFr : Hid (wr.heap[xb]? = some (.cells (B8 F).toArray 23 (0, 0))) := Lib.hid (by rw [← HFj.out]; exact HXr.out)
            have GP9 := Lib.hid (GPr.out.later HB0j.out)
            have HRV : Hid (R = if F = Pr then 0 else 16) := Lib.hid (by rw [HVT2.out, HVF.out, HPr.out])
            have HS9 : Hid (Sl wr (.slice (some ⟨xb, 0, none⟩) 32 32) F) := Lib.hid (Sl.ofBlock HFr.out HFL.out.symm (Nat.le_refl _) (by simp [maxLen]) fun i hi => by rw [Nat.zero_add, List.getElem?_toArray])
            cases hfp : (F == Pr)
            · have HV3 : Hid (R = 16) := Lib.hid (by rw [HRV.out, if_neg (by simpa using hfp)])
              have hfb : (F != Pr) = true := by simp [bne, hfp]
              go_upto_region 25 with (fail)
              try simp only [Act.put]
              refine Wild.region_b (fun _ => none) (fun _ => []) rfl (by kernel_rfl) (fun vs hvs => ?_)
              refine Wild.walk_simple rfl (by rfl) (by rfl) (fun K hK => ?_); go_big_quiet_op; first | (refine hK _ ?_; clear hK K) | (refine ⟨_, fun _ _ => rfl, hK _ ?_⟩; clear hK K)
              refine Wild.walk_run (.string ⟨F.toArray⟩) rfl (by rfl) (fun w' hw => ?_) ?_
              · have h : Sl w' (.slice (some ⟨xb, 0, none⟩) 32 32) F := HS9.out.later hw.1
                have := h.conv
                go_simp
              simp only [Act.put, List.setIfInBounds_toArray, List.set_cons_zero, List.set_cons_succ]
              refine Wild.walk_simple rfl (by rfl) (by rfl) (fun K hK => ?_); go_big_quiet_op; first | (refine hK _ ?_; clear hK K) | (refine ⟨_, fun _ _ => rfl, hK _ ?_⟩; clear hK K)
              refine Wild.walk_simple rfl (by rfl) (by rfl) (fun K hK => ?_); go_big_quiet_op; first | (refine hK _ ?_; clear hK K) | (refine ⟨_, fun _ _ => rfl, hK _ ?_⟩; clear hK K)
              refine Wild.walk_run (.string ⟨Pr.toArray⟩) rfl (by rfl) (fun w' hw => ?_) ?_
              · have h : Sl w' (.slice (some ⟨pb, po + 24, none⟩) 32 (pc - 24)) Pr := GP9.out.later hw.1
                have := h.conv
                go_simp
              simp only [Act.put, List.setIfInBounds_toArray, List.set_cons_zero, List.set_cons_succ]
              refine Wild.walk_simple rfl (by rfl) (by rfl) (fun K hK => ?_); go_big_quiet_op; first | (refine hK _ ?_; clear hK K) | (refine ⟨_, fun _ _ => rfl, hK _ ?_⟩; clear hK K)
              refine Wild.walk_nil ?_
              intro w9 hw9 _
              have HB9 : Hid (Below w.heap.size w w9) := Lib.hid (HB0j.out.trans (Below.mono hw9 HB0j.out.size))
              clear hw9 hvs
              go_wp2_with fail
              go_ret
              exact ⟨by rw [HV3.out]; rfl, HB9.out⟩
            · have HV3 : Hid (R = 0) := Lib.hid (by rw [HRV.out, if_pos (by simpa using hfp)])
              have hfb : (F != Pr) = false := by simp [bne, hfp]
              go_upto_region 25 with (fail)
              try simp only [Act.put]
              refine Wild.region_b (fun _ => none) (fun _ => []) rfl (by kernel_rfl) (fun vs hvs => ?_)
              refine Wild.walk_simple rfl (by rfl) (by rfl) (fun K hK => ?_); go_big_quiet_op; first | (refine hK _ ?_; clear hK K) | (refine ⟨_, fun _ _ => rfl, hK _ ?_⟩; clear hK K)
              refine Wild.walk_run (.string ⟨F.toArray⟩) rfl (by rfl) (fun w' hw => ?_) ?_
              · have h : Sl w' (.slice (some ⟨xb, 0, none⟩) 32 32) F := HS9.out.later hw.1
                have := h.conv
                go_simp
              simp only [Act.put, List.setIfInBounds_toArray, List.set_cons_zero, List.set_cons_succ]
              refine Wild.walk_simple rfl (by rfl) (by rfl) (fun K hK => ?_); go_big_quiet_op; first | (refine hK _ ?_; clear hK K) | (refine ⟨_, fun _ _ => rfl, hK _ ?_⟩; clear hK K)
              refine Wild.walk_simple rfl (by rfl) (by rfl) (fun K hK => ?_); go_big_quiet_op; first | (refine hK _ ?_; clear hK K) | (refine ⟨_, fun _ _ => rfl, hK _ ?_⟩; clear hK K)
              refine Wild.walk_run (.string ⟨Pr.toArray⟩) rfl (by rfl) (fun w' hw => ?_) ?_
              · have h : Sl w' (.slice (some ⟨pb, po + 24, none⟩) 32 (pc - 24)) Pr := GP9.out.later hw.1
                have := h.conv
                go_simp
              simp only [Act.put, List.setIfInBounds_toArray, List.set_cons_zero, List.set_cons_succ]
              refine Wild.walk_simple rfl (by rfl) (by rfl) (fun K hK => ?_); go_big_quiet_op; first | (refine hK _ ?_; clear hK K) | (refine ⟨_, fun _ _ => rfl, hK _ ?_⟩; clear hK K)
              refine Wild.walk_nil ?_
              intro w9 hw9 _
              have HB9 : Hid (Below w.heap.size w w9) := Lib.hid (HB0j.out.trans (Below.mono hw9 HB0j.out.size))
              clear hw9 hvs
              go_wp2_with fail
              go_ret
              exact ⟨by rw [HV3.out]; rfl, HB9.out⟩
  · have HV3 : Hid (R = 3) := Lib.hid (by rw [HVV.out, HVO.out, decide_eq_false (by rw [← hLs]; exact hlen)]; rfl)
    have hlb : ((Ls : Int) != 4 + (n : Int) + 4 + 32 * (h : Int)) = true := by
      have : (Ls : Int) ≠ 4 + (n : Int) + 4 + 32 * (h : Int) := by omega
      simpa using this
    have hlne : ¬ (Ls : Int) = 4 + (n : Int) + 4 + 32 * (h : Int) := by omega
    clear hlen hLs
    go_enter Tryz.func24, Tryz.ntmps24
    go_upto_region 2 with (first
      | (go_at_call 47; refine HOP.out.mono ?_; rintro e w1 ⟨rfl, b1⟩; have HB1 := Lib.hid b1; clear b1)
      | ((with_reducible refine at_store 31 _ _ rfl ?_); refine wpList_store_new rfl 31 _ _ rfl T rfl rfl 31 _ HTI.out (by rw [HTS.out]; rfl) HTO.out ?_))
    obtain ⟨W2, HW2, HB2, HT2⟩ := key.out w1 HB1.out
    rw [← HW2.out]
    generalize w1.heap.size = b at *
    have HT2L : Hid (b < W2.heap.size) := Lib.hid (Array.getElem?_eq_some_iff.1 HT2.out).1
    have kw := tree_W HT2.out hIL rfl
    go_upto_region 5 with (go_at_call 48; refine (HLN.out W2).mono ?_; rintro e w3 ⟨rfl, b3⟩; have HB3 := Lib.hid (HB2.out.trans (b3.mono HB2.out.size)); have HB23 := Lib.hid b3; clear b3)
    clear kw
    try simp only [Act.put]
    refine Wild.region_b (fun _ => none) (fun _ => []) rfl (by kernel_rfl) (fun vs hvs => ?_)
    refine Wild.walk_simple rfl (by rfl) (by rfl) (fun K hK => ?_); go_big_quiet_op; first | (refine hK _ ?_; clear hK K) | (refine ⟨_, fun _ _ => rfl, hK _ ?_⟩; clear hK K)
    refine Wild.walk_run (.int .i64 Ls) rfl (by rfl) (fun w' _ => by unfold execOp; go_simp) ?_
    simp only [Act.put, List.setIfInBounds_toArray, List.set_cons_zero, List.set_cons_succ]
    refine Wild.walk_simple rfl (by rfl) (by rfl) (fun K hK => ?_); go_big_quiet_op; first | (refine hK _ ?_; clear hK K) | (refine ⟨_, fun _ _ => rfl, hK _ ?_⟩; clear hK K)
    refine Wild.walk_simple rfl (by rfl) (by rfl) (fun K hK => ?_); go_big_quiet_op; first | (refine hK _ ?_; clear hK K) | (refine ⟨_, fun _ _ => rfl, hK _ ?_⟩; clear hK K)
    refine Wild.walk_simple rfl (by rfl) (by rfl) (fun K hK => ?_); go_big_quiet_op; first | (refine hK _ ?_; clear hK K) | (refine ⟨_, fun _ _ => rfl, hK _ ?_⟩; clear hK K)
    refine Wild.walk_simple rfl (by rfl) (by rfl) (fun K hK => ?_); go_big_quiet_op; first | (refine hK _ ?_; clear hK K) | (refine ⟨_, fun _ _ => rfl, hK _ ?_⟩; clear hK K)
    refine Wild.walk_cell 3 _ _ _ (.int .i64 h) _ rfl (by rfl) rfl rfl (fun w' hw => tree_H (((HB23.out.trans (Below.mono hw.1 HB23.out.size)).block _ HT2L.out).trans HT2.out) HHIL.out rfl) Tryz.underlying3 rfl ?_
    simp only [Act.put, List.setIfInBounds_toArray, List.set_cons_zero, List.set_cons_succ]
    refine Wild.walk_simple rfl (by rfl) (by rfl) (fun K hK => ?_); go_big_quiet_op; first | (refine hK _ ?_; clear hK K) | (refine ⟨_, fun _ _ => rfl, hK _ ?_⟩; clear hK K)
    refine Wild.walk_simple rfl (by rfl) (by rfl) (fun K hK => ?_); go_big_quiet_op; first | (refine hK _ ?_; clear hK K) | (refine ⟨_, fun _ _ => rfl, hK _ ?_⟩; clear hK K)
    refine Wild.walk_simple rfl (by rfl) (by rfl) (fun K hK => ?_); go_big_quiet_op; first | (refine hK _ ?_; clear hK K) | (refine ⟨_, fun _ _ => rfl, hK _ ?_⟩; clear hK K)
    try simp only [hlb]
    refine Wild.walk_simple rfl (by rfl) (by rfl) (fun K hK => ?_); go_big_quiet_op; first | (refine hK _ ?_; clear hK K) | (refine ⟨_, fun _ _ => rfl, hK _ ?_⟩; clear hK K)
    refine Wild.walk_skip rfl (by rfl) ?_
    simp only [Act.put, List.setIfInBounds_toArray, List.set_cons_zero, List.set_cons_succ]
    refine Wild.walk_skip rfl (by rfl) ?_
    simp only [Act.put, List.setIfInBounds_toArray, List.set_cons_zero, List.set_cons_succ]
    refine Wild.walk_skip rfl (by rfl) ?_
    simp only [Act.put, List.setIfInBounds_toArray, List.set_cons_zero, List.set_cons_succ]
    refine Wild.walk_skip rfl (by rfl) ?_
    simp only [Act.put, List.setIfInBounds_toArray, List.set_cons_zero, List.set_cons_succ]
    refine Wild.walk_skip rfl (by rfl) ?_
    simp only [Act.put, List.setIfInBounds_toArray, List.set_cons_zero, List.set_cons_succ]
    refine Wild.walk_skip rfl (by rfl) ?_
    simp only [Act.put, List.setIfInBounds_toArray, List.set_cons_zero, List.set_cons_succ]
    refine Wild.walk_skip rfl (by rfl) ?_
    simp only [Act.put, List.setIfInBounds_toArray, List.set_cons_zero, List.set_cons_succ]
    refine Wild.walk_simple rfl (by rfl) (by rfl) (fun K hK => ?_); go_big_quiet_op; first | (refine hK _ ?_; clear hK K) | (refine ⟨_, fun _ _ => rfl, hK _ ?_⟩; clear hK K)
    refine Wild.walk_simple rfl (by rfl) (by rfl) (fun K hK => ?_); go_big_quiet_op; first | (refine hK _ ?_; clear hK K) | (refine ⟨_, fun _ _ => rfl, hK _ ?_⟩; clear hK K)
    refine Wild.walk_skip rfl (by rfl) ?_
    simp only [Act.put, List.setIfInBounds_toArray, List.set_cons_zero, List.set_cons_succ]
    refine Wild.walk_skip rfl (by rfl) ?_
    simp only [Act.put, List.setIfInBounds_toArray, List.set_cons_zero, List.set_cons_succ]
    refine Wild.walk_skip rfl (by rfl) ?_
    simp only [Act.put, List.setIfInBounds_toArray, List.set_cons_zero, List.set_cons_succ]
    refine Wild.walk_skip rfl (by rfl) ?_
    simp only [Act.put, List.setIfInBounds_toArray, List.set_cons_zero, List.set_cons_succ]
    refine Wild.walk_skip rfl (by rfl) ?_
    simp only [Act.put, List.setIfInBounds_toArray, List.set_cons_zero, List.set_cons_succ]
    refine Wild.walk_skip rfl (by rfl) ?_
    simp only [Act.put, List.setIfInBounds_toArray, List.set_cons_zero, List.set_cons_succ]
    try simp only [show 8 + n - (4 + n) = 4 by omega]
    refine Wild.walk_skip rfl (by rfl) ?_
    simp only [Act.put, List.setIfInBounds_toArray, List.set_cons_zero, List.set_cons_succ]
    refine Wild.walk_skip rfl (by rfl) ?_
    simp only [Act.put, List.setIfInBounds_toArray, List.set_cons_zero, List.set_cons_succ]
    refine Wild.walk_skip rfl (by rfl) ?_
    simp only [Act.put, List.setIfInBounds_toArray, List.set_cons_zero, List.set_cons_succ]
    refine Wild.walk_skip rfl (by rfl) ?_
    simp only [Act.put, List.setIfInBounds_toArray, List.set_cons_zero, List.set_cons_succ]
    refine Wild.walk_skip rfl (by rfl) ?_
    simp only [Act.put, List.setIfInBounds_toArray, List.set_cons_zero, List.set_cons_succ]
    refine Wild.walk_simple rfl (by rfl) (by rfl) (fun K hK => ?_); go_big_quiet_op; first | (refine hK _ ?_; clear hK K) | (refine ⟨_, fun _ _ => rfl, hK _ ?_⟩; clear hK K)
    refine Wild.walk_nil ?_
    intro w4 hw4 _
    have HB4 : Hid (Below w.heap.size w w4) := Lib.hid (HB3.out.trans (Below.mono hw4 HB3.out.size))
    have HB24 : Hid (Below W2.heap.size W2 w4) := Lib.hid (HB23.out.trans (Below.mono hw4 HB23.out.size))
    clear hw4 hvs
    go_wp2_with fail
    go_ret
    exact ⟨by rw [HV3.out]; rfl, HB4.out⟩
theorem Verify_ref5 (pv tv sv : Value) (p text s : List UInt8) (w : World) (hp : Sl w pv p) (ht : Sl w tv text) (hs : Sl w sv s) (htl : text.length ≤ 1000000) (hsl : s.length ≤ 1000000) :
    Calls Tryz.prog 24 #[pv, tv, sv] w fun e w' => e = .returned (.int .i64 (verV p text s)) ∧ Below w.heap.size w w' := by
  cases hok : openOk p
  · have e : verV p text s = 3 := by rw [verV, verOk, hok]; rfl
    rw [e]
    exact Verify_closedR pv tv sv p text s w hp ht hs hok
  · exact Verify_mainR pv tv sv p text s w hp ht hs htl hsl hok
end Go.Proofs.YtcnelahmbfggcaaGreat


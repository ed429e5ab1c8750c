/- The walks of the document's Knot and Public (chapter 05). -/
import Derived.Test.YtabdbdnhbiopaaaG14
import Derived.Test.YtabdbdnhbiopaaaG11
import Derived.Test.YtabdbdnhbiopaaaG12
import Derived.Test.YtabdbdnhbiopaaaG6
namespace Go.Proofs.Ytabdbdnhbiopaaa
open Go Go.RowKit
set_option maxRecDepth 100000
set_option maxHeartbeats 1000000

theorem Knot_ref5 (I S : List UInt8) (k h r : Int) (w : World) (hI : I.length = 16) (hS : S.length = 32) :
    Calls Try.prog 21 #[.agg (TreeV I S k h).toArray, .int .i64 r] w fun e w' => e = .returned (.tuple #[.agg (B8 (if knotOk k h r then knotV I S k h.toNat r.toNat else zero32)).toArray, .int .i64 (if knotOk k h r then 0 else 1)]) ∧ Below w.heap.size w w' := by
  obtain ⟨W0, HW0, HB0, HS0, HR0⟩ : ∃ V, Hid (V = w.alloc (.cells (TreeV I S k h).toArray 33)) ∧ Hid (Below w.heap.size w V) ∧ Hid (V.heap.size = w.heap.size + 1) ∧ Hid (V.heap[w.heap.size]? = some (.cells (TreeV I S k h).toArray 33 (0, 0))) := ⟨_, Lib.hid rfl, Lib.hid ((Below.refl _ _).alloc (Nat.le_refl _) _), Lib.hid (by simp), Lib.hid (heap_alloc_new _ _)⟩
  obtain ⟨V, HV, HB, HS2, HR, HZ⟩ : ∃ V, Hid (V = W0.alloc (.cells (Array.replicate 32 (.int .u8 0)) 23)) ∧ Hid (Below w.heap.size w V) ∧ Hid (V.heap.size = w.heap.size + 2) ∧ Hid (V.heap[w.heap.size]? = some (.cells (TreeV I S k h).toArray 33 (0, 0))) ∧ Hid (V.heap[w.heap.size + 1]? = some (.cells (Array.replicate 32 (.int .u8 0)) 23 (0, 0))) :=
    ⟨_, Lib.hid rfl, Lib.hid (HB0.out.alloc HB0.out.size _), Lib.hid (by simp [HS0.out]), Lib.hid ((heap_alloc_old _ _ (by rw [HS0.out]; omega)).trans HR0.out), Lib.hid (by rw [← HS0.out]; exact heap_alloc_new _ _)⟩
  have IT : Hid ((Try.prog.info? 33).map (·.size) = some (TreeV I S k h).toArray.size) := Lib.hid (by rw [info_treeR, List.size_toArray, TreeV_length _ _ _ _ hI hS])
  have HMA := Lib.hid (may_ref5 I S k h V hI hS)
  have HHI := Lib.hid hI
  have HHS := Lib.hid hS
  by_cases hok : knotOk k h r = true
  · rw [if_pos hok, if_pos hok]
    simp only [knotOk, Bool.and_eq_true, decide_eq_true_eq] at hok
    obtain ⟨hm, g1, g2⟩ := hok
    obtain ⟨h1, h2, h3⟩ := (mayT_iff k h).1 hm
    rw [hm] at HMA
    obtain ⟨H, rfl⟩ : ∃ H : Nat, h = H := ⟨h.toNat, by omega⟩
    obtain ⟨R, rfl⟩ : ∃ R : Nat, r = R := ⟨r.toNat, by omega⟩
    rw [Int.toNat_natCast] at g2
    rw [Int.toNat_natCast, Int.toNat_natCast]
    have hH : H ≤ 5 := by omega
    obtain ⟨p5, p1⟩ := pow5 H hH
    obtain ⟨P, HP⟩ : ∃ P, Hid (P = 2 ^ H) := ⟨_, Lib.hid rfl⟩
    have hg2 : R < 2 ^ (H + 1) := by omega
    have hg3 : 2 ^ (H + 1) = 2 * P := by rw [HP.out, Nat.pow_succ]; omega
    rw [← HP.out] at p5 p1
    have HLV := Lib.hid (fun w' => leaves_ref H w' hH)
    rw [← HP.out] at HLV
    have hR2 : R < 2 * P := by omega
    have hR2i : (R : Int) < 2 * (P : Int) := by omega
    have hR1 : 1 ≤ R := by omega
    have hR1i : (1 : Int) ≤ R := by omega
    have HSU := Lib.hid (fun w' => knot_ref I S k H hI hS hH R w' hR1 hg2)
    obtain ⟨X, HX⟩ : ∃ X, Hid (X = knotV I S k H R) := ⟨_, Lib.hid rfl⟩
    have HXL : Hid (X.length = 32) := Lib.hid (by rw [HX.out]; exact knotV_length _ _ _ _ _)
    simp only [← HX.out] at HSU
    rw [← HX.out]
    clear hm h1 hI hS HX g1 g2 hg2 hg3
    go_enter Try.func21, Try.ntmps21
    go_upto_region 1 with (fail)
    rw [← HW0.out]
    change Code.wp _ _ _ _ (W0.alloc (.cells (Array.replicate 32 (.int .u8 0)) 23))
    rw [← HV.out]
    go_wp2_with (first
      | ((with_reducible refine at_load 33 _ rfl ?_); first | refine wpList_load_row rfl 33 _ rfl _ rfl _ (TreeV I S k H).toArray (0, 0) _ HR.out Try.underlying33 rfl IT.out ?_ | refine wpList_load_row rfl 33 _ rfl _ rfl _ (TreeV I S k H).toArray (0, 0) _ HR1.out Try.underlying33 rfl IT.out ?_)
      | (go_at_call 31; refine HMA.out.mono ?_; rintro e w1 ⟨rfl, b1⟩; have HB1 := Lib.hid b1; have HR1 := Lib.hid ((b1.block _ (Array.getElem?_eq_some_iff.1 HR.out).1).trans HR.out); have kh := tree_H HR1.out HHI.out HHS.out; clear b1)
      | (go_at_call 32; refine (HLV.out _).mono ?_; rintro e wl ⟨rfl, hwl⟩; rw [hwl]; clear hwl)
      | (go_at_call 37; refine (HSU.out w1).mono ?_; rintro e w3 ⟨rfl, b3⟩; have HB3 := Lib.hid (HB1.out.trans (b3.mono HB1.out.size)); have h5 := hash_store (w := W0) X HXL.out (by rw [← HV.out]; have := HB3.out; rwa [show V.heap.size = W0.heap.size + 1 by rw [HS2.out, HS0.out]] at this); rw [HS0.out] at h5; obtain ⟨h1, h2, h3, h4, h5, h6⟩ := h5; have K1 := Lib.hid h1; have K2 := Lib.hid h2; have K3 := Lib.hid h3; have K4 := Lib.hid h4; have K5 := Lib.hid (HB0.out.trans (h5.mono (by omega))); have K6 := Lib.hid h6; clear h1 h2 h3 h4 h5 h6 b3)
      | (refine wpList_store_row rfl 23 _ _ rfl _ (B8 X).toArray rfl rfl 23 _ K1.out K2.out K3.out K4.out ?_))
    exact bodyPost_ret (results_cell_row_tmp rfl _ _ (w.heap.size + 1) 23 _ (0, 0) _ rfl K6.out Try.underlying23 rfl K2.out) rfl ⟨rfl, K5.out⟩
  · rw [if_neg hok, if_neg hok]
    obtain ⟨Z, HZE⟩ : ∃ Z : Array Value, Hid (Array.replicate 32 (Value.int .u8 0) = Z) := ⟨_, Lib.hid rfl⟩
    have HZB : Hid (∀ w : World, (Instr.build 23 #[]).run Try.prog w = .ok (.agg Z) w) := Lib.hid (fun w => by rw [← HZE.out]; kernel_rfl)
    have HZI : Hid ((Try.prog.info? 23).map (·.size) = some Z.size) := Lib.hid (by rw [← HZE.out, info_32]; rfl)
    have HZO : Hid (Z.all (·.oneCell') = true) := Lib.hid (by rw [← HZE.out]; exact B8_oneA zero32)
    rw [zero32_one]
    rw [HZE.out] at HZ HV ⊢
    obtain ⟨b, Hb⟩ : ∃ b, Hid (b = mayT k h) := ⟨_, Lib.hid rfl⟩
    rw [← Hb.out] at HMA
    have HHJ : Hid (b = true → (isW k = true ∧ 1 ≤ h ∧ h ≤ 5) ∧ ¬ (1 ≤ r ∧ r < ((2 ^ (h.toNat + 1) : Nat) : Int))) := Lib.hid (fun e => by
      rw [Hb.out] at e
      refine ⟨(mayT_iff k h).1 e, fun h9 => hok (by rw [knotOk, e, decide_eq_true h9]; rfl)⟩)
    clear hok hI hS
    cases b
    · go_enter Try.func21, Try.ntmps21
      go_upto_region 1 with (fail)
      rw [← HW0.out]
      change Code.wp _ _ _ _ (W0.alloc (.cells (Array.replicate 32 (.int .u8 0)) 23))
      rw [HZE.out, ← HV.out]
      go_wp2_with (first
        | ((with_reducible refine at_load 33 _ rfl ?_); refine wpList_load_row rfl 33 _ rfl _ rfl _ (TreeV I S k h).toArray (0, 0) _ HR.out Try.underlying33 rfl IT.out ?_)
        | (go_at_call 31; refine HMA.out.mono ?_; rintro e w1 ⟨rfl, b1⟩; have HB1 := Lib.hid b1; have HZ1 := Lib.hid ((b1.block _ (by rw [HS2.out]; omega)).trans HZ.out); clear b1)
        | refine wpList_build0 rfl 23 rfl (.agg Z) HZB.out ?_
        | refine wpList_store_same rfl 23 _ _ rfl _ Z rfl rfl 23 HZ1.out HZI.out HZO.out ?_)
      exact bodyPost_ret (results_cell_row_tmp rfl _ _ (w.heap.size + 1) 23 _ (0, 0) _ rfl HZ1.out Try.underlying23 rfl HZI.out) rfl ⟨rfl, HB.out.trans (HB1.out.mono HB.out.size)⟩
    · obtain ⟨⟨h1, h2, h3⟩, hno⟩ := HHJ.out rfl
      obtain ⟨H, rfl⟩ : ∃ H : Nat, h = H := ⟨h.toNat, by omega⟩
      rw [Int.toNat_natCast] at hno
      have hH : H ≤ 5 := by omega
      obtain ⟨p5, p1⟩ := pow5 H hH
      obtain ⟨P, HP⟩ : ∃ P, Hid (P = 2 ^ H) := ⟨_, Lib.hid rfl⟩
      have hg3 : 2 ^ (H + 1) = 2 * P := by rw [HP.out, Nat.pow_succ]; omega
      rw [← HP.out] at p5 p1
      have HLV := Lib.hid (fun w' => leaves_ref H w' hH)
      rw [← HP.out] at HLV
      rw [hg3] at hno
      by_cases hr1 : r < 1
      · have d1 : decide (r < 1) = true := decide_eq_true hr1
        clear hno hg3
        go_enter Try.func21, Try.ntmps21
        go_upto_region 1 with (fail)
        rw [← HW0.out]
        change Code.wp _ _ _ _ (W0.alloc (.cells (Array.replicate 32 (.int .u8 0)) 23))
        rw [HZE.out, ← HV.out]
        go_wp2_with (first
          | ((with_reducible refine at_load 33 _ rfl ?_); refine wpList_load_row rfl 33 _ rfl _ rfl _ (TreeV I S k H).toArray (0, 0) _ HR.out Try.underlying33 rfl IT.out ?_)
          | (go_at_call 31; refine HMA.out.mono ?_; rintro e w1 ⟨rfl, b1⟩; have HB1 := Lib.hid b1; have HZ1 := Lib.hid ((b1.block _ (by rw [HS2.out]; omega)).trans HZ.out); have HR1 := Lib.hid ((b1.block _ (Array.getElem?_eq_some_iff.1 HR.out).1).trans HR.out); have kh := tree_H HR1.out HHI.out HHS.out; clear b1)
          | refine wpList_build0 rfl 23 rfl (.agg Z) HZB.out ?_
          | refine wpList_store_same rfl 23 _ _ rfl _ Z rfl rfl 23 HZ1.out HZI.out HZO.out ?_)
        exact bodyPost_ret (results_cell_row_tmp rfl _ _ (w.heap.size + 1) 23 _ (0, 0) _ rfl HZ1.out Try.underlying23 rfl HZI.out) rfl ⟨rfl, HB.out.trans (HB1.out.mono HB.out.size)⟩
      · have d1 : decide (r < 1) = false := decide_eq_false hr1
        have hr2 : 2 * (P : Int) ≤ r := by omega
        have d2 : decide (2 * (P : Int) ≤ r) = true := decide_eq_true hr2
        clear hno hg3
        go_enter Try.func21, Try.ntmps21
        go_upto_region 1 with (fail)
        rw [← HW0.out]
        change Code.wp _ _ _ _ (W0.alloc (.cells (Array.replicate 32 (.int .u8 0)) 23))
        rw [HZE.out, ← HV.out]
        go_wp2_with (first
          | ((with_reducible refine at_load 33 _ rfl ?_); refine wpList_load_row rfl 33 _ rfl _ rfl _ (TreeV I S k H).toArray (0, 0) _ HR.out Try.underlying33 rfl IT.out ?_)
          | (go_at_call 31; refine HMA.out.mono ?_; rintro e w1 ⟨rfl, b1⟩; have HB1 := Lib.hid b1; have HZ1 := Lib.hid ((b1.block _ (by rw [HS2.out]; omega)).trans HZ.out); have HR1 := Lib.hid ((b1.block _ (Array.getElem?_eq_some_iff.1 HR.out).1).trans HR.out); have kh := tree_H HR1.out HHI.out HHS.out; clear b1)
          | (go_at_call 32; refine (HLV.out _).mono ?_; rintro e wl ⟨rfl, hwl⟩; rw [hwl]; clear hwl)
          | refine wpList_build0 rfl 23 rfl (.agg Z) HZB.out ?_
          | refine wpList_store_same rfl 23 _ _ rfl _ Z rfl rfl 23 HZ1.out HZI.out HZO.out ?_)
        exact bodyPost_ret (results_cell_row_tmp rfl _ _ (w.heap.size + 1) 23 _ (0, 0) _ rfl HZ1.out Try.underlying23 rfl HZI.out) rfl ⟨rfl, HB.out.trans (HB1.out.mono HB.out.size)⟩
theorem Public_ref5 (I S : List UInt8) (k h : Int) (w : World) (hI : I.length = 16) (hS : S.length = 32) :
    Calls Try.prog 22 #[.agg (TreeV I S k h).toArray] w fun e w' => ∃ v, e = .returned (.tuple #[v, .int .i64 (errL k h)]) ∧ Sl w' v (pubL I S k h) ∧ Below w.heap.size w w' := by
  obtain ⟨V, HV, HB, HR⟩ : ∃ V, Hid (V = w.alloc (.cells (TreeV I S k h).toArray 33)) ∧ Hid (Below w.heap.size w V) ∧ Hid (V.heap[w.heap.size]? = some (.cells (TreeV I S k h).toArray 33 (0, 0))) := ⟨_, Lib.hid rfl, Lib.hid ((Below.refl _ _).alloc (Nat.le_refl _) _), Lib.hid (heap_alloc_new _ _)⟩
  have IT : Hid ((Try.prog.info? 33).map (·.size) = some (TreeV I S k h).toArray.size) := Lib.hid (by rw [info_treeR, List.size_toArray, TreeV_length _ _ _ _ hI hS])
  have HMA := Lib.hid (may_ref5 I S k h V hI hS)
  have HTY := Lib.hid (fun w' => Type_ref k w')
  have HHI := Lib.hid hI
  have HHS := Lib.hid hS
  have HTB : Hid (∀ w', Below V.heap.size V w' → w'.heap[w.heap.size]? = some (.cells (TreeV I S k h).toArray 33 (0, 0))) := Lib.hid (fun w' hb => (hb.block _ (Array.getElem?_eq_some_iff.1 HR.out).1).trans HR.out)
  by_cases hm : mayT k h = true
  · obtain ⟨h1, h2, h3⟩ := (mayT_iff k h).1 hm
    have he : errW k = 0 := by rw [errW, if_pos h1]
    rw [hm] at HMA
    simp only [he] at HTY
    obtain ⟨H, rfl⟩ : ∃ H : Nat, h = H := ⟨h.toNat, by omega⟩
    have HL : Hid (pubL I S k H = pubP I S k H ∧ errL k H = 0) := Lib.hid ⟨by rw [pubL, if_pos hm, Int.toNat_natCast], by rw [errL, if_pos hm]⟩
    rw [HL.out.1, HL.out.2]
    obtain ⟨kn, hkk⟩ : ∃ kn : Nat, k = kn := ⟨k.toNat, by rcases (isW_iff k).1 h1 with h | h | h | h <;> omega⟩
    obtain ⟨ty, ty1, ty2, ty3⟩ := typeN_nat kn (by rw [hkk] at h1; rcases (isW_iff _).1 h1 with h | h | h | h <;> omega)
    rw [← hkk] at ty1 ty3
    have htd0 : 0 ≤ typedN H ∧ typedN H ≤ 105 := by rw [typedN]; split <;> omega
    obtain ⟨td, htd⟩ : ∃ td : Nat, typedN H = td := ⟨(typedN H).toNat, by omega⟩
    have HP : Hid (pubP I S k H = [fourN td, fourN ty, I, knotV I S k H 1].flatten) := Lib.hid (by rw [pubP, htd, ty3, Int.toNat_natCast])
    have HTD := Lib.hid (fun w' => typed_ref H w' (by omega))
    have HF1 := Lib.hid (fun w' => Four_own td w' (by omega))
    have HF2 := Lib.hid (fun w' => Four_own ty w' ty2)
    have HSU := Lib.hid (fun w' => knot_ref I S k H hI hS (by omega) 1 w' (Nat.le_refl _) (Nat.one_lt_two_pow (by omega)))
    obtain ⟨X, HX⟩ : ∃ X, Hid (X = knotV I S k H 1) := ⟨_, Lib.hid rfl⟩
    have HXL : Hid (X.length = 32) := Lib.hid (by rw [HX.out]; exact knotV_length _ _ _ _ _)
    simp only [← HX.out] at HSU
    simp only [htd] at HTD
    simp only [ty1] at HTY
    rw [← HX.out] at HP
    obtain ⟨A1, HA1⟩ : ∃ L, Hid (L = fourN td) := ⟨_, Lib.hid rfl⟩
    obtain ⟨A2, HA2⟩ : ∃ L, Hid (L = fourN ty) := ⟨_, Lib.hid rfl⟩
    have HL1 : Hid (A1.length = 4) := Lib.hid (by rw [HA1.out]; rfl)
    have HL2 : Hid (A2.length = 4) := Lib.hid (by rw [HA2.out]; rfl)
    simp only [← HA1.out] at HF1
    simp only [← HA2.out] at HF2
    have HPE : Hid (pubP I S k H = ((A1 ++ A2) ++ I) ++ X) := Lib.hid (by rw [HP.out, HA1.out, HA2.out]; simp)
    obtain ⟨B1, HB1'⟩ : ∃ L, Hid (L = A1 ++ A2) := ⟨_, Lib.hid rfl⟩
    obtain ⟨B2, HB2'⟩ : ∃ L, Hid (L = B1 ++ I) := ⟨_, Lib.hid rfl⟩
    obtain ⟨B3, HB3'⟩ : ∃ L, Hid (L = B2 ++ X) := ⟨_, Lib.hid rfl⟩
    rw [← HB1'.out, ← HB2'.out, ← HB3'.out] at HPE
    have HN1 : Hid (B1.length = 8) := Lib.hid (by rw [HB1'.out, List.length_append, HL1.out, HL2.out])
    have HN2 : Hid (B2.length = 24) := Lib.hid (by rw [HB2'.out, List.length_append, HN1.out, HHI.out])
    rw [HPE.out]
    have HBZ : Hid (Below V.heap.size V V) := Lib.hid (Below.refl _ _)
    have kw := tree_W HR.out hI hS
    have kh := tree_H HR.out hI hS
    clear hm h1 he hI hS hkk ty1 ty3 htd HX HP HL htd0
    go_enter Try.func22, Try.ntmps22
    go_upto_region 1 with (fail)
    rw [← HV.out]
    clear kw kh
    go_wp2_with (first
      | ((with_reducible refine at_load 33 _ rfl ?_); first | refine wpList_load_row rfl 33 _ rfl _ rfl _ (TreeV I S k H).toArray (0, 0) _ (HTB.out _ HBZ.out) Try.underlying33 rfl IT.out ?_ | refine wpList_load_row rfl 33 _ rfl _ rfl _ (TreeV I S k H).toArray (0, 0) _ (HTB.out _ HB5.out) Try.underlying33 rfl IT.out ?_)
      | (go_at_call 31; refine HMA.out.mono ?_; rintro e w1 ⟨rfl, b1⟩; have HB1 := Lib.hid b1; have kw := tree_W (HTB.out _ b1) HHI.out HHS.out; have kh := tree_H (HTB.out _ b1) HHI.out HHS.out; clear b1)
      | (go_at_call 49; refine (HTY.out _).mono ?_; rintro e wl ⟨rfl, hwl⟩; rw [hwl]; clear hwl)
      | (go_at_call 36; refine (HTD.out _).mono ?_; rintro e wl ⟨rfl, hwl⟩; rw [hwl]; clear hwl)
      | (go_at_call 35; (with_reducible refine (HF1.out w1).mono ?_); rintro e w2 ⟨a2, rfl, s2, b2⟩; have HO2 := Lib.hid (OwnC.down s2 HB1.out.size); have HB2 := Lib.hid (HB1.out.trans (b2.mono HB1.out.size)); clear s2 b2)
      | (go_at_call 35; (with_reducible refine (HF2.out w2).mono ?_); rintro e w3 ⟨a3, rfl, s3, b3⟩; have HO3 := Lib.hid (HO2.out.later b3); have HS3 := Lib.hid s3.sl; have HB3 := Lib.hid (HB2.out.trans (b3.mono HB2.out.size)); clear s3 b3)
      | (at_builtin; refine wpList_append8 rfl _ _ rfl V.heap.size _ A1 rfl HO3.out _ A2 rfl HS3.out (by rw [HL1.out, HL2.out]; decide) HB3.out.size ?_; intro v4 w4 hv4 hg4 _; have HB4 := Lib.hid (HB3.out.trans (Own8.below HO3.out hg4 HB3.out.size)); rw [← HB1'.out] at hv4; have HO4 := Lib.hid hv4; have SI4 := Lib.hid (tree_I (HTB.out _ HB4.out) HHI.out); clear hv4 hg4)
      | (at_builtin; refine wpList_append8 rfl _ _ rfl V.heap.size _ B1 rfl HO4.out _ I rfl SI4.out (by rw [HN1.out, HHI.out]; decide) HB4.out.size ?_; intro v5 w5 hv5 hg5 _; have HB5 := Lib.hid (HB4.out.trans (Own8.below HO4.out hg5 HB4.out.size)); rw [← HB2'.out] at hv5; have HO5 := Lib.hid hv5; clear hv5 hg5)
      | (go_at_call 37; refine (HSU.out w5).mono ?_; rintro e w6 ⟨rfl, b6⟩; have HO6 := Lib.hid ((HO5.out.later b6).later ((Below.refl _ _).alloc (Nat.le_refl _) (.cells (B8 X).toArray 23))); have HB6 := Lib.hid ((HB5.out.trans (b6.mono HB5.out.size)).alloc (HB5.out.trans (b6.mono HB5.out.size)).size (.cells (B8 X).toArray 23)); have SX6 : Hid (Sl (w6.alloc (.cells (B8 X).toArray 23)) (.slice (some ⟨w6.heap.size, 0, none⟩) 32 32) X) := Lib.hid (Sl.ofBlock (heap_alloc_new _ _) HXL.out.symm (Nat.le_refl _) (by simp [maxLen]) (fun i _ => by rw [Nat.zero_add, List.getElem?_toArray])); clear b6)
      | ((with_reducible refine at_store 23 _ _ rfl ?_); refine wpList_store_new rfl 23 _ _ rfl (B8 X).toArray rfl rfl 23 _ (arr32 HXL.out).1 (arr32 HXL.out).2 (B8_oneA X) ?_)
      | (at_builtin; refine wpList_append8 rfl _ _ rfl V.heap.size _ B2 rfl HO6.out _ X rfl SX6.out (by rw [HN2.out, HXL.out]; decide) HB6.out.size ?_; intro v7 w7 hv7 hg7 _; have HB7 := Lib.hid (HB6.out.trans (Own8.below HO6.out hg7 HB6.out.size)); rw [← HB3'.out] at hv7; have HO7 := Lib.hid hv7; clear hv7 hg7))
    go_ret2
    exact ⟨_, rfl, HO7.out.sl, HB.out.trans (HB7.out.mono HB.out.size)⟩
  · have hmf : mayT k h = false := by simpa using hm
    rw [hmf] at HMA
    have HL : Hid (pubL I S k h = [] ∧ errL k h = 1) := Lib.hid ⟨by rw [pubL, if_neg hm], by rw [errL, if_neg hm]⟩
    rw [HL.out.1, HL.out.2]
    clear hm hmf hI hS
    go_enter Try.func22, Try.ntmps22
    go_upto_region 1 with (fail)
    rw [← HV.out]
    go_wp2_with (first
      | ((with_reducible refine at_load 33 _ rfl ?_); refine wpList_load_row rfl 33 _ rfl _ rfl _ (TreeV I S k h).toArray (0, 0) _ HR.out Try.underlying33 rfl IT.out ?_)
      | (go_at_call 31; refine HMA.out.mono ?_; rintro e w1 ⟨rfl, b1⟩; have HB1 := Lib.hid b1; clear b1))
    go_ret2
    exact ⟨_, rfl, .inl ⟨rfl, _, _, rfl⟩, HB.out.trans (HB1.out.mono HB.out.size)⟩
end Go.Proofs.Ytabdbdnhbiopaaa

/- The walks of the document's Leaf and Sign, and of chapter 05's plain. -/
namespace Go.Proofs.Ytabdbdnhbiopaaa
open Go Go.RowKit
set_option maxRecDepth 100000
set_option maxHeartbeats 4000000
attribute [local irreducible] Wild.walk WildF.walk

theorem i_leafR (x0 x1 x2 x3 : UInt8) : wrap64 (wrap64 (wrap64 (wrap64 (wrap64 (bn x0) * 16777216) + wrap64 (wrap64 (bn x1) * 65536)) + wrap64 (wrap64 (bn x2) * 256)) + wrap64 (bn x3)) =
    ((x0.toNat * 16777216 + x1.toNat * 65536 + x2.toNat * 256 + x3.toNat : Nat) : Int) := by
  have h0 := bn_lt x0
  have h1 := bn_lt x1
  have h2 := bn_lt x2
  have h3 := bn_lt x3
  show _ = ((bn x0 * 16777216 + bn x1 * 65536 + bn x2 * 256 + bn x3 : Nat) : Int)
  generalize bn x0 = a at *
  generalize bn x1 = b at *
  generalize bn x2 = c at *
  generalize bn x3 = d at *
  rw [wr_in (a : Int) (by omega), wr_in (b : Int) (by omega), wr_in (c : Int) (by omega), wr_in (d : Int) (by omega)]
  rw [wr_in ((a : Int) * 16777216) (by omega), wr_in ((b : Int) * 65536) (by omega), wr_in ((c : Int) * 256) (by omega)]
  rw [wr_in ((a : Int) * 16777216 + (b : Int) * 65536) (by omega), wr_in ((a : Int) * 16777216 + (b : Int) * 65536 + (c : Int) * 256) (by omega), wr_in _ (by omega)]
  omega
theorem Leaf_ref (v : Value) (l : List UInt8) (w : World) (hv : Sl w v l) (hm : l.length ≤ 1000000) :
    Calls Try.prog 15 #[v] w fun e w' => e = .returned (.tuple #[.int .i64 (leafN l), .int .i64 (leafE l)]) ∧ Below w.heap.size w w' := by
  obtain ⟨a, cap, rfl⟩ := hv.shape
  by_cases h4 : l.length < 4
  · rw [leafN, leafE, if_pos h4, if_pos h4]
    have g : (l.length : Int) < 4 := by omega
    clear hv
    generalize l.length = len at *
    go_enter Try.func15, Try.ntmps15
    go_wp2_with fail
    go_ret2
    exact ⟨rfl, Below.refl _ _⟩
  · obtain ⟨b, off, rfl, -, -, -, hc⟩ := Sl.cells hv (by omega)
    have h0 := hc 0 (by omega)
    have h1 := hc 1 (by omega)
    have h2 := hc 2 (by omega)
    have h3 := hc 3 (by omega)
    have g0 : (0 : Int) < l.length := by omega
    have g1 : (1 : Int) < l.length := by omega
    have g2 : (2 : Int) < l.length := by omega
    have g3 : (3 : Int) < l.length := by omega
    have g4 : ¬ (l.length : Int) < 4 := by omega
    rw [leafN, leafE, if_neg h4, if_neg h4]
    clear hc hv h4
    generalize l.length = len at *
    rw [Nat.add_zero] at h0
    generalize l.getD 0 0 = x0 at *
    generalize l.getD 1 0 = x1 at *
    generalize l.getD 2 0 = x2 at *
    generalize l.getD 3 0 = x3 at *
    go_enter Try.func15, Try.ntmps15
    go_wp2_with fail
    go_quiet (fail)
    go_wp2
    go_ret2
    exact ⟨by rw [← i_leafR]; rfl, ⟨rfl, rfl, rfl, Nat.le_refl _, fun _ _ => rfl⟩⟩
theorem plain05_any (I S : List UInt8) (k h : Int) (w : World) (hI : I.length = 16) (hS : S.length = 32) :
    Calls Try.prog 13 #[.agg (TreeV I S k h).toArray] w fun e w' => e = .returned (.agg (TreeV I S k h).toArray) ∧ Below w.heap.size w w' := by
  obtain ⟨W0, HW0, HB0, HS0, HR0⟩ : ∃ V, Hid (V = w.alloc (.cells (TreeV I S k h).toArray 25)) ∧ Hid (Below w.heap.size w V) ∧ Hid (V.heap.size = w.heap.size + 1) ∧ Hid (V.heap[w.heap.size]? = some (.cells (TreeV I S k h).toArray 25 (0, 0))) := ⟨_, Lib.hid rfl, Lib.hid ((Below.refl _ _).alloc (Nat.le_refl _) _), Lib.hid (by simp), Lib.hid (heap_alloc_new _ _)⟩
  obtain ⟨Z, HZ⟩ : ∃ Z, Hid (Z = (TreeV zero16 zero32 0 0).toArray) := ⟨_, Lib.hid rfl⟩
  obtain ⟨V, HV, HVB, HVS, HVR, HVZ⟩ : ∃ V, Hid (V = W0.alloc (.cells Z 33)) ∧ Hid (Below w.heap.size w V) ∧ Hid (V.heap.size = w.heap.size + 2) ∧ Hid (V.heap[w.heap.size]? = some (.cells (TreeV I S k h).toArray 25 (0, 0))) ∧ Hid (V.heap[w.heap.size + 1]? = some (.cells Z 33 (0, 0))) :=
    ⟨_, Lib.hid rfl, Lib.hid (HB0.out.alloc HB0.out.size _), Lib.hid (by simp [HS0.out]), Lib.hid ((heap_alloc_old _ _ (by rw [HS0.out]; omega)).trans HR0.out), Lib.hid (by rw [← HS0.out]; exact heap_alloc_new _ _)⟩
  obtain ⟨r1, r2⟩ := tree_ranges HVR.out hI
  have R1 := Lib.hid r1
  have R2 := Lib.hid r2
  have hkw := tree_W HVR.out hI hS
  have hkh := tree_H HVR.out hI hS
  have I16 : Hid ((Try.prog.info? 22).map (·.size) = some (B8 I).length) := Lib.hid (by rw [info_16, B8_length, hI])
  have I32 : Hid ((Try.prog.info? 23).map (·.size) = some (B8 S).length) := Lib.hid (by rw [info_32, B8_length, hS])
  have HBL := Lib.hid (treeR_all I S k h hI hS)
  have IK : Hid ((Try.prog.info? 33).map (·.size) = some (TreeV I S k h).toArray.size) := Lib.hid (by rw [info_treeR, List.size_toArray, TreeV_length _ _ _ _ hI hS])
  have HZL : Hid (Z.size = (TreeV I S k h).toArray.size) := Lib.hid (by rw [HZ.out, List.size_toArray, List.size_toArray, TreeV_length _ _ _ _ hI hS]; rfl)
  have HKO := Lib.hid (TreeV_one I S k h)
  clear hI hS r1 r2
  go_enter Try.func13, Try.ntmps13
  go_upto_region 1 with (fail)
  rw [← HW0.out]
  change Code.wp _ _ _ _ (W0.alloc (.cells (TreeV zero16 zero32 0 0).toArray 33))
  rw [← HZ.out, ← HV.out]
  go_wp2_with (first
    | (refine wpList_load_mid rfl 22 _ rfl w.heap.size 0 (by rfl) (B8 I) _ R1.out Try.underlying22 rfl I16.out ?_)
    | (refine wpList_load_mid rfl 23 _ rfl w.heap.size 16 (by rfl) (B8 S) _ R2.out Try.underlying23 rfl I32.out ?_)
    | (refine wpList_built rfl 33 [_, _, _, _] rfl _ rfl _ HBL.out ?_)
    | (refine wpList_store_row rfl 33 _ _ rfl _ (TreeV I S k h).toArray rfl rfl 33 _ HVZ.out IK.out HZL.out HKO.out ?_))
  exact bodyPost_ret (results_cell_row rfl _ _ (w.heap.size + 1) 33 _ (0, 0) _ rfl (setRow_heap _ _ _ _ _ _ HVZ.out) Try.underlying33 rfl IK.out) rfl ⟨rfl, below_row HVB.out (by omega) _⟩
theorem Sign_ref5 (I S : List UInt8) (k h q : Int) (tv : Value) (text : List UInt8) (w : World) (hI : I.length = 16) (hS : S.length = 32) (hk : -9223372036854775808 ≤ k ∧ k ≤ 9223372036854775807) (ht : Sl w tv text) (htl : text.length ≤ 1000000) :
    Calls Try.prog 12 #[.agg (TreeV I S k h).toArray, .int .i64 q, tv] w fun e w' => ∃ v, e = .returned (.tuple #[v, .int .i64 (lsigE k h q)]) ∧ Sl w' v (lsigV I S k h q text) ∧ Below w.heap.size w w' := by
  obtain ⟨V, HV, HB, HR⟩ : ∃ V, Hid (V = w.alloc (.cells (TreeV I S k h).toArray 33)) ∧ Hid (Below w.heap.size w V) ∧ Hid (V.heap[w.heap.size]? = some (.cells (TreeV I S k h).toArray 33 (0, 0))) := ⟨_, Lib.hid rfl, Lib.hid ((Below.refl _ _).alloc (Nat.le_refl _) _), Lib.hid (heap_alloc_new _ _)⟩
  have IT : Hid ((Try.prog.info? 33).map (·.size) = some (TreeV I S k h).toArray.size) := Lib.hid (by rw [info_treeR, List.size_toArray, TreeV_length _ _ _ _ hI hS])
  have HMA := Lib.hid (may_ref5 I S k h V hI hS)
  have HTX := Lib.hid (ht.later HB.out)
  have HHI := Lib.hid hI
  have HHS := Lib.hid hS
  have HTB : Hid (∀ w', Below V.heap.size V w' → w'.heap[w.heap.size]? = some (.cells (TreeV I S k h).toArray 33 (0, 0))) := Lib.hid (fun w' hb => (hb.block _ (Array.getElem?_eq_some_iff.1 HR.out).1).trans HR.out)
  obtain ⟨ta, tc, rfl⟩ := ht.shape
  by_cases hm : mayT k h = true
  · obtain ⟨h1, h2, h3⟩ := (mayT_iff k h).1 hm
    have he : errW k = 0 := by rw [errW, if_pos h1]
    rw [hm] at HMA
    obtain ⟨H, rfl⟩ : ∃ H : Nat, h = H := ⟨h.toNat, by omega⟩
    have hH : H ≤ 5 := by omega
    obtain ⟨p5, p1⟩ := pow5 H hH
    have HLV := Lib.hid (fun w' => leaves_ref H w' hH)
    obtain ⟨P, HP⟩ : ∃ P, Hid (P = 2 ^ H) := ⟨_, Lib.hid rfl⟩
    rw [← HP.out] at p5 p1 HLV
    by_cases hq0 : q < 0
    · have g0 : decide (q < 0) = true := decide_eq_true hq0
      have HL : Hid (lsigV I S k H q text = [] ∧ lsigE k H q = 12) := Lib.hid (by
        have e : leafOk H q = false := by rw [leafOk, decide_eq_false_iff_not]; omega
        rw [lsigV, lsigE, hm, e]; exact ⟨rfl, rfl⟩)
      rw [HL.out.1, HL.out.2]
      clear hm h1 he hI hS hk ht
      go_enter Try.func12, Try.ntmps12
      go_upto_region 1 with (fail)
      rw [← HV.out]
      go_wp2_with (first
        | ((with_reducible refine at_load 33 _ rfl ?_); refine wpList_load_row rfl 33 _ rfl _ rfl _ (TreeV I S k H).toArray (0, 0) _ HR.out Try.underlying33 rfl IT.out ?_)
        | (go_at_call 31; refine HMA.out.mono ?_; rintro e w1 ⟨rfl, b1⟩; have HB1 := Lib.hid b1; clear b1))
      go_ret2
      exact ⟨_, rfl, .inl ⟨rfl, _, _, rfl⟩, HB.out.trans (HB1.out.mono HB.out.size)⟩
    · have g0 : decide (q < 0) = false := decide_eq_false hq0
      by_cases hq1 : (P : Int) ≤ q
      · have g1 : decide ((P : Int) ≤ q) = true := decide_eq_true hq1
        have HL : Hid (lsigV I S k H q text = [] ∧ lsigE k H q = 12) := Lib.hid (by
          have e : leafOk H q = false := by rw [leafOk, decide_eq_false_iff_not, Int.toNat_natCast, ← HP.out]; omega
          rw [lsigV, lsigE, hm, e]; exact ⟨rfl, rfl⟩)
        rw [HL.out.1, HL.out.2]
        clear hm h1 he hI hS hk ht
        go_enter Try.func12, Try.ntmps12
        go_upto_region 1 with (fail)
        rw [← HV.out]
        go_wp2_with (first
          | ((with_reducible refine at_load 33 _ rfl ?_); refine wpList_load_row rfl 33 _ rfl _ rfl _ (TreeV I S k H).toArray (0, 0) _ HR.out Try.underlying33 rfl IT.out ?_)
          | (go_at_call 31; refine HMA.out.mono ?_; rintro e w1 ⟨rfl, b1⟩; have HB1 := Lib.hid b1; have kh := tree_H (HTB.out _ b1) HHI.out HHS.out; clear b1)
          | (go_at_call 32; refine (HLV.out _).mono ?_; rintro e wl ⟨rfl, hwl⟩; rw [hwl]; clear hwl))
        go_ret2
        exact ⟨_, rfl, .inl ⟨rfl, _, _, rfl⟩, HB.out.trans (HB1.out.mono HB.out.size)⟩
      · have g1 : decide ((P : Int) ≤ q) = false := decide_eq_false hq1
        obtain ⟨Q, rfl⟩ : ∃ Q : Nat, q = Q := ⟨q.toNat, by omega⟩
        have hQ : Q < P := by omega
        have HL : Hid (lsigV I S k H Q text = lsigN I S k H Q text ∧ lsigE k H Q = 0) := Lib.hid (by
          have e : leafOk H Q = true := by rw [leafOk, decide_eq_true_iff, Int.toNat_natCast, ← HP.out]; omega
          rw [lsigV, lsigE, hm, e]; exact ⟨rfl, rfl⟩)
        rw [HL.out.1, HL.out.2]
        have htd0 : 0 ≤ typedN H ∧ typedN H ≤ 105 := by rw [typedN]; split <;> omega
        obtain ⟨td, htd⟩ : ∃ td : Nat, typedN H = td := ⟨(typedN H).toNat, by omega⟩
        have HKY := Lib.hid (fun w' => key_ref5 I S k H Q w' hI hS (by omega))
        have HSI := Lib.hid (fun w' h => Sign_ref I S Q k (.slice ta text.length tc) text w' hI hS (by omega) hk h htl)
        have HTD := Lib.hid (fun w' => typed_ref H w' (by omega))
        have HF1 := Lib.hid (fun w' => Four_ref td w' (by omega))
        have HFQ := Lib.hid (fun w' => Four_own Q w' (by omega))
        have HSU := Lib.hid (fun r w' h1 h2 => knot_ref I S k H hI hS hH r w' h1 h2)
        obtain ⟨O, HO⟩ : ∃ O, Hid (O = signV I S Q k text) := ⟨_, Lib.hid rfl⟩
        have HOL : Hid (O.length ≤ 10000) := Lib.hid (by rw [HO.out]; exact signV_le _ _ _ _ _)
        obtain ⟨A1, HA1⟩ : ∃ L, Hid (L = fourN Q) := ⟨_, Lib.hid rfl⟩
        obtain ⟨A2, HA2⟩ : ∃ L, Hid (L = fourN td) := ⟨_, Lib.hid rfl⟩
        have HL1 : Hid (A1.length = 4) := Lib.hid (by rw [HA1.out]; rfl)
        have HL2 : Hid (A2.length = 4) := Lib.hid (by rw [HA2.out]; rfl)
        simp only [← HA1.out] at HFQ
        simp only [← HA2.out] at HF1
        obtain ⟨R1, HR1⟩ : ∃ R, Hid (R = A1 ++ O) := ⟨_, Lib.hid rfl⟩
        obtain ⟨R, HRR⟩ : ∃ R, Hid (R = R1 ++ A2) := ⟨_, Lib.hid rfl⟩
        have HRL1 : Hid (R1.length ≤ 10004) := Lib.hid (by rw [HR1.out, List.length_append, HL1.out]; have := HOL.out; omega)
        have HRL : Hid (R.length ≤ 10008) := Lib.hid (by rw [HRR.out, List.length_append, HL2.out]; have := HRL1.out; omega)
        have HFIN : Hid (lsigN I S k H Q text = R ++ besideN I S k H (P + Q) H) := Lib.hid (by rw [lsigN, htd, Int.toNat_natCast, ← HO.out, HRR.out, HR1.out, HA1.out, HA2.out, ← HP.out]; simp)
        simp only [he, ← HO.out] at HSI
        simp only [htd] at HTD
        rw [HFIN.out]
        obtain ⟨Z, HZ⟩ : ∃ Z, Hid (Z = Array.replicate 32 (Value.int .u8 0)) := ⟨_, Lib.hid rfl⟩
        have HZB : Hid (∀ w, (Instr.build 23 #[]).run Try.prog w = .ok (.agg Z) w) := Lib.hid (by rw [HZ.out]; exact fun w => by kernel_rfl)
        have HZI : Hid ((Try.prog.info? 23).map (·.size) = some Z.size) := Lib.hid (by rw [HZ.out, info_32]; rfl)
        have HZS : Hid (Z.size = 32) := Lib.hid (by rw [HZ.out]; simp)
        have HZO : Hid (Z.all (·.oneCell') = true) := Lib.hid (by rw [HZ.out]; exact B8_oneA zero32)
        have hqm : (Q : Int) % 4294967296 = Q := by omega
        clear hm h1 he hI hS hk ht htd htd0
        go_enter Try.func12, Try.ntmps12
        go_upto_region 1 with (fail)
        rw [← HV.out]
        go_upto_region 9 with (first
          | ((with_reducible refine at_load 33 _ rfl ?_); first | refine wpList_load_row rfl 33 _ rfl _ rfl _ (TreeV I S k H).toArray (0, 0) _ HR.out Try.underlying33 rfl IT.out ?_ | refine wpList_load_row rfl 33 _ rfl _ rfl _ (TreeV I S k H).toArray (0, 0) _ (HTB.out _ HB1.out) Try.underlying33 rfl IT.out ?_)
          | (go_at_call 31; refine HMA.out.mono ?_; rintro e w1 ⟨rfl, b1⟩; have HB1 := Lib.hid b1; have HT1 := Lib.hid (HTX.out.later b1); have kh := tree_H (HTB.out _ b1) HHI.out HHS.out; clear b1)
          | (go_at_call 32; refine (HLV.out _).mono ?_; rintro e wl ⟨rfl, hwl⟩; rw [hwl]; clear hwl)
          | (go_at_call 34; refine (HKY.out w1).mono ?_; rintro e w2 ⟨rfl, b2⟩; have HB2 := Lib.hid (HB1.out.trans (b2.mono HB1.out.size)); have HT2 := Lib.hid (HT1.out.later b2); clear b2)
          | (go_at_call 33; refine (HSI.out w2 HT2.out).mono ?_; rintro e w3 ⟨sv, rfl, s3, b3⟩; have HB3 := Lib.hid (HB2.out.trans (b3.mono HB2.out.size)); have HS3 := Lib.hid s3; obtain ⟨sa, sc, rfl⟩ := Sl.shape s3; clear s3 b3)
          | (go_at_call 35; (with_reducible refine (HFQ.out w3).mono ?_); rintro e w4 ⟨a4, rfl, s4, b4⟩; have HO4 := Lib.hid (OwnC.down s4 HB3.out.size); have HS4 := Lib.hid (HS3.out.later b4); have HB4 := Lib.hid (HB3.out.trans (b4.mono HB3.out.size)); clear s4 b4)
          | (at_builtin; refine wpList_append8 rfl _ _ rfl V.heap.size _ A1 rfl HO4.out _ O rfl HS4.out (by rw [HL1.out]; have := HOL.out; omega) HB4.out.size ?_; intro v5 w5 hv5 hg5 _; have HB5 := Lib.hid (HB4.out.trans (Own8.below HO4.out hg5 HB4.out.size)); rw [← HR1.out] at hv5; have HO5 := Lib.hid hv5; have kh := tree_H (HTB.out _ HB5.out) HHI.out HHS.out; clear hv5 hg5)
          | (go_at_call 36; refine (HTD.out _).mono ?_; rintro e wt ⟨rfl, hwt⟩; rw [hwt]; clear hwt)
          | (go_at_call 35; (with_reducible refine (HF1.out w5).mono ?_); rintro e w6 ⟨a6, rfl, s6, b6⟩; have HO6 := Lib.hid (HO5.out.later b6); have HS6 := Lib.hid s6; have HB6 := Lib.hid (HB5.out.trans (b6.mono HB5.out.size)); clear s6 b6)
          | (at_builtin; refine wpList_append8 rfl _ _ rfl V.heap.size _ R1 rfl HO6.out _ A2 rfl HS6.out (by rw [HL2.out]; have := HRL1.out; omega) HB6.out.size ?_; intro v7 w7 hv7 hg7 _; have HB7 := Lib.hid (HB6.out.trans (Own8.below HO6.out hg7 HB6.out.size)); rw [← HRR.out] at hv7; have HO7 := Lib.hid hv7; have kh := tree_H (HTB.out _ HB7.out) HHI.out HHS.out; clear hv7 hg7))
        clear kh
        go_loopw [10, 11] (fun out rv wr => ∃ j : Nat, j ≤ H ∧ rv = .int .i64 ((P + Q) / 2 ^ j : Nat) ∧ Hid (Own8 wr V.heap.size out (R ++ besideN I S k H (P + Q) j)) ∧ Hid (Below V.heap.size V wr)) (fun _ rv _ => (intOf rv).toNat)
        case atStart => exact ⟨0, by omega, by simp, Lib.hid (by simpa [besideN] using HO7.out), HB7⟩
        case round =>
          obtain ⟨j, hj, rfl, HOj, HBj⟩ := hrel
          obtain ⟨n, Hn⟩ : ∃ n, Hid (n = (P + Q) / 2 ^ j) := ⟨_, Lib.hid rfl⟩
          have Hn2 : Hid (n / 2 = (P + Q) / 2 ^ (j + 1)) := Lib.hid (by rw [Hn.out, div_two])
          rw [← Hn.out]
          have hnle : n ≤ P + Q := by rw [Hn.out]; exact Nat.div_le_self _ _
          obtain ⟨oa, oc, hov⟩ := HOj.out.shape
          subst hov
          by_cases hlt : j < H
          · have hge : 2 ≤ n := by
              rw [Hn.out, HP.out, Nat.le_div_iff_mul_le (Nat.pow_pos (by decide))]
              have h8 : 2 * 2 ^ j ≤ 2 ^ H := by rw [Nat.mul_comm, ← Nat.pow_succ]; exact Nat.pow_le_pow_right (by decide) (by omega)
              omega
            have hgi : (1 : Int) < n := by omega
            have hxp := xor_par n (by omega)
            obtain ⟨m, Hm⟩ : ∃ m, Hid (m = n ^^^ 1) := ⟨_, Lib.hid rfl⟩
            rw [← Hm.out] at hxp
            have HMB : Hid (1 ≤ m ∧ m < 2 ^ (H + 1)) := Lib.hid (by rw [Hm.out]; exact xor_bd H (by omega) n (by omega) hge (by rw [Nat.pow_succ, ← HP.out]; omega))
            obtain ⟨X, HX⟩ : ∃ X, Hid (X = knotV I S k H m) := ⟨_, Lib.hid rfl⟩
            have HXL : Hid (X.length = 32) := Lib.hid (by rw [HX.out]; exact knotV_length _ _ _ _ _)
            have HS1 := Lib.hid (fun w' => HSU.out m w' HMB.out.1 HMB.out.2)
            have HNX : Hid ((R ++ besideN I S k H (P + Q) j) ++ X = R ++ besideN I S k H (P + Q) (j + 1)) := Lib.hid (by rw [besideN, ← Hn.out, ← Hm.out, ← HX.out, List.append_assoc])
            have HLL : Hid ((R ++ besideN I S k H (P + Q) j).length + X.length ≤ 1000000000) := Lib.hid (by rw [List.length_append, besideN_length, HXL.out]; have := HRL.out; omega)
            rw [← HX.out] at HS1
            generalize R ++ besideN I S k H (P + Q) j = L at HOj HNX HLL
            obtain ⟨xb, Hxb⟩ : ∃ b, Hid (b = wr.heap.size) := ⟨_, Lib.hid rfl⟩
            obtain ⟨W1, HW1, HB1, HZ1, HBr⟩ : ∃ W, Hid (W = wr.alloc (.cells Z 23)) ∧ Hid (Below wr.heap.size wr W) ∧ Hid (W.heap[xb]? = some (.cells Z 23 (0, 0))) ∧ Hid (Below V.heap.size V W) := ⟨_, Lib.hid rfl, Lib.hid ((Below.refl _ _).alloc (Nat.le_refl _) _), Lib.hid (by rw [Hxb.out]; exact heap_alloc_new _ _), Lib.hid (HBj.out.alloc HBj.out.size _)⟩
            have HT1 := Lib.hid (HTB.out _ HBr.out)
            have HVX : Hid (V.heap.size ≤ xb) := Lib.hid (by rw [Hxb.out]; exact HBj.out.size)
            go_upto_region 12 with (first
              | refine wpList_build0 rfl 23 rfl (.agg Z) HZB.out ?_
              | refine wpList_store_new rfl 23 _ _ rfl Z rfl rfl 23 _ HZI.out (by rw [HZS.out]; rfl) HZO.out ?_)
            rw [← HW1.out, ← Hxb.out]
            try simp only [Act.put]
            have HEND : Hid (∀ w6, Below W1.heap.size W1 w6 → Hid (w6.heap[xb]? = some (.cells Z 23 (0, 0))) ∧ Hid (Own8 (w6.setRow xb (B8 X).toArray) V.heap.size (.slice oa L.length oc) L) ∧ Hid (Below V.heap.size V (w6.setRow xb (B8 X).toArray)) ∧ Hid (Sl (w6.setRow xb (B8 X).toArray) (.slice (some ⟨xb, 0, none⟩) 32 32) X)) := Lib.hid (fun w6 hb => by
              have h0 := (hb.block _ (Array.getElem?_eq_some_iff.1 HZ1.out).1).trans HZ1.out
              have hbr : Below wr.heap.size wr w6 := HB1.out.trans (hb.mono HB1.out.size)
              have hbs : Below wr.heap.size wr (w6.setRow xb (B8 X).toArray) := below_row hbr (by rw [Hxb.out]; exact Nat.le_refl _) _
              exact ⟨Lib.hid h0, Lib.hid (HOj.out.later hbs), Lib.hid (HBj.out.trans (hbs.mono HBj.out.size)), Lib.hid (Sl.ofBlock (setRow_heap _ _ _ _ _ _ h0) HXL.out.symm (Nat.le_refl _) (by simp [maxLen]) fun i hi => by rw [Nat.zero_add, List.getElem?_toArray])⟩)
            by_cases hpar : n % 2 = 0
            · rw [if_pos hpar] at hxp
              have hpi : (n : Int) % 2 = 0 := by omega
              have HEM : Hid ((n : Int) + 1 = (m : Int)) := Lib.hid (by omega)
              have emw : IntKind.i64.wrap ((n : Int) + 1) = (n : Int) + 1 := by rw [IntKind.wrap_i64]; omega
              go_wp2_with (first
                | ((with_reducible refine at_load 33 _ rfl ?_); refine wpList_load_row rfl 33 _ rfl _ rfl _ (TreeV I S k H).toArray (0, 0) _ HT1.out Try.underlying33 rfl IT.out ?_)
                | (go_at_call 37; rw [HEM.out]; (with_reducible refine (HS1.out W1).mono ?_); rintro e w6 ⟨rfl, b6⟩; obtain ⟨HZ6, HO7, HB7, HX7⟩ := HEND.out w6 b6; clear b6)
                | ((with_reducible refine at_store 23 _ _ rfl ?_); refine wpList_store_row rfl 23 _ _ rfl _ (B8 X).toArray rfl rfl 23 _ HZ6.out (arr32 HXL.out).1 (by rw [HZS.out]; simp [B8_length, HXL.out]) (B8_oneA X) ?_; generalize w6.setRow xb (B8 X).toArray = w7 at *)
                | (at_builtin; refine wpList_append8 rfl _ _ rfl V.heap.size _ L rfl HO7.out _ X rfl HX7.out HLL.out HB7.out.size ?_; intro v9 w9 hv9 hg9 ho9; have HB9 := Lib.hid (HB7.out.trans (Own8.below HO7.out hg9 HB7.out.size)); have HO9 := Lib.hid hv9; clear hv9 hg9 ho9))
              go_roundw
              case rel =>
                exact ⟨j + 1, by omega, by rw [← Hn2.out]; go_num, Lib.hid (by rw [← HNX.out]; exact HO9.out), HB9⟩
              case measure => simp [intOf]; omega
            · rw [if_neg hpar] at hxp
              have hpi : (n : Int) % 2 = 1 := by omega
              have HEM : Hid ((n : Int) - 1 = (m : Int)) := Lib.hid (by omega)
              have emw : IntKind.i64.wrap ((n : Int) - 1) = (n : Int) - 1 := by rw [IntKind.wrap_i64]; omega
              go_wp2_with (first
                | ((with_reducible refine at_load 33 _ rfl ?_); refine wpList_load_row rfl 33 _ rfl _ rfl _ (TreeV I S k H).toArray (0, 0) _ HT1.out Try.underlying33 rfl IT.out ?_)
                | (go_at_call 37; rw [HEM.out]; (with_reducible refine (HS1.out W1).mono ?_); rintro e w6 ⟨rfl, b6⟩; obtain ⟨HZ6, HO7, HB7, HX7⟩ := HEND.out w6 b6; clear b6)
                | ((with_reducible refine at_store 23 _ _ rfl ?_); refine wpList_store_row rfl 23 _ _ rfl _ (B8 X).toArray rfl rfl 23 _ HZ6.out (arr32 HXL.out).1 (by rw [HZS.out]; simp [B8_length, HXL.out]) (B8_oneA X) ?_; generalize w6.setRow xb (B8 X).toArray = w7 at *)
                | (at_builtin; refine wpList_append8 rfl _ _ rfl V.heap.size _ L rfl HO7.out _ X rfl HX7.out HLL.out HB7.out.size ?_; intro v9 w9 hv9 hg9 ho9; have HB9 := Lib.hid (HB7.out.trans (Own8.below HO7.out hg9 HB7.out.size)); have HO9 := Lib.hid hv9; clear hv9 hg9 ho9))
              go_roundw
              case rel =>
                exact ⟨j + 1, by omega, by rw [← Hn2.out]; go_num, Lib.hid (by rw [← HNX.out]; exact HO9.out), HB9⟩
              case measure => simp [intOf]; omega
          · obtain rfl : j = H := by omega
            have hn1 : n = 1 := by
              rw [Hn.out, ← HP.out]
              exact Nat.div_eq_of_lt_le (by omega) (by omega)
            subst hn1
            have HFS := Lib.hid HOj.out.sl
            have HBF : Hid (Below w.heap.size w wr) := Lib.hid (HB.out.trans (HBj.out.mono HB.out.size))
            go_wp2_with fail
            go_ret2
            exact ⟨_, rfl, HFS.out, HBF.out⟩
  · have hmf : mayT k h = false := by simpa using hm
    rw [hmf] at HMA
    have HL : Hid (lsigV I S k h q text = [] ∧ lsigE k h q = 1) := Lib.hid ⟨by rw [lsigV, hmf]; rfl, by rw [lsigE, if_neg hm]⟩
    rw [HL.out.1, HL.out.2]
    clear hm hmf hI hS hk ht
    go_enter Try.func12, Try.ntmps12
    go_upto_region 1 with (fail)
    rw [← HV.out]
    go_wp2_with (first
      | ((with_reducible refine at_load 33 _ rfl ?_); refine wpList_load_row rfl 33 _ rfl _ rfl _ (TreeV I S k h).toArray (0, 0) _ HR.out Try.underlying33 rfl IT.out ?_)
      | (go_at_call 31; refine HMA.out.mono ?_; rintro e w1 ⟨rfl, b1⟩; have HB1 := Lib.hid b1; clear b1))
    go_ret2
    exact ⟨_, rfl, .inl ⟨rfl, _, _, rfl⟩, HB.out.trans (HB1.out.mono HB.out.size)⟩
end Go.Proofs.Ytabdbdnhbiopaaa

/- The walk of the document's form. -/
namespace Go.Proofs.Ytabdbdnhbiopaaa
open Go Go.RowKit
set_option maxRecDepth 100000
set_option maxHeartbeats 2000000
attribute [local irreducible] Wild.walk WildF.walk

theorem treeR_built0 : Try.prog.built 33 [] = some (TreeV zero16 zero32 0 0).toArray := by rw [built_treeR]; rfl
theorem tree_Icell {t : TypeId} {w : World} {b : Nat} {I S : List UInt8} {k h : Int} (hr : w.heap[b]? = some (.cells (TreeV I S k h).toArray t (0, 0))) (hI : I.length = 16) (i : Nat) (hi : i < 16) :
    w.cell? ⟨b, i, none⟩ = some (.int .u8 (bn (I.getD i 0))) := by
  have h := (tree_ranges hr hI).1 i (.int .u8 (bn (I.getD i 0))) (by rw [B8_getElem?, List.getElem?_eq_getElem (by omega), List.getD_eq_getElem?_getD, List.getElem?_eq_getElem (by omega)]; rfl)
  rwa [Nat.zero_add] at h
theorem B8_set (I : List UInt8) (i : Nat) (x : UInt8) : (B8 I).set i (.int .u8 (bn x)) = B8 (I.set i x) := by simp [B8, List.map_set]
theorem tree_setI {t : TypeId} {w : World} {b : Nat} {I S : List UInt8} {k h : Int} (hr : w.heap[b]? = some (.cells (TreeV I S k h).toArray t (0, 0))) (hI : I.length = 16) (i : Nat) (hi : i < 16) (x : UInt8) :
    (w.setCell ⟨b, i, none⟩ (.int .u8 (bn x))).heap[b]? = some (.cells (TreeV (I.set i x) S k h).toArray t (0, 0)) := by
  rw [heap_setCell_same w b i _ _ _ hr, List.setIfInBounds_toArray]
  congr 3
  rw [TreeV, TreeV, List.set_append_left _ _ (by rw [B8_length]; omega), B8_set]
theorem form_ref (pv : Value) (p : List UInt8) (w : World) (hp : Sl w pv p) :
    Calls Try.prog 43 #[pv] w fun e w' => e = .returned (.tuple #[.agg (TreeV (openI p) zero32 (openW p) (openH p)).toArray, .bool (openOk p)]) ∧ Below w.heap.size w w' := by
  obtain ⟨V, HV, HB, HS1, HZ⟩ : ∃ V, Hid (V = w.alloc (.cells (TreeV zero16 zero32 0 0).toArray 33)) ∧ Hid (Below w.heap.size w V) ∧ Hid (V.heap.size = w.heap.size + 1) ∧ Hid (V.heap[w.heap.size]? = some (.cells (TreeV zero16 zero32 0 0).toArray 33 (0, 0))) :=
    ⟨_, Lib.hid rfl, Lib.hid ((Below.refl _ _).alloc (Nat.le_refl _) _), Lib.hid (by simp), Lib.hid (heap_alloc_new _ _)⟩
  obtain ⟨Z, HZe⟩ : ∃ Z, Hid (Z = (TreeV zero16 zero32 0 0).toArray) := ⟨_, Lib.hid rfl⟩
  have HB0 : Hid (Try.prog.built 33 [] = some Z) := Lib.hid (by rw [HZe.out]; exact treeR_built0)
  have HIZ : Hid ((Try.prog.info? 33).map (·.size) = some Z.size) := Lib.hid (by rw [HZe.out, info_treeR]; rfl)
  have HOZ : Hid (Z.all (·.oneCell') = true) := Lib.hid (by rw [HZe.out]; exact TreeV_one _ _ _ _)
  have HSZ : Hid (Z.size = 50) := Lib.hid (by rw [HZe.out]; rfl)
  rw [← HZe.out] at HZ HV
  obtain ⟨pa, pc, rfl⟩ := hp.shape
  have HP := Lib.hid (hp.later HB.out)
  have HPW := Lib.hid hp
  by_cases h56 : p.length = 56
  · have HL : Hid (openI p = pI p ∧ openW p = oWn p 4 ∧ openH p = oHn p 5 ∧ openOk p = mayT (openW p) (openH p)) := Lib.hid ⟨by rw [openI, if_pos h56], by rw [openW, if_pos h56], by rw [openH, if_pos h56], by rw [openOk, decide_eq_true h56, Bool.true_and]⟩
    rw [HL.out.2.2.2, HL.out.1, HL.out.2.1, HL.out.2.2.1]
    obtain ⟨pb, po, rfl, -, q1, q2, hcs⟩ := Sl.cells HP.out (by omega)
    have HCS := Lib.hid hcs
    obtain ⟨I, HI⟩ : ∃ I, Hid (I = pI p) := ⟨_, Lib.hid rfl⟩
    have HIL : Hid (I.length = 16) := Lib.hid (by rw [HI.out, pI, List.length_take, List.length_drop]; omega)
    have HIT : ∀ k h, Hid ((Try.prog.info? 33).map (·.size) = some (TreeV I zero32 k h).toArray.size) := fun k h => Lib.hid (by rw [info_treeR, List.size_toArray, TreeV_length _ _ _ _ HIL.out rfl])
    have HITL' : ∀ k h, Hid ((Try.prog.info? 33).map (·.size) = some (TreeV I zero32 k h).length) := fun k h => Lib.hid (by rw [info_treeR, TreeV_length _ _ _ _ HIL.out rfl])
    have HST : ∀ k h, Hid ((TreeV I zero32 k h).toArray.size = 50) := fun k h => Lib.hid (by rw [List.size_toArray, TreeV_length _ _ _ _ HIL.out rfl])
    obtain ⟨h, Hh⟩ : ∃ h : Nat, Hid (h = oHn p 5) := ⟨_, Lib.hid rfl⟩
    have Hh5 : Hid (h ≤ 5) := Lib.hid (by rw [Hh.out]; exact oHn_le p 5)
    obtain ⟨k, Hk⟩ : ∃ k : Nat, Hid (k = oWn p 4) := ⟨_, Lib.hid rfl⟩
    have Hk5 : Hid (k ≤ 16) := Lib.hid (by rw [Hk.out]; exact oWn_le p 4)
    have HMA := Lib.hid (fun w' => may_ref5 I zero32 k h w' HIL.out rfl)
    have HITL := HITL' k h
    clear HITL'
    rw [← HI.out, ← Hh.out, ← Hk.out]
    obtain ⟨ok, Hok⟩ : ∃ ok, Hid (ok = mayT k h) := ⟨_, Lib.hid rfl⟩
    rw [← Hok.out] at HMA ⊢
    rw [h56] at q1 HPW ⊢
    have HIB : Hid (∀ j, j < 16 → I.getD j 0 = p.getD (8 + j) 0) := Lib.hid (fun j hj => by rw [HI.out, pI]; simp only [List.getD_eq_getElem?_getD, List.getElem?_take, List.getElem?_drop]; rw [if_pos hj])
    have HIT9 : ∀ X : List UInt8, X.length = 16 → ∀ k h, Hid ((Try.prog.info? 33).map (·.size) = some (TreeV X zero32 k h).toArray.size) := fun X hX k h => Lib.hid (by rw [info_treeR, List.size_toArray, TreeV_length _ _ _ _ hX rfl])
    clear HI hp
    go_enter Try.func43, Try.ntmps43
    go_upto_region 1 with (fail)
    change Code.wp _ _ _ _ (w.alloc (.cells (TreeV zero16 zero32 0 0).toArray 33))
    rw [← HZe.out, ← HV.out]
    go_upto_region 4 with (first
      | (with_reducible refine at_build 33 _ rfl ?_; refine wpList_built rfl 33 [] rfl [] rfl _ HB0.out ?_)
      | ((with_reducible refine at_store 33 _ _ rfl ?_); refine wpList_store_new rfl 33 _ _ rfl Z rfl rfl 33 _ HIZ.out (by rw [HSZ.out]; rfl) HOZ.out ?_))
    obtain ⟨V2, HV2, HB2, HR2, HZ2⟩ : ∃ W, Hid (W = V.alloc (.cells Z 33)) ∧ Hid (Below w.heap.size w W) ∧ Hid (W.heap[w.heap.size + 1]? = some (.cells (TreeV zero16 zero32 0 0).toArray 33 (0, 0))) ∧ Hid (W.heap[w.heap.size]? = some (.cells Z 33 (0, 0))) :=
      ⟨_, Lib.hid rfl, Lib.hid (HB.out.alloc HB.out.size _), Lib.hid (by rw [← HS1.out, ← HZe.out]; exact heap_alloc_new _ _), Lib.hid ((heap_alloc_old _ _ (by rw [HS1.out]; omega)).trans HZ.out)⟩
    rw [← HV2.out, HS1.out]
    have HG1 : Hid (Sl w (.slice (some ⟨pb, po, none⟩) 4 pc) (p4 p)) := Lib.hid (by
      obtain ⟨pb', po', e, -, -, -, hcs'⟩ := Sl.cells HPW.out (by omega)
      injection e with e
      injection e with e1 e2
      subst e1
      subst e2
      have h := Sl.part hcs' 0 4 pc (by omega) (by omega) (by omega)
      rw [p4]; simpa using h)
    have HG2 : Hid (Sl w (.slice (some ⟨pb, po + 4, none⟩) 4 (pc - 4)) (p8 p)) := Lib.hid (by
      obtain ⟨pb', po', e, -, -, -, hcs'⟩ := Sl.cells HPW.out (by omega)
      injection e with e
      injection e with e1 e2
      subst e1
      subst e2
      have h := Sl.part hcs' 4 4 (pc - 4) (by omega) (by omega) (by omega)
      rw [p8]; exact h)
    obtain ⟨G, HG⟩ : ∃ G, Hid (G = p4 p) := ⟨_, Lib.hid rfl⟩
    obtain ⟨G8, HG8⟩ : ∃ G, Hid (G = p8 p) := ⟨_, Lib.hid rfl⟩
    rw [← HG.out] at HG1
    rw [← HG8.out] at HG2
    have HPC : Hid (∀ j, j < 16 → w.cell? ⟨pb, po + (8 + j), none⟩ = some (.int .u8 (bn (I.getD j 0)))) := Lib.hid (fun j hj => by
      obtain ⟨pb', po', e, -, -, -, hcs'⟩ := Sl.cells HPW.out (by omega)
      injection e with e
      injection e with e1 e2
      subst e1
      subst e2
      rw [HIB.out j hj]; exact hcs' (8 + j) (by omega))
    clear HV2 HV HP hcs
    go_upto_region 5 with (fail)
    go_loopw [5] (fun rv wr => ∃ j J : Nat, j ≤ 5 ∧ rv = .int .i64 J ∧ Hid (J = j + 1) ∧ Hid (wr.heap[w.heap.size + 1]? = some (.cells (TreeV zero16 zero32 0 (oHn p j)).toArray 33 (0, 0))) ∧ Hid (wr.heap[w.heap.size]? = some (.cells Z 33 (0, 0))) ∧ Hid (Below w.heap.size w wr)) (fun rv _ => 7 - (intOf rv).toNat)
    case atStart => exact ⟨0, 1, by omega, rfl, Lib.hid rfl, HR2, HZ2, HB2⟩
    case round =>
      obtain ⟨j, J, hj, rfl, HJ, HTj, HZj, HBj⟩ := hrel
      have hJ := HJ.out
      by_cases hlt : j < 5
      · have hlt5 : decide ((J : Int) ≤ 5) = true := decide_eq_true (by omega)
        have htd0 : 0 ≤ typedN J ∧ typedN J ≤ 105 := by rw [typedN]; split <;> omega
        obtain ⟨td, htd⟩ : ∃ td : Nat, typedN J = td := ⟨(typedN J).toNat, by omega⟩
        have HTD := Lib.hid (fun w' => typed_ref J w' (by omega))
        have HF1 := Lib.hid (fun w' => Four_ref td w' (by omega))
        rw [htd] at HTD
        obtain ⟨T4, HT4⟩ : ∃ T, Hid (T = fourN td) := ⟨_, Lib.hid rfl⟩
        have HT4L : Hid (T4.length = 4) := Lib.hid (by rw [HT4.out]; rfl)
        simp only [← HT4.out] at HF1
        have HON : Hid (oHn p (j + 1) = if T4 = G then J else oHn p j) := Lib.hid (by rw [oHn, ← hJ, htd, Int.toNat_natCast, ← HT4.out, ← HG.out])
        have hJ5 : J ≤ 5 := by omega
        clear htd htd0 hlt hJ hj
        go_upto_region 7 with (fail)
        try simp only [hlt5]
        clear hlt5
        try simp only [Act.put]
        refine Wild.region_b (fun k => match k with | 1 => some (.fix (.int .u32 td)) | 2 => some (.shut T4) | _ => none) (fun k => match k with | 3 => [2] | _ => []) rfl (by kernel_rfl) (fun vs hvs => ?_)
        have h1 : vs 1 = .int .u32 td := hvs 1 _ rfl
        obtain ⟨a2, h2⟩ := hvs 2 _ rfl
        refine Wild.walk_simple rfl (by rfl) (by rfl) (fun K hK => ?_); go_big_quiet_op; first | (refine hK _ ?_; clear hK K) | (refine ⟨_, fun _ _ => rfl, hK _ ?_⟩; clear hK K)
        refine Wild.walk_wild _ rfl (by rfl) (fun w' hw K hK => ?_) ?_
        · go_simp
          go_at_call 36
          refine (HTD.out w').mono ?_
          rintro e w'' ⟨rfl, rfl⟩
          exact hK.out _ _ hw.1 (Below.refl _ _) rfl trivial
        rw [h1]
        simp only [Act.put, List.setIfInBounds_toArray, List.set_cons_zero, List.set_cons_succ]
        refine Wild.walk_wild _ rfl (by rfl) (fun w' hw K hK => ?_) ?_
        · go_simp
          go_at_call 35
          refine (HF1.out w').mono ?_
          rintro e w'' ⟨a, rfl, s, hb⟩
          rw [← HT4L.out] at s
          rw [← HT4L.out]
          exact hK.out _ _ (hw.1.trans (hb.mono hw.1.size)) hb ⟨a, rfl⟩ s
        rw [h2]
        simp only [Act.put, List.setIfInBounds_toArray, List.set_cons_zero, List.set_cons_succ]
        refine Wild.walk_run (.string ⟨T4.toArray⟩) rfl (by rfl) (fun w' hw => ?_) ?_
        · have h : Sl w' (vs 2) T4 := hw.2 2 (by simp [Wild.tab]) rfl
          rw [h2] at h
          have := h.conv
          go_simp
        simp only [Act.put, List.setIfInBounds_toArray, List.set_cons_zero, List.set_cons_succ]
        refine Wild.walk_simple rfl (by rfl) (by rfl) (fun K hK => ?_); go_big_quiet_op; first | (refine hK _ ?_; clear hK K) | (refine ⟨_, fun _ _ => rfl, hK _ ?_⟩; clear hK K)
        refine Wild.walk_simple rfl (by rfl) (by rfl) (fun K hK => ?_); go_big_quiet_op; first | (refine hK _ ?_; clear hK K) | (refine ⟨_, fun _ _ => rfl, hK _ ?_⟩; clear hK K)
        refine Wild.walk_run (.string ⟨G.toArray⟩) rfl (by rfl) (fun w' hw => ?_) ?_
        · have h : Sl w' (.slice (some ⟨pb, po, none⟩) 4 pc) G := HG1.out.later (HBj.out.trans (Below.mono hw.1 HBj.out.size))
          have := h.conv
          go_simp
        simp only [Act.put, List.setIfInBounds_toArray, List.set_cons_zero, List.set_cons_succ]
        refine Wild.walk_simple rfl (by rfl) (by rfl) (fun K hK => ?_); go_big_quiet_op; first | (refine hK _ ?_; clear hK K) | (refine ⟨_, fun _ _ => rfl, hK _ ?_⟩; clear hK K)
        refine Wild.walk_nil ?_
        intro w5 hw5 _
        have HB5 : Hid (Below wr.heap.size wr w5) := Lib.hid hw5
        have HB6 : Hid (Below w.heap.size w w5) := Lib.hid (HBj.out.trans (Below.mono hw5 HBj.out.size))
        have HT5 := Lib.hid ((HB5.out.block _ (Array.getElem?_eq_some_iff.1 HTj.out).1).trans HTj.out)
        have HZ5 := Lib.hid ((HB5.out.block _ (Array.getElem?_eq_some_iff.1 HZj.out).1).trans HZj.out)
        generalize vs (0 + 1 + 1) = y2
        clear hw5 h1 h2 hvs
        cases hq : (T4 == G)
        · have HON' : Hid (oHn p (j + 1) = oHn p j) := Lib.hid (by rw [HON.out, if_neg (by simpa using hq)])
          clear hq
          go_upto_region 5 with (fail)
          refine ⟨⟨j + 1, J + 1, by have := HJ.out; omega, rfl, Lib.hid (by rw [HJ.out]), Lib.hid (by rw [HON'.out]; exact HT5.out), HZ5, HB6⟩, ?_⟩
          simp [intOf]; omega
        · have HON' : Hid (oHn p (j + 1) = J) := Lib.hid (by rw [HON.out, if_pos (by simpa using hq)])
          clear hq
          have kc := tree_H HT5.out rfl rfl
          have kf := frozen_of_row w5 (w.heap.size + 1) 49 _ _ HT5.out
          have HT6 := Lib.hid (tree_setH HT5.out rfl rfl (J : Int))
          have HZ6 : Hid ((w5.setCell ⟨w.heap.size + 1, 49, none⟩ (.int .i64 J)).heap[w.heap.size]? = some (.cells Z 33 (0, 0))) := Lib.hid ((heap_setCell_other _ _ _ _ (by simp)).trans HZ5.out)
          have HB7 : Hid (Below w.heap.size w (w5.setCell ⟨w.heap.size + 1, 49, none⟩ (.int .i64 J))) := Lib.hid (HB6.out.setCell (by simp) _)
          go_upto_region 5 with (fail)
          refine ⟨⟨j + 1, J + 1, by have := HJ.out; omega, rfl, Lib.hid (by rw [HJ.out]), Lib.hid (by rw [HON'.out]; exact HT6.out), HZ6, HB7⟩, ?_⟩
          simp [intOf]; omega
      · obtain rfl : j = 5 := by omega
        obtain rfl : J = 6 := hJ
        clear hlt hj HJ HB HS1 HB2 HZ2 HR2
        go_upto_region 10 with (fail)
        rw [← Hh.out] at HTj
        try simp only [show ((6 : Nat) : Int) = 6 from rfl]
        go_loopw [6] (fun rv wr => ∃ j J : Nat, j ≤ 4 ∧ rv = .int .i64 J ∧ Hid (J = 2 ^ j) ∧ Hid (wr.heap[w.heap.size + 1]? = some (.cells (TreeV zero16 zero32 (oWn p j) h).toArray 33 (0, 0))) ∧ Hid (wr.heap[w.heap.size]? = some (.cells Z 33 (0, 0))) ∧ Hid (Below w.heap.size w wr)) (fun rv _ => 32 - (intOf rv).toNat)
        case atStart => exact ⟨0, 1, by omega, rfl, Lib.hid rfl, HTj, HZj, HBj⟩
        case round =>
          clear HTj HZj HBj
          obtain ⟨j, J, hj, rfl, HJ, HTj, HZj, HBj⟩ := hrel
          have hJ := HJ.out
          by_cases hlt : j < 4
          · have hJ8 : J ≤ 8 := by rw [hJ]; exact Nat.pow_le_pow_right (n := 2) (by decide) (show j ≤ 3 by omega)
            have hlt5 : decide ((J : Int) ≤ 8) = true := decide_eq_true (by omega)
            have htd0 := typeN_bd J
            obtain ⟨td, htd⟩ : ∃ td : Nat, typeN J = td := ⟨(typeN J).toNat, by omega⟩
            have htd4 : td ≤ 4 := by omega
            have HTY := Lib.hid (fun w' => Type_ref J w')
            have HF1 := Lib.hid (fun w' => Four_ref td w' (by omega))
            rw [htd] at HTY
            obtain ⟨er, her⟩ : ∃ er, er = errW J := ⟨_, rfl⟩
            rw [← her] at HTY
            obtain ⟨T4, HT4⟩ : ∃ T, Hid (T = fourN td) := ⟨_, Lib.hid rfl⟩
            have HT4L : Hid (T4.length = 4) := Lib.hid (by rw [HT4.out]; rfl)
            simp only [← HT4.out] at HF1
            have HON : Hid (oWn p (j + 1) = if T4 = G8 then J else oWn p j) := Lib.hid (by rw [oWn, ← hJ, htd, Int.toNat_natCast, ← HT4.out, ← HG8.out])
            have hj4 : j + 1 ≤ 4 := hlt
            have hJ1 : 1 ≤ J := by rw [hJ]; exact Nat.pow_pos (by decide)
            clear htd htd0 hlt hJ hj her htd4
            go_upto_region 13 with (first
              | (go_at_call 49; refine (HTY.out wr).mono ?_; rintro e w3 ⟨rfl, hw3⟩; rw [hw3]; clear hw3))
            try simp only [hlt5]
            clear hlt5
            try simp only [Act.put]
            refine Wild.region_b (fun k => match k with | 1 => some (.shut T4) | _ => none) (fun k => match k with | 2 => [1] | _ => []) rfl (by kernel_rfl) (fun vs hvs => ?_)
            obtain ⟨a2, h2⟩ := hvs 1 _ rfl
            refine Wild.walk_simple rfl (by rfl) (by rfl) (fun K hK => ?_); go_big_quiet_op; first | (refine hK _ ?_; clear hK K) | (refine ⟨_, fun _ _ => rfl, hK _ ?_⟩; clear hK K)
            refine Wild.walk_wild _ rfl (by rfl) (fun w' hw K hK => ?_) ?_
            · go_simp
              go_at_call 35
              refine (HF1.out w').mono ?_
              rintro e w'' ⟨a, rfl, s, hb⟩
              rw [← HT4L.out] at s
              rw [← HT4L.out]
              exact hK.out _ _ (hw.1.trans (hb.mono hw.1.size)) hb ⟨a, rfl⟩ s
            rw [h2]
            simp only [Act.put, List.setIfInBounds_toArray, List.set_cons_zero, List.set_cons_succ]
            refine Wild.walk_run (.string ⟨T4.toArray⟩) rfl (by rfl) (fun w' hw => ?_) ?_
            · have h : Sl w' (vs 1) T4 := hw.2 1 (by simp [Wild.tab]) rfl
              rw [h2] at h
              have := h.conv
              go_simp
            simp only [Act.put, List.setIfInBounds_toArray, List.set_cons_zero, List.set_cons_succ]
            refine Wild.walk_simple rfl (by rfl) (by rfl) (fun K hK => ?_); go_big_quiet_op; first | (refine hK _ ?_; clear hK K) | (refine ⟨_, fun _ _ => rfl, hK _ ?_⟩; clear hK K)
            refine Wild.walk_simple rfl (by rfl) (by rfl) (fun K hK => ?_); go_big_quiet_op; first | (refine hK _ ?_; clear hK K) | (refine ⟨_, fun _ _ => rfl, hK _ ?_⟩; clear hK K)
            refine Wild.walk_run (.string ⟨G8.toArray⟩) rfl (by rfl) (fun w' hw => ?_) ?_
            · have h : Sl w' (.slice (some ⟨pb, po + 4, none⟩) 4 (pc - 4)) G8 := HG2.out.later (HBj.out.trans (Below.mono hw.1 HBj.out.size))
              have := h.conv
              go_simp
            simp only [Act.put, List.setIfInBounds_toArray, List.set_cons_zero, List.set_cons_succ]
            refine Wild.walk_simple rfl (by rfl) (by rfl) (fun K hK => ?_); go_big_quiet_op; first | (refine hK _ ?_; clear hK K) | (refine ⟨_, fun _ _ => rfl, hK _ ?_⟩; clear hK K)
            refine Wild.walk_nil ?_
            intro w5 hw5 _
            have HB5 : Hid (Below wr.heap.size wr w5) := Lib.hid hw5
            have HB6 : Hid (Below w.heap.size w w5) := Lib.hid (HBj.out.trans (HB5.out.mono HBj.out.size))
            have HT5 := Lib.hid ((HB5.out.block _ (Array.getElem?_eq_some_iff.1 HTj.out).1).trans HTj.out)
            have HZ5 := Lib.hid ((HB5.out.block _ (Array.getElem?_eq_some_iff.1 HZj.out).1).trans HZj.out)
            generalize vs (0 + 1) = y2
            clear hw5 h2 hvs
            cases hq : (T4 == G8)
            · have HON' : Hid (oWn p (j + 1) = oWn p j) := Lib.hid (by rw [HON.out, if_neg (by simpa using hq)])
              clear hq
              go_wp2_with fail
              go_roundw
              case rel => exact ⟨j + 1, 2 * J, hj4, by go_num, Lib.hid (by rw [HJ.out, Nat.pow_succ]; omega), Lib.hid (by rw [HON'.out]; exact HT5.out), HZ5, HB6⟩
              case measure => simp [intOf]; omega
            · have HON' : Hid (oWn p (j + 1) = J) := Lib.hid (by rw [HON.out, if_pos (by simpa using hq)])
              clear hq
              have kc := tree_W HT5.out rfl rfl
              have kf := frozen_of_row w5 (w.heap.size + 1) 48 _ _ HT5.out
              have HT6 := Lib.hid (tree_setW HT5.out rfl rfl (J : Int))
              have HZ6 : Hid ((w5.setCell ⟨w.heap.size + 1, 48, none⟩ (.int .i64 J)).heap[w.heap.size]? = some (.cells Z 33 (0, 0))) := Lib.hid ((heap_setCell_other _ _ _ _ (by simp)).trans HZ5.out)
              have HB7 : Hid (Below w.heap.size w (w5.setCell ⟨w.heap.size + 1, 48, none⟩ (.int .i64 J))) := Lib.hid (HB6.out.setCell (by simp) _)
              go_wp2_with fail
              go_roundw
              case rel => exact ⟨j + 1, 2 * J, hj4, by go_num, Lib.hid (by rw [HJ.out, Nat.pow_succ]; omega), Lib.hid (by rw [HON'.out]; exact HT6.out), HZ6, HB7⟩
              case measure => simp [intOf]; omega
          · obtain rfl : j = 4 := by omega
            obtain rfl : J = 16 := hJ
            rw [← Hk.out] at HTj
            have hd : decide ((16 : Int) ≤ 8) = false := by decide
            clear hlt hj HJ hd
            go_upto_region 16 with (fail)
            go_loopw [9] (fun iv wi => ∃ i : Nat, i ≤ 16 ∧ iv = .int .i64 i ∧ Hid (wi.heap[w.heap.size + 1]? = some (.cells (TreeV (I.take i ++ List.replicate (16 - i) 0) zero32 k h).toArray 33 (0, 0))) ∧ Hid (wi.heap[w.heap.size]? = some (.cells Z 33 (0, 0))) ∧ Hid (Below w.heap.size w wi)) (fun iv _ => 17 - (intOf iv).toNat)
            case atStart => exact ⟨0, by omega, rfl, HTj, HZj, HBj⟩
            case round =>
              clear HTj HZj HBj
              obtain ⟨i, hi, rfl, HTk, HZk, HBk⟩ := hrel
              by_cases hlt : i < 16
              · have hlti : (i : Int) < 16 := by omega
                have hb1 : (8 : Int) + i < 56 := by omega
                have hsc : wr.cell? ⟨pb, po + (8 + i), none⟩ = some (.int .u8 (bn (I.getD i 0))) := by
                  rw [HBk.out.cell (World.block_lt_of_cell? _ _ (HPC.out i hlt))]; exact HPC.out i hlt
                obtain ⟨X, HX⟩ : ∃ X, Hid (X = I.take i ++ List.replicate (16 - i) 0) := ⟨_, Lib.hid rfl⟩
                have HXL : Hid (X.length = 16) := Lib.hid (by rw [HX.out, List.length_append, List.length_take, List.length_replicate, HIL.out]; omega)
                rw [← HX.out] at HTk
                have hcell := tree_Icell HTk.out HXL.out i hlt
                have hfz := frozen_of_row wr (w.heap.size + 1) i _ _ HTk.out
                obtain ⟨xj, Hxj⟩ : ∃ xj, Hid (xj = I.getD i 0) := ⟨_, Lib.hid rfl⟩
                rw [← Hxj.out] at hsc
                have HSF : Hid (X.set i xj = I.take (i + 1) ++ List.replicate (16 - (i + 1)) 0) := Lib.hid (by
                  rw [HX.out, Hxj.out, set_fill8 (I.take i) 16 i (I.getD i 0) (by rw [List.length_take, HIL.out]; omega) (by omega), take_snoc8 I i (by rw [HIL.out]; omega)])
                generalize X.getD i 0 = old at hcell
                have HT6 := Lib.hid (tree_setI HTk.out HXL.out i hlt xj)
                rw [HSF.out] at HT6
                have HZ6 : Hid ((wr.setCell ⟨w.heap.size + 1, i, none⟩ (.int .u8 (bn xj))).heap[w.heap.size]? = some (.cells Z 33 (0, 0))) := Lib.hid ((heap_setCell_other _ _ _ _ (by simp)).trans HZk.out)
                have HB6 : Hid (Below w.heap.size w (wr.setCell ⟨w.heap.size + 1, i, none⟩ (.int .u8 (bn xj)))) := Lib.hid (HBk.out.setCell (by simp) _)
                go_wp2_with fail
                exact ⟨⟨i + 1, by omega, by go_num, HT6, HZ6, HB6⟩, by simp [intOf]; omega⟩
              · obtain rfl : i = 16 := by omega
                rw [List.take_of_length_le (by rw [HIL.out]; omega), show 16 - 16 = 0 from rfl, List.replicate_zero, List.append_nil] at HTk
                rw [show ((16 : Nat) : Int) = 16 from rfl]
                have hd16 : decide ((16 : Int) < 16) = false := by decide
                clear hlt hi hd16
                go_upto_region 19 with (fail)
                try simp only [Act.put]
                refine Wild.region_tail2_b 3 (fun n => match n with | 2 => some (.fix (.bool ok)) | _ => none) (fun _ => []) rfl rfl rfl rfl rfl (by kernel_rfl) (by kernel_rfl) (by kernel_rfl) (by kernel_rfl) (fun vs hvs => ?_)
                have h2 : vs 2 = .bool ok := hvs 2 _ rfl
                simp only [List.take_succ_cons, List.take_zero]
                refine Wild.walk_load 33 _ _ _ (TreeV I zero32 k h) _ rfl (by rfl) rfl rfl (fun w' hw => rangeAt_blw (rangeAt_row HTk.out) hw.1) Try.underlying33 rfl HITL.out ?_
                simp only [Act.put, List.setIfInBounds_toArray, List.set_cons_zero, List.set_cons_succ]
                refine Wild.walk_load 33 _ _ _ (TreeV I zero32 k h) _ rfl (by rfl) rfl rfl (fun w' hw => rangeAt_blw (rangeAt_row HTk.out) hw.1) Try.underlying33 rfl HITL.out ?_
                simp only [Act.put, List.setIfInBounds_toArray, List.set_cons_zero, List.set_cons_succ]
                refine Wild.walk_wild _ rfl (by rfl) (fun w' hw K hK => ?_) ?_
                · go_simp
                  go_at_call 31
                  refine (HMA.out w').mono ?_
                  rintro e w'' ⟨rfl, hb⟩
                  exact hK.out _ _ (hw.1.trans (hb.mono hw.1.size)) hb rfl trivial
                rw [h2]
                simp only [Act.put, List.setIfInBounds_toArray, List.set_cons_zero, List.set_cons_succ]
                refine Wild.walk_nil ?_
                intro w7 hw7 _
                have HZ7 := Lib.hid ((Below.block hw7 _ (Array.getElem?_eq_some_iff.1 HZk.out).1).trans HZk.out)
                have HB7 : Hid (Below w.heap.size w w7) := Lib.hid (HBk.out.trans (Below.mono hw7 HBk.out.size))
                have HZ8 := Lib.hid (setRow_heap w7 w.heap.size _ (TreeV I zero32 k h).toArray _ _ HZ7.out)
                have HB8 := Lib.hid (below_row HB7.out (Nat.le_refl _) (TreeV I zero32 k h).toArray)
                clear hw7 h2 hvs
                refine wp_store_row 33 _ _ rfl _ (TreeV I zero32 k h).toArray rfl rfl 33 _ HZ7.out (HIT k h).out (by rw [HSZ.out, (HST k h).out]) (TreeV_one _ _ _ _) ?_
                go_wp2_with fail
                exact bodyPost_ret (results_cell_row_tmp rfl _ _ w.heap.size 33 _ (0, 0) _ rfl HZ8.out Try.underlying33 rfl (HIT k h).out) rfl ⟨rfl, HB8.out⟩
  · have HL : Hid (openI p = zero16 ∧ openW p = 0 ∧ openH p = 0 ∧ openOk p = false) := Lib.hid ⟨by rw [openI, if_neg h56], by rw [openW, if_neg h56], by rw [openH, if_neg h56], by rw [openOk, decide_eq_false h56]; rfl⟩
    rw [HL.out.2.2.2, HL.out.1, HL.out.2.1, HL.out.2.2.1]
    have hne : ¬ (p.length : Int) = 56 := by omega
    clear hp
    go_enter Try.func43, Try.ntmps43
    go_upto_region 1 with (fail)
    change Code.wp _ _ _ _ (w.alloc (.cells (TreeV zero16 zero32 0 0).toArray 33))
    rw [← HZe.out, ← HV.out]
    go_wp2_with (first
      | (with_reducible refine at_build 33 _ rfl ?_; refine wpList_built rfl 33 [] rfl [] rfl _ HB0.out ?_)
      | (with_reducible refine at_store 33 _ _ rfl ?_; refine wpList_store_same rfl 33 _ _ rfl _ Z rfl rfl 33 HZ.out HIZ.out HOZ.out ?_))
    exact bodyPost_ret (results_cell_row_tmp rfl _ _ w.heap.size 33 _ (0, 0) _ rfl HZ.out Try.underlying33 rfl HIZ.out) rfl ⟨by rw [HZe.out]; rfl, HB.out⟩
end Go.Proofs.Ytabdbdnhbiopaaa


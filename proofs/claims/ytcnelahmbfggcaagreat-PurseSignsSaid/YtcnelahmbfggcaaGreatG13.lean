/- The walks of the document's low and high. -/
import Derived.Test.YtcnelahmbfggcaaGreatG12
import Derived.Test.YtcnelahmbfggcaaGreatG4
import Derived.Test.YtcnelahmbfggcaaGreatG9
import Derived.Test.YtcnelahmbfggcaaGreatG10
namespace Go.Proofs.YtcnelahmbfggcaaGreat
open Go Go.RowKit
set_option maxRecDepth 100000
set_option maxHeartbeats 1000000

theorem low_ref (I : List UInt8) (r : Nat) (x : List UInt8) (w : World) (hI : I.length = 16) (hr : r < 4294967296) (hx : x.length = 32) :
    Calls Tryz.prog 52 #[.agg (B8 I).toArray, .int .i64 r, .agg (B8 x).toArray] w fun e w' => e = .returned (.agg (B8 (hashN I r 33410 [x])).toArray) ∧ Below w.heap.size w w' := by
  obtain ⟨V0, HV0, HB0, HS0, HR0_0⟩ : ∃ V0, Hid (V0 = w.alloc (.cells (B8 I).toArray 22)) ∧ Hid (Below w.heap.size w V0) ∧ Hid (V0.heap.size = w.heap.size + 1) ∧ Hid (V0.heap[w.heap.size]? = some (.cells (B8 I).toArray 22 (0, 0))) := ⟨_, Lib.hid rfl, Lib.hid ((Below.refl _ _).alloc (Nat.le_refl _) _), Lib.hid (by simp), Lib.hid (heap_alloc_new _ _)⟩
  obtain ⟨V1, HV1, HB1, HS1, HR1_0, HR1_1⟩ : ∃ V1, Hid (V1 = V0.alloc (.cells (B8 x).toArray 23)) ∧ Hid (Below w.heap.size w V1) ∧ Hid (V1.heap.size = w.heap.size + 2) ∧ Hid (V1.heap[w.heap.size]? = some (.cells (B8 I).toArray 22 (0, 0))) ∧ Hid (V1.heap[w.heap.size + 1]? = some (.cells (B8 x).toArray 23 (0, 0))) := ⟨_, Lib.hid rfl, Lib.hid (HB0.out.alloc HB0.out.size _), Lib.hid (by simp [HS0.out]), Lib.hid ((heap_alloc_old _ _ (by rw [HS0.out]; omega)).trans HR0_0.out), Lib.hid (by rw [← HS0.out]; exact heap_alloc_new _ _)⟩
  obtain ⟨V2, HV2, HB2, HS2, HR2_0, HR2_1, HR2_2⟩ : ∃ V2, Hid (V2 = V1.alloc (.cells (Array.replicate 32 (.int .u8 0)) 23)) ∧ Hid (Below w.heap.size w V2) ∧ Hid (V2.heap.size = w.heap.size + 3) ∧ Hid (V2.heap[w.heap.size]? = some (.cells (B8 I).toArray 22 (0, 0))) ∧ Hid (V2.heap[w.heap.size + 1]? = some (.cells (B8 x).toArray 23 (0, 0))) ∧ Hid (V2.heap[w.heap.size + 2]? = some (.cells (Array.replicate 32 (.int .u8 0)) 23 (0, 0))) := ⟨_, Lib.hid rfl, Lib.hid (HB1.out.alloc HB1.out.size _), Lib.hid (by simp [HS1.out]), Lib.hid ((heap_alloc_old _ _ (by rw [HS1.out]; omega)).trans HR1_0.out), Lib.hid ((heap_alloc_old _ _ (by rw [HS1.out]; omega)).trans HR1_1.out), Lib.hid (by rw [← HS1.out]; exact heap_alloc_new _ _)⟩
  obtain ⟨V, HV⟩ : ∃ V, Hid (V = V2) := ⟨_, Lib.hid rfl⟩
  rw [← HV.out] at HV2 HB2 HS2 HR2_0 HR2_1 HR2_2
  have HB := HB2
  have HS := HS2
  have HZ := HR2_2
  have HBE : Hid (Below V.heap.size V (V.alloc (.cells #[] 5))) := Lib.hid ((Below.refl _ _).alloc (Nat.le_refl _) _)
  have HOE : Hid (Own8 (V.alloc (.cells #[] 5)) V.heap.size (.slice (some ⟨V.heap.size, 0, none⟩) 0 0) []) := Lib.hid (own_none V)
  have SI0 : Hid (Sl V (.slice (some ⟨w.heap.size, 0, none⟩) 16 16) I) := Lib.hid (Sl.ofBlock HR2_0.out hI.symm (Nat.le_refl _) (by simp [maxLen]) fun i hi => by rw [Nat.zero_add, List.getElem?_toArray])
  have Sx : Hid (Sl V (.slice (some ⟨w.heap.size + 1, 0, none⟩) 32 32) x) := Lib.hid (Sl.ofBlock HR2_1.out hx.symm (Nat.le_refl _) (by simp [maxLen]) fun i hi => by rw [Nat.zero_add, List.getElem?_toArray])
  have SI := Lib.hid (SI0.out.later HBE.out)
  have HF := Lib.hid (fun w' => Four_ref r w' hr)
  have hrm : (r : Int) % 4294967296 = r := by omega
  obtain ⟨T, HT⟩ : ∃ T, Hid (T = twoN 33410) := ⟨_, Lib.hid rfl⟩
  have HTL : Hid (T.length = 2) := Lib.hid (by rw [HT.out]; rfl)
  have HTC : Hid (#[Value.int .u8 130, .int .u8 130] = (B8 T).toArray) := Lib.hid (by rw [HT.out]; rfl)
  obtain ⟨L2, HL2⟩ : ∃ L, Hid (L = I ++ fourN r) := ⟨_, Lib.hid rfl⟩
  have HN2 : Hid (L2.length = 20) := Lib.hid (by rw [HL2.out, List.length_append, hI]; rfl)
  obtain ⟨L3, HL3⟩ : ∃ L, Hid (L = L2 ++ T) := ⟨_, Lib.hid rfl⟩
  have HN3 : Hid (L3.length = 22) := Lib.hid (by rw [HL3.out, List.length_append, HN2.out, HTL.out])
  obtain ⟨L4, HL4⟩ : ∃ L, Hid (L = L3 ++ x) := ⟨_, Lib.hid rfl⟩
  have HN4 : Hid (L4.length = 54) := Lib.hid (by rw [HL4.out, List.length_append, HN3.out, hx])
  obtain ⟨R, HR⟩ : ∃ R, Hid (R = hashN I r 33410 [x]) := ⟨_, Lib.hid rfl⟩
  have HRP : Hid (R = sha L4) := Lib.hid (by rw [HR.out, hashN, HL4.out, HL3.out, HL2.out, HT.out]; simp)
  have HRL : Hid (R.length = 32) := Lib.hid (by rw [HRP.out]; exact sha_length _)
  have J32 : Hid ((Tryz.prog.info? 23).map (·.size) = some (B8 R).toArray.size) := Lib.hid (by rw [info_32]; simp [B8_length, HRL.out])
  have HI := Lib.hid hI
  have Hx := Lib.hid hx
  rw [← HR.out]
  clear hI hx
  go_enter Tryz.func52, Tryz.ntmps52
  go_upto_region 1 with (fail)
  change Code.wp _ _ _ _ (((w.alloc (.cells (B8 I).toArray 22)).alloc (.cells (B8 x).toArray 23)).alloc (.cells (Array.replicate 32 (.int .u8 0)) 23))
  rw [← HV0.out, ← HV1.out, ← HV2.out]
  go_wp2_with (first
    | (go_at_call 44; refine (HF.out _).mono ?_; rintro e w3 ⟨a3, rfl, s3, b3⟩; have HF3 := Lib.hid s3; have HB3 := Lib.hid (HB2.out.trans (b3.mono HB2.out.size)); have HO3 := Lib.hid (HO2.out.later b3); clear s3 b3)
    | (at_builtin; refine wpList_append8 rfl _ _ rfl V.heap.size _ [] rfl HOE.out _ I rfl SI.out (by simp [HI.out]) HBE.out.size ?_; intro v2 w2 hv2 hg2 _; have HB2 := Lib.hid (HBE.out.trans (HOE.out.below hg2 HBE.out.size)); rw [List.nil_append] at hv2; have HO2 := Lib.hid hv2; clear hv2 hg2)
    | (at_builtin; refine wpList_append8 rfl _ _ rfl V.heap.size _ I rfl HO3.out _ (fourN r) rfl HF3.out (by simp [HI.out, fourN]) HB3.out.size ?_; intro v4 w4 hv4 hg4 _; have HB4 := Lib.hid ((HB3.out.trans (HO3.out.below hg4 HB3.out.size)).alloc (HB3.out.trans (HO3.out.below hg4 HB3.out.size)).size (.cells #[.int .u8 130, .int .u8 130] 5)); rw [← HL2.out] at hv4; have HO4 := Lib.hid (hv4.later ((Below.refl _ _).alloc (Nat.le_refl _) (.cells #[.int .u8 130, .int .u8 130] 5))); have HF4 := Lib.hid (Sl.made w4 T 5 _ 2 _ HTC.out (by rw [HTL.out]) (by decide) rfl); clear hv4 hg4)
    | (at_builtin; refine wpList_append8 rfl _ _ rfl V.heap.size _ L2 rfl HO4.out _ T rfl HF4.out (by rw [HN2.out, HTL.out]; decide) HB4.out.size ?_; intro v5 w5 hv5 hg5 _; have HB5 := Lib.hid (HB4.out.trans (Own8.below HO4.out hg5 HB4.out.size)); rw [← HL3.out] at hv5; have HO5 := Lib.hid hv5; clear hv5 hg5)
    | (at_builtin; refine wpList_append8 rfl _ _ rfl V.heap.size _ L3 rfl HO5.out _ x rfl (Sx.out.later HB5.out) (by rw [HN3.out, Hx.out]; decide) HB5.out.size ?_; intro v6 w6 hv6 hg6 _; have HB6 := Lib.hid (HB5.out.trans (Own8.below HO5.out hg6 HB5.out.size)); rw [← HL4.out] at hv6; have HO6 := Lib.hid hv6; clear hv6 hg6)
    | (go_at_call 78; refine (Sum_ref _ _ w6 HO6.out.sl (by rw [HN4.out]; decide)).mono ?_; rintro e w9 ⟨rfl, b9⟩; rw [← HRP.out]; have HB9 := Lib.hid (HB6.out.trans (b9.mono HB6.out.size)); have HZ9 := Lib.hid ((HB9.out.block _ (by rw [HS.out]; omega)).trans HZ.out); clear b9)
    | (refine wpList_store_row rfl 23 _ _ rfl _ (B8 R).toArray rfl rfl 23 _ HZ9.out J32.out (by simp [B8_length, HRL.out]) (B8_oneA R) ?_))
  exact bodyPost_ret (results_cell_row rfl _ _ (w.heap.size + 2) 23 _ (0, 0) _ rfl (setRow_heap _ _ _ _ _ _ HZ9.out) Tryz.underlying23 rfl J32.out) rfl ⟨rfl, below_row (HB.out.trans (HB9.out.mono HB.out.size)) (by omega) _⟩
theorem high_ref (I : List UInt8) (r : Nat) (x : List UInt8) (y : List UInt8) (w : World) (hI : I.length = 16) (hr : r < 4294967296) (hx : x.length = 32) (hy : y.length = 32) :
    Calls Tryz.prog 53 #[.agg (B8 I).toArray, .int .i64 r, .agg (B8 x).toArray, .agg (B8 y).toArray] w fun e w' => e = .returned (.agg (B8 (hashN I r 33667 [x, y])).toArray) ∧ Below w.heap.size w w' := by
  obtain ⟨V0, HV0, HB0, HS0, HR0_0⟩ : ∃ V0, Hid (V0 = w.alloc (.cells (B8 I).toArray 22)) ∧ Hid (Below w.heap.size w V0) ∧ Hid (V0.heap.size = w.heap.size + 1) ∧ Hid (V0.heap[w.heap.size]? = some (.cells (B8 I).toArray 22 (0, 0))) := ⟨_, Lib.hid rfl, Lib.hid ((Below.refl _ _).alloc (Nat.le_refl _) _), Lib.hid (by simp), Lib.hid (heap_alloc_new _ _)⟩
  obtain ⟨V1, HV1, HB1, HS1, HR1_0, HR1_1⟩ : ∃ V1, Hid (V1 = V0.alloc (.cells (B8 x).toArray 23)) ∧ Hid (Below w.heap.size w V1) ∧ Hid (V1.heap.size = w.heap.size + 2) ∧ Hid (V1.heap[w.heap.size]? = some (.cells (B8 I).toArray 22 (0, 0))) ∧ Hid (V1.heap[w.heap.size + 1]? = some (.cells (B8 x).toArray 23 (0, 0))) := ⟨_, Lib.hid rfl, Lib.hid (HB0.out.alloc HB0.out.size _), Lib.hid (by simp [HS0.out]), Lib.hid ((heap_alloc_old _ _ (by rw [HS0.out]; omega)).trans HR0_0.out), Lib.hid (by rw [← HS0.out]; exact heap_alloc_new _ _)⟩
  obtain ⟨V2, HV2, HB2, HS2, HR2_0, HR2_1, HR2_2⟩ : ∃ V2, Hid (V2 = V1.alloc (.cells (B8 y).toArray 23)) ∧ Hid (Below w.heap.size w V2) ∧ Hid (V2.heap.size = w.heap.size + 3) ∧ Hid (V2.heap[w.heap.size]? = some (.cells (B8 I).toArray 22 (0, 0))) ∧ Hid (V2.heap[w.heap.size + 1]? = some (.cells (B8 x).toArray 23 (0, 0))) ∧ Hid (V2.heap[w.heap.size + 2]? = some (.cells (B8 y).toArray 23 (0, 0))) := ⟨_, Lib.hid rfl, Lib.hid (HB1.out.alloc HB1.out.size _), Lib.hid (by simp [HS1.out]), Lib.hid ((heap_alloc_old _ _ (by rw [HS1.out]; omega)).trans HR1_0.out), Lib.hid ((heap_alloc_old _ _ (by rw [HS1.out]; omega)).trans HR1_1.out), Lib.hid (by rw [← HS1.out]; exact heap_alloc_new _ _)⟩
  obtain ⟨V3, HV3, HB3, HS3, HR3_0, HR3_1, HR3_2, HR3_3⟩ : ∃ V3, Hid (V3 = V2.alloc (.cells (Array.replicate 32 (.int .u8 0)) 23)) ∧ Hid (Below w.heap.size w V3) ∧ Hid (V3.heap.size = w.heap.size + 4) ∧ Hid (V3.heap[w.heap.size]? = some (.cells (B8 I).toArray 22 (0, 0))) ∧ Hid (V3.heap[w.heap.size + 1]? = some (.cells (B8 x).toArray 23 (0, 0))) ∧ Hid (V3.heap[w.heap.size + 2]? = some (.cells (B8 y).toArray 23 (0, 0))) ∧ Hid (V3.heap[w.heap.size + 3]? = some (.cells (Array.replicate 32 (.int .u8 0)) 23 (0, 0))) := ⟨_, Lib.hid rfl, Lib.hid (HB2.out.alloc HB2.out.size _), Lib.hid (by simp [HS2.out]), Lib.hid ((heap_alloc_old _ _ (by rw [HS2.out]; omega)).trans HR2_0.out), Lib.hid ((heap_alloc_old _ _ (by rw [HS2.out]; omega)).trans HR2_1.out), Lib.hid ((heap_alloc_old _ _ (by rw [HS2.out]; omega)).trans HR2_2.out), Lib.hid (by rw [← HS2.out]; exact heap_alloc_new _ _)⟩
  obtain ⟨V, HV⟩ : ∃ V, Hid (V = V3) := ⟨_, Lib.hid rfl⟩
  rw [← HV.out] at HV3 HB3 HS3 HR3_0 HR3_1 HR3_2 HR3_3
  have HB := HB3
  have HS := HS3
  have HZ := HR3_3
  have HBE : Hid (Below V.heap.size V (V.alloc (.cells #[] 5))) := Lib.hid ((Below.refl _ _).alloc (Nat.le_refl _) _)
  have HOE : Hid (Own8 (V.alloc (.cells #[] 5)) V.heap.size (.slice (some ⟨V.heap.size, 0, none⟩) 0 0) []) := Lib.hid (own_none V)
  have SI0 : Hid (Sl V (.slice (some ⟨w.heap.size, 0, none⟩) 16 16) I) := Lib.hid (Sl.ofBlock HR3_0.out hI.symm (Nat.le_refl _) (by simp [maxLen]) fun i hi => by rw [Nat.zero_add, List.getElem?_toArray])
  have Sx : Hid (Sl V (.slice (some ⟨w.heap.size + 1, 0, none⟩) 32 32) x) := Lib.hid (Sl.ofBlock HR3_1.out hx.symm (Nat.le_refl _) (by simp [maxLen]) fun i hi => by rw [Nat.zero_add, List.getElem?_toArray])
  have Sy : Hid (Sl V (.slice (some ⟨w.heap.size + 2, 0, none⟩) 32 32) y) := Lib.hid (Sl.ofBlock HR3_2.out hy.symm (Nat.le_refl _) (by simp [maxLen]) fun i hi => by rw [Nat.zero_add, List.getElem?_toArray])
  have SI := Lib.hid (SI0.out.later HBE.out)
  have HF := Lib.hid (fun w' => Four_ref r w' hr)
  have hrm : (r : Int) % 4294967296 = r := by omega
  obtain ⟨T, HT⟩ : ∃ T, Hid (T = twoN 33667) := ⟨_, Lib.hid rfl⟩
  have HTL : Hid (T.length = 2) := Lib.hid (by rw [HT.out]; rfl)
  have HTC : Hid (#[Value.int .u8 131, .int .u8 131] = (B8 T).toArray) := Lib.hid (by rw [HT.out]; rfl)
  obtain ⟨L2, HL2⟩ : ∃ L, Hid (L = I ++ fourN r) := ⟨_, Lib.hid rfl⟩
  have HN2 : Hid (L2.length = 20) := Lib.hid (by rw [HL2.out, List.length_append, hI]; rfl)
  obtain ⟨L3, HL3⟩ : ∃ L, Hid (L = L2 ++ T) := ⟨_, Lib.hid rfl⟩
  have HN3 : Hid (L3.length = 22) := Lib.hid (by rw [HL3.out, List.length_append, HN2.out, HTL.out])
  obtain ⟨L4, HL4⟩ : ∃ L, Hid (L = L3 ++ x) := ⟨_, Lib.hid rfl⟩
  have HN4 : Hid (L4.length = 54) := Lib.hid (by rw [HL4.out, List.length_append, HN3.out, hx])
  obtain ⟨L5, HL5⟩ : ∃ L, Hid (L = L4 ++ y) := ⟨_, Lib.hid rfl⟩
  have HN5 : Hid (L5.length = 86) := Lib.hid (by rw [HL5.out, List.length_append, HN4.out, hy])
  obtain ⟨R, HR⟩ : ∃ R, Hid (R = hashN I r 33667 [x, y]) := ⟨_, Lib.hid rfl⟩
  have HRP : Hid (R = sha L5) := Lib.hid (by rw [HR.out, hashN, HL5.out, HL4.out, HL3.out, HL2.out, HT.out]; simp)
  have HRL : Hid (R.length = 32) := Lib.hid (by rw [HRP.out]; exact sha_length _)
  have J32 : Hid ((Tryz.prog.info? 23).map (·.size) = some (B8 R).toArray.size) := Lib.hid (by rw [info_32]; simp [B8_length, HRL.out])
  have HI := Lib.hid hI
  have Hx := Lib.hid hx
  have Hy := Lib.hid hy
  rw [← HR.out]
  clear hI hx hy
  go_enter Tryz.func53, Tryz.ntmps53
  go_upto_region 1 with (fail)
  change Code.wp _ _ _ _ ((((w.alloc (.cells (B8 I).toArray 22)).alloc (.cells (B8 x).toArray 23)).alloc (.cells (B8 y).toArray 23)).alloc (.cells (Array.replicate 32 (.int .u8 0)) 23))
  rw [← HV0.out, ← HV1.out, ← HV2.out, ← HV3.out]
  go_wp2_with (first
    | (go_at_call 44; refine (HF.out _).mono ?_; rintro e w3 ⟨a3, rfl, s3, b3⟩; have HF3 := Lib.hid s3; have HB3 := Lib.hid (HB2.out.trans (b3.mono HB2.out.size)); have HO3 := Lib.hid (HO2.out.later b3); clear s3 b3)
    | (at_builtin; refine wpList_append8 rfl _ _ rfl V.heap.size _ [] rfl HOE.out _ I rfl SI.out (by simp [HI.out]) HBE.out.size ?_; intro v2 w2 hv2 hg2 _; have HB2 := Lib.hid (HBE.out.trans (HOE.out.below hg2 HBE.out.size)); rw [List.nil_append] at hv2; have HO2 := Lib.hid hv2; clear hv2 hg2)
    | (at_builtin; refine wpList_append8 rfl _ _ rfl V.heap.size _ I rfl HO3.out _ (fourN r) rfl HF3.out (by simp [HI.out, fourN]) HB3.out.size ?_; intro v4 w4 hv4 hg4 _; have HB4 := Lib.hid ((HB3.out.trans (HO3.out.below hg4 HB3.out.size)).alloc (HB3.out.trans (HO3.out.below hg4 HB3.out.size)).size (.cells #[.int .u8 131, .int .u8 131] 5)); rw [← HL2.out] at hv4; have HO4 := Lib.hid (hv4.later ((Below.refl _ _).alloc (Nat.le_refl _) (.cells #[.int .u8 131, .int .u8 131] 5))); have HF4 := Lib.hid (Sl.made w4 T 5 _ 2 _ HTC.out (by rw [HTL.out]) (by decide) rfl); clear hv4 hg4)
    | (at_builtin; refine wpList_append8 rfl _ _ rfl V.heap.size _ L2 rfl HO4.out _ T rfl HF4.out (by rw [HN2.out, HTL.out]; decide) HB4.out.size ?_; intro v5 w5 hv5 hg5 _; have HB5 := Lib.hid (HB4.out.trans (Own8.below HO4.out hg5 HB4.out.size)); rw [← HL3.out] at hv5; have HO5 := Lib.hid hv5; clear hv5 hg5)
    | (at_builtin; refine wpList_append8 rfl _ _ rfl V.heap.size _ L3 rfl HO5.out _ x rfl (Sx.out.later HB5.out) (by rw [HN3.out, Hx.out]; decide) HB5.out.size ?_; intro v6 w6 hv6 hg6 _; have HB6 := Lib.hid (HB5.out.trans (Own8.below HO5.out hg6 HB5.out.size)); rw [← HL4.out] at hv6; have HO6 := Lib.hid hv6; clear hv6 hg6)
    | (at_builtin; refine wpList_append8 rfl _ _ rfl V.heap.size _ L4 rfl HO6.out _ y rfl (Sy.out.later HB6.out) (by rw [HN4.out, Hy.out]; decide) HB6.out.size ?_; intro v7 w7 hv7 hg7 _; have HB7 := Lib.hid (HB6.out.trans (Own8.below HO6.out hg7 HB6.out.size)); rw [← HL5.out] at hv7; have HO7 := Lib.hid hv7; clear hv7 hg7)
    | (go_at_call 78; refine (Sum_ref _ _ w7 HO7.out.sl (by rw [HN5.out]; decide)).mono ?_; rintro e w9 ⟨rfl, b9⟩; rw [← HRP.out]; have HB9 := Lib.hid (HB7.out.trans (b9.mono HB7.out.size)); have HZ9 := Lib.hid ((HB9.out.block _ (by rw [HS.out]; omega)).trans HZ.out); clear b9)
    | (refine wpList_store_row rfl 23 _ _ rfl _ (B8 R).toArray rfl rfl 23 _ HZ9.out J32.out (by simp [B8_length, HRL.out]) (B8_oneA R) ?_))
  exact bodyPost_ret (results_cell_row rfl _ _ (w.heap.size + 3) 23 _ (0, 0) _ rfl (setRow_heap _ _ _ _ _ _ HZ9.out) Tryz.underlying23 rfl J32.out) rfl ⟨rfl, below_row (HB.out.trans (HB9.out.mono HB.out.size)) (by omega) _⟩
end Go.Proofs.YtcnelahmbfggcaaGreat

/- The walks of the document's knot. -/
namespace Go.Proofs.YtcnelahmbfggcaaGreat
open Go Go.RowKit
set_option maxRecDepth 100000
set_option maxHeartbeats 1000000
attribute [local irreducible] Wild.walk WildF.walk

theorem knot_leafR (I S : List UInt8) (k : Int) (H r : Nat) (w : World) (hI : I.length = 16) (hS : S.length = 32) (hH : H ≤ 5) (hr1 : 2 ^ H ≤ r) (hr2 : r < 2 ^ (H + 1)) :
    Calls Tryz.prog 46 #[.agg (TreeV I S k H).toArray, .int .i64 r] w fun e w' => e = .returned (.agg (B8 (knotL I S k H 0 r)).toArray) ∧ Below w.heap.size w w' := by
  obtain ⟨W0, HW0, HB0, HS0, HR0⟩ : ∃ V, Hid (V = w.alloc (.cells (TreeV I S k H).toArray 31)) ∧ Hid (Below w.heap.size w V) ∧ Hid (V.heap.size = w.heap.size + 1) ∧ Hid (V.heap[w.heap.size]? = some (.cells (TreeV I S k H).toArray 31 (0, 0))) := ⟨_, Lib.hid rfl, Lib.hid ((Below.refl _ _).alloc (Nat.le_refl _) _), Lib.hid (by simp), Lib.hid (heap_alloc_new _ _)⟩
  obtain ⟨V, HV, HB, HS2, HR, HZ⟩ : ∃ V, Hid (V = W0.alloc (.cells (Array.replicate 32 (.int .u8 0)) 23)) ∧ Hid (Below w.heap.size w V) ∧ Hid (V.heap.size = w.heap.size + 2) ∧ Hid (V.heap[w.heap.size]? = some (.cells (TreeV I S k H).toArray 31 (0, 0))) ∧ Hid (V.heap[w.heap.size + 1]? = some (.cells (Array.replicate 32 (.int .u8 0)) 23 (0, 0))) :=
    ⟨_, Lib.hid rfl, Lib.hid (HB0.out.alloc HB0.out.size _), Lib.hid (by simp [HS0.out]), Lib.hid ((heap_alloc_old _ _ (by rw [HS0.out]; omega)).trans HR0.out), Lib.hid (by rw [← HS0.out]; exact heap_alloc_new _ _)⟩
  have IT : Hid ((Tryz.prog.info? 31).map (·.size) = some (TreeV I S k H).toArray.size) := Lib.hid (by rw [info_treeR, List.size_toArray, TreeV_length _ _ _ _ hI hS])
  have I16L : Hid ((Tryz.prog.info? 22).map (·.size) = some (B8 I).length) := Lib.hid (by rw [info_16]; simp [B8_length, hI])
  have kh := tree_H HR.out hI hS
  obtain ⟨p5, p1⟩ := pow5 H hH
  have HLV := Lib.hid (fun w' => leaves_ref H w' hH)
  obtain ⟨P, HP⟩ : ∃ P, Hid (P = 2 ^ H) := ⟨_, Lib.hid rfl⟩
  rw [← HP.out] at p5 p1 hr1 HLV
  have hr3 : r < 2 * P := by rw [HP.out, Nat.mul_comm, ← Nat.pow_succ]; exact hr2
  obtain ⟨q, hq⟩ : ∃ q, r = P + q := ⟨r - P, by omega⟩
  have HQ := Lib.hid hq
  have ew2 : (r : Int) - (P : Int) = (q : Int) := by omega
  have HKY := Lib.hid (fun w' => key_ref5 I S k H q w' hI hS (by omega))
  have HPU := Lib.hid (fun w' => Public_ref I S q k w' hI hS (by omega))
  obtain ⟨X, HX⟩ : ∃ X, Hid (X = pubV I S q k) := ⟨_, Lib.hid rfl⟩
  have HXL : Hid (X.length = 32) := Lib.hid (by rw [HX.out, pubV]; split; exact sha_length _; rfl)
  obtain ⟨R, HR'⟩ : ∃ R, Hid (R = hashN I r 33410 [X]) := ⟨_, Lib.hid rfl⟩
  have HRL : Hid (R.length = 32) := Lib.hid (by rw [HR'.out]; exact sha_length _)
  have HKL : Hid (knotL I S k H 0 r = R) := Lib.hid (by rw [HR'.out, HX.out, knotL, ← HP.out, HQ.out, Nat.add_sub_cancel_left])
  have HLO := Lib.hid (fun w' => low_ref I r X w' hI (by omega) HXL.out)
  simp only [← HX.out] at HPU
  simp only [← HR'.out] at HLO
  rw [HKL.out]
  have HHI := Lib.hid hI
  clear hI hS hr2 HX HR' hq
  go_enter Tryz.func46, Tryz.ntmps46
  go_upto_region 1 with (fail)
  change Code.wp _ _ _ _ ((w.alloc (.cells (TreeV I S k H).toArray 31)).alloc (.cells (Array.replicate 32 (.int .u8 0)) 23))
  rw [← HW0.out, ← HV.out]
  go_wp2_with (first
    | (go_at_call 50; refine (HLV.out _).mono ?_; rintro e wl ⟨rfl, hwl⟩; rw [hwl]; clear hwl)
    | ((with_reducible refine at_load 31 _ rfl ?_); refine wpList_load_row rfl 31 _ rfl _ rfl _ (TreeV I S k H).toArray (0, 0) _ HR.out Tryz.underlying31 rfl IT.out ?_)
    | (go_at_call 57; refine (HKY.out V).mono ?_; rintro e w1 ⟨rfl, b1⟩; have HB1 := Lib.hid b1; clear b1)
    | (go_at_call 70; refine (HPU.out w1).mono ?_; rintro e w2 ⟨rfl, b2⟩; have HB2 := Lib.hid (HB1.out.trans (b2.mono HB1.out.size)); have HB3 := Lib.hid (HB2.out.alloc HB2.out.size (.cells (B8 X).toArray 23)); have HR3 := Lib.hid (tree_ranges ((HB3.out.block _ (by rw [HS2.out]; omega)).trans HR.out) HHI.out).1; have HX3 := Lib.hid (heap_alloc_new w2 (.cells (B8 X).toArray 23)); clear b2)
    | ((with_reducible refine at_store 23 _ _ rfl ?_); refine wpList_store_new rfl 23 _ _ rfl (B8 X).toArray rfl rfl 23 _ (arr32 HXL.out).1 (arr32 HXL.out).2 (B8_oneA X) ?_)
    | (refine wpList_load_mid rfl 22 _ rfl w.heap.size 0 (by rfl) (B8 I) _ HR3.out Tryz.underlying22 rfl I16L.out ?_)
    | ((with_reducible refine at_load 23 _ rfl ?_); refine wpList_load_row rfl 23 _ rfl _ rfl _ (B8 X).toArray (0, 0) _ HX3.out Tryz.underlying23 rfl (arr32 HXL.out).1 ?_)
    | (go_at_call 52; refine (HLO.out _).mono ?_; rintro e w4 ⟨rfl, b4⟩; have HB4 := Lib.hid (HB3.out.trans (b4.mono HB3.out.size)); have HZ4 := Lib.hid ((HB4.out.block _ (by rw [HS2.out]; omega)).trans HZ.out); clear b4)
    | ((with_reducible refine at_store 23 _ _ rfl ?_); refine wpList_store_row rfl 23 _ _ rfl _ (B8 R).toArray rfl rfl 23 _ HZ4.out (arr32 HRL.out).1 (arr32 HRL.out).2 (B8_oneA R) ?_))
  exact bodyPost_ret (results_cell_row rfl _ _ (w.heap.size + 1) 23 _ (0, 0) _ rfl (setRow_heap _ _ _ _ _ _ HZ4.out) Tryz.underlying23 rfl (arr32 HRL.out).1) rfl ⟨rfl, below_row (HB.out.trans (HB4.out.mono HB.out.size)) (by omega) _⟩

theorem knot_stepR (I S : List UInt8) (k : Int) (H d r : Nat) (w : World) (hI : I.length = 16) (hS : S.length = 32) (hH : H ≤ 5) (hr1 : 1 ≤ r) (hr2 : r < 2 ^ H)
    (ih : ∀ (r' : Nat) (w' : World), r' = 2 * r ∨ r' = 2 * r + 1 → Calls Tryz.prog 46 #[.agg (TreeV I S k H).toArray, .int .i64 r'] w' fun e w'' => e = .returned (.agg (B8 (knotL I S k H d r')).toArray) ∧ Below w'.heap.size w' w'') :
    Calls Tryz.prog 46 #[.agg (TreeV I S k H).toArray, .int .i64 r] w fun e w' => e = .returned (.agg (B8 (knotL I S k H (d + 1) r)).toArray) ∧ Below w.heap.size w w' := by
  obtain ⟨W0, HW0, HB0, HS0, HR0⟩ : ∃ V, Hid (V = w.alloc (.cells (TreeV I S k H).toArray 31)) ∧ Hid (Below w.heap.size w V) ∧ Hid (V.heap.size = w.heap.size + 1) ∧ Hid (V.heap[w.heap.size]? = some (.cells (TreeV I S k H).toArray 31 (0, 0))) := ⟨_, Lib.hid rfl, Lib.hid ((Below.refl _ _).alloc (Nat.le_refl _) _), Lib.hid (by simp), Lib.hid (heap_alloc_new _ _)⟩
  obtain ⟨V, HV, HB, HS2, HR, HZ⟩ : ∃ V, Hid (V = W0.alloc (.cells (Array.replicate 32 (.int .u8 0)) 23)) ∧ Hid (Below w.heap.size w V) ∧ Hid (V.heap.size = w.heap.size + 2) ∧ Hid (V.heap[w.heap.size]? = some (.cells (TreeV I S k H).toArray 31 (0, 0))) ∧ Hid (V.heap[w.heap.size + 1]? = some (.cells (Array.replicate 32 (.int .u8 0)) 23 (0, 0))) :=
    ⟨_, Lib.hid rfl, Lib.hid (HB0.out.alloc HB0.out.size _), Lib.hid (by simp [HS0.out]), Lib.hid ((heap_alloc_old _ _ (by rw [HS0.out]; omega)).trans HR0.out), Lib.hid (by rw [← HS0.out]; exact heap_alloc_new _ _)⟩
  have ITL : Hid ((Tryz.prog.info? 31).map (·.size) = some (TreeV I S k H).length) := Lib.hid (by rw [info_treeR, TreeV_length _ _ _ _ hI hS])
  have I16L : Hid ((Tryz.prog.info? 22).map (·.size) = some (B8 I).length) := Lib.hid (by rw [info_16]; simp [B8_length, hI])
  have RI := Lib.hid (tree_ranges HR.out hI).1
  have kh := tree_H HR.out hI hS
  obtain ⟨p5, p1⟩ := pow5 H hH
  have HLV := Lib.hid (fun w' => leaves_ref H w' hH)
  obtain ⟨P, HP⟩ : ∃ P, Hid (P = 2 ^ H) := ⟨_, Lib.hid rfl⟩
  rw [← HP.out] at p5 p1 hr2 HLV
  have hlt : ¬ (P : Int) ≤ (r : Int) := by omega
  have hdf : decide (P ≤ r) = false := decide_eq_false (by omega)
  obtain ⟨X, HX⟩ : ∃ X, Hid (X = knotL I S k H d (2 * r)) := ⟨_, Lib.hid rfl⟩
  obtain ⟨Y, HY⟩ : ∃ Y, Hid (Y = knotL I S k H d (2 * r + 1)) := ⟨_, Lib.hid rfl⟩
  have HXL : Hid (X.length = 32) := Lib.hid (by rw [HX.out]; exact knotL_length _ _ _ _ _ _)
  have HYL : Hid (Y.length = 32) := Lib.hid (by rw [HY.out]; exact knotL_length _ _ _ _ _ _)
  have HIX := Lib.hid (fun w' => ih (2 * r) w' (.inl rfl))
  have HIY := Lib.hid (fun w' => ih (2 * r + 1) w' (.inr rfl))
  simp only [← HX.out] at HIX
  simp only [← HY.out] at HIY
  obtain ⟨R, HR'⟩ : ∃ R, Hid (R = hashN I r 33667 [X, Y]) := ⟨_, Lib.hid rfl⟩
  have HRL : Hid (R.length = 32) := Lib.hid (by rw [HR'.out]; exact sha_length _)
  have HKL : Hid (knotL I S k H (d + 1) r = R) := Lib.hid (by rw [HR'.out, HX.out, HY.out, knotL])
  have HHA := Lib.hid (fun w' => high_ref I r X Y w' hI (by omega) HXL.out HYL.out)
  simp only [← HR'.out] at HHA
  have em : wrap64 (2 * (r : Int)) = ((2 * r : Nat) : Int) := by unfold wrap64; omega
  have em2 : wrap64 (((2 * r : Nat) : Int) + 1) = ((2 * r + 1 : Nat) : Int) := by unfold wrap64; omega
  rw [HKL.out]
  clear hI hS HX HY HR' ih
  go_enter Tryz.func46, Tryz.ntmps46
  go_upto_region 1 with (fail)
  change Code.wp _ _ _ _ ((w.alloc (.cells (TreeV I S k H).toArray 31)).alloc (.cells (Array.replicate 32 (.int .u8 0)) 23))
  rw [← HW0.out, ← HV.out]
  go_upto_region 5 with (go_at_call 50; refine (HLV.out _).mono ?_; rintro e wl ⟨rfl, hwl⟩; rw [hwl]; clear hwl)
  clear kh
  try simp only [Act.put, hdf]
  clear hlt hdf
  refine Wild.region_tail_b 13 (fun n => match n with | 6 => some (.fix (.agg (B8 X).toArray)) | 11 => some (.fix (.agg (B8 Y).toArray)) | 12 => some (.fix (.agg (B8 R).toArray)) | _ => none) (fun _ => []) rfl rfl rfl (by kernel_rfl) (by kernel_rfl) (by kernel_rfl) (fun vs hvs => ?_)
  have h6 : vs 6 = .agg (B8 X).toArray := hvs 6 _ rfl
  have h11 : vs 11 = .agg (B8 Y).toArray := hvs 11 _ rfl
  have h12 : vs 12 = .agg (B8 R).toArray := hvs 12 _ rfl
  simp only [List.take_succ_cons, List.take_zero]
  refine Wild.walk_simple rfl (by rfl) (by rfl) (fun K hK => ?_); go_big_quiet_op; first | (refine hK _ ?_; clear hK K) | (refine ⟨_, fun _ _ => rfl, hK _ ?_⟩; clear hK K)
  refine Wild.walk_load 22 _ _ _ (B8 I) _ rfl (by rfl) rfl rfl (fun w' hw => rangeAt_blw RI.out hw.1) Tryz.underlying22 rfl I16L.out ?_
  simp only [Act.put, List.setIfInBounds_toArray, List.set_cons_zero, List.set_cons_succ]
  refine Wild.walk_simple rfl (by rfl) (by rfl) (fun K hK => ?_); go_big_quiet_op; first | (refine hK _ ?_; clear hK K) | (refine ⟨_, fun _ _ => rfl, hK _ ?_⟩; clear hK K)
  refine Wild.walk_load 31 _ _ _ (TreeV I S k H) _ rfl (by rfl) rfl rfl (fun w' hw => rangeAt_blw (rangeAt_row HR.out) hw.1) Tryz.underlying31 rfl ITL.out ?_
  simp only [Act.put, List.setIfInBounds_toArray, List.set_cons_zero, List.set_cons_succ]
  refine Wild.walk_simple rfl (by rfl) (by rfl) (fun K hK => ?_); go_big_quiet_op; first | (refine hK _ ?_; clear hK K) | (refine ⟨_, fun _ _ => rfl, hK _ ?_⟩; clear hK K)
  refine Wild.walk_simple rfl (by rfl) (by rfl) (fun K hK => ?_); go_big_quiet_op; first | (refine hK _ ?_; clear hK K) | (refine ⟨_, fun _ _ => rfl, hK _ ?_⟩; clear hK K)
  try simp only [em]
  refine Wild.walk_wild _ rfl (by rfl) (fun w' hw K hK => ?_) ?_
  · go_simp
    go_at_call 46
    refine (HIX.out w').mono ?_
    rintro e w'' ⟨rfl, hb⟩
    exact hK.out _ _ (hw.1.trans (hb.mono hw.1.size)) hb rfl trivial
  rw [h6]
  simp only [Act.put, List.setIfInBounds_toArray, List.set_cons_zero, List.set_cons_succ]
  refine Wild.walk_load 31 _ _ _ (TreeV I S k H) _ rfl (by rfl) rfl rfl (fun w' hw => rangeAt_blw (rangeAt_row HR.out) hw.1) Tryz.underlying31 rfl ITL.out ?_
  simp only [Act.put, List.setIfInBounds_toArray, List.set_cons_zero, List.set_cons_succ]
  refine Wild.walk_simple rfl (by rfl) (by rfl) (fun K hK => ?_); go_big_quiet_op; first | (refine hK _ ?_; clear hK K) | (refine ⟨_, fun _ _ => rfl, hK _ ?_⟩; clear hK K)
  refine Wild.walk_simple rfl (by rfl) (by rfl) (fun K hK => ?_); go_big_quiet_op; first | (refine hK _ ?_; clear hK K) | (refine ⟨_, fun _ _ => rfl, hK _ ?_⟩; clear hK K)
  try simp only [em]
  refine Wild.walk_simple rfl (by rfl) (by rfl) (fun K hK => ?_); go_big_quiet_op; first | (refine hK _ ?_; clear hK K) | (refine ⟨_, fun _ _ => rfl, hK _ ?_⟩; clear hK K)
  try simp only [em2]
  refine Wild.walk_wild _ rfl (by rfl) (fun w' hw K hK => ?_) ?_
  · go_simp
    go_at_call 46
    refine (HIY.out w').mono ?_
    rintro e w'' ⟨rfl, hb⟩
    exact hK.out _ _ (hw.1.trans (hb.mono hw.1.size)) hb rfl trivial
  rw [h11]
  simp only [Act.put, List.setIfInBounds_toArray, List.set_cons_zero, List.set_cons_succ]
  refine Wild.walk_wild _ rfl (by rfl) (fun w' hw K hK => ?_) ?_
  · go_simp
    go_at_call 53
    refine (HHA.out w').mono ?_
    rintro e w'' ⟨rfl, hb⟩
    exact hK.out _ _ (hw.1.trans (hb.mono hw.1.size)) hb rfl trivial
  rw [h12]
  simp only [Act.put, List.setIfInBounds_toArray, List.set_cons_zero, List.set_cons_succ]
  refine Wild.walk_nil ?_
  intro w7 hw7 _
  have hb7 : Below V.heap.size V w7 := hw7
  have HZ7 : Hid (w7.heap[w.heap.size + 1]? = some (.cells (Array.replicate 32 (.int .u8 0)) 23 (0, 0))) := Lib.hid ((hb7.block _ (by rw [HS2.out]; omega)).trans HZ.out)
  have HB7 : Hid (Below w.heap.size w w7) := Lib.hid (HB.out.trans (hb7.mono HB.out.size))
  refine wp_store_row 23 _ _ rfl _ (B8 R).toArray rfl rfl 23 _ HZ7.out (arr32 HRL.out).1 (arr32 HRL.out).2 (B8_oneA R) ?_
  go_wp2_with fail
  exact bodyPost_ret (results_cell_row rfl _ _ (w.heap.size + 1) 23 _ (0, 0) _ rfl (setRow_heap _ _ _ _ _ _ HZ7.out) Tryz.underlying23 rfl (arr32 HRL.out).1) rfl ⟨rfl, below_row HB7.out (by omega) _⟩
theorem knot_any (I S : List UInt8) (k : Int) (H : Nat) (hI : I.length = 16) (hS : S.length = 32) (hH : H ≤ 5) : ∀ (d r : Nat) (w : World), d ≤ H → 2 ^ (H - d) ≤ r → r < 2 ^ (H - d + 1) →
    Calls Tryz.prog 46 #[.agg (TreeV I S k H).toArray, .int .i64 r] w fun e w' => e = .returned (.agg (B8 (knotL I S k H d r)).toArray) ∧ Below w.heap.size w w'
  | 0, r, w, _, h1, h2 => knot_leafR I S k H r w hI hS hH h1 h2
  | d + 1, r, w, hd, h1, h2 => by
    have e : H - d = H - (d + 1) + 1 := by omega
    have p : 2 ^ (H - d) = 2 * 2 ^ (H - (d + 1)) := by rw [e, Nat.pow_succ]; omega
    have p2 : 2 ^ (H - d + 1) = 2 * 2 ^ (H - d) := by rw [Nat.pow_succ]; omega
    have p3 : 2 ^ (H - (d + 1) + 1) = 2 ^ (H - d) := by rw [← e]
    have p4 : 2 ^ (H - d) ≤ 2 ^ H := Nat.pow_le_pow_right (by decide) (by omega)
    have p5 : 1 ≤ 2 ^ (H - (d + 1)) := Nat.one_le_two_pow
    refine knot_stepR I S k H d r w hI hS hH (by omega) (by omega) fun r' w' hr => knot_any I S k H hI hS hH d r' w' (by omega) (by omega) (by omega)
theorem knot_ref (I S : List UInt8) (k : Int) (H : Nat) (hI : I.length = 16) (hS : S.length = 32) (hH : H ≤ 5) (r : Nat) (w : World) (h1 : 1 ≤ r) (h2 : r < 2 ^ (H + 1)) :
    Calls Tryz.prog 46 #[.agg (TreeV I S k H).toArray, .int .i64 r] w fun e w' => e = .returned (.agg (B8 (knotV I S k H r)).toArray) ∧ Below w.heap.size w w' := by
  have hl := log2_le r H h2
  have e : H - (H - Nat.log2 r) = Nat.log2 r := by omega
  exact knot_any I S k H hI hS hH (H - Nat.log2 r) r w (by omega) (by rw [e]; exact Nat.log2_self_le (by omega)) (by rw [e]; exact Nat.lt_log2_self)
end Go.Proofs.YtcnelahmbfggcaaGreat

/- The walks of the document's Knot and Public (chapter 05). -/
namespace Go.Proofs.YtcnelahmbfggcaaGreat
open Go Go.RowKit
set_option maxRecDepth 100000
set_option maxHeartbeats 1000000

theorem Public_ref5 (I S : List UInt8) (k h : Int) (w : World) (hI : I.length = 16) (hS : S.length = 32) :
    Calls Tryz.prog 23 #[.agg (TreeV I S k h).toArray] w fun e w' => ∃ v, e = .returned (.tuple #[v, .int .i64 (errL k h)]) ∧ Sl w' v (pubL I S k h) ∧ Below w.heap.size w w' := by
  obtain ⟨V, HV, HB, HR⟩ : ∃ V, Hid (V = w.alloc (.cells (TreeV I S k h).toArray 31)) ∧ Hid (Below w.heap.size w V) ∧ Hid (V.heap[w.heap.size]? = some (.cells (TreeV I S k h).toArray 31 (0, 0))) := ⟨_, Lib.hid rfl, Lib.hid ((Below.refl _ _).alloc (Nat.le_refl _) _), Lib.hid (heap_alloc_new _ _)⟩
  have IT : Hid ((Tryz.prog.info? 31).map (·.size) = some (TreeV I S k h).toArray.size) := Lib.hid (by rw [info_treeR, List.size_toArray, TreeV_length _ _ _ _ hI hS])
  have HMA := Lib.hid (may_ref5 I S k h V hI hS)
  have HTY := Lib.hid (fun w' => Type_ref k w')
  have HHI := Lib.hid hI
  have HHS := Lib.hid hS
  have HTB : Hid (∀ w', Below V.heap.size V w' → w'.heap[w.heap.size]? = some (.cells (TreeV I S k h).toArray 31 (0, 0))) := Lib.hid (fun w' hb => (hb.block _ (Array.getElem?_eq_some_iff.1 HR.out).1).trans HR.out)
  by_cases hm : mayT k h = true
  · obtain ⟨h1, h2, h3⟩ := (mayT_iff k h).1 hm
    have he : errW k = 0 := by rw [errW, if_pos h1]
    rw [hm] at HMA
    simp only [he] at HTY
    obtain ⟨H, rfl⟩ : ∃ H : Nat, h = H := ⟨h.toNat, by omega⟩
    have HL : Hid (pubL I S k H = pubP I S k H ∧ errL k H = 0) := Lib.hid ⟨by rw [pubL, if_pos hm, Int.toNat_natCast], by rw [errL, if_pos hm]⟩
    rw [HL.out.1, HL.out.2]
    obtain ⟨kn, hkk⟩ : ∃ kn : Nat, k = kn := ⟨k.toNat, by rcases (isW_iff k).1 h1 with h | h | h | h <;> omega⟩
    obtain ⟨ty, ty1, ty2, ty3⟩ := typeN_nat kn (by rw [hkk] at h1; rcases (isW_iff _).1 h1 with h | h | h | h <;> omega)
    rw [← hkk] at ty1 ty3
    have htd0 : 0 ≤ typedN H ∧ typedN H ≤ 105 := by rw [typedN]; split <;> omega
    obtain ⟨td, htd⟩ : ∃ td : Nat, typedN H = td := ⟨(typedN H).toNat, by omega⟩
    have HP : Hid (pubP I S k H = [fourN td, fourN ty, I, knotV I S k H 1].flatten) := Lib.hid (by rw [pubP, htd, ty3, Int.toNat_natCast])
    have HTD := Lib.hid (fun w' => typed_ref H w' (by omega))
    have HF1 := Lib.hid (fun w' => Four_own td w' (by omega))
    have HF2 := Lib.hid (fun w' => Four_own ty w' ty2)
    have HSU := Lib.hid (fun w' => knot_ref I S k H hI hS (by omega) 1 w' (Nat.le_refl _) (Nat.one_lt_two_pow (by omega)))
    obtain ⟨X, HX⟩ : ∃ X, Hid (X = knotV I S k H 1) := ⟨_, Lib.hid rfl⟩
    have HXL : Hid (X.length = 32) := Lib.hid (by rw [HX.out]; exact knotV_length _ _ _ _ _)
    simp only [← HX.out] at HSU
    simp only [htd] at HTD
    simp only [ty1] at HTY
    rw [← HX.out] at HP
    obtain ⟨A1, HA1⟩ : ∃ L, Hid (L = fourN td) := ⟨_, Lib.hid rfl⟩
    obtain ⟨A2, HA2⟩ : ∃ L, Hid (L = fourN ty) := ⟨_, Lib.hid rfl⟩
    have HL1 : Hid (A1.length = 4) := Lib.hid (by rw [HA1.out]; rfl)
    have HL2 : Hid (A2.length = 4) := Lib.hid (by rw [HA2.out]; rfl)
    simp only [← HA1.out] at HF1
    simp only [← HA2.out] at HF2
    have HPE : Hid (pubP I S k H = ((A1 ++ A2) ++ I) ++ X) := Lib.hid (by rw [HP.out, HA1.out, HA2.out]; simp)
    obtain ⟨B1, HB1'⟩ : ∃ L, Hid (L = A1 ++ A2) := ⟨_, Lib.hid rfl⟩
    obtain ⟨B2, HB2'⟩ : ∃ L, Hid (L = B1 ++ I) := ⟨_, Lib.hid rfl⟩
    obtain ⟨B3, HB3'⟩ : ∃ L, Hid (L = B2 ++ X) := ⟨_, Lib.hid rfl⟩
    rw [← HB1'.out, ← HB2'.out, ← HB3'.out] at HPE
    have HN1 : Hid (B1.length = 8) := Lib.hid (by rw [HB1'.out, List.length_append, HL1.out, HL2.out])
    have HN2 : Hid (B2.length = 24) := Lib.hid (by rw [HB2'.out, List.length_append, HN1.out, HHI.out])
    rw [HPE.out]
    have HBZ : Hid (Below V.heap.size V V) := Lib.hid (Below.refl _ _)
    have kw := tree_W HR.out hI hS
    have kh := tree_H HR.out hI hS
    clear hm h1 he hI hS hkk ty1 ty3 htd HX HP HL htd0
    go_enter Tryz.func23, Tryz.ntmps23
    go_upto_region 1 with (fail)
    rw [← HV.out]
    clear kw kh
    go_wp2_with (first
      | ((with_reducible refine at_load 31 _ rfl ?_); first | refine wpList_load_row rfl 31 _ rfl _ rfl _ (TreeV I S k H).toArray (0, 0) _ (HTB.out _ HBZ.out) Tryz.underlying31 rfl IT.out ?_ | refine wpList_load_row rfl 31 _ rfl _ rfl _ (TreeV I S k H).toArray (0, 0) _ (HTB.out _ HB5.out) Tryz.underlying31 rfl IT.out ?_)
      | (go_at_call 42; refine HMA.out.mono ?_; rintro e w1 ⟨rfl, b1⟩; have HB1 := Lib.hid b1; have kw := tree_W (HTB.out _ b1) HHI.out HHS.out; have kh := tree_H (HTB.out _ b1) HHI.out HHS.out; clear b1)
      | (go_at_call 43; refine (HTY.out _).mono ?_; rintro e wl ⟨rfl, hwl⟩; rw [hwl]; clear hwl)
      | (go_at_call 45; refine (HTD.out _).mono ?_; rintro e wl ⟨rfl, hwl⟩; rw [hwl]; clear hwl)
      | (go_at_call 44; (with_reducible refine (HF1.out w1).mono ?_); rintro e w2 ⟨a2, rfl, s2, b2⟩; have HO2 := Lib.hid (OwnC.down s2 HB1.out.size); have HB2 := Lib.hid (HB1.out.trans (b2.mono HB1.out.size)); clear s2 b2)
      | (go_at_call 44; (with_reducible refine (HF2.out w2).mono ?_); rintro e w3 ⟨a3, rfl, s3, b3⟩; have HO3 := Lib.hid (HO2.out.later b3); have HS3 := Lib.hid s3.sl; have HB3 := Lib.hid (HB2.out.trans (b3.mono HB2.out.size)); clear s3 b3)
      | (at_builtin; refine wpList_append8 rfl _ _ rfl V.heap.size _ A1 rfl HO3.out _ A2 rfl HS3.out (by rw [HL1.out, HL2.out]; decide) HB3.out.size ?_; intro v4 w4 hv4 hg4 _; have HB4 := Lib.hid (HB3.out.trans (Own8.below HO3.out hg4 HB3.out.size)); rw [← HB1'.out] at hv4; have HO4 := Lib.hid hv4; have SI4 := Lib.hid (tree_I (HTB.out _ HB4.out) HHI.out); clear hv4 hg4)
      | (at_builtin; refine wpList_append8 rfl _ _ rfl V.heap.size _ B1 rfl HO4.out _ I rfl SI4.out (by rw [HN1.out, HHI.out]; decide) HB4.out.size ?_; intro v5 w5 hv5 hg5 _; have HB5 := Lib.hid (HB4.out.trans (Own8.below HO4.out hg5 HB4.out.size)); rw [← HB2'.out] at hv5; have HO5 := Lib.hid hv5; clear hv5 hg5)
      | (go_at_call 46; refine (HSU.out w5).mono ?_; rintro e w6 ⟨rfl, b6⟩; have HO6 := Lib.hid ((HO5.out.later b6).later ((Below.refl _ _).alloc (Nat.le_refl _) (.cells (B8 X).toArray 23))); have HB6 := Lib.hid ((HB5.out.trans (b6.mono HB5.out.size)).alloc (HB5.out.trans (b6.mono HB5.out.size)).size (.cells (B8 X).toArray 23)); have SX6 : Hid (Sl (w6.alloc (.cells (B8 X).toArray 23)) (.slice (some ⟨w6.heap.size, 0, none⟩) 32 32) X) := Lib.hid (Sl.ofBlock (heap_alloc_new _ _) HXL.out.symm (Nat.le_refl _) (by simp [maxLen]) (fun i _ => by rw [Nat.zero_add, List.getElem?_toArray])); clear b6)
      | ((with_reducible refine at_store 23 _ _ rfl ?_); refine wpList_store_new rfl 23 _ _ rfl (B8 X).toArray rfl rfl 23 _ (arr32 HXL.out).1 (arr32 HXL.out).2 (B8_oneA X) ?_)
      | (at_builtin; refine wpList_append8 rfl _ _ rfl V.heap.size _ B2 rfl HO6.out _ X rfl SX6.out (by rw [HN2.out, HXL.out]; decide) HB6.out.size ?_; intro v7 w7 hv7 hg7 _; have HB7 := Lib.hid (HB6.out.trans (Own8.below HO6.out hg7 HB6.out.size)); rw [← HB3'.out] at hv7; have HO7 := Lib.hid hv7; clear hv7 hg7))
    go_ret2
    exact ⟨_, rfl, HO7.out.sl, HB.out.trans (HB7.out.mono HB.out.size)⟩
  · have hmf : mayT k h = false := by simpa using hm
    rw [hmf] at HMA
    have HL : Hid (pubL I S k h = [] ∧ errL k h = 1) := Lib.hid ⟨by rw [pubL, if_neg hm], by rw [errL, if_neg hm]⟩
    rw [HL.out.1, HL.out.2]
    clear hm hmf hI hS
    go_enter Tryz.func23, Tryz.ntmps23
    go_upto_region 1 with (fail)
    rw [← HV.out]
    go_wp2_with (first
      | ((with_reducible refine at_load 31 _ rfl ?_); refine wpList_load_row rfl 31 _ rfl _ rfl _ (TreeV I S k h).toArray (0, 0) _ HR.out Tryz.underlying31 rfl IT.out ?_)
      | (go_at_call 42; refine HMA.out.mono ?_; rintro e w1 ⟨rfl, b1⟩; have HB1 := Lib.hid b1; clear b1))
    go_ret2
    exact ⟨_, rfl, .inl ⟨rfl, _, _, rfl⟩, HB.out.trans (HB1.out.mono HB.out.size)⟩
end Go.Proofs.YtcnelahmbfggcaaGreat


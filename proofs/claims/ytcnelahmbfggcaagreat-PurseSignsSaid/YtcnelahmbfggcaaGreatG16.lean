/- The walks of chapter 06's low, plain, alive. -/
import Derived.Test.YtcnelahmbfggcaaGreatG15
import Derived.Lib.SlBytesConst
import Derived.Test.YtcnelahmbfggcaaGreatEq
import Derived.Laws.StructEq
import Derived.Test.YtcnelahmbfggcaaGreatG5
namespace Go.Proofs.YtcnelahmbfggcaaGreat
open Go Go.RowKit
set_option maxRecDepth 100000
set_option maxHeartbeats 2000000
attribute [local irreducible] Wild.walk WildF.walk

def lowH (h : Int) : Bool := decide (h < 3) || decide (5 < h)
theorem low06_any (I S : List UInt8) (k h : Int) (w : World) (hI : I.length = 16) (hS : S.length = 32) :
    Calls Tryz.prog 5 #[.agg (TreeV I S k h).toArray] w fun e w' => e = .returned (.bool (lowH h)) ∧ Below w.heap.size w w' := by
  obtain ⟨V, HV, HB, HT⟩ : ∃ V, Hid (V = w.alloc (.cells (TreeV I S k h).toArray 25)) ∧ Hid (Below w.heap.size w V) ∧ Hid (V.heap[w.heap.size]? = some (.cells (TreeV I S k h).toArray 25 (0, 0))) := ⟨_, Lib.hid rfl, Lib.hid ((Below.refl _ _).alloc (Nat.le_refl _) _), Lib.hid (heap_alloc_new _ _)⟩
  have kh := tree_H HT.out hI hS
  obtain ⟨r, hr⟩ : ∃ r, Hid (r = lowH h) := ⟨_, Lib.hid rfl⟩
  rw [← hr.out]
  clear hI hS
  by_cases h1 : h < 3
  · have hr' : Hid (r = true) := Lib.hid (by rw [hr.out, lowH, decide_eq_true h1]; rfl)
    go_enter Tryz.func5, Tryz.ntmps5
    go_upto_region 1 with (fail)
    rw [← HV.out]
    go_wp2_with fail
    go_ret
    exact ⟨by rw [hr'.out]; rfl, HB.out⟩
  · by_cases h2 : 5 < h
    · have hr' : Hid (r = true) := Lib.hid (by rw [hr.out, lowH, decide_eq_true h2]; simp)
      go_enter Tryz.func5, Tryz.ntmps5
      go_upto_region 1 with (fail)
      rw [← HV.out]
      go_wp2_with fail
      go_ret
      exact ⟨by rw [hr'.out]; rfl, HB.out⟩
    · have hr' : Hid (r = false) := Lib.hid (by rw [hr.out, lowH, decide_eq_false h2, decide_eq_false h1]; simp)
      go_enter Tryz.func5, Tryz.ntmps5
      go_upto_region 1 with (fail)
      rw [← HV.out]
      go_wp2_with fail
      go_ret
      exact ⟨by rw [hr'.out]; rfl, HB.out⟩
theorem built_treeR6 (parts : List (Nat × Value)) : Tryz.prog.built 31 parts = Instr.fill ([(0, 16), (16, 32), (48, 1), (49, 1)].toArray[·]?) (TreeV zero16 zero32 0 0).toArray parts := by kernel_rfl
theorem treeR_all6 (I S : List UInt8) (k h : Int) (hI : I.length = 16) (hS : S.length = 32) :
    Tryz.prog.built 31 [(0, .agg (B8 I).toArray), (1, .agg (B8 S).toArray), (2, .int .i64 k), (3, .int .i64 h)] = some (TreeV I S k h).toArray := by
  rw [built_treeR6]
  have h1 := fill_step ([(0, 16), (16, 32), (48, 1), (49, 1)].toArray[·]?) [] (B8 zero16) (B8 I) (B8 zero32 ++ [.int .i64 0, .int .i64 0]) 0 (.agg (B8 I).toArray) [(1, .agg (B8 S).toArray), (2, .int .i64 k), (3, .int .i64 h)] (by rw [B8_length, hI]; rfl) rfl (by rw [B8_length, B8_length, hI]; rfl)
  have h2 := fill_step ([(0, 16), (16, 32), (48, 1), (49, 1)].toArray[·]?) (B8 I) (B8 zero32) (B8 S) [.int .i64 0, .int .i64 0] 1 (.agg (B8 S).toArray) [(2, .int .i64 k), (3, .int .i64 h)] (by rw [B8_length, B8_length, hI, hS]; rfl) rfl (by rw [B8_length, B8_length, hS]; rfl)
  have h3 := fill_step ([(0, 16), (16, 32), (48, 1), (49, 1)].toArray[·]?) (B8 I ++ B8 S) [.int .i64 0] [.int .i64 k] [.int .i64 0] 2 (.int .i64 k) [(3, .int .i64 h)] (by rw [List.length_append, B8_length, B8_length, hI, hS]; rfl) rfl rfl
  have h4 := fill_step ([(0, 16), (16, 32), (48, 1), (49, 1)].toArray[·]?) (B8 I ++ (B8 S ++ [.int .i64 k])) [.int .i64 0] [.int .i64 h] [] 3 (.int .i64 h) [] (by rw [List.length_append, List.length_append, B8_length, B8_length, hI, hS]; rfl) rfl rfl
  simp only [List.nil_append, List.append_assoc, List.cons_append, List.append_nil] at h1 h2 h3 h4
  have h0 : (TreeV zero16 zero32 0 0).toArray = (B8 zero16 ++ (B8 zero32 ++ [Value.int .i64 0, Value.int .i64 0])).toArray := rfl
  rw [h0, h1, h2, h3, h4]
  rfl
theorem built_rpurse (parts : List (Nat × Value)) : Tryz.prog.built 33 parts = Instr.fill ([(0, 50), (50, 1), (51, 1), (52, 1)].toArray[·]?) (PurseV zero16 zero32 0 0 0 0 0).toArray parts := by kernel_rfl
theorem rpurse_all (I S : List UInt8) (k h nx nt st : Int) (hI : I.length = 16) (hS : S.length = 32) :
    Tryz.prog.built 33 [(0, .agg (TreeV I S k h).toArray), (1, .int .i64 nx), (2, .int .i64 nt), (3, .int .i64 st)] = some (PurseV I S k h nx nt st).toArray := by
  rw [built_rpurse]
  have hl := TreeV_length I S k h hI hS
  have h1 := fill_step ([(0, 50), (50, 1), (51, 1), (52, 1)].toArray[·]?) [] (TreeV zero16 zero32 0 0) (TreeV I S k h) [.int .i64 0, .int .i64 0, .int .i64 0] 0 (.agg (TreeV I S k h).toArray) [(1, .int .i64 nx), (2, .int .i64 nt), (3, .int .i64 st)] (by rw [hl]; rfl) rfl (by rw [hl, TreeV_length _ _ _ _ rfl rfl])
  have h2 := fill_step ([(0, 50), (50, 1), (51, 1), (52, 1)].toArray[·]?) (TreeV I S k h) [.int .i64 0] [.int .i64 nx] [.int .i64 0, .int .i64 0] 1 (.int .i64 nx) [(2, .int .i64 nt), (3, .int .i64 st)] (by rw [hl]; rfl) rfl rfl
  have h3 := fill_step ([(0, 50), (50, 1), (51, 1), (52, 1)].toArray[·]?) (TreeV I S k h ++ [.int .i64 nx]) [.int .i64 0] [.int .i64 nt] [.int .i64 0] 2 (.int .i64 nt) [(3, .int .i64 st)] (by rw [List.length_append, hl]; rfl) rfl rfl
  have h4 := fill_step ([(0, 50), (50, 1), (51, 1), (52, 1)].toArray[·]?) (TreeV I S k h ++ [.int .i64 nx, .int .i64 nt]) [.int .i64 0] [.int .i64 st] [] 3 (.int .i64 st) [] (by rw [List.length_append, hl]; rfl) rfl rfl
  simp only [List.nil_append, List.append_assoc, List.cons_append, List.append_nil] at h1 h2 h3 h4
  have h0 : (PurseV zero16 zero32 0 0 0 0 0).toArray = (TreeV zero16 zero32 0 0 ++ [Value.int .i64 0, Value.int .i64 0, Value.int .i64 0]).toArray := rfl
  rw [h0, h1, h2, h3, h4]
  rfl
theorem plain06_any (I S : List UInt8) (k h nx nt st : Int) (w : World) (hI : I.length = 16) (hS : S.length = 32) :
    Calls Tryz.prog 7 #[.agg (PurseV I S k h nx nt st).toArray] w fun e w' => e = .returned (.agg (PurseV I S k h nx nt st).toArray) ∧ Below w.heap.size w w' := by
  obtain ⟨W0, HW0, HB0, HS0, HR0⟩ : ∃ V, Hid (V = w.alloc (.cells (PurseV I S k h nx nt st).toArray 27)) ∧ Hid (Below w.heap.size w V) ∧ Hid (V.heap.size = w.heap.size + 1) ∧ Hid (V.heap[w.heap.size]? = some (.cells (PurseV I S k h nx nt st).toArray 27 (0, 0))) := ⟨_, Lib.hid rfl, Lib.hid ((Below.refl _ _).alloc (Nat.le_refl _) _), Lib.hid (by simp), Lib.hid (heap_alloc_new _ _)⟩
  obtain ⟨Z, HZ⟩ : ∃ Z, Hid (Z = (PurseV zero16 zero32 0 0 0 0 0).toArray) := ⟨_, Lib.hid rfl⟩
  obtain ⟨V, HV, HVB, HVS, HVR, HVZ⟩ : ∃ V, Hid (V = W0.alloc (.cells Z 33)) ∧ Hid (Below w.heap.size w V) ∧ Hid (V.heap.size = w.heap.size + 2) ∧ Hid (V.heap[w.heap.size]? = some (.cells (PurseV I S k h nx nt st).toArray 27 (0, 0))) ∧ Hid (V.heap[w.heap.size + 1]? = some (.cells Z 33 (0, 0))) :=
    ⟨_, Lib.hid rfl, Lib.hid (HB0.out.alloc HB0.out.size _), Lib.hid (by simp [HS0.out]), Lib.hid ((heap_alloc_old _ _ (by rw [HS0.out]; omega)).trans HR0.out), Lib.hid (by rw [← HS0.out]; exact heap_alloc_new _ _)⟩
  obtain ⟨r1, r2⟩ := purse_IS HVR.out hI
  have R1 := Lib.hid r1
  have R2 := Lib.hid r2
  have kw := purse_W HVR.out hI hS
  have kh := purse_H HVR.out hI hS
  have kn := purse_N HVR.out hI hS
  have kd := purse_D HVR.out hI hS
  have ks := purse_St HVR.out hI hS
  have I16 : Hid ((Tryz.prog.info? 22).map (·.size) = some (B8 I).length) := Lib.hid (by rw [info_16, B8_length, hI])
  have I32 : Hid ((Tryz.prog.info? 23).map (·.size) = some (B8 S).length) := Lib.hid (by rw [info_32, B8_length, hS])
  have HBL := Lib.hid (treeR_all6 I S k h hI hS)
  have HBP := Lib.hid (rpurse_all I S k h nx nt st hI hS)
  have IK : Hid ((Tryz.prog.info? 33).map (·.size) = some (PurseV I S k h nx nt st).toArray.size) := Lib.hid (by rw [info_purseR, List.size_toArray, PurseV_length _ _ _ _ _ _ _ hI hS])
  have HZL : Hid (Z.size = (PurseV I S k h nx nt st).toArray.size) := Lib.hid (by rw [HZ.out, List.size_toArray, List.size_toArray, PurseV_length _ _ _ _ _ _ _ hI hS]; rfl)
  have HKO := Lib.hid (PurseV_one I S k h nx nt st)
  clear hI hS r1 r2
  go_enter Tryz.func7, Tryz.ntmps7
  go_upto_region 1 with (fail)
  rw [← HW0.out]
  change Code.wp _ _ _ _ (W0.alloc (.cells (PurseV zero16 zero32 0 0 0 0 0).toArray 33))
  rw [← HZ.out, ← HV.out]
  go_wp2_with (first
    | (refine wpList_load_mid rfl 22 _ rfl w.heap.size 0 (by rfl) (B8 I) _ R1.out Tryz.underlying22 rfl I16.out ?_)
    | (refine wpList_load_mid rfl 23 _ rfl w.heap.size 16 (by rfl) (B8 S) _ R2.out Tryz.underlying23 rfl I32.out ?_)
    | ((with_reducible refine at_build 31 _ rfl ?_); refine wpList_built rfl 31 [_, _, _, _] rfl [(0, .agg (B8 I).toArray), (1, .agg (B8 S).toArray), (2, .int .i64 k), (3, .int .i64 h)] rfl _ HBL.out ?_)
    | ((with_reducible refine at_build 33 _ rfl ?_); refine wpList_built rfl 33 [_, _, _, _] rfl [(0, .agg (TreeV I S k h).toArray), (1, .int .i64 nx), (2, .int .i64 nt), (3, .int .i64 st)] rfl _ HBP.out ?_)
    | (refine wpList_store_row rfl 33 _ _ rfl _ (PurseV I S k h nx nt st).toArray rfl rfl 33 _ HVZ.out IK.out HZL.out HKO.out ?_))
  exact bodyPost_ret (results_cell_row rfl _ _ (w.heap.size + 1) 33 _ (0, 0) _ rfl (setRow_heap _ _ _ _ _ _ HVZ.out) Tryz.underlying33 rfl IK.out) rfl ⟨rfl, below_row HVB.out (by omega) _⟩
theorem one_byteP (w : World) : Sl (w.alloc (.cells #[Value.int .u8 97] 5 (1, 2))) (.slice (some ⟨w.heap.size, 0, none⟩) 1 1) [97] :=
  Sl.ofBlock (heap_alloc_new _ _) rfl (Nat.le_refl _) (by simp [maxLen]) fun i hi => by
    obtain rfl : i = 0 := by simp at hi; omega
    rfl
theorem tree_11P : Tryz.prog.built 25 [(2, .int .i64 1), (3, .int .i64 1)] = some (TreeV zero16 zero32 1 1).toArray := by kernel_rfl
theorem alive06_any (w : World) : Calls Tryz.prog 8 #[] w fun e w' => e = .returned (.bool true) ∧ Below w.heap.size w w' := by
  have hm : mayT ((1 : Nat) : Int) ((1 : Nat) : Int) = true := by decide
  have HN := Lib.hid (fun w' => New_pur zero16 zero32 1 1 1 w' rfl rfl (by decide))
  simp only [show rightB 1 1 0 0 1 = true by decide, if_true] at HN
  have HG := Lib.hid (fun tv w' h => Sign_note zero16 zero32 1 1 0 1 tv [97] w' rfl rfl (by decide) hm (by decide) (by decide) h (by decide))
  have v1 := ver_right zero16 zero32 1 1 0 [97] rfl hm (by decide)
  obtain ⟨S1, HS1⟩ : ∃ S1, Hid (S1 = lsigN zero16 zero32 ((1 : Nat) : Int) 1 0 [97]) := ⟨_, Lib.hid rfl⟩
  have hsl := (lsig_facts zero16 zero32 1 1 0 [97] hm (by decide)).1
  rw [← HS1.out] at v1 hsl
  have hsl' : S1.length ≤ 1000000 := by
    have : (manyW ((1 : Nat) : Int)).toNat ≤ 265 := by rw [(manyW_w 1 (.inl rfl)).1]; decide
    omega
  have HO := Lib.hid (fun tv sv w' h1 h2 => Owns_pur zero16 zero32 1 1 1 1 1 tv sv [97] S1 w' rfl rfl (by decide) h1 h2 (by decide) hsl' hm)
  have e5 : (verV (pubL zero16 zero32 1 1) [97] S1 == 0) = true := by
    have : pubL zero16 zero32 1 1 = pubP zero16 zero32 ((1 : Nat) : Int) 1 := rfl
    rw [this, v1]; rfl
  simp only [e5] at HO
  have HL := Lib.hid (fun w' => Left_pur zero16 zero32 1 1 1 1 1 w' rfl rfl (by decide) (by decide))
  simp only [show leavesV 1 1 - 1 = 1 by decide] at HL
  obtain ⟨K, HK⟩ : ∃ K, Hid (K = (TreeV zero16 zero32 1 1).toArray) := ⟨_, Lib.hid rfl⟩
  obtain ⟨A, HA⟩ : ∃ K, Hid (K = (PurseV zero16 zero32 1 1 0 0 1).toArray) := ⟨_, Lib.hid rfl⟩
  obtain ⟨B, HB⟩ : ∃ K, Hid (K = (PurseV zero16 zero32 1 1 1 1 1).toArray) := ⟨_, Lib.hid rfl⟩
  have HKB : Hid (Tryz.prog.built 25 [(2, .int .i64 1), (3, .int .i64 1)] = some K) := Lib.hid (by rw [HK.out]; exact tree_11P)
  have HGB : Hid (∀ (tv : Value) (w' : World), Sl w' tv [97] → Calls Tryz.prog 14 #[.agg A, tv] w' fun e w'_1 => ∃ v, e = .returned (.tuple #[.agg B, v, .bool true, .int .i64 0]) ∧ Sl w'_1 v S1 ∧ Below w'.heap.size w' w'_1) := Lib.hid (fun tv w' h => by
    have := HG.out tv w' h
    rw [HA.out, HB.out, HS1.out]
    exact this)
  rw [← HK.out, ← HA.out] at HN
  rw [← HB.out] at HO HL
  have IA : Hid ((Tryz.prog.info? 27).map (·.size) = some A.size) := Lib.hid (by rw [HA.out, info_purse]; rfl)
  have IB : Hid ((Tryz.prog.info? 27).map (·.size) = some B.size) := Lib.hid (by rw [HB.out, info_purse]; rfl)
  have SA : Hid (A.size = 53) := Lib.hid (by rw [HA.out]; rfl)
  have SB : Hid (B.size = 53) := Lib.hid (by rw [HB.out]; rfl)
  have OA : Hid (A.all (·.oneCell') = true) := Lib.hid (by rw [HA.out]; exact PurseV_one _ _ _ _ _ _ _)
  have OB : Hid (B.all (·.oneCell') = true) := Lib.hid (by rw [HB.out]; exact PurseV_one _ _ _ _ _ _ _)
  have HCB : Hid (∀ (w' : World) (b : Nat), w'.heap[b]? = some (.cells B 27 (0, 0)) → w'.cell? ⟨b, 50, none⟩ = some (.int .i64 1) ∧ w'.cell? ⟨b, 51, none⟩ = some (.int .i64 1)) := Lib.hid (fun w' b h => by
    rw [HB.out] at h
    exact ⟨purse_N h rfl rfl, purse_D h rfl rfl⟩)
  have HAW : Hid (∀ (w2 : World) (b : Nat) (sv : Value), Sl w2 sv S1 → w2.heap[b]? = some (.cells A 27 (0, 0)) → Sl (w2.setRow b B) sv S1) := Lib.hid (fun w2 b sv h hr => by
    rw [HA.out] at hr
    exact Sl.away h (by omega) hr rfl rfl hr rfl rfl (fun blk _ h1 _ => setRow_other _ _ _ _ h1))
  have hcv := fun (w : World) (c : Int) => Lib.run_convert_bytes_const (P := Tryz.prog) w 28 5 #[.int .u8 c] 1 1 Tryz.underlying28 Tryz.underlying5
  clear v1 hsl hsl' e5 hm
  go_enter Tryz.func8, Tryz.ntmps8
  go_upto_region 2 with (first
    | ((with_reducible refine at_build 25 _ rfl ?_); refine wpList_built rfl 25 [(2, .const (.int .i64 1)), (3, .const (.int .i64 1))] rfl [(2, .int .i64 1), (3, .int .i64 1)] rfl _ HKB.out ?_)
    | (go_at_call 11; refine (HN.out w).mono ?_; rintro e w1 ⟨rfl, b1⟩; have HB1 := Lib.hid b1; clear b1)
    | ((with_reducible refine at_store 27 _ _ rfl ?_); refine wpList_store_new rfl 27 _ _ rfl A rfl rfl 27 _ IA.out (by rw [SA.out]; rfl) OA.out ?_))
  obtain ⟨pb, Hpb⟩ : ∃ b, Hid (b = w1.heap.size) := ⟨_, Lib.hid rfl⟩
  obtain ⟨V, HV, HBV, HRV⟩ : ∃ W, Hid (W = w1.alloc (.cells A 27)) ∧ Hid (Below w.heap.size w W) ∧ Hid (W.heap[pb]? = some (.cells A 27 (0, 0))) := ⟨_, Lib.hid rfl, Lib.hid (HB1.out.alloc HB1.out.size _), Lib.hid (by rw [Hpb.out]; exact heap_alloc_new _ _)⟩
  have Hpw : Hid (w.heap.size ≤ pb) := Lib.hid (by rw [Hpb.out]; exact HB1.out.size)
  rw [← HV.out, ← Hpb.out]
  have HFR : Hid (∀ w', Below (V.heap.size) V w' → Hid (w'.heap[pb]? = some (.cells A 27 (0, 0))) ∧ Hid (Below w.heap.size w w')) := Lib.hid (fun w' hb => ⟨Lib.hid ((hb.block _ (Array.getElem?_eq_some_iff.1 HRV.out).1).trans HRV.out), Lib.hid (HBV.out.trans (hb.mono HBV.out.size))⟩)
  go_upto_region 3 with (first
    | ((with_reducible refine at_load 27 _ rfl ?_); refine wpList_load_row rfl 27 _ rfl _ rfl _ A (0, 0) _ HRV.out Tryz.underlying27 rfl IA.out ?_)
    | (go_at_call 14; refine (HGB.out _ _ (one_byteP V)).mono ?_; rintro e w2 ⟨sv, rfl, s2, b2⟩; have HS2 := Lib.hid s2; obtain ⟨HR2, HB2⟩ := HFR.out w2 (((Below.refl _ _).alloc (Nat.le_refl _) _).trans (b2.mono (by simp))); clear s2 b2)
    | ((with_reducible refine at_store 27 _ _ rfl ?_); refine wpList_store_row rfl 27 _ _ rfl _ B rfl rfl 27 _ HR2.out IB.out (by rw [SA.out, SB.out]) OB.out ?_))
  obtain ⟨W3, HW3, HB3, HR3, HS3⟩ : ∃ W, Hid (W = w2.setRow pb B) ∧ Hid (Below w.heap.size w W) ∧ Hid (W.heap[pb]? = some (.cells B 27 (0, 0))) ∧ Hid (Sl W sv S1) := ⟨_, Lib.hid rfl, Lib.hid (below_row HB2.out Hpw.out _), Lib.hid (setRow_heap _ _ _ _ _ _ HR2.out), Lib.hid (HAW.out w2 pb sv HS2.out HR2.out)⟩
  rw [← HW3.out]
  obtain ⟨kn, kd⟩ := HCB.out W3 pb HR3.out
  go_wp2_with (first
    | ((with_reducible refine at_load 27 _ rfl ?_); first | refine wpList_load_want (by rfl) 27 _ rfl pb rfl _ B (0, 0) _ HR3.out Tryz.underlying27 rfl IB.out ?_ | refine wpList_load_want (by rfl) 27 _ rfl pb rfl _ B (0, 0) _ HR4.out Tryz.underlying27 rfl IB.out ?_)
    | (go_at_call 18; refine (HL.out W3).mono ?_; rintro e w4 ⟨rfl, b4⟩; have HB4 := Lib.hid (HB3.out.trans (b4.mono HB3.out.size)); have HR4 := Lib.hid ((b4.block _ (Array.getElem?_eq_some_iff.1 HR3.out).1).trans HR3.out); have HS4 := Lib.hid (HS3.out.later b4); clear b4)
    | (go_at_call 9; refine (HO.out _ _ _ (one_byteP w4) (HS4.out.later ((Below.refl _ _).alloc (Nat.le_refl _) _))).mono ?_; rintro e w5 ⟨rfl, b5⟩; have HB5 := Lib.hid (HB4.out.trans ((((Below.refl w4.heap.size w4).alloc (Nat.le_refl _) (.cells #[Value.int .u8 97] 5 (1, 2))).trans (b5.mono (by simp))).mono HB4.out.size)); clear b5))
  go_ret
  exact ⟨rfl, HB5.out⟩
end Go.Proofs.YtcnelahmbfggcaaGreat

/- A purse is alike itself. -/
namespace Go.Proofs.YtcnelahmbfggcaaGreat
open Go Go.RowKit
set_option maxRecDepth 100000
set_option maxHeartbeats 1000000

theorem run_part_agg {P : Program} {w : World} {t : TypeId} {d : TypeDesc} (hu : P.underlying t = some d) (hd : d.isRow = true) (l m r : List Value) (hm : m.length = P.cellsOf t) :
    (part t (l ++ (m ++ r)).toArray l.length).run P w = .ok (.agg m.toArray) w := by
  obtain ⟨i, hi⟩ := info_of_underlying hu
  have e : ((l ++ (m ++ r)).drop l.length).take m.length = m := by rw [List.drop_left, List.take_left]
  cases d <;> simp [TypeDesc.isRow] at hd <;>
    simp [part, isAgg, run_underlying hu, run_sizeOf w hi, ← hm]
theorem eq_same {P : Program} {w : World} (d : Nat) {t e : TypeId} {n : Nat} {i : TypeInfo} (ht : P.underlying t = some (.array n e)) (hi : P.info? e = some i) (hc : P.cellsOf e = 1) (he : P.underlying e = some (.int .u8)) (l : List UInt8) (hl : l.length = n) :
    (Op.equalIn (d + 2) t (.agg (B8 l).toArray) (.agg (B8 l).toArray)).run P w = .ok true w := by
  have e (l : List UInt8) : (B8 l) = (l.map fun b => ((bn b : Nat) : Int)).map (Value.int .u8) := by simp [B8]
  rw [e l, run_eq_ints d ht hi hc he _ _ (by simp [hl]) (by simp [hl])]
  simp
theorem eqFields_step {P : Program} {w : World} {d : Nat} {xs ys : Array Value} {f : Field} {fs : List Field} {a b : Value} (hn : f.name ≠ "_") (h1 : (part f.type xs f.offset).run P w = .ok a w) (h2 : (part f.type ys f.offset).run P w = .ok b w) (h3 : (Op.equalIn d f.type a b).run P w = .ok true w) :
    (Op.eqFields d xs ys (f :: fs)).run P w = (Op.eqFields d xs ys fs).run P w := by
  rw [Op.eqFields, if_pos hn]
  simp only [Sem.run_bind, h1, h2, Result.andThen_ok, h3, Bool.not_true, Bool.false_eq_true, if_false]
theorem eqFields_nil {P : Program} {w : World} {d : Nat} {xs ys : Array Value} : (Op.eqFields d xs ys []).run P w = .ok true w := by
  rw [Op.eqFields, Sem.run_pure]
theorem eq_tree {w : World} (d : Nat) {tt : TypeId} (hs : Tryz.prog.stoodInHeld tt = false) (hu : Tryz.prog.underlying tt = some (.struct (Tryz.prog.fieldsOf tt)))
    (hf : (Tryz.prog.fieldsOf tt).toList = [⟨ "I", 22, 0, false, "", "", 0⟩, ⟨ "Seed", 23, 16, false, "", "", 16⟩, ⟨ "W", 3, 48, false, "", "", 48⟩, ⟨ "H", 3, 49, false, "", "", 56⟩])
    (I S : List UInt8) (k h : Int) (hI : I.length = 16) (hS : S.length = 32) :
    (Op.equalIn (d + 4) tt (.agg (TreeV I S k h).toArray) (.agg (TreeV I S k h).toArray)).run Tryz.prog w = .ok true w := by
  obtain ⟨i0, hi, _⟩ := info_parts info_u8
  rw [run_equalIn_struct w (d + 3) _ _ _ hu hs, hf]
  have p0 : (part 22 (TreeV I S k h).toArray 0).run Tryz.prog w = .ok (.agg (B8 I).toArray) w := by
    have := run_part_agg (w := w) Tryz.underlying22 rfl [] (B8 I) (B8 S ++ [.int .i64 k, .int .i64 h]) (by rw [B8_length, hI]; kernel_rfl)
    rw [TreeV]
    rw [List.nil_append, List.length_nil] at this
    exact this
  have p1 : (part 23 (TreeV I S k h).toArray 16).run Tryz.prog w = .ok (.agg (B8 S).toArray) w := by
    have := run_part_agg (w := w) Tryz.underlying23 rfl (B8 I) (B8 S) [.int .i64 k, .int .i64 h] (by rw [B8_length, hS]; kernel_rfl)
    rw [B8_length, hI] at this
    rw [TreeV]
    exact this
  have hl := TreeV_length I S k h hI hS
  have g2 : (TreeV I S k h).toArray[48]? = some (.int .i64 k) := by
    rw [List.getElem?_toArray, TreeV, List.getElem?_append_right (by rw [B8_length]; omega), B8_length, hI, List.getElem?_append_right (by rw [B8_length]; omega), B8_length, hS]; rfl
  have g3 : (TreeV I S k h).toArray[49]? = some (.int .i64 h) := by
    rw [List.getElem?_toArray, TreeV, List.getElem?_append_right (by rw [B8_length]; omega), B8_length, hI, List.getElem?_append_right (by rw [B8_length]; omega), B8_length, hS]; rfl
  have p2 := run_part_int (w := w) Tryz.underlying3 _ _ _ g2
  have p3 := run_part_int (w := w) Tryz.underlying3 _ _ _ g3
  have q0 := eq_same (w := w) (d + 1) Tryz.underlying22 hi cells_u8 Tryz.underlying5 I hI
  have q1 := eq_same (w := w) (d + 1) Tryz.underlying23 hi cells_u8 Tryz.underlying5 S hS
  have q2 := fun a : Int => run_equalIn_int (P := Tryz.prog) w (d + 2) 3 .i64 .i64 a a Tryz.underlying3
  have t0 : (k == k) = true := by simp
  have t1 : (h == h) = true := by simp
  rw [eqFields_step (by decide) p0 p0 q0, eqFields_step (by decide) p1 p1 q1, eqFields_step (by decide) p2 p2 (by rw [q2 k, t0]), eqFields_step (by decide) p3 p3 (by rw [q2 h, t1]), eqFields_nil]
theorem eq_purse0 {w : World} {tp tt : TypeId} (hs : Tryz.prog.stoodInHeld tp = false) (hu : Tryz.prog.underlying tp = some (.struct (Tryz.prog.fieldsOf tp)))
    (hf : (Tryz.prog.fieldsOf tp).toList = [⟨ "T", tt, 0, false, "", "", 0⟩, ⟨ "Next", 3, 50, false, "", "", 64⟩, ⟨ "Noted", 3, 51, false, "", "", 72⟩, ⟨ "Step", 3, 52, false, "", "", 80⟩])
    (hs' : Tryz.prog.stoodInHeld tt = false) (hu' : Tryz.prog.underlying tt = some (.struct (Tryz.prog.fieldsOf tt))) (hc' : Tryz.prog.cellsOf tt = 50)
    (hf' : (Tryz.prog.fieldsOf tt).toList = [⟨ "I", 22, 0, false, "", "", 0⟩, ⟨ "Seed", 23, 16, false, "", "", 16⟩, ⟨ "W", 3, 48, false, "", "", 48⟩, ⟨ "H", 3, 49, false, "", "", 56⟩])
    (I S : List UInt8) (k h nx nt st : Int) (hI : I.length = 16) (hS : S.length = 32) :
    (Op.equalIn 10000 tp (.agg (PurseV I S k h nx nt st).toArray) (.agg (PurseV I S k h nx nt st).toArray)).run Tryz.prog w = .ok true w := by
  rw [run_equalIn_struct w 9999 _ _ _ hu hs, hf]
  have hl := TreeV_length I S k h hI hS
  have p0 : (part tt (PurseV I S k h nx nt st).toArray 0).run Tryz.prog w = .ok (.agg (TreeV I S k h).toArray) w := by
    have := run_part_agg (w := w) hu' rfl [] (TreeV I S k h) [.int .i64 nx, .int .i64 nt, .int .i64 st] (by rw [hl, hc'])
    rw [PurseV]
    rw [List.nil_append, List.length_nil] at this
    exact this
  have g1 : (PurseV I S k h nx nt st).toArray[50]? = some (.int .i64 nx) := by rw [List.getElem?_toArray, PurseV, List.getElem?_append_right (by omega), hl]; rfl
  have g2 : (PurseV I S k h nx nt st).toArray[51]? = some (.int .i64 nt) := by rw [List.getElem?_toArray, PurseV, List.getElem?_append_right (by omega), hl]; rfl
  have g3 : (PurseV I S k h nx nt st).toArray[52]? = some (.int .i64 st) := by rw [List.getElem?_toArray, PurseV, List.getElem?_append_right (by omega), hl]; rfl
  have p1 := run_part_int (w := w) Tryz.underlying3 _ _ _ g1
  have p2 := run_part_int (w := w) Tryz.underlying3 _ _ _ g2
  have p3 := run_part_int (w := w) Tryz.underlying3 _ _ _ g3
  have q0 := eq_tree (w := w) 9995 hs' hu' hf' I S k h hI hS
  have q2 := fun a : Int => run_equalIn_int (P := Tryz.prog) w 9998 3 .i64 .i64 a a Tryz.underlying3
  have t0 : ∀ a : Int, (a == a) = true := fun a => by simp
  rw [eqFields_step (show ("T" : String) ≠ "_" by decide) p0 p0 q0, eqFields_step (by decide) p1 p1 (by rw [q2 nx, t0]), eqFields_step (by decide) p2 p2 (by rw [q2 nt, t0]), eqFields_step (by decide) p3 p3 (by rw [q2 st, t0]), eqFields_nil]
theorem eq_purse (I S : List UInt8) (k h nx nt st : Int) (hI : I.length = 16) (hS : S.length = 32) (w : World) :
    (Op.equalIn 10000 27 (.agg (PurseV I S k h nx nt st).toArray) (.agg (PurseV I S k h nx nt st).toArray)).run Tryz.prog w = .ok true w :=
  eq_purse0 (tt := 25) (by kernel_rfl) Tryz.underlying27 (by kernel_rfl) (by kernel_rfl) Tryz.underlying25 (by kernel_rfl) (by kernel_rfl) I S k h nx nt st hI hS
theorem eq_rpurse (I S : List UInt8) (k h nx nt st : Int) (hI : I.length = 16) (hS : S.length = 32) (w : World) :
    (Op.equalIn 10000 33 (.agg (PurseV I S k h nx nt st).toArray) (.agg (PurseV I S k h nx nt st).toArray)).run Tryz.prog w = .ok true w :=
  eq_purse0 (tt := 31) (by kernel_rfl) Tryz.underlying33 (by kernel_rfl) (by kernel_rfl) Tryz.underlying31 (by kernel_rfl) (by kernel_rfl) I S k h nx nt st hI hS
end Go.Proofs.YtcnelahmbfggcaaGreat

/- A purse, or a tree, that came in. -/
namespace Go.Proofs.YtcnelahmbfggcaaGreat
open Go Go.RowKit Go.ChangeShapes Go.WideShapes Go.ChangeAt
set_option maxRecDepth 100000

def OpTreeP (_ : World) (v : Value) : Prop := ∃ (I S : List UInt8) (k h : Int), I.length = 16 ∧ S.length = 32 ∧ (-9223372036854775808 ≤ k ∧ k ≤ 9223372036854775807) ∧ (-9223372036854775808 ≤ h ∧ h ≤ 9223372036854775807) ∧ v = .agg (TreeV I S k h).toArray
def OpPurse (_ : World) (v : Value) : Prop := ∃ (I S : List UInt8) (k h nx nt st : Int), I.length = 16 ∧ S.length = 32 ∧ (-9223372036854775808 ≤ k ∧ k ≤ 9223372036854775807) ∧ v = .agg (PurseV I S k h nx nt st).toArray
theorem cutTP (cs : List Value) (h : cs.length = 50) : cs = (cs.drop 0).take 16 ++ ((cs.drop 16).take 32 ++ ((cs.drop 48).take 1 ++ (cs.drop 49).take 1)) := by
  have e1 : (cs.drop 49).take 1 = cs.drop 49 := List.take_of_length_le (by rw [List.length_drop]; omega)
  have e2 : (cs.drop 48).take 1 ++ cs.drop 49 = cs.drop 48 := by
    have := List.take_append_drop 1 (cs.drop 48)
    rwa [List.drop_drop] at this
  have e3 : (cs.drop 16).take 32 ++ cs.drop 48 = cs.drop 16 := by
    have := List.take_append_drop 32 (cs.drop 16)
    rwa [List.drop_drop] at this
  rw [e1, e2, e3, List.drop_zero, List.take_append_drop]
theorem cutPP (cs : List Value) (h : cs.length = 53) : cs = (cs.drop 0).take 50 ++ ((cs.drop 50).take 1 ++ ((cs.drop 51).take 1 ++ (cs.drop 52).take 1)) := by
  have e1 : (cs.drop 52).take 1 = cs.drop 52 := List.take_of_length_le (by rw [List.length_drop]; omega)
  have e2 : (cs.drop 51).take 1 ++ cs.drop 52 = cs.drop 51 := by
    have := List.take_append_drop 1 (cs.drop 51)
    rwa [List.drop_drop] at this
  have e3 : (cs.drop 50).take 1 ++ cs.drop 51 = cs.drop 50 := by
    have := List.take_append_drop 1 (cs.drop 50)
    rwa [List.drop_drop] at this
  rw [e1, e2, e3, List.drop_zero, List.take_append_drop]
section
variable {H : Type} {enc : TypeId × Value → H} {w : World} {base : Nat} {held : Bool} {r : Reach} {b0 : Nat} {v : Value} {d : DataW H} {ps : List MemPlace}
theorem tree_cells {fuel : Nat} {cs : List Value} {x : DataW H × List MemPlace} (hf : DataW.trod enc Tryz.prog w base (fun _ => true) held fuel 25 cs = some x) :
    ∃ (I S : List UInt8) (k h : Int), I.length = 16 ∧ S.length = 32 ∧ (-9223372036854775808 ≤ k ∧ k ≤ 9223372036854775807) ∧ (-9223372036854775808 ≤ h ∧ h ≤ 9223372036854775807) ∧ cs = TreeV I S k h := by
  obtain ⟨hl, m, hfs⟩ := trod_fields Tryz.underlying25 hf
  obtain ⟨y0, h0⟩ : ∃ y, DataW.trod enc Tryz.prog w base (fun _ => true) held m 22 ((cs.drop 0).take (Tryz.prog.cellsOf 22)) = some y := hfs 0 _ rfl
  obtain ⟨y1, h1⟩ : ∃ y, DataW.trod enc Tryz.prog w base (fun _ => true) held m 23 ((cs.drop 16).take (Tryz.prog.cellsOf 23)) = some y := hfs 1 _ rfl
  obtain ⟨y2, h2⟩ : ∃ y, DataW.trod enc Tryz.prog w base (fun _ => true) held m 3 ((cs.drop 48).take (Tryz.prog.cellsOf 3)) = some y := hfs 2 _ rfl
  obtain ⟨y3, h3⟩ : ∃ y, DataW.trod enc Tryz.prog w base (fun _ => true) held m 3 ((cs.drop 49).take (Tryz.prog.cellsOf 3)) = some y := hfs 3 _ rfl
  have hl' : cs.length = 50 := by rw [show (50 : Nat) = Tryz.prog.cellsOf 25 by kernel_rfl]; exact hl
  obtain ⟨l0, l0l, e0, w0⟩ := trod_row (n := 16) Tryz.underlying22 Tryz.underlying5 (by kernel_rfl) (by kernel_rfl) h0
  obtain ⟨l1, l1l, e1, w1⟩ := trod_row (n := 32) Tryz.underlying23 Tryz.underlying5 (by kernel_rfl) (by kernel_rfl) h1
  obtain ⟨z2, e2, _, w2⟩ := DataW.trod_int Tryz.underlying3 h2
  obtain ⟨z3, e3, _, w3⟩ := DataW.trod_int Tryz.underlying3 h3
  rw [show Tryz.prog.cellsOf 22 = 16 by kernel_rfl] at e0
  rw [show Tryz.prog.cellsOf 23 = 32 by kernel_rfl] at e1
  rw [show Tryz.prog.cellsOf 3 = 1 by kernel_rfl] at e2 e3
  obtain ⟨I, hI, eI⟩ := IV_bytes l0 w0
  obtain ⟨S, hS, eS⟩ := IV_bytes l1 w1
  refine ⟨I, S, z2, z3, by omega, by omega, wf_i64_bd w2, wf_i64_bd w3, ?_⟩
  rw [cutTP _ hl', e0, e1, e2, e3, eI, eS, TreeV]
  rfl
theorem op_treeP (hval : Value.okWide Tryz.prog w r b0 25 v) (h : DataW.Trod enc Tryz.prog w base (fun _ => true) held 25 v d ps) : OpTreeP w v := by
  obtain ⟨cs, rfl⟩ := okWide_agg Tryz.underlying25 rfl hval
  obtain ⟨fuel, hf⟩ := h
  obtain ⟨I, S, k, h, hI, hS, hk, hh, e⟩ := tree_cells hf
  have e' : cs.toList = TreeV I S k h := e
  exact ⟨I, S, k, h, hI, hS, hk, hh, by rw [← e']⟩
theorem op_purse (hval : Value.okWide Tryz.prog w r b0 27 v) (h : DataW.Trod enc Tryz.prog w base (fun _ => true) held 27 v d ps) : OpPurse w v := by
  obtain ⟨cs, rfl⟩ := okWide_agg Tryz.underlying27 rfl hval
  obtain ⟨fuel, hf⟩ := h
  obtain ⟨hl, m, hfs⟩ := trod_fields Tryz.underlying27 hf
  obtain ⟨y0, h0⟩ : ∃ y, DataW.trod enc Tryz.prog w base (fun _ => true) held m 25 ((cs.toList.drop 0).take (Tryz.prog.cellsOf 25)) = some y := hfs 0 _ rfl
  obtain ⟨y1, h1⟩ : ∃ y, DataW.trod enc Tryz.prog w base (fun _ => true) held m 3 ((cs.toList.drop 50).take (Tryz.prog.cellsOf 3)) = some y := hfs 1 _ rfl
  obtain ⟨y2, h2⟩ : ∃ y, DataW.trod enc Tryz.prog w base (fun _ => true) held m 3 ((cs.toList.drop 51).take (Tryz.prog.cellsOf 3)) = some y := hfs 2 _ rfl
  obtain ⟨y3, h3⟩ : ∃ y, DataW.trod enc Tryz.prog w base (fun _ => true) held m 3 ((cs.toList.drop 52).take (Tryz.prog.cellsOf 3)) = some y := hfs 3 _ rfl
  have hl' : cs.toList.length = 53 := by rw [show (53 : Nat) = Tryz.prog.cellsOf 27 by kernel_rfl]; exact hl
  obtain ⟨I, S, k, h, hI, hS, hk, hh, e0⟩ := tree_cells h0
  obtain ⟨z1, e1, _, w1⟩ := DataW.trod_int Tryz.underlying3 h1
  obtain ⟨z2, e2, _, w2⟩ := DataW.trod_int Tryz.underlying3 h2
  obtain ⟨z3, e3, _, w3⟩ := DataW.trod_int Tryz.underlying3 h3
  rw [show Tryz.prog.cellsOf 25 = 50 by kernel_rfl] at e0
  rw [show Tryz.prog.cellsOf 3 = 1 by kernel_rfl] at e1 e2 e3
  refine ⟨I, S, k, h, z1, z2, z3, hI, hS, hk, ?_⟩
  have e : cs.toList = PurseV I S k h z1 z2 z3 := by
    rw [cutPP _ hl', e0, e1, e2, e3, PurseV]
    rfl
  rw [← e]
end
end Go.Proofs.YtcnelahmbfggcaaGreat


/- The walk of the law OtsChains. -/
import Derived.Test.YtmmmjlmfnonmaaaG5
import Derived.Test.YtmmmjlmfnonmaaaEq
import Derived.Test.YtmmmjlmfnonmaaaInts
import Derived.Test.YtmmmjlmfnonmaaaAt
namespace Go.Proofs.Ytmmmjlmfnonmaaa
open Go Go.RowKit
set_option maxRecDepth 100000
set_option maxHeartbeats 2000000

theorem chV_len (I : List UInt8) (q : Nat) (d i a b : Int) (x : List UInt8) (hx : x.length = 32) : (chV I q d i a b x).length = 32 := by
  rw [chV]
  split
  · exact chainN_length _ _ _ _ _ _ hx
  · rfl
theorem secV_len (I S : List UInt8) (q : Nat) (d i : Int) : (secV I S q d i).length = 32 := by
  rw [secV]
  split
  · exact sha_length _
  · rfl
theorem ints3 {w : World} {b : Nat} {t : TypeId} {i a c : Int} (h : w.heap[b]? = some (.cells (IV .i64 [i, a, c]).toArray t (0, 0))) :
    w.cell? ⟨b, 0, none⟩ = some (.int .i64 i) ∧ w.cell? ⟨b, 1, none⟩ = some (.int .i64 a) ∧ w.cell? ⟨b, 2, none⟩ = some (.int .i64 c) := by
  refine ⟨?_, ?_, ?_⟩ <;> rw [cell_of_row w b _ _ t (0, 0) h] <;> rfl

theorem wf_of_i64 {d : Int} (h : -9223372036854775808 ≤ d ∧ d ≤ 9223372036854775807) : (Lit.int .i64 d).wf = true := by
  simp [Lit.wf, IntKind.min, IntKind.max, IntKind.signed, IntKind.bits]
  omega
theorem OtsChains_main (I S : List UInt8) (q : Nat) (d i a b : Int) (x : List UInt8) (w : World) (hI : I.length = 16) (hS : S.length = 32) (hq : q < 4294967296) (hd : -9223372036854775808 ≤ d ∧ d ≤ 9223372036854775807) (hdw : (Lit.int .i64 d).wf = true) (hx : x.length = 32) :
    Calls Try.prog 5 #[.agg (KeyV I S q d).toArray, .agg (IV .i64 [i, a, b]).toArray, .agg (B8 x).toArray] w fun e w' => e = .returned (.bool true) ∧ Below w.heap.size w w' := by
  obtain ⟨W0, HW0, HB0, HS0, HR0⟩ : ∃ V, Hid (V = w.alloc (.cells (KeyV I S q d).toArray 26)) ∧ Hid (Below w.heap.size w V) ∧ Hid (V.heap.size = w.heap.size + 1) ∧ Hid (V.heap[w.heap.size]? = some (.cells (KeyV I S q d).toArray 26 (0, 0))) := ⟨_, Lib.hid rfl, Lib.hid ((Below.refl _ _).alloc (Nat.le_refl _) _), Lib.hid (by simp), Lib.hid (heap_alloc_new _ _)⟩
  obtain ⟨N4, HN4⟩ : ∃ N4, Hid (N4 = (IV .i64 [i, a, b]).toArray) := ⟨_, Lib.hid rfl⟩
  rw [← HN4.out]
  obtain ⟨W1, HW1, HB1, HS1, HR1, HX1⟩ : ∃ V, Hid (V = W0.alloc (.cells N4 38)) ∧ Hid (Below w.heap.size w V) ∧ Hid (V.heap.size = w.heap.size + 2) ∧ Hid (V.heap[w.heap.size]? = some (.cells (KeyV I S q d).toArray 26 (0, 0))) ∧ Hid (V.heap[w.heap.size + 1]? = some (.cells N4 38 (0, 0))) :=
    ⟨_, Lib.hid rfl, Lib.hid (HB0.out.alloc HB0.out.size _), Lib.hid (by simp [HS0.out]), Lib.hid ((heap_alloc_old _ _ (by rw [HS0.out]; omega)).trans HR0.out), Lib.hid (by rw [← HS0.out]; exact heap_alloc_new _ _)⟩
  obtain ⟨V, HV, HVB, HVS, HVR, HVX, HVZ⟩ : ∃ V, Hid (V = W1.alloc (.cells (B8 x).toArray 24)) ∧ Hid (Below w.heap.size w V) ∧ Hid (V.heap.size = w.heap.size + 3) ∧ Hid (V.heap[w.heap.size]? = some (.cells (KeyV I S q d).toArray 26 (0, 0))) ∧ Hid (V.heap[w.heap.size + 1]? = some (.cells N4 38 (0, 0))) ∧ Hid (V.heap[w.heap.size + 2]? = some (.cells (B8 x).toArray 24 (0, 0))) :=
    ⟨_, Lib.hid rfl, Lib.hid (HB1.out.alloc HB1.out.size _), Lib.hid (by simp [HS1.out]), Lib.hid ((heap_alloc_old _ _ (by rw [HS1.out]; omega)).trans HR1.out), Lib.hid ((heap_alloc_old _ _ (by rw [HS1.out]; omega)).trans HX1.out), Lib.hid (by rw [← HS1.out]; exact heap_alloc_new _ _)⟩
  have IK : Hid ((Try.prog.info? 26).map (·.size) = some (KeyV I S q d).toArray.size) := Lib.hid (by rw [info_key, List.size_toArray, KeyV_length _ _ _ _ hI hS])
  have IKL : Hid ((Try.prog.info? 26).map (·.size) = some (KeyV I S q d).length) := Lib.hid (by rw [info_key, KeyV_length _ _ _ _ hI hS])
  have HC : Hid (∀ W, Below V.heap.size V W → W.heap[w.heap.size]? = some (.cells (KeyV I S q d).toArray 26 (0, 0)) ∧ W.heap[w.heap.size + 2]? = some (.cells (B8 x).toArray 24 (0, 0))) := Lib.hid (fun W hW =>
    ⟨(hW.block _ (by rw [HVS.out]; omega)).trans HVR.out, (hW.block _ (by rw [HVS.out]; omega)).trans HVZ.out⟩)
  have HKW : Hid (∀ W, Below V.heap.size V W → W.cell? ⟨w.heap.size, 49, none⟩ = some (.int .i64 d)) := Lib.hid (fun W hW => key_W (HC.out W hW).1 hI hS)
  obtain ⟨c0, c1, c2⟩ := ints3 (by rw [← HN4.out]; exact HVX.out)
  obtain ⟨A, HA⟩ : ∃ A, Hid (A = secV I S q d i) := ⟨_, Lib.hid rfl⟩
  have HAL : Hid (A.length = 32) := Lib.hid (by rw [HA.out]; exact secV_len _ _ _ _ _)
  obtain ⟨C, HCC⟩ : ∃ C, Hid (C = chV I q d i a b x) := ⟨_, Lib.hid rfl⟩
  have HCL : Hid (C.length = 32) := Lib.hid (by rw [HCC.out]; exact chV_len _ _ _ _ _ _ _ hx)
  have K1 := Lib.hid (fun w' => Secret_any I S q d i w' hI hS hq hd)
  have K2 := Lib.hid (fun w' => Secret_ref I S q d i w' hI hS hq)
  have K3 := Lib.hid (fun w' => Chain_any I S q d i a b x w' hI hS hq hd hx)
  have K4 := Lib.hid (fun w' => Chain_ref I S q d i a b x w' hI hS hq hx)
  have K5 := Lib.hid (fun w' => Long_any' d w' hd)
  have K6 := Lib.hid (fun w' => Long_ref d w')
  have K7 := Lib.hid (fun w' => Type_any d w' hdw)
  have K8 := Lib.hid (fun w' => Type_ref d w')
  have HP := Lib.hid (fun w' => plain_any I S q d w' hI hS)
  rw [← HA.out] at K1 K2
  rw [← HCC.out] at K3 K4
  obtain ⟨e1, he1⟩ : ∃ e : Int, Hid (e = if 0 ≤ i ∧ i < manyW d then 0 else 1) := ⟨_, Lib.hid rfl⟩
  obtain ⟨e2, he2⟩ : ∃ e : Int, Hid (e = if chOk d i a b = true then 0 else 1) := ⟨_, Lib.hid rfl⟩
  obtain ⟨n, hn⟩ : ∃ e : Int, Hid (e = if isW d = true then 36 + 32 * manyW d else 0) := ⟨_, Lib.hid rfl⟩
  rw [← he1.out] at K1 K2
  rw [← he2.out] at K3 K4
  rw [← hn.out] at K5 K6
  generalize errW d = er at K5 K6 K7 K8
  generalize typeN d = ty at K7 K8
  have IA : Hid ((Try.prog.info? 24).map (·.size) = some (B8 A).toArray.size) := Lib.hid (by rw [info_32]; simp [B8_length, HAL.out])
  have IC : Hid ((Try.prog.info? 24).map (·.size) = some (B8 C).toArray.size) := Lib.hid (by rw [info_32]; simp [B8_length, HCL.out])
  have IX : Hid ((Try.prog.info? 24).map (·.size) = some (B8 x).toArray.size) := Lib.hid (by rw [info_32]; simp [B8_length, hx])
  have IXL : Hid ((Try.prog.info? 24).map (·.size) = some (B8 x).length) := Lib.hid (by rw [info_32]; simp [B8_length, hx])
  clear hI hS hq hd hx hdw
  go_enter Try.func5, Try.ntmps5
  go_upto_region 1 with (fail)
  rw [← HW0.out, ← HW1.out, ← HV.out]
  go_quiet (fail)
  obtain ⟨D, HD, HBD⟩ : ∃ D, Hid (D = V.drewN nq) ∧ Hid (Below V.heap.size V D) := ⟨_, Lib.hid rfl, Lib.hid (below_drewN (Below.refl _ _) _)⟩
  rw [← HD.out]
  clear c0 c1 c2 HD
  have KR := Lib.hid (HC.out D HBD.out).1
  go_upto_region 3 with (first
    | (with_reducible refine at_load 26 _ rfl ?_; refine wpList_load_row rfl 26 _ rfl _ rfl _ (KeyV I S q d).toArray (0, 0) _ KR.out Try.underlying26 rfl IK.out ?_)
    | (go_at_call 14; refine (K1.out D).mono ?_; rintro e w1 ⟨rfl, b1⟩; have HB1' := Lib.hid (HBD.out.trans ((b1.alloc b1.size (.cells (B8 A).toArray 24)).mono HBD.out.size)); clear b1)
    | (with_reducible refine at_store 24 _ _ rfl ?_; refine wpList_store_new rfl 24 _ _ rfl (B8 A).toArray rfl rfl 24 _ IA.out (by simp [B8_length, HAL.out]) (B8_oneA A) ?_))
  have A1 : Hid ((w1.alloc (.cells (B8 A).toArray 24)).heap[w1.heap.size]? = some (.cells (B8 A).toArray 24 (0, 0))) := Lib.hid (heap_alloc_new _ _)
  generalize w1.alloc (.cells (B8 A).toArray 24) = V1 at HB1' A1 ⊢
  generalize w1.heap.size = y1 at A1 ⊢
  have KR1 := Lib.hid (HC.out V1 HB1'.out).1
  go_upto_region 4 with (first
    | (with_reducible refine at_load 26 _ rfl ?_; refine wpList_load_row rfl 26 _ rfl _ rfl _ (KeyV I S q d).toArray (0, 0) _ KR1.out Try.underlying26 rfl IK.out ?_)
    | (go_at_call 11; refine (HP.out V1).mono ?_; rintro e w2 ⟨rfl, b2⟩; have HB2' := Lib.hid b2; clear b2)
    | (go_at_call 15; refine (K2.out w2).mono ?_; rintro e w3 ⟨rfl, b3⟩; have HB3' := Lib.hid ((HB2'.out.trans (b3.mono HB2'.out.size)).alloc (HB2'.out.trans (b3.mono HB2'.out.size)).size (.cells (B8 A).toArray 24)); clear b3)
    | (with_reducible refine at_store 24 _ _ rfl ?_; refine wpList_store_new rfl 24 _ _ rfl (B8 A).toArray rfl rfl 24 _ IA.out (by simp [B8_length, HAL.out]) (B8_oneA A) ?_))
  have A3 : Hid ((w3.alloc (.cells (B8 A).toArray 24)).heap[w3.heap.size]? = some (.cells (B8 A).toArray 24 (0, 0))) := Lib.hid (heap_alloc_new _ _)
  generalize w3.alloc (.cells (B8 A).toArray 24) = V3 at HB3' A3 ⊢
  generalize w3.heap.size = y3 at A3 ⊢
  have A13 := Lib.hid ((HB3'.out.block _ (Array.getElem?_eq_some_iff.1 A1.out).1).trans A1.out)
  have HV3 := Lib.hid (HB1'.out.trans (HB3'.out.mono HB1'.out.size))
  have KR3 := Lib.hid (HC.out V3 HV3.out).1
  have XR3 := Lib.hid (HC.out V3 HV3.out).2
  go_upto_region 5 with (first
    | (with_reducible refine at_load 26 _ rfl ?_; refine wpList_load_row rfl 26 _ rfl _ rfl _ (KeyV I S q d).toArray (0, 0) _ KR3.out Try.underlying26 rfl IK.out ?_)
    | (with_reducible refine at_load 24 _ rfl ?_; refine wpList_load_row rfl 24 _ rfl _ rfl _ (B8 x).toArray (0, 0) _ XR3.out Try.underlying24 rfl IX.out ?_)
    | (go_at_call 13; refine (K3.out V3).mono ?_; rintro e w4 ⟨rfl, b4⟩; have HB4' := Lib.hid (b4.alloc b4.size (.cells (B8 C).toArray 24)); clear b4)
    | (with_reducible refine at_store 24 _ _ rfl ?_; refine wpList_store_new rfl 24 _ _ rfl (B8 C).toArray rfl rfl 24 _ IC.out (by simp [B8_length, HCL.out]) (B8_oneA C) ?_))
  have C4 : Hid ((w4.alloc (.cells (B8 C).toArray 24)).heap[w4.heap.size]? = some (.cells (B8 C).toArray 24 (0, 0))) := Lib.hid (heap_alloc_new _ _)
  generalize w4.alloc (.cells (B8 C).toArray 24) = V4 at HB4' C4 ⊢
  generalize w4.heap.size = y4 at C4 ⊢
  have A14 := Lib.hid ((HB4'.out.block _ (Array.getElem?_eq_some_iff.1 A13.out).1).trans A13.out)
  have A34 := Lib.hid ((HB4'.out.block _ (Array.getElem?_eq_some_iff.1 A3.out).1).trans A3.out)
  have HV4 := Lib.hid (HV3.out.trans (HB4'.out.mono HV3.out.size))
  have KR4 := Lib.hid (HC.out V4 HV4.out).1
  have XR4 := Lib.hid (HC.out V4 HV4.out).2
  obtain ⟨KV, HKV⟩ : ∃ K, Hid (K = (KeyV I S q d).toArray) := ⟨_, Lib.hid rfl⟩
  rw [← HKV.out] at K4
  refine Wild.region_v (fun j => match j with | 1 => some (.agg KV) | 6 => some (.tuple #[.agg (B8 C).toArray, .int .i64 e2]) | _ => none) 24 (Array.replicate 32 (.int .u8 0)) (B8 C).toArray 10 11 rfl rfl (by decide) (by decide) (by kernel_rfl) (by kernel_rfl) (fun vs hvs => ?_)
  have h1 : vs 1 = .agg KV := hvs 1 _ rfl
  have h6 : vs 6 = .tuple #[.agg (B8 C).toArray, .int .i64 e2] := hvs 6 _ rfl
  refine Wild.walk_load 26 _ _ _ (KeyV I S q d) _ rfl (by rfl) rfl rfl (fun w hw => rangeAt_blw (rangeAt_row KR4.out) hw.1) Try.underlying26 rfl IKL.out ?_
  simp only [Act.put, List.setIfInBounds_toArray, List.set_cons_zero, List.set_cons_succ]
  refine Wild.walk_wild _ rfl (by rfl) (fun w' hw K hK => ?_) ?_
  · go_simp
    go_at_call 11
    refine (HP.out w').mono ?_
    rintro e w'' ⟨rfl, hb⟩
    exact hK.out _ _ (hw.1.trans (hb.mono hw.1.size)) (Wild.G1.of_below hb) (by rw [HKV.out]) trivial
  rw [h1]
  simp only [Act.put, List.setIfInBounds_toArray, List.set_cons_zero, List.set_cons_succ]
  repeat (refine Wild.walk_simple rfl (by rfl) (by rfl) (fun K hK => ?_); go_big_quiet_op; first | (refine hK _ ?_; clear hK K) | (refine ⟨_, fun _ _ => rfl, hK _ ?_⟩; clear hK K))
  refine Wild.walk_load 24 _ _ _ (B8 x) _ rfl (by rfl) rfl rfl (fun w hw => rangeAt_blw (rangeAt_row XR4.out) hw.1) Try.underlying24 rfl IXL.out ?_
  simp only [Act.put, List.setIfInBounds_toArray, List.set_cons_zero, List.set_cons_succ]
  refine Wild.walk_wild _ rfl (by rfl) (fun w' hw K hK => ?_) ?_
  · go_simp
    go_at_call 16
    refine (K4.out w').mono ?_
    rintro e w'' ⟨rfl, hb⟩
    exact hK.out _ _ (hw.1.trans (hb.mono hw.1.size)) (Wild.G1.of_below hb) rfl trivial
  rw [h6]
  simp only [Act.put, List.setIfInBounds_toArray, List.set_cons_zero, List.set_cons_succ]
  clear h1 h6
  repeat (refine Wild.walk_simple rfl (by rfl) (by rfl) (fun K hK => ?_); go_big_quiet_op; first | (refine hK _ ?_; clear hK K) | (refine ⟨_, fun _ _ => rfl, hK _ ?_⟩; clear hK K))
  refine Wild.walk_wild _ rfl (by rfl) (fun w' hw K hK => ?_) ?_
  · go_simp
    exact hK.out (.pointer (some ⟨w'.heap.size, 0, none⟩)) _ (hw.1.alloc hw.1.size _) (Wild.G1.of_below ((Below.refl _ _).alloc (Nat.le_refl _) _)) trivial ⟨w'.heap.size, rfl, hw.1.size, .inl (heap_alloc_new _ _)⟩
  simp only [Act.put, List.setIfInBounds_toArray, List.set_cons_zero, List.set_cons_succ]
  refine Wild.walk_wild _ rfl (by rfl) (fun w' hw K hK => ?_) ?_
  · have hf := Wild.spv_var (P := Try.prog) rfl hw rfl
    refine Wild.step_store (B := V4.heap.size) (v := vs 10) 24 _ _ rfl rfl rfl IC.out (by simp [B8_length, HCL.out]) (B8_oneA C) hf (fun b h1 h2 h3 h4 => ?_)
    exact hK.out _ _ (below_row hw.1 h2 _) h3 trivial ⟨b, h1, h2, h4⟩
  simp only [Act.put]
  repeat (refine Wild.walk_simple rfl (by rfl) (by rfl) (fun K hK => ?_); go_big_quiet_op; first | (refine hK _ ?_; clear hK K) | (refine ⟨_, fun _ _ => rfl, hK _ ?_⟩; clear hK K))
  refine Wild.walk_nil ?_
  intro w7 hw7 hf7
  obtain ⟨y7, h1, h2, h3⟩ := hf7
  have h1' : vs (0 + 1 + 1 + 1 + 1 + 1 + 1 + 1 + 1 + 1 + 1) = .pointer (some ⟨y7, 0, none⟩) := h1
  rw [h1']
  have C7 := Lib.hid h3
  have C47 := Lib.hid ((Below.block hw7 _ (Array.getElem?_eq_some_iff.1 C4.out).1).trans C4.out)
  have A17 := Lib.hid ((Below.block hw7 _ (Array.getElem?_eq_some_iff.1 A14.out).1).trans A14.out)
  have A37 := Lib.hid ((Below.block hw7 _ (Array.getElem?_eq_some_iff.1 A34.out).1).trans A34.out)
  have HV7 := Lib.hid (HV4.out.trans (Below.mono hw7 HV4.out.size))
  clear h1 h1' h2 h3 hw7 hvs
  have kw7 := HKW.out w7 HV7.out
  have heq := fun W => eq_hash A A HAL.out HAL.out W
  have heq2 := fun W => eq_hash C C HCL.out HCL.out W
  simp only [decide_true] at heq heq2
  go_wp2_with (first
    | (go_at_call 17; refine (K5.out w7).mono ?_; rintro e w8 ⟨rfl, b8⟩; have HB8 := Lib.hid b8; have kw8 := HKW.out w8 (HV7.out.trans (b8.mono HV7.out.size)); clear b8)
    | (go_at_call 18; refine (K6.out w8).mono ?_; rintro e w9 ⟨rfl, b9⟩; have HB9 := Lib.hid (HB8.out.trans (b9.mono HB8.out.size)); have kw9 := HKW.out w9 (HV7.out.trans (HB9.out.mono HV7.out.size)); clear b9)
    | (go_at_call 19; refine (K7.out w9).mono ?_; rintro e w10 ⟨rfl, b10⟩; have HB10 := Lib.hid (HB9.out.trans (b10.mono HB9.out.size)); have kw10 := HKW.out w10 (HV7.out.trans (HB10.out.mono HV7.out.size)); clear b10)
    | (go_at_call 20; refine (K8.out w10).mono ?_; rintro e w11 ⟨rfl, rfl⟩)
    | (go_at_call 12; refine (alive04_any _).mono ?_; rintro e w12 ⟨rfl, b12⟩; have HB12 := Lib.hid (HB10.out.trans (b12.mono HB10.out.size)); have P1 := Lib.hid ((HB12.out.block _ (Array.getElem?_eq_some_iff.1 A17.out).1).trans A17.out); have P3 := Lib.hid ((HB12.out.block _ (Array.getElem?_eq_some_iff.1 A37.out).1).trans A37.out); have P4 := Lib.hid ((HB12.out.block _ (Array.getElem?_eq_some_iff.1 C47.out).1).trans C47.out); have P7 := Lib.hid ((HB12.out.block _ (Array.getElem?_eq_some_iff.1 C7.out).1).trans C7.out); clear b12)
    | (with_reducible refine at_load 24 _ rfl ?_; refine wpList_load_want (by kernel_rfl) 24 _ rfl y1 rfl _ (B8 A).toArray (0, 0) _ P1.out Try.underlying24 rfl IA.out ?_)
    | (with_reducible refine at_load 24 _ rfl ?_; refine wpList_load_want (by kernel_rfl) 24 _ rfl y3 rfl _ (B8 A).toArray (0, 0) _ P3.out Try.underlying24 rfl IA.out ?_)
    | (with_reducible refine at_load 24 _ rfl ?_; refine wpList_load_want (by kernel_rfl) 24 _ rfl y4 rfl _ (B8 C).toArray (0, 0) _ P4.out Try.underlying24 rfl IC.out ?_)
    | (with_reducible refine at_load 24 _ rfl ?_; refine wpList_load_want (by kernel_rfl) 24 _ rfl y7 rfl _ (B8 C).toArray (0, 0) _ P7.out Try.underlying24 rfl IC.out ?_))
  go_ret
  exact ⟨rfl, HVB.out.trans ((HV7.out.trans (HB12.out.mono HV7.out.size)).mono HVB.out.size)⟩
end Go.Proofs.Ytmmmjlmfnonmaaa


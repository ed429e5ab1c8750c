/- The walk of the law LmsKnots. -/
import Derived.Test.YtabdbdnhbiopaaaG13
import Derived.Test.YtabdbdnhbiopaaaG15
namespace Go.Proofs.Ytabdbdnhbiopaaa
open Go Go.RowKit
set_option maxRecDepth 100000
set_option maxHeartbeats 1000000
attribute [local irreducible] Wild.walk WildF.walk

theorem LmsKnots_main (I S : List UInt8) (k h r : Int) (w : World) (hI : I.length = 16) (hS : S.length = 32) (hk : -9223372036854775808 ≤ k ∧ k ≤ 9223372036854775807) :
    Calls Try.prog 7 #[.agg (TreeV I S k h).toArray, .int .i64 r] w fun e w' => e = .returned (.bool true) ∧ Below w.heap.size w w' := by
  obtain ⟨W0, HW0, HB0, HS0, HR0⟩ : ∃ V, Hid (V = w.alloc (.cells (TreeV I S k h).toArray 25)) ∧ Hid (Below w.heap.size w V) ∧ Hid (V.heap.size = w.heap.size + 1) ∧ Hid (V.heap[w.heap.size]? = some (.cells (TreeV I S k h).toArray 25 (0, 0))) := ⟨_, Lib.hid rfl, Lib.hid ((Below.refl _ _).alloc (Nat.le_refl _) _), Lib.hid (by simp), Lib.hid (heap_alloc_new _ _)⟩
  have IK : Hid ((Try.prog.info? 25).map (·.size) = some (TreeV I S k h).toArray.size) := Lib.hid (by rw [info_tree, List.size_toArray, TreeV_length _ _ _ _ hI hS])
  have HTB : Hid (∀ w', Below W0.heap.size W0 w' → Hid (w'.heap[w.heap.size]? = some (.cells (TreeV I S k h).toArray 25 (0, 0)))) := Lib.hid (fun w' hb => Lib.hid ((hb.block _ (by rw [HS0.out]; omega)).trans HR0.out))
  have HBZ : Hid (Below W0.heap.size W0 W0) := Lib.hid (Below.refl _ _)
  have HLO := Lib.hid (fun w' => low05_any I S k h w' hI hS)
  have HAL := Lib.hid alive05_any
  have HHI := Lib.hid hI
  have HHS := Lib.hid hS
  cases hlo : lowB h
  · rw [hlo] at HLO
    clear hlo
    clear hI hS hk
    go_enter Try.func7, Try.ntmps7
    go_upto_region 1 with (fail)
    rw [← HW0.out]
    go_wp2_with (first
      | ((with_reducible refine at_load 25 _ rfl ?_); first | refine wpList_load_row rfl 25 _ rfl _ rfl _ (TreeV I S k h).toArray (0, 0) _ (HTB.out _ HBZ.out).out Try.underlying25 rfl IK.out ?_)
      | (go_at_call 9; refine (HLO.out W0).mono ?_; rintro e w1 ⟨rfl, b1⟩; have HB1 := Lib.hid (HBZ.out.trans (b1.mono HBZ.out.size)); clear b1)
      | (go_at_call 10; refine (HAL.out w1).mono ?_; rintro e w2 ⟨rfl, b2⟩; have HB2 := Lib.hid (HB1.out.trans (b2.mono HB1.out.size)); clear b2))
    go_ret
    exact ⟨rfl, HB0.out.trans (HB2.out.mono HB0.out.size)⟩
  · rw [hlo] at HLO
    obtain ⟨X, HXd⟩ : ∃ X, Hid (X = if knotOk k h r then knotV I S k h.toNat r.toNat else zero32) := ⟨_, Lib.hid rfl⟩
    have HXL : Hid (X.length = 32) := Lib.hid (by rw [HXd.out]; split; exact knotV_length _ _ _ _ _; rfl)
    obtain ⟨er, Her⟩ : ∃ er : Int, Hid (er = if knotOk k h r then 0 else 1) := ⟨_, Lib.hid rfl⟩
    have HKN := Lib.hid (fun w' => Knot_lms I S k h r w' hI hS hk)
    have HKR := Lib.hid (fun w' => Knot_ref5 I S k h r w' hI hS)
    have HPB := Lib.hid (fun w' => Public_lms I S k h w' hI hS hk)
    have HPR := Lib.hid (fun w' => Public_ref5 I S k h w' hI hS)
    have HLG := Lib.hid (fun w' => Long_lms I S k h w' hI hS hk)
    have HLR := Lib.hid (fun w' => Long_ref5 I S k h w' hI hS)
    have HPL := Lib.hid (fun w' => plain05_any I S k h w' hI hS)
    simp only [← HXd.out, ← Her.out] at HKN HKR
    generalize pubL I S k h = Pb at *
    generalize errL k h = ep at *
    generalize longL k h = lg at *
    have IX : Hid ((Try.prog.info? 23).map (·.size) = some (B8 X).toArray.size) := Lib.hid (arr32 HXL.out).1
    have heq := fun W => eq_hash X X HXL.out HXL.out W
    simp only [decide_true] at heq
    clear hlo hI hS hk HXd Her
    go_enter Try.func7, Try.ntmps7
    go_upto_region 1 with (fail)
    rw [← HW0.out]
    go_upto_region 4 with (first
      | ((with_reducible refine at_load 25 _ rfl ?_); first | refine wpList_load_row rfl 25 _ rfl _ rfl _ (TreeV I S k h).toArray (0, 0) _ (HTB.out _ HBZ.out).out Try.underlying25 rfl IK.out ?_ | refine wpList_load_row rfl 25 _ rfl _ rfl _ (TreeV I S k h).toArray (0, 0) _ (HTB.out _ HB1.out).out Try.underlying25 rfl IK.out ?_)
      | (go_at_call 9; refine (HLO.out W0).mono ?_; rintro e w1 ⟨rfl, b1⟩; have HB1 := Lib.hid (HBZ.out.trans (b1.mono HBZ.out.size)); clear b1)
      | (go_at_call 20; refine (HKN.out w1).mono ?_; rintro e w2 ⟨rfl, b2⟩; have HB2 := Lib.hid (HB1.out.trans (b2.mono HB1.out.size)); clear b2)
      | ((with_reducible refine at_store 23 _ _ rfl ?_); refine wpList_store_new rfl 23 _ _ rfl (B8 X).toArray rfl rfl 23 _ (arr32 HXL.out).1 (arr32 HXL.out).2 (B8_oneA X) ?_))
    obtain ⟨WA, HWA, HBA, HXA⟩ : ∃ W, Hid (W = w2.alloc (.cells (B8 X).toArray 23)) ∧ Hid (Below W0.heap.size W0 W) ∧ Hid (W.heap[w2.heap.size]? = some (.cells (B8 X).toArray 23 (0, 0))) := ⟨_, Lib.hid rfl, Lib.hid (HB2.out.alloc HB2.out.size _), Lib.hid (heap_alloc_new _ _)⟩
    rw [← HWA.out]
    generalize w2.heap.size = xa at *
    go_upto_region 5 with (first
      | ((with_reducible refine at_load 25 _ rfl ?_); first | refine wpList_load_row rfl 25 _ rfl _ rfl _ (TreeV I S k h).toArray (0, 0) _ (HTB.out _ HBA.out).out Try.underlying25 rfl IK.out ?_ | refine wpList_load_row rfl 25 _ rfl _ rfl _ (TreeV I S k h).toArray (0, 0) _ (HTB.out _ HB3.out).out Try.underlying25 rfl IK.out ?_)
      | (go_at_call 13; refine (HPL.out WA).mono ?_; rintro e w3 ⟨rfl, b3⟩; have HB3 := Lib.hid (HBA.out.trans (b3.mono HBA.out.size)); have HXA3 := Lib.hid ((b3.block _ (Array.getElem?_eq_some_iff.1 HXA.out).1).trans HXA.out); clear b3)
      | (go_at_call 21; refine (HKR.out w3).mono ?_; rintro e w4 ⟨rfl, b4⟩; have HB4 := Lib.hid (HB3.out.trans (b4.mono HB3.out.size)); have HXA4 := Lib.hid ((b4.block _ (Array.getElem?_eq_some_iff.1 HXA3.out).1).trans HXA3.out); clear b4)
      | ((with_reducible refine at_store 23 _ _ rfl ?_); refine wpList_store_new rfl 23 _ _ rfl (B8 X).toArray rfl rfl 23 _ (arr32 HXL.out).1 (arr32 HXL.out).2 (B8_oneA X) ?_))
    obtain ⟨WC, HWC, HBC, HXC⟩ : ∃ W, Hid (W = w4.alloc (.cells (B8 X).toArray 23)) ∧ Hid (Below W0.heap.size W0 W) ∧ Hid (W.heap[w4.heap.size]? = some (.cells (B8 X).toArray 23 (0, 0))) := ⟨_, Lib.hid rfl, Lib.hid (HB4.out.alloc HB4.out.size _), Lib.hid (heap_alloc_new _ _)⟩
    have HXAC : Hid (WC.heap[xa]? = some (.cells (B8 X).toArray 23 (0, 0))) := Lib.hid (by rw [HWC.out]; exact (heap_alloc_old _ _ (Array.getElem?_eq_some_iff.1 HXA4.out).1).trans HXA4.out)
    rw [← HWC.out]
    generalize w4.heap.size = xc at *
    have HROWS : Hid (∀ w', Below WC.heap.size WC w' → Hid (w'.heap[xa]? = some (.cells (B8 X).toArray 23 (0, 0))) ∧ Hid (w'.heap[xc]? = some (.cells (B8 X).toArray 23 (0, 0)))) := Lib.hid (fun w' hb => ⟨Lib.hid ((hb.block _ (Array.getElem?_eq_some_iff.1 HXAC.out).1).trans HXAC.out), Lib.hid ((hb.block _ (Array.getElem?_eq_some_iff.1 HXC.out).1).trans HXC.out)⟩)
    have HC0 : Hid (Below WC.heap.size WC WC) := Lib.hid (Below.refl _ _)
    go_wp2_with (first
      | ((with_reducible refine at_load 25 _ rfl ?_); first | refine wpList_load_row rfl 25 _ rfl _ rfl _ (TreeV I S k h).toArray (0, 0) _ (HTB.out _ HBC.out).out Try.underlying25 rfl IK.out ?_ | refine wpList_load_row rfl 25 _ rfl _ rfl _ (TreeV I S k h).toArray (0, 0) _ (HTB.out _ HB5.out).out Try.underlying25 rfl IK.out ?_ | refine wpList_load_row rfl 25 _ rfl _ rfl _ (TreeV I S k h).toArray (0, 0) _ (HTB.out _ HB6.out).out Try.underlying25 rfl IK.out ?_ | refine wpList_load_row rfl 25 _ rfl _ rfl _ (TreeV I S k h).toArray (0, 0) _ (HTB.out _ HB7.out).out Try.underlying25 rfl IK.out ?_ | refine wpList_load_row rfl 25 _ rfl _ rfl _ (TreeV I S k h).toArray (0, 0) _ (HTB.out _ HB8.out).out Try.underlying25 rfl IK.out ?_ | refine wpList_load_row rfl 25 _ rfl _ rfl _ (TreeV I S k h).toArray (0, 0) _ (HTB.out _ HB9.out).out Try.underlying25 rfl IK.out ?_)
      | (go_at_call 18; refine (HPB.out WC).mono ?_; rintro e w5 ⟨p, rfl, s5, b5⟩; have HB5 := Lib.hid (HBC.out.trans (b5.mono HBC.out.size)); have HC5 := Lib.hid (HC0.out.trans (b5.mono HC0.out.size)); have HP5 := Lib.hid s5; clear s5; clear b5)
      | (go_at_call 13; (with_reducible refine (HPL.out w5).mono ?_); rintro e w6 ⟨rfl, b6⟩; have HB6 := Lib.hid (HB5.out.trans (b6.mono HB5.out.size)); have HC6 := Lib.hid (HC5.out.trans (b6.mono HC5.out.size)); have HP6 := Lib.hid (HP5.out.later b6); clear b6)
      | (go_at_call 22; refine (HPR.out w6).mono ?_; rintro e w7 ⟨q, rfl, s7, b7⟩; have HB7 := Lib.hid (HB6.out.trans (b7.mono HB6.out.size)); have HC7 := Lib.hid (HC6.out.trans (b7.mono HC6.out.size)); have HQ7 := Lib.hid s7; have HP7 := Lib.hid (HP6.out.later b7); clear s7; clear b7)
      | (go_at_call 19; refine (HLG.out w7).mono ?_; rintro e w8 ⟨rfl, b8⟩; have HB8 := Lib.hid (HB7.out.trans (b8.mono HB7.out.size)); have HC8 := Lib.hid (HC7.out.trans (b8.mono HC7.out.size)); have HQ8 := Lib.hid (HQ7.out.later b8); have HP8 := Lib.hid (HP7.out.later b8); clear b8)
      | (go_at_call 13; (with_reducible refine (HPL.out w8).mono ?_); rintro e w9 ⟨rfl, b9⟩; have HB9 := Lib.hid (HB8.out.trans (b9.mono HB8.out.size)); have HC9 := Lib.hid (HC8.out.trans (b9.mono HC8.out.size)); have HQ9 := Lib.hid (HQ8.out.later b9); have HP9 := Lib.hid (HP8.out.later b9); clear b9)
      | (go_at_call 23; refine (HLR.out w9).mono ?_; rintro e w10 ⟨rfl, b10⟩; have HB10 := Lib.hid (HB9.out.trans (b10.mono HB9.out.size)); have HC10 := Lib.hid (HC9.out.trans (b10.mono HC9.out.size)); have HQ10 := Lib.hid (HQ9.out.later b10); have HP10 := Lib.hid (HP9.out.later b10); clear b10)
      | (go_at_call 10; refine (HAL.out w10).mono ?_; rintro e w11 ⟨rfl, b11⟩; have HB11 := Lib.hid (HB10.out.trans (b11.mono HB10.out.size)); have HC11 := Lib.hid (HC10.out.trans (b11.mono HC10.out.size)); have hc1 := (HQ10.out.later b11).conv; have hc2 := (HP10.out.later b11).conv; obtain ⟨P1, P2⟩ := HROWS.out w11 HC11.out; clear b11)
      | ((with_reducible refine at_load 23 _ rfl ?_); refine wpList_load_want (by rfl) 23 _ rfl xa rfl _ (B8 X).toArray (0, 0) _ P1.out Try.underlying23 rfl IX.out ?_)
      | ((with_reducible refine at_load 23 _ rfl ?_); refine wpList_load_want (by rfl) 23 _ rfl xc rfl _ (B8 X).toArray (0, 0) _ P2.out Try.underlying23 rfl IX.out ?_))
    go_ret
    exact ⟨rfl, HB0.out.trans (HB11.out.mono HB0.out.size)⟩
end Go.Proofs.Ytabdbdnhbiopaaa


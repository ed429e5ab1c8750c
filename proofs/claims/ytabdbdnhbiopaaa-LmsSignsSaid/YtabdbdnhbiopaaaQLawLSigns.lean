/- The walk of the law LmsSigns. -/
import Derived.Test.YtabdbdnhbiopaaaG13
import Derived.Test.YtabdbdnhbiopaaaG15
namespace Go.Proofs.Ytabdbdnhbiopaaa
open Go Go.RowKit
set_option maxRecDepth 100000
set_option maxHeartbeats 1000000
attribute [local irreducible] Wild.walk WildF.walk

theorem LmsSigns_main (I S : List UInt8) (k h q : Int) (tv : Value) (text : List UInt8) (w : World) (hI : I.length = 16) (hS : S.length = 32) (hk : -9223372036854775808 ≤ k ∧ k ≤ 9223372036854775807) (ht : Sl w tv text) :
    Calls Try.prog 3 #[.agg (TreeV I S k h).toArray, .int .i64 q, tv] w fun e w' => e = .returned (.bool true) ∧ Below w.heap.size w w' := by
  obtain ⟨W0, HW0, HB0, HS0, HR0⟩ : ∃ V, Hid (V = w.alloc (.cells (TreeV I S k h).toArray 25)) ∧ Hid (Below w.heap.size w V) ∧ Hid (V.heap.size = w.heap.size + 1) ∧ Hid (V.heap[w.heap.size]? = some (.cells (TreeV I S k h).toArray 25 (0, 0))) := ⟨_, Lib.hid rfl, Lib.hid ((Below.refl _ _).alloc (Nat.le_refl _) _), Lib.hid (by simp), Lib.hid (heap_alloc_new _ _)⟩
  have IK : Hid ((Try.prog.info? 25).map (·.size) = some (TreeV I S k h).toArray.size) := Lib.hid (by rw [info_tree, List.size_toArray, TreeV_length _ _ _ _ hI hS])
  have HTB : Hid (∀ w', Below W0.heap.size W0 w' → Hid (w'.heap[w.heap.size]? = some (.cells (TreeV I S k h).toArray 25 (0, 0)))) := Lib.hid (fun w' hb => Lib.hid ((hb.block _ (by rw [HS0.out]; omega)).trans HR0.out))
  have HBZ : Hid (Below W0.heap.size W0 W0) := Lib.hid (Below.refl _ _)
  have HLO := Lib.hid (fun w' => low05_any I S k h w' hI hS)
  have HAL := Lib.hid alive05_any
  have HHI := Lib.hid hI
  have HHS := Lib.hid hS
  have HT0 := Lib.hid (ht.later HB0.out)
  obtain ⟨ta, tc, rfl⟩ := ht.shape
  clear ht
  cases hlo : lowB h
  · rw [hlo] at HLO
    clear hlo
    clear hI hS hk
    go_enter Try.func3, Try.ntmps3
    go_upto_region 1 with (fail)
    rw [← HW0.out]
    go_wp2_with (first
      | ((with_reducible refine at_load 25 _ rfl ?_); first | refine wpList_load_row rfl 25 _ rfl _ rfl _ (TreeV I S k h).toArray (0, 0) _ (HTB.out _ HBZ.out).out Try.underlying25 rfl IK.out ?_)
      | (go_at_call 9; refine (HLO.out W0).mono ?_; rintro e w1 ⟨rfl, b1⟩; have HB1 := Lib.hid (HBZ.out.trans (b1.mono HBZ.out.size)); clear b1)
      | (go_at_call 10; refine (HAL.out w1).mono ?_; rintro e w2 ⟨rfl, b2⟩; have HB2 := Lib.hid (HB1.out.trans (b2.mono HB1.out.size)); clear b2))
    go_ret
    exact ⟨rfl, HB0.out.trans (HB2.out.mono HB0.out.size)⟩
  · rw [hlo] at HLO
    by_cases htl : text.length ≤ 2000
    · have hti : (text.length : Int) ≤ 2000 := by omega
      have HSG := Lib.hid (fun tv w' h1 => Sign_lms I S k h q tv text w' hI hS hk h1 (by omega))
      have HSR := Lib.hid (fun tv w' h1 => Sign_ref5 I S k h q tv text w' hI hS hk h1 (by omega))
      have HPL := Lib.hid (fun w' => plain05_any I S k h w' hI hS)
      have HLN : Hid (([] : List UInt8).length + text.length ≤ 1000000000) := Lib.hid (by simp; omega)
      generalize lsigV I S k h q text = X at *
      generalize lsigE k h q = er at *
      clear hlo hI hS hk
      go_enter Try.func3, Try.ntmps3
      go_upto_region 1 with (fail)
      rw [← HW0.out]
      go_wp2_with (first
        | ((with_reducible refine at_load 25 _ rfl ?_); first | refine wpList_load_row rfl 25 _ rfl _ rfl _ (TreeV I S k h).toArray (0, 0) _ (HTB.out _ HBZ.out).out Try.underlying25 rfl IK.out ?_ | refine wpList_load_row rfl 25 _ rfl _ rfl _ (TreeV I S k h).toArray (0, 0) _ (HTB.out _ HB1.out).out Try.underlying25 rfl IK.out ?_ | refine wpList_load_row rfl 25 _ rfl _ rfl _ (TreeV I S k h).toArray (0, 0) _ (HTB.out _ HB2.out).out Try.underlying25 rfl IK.out ?_ | refine wpList_load_row rfl 25 _ rfl _ rfl _ (TreeV I S k h).toArray (0, 0) _ (HTB.out _ HB3.out).out Try.underlying25 rfl IK.out ?_ | refine wpList_load_row rfl 25 _ rfl _ rfl _ (TreeV I S k h).toArray (0, 0) _ (HTB.out _ HB4.out).out Try.underlying25 rfl IK.out ?_)
        | (go_at_call 9; refine (HLO.out W0).mono ?_; rintro e w1 ⟨rfl, b1⟩; have HB1 := Lib.hid (HBZ.out.trans (b1.mono HBZ.out.size)); clear b1)
        | (at_builtin; refine wpList_append8 rfl _ _ rfl w1.heap.size _ [] rfl (own_none w1) _ text rfl ((HT0.out.later HB1.out).later ((Below.refl _ _).alloc (Nat.le_refl _) _)) HLN.out (by simp) ?_; intro v' w2 hv' hg hor; rw [List.nil_append] at hv'; have HB2 := Lib.hid (HB1.out.trans ((((Below.refl w1.heap.size w1).alloc (Nat.le_refl _) _).trans (Own8.below (own_none w1) hg (by simp))).mono HB1.out.size)); have HO2 := Lib.hid hv'.sl; clear hv' hg hor)
        | (go_at_call 11; refine (HSG.out _ w2 HO2.out).mono ?_; rintro e w3 ⟨x, rfl, s3, b3⟩; have HB3 := Lib.hid (HB2.out.trans (b3.mono HB2.out.size)); have HX3 := Lib.hid s3; have HO3 := Lib.hid (HO2.out.later b3); clear s3; clear b3)
        | (go_at_call 13; refine (HPL.out w3).mono ?_; rintro e w4 ⟨rfl, b4⟩; have HB4 := Lib.hid (HB3.out.trans (b4.mono HB3.out.size)); have HX4 := Lib.hid (HX3.out.later b4); have HO4 := Lib.hid (HO3.out.later b4); clear b4)
        | (go_at_call 12; refine (HSR.out _ w4 (HT0.out.later HB4.out)).mono ?_; rintro e w5 ⟨y, rfl, s5, b5⟩; have HB5 := Lib.hid (HB4.out.trans (b5.mono HB4.out.size)); have HY5 := Lib.hid s5; have HX5 := Lib.hid (HX4.out.later b5); have HO5 := Lib.hid (HO4.out.later b5); clear s5; clear b5)
        | (go_at_call 10; refine (HAL.out w5).mono ?_; rintro e w6 ⟨rfl, b6⟩; have HB6 := Lib.hid (HB5.out.trans (b6.mono HB5.out.size)); have hc1 := (HO5.out.later b6).conv; have hc2 := (HX5.out.later b6).conv; have hc3 := (HY5.out.later b6).conv; have hc4 := (HT0.out.later HB6.out).conv; clear b6))
      go_ret
      exact ⟨rfl, HB0.out.trans (HB6.out.mono HB0.out.size)⟩
    · have hti : ¬ (text.length : Int) ≤ 2000 := by omega
      clear hlo
      clear hI hS hk
      go_enter Try.func3, Try.ntmps3
      go_upto_region 1 with (fail)
      rw [← HW0.out]
      go_wp2_with (first
        | ((with_reducible refine at_load 25 _ rfl ?_); first | refine wpList_load_row rfl 25 _ rfl _ rfl _ (TreeV I S k h).toArray (0, 0) _ (HTB.out _ HBZ.out).out Try.underlying25 rfl IK.out ?_)
        | (go_at_call 9; refine (HLO.out W0).mono ?_; rintro e w1 ⟨rfl, b1⟩; have HB1 := Lib.hid (HBZ.out.trans (b1.mono HBZ.out.size)); clear b1)
        | (go_at_call 10; refine (HAL.out w1).mono ?_; rintro e w2 ⟨rfl, b2⟩; have HB2 := Lib.hid (HB1.out.trans (b2.mono HB1.out.size)); clear b2))
      go_ret
      exact ⟨rfl, HB0.out.trans (HB2.out.mono HB0.out.size)⟩
end Go.Proofs.Ytabdbdnhbiopaaa


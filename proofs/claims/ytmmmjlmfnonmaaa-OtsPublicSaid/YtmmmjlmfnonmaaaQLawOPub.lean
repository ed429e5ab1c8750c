/- The walk of the law OtsPublic. -/
import Derived.Test.YtmmmjlmfnonmaaaG5
import Derived.Test.YtmmmjlmfnonmaaaEq
namespace Go.Proofs.Ytmmmjlmfnonmaaa
open Go Go.RowKit
set_option maxRecDepth 100000
set_option maxHeartbeats 1000000

theorem pubV_length (I S : List UInt8) (q : Nat) (d : Int) : (pubV I S q d).length = 32 := by
  rw [pubV]
  split
  · exact sha_length _
  · rfl
theorem OtsPublic_main (I S : List UInt8) (q : Nat) (d : Int) (w : World) (hI : I.length = 16) (hS : S.length = 32) (hq : q < 4294967296) (hd : -9223372036854775808 ≤ d ∧ d ≤ 9223372036854775807) :
    Calls Try.prog 3 #[.agg (KeyV I S q d).toArray] w fun e w' => e = .returned (.bool true) ∧ Below w.heap.size w w' := by
  obtain ⟨W0, HW0, HB0, HS0, HR0⟩ : ∃ V, Hid (V = w.alloc (.cells (KeyV I S q d).toArray 26)) ∧ Hid (Below w.heap.size w V) ∧ Hid (V.heap.size = w.heap.size + 1) ∧ Hid (V.heap[w.heap.size]? = some (.cells (KeyV I S q d).toArray 26 (0, 0))) := ⟨_, Lib.hid rfl, Lib.hid ((Below.refl _ _).alloc (Nat.le_refl _) _), Lib.hid (by simp), Lib.hid (heap_alloc_new _ _)⟩
  have IK : Hid ((Try.prog.info? 26).map (·.size) = some (KeyV I S q d).toArray.size) := Lib.hid (by rw [info_key, List.size_toArray, KeyV_length _ _ _ _ hI hS])
  have H1 := Lib.hid (Public_any I S q d W0 hI hS hq hd)
  have H2 := Lib.hid (fun w' => Public_ref I S q d w' hI hS hq)
  have H3 := Lib.hid (fun w' => plain_any I S q d w' hI hS)
  obtain ⟨R, HR⟩ : ∃ R, Hid (R = pubV I S q d) := ⟨_, Lib.hid rfl⟩
  have HRL : Hid (R.length = 32) := Lib.hid (by rw [HR.out]; exact pubV_length _ _ _ _)
  rw [← HR.out] at H1 H2
  have IR : Hid ((Try.prog.info? 24).map (·.size) = some (B8 R).toArray.size) := Lib.hid (by rw [info_32]; simp [B8_length, HRL.out])
  generalize errW d = er at *
  clear hI hS hq hd
  go_enter Try.func3, Try.ntmps3
  go_upto_region 1 with (fail)
  rw [← HW0.out]
  go_upto_region 3 with (first
    | (refine wpList_load_row rfl 26 _ rfl _ rfl _ (KeyV I S q d).toArray (0, 0) _ HR0.out Try.underlying26 rfl IK.out ?_)
    | (refine wpList_load_row rfl 26 _ rfl _ rfl _ (KeyV I S q d).toArray (0, 0) _ HR2.out Try.underlying26 rfl IK.out ?_)
    | (go_at_call 9; refine H1.out.mono ?_; rintro e w1 ⟨rfl, b1⟩; have HX1 : Hid ((w1.alloc (.cells (B8 R).toArray 24)).heap[w1.heap.size]? = some (.cells (B8 R).toArray 24 (0, 0))) := Lib.hid (heap_alloc_new _ _); have HB1 := Lib.hid ((HB0.out.trans (b1.mono HB0.out.size)).alloc (HB0.out.trans (b1.mono HB0.out.size)).size (.cells (B8 R).toArray 24)); have HR2 : Hid ((w1.alloc (.cells (B8 R).toArray 24)).heap[w.heap.size]? = some (.cells (KeyV I S q d).toArray 26 (0, 0))) := Lib.hid (((b1.alloc b1.size _).block _ (by rw [HS0.out]; omega)).trans HR0.out); clear b1)
    | (refine wpList_store_new rfl 24 _ _ rfl (B8 R).toArray rfl rfl 24 _ IR.out (by simp [B8_length, HRL.out]) (B8_oneA R) ?_)
    | (go_at_call 11; refine (H3.out _).mono ?_; rintro e w2 ⟨rfl, b2⟩; have HB2 := Lib.hid (HB1.out.trans (b2.mono HB1.out.size)); have HX2 := Lib.hid ((b2.block _ (by simp)).trans HX1.out); clear b2)
    | (go_at_call 10; refine (H2.out w2).mono ?_; rintro e w3 ⟨rfl, b3⟩; have HB3 := Lib.hid ((HB2.out.trans (b3.mono HB2.out.size)).alloc (HB2.out.trans (b3.mono HB2.out.size)).size (.cells (B8 R).toArray 24)); have HX3 := Lib.hid (((b3.alloc b3.size (.cells (B8 R).toArray 24)).block _ (Array.getElem?_eq_some_iff.1 HX2.out).1).trans HX2.out); have HY3 : Hid ((w3.alloc (.cells (B8 R).toArray 24)).heap[w3.heap.size]? = some (.cells (B8 R).toArray 24 (0, 0))) := Lib.hid (heap_alloc_new _ _); clear b3))
  have heq := fun W => eq_hash R R HRL.out HRL.out W
  simp only [decide_true] at heq
  go_wp2_with (first
    | (go_at_call 12; refine (alive04_any _).mono ?_; rintro e w4 ⟨rfl, b4⟩; have HB4 := Lib.hid (HB3.out.trans (b4.mono HB3.out.size)); have HX4 := Lib.hid ((b4.block _ (Array.getElem?_eq_some_iff.1 HX3.out).1).trans HX3.out); have HY4 := Lib.hid ((b4.block _ (by simp)).trans HY3.out); clear b4)
    | refine wpList_load_want (by rfl) 24 _ rfl w1.heap.size rfl _ (B8 R).toArray (0, 0) _ HX4.out Try.underlying24 rfl IR.out ?_
    | refine wpList_load_want (by rfl) 24 _ rfl w3.heap.size rfl _ (B8 R).toArray (0, 0) _ HY4.out Try.underlying24 rfl IR.out ?_)
  go_ret
  exact ⟨rfl, HB4.out⟩
end Go.Proofs.Ytmmmjlmfnonmaaa


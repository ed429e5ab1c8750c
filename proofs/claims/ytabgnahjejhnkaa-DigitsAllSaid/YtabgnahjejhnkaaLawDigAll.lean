/- The walk of the law DigitsAll. -/
import Derived.Test.YtabgnahjejhnkaaDigI
namespace Go.Proofs.Ytabgnahjejhnkaa
open Go Go.RowKit
set_option maxHeartbeats 2000000
set_option maxRecDepth 100000

theorem DigitsAll_any (l : List UInt8) (n : Int) (w : World) (hl : l.length = 32) (hn : -9223372036854775808 ≤ n ∧ n ≤ 9223372036854775807) :
    Calls Try.prog 12 #[.agg (B8 l).toArray, .int .i64 n] w fun e w' => e = .returned (.bool true) ∧ Below w.heap.size w w' := by
  have I32 : Hid ((Try.prog.info? 29).map (·.size) = some (B8 l).toArray.size) := Lib.hid (by rw [info_h32]; simp [B8_length, hl])
  obtain ⟨V, HV, HVB, HVR⟩ : ∃ V, Hid (V = w.alloc (.cells (B8 l).toArray 29)) ∧ Hid (Below w.heap.size w V) ∧ Hid (Arr8 V w.heap.size 29 l) := ⟨_, Lib.hid rfl, Lib.hid ((Below.refl _ _).alloc (Nat.le_refl _) _), Lib.hid (box32 l w)⟩
  have H1 := Lib.hid (fun w' => All_any l n w' hl hn)
  have H2 := Lib.hid (fun w' => rAll_any l n w' hl hn)
  have H3 := Lib.hid (fun w' => Number_any l n w' hl hn)
  have H4 := Lib.hid (fun w' => rNumber_any l n w' hl hn)
  have H5 := Lib.hid (fun w' => Own_any n w' hn)
  have H6 := Lib.hid (fun w' => rOwn_any n w')
  have H7 := Lib.hid (fun w' => Check_any n w' hn)
  have H8 := Lib.hid (fun w' => rCheck_any n w')
  have H9 := Lib.hid (fun w' => Shift_any n w' hn)
  have H10 := Lib.hid (fun w' => rShift_any n w' hn)
  have HAL : Hid ((allV l n).length ≤ 1000000) := Lib.hid (by
    rw [allV]
    split
    · rename_i hw
      obtain ⟨k, rfl⟩ : ∃ k : Nat, n = k := ⟨n.toNat, by rcases (isW_iff n).1 hw with h | h | h | h <;> omega⟩
      rw [NI_length, allN_length, Int.toNat_natCast]
      have hk : k = 1 ∨ k = 2 ∨ k = 4 ∨ k = 8 := by rcases (isW_iff _).1 hw with h | h | h | h <;> omega
      rcases hk with rfl | rfl | rfl | rfl <;> decide
    · simp)
  generalize errW n = E at H1 H2 H3 H4 H5 H6 H7 H8 H9 H10
  generalize (if isW n then (numN l n.toNat : Int) else 0) = NV at H3 H4
  generalize allV l n = A at H1 H2 HAL
  generalize ownW n = O at H5 H6
  generalize chkW n = C at H7 H8
  generalize shiftW n = S at H9 H10
  go_enter Try.func12, Try.ntmps12
  go_upto_region 1 with (fail)
  rw [← HV.out]
  go_wp2_with (refine wpList_load_row rfl 29 _ rfl w.heap.size rfl _ (B8 l).toArray (0, 0) _ HVR.out Try.underlying29 rfl I32.out ?_)
  refine (H1.out V).mono ?_
  rintro e w1 ⟨v1, rfl, s1, b1⟩
  have HR1 := Lib.hid (HVR.out.later (b1.block _ (Array.getElem?_eq_some_iff.1 HVR.out).1))
  have HB1 := Lib.hid (HVB.out.trans (b1.mono HVB.out.size))
  have HS1 := Lib.hid s1
  clear s1 b1
  go_wp2_with (refine wpList_load_row rfl 29 _ rfl w.heap.size rfl _ (B8 l).toArray (0, 0) _ HR1.out Try.underlying29 rfl I32.out ?_)
  refine (H2.out w1).mono ?_
  rintro e w2 ⟨v2, rfl, s2, b2⟩
  have HR2 := Lib.hid (HR1.out.later (b2.block _ (Array.getElem?_eq_some_iff.1 HR1.out).1))
  have HB2 := Lib.hid (HB1.out.trans (b2.mono HB1.out.size))
  have HS12 := Lib.hid (HS1.out.later b2)
  have HS2 := Lib.hid s2
  clear s2 b2
  go_wp2_with (refine wpList_load_row rfl 29 _ rfl w.heap.size rfl _ (B8 l).toArray (0, 0) _ HR2.out Try.underlying29 rfl I32.out ?_)
  refine (H3.out w2).mono ?_
  rintro e w3 ⟨rfl, b3⟩
  have HR3 := Lib.hid (HR2.out.later (b3.block _ (Array.getElem?_eq_some_iff.1 HR2.out).1))
  have HB3 := Lib.hid (HB2.out.trans (b3.mono HB2.out.size))
  have HS13 := Lib.hid (HS12.out.later b3)
  have HS23 := Lib.hid (HS2.out.later b3)
  clear b3
  go_wp2_with (refine wpList_load_row rfl 29 _ rfl w.heap.size rfl _ (B8 l).toArray (0, 0) _ HR3.out Try.underlying29 rfl I32.out ?_)
  refine (H4.out w3).mono ?_
  rintro e w4 ⟨rfl, b4⟩
  have HB4 := Lib.hid (HB3.out.trans (b4.mono HB3.out.size))
  have HS14 := Lib.hid (HS13.out.later b4)
  have HS24 := Lib.hid (HS23.out.later b4)
  clear b4
  go_wp2_with fail
  refine (H5.out w4).mono ?_
  rintro e w5 ⟨rfl, b5⟩
  have HB5 := Lib.hid (HB4.out.trans (b5.mono HB4.out.size))
  have HI := Lib.hid (Ints_any v1 v2 A A w5 (HS14.out.later b5) (HS24.out.later b5) HAL.out HAL.out)
  rw [decide_eq_true rfl] at HI
  clear b5
  go_wp2_with (first
    | (go_at_call 38; refine (H6.out _).mono ?_; rintro e w5 ⟨rfl, rfl⟩)
    | (go_at_call 33; refine HI.out.mono ?_; rintro e w6 ⟨rfl, m6, rfl⟩))
  refine (H7.out _).mono ?_
  rintro e w7 ⟨rfl, b7⟩
  have HB7 : Hid (Below w.heap.size w w7) := Lib.hid (HB5.out.trans ((show Below w5.heap.size w5 w7 from ⟨b7.os, b7.tape, b7.output, b7.size, b7.block⟩).mono HB5.out.size))
  clear b7
  go_wp2_with (go_at_call 40; refine (H8.out _).mono ?_; rintro e w8 ⟨rfl, m8, rfl⟩)
  refine (H9.out _).mono ?_
  rintro e w9 ⟨rfl, b9⟩
  have HB9 : Hid (Below w.heap.size w w9) := Lib.hid (HB7.out.trans ((show Below w7.heap.size w7 w9 from ⟨b9.os, b9.tape, b9.output, b9.size, b9.block⟩).mono HB7.out.size))
  clear b9
  go_wp2_with (go_at_call 42; refine (H10.out _).mono ?_; rintro e w10 ⟨rfl, m10, rfl⟩)
  refine (alive03_any _).mono ?_
  rintro e w11 ⟨rfl, b11⟩
  have HB11 : Hid (Below w.heap.size w w11) := Lib.hid (HB9.out.trans ((show Below w9.heap.size w9 w11 from ⟨b11.os, b11.tape, b11.output, b11.size, b11.block⟩).mono HB9.out.size))
  clear b11
  go_wp2_with fail
  go_ret
  exact ⟨rfl, HB11.out⟩
end Go.Proofs.Ytabgnahjejhnkaa

/- The walks of (digits.form).number and digits.Number. -/
import Derived.Test.YtabgnahjejhnkaaDigD
import Derived.Test.YtabgnahjejhnkaaPlDig2
import Derived.Test.YtabgnahjejhnkaaKit2
import Derived.Test.YtabgnahjejhnkaaArr8
import Derived.Test.YtabgnahjejhnkaaInts
namespace Go.Proofs.Ytabgnahjejhnkaa
open Go Go.RowKit
set_option maxHeartbeats 1000000

theorem own_of (n : Nat) (h : n = 1 ∨ n = 2 ∨ n = 4 ∨ n = 8) : ownW n = (256 / n : Nat) ∧ chkW n = chkN n ∧ shiftW n = ((16 - chkN n * n : Nat) : Int) ∧ errW n = 0 := by
  rcases h with rfl | rfl | rfl | rfl <;> decide
theorem info_h32 : (Try.prog.info? 29).map (·.size) = some 32 := by kernel_rfl
theorem number_any (l : List UInt8) (n : Nat) (w : World) (hl : l.length = 32) (h : n = 1 ∨ n = 2 ∨ n = 4 ∨ n = 8) :
    Calls Try.prog 57 #[.agg #[.int .i64 (ownW n), .int .i64 (chkW n), .int .i64 (shiftW n)], .agg (B8 l).toArray, .int .i64 n] w fun e w' => e = .returned (.int .i64 (numN l n)) ∧ Below w.heap.size w w' := by
  obtain ⟨e1, e2, e3, _⟩ := own_of n h
  rw [e1, e2, e3]
  clear e1 e2 e3
  obtain ⟨R, HR⟩ : ∃ R, Hid (R = numN l n) := ⟨_, Lib.hid rfl⟩
  rw [← HR.out]
  have HL := Lib.hid hl
  obtain ⟨own, hown⟩ : ∃ own, own = 256 / n := ⟨_, rfl⟩
  obtain ⟨sh, hsh⟩ : ∃ sh, sh = 16 - chkN n * n := ⟨_, rfl⟩
  obtain ⟨m, hm⟩ : ∃ m, m = 2 ^ n - 1 := ⟨_, rfl⟩
  obtain ⟨M, hM⟩ : ∃ M, M = own * m := ⟨_, rfl⟩
  rw [← hown, ← hsh]
  have HRM : Hid (R = (M - sumD l n own) * 2 ^ sh) := Lib.hid (by rw [HR.out, numN, ← hown, ← hsh, ← hm, ← hM])
  have hMb : M ≤ 8160 := by rw [hM, hm, hown]; rcases h with rfl | rfl | rfl | rfl <;> decide
  have hob : own ≤ 256 := by rw [hown]; rcases h with rfl | rfl | rfl | rfl <;> decide
  have hshb : sh ≤ 7 := by rw [hsh]; rcases h with rfl | rfl | rfl | rfl <;> decide
  have hm255 : m ≤ 255 := by rw [hm]; rcases h with rfl | rfl | rfl | rfl <;> decide
  have hRb : R < 65536 := by rw [HR.out]; exact numN_lt l n h
  have hon : own * n = 256 := by rw [hown]; rcases h with rfl | rfl | rfl | rfl <;> decide
  have hn8 : n ≤ 8 := by omega
  have hmi : ((2 : Int) ^ n) - 1 = (m : Int) := by rw [hm]; rcases h with rfl | rfl | rfl | rfl <;> decide
  have hMi : (own : Int) * m = (M : Int) := by rw [hM]; simp
  have HSL : Hid (∀ k, k ≤ own → sumD l n k ≤ M) := Lib.hid fun k hk => by
    have := sumD_le l n k
    rw [← hm] at this
    rw [hM]
    exact Nat.le_trans this (Nat.mul_le_mul_right _ hk)
  have HON := Lib.hid hon
  have HW := Lib.hid h
  clear hl h hown hsh hm hM hon
  have I32 : Hid ((Try.prog.info? 29).map (·.size) = some (B8 l).toArray.size) := Lib.hid (by rw [info_h32]; simp [B8_length, HL.out])
  obtain ⟨V, HV, HVB, HVR, HVC⟩ : ∃ V, Hid (V = (w.alloc (.cells #[.int .i64 own, .int .i64 (chkN n), .int .i64 sh] 78)).alloc (.cells (B8 l).toArray 29)) ∧ Hid (Below w.heap.size w V) ∧ Hid (Arr8 V (w.heap.size + 1) 29 l) ∧
      Hid (V.cell? ⟨w.heap.size, 0, none⟩ = some (.int .i64 own) ∧ V.cell? ⟨w.heap.size, 2, none⟩ = some (.int .i64 sh)) := ⟨_, Lib.hid rfl, Lib.hid (((Below.refl _ _).alloc (Nat.le_refl _) _).alloc (by simp) _), Lib.hid (by have := heap_alloc_new (w.alloc (.cells #[.int .i64 own, .int .i64 (chkN n), .int .i64 sh] 78)) (.cells (B8 l).toArray 29); simpa [Arr8] using this), Lib.hid (by
        have h0 : ((w.alloc (.cells #[.int .i64 own, .int .i64 (chkN n), .int .i64 sh] 78)).alloc (.cells (B8 l).toArray 29)).heap[w.heap.size]? = some (.cells #[.int .i64 own, .int .i64 (chkN n), .int .i64 sh] 78 (0, 0)) := (heap_alloc_old _ _ (by simp)).trans (heap_alloc_new w _)
        exact ⟨cell_of_row _ _ 0 _ _ (0, 0) h0, cell_of_row _ _ 2 _ _ (0, 0) h0⟩)⟩
  go_enter Try.func57, Try.ntmps57
  go_upto_region 1 with (fail)
  rw [← HV.out]
  obtain ⟨c0, c2⟩ := HVC.out
  have p2 : (2 : Int) ^ n ≤ 256 := by omega
  have p0 : (0 : Int) ≤ (2 : Int) ^ n := by omega
  go_quiet (fail)
  go_wp2_with fail
  clear hmi hMi p2 p0 c0
  go_loop [7, 17] (fun s i => ∃ k : Nat, k ≤ own ∧ i = .int .i64 k ∧ s = .int .i64 ((M - sumD l n k : Nat))) (fun _ i => own - (intOf i).toNat)
  case atStart => exact ⟨0, by omega, rfl, by simp [sumD]⟩
  case round =>
    obtain ⟨k, hk, rfl, rfl⟩ := hrel
    have h1 := HSL.out k hk
    obtain ⟨s, hs⟩ : ∃ s, s = sumD l n k := ⟨_, rfl⟩
    rw [← hs] at h1 ⊢
    have HS := Lib.hid hs
    clear hs
    by_cases hlt : k < own
    · have hkn : k * n < 256 := by
        have h2 : (k + 1) * n ≤ own * n := Nat.mul_le_mul_right _ hlt
        rw [HON.out] at h2
        have h3 : 0 < n := by rcases HW.out with h | h | h | h <;> omega
        rw [Nat.add_mul] at h2
        omega
      have hd := Lib.hid (dig_lt l k n)
      have hdm := Lib.hid (HSL.out (k + 1) (by omega))
      rw [sumD, ← HS.out] at hdm
      have HC := Lib.hid (digit_any (w.heap.size + 1) 0 32 l k n (V.drewN nq) HW.out (by rw [HL.out]; omega) (by rw [HL.out]; omega) (by
        rw [Nat.zero_add]
        exact HVR.out.cell (by rw [HL.out]; omega)))
      rw [HL.out] at HC
      have hdb : dig l k n ≤ M := by have := hdm.out; omega
      have HSS : Hid (sumD l n (k + 1) = s + dig l k n) := Lib.hid (by rw [sumD, ← HS.out])
      generalize dig l k n = d at HC HSS hdb hdm hd
      have hx : (((M - s : Nat)) : Int) = (M : Int) - s := by omega
      rw [hx]
      clear hx
      go_wp2_with (go_at_call 44; refine HC.out.mono ?_; rintro e w' ⟨rfl, rfl⟩)
      go_round
      case rel => exact ⟨k + 1, by omega, by go_num, by rw [HSS.out]; have := hdm.out; go_num⟩
      case measure => simp [intOf]; omega
    · obtain rfl : k = own := by omega
      obtain ⟨x, hx⟩ : ∃ x, x = M - s := ⟨_, rfl⟩
      have hxR : x * 2 ^ sh = R := by rw [HRM.out, ← HS.out, hx]
      have hxi : (x : Int) * 2 ^ sh = (R : Int) := by rw [← hxR]; simp
      rw [← hx]
      have hxb : x ≤ 8160 := by omega
      clear hx hxR
      go_wp2_with fail
      go_ret
      exact ⟨rfl, ⟨HVB.out.os, HVB.out.tape, HVB.out.output, HVB.out.size, HVB.out.block⟩⟩

theorem box32 (l : List UInt8) (w : World) : Arr8 (w.alloc (.cells (B8 l).toArray 29)) w.heap.size 29 l := heap_alloc_new _ _
theorem Number_any (l : List UInt8) (n : Int) (w : World) (hl : l.length = 32) (hn : -9223372036854775808 ≤ n ∧ n ≤ 9223372036854775807) :
    Calls Try.prog 35 #[.agg (B8 l).toArray, .int .i64 n] w fun e w' => e = .returned (.tuple #[.int .i64 (if isW n then (numN l n.toNat : Int) else 0), .int .i64 (errW n)]) ∧ Below w.heap.size w w' := by
  have I32 : Hid ((Try.prog.info? 29).map (·.size) = some (B8 l).toArray.size) := Lib.hid (by rw [info_h32]; simp [B8_length, hl])
  obtain ⟨V, HV, HVB, HVR⟩ : ∃ V, Hid (V = w.alloc (.cells (B8 l).toArray 29)) ∧ Hid (Below w.heap.size w V) ∧ Hid (Arr8 V w.heap.size 29 l) := ⟨_, Lib.hid rfl, Lib.hid ((Below.refl _ _).alloc (Nat.le_refl _) _), Lib.hid (box32 l w)⟩
  by_cases hw : isW n = true
  · obtain ⟨k, rfl⟩ : ∃ k : Nat, n = k := ⟨n.toNat, by rcases (isW_iff n).1 hw with h | h | h | h <;> omega⟩
    have hk : k = 1 ∨ k = 2 ∨ k = 4 ∨ k = 8 := by rcases (isW_iff _).1 hw with h | h | h | h <;> omega
    rw [if_pos hw, Int.toNat_natCast]
    have HC := Lib.hid (fun w' => number_any l k w' hl hk)
    have he : errW (k : Int) = 0 := (own_of k hk).2.2.2
    have HO := Lib.hid (of_any k V hn)
    rw [he] at HO ⊢
    generalize ownW (k : Int) = o1 at HC HO
    generalize chkW (k : Int) = o2 at HC HO
    generalize shiftW (k : Int) = o3 at HC HO
    clear hw he
    go_enter Try.func35, Try.ntmps35
    go_upto_region 1 with (fail)
    rw [← HV.out]
    go_wp2_with fail
    refine HO.out.mono ?_
    rintro e w1 ⟨rfl, hb1⟩
    have HR1 := Lib.hid (HVR.out.later (hb1.block _ (Array.getElem?_eq_some_iff.1 HVR.out).1))
    have HB1 := Lib.hid (HVB.out.trans (hb1.mono HVB.out.size))
    clear hb1
    go_wp2_with (refine wpList_load_row rfl 29 _ rfl w.heap.size rfl _ (B8 l).toArray (0, 0) _ ((heap_alloc_old _ _ (Array.getElem?_eq_some_iff.1 HR1.out).1).trans HR1.out) Try.underlying29 rfl I32.out ?_)
    refine (HC.out _).mono ?_
    rintro e w2 ⟨rfl, hb2⟩
    have HB2 := Lib.hid ((HB1.out.alloc HB1.out.size _).trans (hb2.mono (by have := HB1.out.size; simp; omega)))
    clear hb2
    go_wp2_with fail
    go_ret2
    exact ⟨rfl, HB2.out⟩
  · have hw' : isW n = false := by simpa using hw
    rw [if_neg hw]
    have HO := Lib.hid (of_any n V hn)
    have he : errW n = 1 := by simp [errW, hw']
    rw [he] at HO ⊢
    generalize ownW n = o1 at HO
    generalize chkW n = o2 at HO
    generalize shiftW n = o3 at HO
    clear hw hw' he
    go_enter Try.func35, Try.ntmps35
    go_upto_region 1 with (fail)
    rw [← HV.out]
    go_wp2_with fail
    refine HO.out.mono ?_
    rintro e w1 ⟨rfl, hb1⟩
    have HB1 := Lib.hid (HVB.out.trans (hb1.mono HVB.out.size))
    clear hb1
    go_wp2_with fail
    go_ret2
    exact ⟨rfl, HB1.out.alloc HB1.out.size _⟩
end Go.Proofs.Ytabgnahjejhnkaa

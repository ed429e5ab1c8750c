/- The walks of (digits.form).number and digits.Number. -/
import Derived.Test.YtcnelahmbfggcaaDigD
import Derived.Test.YtcnelahmbfggcaaPlDig2
import Derived.Test.YtcnelahmbfggcaaKit2
import Derived.Test.YtcnelahmbfggcaaArr8
import Derived.Test.YtcnelahmbfggcaaInts
import Derived.Test.YtcnelahmbfggcaaFresh
import Derived.Test.YtcnelahmbfggcaaDigC
namespace Go.Proofs.Ytcnelahmbfggcaa
open Go Go.RowKit
set_option maxRecDepth 100000
set_option maxHeartbeats 1000000

theorem own_of (n : Nat) (h : n = 1 ∨ n = 2 ∨ n = 4 ∨ n = 8) : ownW n = (256 / n : Nat) ∧ chkW n = chkN n ∧ shiftW n = ((16 - chkN n * n : Nat) : Int) ∧ errW n = 0 := by
  rcases h with rfl | rfl | rfl | rfl <;> decide
theorem info_h32 : (Try.prog.info? 23).map (·.size) = some 32 := by kernel_rfl
theorem number_any (l : List UInt8) (n : Nat) (w : World) (hl : l.length = 32) (h : n = 1 ∨ n = 2 ∨ n = 4 ∨ n = 8) :
    Calls Try.prog 58 #[.agg #[.int .i64 (ownW n), .int .i64 (chkW n), .int .i64 (shiftW n)], .agg (B8 l).toArray, .int .i64 n] w fun e w' => e = .returned (.int .i64 (numN l n)) ∧ Below w.heap.size w w' := by
  obtain ⟨e1, e2, e3, _⟩ := own_of n h
  rw [e1, e2, e3]
  clear e1 e2 e3
  obtain ⟨R, HR⟩ : ∃ R, Hid (R = numN l n) := ⟨_, Lib.hid rfl⟩
  rw [← HR.out]
  have HL := Lib.hid hl
  obtain ⟨own, hown⟩ : ∃ own, own = 256 / n := ⟨_, rfl⟩
  obtain ⟨sh, hsh⟩ : ∃ sh, sh = 16 - chkN n * n := ⟨_, rfl⟩
  obtain ⟨m, hm⟩ : ∃ m, m = 2 ^ n - 1 := ⟨_, rfl⟩
  obtain ⟨M, hM⟩ : ∃ M, M = own * m := ⟨_, rfl⟩
  rw [← hown, ← hsh]
  have HRM : Hid (R = (M - sumD l n own) * 2 ^ sh) := Lib.hid (by rw [HR.out, numN, ← hown, ← hsh, ← hm, ← hM])
  have hMb : M ≤ 8160 := by rw [hM, hm, hown]; rcases h with rfl | rfl | rfl | rfl <;> decide
  have hob : own ≤ 256 := by rw [hown]; rcases h with rfl | rfl | rfl | rfl <;> decide
  have hshb : sh ≤ 7 := by rw [hsh]; rcases h with rfl | rfl | rfl | rfl <;> decide
  have hm255 : m ≤ 255 := by rw [hm]; rcases h with rfl | rfl | rfl | rfl <;> decide
  have hRb : R < 65536 := by rw [HR.out]; exact numN_lt l n h
  have hon : own * n = 256 := by rw [hown]; rcases h with rfl | rfl | rfl | rfl <;> decide
  have hn8 : n ≤ 8 := by omega
  have hmi : ((2 : Int) ^ n) - 1 = (m : Int) := by rw [hm]; rcases h with rfl | rfl | rfl | rfl <;> decide
  have hMi : (own : Int) * m = (M : Int) := by rw [hM]; simp
  have HSL : Hid (∀ k, k ≤ own → sumD l n k ≤ M) := Lib.hid fun k hk => by
    have := sumD_le l n k
    rw [← hm] at this
    rw [hM]
    exact Nat.le_trans this (Nat.mul_le_mul_right _ hk)
  have HON := Lib.hid hon
  have HW := Lib.hid h
  clear hl h hown hsh hm hM hon
  have I32 : Hid ((Try.prog.info? 23).map (·.size) = some (B8 l).toArray.size) := Lib.hid (by rw [info_h32]; simp [B8_length, HL.out])
  obtain ⟨V, HV, HVB, HVR, HVC⟩ : ∃ V, Hid (V = (w.alloc (.cells #[.int .i64 own, .int .i64 (chkN n), .int .i64 sh] 100)).alloc (.cells (B8 l).toArray 23)) ∧ Hid (Below w.heap.size w V) ∧ Hid (Arr8 V (w.heap.size + 1) 23 l) ∧
      Hid (V.cell? ⟨w.heap.size, 0, none⟩ = some (.int .i64 own) ∧ V.cell? ⟨w.heap.size, 2, none⟩ = some (.int .i64 sh)) := ⟨_, Lib.hid rfl, Lib.hid (((Below.refl _ _).alloc (Nat.le_refl _) _).alloc (by simp) _), Lib.hid (by have := heap_alloc_new (w.alloc (.cells #[.int .i64 own, .int .i64 (chkN n), .int .i64 sh] 100)) (.cells (B8 l).toArray 23); simpa [Arr8] using this), Lib.hid (by
        have h0 : ((w.alloc (.cells #[.int .i64 own, .int .i64 (chkN n), .int .i64 sh] 100)).alloc (.cells (B8 l).toArray 23)).heap[w.heap.size]? = some (.cells #[.int .i64 own, .int .i64 (chkN n), .int .i64 sh] 100 (0, 0)) := (heap_alloc_old _ _ (by simp)).trans (heap_alloc_new w _)
        exact ⟨cell_of_row _ _ 0 _ _ (0, 0) h0, cell_of_row _ _ 2 _ _ (0, 0) h0⟩)⟩
  go_enter Try.func58, Try.ntmps58
  go_upto_region 1 with (fail)
  rw [← HV.out]
  obtain ⟨c0, c2⟩ := HVC.out
  have p2 : (2 : Int) ^ n ≤ 256 := by omega
  have p0 : (0 : Int) ≤ (2 : Int) ^ n := by omega
  go_quiet (fail)
  go_wp2_with fail
  clear hmi hMi p2 p0 c0
  go_loop [7, 17] (fun s i => ∃ k : Nat, k ≤ own ∧ i = .int .i64 k ∧ s = .int .i64 ((M - sumD l n k : Nat))) (fun _ i => own - (intOf i).toNat)
  case atStart => exact ⟨0, by omega, rfl, by simp [sumD]⟩
  case round =>
    obtain ⟨k, hk, rfl, rfl⟩ := hrel
    have h1 := HSL.out k hk
    obtain ⟨s, hs⟩ : ∃ s, s = sumD l n k := ⟨_, rfl⟩
    rw [← hs] at h1 ⊢
    have HS := Lib.hid hs
    clear hs
    by_cases hlt : k < own
    · have hkn : k * n < 256 := by
        have h2 : (k + 1) * n ≤ own * n := Nat.mul_le_mul_right _ hlt
        rw [HON.out] at h2
        have h3 : 0 < n := by rcases HW.out with h | h | h | h <;> omega
        rw [Nat.add_mul] at h2
        omega
      have hd := Lib.hid (dig_lt l k n)
      have hdm := Lib.hid (HSL.out (k + 1) (by omega))
      rw [sumD, ← HS.out] at hdm
      have HC := Lib.hid (digit_any (w.heap.size + 1) 0 32 l k n (V.drewN nq) HW.out (by rw [HL.out]; omega) (by rw [HL.out]; omega) (by
        rw [Nat.zero_add]
        exact HVR.out.cell (by rw [HL.out]; omega)))
      rw [HL.out] at HC
      have hdb : dig l k n ≤ M := by have := hdm.out; omega
      have HSS : Hid (sumD l n (k + 1) = s + dig l k n) := Lib.hid (by rw [sumD, ← HS.out])
      generalize dig l k n = d at HC HSS hdb hdm hd
      have hx : (((M - s : Nat)) : Int) = (M : Int) - s := by omega
      rw [hx]
      clear hx
      go_wp2_with (go_at_call 59; refine HC.out.mono ?_; rintro e w' ⟨rfl, rfl⟩)
      go_round
      case rel => exact ⟨k + 1, by omega, by go_num, by rw [HSS.out]; have := hdm.out; go_num⟩
      case measure => simp [intOf]; omega
    · obtain rfl : k = own := by omega
      obtain ⟨x, hx⟩ : ∃ x, x = M - s := ⟨_, rfl⟩
      have hxR : x * 2 ^ sh = R := by rw [HRM.out, ← HS.out, hx]
      have hxi : (x : Int) * 2 ^ sh = (R : Int) := by rw [← hxR]; simp
      rw [← hx]
      have hxb : x ≤ 8160 := by omega
      clear hx hxR
      go_wp2_with fail
      go_ret
      exact ⟨rfl, ⟨HVB.out.os, HVB.out.tape, HVB.out.output, HVB.out.size, HVB.out.block⟩⟩

theorem box32 (l : List UInt8) (w : World) : Arr8 (w.alloc (.cells (B8 l).toArray 23)) w.heap.size 23 l := heap_alloc_new _ _
end Go.Proofs.Ytcnelahmbfggcaa

/- The walk of digits.All. -/
namespace Go.Proofs.Ytcnelahmbfggcaa
open Go Go.RowKit
set_option maxRecDepth 100000
set_option maxHeartbeats 1000000

theorem info_i64 : (Try.prog.info? 3).map (fun i => (i.zero, i.size, i.bytes)) = some (some (.int .i64 0), 1, 8) := by kernel_rfl
theorem fillI (l : List Int) (N j : Nat) (x : Int) (hl : l.length = j) (hj : j < N) : (l ++ List.replicate (N - j) 0).set j x = (l ++ [x]) ++ List.replicate (N - (j + 1)) 0 := by
  subst hl
  rw [List.set_append_right _ _ (Nat.le_refl _), Nat.sub_self, show N - l.length = (N - (l.length + 1)) + 1 by omega, List.replicate_succ, List.set_cons_zero, List.append_assoc]
  rfl
theorem take_snocI (l : List Int) (j : Nat) (h : j < l.length) : l.take j ++ [l.getD j 0] = l.take (j + 1) := by
  rw [List.take_succ_eq_append_getElem h]; simp [h]
theorem allN_getD (l : List UInt8) (n i : Nat) (hi : i < 256 / n + chkN n) : (allN l n).getD i 0 = dig (l ++ tailB l n) i n := by simp [allN, hi]
/-- what digits.All gives -/
def allV (l : List UInt8) (n : Int) : List Int := if isW n then NI (allN l n.toNat) else []
theorem All_own (l : List UInt8) (n : Int) (w : World) (hl : l.length = 32) (hn : -9223372036854775808 ≤ n ∧ n ≤ 9223372036854775807) :
    Calls Try.prog 40 #[.agg (B8 l).toArray, .int .i64 n] w fun e w' => ∃ v, e = .returned (.tuple #[v, .int .i64 (errW n)]) ∧ SlI w' .i64 v (allV l n) ∧ Below w.heap.size w w' ∧ (isW n = true → ∀ k, v.ownBlock = some k → w.heap.size ≤ k) := by
  have I32 : Hid ((Try.prog.info? 23).map (·.size) = some (B8 l).toArray.size) := Lib.hid (by rw [info_h32]; simp [B8_length, hl])
  obtain ⟨V, HV, HVB, HVR⟩ : ∃ V, Hid (V = w.alloc (.cells (B8 l).toArray 23)) ∧ Hid (Below w.heap.size w V) ∧ Hid (Arr8 V w.heap.size 23 l) := ⟨_, Lib.hid rfl, Lib.hid ((Below.refl _ _).alloc (Nat.le_refl _) _), Lib.hid (box32 l w)⟩
  by_cases hw : isW n = true
  · obtain ⟨k, rfl⟩ : ∃ k : Nat, n = k := ⟨n.toNat, by rcases (isW_iff n).1 hw with h | h | h | h <;> omega⟩
    have hk : k = 1 ∨ k = 2 ∨ k = 4 ∨ k = 8 := by rcases (isW_iff _).1 hw with h | h | h | h <;> omega
    have HAV : Hid (allV l k = NI (allN l k)) := Lib.hid (by rw [allV, if_pos hw, Int.toNat_natCast])
    have HC := Lib.hid (fun w' => number_any l k w' hl hk)
    obtain ⟨e1, e2, e3, e4⟩ := own_of k hk
    have HO := Lib.hid (of_any k V hn)
    rw [e4] at HO ⊢
    have HL := Lib.hid hl
    have HK := Lib.hid hk
    have HCE : Hid (chkW (k : Int) = chkN k) := Lib.hid e2
    have HOE : Hid (ownW (k : Int) = (256 / k : Nat)) := Lib.hid e1
    obtain ⟨own, hown⟩ : ∃ own, own = 256 / k := ⟨_, rfl⟩
    obtain ⟨chk, hchk⟩ : ∃ chk, chk = chkN k := ⟨_, rfl⟩
    have hob : own ≤ 256 := by rw [hown]; rcases hk with rfl | rfl | rfl | rfl <;> decide
    have hcb : chk ≤ 9 := by rw [hchk]; rcases hk with rfl | rfl | rfl | rfl <;> decide
    have HOK : Hid (own * k = 256 ∧ chk * k ≤ 16) := Lib.hid (by rw [hown, hchk]; rcases hk with rfl | rfl | rfl | rfl <;> decide)
    rw [HOE.out, HCE.out, ← hown, ← hchk] at HO HC
    generalize shiftW (k : Int) = o3 at HC HO
    obtain ⟨x, hx⟩ : ∃ x, x = numN l k := ⟨_, rfl⟩
    have hxb : x < 65536 := by rw [hx]; exact numN_lt l k hk
    rw [← hx] at HC
    obtain ⟨y1, hy1⟩ : ∃ y, y = x / 256 := ⟨_, rfl⟩
    obtain ⟨y0, hy0⟩ : ∃ y, y = x % 256 := ⟨_, rfl⟩
    have HT : Hid (B8 (tailB l k) = [.int .u8 (y1 : Int), .int .u8 (y0 : Int)]) := Lib.hid (by
      rw [tailB, ← hx, hy1, hy0]
      have h1 : x / 256 % 256 = x / 256 := by omega
      simp [B8, bn, h1])
    have q1 : (x : Int) / 256 = (y1 : Int) := by omega
    have q0 : (x : Int) % 256 = (y0 : Int) := by omega
    have q2 : (y1 : Int) % 256 = (y1 : Int) := by omega
    clear hy1 hy0
    have HX := Lib.hid hx
    have HOWN := Lib.hid hown
    have HCHK := Lib.hid hchk
    clear hw e1 e2 e3 e4 hl hk hx hown hchk
    go_enter Try.func40, Try.ntmps40
    go_upto_region 1 with (fail)
    rw [← HV.out]
    go_wp2_with fail
    refine HO.out.mono ?_
    rintro e w1 ⟨rfl, hb1⟩
    have HR1 := Lib.hid (HVR.out.later (hb1.block _ (Array.getElem?_eq_some_iff.1 HVR.out).1))
    have HB1 := Lib.hid (HVB.out.trans (hb1.mono HVB.out.size))
    obtain ⟨W2, HW2, HB2, HR2, HF⟩ : ∃ W2, Hid (W2 = w1.alloc (.cells #[.int .i64 own, .int .i64 chk, .int .i64 o3] 100)) ∧ Hid (Below w.heap.size w W2) ∧ Hid (Arr8 W2 w.heap.size 23 l) ∧ Hid (W2.heap[w1.heap.size]? = some (.cells #[.int .i64 own, .int .i64 chk, .int .i64 o3] 100 (0, 0))) :=
      ⟨_, Lib.hid rfl, Lib.hid (HB1.out.alloc HB1.out.size _), Lib.hid ((heap_alloc_old _ _ (Array.getElem?_eq_some_iff.1 HR1.out).1).trans HR1.out), Lib.hid (heap_alloc_new _ _)⟩
    clear hb1
    go_upto_region 2 with (fail)
    rw [← HW2.out]
    generalize w1.heap.size = fb at HF ⊢
    have f0 : W2.cell? ⟨fb, 0, none⟩ = some (.int .i64 own) := cell_of_row _ _ 0 _ _ (0, 0) HF.out
    have f1 : W2.cell? ⟨fb, 1, none⟩ = some (.int .i64 chk) := cell_of_row _ _ 1 _ _ (0, 0) HF.out
    have f2 : W2.cell? ⟨fb, 2, none⟩ = some (.int .i64 o3) := cell_of_row _ _ 2 _ _ (0, 0) HF.out
    go_wp2_with (refine wpList_load_row rfl 23 _ rfl w.heap.size rfl _ (B8 l).toArray (0, 0) _ HR2.out Try.underlying23 rfl I32.out ?_)
    refine (HC.out _).mono ?_
    rintro e w3 ⟨rfl, hb3⟩
    have HR3 := Lib.hid (HR2.out.later (hb3.block _ (Array.getElem?_eq_some_iff.1 HR2.out).1))
    have HF3 := Lib.hid ((hb3.block _ (Array.getElem?_eq_some_iff.1 HF.out).1).trans HF.out)
    have HB3 := Lib.hid (HB2.out.trans (hb3.mono HB2.out.size))
    obtain ⟨W4, HW4, HB4, HS4, HR4, HF4⟩ : ∃ W4, Hid (W4 = w3.alloc (.cells #[.int .u8 (y1 : Int), .int .u8 (y0 : Int)] 5)) ∧ Hid (Below w.heap.size w W4) ∧ Hid (Sl W4 (.slice (some ⟨w3.heap.size, 0, none⟩) 2 2) (tailB l k)) ∧ Hid (Arr8 W4 w.heap.size 23 l) ∧ Hid (W4.heap[fb]? = some (.cells #[.int .i64 own, .int .i64 chk, .int .i64 o3] 100 (0, 0))) :=
      ⟨_, Lib.hid rfl, Lib.hid (HB3.out.alloc HB3.out.size _), Lib.hid (Sl.made w3 (tailB l k) _ _ _ _ (by rw [HT.out]) rfl (by decide) rfl), Lib.hid ((heap_alloc_old _ _ (Array.getElem?_eq_some_iff.1 HR3.out).1).trans HR3.out), Lib.hid ((heap_alloc_old _ _ (Array.getElem?_eq_some_iff.1 HF3.out).1).trans HF3.out)⟩
    have HSH : Hid (Sl W4 (.slice (some ⟨w.heap.size, 0, none⟩) 32 32) l) := Lib.hid (Sl.ofBlock HR4.out HL.out.symm (Nat.le_refl _) (by simp [maxLen]) (fun i _ => by rw [Nat.zero_add, List.getElem?_toArray]))
    have HSS : Hid (∃ a, Value.slice (some ⟨w.heap.size, 0, none⟩) 32 32 = .slice a l.length l.length) := Lib.hid ⟨_, by rw [HL.out]⟩
    have HLT : Hid (0 < (tailB l k).length) := Lib.hid (by simp [tailB])
    have HLL : Hid (l.length + (tailB l k).length ≤ 1000000000) := Lib.hid (by rw [HL.out]; simp [tailB])
    have HLB : Hid ((l ++ tailB l k).length = 34) := Lib.hid (by rw [List.length_append, HL.out]; rfl)
    clear hb3 f0 f1 f2
    rw [HW4.out] at HSH HS4
    go_upto_region 6 with (at_builtin; refine wpList_append_fresh rfl _ _ rfl _ l rfl HSH.out HSS.out _ (tailB l k) rfl HS4.out HLT.out HLL.out ?_; intro v5 w5 hv5 hb5)
    rw [← HW4.out] at hb5
    have HV5 := Lib.hid hv5.sl
    have HF5 := Lib.hid ((hb5.block _ (Array.getElem?_eq_some_iff.1 HF4.out).1).trans HF4.out)
    have HB5 := Lib.hid (HB4.out.trans (hb5.mono HB4.out.size))
    obtain ⟨a5, c5, rfl⟩ := hv5.shape
    rw [HLB.out] at HV5 ⊢
    clear hv5 hb5 HSH HS4
    have f0 : w5.cell? ⟨fb, 0, none⟩ = some (.int .i64 own) := cell_of_row _ _ 0 _ _ (0, 0) HF5.out
    have f1 : w5.cell? ⟨fb, 1, none⟩ = some (.int .i64 chk) := cell_of_row _ _ 1 _ _ (0, 0) HF5.out
    obtain ⟨N, hN⟩ : ∃ N, N = own + chk := ⟨_, rfl⟩
    have hNi : (own : Int) + chk = (N : Int) := by omega
    have HNN := Lib.hid hN
    clear hN
    obtain ⟨i0, hi, hz0, hz1, hz2⟩ := info_parts info_i64
    go_wp2_with (refine wpList_make_full _ rfl (.tmp 36) (.tmp 36) 34 rfl w5.heap.size 3 i0 (.int .i64 0) 1 Try.underlying34 hi hz0 hz1 .i64 .i64 _ _ N rfl rfl rfl rfl (by rw [hz2]; omega) (by simp only [maxLen]; omega) (Nat.le_refl _) ?_; intro w6 hown6 hgr6)
    obtain ⟨A, HA⟩ : ∃ A, Hid (A = NI (allN l k)) := ⟨_, Lib.hid rfl⟩
    have HAL : Hid (A.length = N) := Lib.hid (by rw [HA.out, NI_length, allN_length, HNN.out, HOWN.out, HCHK.out])
    have hNb : N ≤ 265 := by omega
    have HNK : Hid (N * k ≤ 272) := Lib.hid (by have := HOK.out; rw [HNN.out, Nat.add_mul]; omega)
    have HZ : Hid (RowI w6 w5.heap.size 3 .i64 (A.take 0 ++ List.replicate (N - 0) 0)) := Lib.hid (by exact RowI.zeros (k := .i64) hown6)
    have HB6 : Hid (Below w5.heap.size w5 w6) := Lib.hid ((Below.refl _ _).grown hgr6 (Nat.le_refl _) fun k hk => by cases hk)
    have HV6 := Lib.hid (HV5.out.later HB6.out)
    have HBW := Lib.hid (HB5.out.trans (HB6.out.mono HB5.out.size))
    clear hown6 hgr6 hi hz0 hz1 hz2 f0 f1 q0 q1 q2 hNi
    obtain ⟨ob, hob5⟩ : ∃ ob, ob = w5.heap.size := ⟨_, rfl⟩
    rw [← hob5] at HZ ⊢
    have HOB := Lib.hid hob5
    clear hob5
    go_loopw [40] (fun i wr => ∃ j : Nat, j ≤ N ∧ i = .int .i64 j ∧ Hid (RowI wr ob 3 .i64 (A.take j ++ List.replicate (N - j) 0)) ∧ Hid (Below ob w6 wr)) (fun i _ => N - (intOf i).toNat)
    case atStart => exact ⟨0, by omega, rfl, HZ, Lib.hid (Below.refl _ _)⟩
    case round =>
      obtain ⟨j, hj, rfl, HR, HB⟩ := hrel
      by_cases hlt : j < N
      · have hjk : j * k < 272 := by
          have h1 : (j + 1) * k ≤ N * k := Nat.mul_le_mul_right _ hlt
          have h2 := HNK.out
          have h3 : 0 < k := by rcases HK.out with h | h | h | h <;> omega
          rw [Nat.add_mul] at h1
          omega
        have hsl : Sl wr (.slice a5 34 c5) (l ++ tailB l k) := HV5.out.later (by rw [← HOB.out]; exact (show Below ob w5 w6 from by rw [HOB.out]; exact HB6.out).trans HB.out)
        obtain ⟨b, off, ha, hcell⟩ := hsl.cellAt (i := j * k / 8) (by rw [HLB.out]; omega)
        have HC2 := Lib.hid (digit_any b off c5 (l ++ tailB l k) j k wr HK.out (by rw [HLB.out]; omega) (by rw [HLB.out]; omega) hcell)
        have HG : Hid (A.getD j 0 = (dig (l ++ tailB l k) j k : Int)) := Lib.hid (by
          rw [HA.out, NI_getD, allN_getD l k j (by rw [← HOWN.out, ← HCHK.out]; have := HAL.out; rw [HA.out, NI_length, allN_length, ← HOWN.out, ← HCHK.out] at this; omega)])
        have HTS := Lib.hid (take_snocI A j (by rw [HAL.out]; exact hlt))
        have HFI := Lib.hid (fillI (A.take j) N j (A.getD j 0) (by rw [List.length_take, HAL.out]; omega) hlt)
        rw [HG.out] at HTS HFI
        rw [HTS.out] at HFI
        have hlen : (A.take j ++ List.replicate (N - j) (0 : Int)).length = N := by rw [List.length_append, List.length_take, HAL.out, List.length_replicate]; omega
        have hc1 := HR.out.cell (i := j) (by rw [hlen]; exact hlt)
        have hfz := HR.out.frozen j
        have HRS := Lib.hid (HR.out.set j (dig (l ++ tailB l k) j k))
        rw [HFI.out] at HRS
        subst ha
        generalize dig (l ++ tailB l k) j k = dd at HC2 HRS
        generalize (A.take j ++ List.replicate (N - j) (0 : Int)).getD j 0 = old at hc1
        clear hlen hsl hcell
        rw [HLB.out] at HC2
        go_wp2_with (go_at_call 59; refine HC2.out.mono ?_; rintro e w' ⟨rfl, rfl⟩)
        go_roundw
        case rel => exact ⟨j + 1, by omega, by go_num, HRS, Lib.hid (HB.out.setCell (Nat.le_refl _) _)⟩
        case measure => simp [intOf]; omega
      · obtain rfl : j = N := by omega
        have HFin : Hid (SlI wr .i64 (.slice (some ⟨ob, 0, none⟩) j j) A) := Lib.hid (by
          have h := HR.out
          rw [Nat.sub_self, List.replicate_zero, List.append_nil, List.take_of_length_le (by rw [HAL.out]; exact Nat.le_refl _)] at h
          exact h.sl HAL.out.symm (Nat.le_refl _) (by simp only [maxLen]; omega))
        have HBF : Hid (Below w.heap.size w wr) := Lib.hid (HBW.out.trans (HB.out.mono (by rw [HOB.out]; exact HB5.out.size)))
        go_wp2_with fail
        go_ret2
        exact ⟨_, rfl, by rw [HAV.out, ← HA.out]; exact HFin.out, HBF.out, fun _ k hk => by have e : ob = k := Option.some.inj hk; rw [← e, HOB.out]; exact HB5.out.size⟩
  · have hw' : isW n = false := by simpa using hw
    have HAV : Hid (allV l n = []) := Lib.hid (by rw [allV, if_neg hw])
    have HNW := Lib.hid hw'
    have HO := Lib.hid (of_any n V hn)
    have he : errW n = 1 := by simp [errW, hw']
    rw [he] at HO ⊢
    generalize ownW n = o1 at HO
    generalize chkW n = o2 at HO
    generalize shiftW n = o3 at HO
    clear hw hw' he
    go_enter Try.func40, Try.ntmps40
    go_upto_region 1 with (fail)
    rw [← HV.out]
    go_wp2_with fail
    refine HO.out.mono ?_
    rintro e w1 ⟨rfl, hb1⟩
    have HB1 := Lib.hid (HVB.out.trans (hb1.mono HVB.out.size))
    clear hb1
    go_wp2_with fail
    go_ret2
    exact ⟨_, rfl, .inl ⟨HAV.out, _, _, rfl⟩, HB1.out.alloc HB1.out.size _, fun h => absurd h (by rw [HNW.out]; decide)⟩
theorem All_any (l : List UInt8) (n : Int) (w : World) (hl : l.length = 32) (hn : -9223372036854775808 ≤ n ∧ n ≤ 9223372036854775807) :
    Calls Try.prog 40 #[.agg (B8 l).toArray, .int .i64 n] w fun e w' => ∃ v, e = .returned (.tuple #[v, .int .i64 (errW n)]) ∧ SlI w' .i64 v (allV l n) ∧ Below w.heap.size w w' :=
  (All_own l n w hl hn).mono fun _ _ ⟨v, h1, h2, h3, _⟩ => ⟨v, h1, h2, h3⟩
end Go.Proofs.Ytcnelahmbfggcaa

/- The walks of the document's power, Own, Check, Shift, Number; Ints. -/
namespace Go.Proofs.Ytcnelahmbfggcaa
open Go Go.RowKit
set_option maxRecDepth 100000
set_option maxHeartbeats 1000000

theorem power_any (n : Nat) (w : World) (hn : n ≤ 24) : Calls Try.prog 71 #[.int .i64 n] w fun e w' => e = .returned (.int .i64 ((2 ^ n : Nat) : Int)) ∧ w' = w := by
  obtain ⟨R, HR⟩ : ∃ R, Hid (R = 2 ^ n) := ⟨_, Lib.hid rfl⟩
  rw [← HR.out]
  go_enter Try.func71, Try.ntmps71
  go_wp2_with fail
  go_loop [3, 4] (fun p i => ∃ j q : Nat, j ≤ n ∧ i = .int .i64 j ∧ p = .int .i64 q ∧ q ≤ 16777216 ∧ Hid (q = 2 ^ j)) (fun _ i => n - (intOf i).toNat)
  case atStart => exact ⟨0, 1, by omega, rfl, rfl, by omega, Lib.hid rfl⟩
  case round =>
    obtain ⟨j, q, hj, rfl, rfl, hq, HQ⟩ := hrel
    by_cases hlt : j < n
    · have HQ2 : Hid (2 * q = 2 ^ (j + 1)) := Lib.hid (by rw [HQ.out, Nat.pow_succ]; omega)
      have hq2 : 2 * q ≤ 16777216 := by
        rw [HQ2.out]
        exact Nat.le_trans (Nat.pow_le_pow_right (by omega) (by omega : j + 1 ≤ 24)) (by decide)
      go_wp2_with fail
      go_round
      case rel => exact ⟨j + 1, 2 * q, by omega, by go_num, by go_num, hq2, HQ2⟩
      case measure => simp [intOf]; omega
    · obtain rfl : j = n := by omega
      have HE : Hid (R = q) := Lib.hid (by rw [HR.out, HQ.out])
      go_wp2_with fail
      go_ret
      exact ⟨by rw [HE.out]; rfl, rfl⟩

theorem rOwn_any (n : Int) (w : World) : Calls Try.prog 62 #[.int .i64 n] w fun e w' => e = .returned (.tuple #[.int .i64 (ownW n), .int .i64 (errW n)]) ∧ w' = w := by
  by_cases hw : isW n = true
  · have HC := Lib.hid (rwidth_any n w)
    rw [hw] at HC
    rcases (isW_iff n).1 hw with rfl | rfl | rfl | rfl
    all_goals
      clear hw
      go_enter Try.func62, Try.ntmps62
      go_wp2_with (go_at_call 70; refine HC.out.mono ?_; rintro e w' ⟨rfl, rfl⟩)
      go_ret2
      exact ⟨rfl, rfl⟩
  · have hw' : isW n = false := by simpa using hw
    have HC := Lib.hid (rwidth_any n w)
    rw [hw'] at HC
    have e1 : ownW n = 0 := by simp [ownW, hw']
    have e3 : errW n = 1 := by simp [errW, hw']
    rw [e1, e3]
    clear hw hw' e1 e3
    go_enter Try.func62, Try.ntmps62
    go_wp2_with (go_at_call 70; refine HC.out.mono ?_; rintro e w' ⟨rfl, rfl⟩)
    go_ret2
    exact ⟨rfl, rfl⟩

/-- how often power(n*w) <= most holds -/
theorem chk_test : ∀ k ∈ [1, 2, 4, 8], ∀ j ≤ chkN k, (2 ^ (j * k) ≤ 256 / k * (2 ^ k - 1) ↔ j < chkN k) ∧ j * k ≤ 24 := by decide +kernel
theorem rCheck_any (n : Int) (w : World) : Calls Try.prog 63 #[.int .i64 n] w fun e w' => e = .returned (.tuple #[.int .i64 (chkW n), .int .i64 (errW n)]) ∧ ∃ m, w' = w.drewN m := by
  have HC := Lib.hid (rwidth_any n w)
  by_cases hw : isW n = true
  · rw [hw] at HC
    obtain ⟨k, rfl⟩ : ∃ k : Nat, n = k := ⟨n.toNat, by rcases (isW_iff n).1 hw with h | h | h | h <;> omega⟩
    have hk : k = 1 ∨ k = 2 ∨ k = 4 ∨ k = 8 := by rcases (isW_iff _).1 hw with h | h | h | h <;> omega
    obtain ⟨e1, e2, e3, e4⟩ := own_of k hk
    rw [e2, e4]
    have HT := Lib.hid (chk_test k (by rcases hk with rfl | rfl | rfl | rfl <;> simp))
    obtain ⟨c, hc⟩ : ∃ c, c = chkN k := ⟨_, rfl⟩
    obtain ⟨own, hown⟩ : ∃ own, own = 256 / k := ⟨_, rfl⟩
    obtain ⟨P, hP⟩ : ∃ P, P = 2 ^ k := ⟨_, rfl⟩
    obtain ⟨M, hM⟩ : ∃ M, M = own * (P - 1) := ⟨_, rfl⟩
    have hMb : M ≤ 8160 := by rw [hM, hP, hown]; rcases hk with rfl | rfl | rfl | rfl <;> decide
    have hcb : c ≤ 9 := by rw [hc]; rcases hk with rfl | rfl | rfl | rfl <;> decide
    have hob : own ≤ 256 := by rw [hown]; rcases hk with rfl | rfl | rfl | rfl <;> decide
    have hPb : 2 ≤ P ∧ P ≤ 256 := by rw [hP]; rcases hk with rfl | rfl | rfl | rfl <;> decide
    have hkb : 1 ≤ k ∧ k ≤ 8 := by omega
    rw [← hc, ← hown, ← hP, ← hM] at HT
    rw [← hc]
    have HP := Lib.hid (fun w' => power_any k w' (by omega))
    rw [← hP] at HP
    have hdiv : (256 : Int) / k = own := by rw [hown]; rcases hk with rfl | rfl | rfl | rfl <;> decide
    have hMi : (own : Int) * ((P : Int) - 1) = (M : Int) := by
      rw [hM]
      have : ((P - 1 : Nat) : Int) = (P : Int) - 1 := by omega
      rw [Int.natCast_mul, this]
    have k1 : IntKind.i64.wrap ((P : Int) - 1) = (P : Int) - 1 := by rw [IntKind.wrap_i64]; omega
    have k2 : IntKind.i64.wrap ((own : Int) * ((P : Int) - 1)) = (M : Int) := by rw [hMi, IntKind.wrap_i64]; omega
    clear hw hk e1 e2 e3 e4 hc hown hP hM
    go_enter Try.func63, Try.ntmps63
    go_wp2_with (go_at_call 70; refine HC.out.mono ?_; rintro e w' ⟨rfl, rfl⟩)
    go_quiet ((go_at_call 71; exact Calls.quiet_of_same (HP.out _)))
    clear k1 k2 hMi hdiv
    go_wp2_with fail
    go_loop [5] (fun j => ∃ i : Nat, i ≤ c ∧ j = .int .i64 i) (fun j => c - (intOf j).toNat)
    case atStart => exact ⟨0, by omega, rfl⟩
    case round =>
      obtain ⟨i, hi, rfl⟩ := hrel
      obtain ⟨t1, t2⟩ := HT.out i hi
      obtain ⟨q, hq⟩ : ∃ q, q = i * k := ⟨_, rfl⟩
      have hqi : (i : Int) * k = (q : Int) := by rw [hq]; simp
      have hq0 : (i : Int) * k ≤ 24 := by omega
      have hq1 : (0 : Int) ≤ (i : Int) * k := by omega
      rw [← hq] at t1 t2
      have HP2 := Lib.hid (fun w' => power_any q w' t2)
      obtain ⟨y, hy⟩ : ∃ y, y = 2 ^ q := ⟨_, rfl⟩
      rw [← hy] at t1 HP2
      clear hq hy
      by_cases hlt : i < c
      · have hyM : y ≤ M := t1.2 hlt
        clear t1
        go_wp2_with (go_at_call 71; refine (HP2.out _).mono ?_; rintro e w' ⟨rfl, rfl⟩)
        go_round
        case rel => exact ⟨i + 1, by omega, by go_num⟩
        case measure => simp [intOf]; omega
      · have hyM : ¬ y ≤ M := fun h => hlt (t1.1 h)
        obtain rfl : i = c := by omega
        clear t1
        go_wp2_with (go_at_call 71; refine (HP2.out _).mono ?_; rintro e w' ⟨rfl, rfl⟩)
        go_ret2
        exact ⟨rfl, _, rfl⟩
  · have hw' : isW n = false := by simpa using hw
    rw [hw'] at HC
    have e4 : chkW n = 0 := by
      have : ¬ (n = 1 ∨ n = 2 ∨ n = 4 ∨ n = 8) := fun h => hw ((isW_iff n).2 h)
      unfold chkW; rw [if_neg (by omega), if_neg (by omega), if_neg (by omega), if_neg (by omega)]
    have e3 : errW n = 1 := by simp [errW, hw']
    rw [e4, e3]
    clear hw hw' e4 e3
    go_enter Try.func63, Try.ntmps63
    go_wp2_with (go_at_call 70; refine HC.out.mono ?_; rintro e w' ⟨rfl, rfl⟩)
    go_ret2
    exact ⟨rfl, 0, rfl⟩
end Go.Proofs.Ytcnelahmbfggcaa

/- The walks of the document's Shift, Number and All; Ints. -/
namespace Go.Proofs.Ytcnelahmbfggcaa
open Go Go.RowKit
set_option maxRecDepth 100000
set_option maxHeartbeats 1000000

theorem digV_ok (l : List UInt8) (j k : Nat) (hl : l.length = 32) (hk : k = 1 ∨ k = 2 ∨ k = 4 ∨ k = 8) (hj : j < 256 / k) : digV l j k = dig l j k ∧ digE l j k = 0 := by
  have hw : isW (k : Int) = true := (isW_iff _).2 (by omega)
  have h1 : (j : Int) < (l.length : Int) * 8 / k := by
    rw [hl]
    rcases hk with rfl | rfl | rfl | rfl <;> omega
  have : digOk l j k = true := by simp [digOk, hw, h1]
  simp [digV, digE, this]

end Go.Proofs.Ytcnelahmbfggcaa

/- The walk of the document's All. -/
namespace Go.Proofs.Ytcnelahmbfggcaa
open Go Go.RowKit
set_option maxRecDepth 100000
set_option maxHeartbeats 1000000

theorem allN_take_own (l : List UInt8) (k j : Nat) (hl : l.length = 32) (hk : k = 1 ∨ k = 2 ∨ k = 4 ∨ k = 8) (hj : j < 256 / k) : (NI (allN l k)).getD j 0 = (dig l j k : Int) := by
  rw [NI_getD, allN_getD l k j (by omega), dig_own l _ j k hl hk hj]
theorem allN_take_chk (l : List UInt8) (k j : Nat) (hl : l.length = 32) (hk : k = 1 ∨ k = 2 ∨ k = 4 ∨ k = 8) (hj : j < chkN k) : (NI (allN l k)).getD (256 / k + j) 0 = (dig (tailB l k) j k : Int) := by
  rw [NI_getD, allN_getD l k _ (by omega), dig_tail l _ j k hl hk]
theorem digV_tail (l : List UInt8) (j k : Nat) (hl : l.length = 2) (hk : k = 1 ∨ k = 2 ∨ k = 4 ∨ k = 8) (hj : j < chkN k) : digV l j k = dig l j k ∧ digE l j k = 0 := by
  have hw : isW (k : Int) = true := (isW_iff _).2 (by omega)
  have h1 : (j : Int) < (l.length : Int) * 8 / k := by
    rw [hl]
    rcases hk with rfl | rfl | rfl | rfl <;> simp [chkN] at hj ⊢ <;> omega
  have : digOk l j k = true := by simp [digOk, hw, h1]
  simp [digV, digE, this]

theorem one_int (w : World) (d : Int) : SlI (w.alloc (.cells #[.int .i64 d] 3)) .i64 (.slice (some ⟨w.heap.size, 0, none⟩) 1 1) [d] :=
  (RowI.made w 3 .i64 [d] _ rfl).sl rfl (Nat.le_refl _) (by simp [maxLen])
end Go.Proofs.Ytcnelahmbfggcaa


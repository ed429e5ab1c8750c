/- The walk of digits.All. -/
import Derived.Test.YtabgnahjejhnkaaDigE
import Derived.Test.YtabgnahjejhnkaaFresh
namespace Go.Proofs.Ytabgnahjejhnkaa
open Go Go.RowKit
set_option maxHeartbeats 1000000

theorem info_i64 : (Try.prog.info? 3).map (fun i => (i.zero, i.size, i.bytes)) = some (some (.int .i64 0), 1, 8) := by kernel_rfl
theorem fillI (l : List Int) (N j : Nat) (x : Int) (hl : l.length = j) (hj : j < N) : (l ++ List.replicate (N - j) 0).set j x = (l ++ [x]) ++ List.replicate (N - (j + 1)) 0 := by
  subst hl
  rw [List.set_append_right _ _ (Nat.le_refl _), Nat.sub_self, show N - l.length = (N - (l.length + 1)) + 1 by omega, List.replicate_succ, List.set_cons_zero, List.append_assoc]
  rfl
theorem take_snocI (l : List Int) (j : Nat) (h : j < l.length) : l.take j ++ [l.getD j 0] = l.take (j + 1) := by
  rw [List.take_succ_eq_append_getElem h]; simp [h]
theorem allN_getD (l : List UInt8) (n i : Nat) (hi : i < 256 / n + chkN n) : (allN l n).getD i 0 = dig (l ++ tailB l n) i n := by simp [allN, hi]
/-- what digits.All gives -/
def allV (l : List UInt8) (n : Int) : List Int := if isW n then NI (allN l n.toNat) else []
theorem All_any (l : List UInt8) (n : Int) (w : World) (hl : l.length = 32) (hn : -9223372036854775808 ≤ n ∧ n ≤ 9223372036854775807) :
    Calls Try.prog 32 #[.agg (B8 l).toArray, .int .i64 n] w fun e w' => ∃ v, e = .returned (.tuple #[v, .int .i64 (errW n)]) ∧ SlI w' .i64 v (allV l n) ∧ Below w.heap.size w w' := by
  have I32 : Hid ((Try.prog.info? 29).map (·.size) = some (B8 l).toArray.size) := Lib.hid (by rw [info_h32]; simp [B8_length, hl])
  obtain ⟨V, HV, HVB, HVR⟩ : ∃ V, Hid (V = w.alloc (.cells (B8 l).toArray 29)) ∧ Hid (Below w.heap.size w V) ∧ Hid (Arr8 V w.heap.size 29 l) := ⟨_, Lib.hid rfl, Lib.hid ((Below.refl _ _).alloc (Nat.le_refl _) _), Lib.hid (box32 l w)⟩
  by_cases hw : isW n = true
  · obtain ⟨k, rfl⟩ : ∃ k : Nat, n = k := ⟨n.toNat, by rcases (isW_iff n).1 hw with h | h | h | h <;> omega⟩
    have hk : k = 1 ∨ k = 2 ∨ k = 4 ∨ k = 8 := by rcases (isW_iff _).1 hw with h | h | h | h <;> omega
    have HAV : Hid (allV l k = NI (allN l k)) := Lib.hid (by rw [allV, if_pos hw, Int.toNat_natCast])
    have HC := Lib.hid (fun w' => number_any l k w' hl hk)
    obtain ⟨e1, e2, e3, e4⟩ := own_of k hk
    have HO := Lib.hid (of_any k V hn)
    rw [e4] at HO ⊢
    have HL := Lib.hid hl
    have HK := Lib.hid hk
    have HCE : Hid (chkW (k : Int) = chkN k) := Lib.hid e2
    have HOE : Hid (ownW (k : Int) = (256 / k : Nat)) := Lib.hid e1
    obtain ⟨own, hown⟩ : ∃ own, own = 256 / k := ⟨_, rfl⟩
    obtain ⟨chk, hchk⟩ : ∃ chk, chk = chkN k := ⟨_, rfl⟩
    have hob : own ≤ 256 := by rw [hown]; rcases hk with rfl | rfl | rfl | rfl <;> decide
    have hcb : chk ≤ 9 := by rw [hchk]; rcases hk with rfl | rfl | rfl | rfl <;> decide
    have HOK : Hid (own * k = 256 ∧ chk * k ≤ 16) := Lib.hid (by rw [hown, hchk]; rcases hk with rfl | rfl | rfl | rfl <;> decide)
    rw [HOE.out, HCE.out, ← hown, ← hchk] at HO HC
    generalize shiftW (k : Int) = o3 at HC HO
    obtain ⟨x, hx⟩ : ∃ x, x = numN l k := ⟨_, rfl⟩
    have hxb : x < 65536 := by rw [hx]; exact numN_lt l k hk
    rw [← hx] at HC
    obtain ⟨y1, hy1⟩ : ∃ y, y = x / 256 := ⟨_, rfl⟩
    obtain ⟨y0, hy0⟩ : ∃ y, y = x % 256 := ⟨_, rfl⟩
    have HT : Hid (B8 (tailB l k) = [.int .u8 (y1 : Int), .int .u8 (y0 : Int)]) := Lib.hid (by
      rw [tailB, ← hx, hy1, hy0]
      have h1 : x / 256 % 256 = x / 256 := by omega
      simp [B8, bn, h1])
    have q1 : (x : Int) / 256 = (y1 : Int) := by omega
    have q0 : (x : Int) % 256 = (y0 : Int) := by omega
    have q2 : (y1 : Int) % 256 = (y1 : Int) := by omega
    clear hy1 hy0
    have HX := Lib.hid hx
    have HOWN := Lib.hid hown
    have HCHK := Lib.hid hchk
    clear hw e1 e2 e3 e4 hl hk hx hown hchk
    go_enter Try.func32, Try.ntmps32
    go_upto_region 1 with (fail)
    rw [← HV.out]
    go_wp2_with fail
    refine HO.out.mono ?_
    rintro e w1 ⟨rfl, hb1⟩
    have HR1 := Lib.hid (HVR.out.later (hb1.block _ (Array.getElem?_eq_some_iff.1 HVR.out).1))
    have HB1 := Lib.hid (HVB.out.trans (hb1.mono HVB.out.size))
    obtain ⟨W2, HW2, HB2, HR2, HF⟩ : ∃ W2, Hid (W2 = w1.alloc (.cells #[.int .i64 own, .int .i64 chk, .int .i64 o3] 78)) ∧ Hid (Below w.heap.size w W2) ∧ Hid (Arr8 W2 w.heap.size 29 l) ∧ Hid (W2.heap[w1.heap.size]? = some (.cells #[.int .i64 own, .int .i64 chk, .int .i64 o3] 78 (0, 0))) :=
      ⟨_, Lib.hid rfl, Lib.hid (HB1.out.alloc HB1.out.size _), Lib.hid ((heap_alloc_old _ _ (Array.getElem?_eq_some_iff.1 HR1.out).1).trans HR1.out), Lib.hid (heap_alloc_new _ _)⟩
    clear hb1
    go_upto_region 2 with (fail)
    rw [← HW2.out]
    generalize w1.heap.size = fb at HF ⊢
    have f0 : W2.cell? ⟨fb, 0, none⟩ = some (.int .i64 own) := cell_of_row _ _ 0 _ _ (0, 0) HF.out
    have f1 : W2.cell? ⟨fb, 1, none⟩ = some (.int .i64 chk) := cell_of_row _ _ 1 _ _ (0, 0) HF.out
    have f2 : W2.cell? ⟨fb, 2, none⟩ = some (.int .i64 o3) := cell_of_row _ _ 2 _ _ (0, 0) HF.out
    go_wp2_with (refine wpList_load_row rfl 29 _ rfl w.heap.size rfl _ (B8 l).toArray (0, 0) _ HR2.out Try.underlying29 rfl I32.out ?_)
    refine (HC.out _).mono ?_
    rintro e w3 ⟨rfl, hb3⟩
    have HR3 := Lib.hid (HR2.out.later (hb3.block _ (Array.getElem?_eq_some_iff.1 HR2.out).1))
    have HF3 := Lib.hid ((hb3.block _ (Array.getElem?_eq_some_iff.1 HF.out).1).trans HF.out)
    have HB3 := Lib.hid (HB2.out.trans (hb3.mono HB2.out.size))
    obtain ⟨W4, HW4, HB4, HS4, HR4, HF4⟩ : ∃ W4, Hid (W4 = w3.alloc (.cells #[.int .u8 (y1 : Int), .int .u8 (y0 : Int)] 5)) ∧ Hid (Below w.heap.size w W4) ∧ Hid (Sl W4 (.slice (some ⟨w3.heap.size, 0, none⟩) 2 2) (tailB l k)) ∧ Hid (Arr8 W4 w.heap.size 29 l) ∧ Hid (W4.heap[fb]? = some (.cells #[.int .i64 own, .int .i64 chk, .int .i64 o3] 78 (0, 0))) :=
      ⟨_, Lib.hid rfl, Lib.hid (HB3.out.alloc HB3.out.size _), Lib.hid (Sl.made w3 (tailB l k) _ _ _ _ (by rw [HT.out]) rfl (by decide) rfl), Lib.hid ((heap_alloc_old _ _ (Array.getElem?_eq_some_iff.1 HR3.out).1).trans HR3.out), Lib.hid ((heap_alloc_old _ _ (Array.getElem?_eq_some_iff.1 HF3.out).1).trans HF3.out)⟩
    have HSH : Hid (Sl W4 (.slice (some ⟨w.heap.size, 0, none⟩) 32 32) l) := Lib.hid (Sl.ofBlock HR4.out HL.out.symm (Nat.le_refl _) (by simp [maxLen]) (fun i _ => by rw [Nat.zero_add, List.getElem?_toArray]))
    have HSS : Hid (∃ a, Value.slice (some ⟨w.heap.size, 0, none⟩) 32 32 = .slice a l.length l.length) := Lib.hid ⟨_, by rw [HL.out]⟩
    have HLT : Hid (0 < (tailB l k).length) := Lib.hid (by simp [tailB])
    have HLL : Hid (l.length + (tailB l k).length ≤ 1000000000) := Lib.hid (by rw [HL.out]; simp [tailB])
    have HLB : Hid ((l ++ tailB l k).length = 34) := Lib.hid (by rw [List.length_append, HL.out]; rfl)
    clear hb3 f0 f1 f2
    rw [HW4.out] at HSH HS4
    go_upto_region 6 with (at_builtin; refine wpList_append_fresh rfl _ _ rfl _ l rfl HSH.out HSS.out _ (tailB l k) rfl HS4.out HLT.out HLL.out ?_; intro v5 w5 hv5 hb5)
    rw [← HW4.out] at hb5
    have HV5 := Lib.hid hv5.sl
    have HF5 := Lib.hid ((hb5.block _ (Array.getElem?_eq_some_iff.1 HF4.out).1).trans HF4.out)
    have HB5 := Lib.hid (HB4.out.trans (hb5.mono HB4.out.size))
    obtain ⟨a5, c5, rfl⟩ := hv5.shape
    rw [HLB.out] at HV5 ⊢
    clear hv5 hb5 HSH HS4
    have f0 : w5.cell? ⟨fb, 0, none⟩ = some (.int .i64 own) := cell_of_row _ _ 0 _ _ (0, 0) HF5.out
    have f1 : w5.cell? ⟨fb, 1, none⟩ = some (.int .i64 chk) := cell_of_row _ _ 1 _ _ (0, 0) HF5.out
    obtain ⟨N, hN⟩ : ∃ N, N = own + chk := ⟨_, rfl⟩
    have hNi : (own : Int) + chk = (N : Int) := by omega
    have HNN := Lib.hid hN
    clear hN
    obtain ⟨i0, hi, hz0, hz1, hz2⟩ := info_parts info_i64
    go_wp2_with (refine wpList_make_full _ rfl (.tmp 36) (.tmp 36) 52 rfl w5.heap.size 3 i0 (.int .i64 0) 1 Try.underlying52 hi hz0 hz1 .i64 .i64 _ _ N rfl rfl rfl rfl (by rw [hz2]; omega) (by simp only [maxLen]; omega) (Nat.le_refl _) ?_; intro w6 hown6 hgr6)
    obtain ⟨A, HA⟩ : ∃ A, Hid (A = NI (allN l k)) := ⟨_, Lib.hid rfl⟩
    have HAL : Hid (A.length = N) := Lib.hid (by rw [HA.out, NI_length, allN_length, HNN.out, HOWN.out, HCHK.out])
    have hNb : N ≤ 265 := by omega
    have HNK : Hid (N * k ≤ 272) := Lib.hid (by have := HOK.out; rw [HNN.out, Nat.add_mul]; omega)
    have HZ : Hid (RowI w6 w5.heap.size 3 .i64 (A.take 0 ++ List.replicate (N - 0) 0)) := Lib.hid (by exact RowI.zeros (k := .i64) hown6)
    have HB6 : Hid (Below w5.heap.size w5 w6) := Lib.hid ((Below.refl _ _).grown hgr6 (Nat.le_refl _) fun k hk => by cases hk)
    have HV6 := Lib.hid (HV5.out.later HB6.out)
    have HBW := Lib.hid (HB5.out.trans (HB6.out.mono HB5.out.size))
    clear hown6 hgr6 hi hz0 hz1 hz2 f0 f1 q0 q1 q2 hNi
    obtain ⟨ob, hob5⟩ : ∃ ob, ob = w5.heap.size := ⟨_, rfl⟩
    rw [← hob5] at HZ ⊢
    have HOB := Lib.hid hob5
    clear hob5
    go_loopw [40] (fun i wr => ∃ j : Nat, j ≤ N ∧ i = .int .i64 j ∧ Hid (RowI wr ob 3 .i64 (A.take j ++ List.replicate (N - j) 0)) ∧ Hid (Below ob w6 wr)) (fun i _ => N - (intOf i).toNat)
    case atStart => exact ⟨0, by omega, rfl, HZ, Lib.hid (Below.refl _ _)⟩
    case round =>
      obtain ⟨j, hj, rfl, HR, HB⟩ := hrel
      by_cases hlt : j < N
      · have hjk : j * k < 272 := by
          have h1 : (j + 1) * k ≤ N * k := Nat.mul_le_mul_right _ hlt
          have h2 := HNK.out
          have h3 : 0 < k := by rcases HK.out with h | h | h | h <;> omega
          rw [Nat.add_mul] at h1
          omega
        have hsl : Sl wr (.slice a5 34 c5) (l ++ tailB l k) := HV5.out.later (by rw [← HOB.out]; exact (show Below ob w5 w6 from by rw [HOB.out]; exact HB6.out).trans HB.out)
        obtain ⟨b, off, ha, hcell⟩ := hsl.cellAt (i := j * k / 8) (by rw [HLB.out]; omega)
        have HC2 := Lib.hid (digit_any b off c5 (l ++ tailB l k) j k wr HK.out (by rw [HLB.out]; omega) (by rw [HLB.out]; omega) hcell)
        have HG : Hid (A.getD j 0 = (dig (l ++ tailB l k) j k : Int)) := Lib.hid (by
          rw [HA.out, NI_getD, allN_getD l k j (by rw [← HOWN.out, ← HCHK.out]; have := HAL.out; rw [HA.out, NI_length, allN_length, ← HOWN.out, ← HCHK.out] at this; omega)])
        have HTS := Lib.hid (take_snocI A j (by rw [HAL.out]; exact hlt))
        have HFI := Lib.hid (fillI (A.take j) N j (A.getD j 0) (by rw [List.length_take, HAL.out]; omega) hlt)
        rw [HG.out] at HTS HFI
        rw [HTS.out] at HFI
        have hlen : (A.take j ++ List.replicate (N - j) (0 : Int)).length = N := by rw [List.length_append, List.length_take, HAL.out, List.length_replicate]; omega
        have hc1 := HR.out.cell (i := j) (by rw [hlen]; exact hlt)
        have hfz := HR.out.frozen j
        have HRS := Lib.hid (HR.out.set j (dig (l ++ tailB l k) j k))
        rw [HFI.out] at HRS
        subst ha
        generalize dig (l ++ tailB l k) j k = dd at HC2 HRS
        generalize (A.take j ++ List.replicate (N - j) (0 : Int)).getD j 0 = old at hc1
        clear hlen hsl hcell
        rw [HLB.out] at HC2
        go_wp2_with (go_at_call 44; refine HC2.out.mono ?_; rintro e w' ⟨rfl, rfl⟩)
        go_roundw
        case rel => exact ⟨j + 1, by omega, by go_num, HRS, Lib.hid (HB.out.setCell (Nat.le_refl _) _)⟩
        case measure => simp [intOf]; omega
      · obtain rfl : j = N := by omega
        have HFin : Hid (SlI wr .i64 (.slice (some ⟨ob, 0, none⟩) j j) A) := Lib.hid (by
          have h := HR.out
          rw [Nat.sub_self, List.replicate_zero, List.append_nil, List.take_of_length_le (by rw [HAL.out]; exact Nat.le_refl _)] at h
          exact h.sl HAL.out.symm (Nat.le_refl _) (by simp only [maxLen]; omega))
        have HBF : Hid (Below w.heap.size w wr) := Lib.hid (HBW.out.trans (HB.out.mono (by rw [HOB.out]; exact HB5.out.size)))
        go_wp2_with fail
        go_ret2
        exact ⟨_, rfl, by rw [HAV.out, ← HA.out]; exact HFin.out, HBF.out⟩
  · have hw' : isW n = false := by simpa using hw
    have HAV : Hid (allV l n = []) := Lib.hid (by rw [allV, if_neg hw])
    have HO := Lib.hid (of_any n V hn)
    have he : errW n = 1 := by simp [errW, hw']
    rw [he] at HO ⊢
    generalize ownW n = o1 at HO
    generalize chkW n = o2 at HO
    generalize shiftW n = o3 at HO
    clear hw hw' he
    go_enter Try.func32, Try.ntmps32
    go_upto_region 1 with (fail)
    rw [← HV.out]
    go_wp2_with fail
    refine HO.out.mono ?_
    rintro e w1 ⟨rfl, hb1⟩
    have HB1 := Lib.hid (HVB.out.trans (hb1.mono HVB.out.size))
    clear hb1
    go_wp2_with fail
    go_ret2
    exact ⟨_, rfl, .inl ⟨HAV.out, _, _, rfl⟩, HB1.out.alloc HB1.out.size _⟩
end Go.Proofs.Ytabgnahjejhnkaa

/- The walks of slices.Grow at a nil slice of bytes, of slices.Concat. -/
import Derived.Test.YtcnelahmbfggcaaG2
import Derived.Lib.SliceRun
import Derived.Lib.AppendZerosOnto
import Derived.Lib.AppendZeros
import Derived.Test.YtcnelahmbfggcaaG5
import Derived.Test.YtcnelahmbfggcaaG3
import Derived.Test.YtcnelahmbfggcaaConv
import Derived.Test.YtcnelahmbfggcaaG6
import Derived.Test.YtcnelahmbfggcaaTail
import Derived.Laws.EntriesVeiled
namespace Go.Proofs.Ytcnelahmbfggcaa
open Go Go.RowKit
set_option maxRecDepth 100000
set_option maxHeartbeats 2000000

theorem Grow_any (n : Nat) (w : World) (hn : n ≤ 100000000) :
    Calls Try.prog 43 #[.slice none 0 0, .int .i64 n] w fun e w' => ∃ v, e = .returned v ∧ Own8 w' w.heap.size v [] ∧ Below w.heap.size w w' := by
  by_cases h0 : n = 0
  · subst h0
    go_enter Try.func43, Try.ntmps43
    go_wp2_with fail
    go_ret
    exact ⟨_, rfl, Own8.nil _ _, Below.refl _ _⟩
  · obtain ⟨i0, hi, hz0, hz1, hz2⟩ := info_parts info_u8
    have hold : (Builtin.firstCells i0.size 0 (.slice none 0 0)).run Try.prog w.drew = .ok #[] w.drew := run_firstCells_none w.drew i0.size 0 0 0
    have hrz : ∀ ty, (Builtin.append_ #[41, 3] ty #[.slice none 0 0, .int .i64 (n : Int)]).run Try.prog w =
        .ok (.slice (some ⟨w.heap.size, 0, none⟩) n (grownCap w n 0 5)) (w.drew.alloc (.cells (#[] ++ Builtin.zeroCells (Value.int .u8 0).cells n ++ Builtin.zeroCells (Value.int .u8 0).cells (grownCap w n 0 5 - n)) 5)) := fun ty => by
      have h := Lib.run_append_grow_zeros w 41 3 ty 5 i0 (.int .u8 0) .i64 .i64 Try.underlying41 Try.underlying3 hi hz0 none 0 0 [] hold n (by omega) (by rw [hz1]; decide) (by omega) (by omega) (by rw [hz2]; omega) (growslice_fits (by omega) (by rw [hz2]; omega))
      simpa using h
    have hG1 : n ≤ grownCap w n 0 5 := grownCap_ge w _ _ _
    have hG2 := grownCap_le_maxLen w n 0 5 (by unfold maxLen; omega)
    obtain ⟨G, hG⟩ : ∃ G, G = grownCap w n 0 5 := ⟨_, rfl⟩
    rw [← hG] at hrz hG1 hG2
    have hG63 : (G : Int) ≤ 9223372036854775807 := by unfold maxLen at hG2; omega
    have h1 : ¬ ((n : Int) < 0) := by omega
    have h4 : (0 : Int) < n := by omega
    have HO : Hid (Own8 (w.drew.alloc (.cells (#[] ++ Builtin.zeroCells (Value.int .u8 0).cells n ++ Builtin.zeroCells (Value.int .u8 0).cells (G - n)) 5)) w.heap.size (.slice (some ⟨w.heap.size, 0, none⟩) 0 G) []) := Lib.hid (by
      refine ⟨rfl, .inr ⟨w.heap.size, 0, G, _, rfl, Nat.le_refl _, heap_alloc_new w.drew _, Nat.zero_le _, hG2, ?_, fun j hj => by simp [B8] at hj⟩⟩
      simp [Builtin.zeroCells, Value.cells]
      omega)
    have HB : Hid (Below w.heap.size w (w.drew.alloc (.cells (#[] ++ Builtin.zeroCells (Value.int .u8 0).cells n ++ Builtin.zeroCells (Value.int .u8 0).cells (G - n)) 5))) := Lib.hid (by
      have h : Below w.heap.size w w.drew := ⟨rfl, rfl, rfl, Nat.le_refl _, fun _ _ => rfl⟩
      exact h.alloc (Nat.le_refl _) _)
    obtain ⟨W9, HW9⟩ : ∃ W, Hid (W = w.drew.alloc (.cells (#[] ++ Builtin.zeroCells (Value.int .u8 0).cells n ++ Builtin.zeroCells (Value.int .u8 0).cells (G - n)) 5)) := ⟨_, Lib.hid rfl⟩
    rw [← HW9.out] at hrz HO HB
    clear hold hi hz0 hz1 hz2 hG hG2 HW9
    go_enter Try.func43, Try.ntmps43
    go_wp2_with (at_builtin; refine Lib.wpList_append_run _ rfl _ _ _ _ rfl _ _ rfl rfl _ _ (hrz _) ?_)
    go_ret
    exact ⟨_, rfl, HO.out, HB.out⟩

theorem Concat_any (mv : Value) (ls : List (List UInt8)) (w : World) (hm : Rows w mv ls) (hl : ls.flatten.length ≤ 10000000) :
    Calls Try.prog 26 #[mv] w fun e w' => ∃ v, e = .returned v ∧ Own8 w' w.heap.size v ls.flatten ∧ Below w.heap.size w w' := by
  obtain ⟨mb, mo, mc, rfl, hm1, hm2, hm3⟩ := hm
  have HM := Lib.hid hm3
  have hlm : ls.length ≤ 9223372036854775807 := by unfold maxLen at hm2; omega
  have hmc : ls.length ≤ mc := hm1
  obtain ⟨n, HN⟩ : ∃ n, Hid (n = ls.length) := ⟨_, Lib.hid rfl⟩
  have HL := Lib.hid hl
  rw [← HN.out] at hlm hmc ⊢
  clear hm1 hm2 hm3 hl
  go_enter Try.func26, Try.ntmps26
  go_upto_region 3 with (fail)
  go_loop [3, 11] (fun s i => ∃ j L : Nat, j ≤ n ∧ i = .int .i64 j ∧ s = .int .i64 L ∧ L ≤ 10000000 ∧ Hid (L = (ls.take j).flatten.length)) (fun _ i => n - (intOf i).toNat)
  case atStart => exact ⟨0, 0, by omega, rfl, rfl, by omega, Lib.hid (by simp)⟩
  case round =>
    obtain ⟨j, L, hj, rfl, rfl, hL, HJ⟩ := hrel
    by_cases hlt : j < n
    · obtain ⟨u, k1, k2⟩ := HM.out j (by rw [← HN.out]; exact hlt)
      have HT := take_snocL ls j (by rw [← HN.out]; exact hlt)
      have HTL := take_flat_le ls (j + 1)
      obtain ⟨ua, uc, rfl⟩ := Sl.shape k2
      obtain ⟨m, Hm⟩ : ∃ m, Hid (m = (ls.getD j []).length) := ⟨_, Lib.hid rfl⟩
      rw [← Hm.out] at k1
      have HJ' : Hid (L + m = (ls.take (j + 1)).flatten.length) := Lib.hid (by rw [HT, List.length_append, ← HJ.out, ← Hm.out])
      have hb : L + m ≤ 10000000 := by rw [HJ'.out]; have := HL.out; omega
      have hlt' : (j : Int) < n := by omega
      have hnn : ¬ ((L : Int) + m < 0) := by omega
      clear k2 HT HTL
      go_wp2_with fail
      go_round
      case rel => exact ⟨j + 1, L + m, by omega, by go_num, by go_num, by omega, HJ'⟩
      case measure => simp [intOf]; omega
    · obtain rfl : j = n := by omega
      rw [List.take_of_length_le (by rw [HN.out]; exact Nat.le_refl _)] at HJ
      have HG := Lib.hid (Grow_any L w (by omega))
      go_upto_region 11 with (go_at_call 43; refine HG.out.mono ?_; rintro e w1 ⟨v1, rfl, o1, b1⟩; have HO1 := Lib.hid o1; have HB1 := Lib.hid b1; clear o1 b1)
      go_loopw [6, 27] (fun v i wr => ∃ k : Nat, k ≤ j ∧ i = .int .i64 k ∧ Hid (Own8 wr w.heap.size v (ls.take k).flatten) ∧ Hid (Below w.heap.size w wr)) (fun _ i _ => j - (intOf i).toNat)
      case atStart => exact ⟨0, by omega, rfl, Lib.hid (by simpa using HO1.out), HB1⟩
      case round =>
        obtain ⟨k, hk, rfl, HOk, HBk⟩ := hrel
        by_cases hlt2 : k < j
        · obtain ⟨u, k1, k2⟩ := HM.out k (by rw [← HN.out]; exact hlt2)
          have HT := Lib.hid (take_snocL ls k (by rw [← HN.out]; exact hlt2))
          have HTL := Lib.hid (take_flat_le ls (k + 1))
          have HUS := Lib.hid (k2.later HBk.out)
          have k3 : wr.cell? ⟨mb, mo + k, none⟩ = some u := by rw [HBk.out.cell (World.block_lt_of_cell? _ _ k1)]; exact k1
          obtain ⟨ua, uc, rfl⟩ := Sl.shape k2
          obtain ⟨sa, sc, hsv⟩ := HOk.out.shape
          subst hsv
          have hlt2' : (k : Int) < j := by omega
          have HLL : Hid ((ls.take k).flatten.length + (ls.getD k []).length ≤ 1000000000) := Lib.hid (by have h1 := HTL.out; rw [HT.out, List.length_append] at h1; have := HL.out; omega)
          clear k1 k2
          go_wp2_with (at_builtin; refine wpList_append8 rfl _ _ rfl w.heap.size _ (ls.take k).flatten rfl HOk.out _ (ls.getD k []) rfl HUS.out HLL.out HBk.out.size ?_; intro v3 w3 hv3 hg3 hor3)
          have HB3 := Lib.hid (HBk.out.trans ((HOk.out.below hg3 HBk.out.size)))
          have HO3 : Hid (Own8 w3 w.heap.size v3 (ls.take (k + 1)).flatten) := Lib.hid (by rw [HT.out]; exact hv3)
          clear hv3 hg3 hor3
          go_roundw
          case rel => exact ⟨k + 1, by omega, by go_num, HO3, HB3⟩
          case measure => simp [intOf]; omega
        · obtain rfl : k = j := by omega
          rw [List.take_of_length_le (by rw [HN.out]; exact Nat.le_refl _)] at HOk
          go_wp2_with fail
          go_ret
          exact ⟨_, rfl, HOk.out, HBk.out⟩
end Go.Proofs.Ytcnelahmbfggcaa

/- A tree's cells; the walks of lms's four, typed, may, key. -/
namespace Go.Proofs.Ytcnelahmbfggcaa
open Go Go.RowKit
set_option maxRecDepth 100000
set_option maxHeartbeats 2000000

def TreeV (I S : List UInt8) (k h : Int) : List Value := B8 I ++ (B8 S ++ [.int .i64 k, .int .i64 h])
theorem TreeV_length (I S : List UInt8) (k h : Int) (hI : I.length = 16) (hS : S.length = 32) : (TreeV I S k h).length = 50 := by simp [TreeV, B8_length, hI, hS]
section
variable {t : TypeId} {w : World} {b : Nat} {I S : List UInt8} {k h : Int}
theorem tree_ranges (hr : w.heap[b]? = some (.cells (TreeV I S k h).toArray t (0, 0))) (hI : I.length = 16) : w.rangeAt b 0 (B8 I) ∧ w.rangeAt b 16 (B8 S) := by
  constructor
  · intro j v hj
    have hl := (List.getElem?_eq_some_iff.1 hj).1
    rw [cell_of_row w b (0 + j) _ t (0, 0) hr, Nat.zero_add, List.getElem?_toArray, TreeV, List.getElem?_append_left hl]
    exact hj
  · intro j v hj
    have hl := (List.getElem?_eq_some_iff.1 hj).1
    rw [cell_of_row w b (16 + j) _ t (0, 0) hr, List.getElem?_toArray, TreeV, List.getElem?_append_right (by rw [B8_length]; omega), B8_length, hI, show 16 + j - 16 = j by omega, List.getElem?_append_left hl]
    exact hj
theorem tree_W (hr : w.heap[b]? = some (.cells (TreeV I S k h).toArray t (0, 0))) (hI : I.length = 16) (hS : S.length = 32) : w.cell? ⟨b, 48, none⟩ = some (.int .i64 k) := by
  rw [cell_of_row w b 48 _ t (0, 0) hr, List.getElem?_toArray, TreeV, List.getElem?_append_right (by rw [B8_length]; omega), B8_length, hI, List.getElem?_append_right (by rw [B8_length]; omega), B8_length, hS]
  rfl
theorem tree_H (hr : w.heap[b]? = some (.cells (TreeV I S k h).toArray t (0, 0))) (hI : I.length = 16) (hS : S.length = 32) : w.cell? ⟨b, 49, none⟩ = some (.int .i64 h) := by
  rw [cell_of_row w b 49 _ t (0, 0) hr, List.getElem?_toArray, TreeV, List.getElem?_append_right (by rw [B8_length]; omega), B8_length, hI, List.getElem?_append_right (by rw [B8_length]; omega), B8_length, hS]
  rfl
theorem tree_I (hr : w.heap[b]? = some (.cells (TreeV I S k h).toArray t (0, 0))) (hI : I.length = 16) : Sl w (.slice (some ⟨b, 0, none⟩) 16 16) I :=
  Sl.ofBlock hr hI.symm (Nat.le_refl _) (by simp [maxLen]) fun i hi => by
    rw [Nat.zero_add, List.getElem?_toArray, TreeV, List.getElem?_append_left (by rw [B8_length]; exact hi)]
end
theorem TreeV_one (I S : List UInt8) (k h : Int) : (TreeV I S k h).toArray.all (·.oneCell') = true := by
  refine Array.all_eq_true_iff_forall_mem.2 fun v hv => ?_
  rw [List.mem_toArray, TreeV] at hv
  rcases List.mem_append.1 hv with h | h
  · exact B8_one _ v h
  · rcases List.mem_append.1 h with h | h
    · exact B8_one _ v h
    · simp at h
      rcases h with rfl | rfl <;> rfl
theorem info_tree : (Try.prog.info? 25).map (·.size) = some 50 := by kernel_rfl
theorem four_lms (q : Nat) (w : World) (hq : q < 4294967296) : Calls Try.prog 27 #[.int .i64 q] w fun e w' => ∃ a, e = .returned (.slice a 4 4) ∧ Sl w' (.slice a 4 4) (fourN q) ∧ Below w.heap.size w w' := by
  obtain ⟨a, ha⟩ : ∃ a, a = q / 16777216 := ⟨_, rfl⟩
  obtain ⟨b, hb⟩ : ∃ b, b = q / 65536 % 256 := ⟨_, rfl⟩
  obtain ⟨c, hc⟩ : ∃ c, c = q / 256 % 256 := ⟨_, rfl⟩
  obtain ⟨d, hd⟩ : ∃ d, d = q % 256 := ⟨_, rfl⟩
  have HF : Hid (#[Value.int .u8 a, .int .u8 b, .int .u8 c, .int .u8 d] = (B8 (fourN q)).toArray) := Lib.hid (by
    have h1 : q / 16777216 % 256 = q / 16777216 := by omega
    simp [fourN, B8, bn, ha, hb, hc, hd, h1])
  have ha' : (q : Int) / 16777216 = a := by omega
  have hb' : (q : Int) / 65536 % 256 = b := by omega
  have hc' : (q : Int) / 256 % 256 = c := by omega
  have hd' : (q : Int) % 256 = d := by omega
  have HS : Hid (Sl (w.alloc (.cells #[.int .u8 a, .int .u8 b, .int .u8 c, .int .u8 d] 5)) (.slice (some ⟨w.heap.size, 0, none⟩) 4 4) (fourN q)) := Lib.hid (Sl.made w (fourN q) _ _ _ _ HF.out rfl (by decide) rfl)
  clear ha hb hc hd
  go_enter Try.func27, Try.ntmps27
  go_wp2_with fail
  go_ret
  exact ⟨_, rfl, HS.out, (Below.refl _ _).alloc (Nat.le_refl _) _⟩
def typedN (h : Int) : Int := if h = 5 then 5 else 100 + h
theorem typed_any (h : Int) (w : World) (hh : 0 ≤ h ∧ h ≤ 1000) : Calls Try.prog 28 #[.int .i64 h] w fun e w' => e = .returned (.int .i64 (typedN h)) ∧ w' = w := by
  obtain ⟨h1, h2⟩ := hh
  by_cases h5 : h = 5
  · subst h5
    go_enter Try.func28, Try.ntmps28
    go_wp2_with fail
    go_ret
    exact ⟨rfl, rfl⟩
  · have HT : Hid (typedN h = 100 + h) := Lib.hid (by rw [typedN, if_neg h5])
    rw [HT.out]
    have g5 : (h == 5) = false := beq_eq_false_iff_ne.2 h5
    go_enter Try.func28, Try.ntmps28
    go_wp2_with fail
    go_ret
    exact ⟨rfl, rfl⟩
def mayT (k h : Int) : Bool := isW k && decide (1 ≤ h ∧ h ≤ 5)
theorem may_any (I S : List UInt8) (k h : Int) (w : World) (hI : I.length = 16) (hS : S.length = 32) (hk : -9223372036854775808 ≤ k ∧ k ≤ 9223372036854775807) :
    Calls Try.prog 23 #[.agg (TreeV I S k h).toArray] w fun e w' => e = .returned (.bool (mayT k h)) ∧ Below w.heap.size w w' := by
  obtain ⟨V, HV, HB, HR⟩ : ∃ V, Hid (V = w.alloc (.cells (TreeV I S k h).toArray 25)) ∧ Hid (Below w.heap.size w V) ∧ Hid (V.heap[w.heap.size]? = some (.cells (TreeV I S k h).toArray 25 (0, 0))) := ⟨_, Lib.hid rfl, Lib.hid ((Below.refl _ _).alloc (Nat.le_refl _) _), Lib.hid (heap_alloc_new _ _)⟩
  have HT := Lib.hid (Type_any k V (wf_i64 hk))
  have hw := tree_W HR.out hI hS
  have HHI := Lib.hid hI
  have HHS := Lib.hid hS
  obtain ⟨R, Hr⟩ : ∃ R, Hid (R = mayT k h) := ⟨_, Lib.hid rfl⟩
  have HRR : Hid (R = (isW k && decide (1 ≤ h ∧ h ≤ 5))) := Lib.hid Hr.out
  rw [← Hr.out]
  clear Hr hI hS hk
  by_cases hkk : isW k = true
  · rw [hkk, Bool.true_and] at HRR
    have he : errW k = 0 := by rw [errW, if_pos hkk]
    rw [he] at HT
    clear he hkk
    go_enter Try.func23, Try.ntmps23
    go_upto_region 1 with (fail)
    rw [← HV.out]
    go_upto_region 2 with (go_at_call 30; refine HT.out.mono ?_; rintro e w1 ⟨rfl, b1⟩; have HB1 := Lib.hid b1; have HR1 := Lib.hid ((b1.block _ (Array.getElem?_eq_some_iff.1 HR.out).1).trans HR.out); have hh := tree_H HR1.out HHI.out HHS.out; clear b1)
    have HB2 := Lib.hid (HB.out.trans (HB1.out.mono HB.out.size))
    go_wp2_with fail
    all_goals (go_ret; refine ⟨?_, HB2.out⟩; rw [HRR.out]; simp_all <;> omega)
  · have hkf : isW k = false := by simpa using hkk
    have he : errW k = 1 := by rw [errW, if_neg hkk]
    rw [hkf, Bool.false_and] at HRR
    rw [he] at HT
    have HF := HRR.out
    subst HF
    clear he hkk hkf
    go_enter Try.func23, Try.ntmps23
    go_upto_region 1 with (fail)
    rw [← HV.out]
    go_wp2_with (go_at_call 30; refine HT.out.mono ?_; rintro e w1 ⟨rfl, b1⟩; have HB1 := Lib.hid b1; clear b1)
    go_ret
    exact ⟨rfl, HB.out.trans (HB1.out.mono HB.out.size)⟩
theorem key_all (I S : List UInt8) (q : Nat) (d : Int) (hI : I.length = 16) (hS : S.length = 32) :
    Try.prog.built 63 [(0, .agg (B8 I).toArray), (1, .int .u32 q), (2, .agg (B8 S).toArray), (3, .int .i64 d)] = some (KeyV I S q d).toArray := by
  rw [built_key, KeyV_I _ _ _ _ _ hI rfl, KeyV_q _ _ _ _ _ hI, KeyV_S _ _ _ _ _ hI hS rfl, KeyV_d _ _ _ _ _ hI hS]
  rfl
theorem key_any (I S : List UInt8) (k h : Int) (q : Nat) (w : World) (hI : I.length = 16) (hS : S.length = 32) (hq : q < 4294967296) :
    Calls Try.prog 25 #[.agg (TreeV I S k h).toArray, .int .i64 q] w fun e w' => e = .returned (.agg (KeyV I S q k).toArray) ∧ Below w.heap.size w w' := by
  obtain ⟨W0, HW0, HB0, HS0, HR0⟩ : ∃ V, Hid (V = w.alloc (.cells (TreeV I S k h).toArray 25)) ∧ Hid (Below w.heap.size w V) ∧ Hid (V.heap.size = w.heap.size + 1) ∧ Hid (V.heap[w.heap.size]? = some (.cells (TreeV I S k h).toArray 25 (0, 0))) := ⟨_, Lib.hid rfl, Lib.hid ((Below.refl _ _).alloc (Nat.le_refl _) _), Lib.hid (by simp), Lib.hid (heap_alloc_new _ _)⟩
  obtain ⟨Z, HZ⟩ : ∃ Z, Hid (Z = (KeyV zero16 zero32 0 0).toArray) := ⟨_, Lib.hid rfl⟩
  obtain ⟨V, HV, HVB, HVS, HVR, HVZ⟩ : ∃ V, Hid (V = W0.alloc (.cells Z 63)) ∧ Hid (Below w.heap.size w V) ∧ Hid (V.heap.size = w.heap.size + 2) ∧ Hid (V.heap[w.heap.size]? = some (.cells (TreeV I S k h).toArray 25 (0, 0))) ∧ Hid (V.heap[w.heap.size + 1]? = some (.cells Z 63 (0, 0))) :=
    ⟨_, Lib.hid rfl, Lib.hid (HB0.out.alloc HB0.out.size _), Lib.hid (by simp [HS0.out]), Lib.hid ((heap_alloc_old _ _ (by rw [HS0.out]; omega)).trans HR0.out), Lib.hid (by rw [← HS0.out]; exact heap_alloc_new _ _)⟩
  obtain ⟨r1, r2⟩ := tree_ranges HVR.out hI
  have R1 := Lib.hid r1
  have R2 := Lib.hid r2
  have hkw := tree_W HVR.out hI hS
  have I16 : Hid ((Try.prog.info? 22).map (·.size) = some (B8 I).length) := Lib.hid (by rw [info_16, B8_length, hI])
  have I32 : Hid ((Try.prog.info? 23).map (·.size) = some (B8 S).length) := Lib.hid (by rw [info_32, B8_length, hS])
  have HBL := Lib.hid (key_all I S q k hI hS)
  have IK : Hid ((Try.prog.info? 63).map (·.size) = some (KeyV I S q k).toArray.size) := Lib.hid (by rw [info_key, List.size_toArray, KeyV_length _ _ _ _ hI hS])
  have HZL : Hid (Z.size = (KeyV I S q k).toArray.size) := Lib.hid (by rw [HZ.out, List.size_toArray, List.size_toArray, KeyV_length _ _ _ _ hI hS]; rfl)
  have HKO := Lib.hid (KeyV_one I S q k)
  have hq' : (q : Int) % 4294967296 = q := by omega
  clear hI hS r1 r2
  go_enter Try.func25, Try.ntmps25
  go_upto_region 1 with (fail)
  rw [← HW0.out]
  change Code.wp _ _ _ _ (W0.alloc (.cells (KeyV zero16 zero32 0 0).toArray 63))
  rw [← HZ.out, ← HV.out]
  go_wp2_with (first
    | (refine wpList_load_mid rfl 22 _ rfl w.heap.size 0 (by rfl) (B8 I) _ R1.out Try.underlying22 rfl I16.out ?_)
    | (refine wpList_load_mid rfl 23 _ rfl w.heap.size 16 (by rfl) (B8 S) _ R2.out Try.underlying23 rfl I32.out ?_)
    | (refine wpList_built rfl 63 [_, _, _, _] rfl _ rfl _ HBL.out ?_)
    | (refine wpList_store_row rfl 63 _ _ rfl _ (KeyV I S q k).toArray rfl rfl 63 _ HVZ.out IK.out HZL.out HKO.out ?_))
  exact bodyPost_ret (results_cell_row rfl _ _ (w.heap.size + 1) 63 _ (0, 0) _ rfl (setRow_heap _ _ _ _ _ _ HVZ.out) Try.underlying63 rfl IK.out) rfl ⟨rfl, below_row HVB.out (by omega) _⟩
end Go.Proofs.Ytcnelahmbfggcaa

/- The walk of lms's hash. -/
namespace Go.Proofs.Ytcnelahmbfggcaa
open Go Go.RowKit
set_option maxRecDepth 100000
set_option maxHeartbeats 2000000
attribute [local irreducible] Wild.walk

namespace Wild
def Ent.own (B : Nat) (l : List UInt8) : Ent := ⟨fun v => ∃ a c, v = .slice a l.length c, .slice none l.length 0, fun v w => Own8 w B v l, fun _ _ _ h hb => h.later hb, ⟨none, 0, rfl⟩⟩
end Wild
theorem Rows.three {w : World} {u1 u2 u3 : Value} {l1 l2 l3 : List UInt8} (t : TypeId) (h1 : Sl w u1 l1) (h2 : Sl w u2 l2) (h3 : Sl w u3 l3) : Rows (w.alloc (.cells #[u1, u2, u3] t)) (.slice (some ⟨w.heap.size, 0, none⟩) 3 3) [l1, l2, l3] := by
  have hb : Below w.heap.size w (w.alloc (.cells #[u1, u2, u3] t)) := (Below.refl _ _).alloc (Nat.le_refl _) _
  refine ⟨w.heap.size, 0, 3, rfl, Nat.le_refl _, by simp [maxLen], fun i hi => ?_⟩
  match i, hi with
  | 0, _ => exact ⟨u1, by rw [cell_of_row _ _ _ _ _ (0, 0) (heap_alloc_new w _)]; rfl, h1.later hb⟩
  | 1, _ => exact ⟨u2, by rw [cell_of_row _ _ _ _ _ (0, 0) (heap_alloc_new w _)]; rfl, h2.later hb⟩
  | 2, _ => exact ⟨u3, by rw [cell_of_row _ _ _ _ _ (0, 0) (heap_alloc_new w _)]; rfl, h3.later hb⟩
theorem lhash_any (I S : List UInt8) (k h : Int) (r two : Nat) (mv : Value) (ls : List (List UInt8)) (w : World) (hI : I.length = 16) (hr : r < 4294967296) (h2 : two < 65536) (hm : Rows w mv ls) (hl : ls.flatten.length ≤ 1000000) :
    Calls Try.prog 35 #[.agg (TreeV I S k h).toArray, .int .i64 r, .int .i64 two, mv] w fun e w' => e = .returned (.agg (B8 (hashN I r two ls)).toArray) ∧ Below w.heap.size w w' := by
  obtain ⟨W0, HW0, HB0, HS0, HR0⟩ : ∃ V, Hid (V = w.alloc (.cells (TreeV I S k h).toArray 25)) ∧ Hid (Below w.heap.size w V) ∧ Hid (V.heap.size = w.heap.size + 1) ∧ Hid (V.heap[w.heap.size]? = some (.cells (TreeV I S k h).toArray 25 (0, 0))) := ⟨_, Lib.hid rfl, Lib.hid ((Below.refl _ _).alloc (Nat.le_refl _) _), Lib.hid (by simp), Lib.hid (heap_alloc_new _ _)⟩
  obtain ⟨V, HV, HVB, HVS, HVR⟩ : ∃ V, Hid (V = W0.alloc (.cells (Array.replicate 32 (.int .u8 0)) 23)) ∧ Hid (Below w.heap.size w V) ∧ Hid (V.heap.size = w.heap.size + 2) ∧ Hid (V.heap[w.heap.size]? = some (.cells (TreeV I S k h).toArray 25 (0, 0))) :=
    ⟨_, Lib.hid rfl, Lib.hid (HB0.out.alloc HB0.out.size _), Lib.hid (by simp [HS0.out]), Lib.hid ((heap_alloc_old _ _ (by rw [HS0.out]; omega)).trans HR0.out)⟩
  have HFO := Lib.hid (fun w' => four_lms r w' hr)
  have HCO := Lib.hid (fun mv ls w' h hl => Concat_any mv ls w' h hl)
  obtain ⟨R, HR⟩ : ∃ R, Hid (R = hashN I r two ls) := ⟨_, Lib.hid rfl⟩
  have HRL : Hid (R.length = 32) := Lib.hid (by rw [HR.out]; exact sha_length _)
  rw [← HR.out]
  obtain ⟨H, HH⟩ : ∃ H, Hid (H = [I, fourN r, twoN two].flatten) := ⟨_, Lib.hid rfl⟩
  have HHL : Hid (H.length = 22) := Lib.hid (by rw [HH.out]; simp [hI, fourN, twoN])
  have HRS : Hid (R = sha (H ++ ls.flatten)) := Lib.hid (by rw [HR.out, HH.out, hashN]; simp)
  have HI := Lib.hid hI
  have HM := Lib.hid (hm.later HVB.out)
  have HL := Lib.hid hl
  obtain ⟨t1, ht1⟩ : ∃ t1, t1 = two / 256 := ⟨_, rfl⟩
  obtain ⟨t0, ht0⟩ : ∃ t0, t0 = two % 256 := ⟨_, rfl⟩
  have HF : Hid (#[Value.int .u8 t1, .int .u8 t0] = (B8 (twoN two)).toArray) := Lib.hid (by
    have h1 : two / 256 % 256 = two / 256 := by omega
    simp [twoN, B8, bn, ht1, ht0, h1])
  have ht1' : (two : Int) / 256 = t1 := by omega
  have ht0' : (two : Int) % 256 = t0 := by omega
  have ht1b : t1 < 256 := by omega
  have ht2' : (t1 : Int) % 256 = t1 := by omega
  obtain ⟨mb, mo, mc, rfl, -⟩ := hm
  clear hI hl ht1 ht0
  go_enter Try.func35, Try.ntmps35
  go_upto_region 1 with (fail)
  rw [← HW0.out]
  change Code.wp _ _ _ _ (W0.alloc (.cells (Array.replicate 32 (.int .u8 0)) 23))
  rw [← HV.out]
  refine Wild.region_b (fun k => match k with | 3 => some (.shut (fourN r)) | 9 => some (.shut (twoN two)) | 10 => some (.rows [I, fourN r, twoN two]) | 11 => some (.own V.heap.size H) | _ => none) (fun k => match k with | 10 => [3, 9] | 11 => [10] | _ => []) rfl (by kernel_rfl) (fun vs hvs => ?_)
  obtain ⟨a3, h3⟩ := hvs 3 _ rfl
  obtain ⟨a9, h9⟩ := hvs 9 _ rfl
  obtain ⟨a11, c11, h11⟩ := hvs 11 _ rfl
  repeat (refine Wild.walk_simple rfl (by rfl) (by rfl) (fun K hK => ?_); go_big_quiet_op; first | (refine hK _ ?_; clear hK K) | (refine ⟨_, fun _ _ => rfl, hK _ ?_⟩; clear hK K))
  refine Wild.walk_wild _ rfl (by rfl) (fun w' hw K hK => ?_) ?_
  · go_simp
    go_at_call 27
    refine (HFO.out w').mono ?_
    rintro e w'' ⟨a, rfl, s, hb⟩
    exact hK.out _ _ (hw.1.trans (hb.mono hw.1.size)) hb ⟨a, rfl⟩ s
  rw [h3]
  simp only [Act.put, List.setIfInBounds_toArray, List.set_cons_zero, List.set_cons_succ]
  repeat (refine Wild.walk_simple rfl (by rfl) (by rfl) (fun K hK => ?_); go_big_quiet_op; first | (refine hK _ ?_; clear hK K) | (refine ⟨_, fun _ _ => rfl, hK _ ?_⟩; clear hK K))
  simp only [ht0']
  refine Wild.walk_wild _ rfl (by rfl) (fun w' hw K hK => ?_) ?_
  · go_simp
    exact hK.out (.slice (some ⟨w'.heap.size, 0, none⟩) 2 2) _ (hw.1.alloc hw.1.size _) ((Below.refl _ _).alloc (Nat.le_refl _) _) ⟨_, rfl⟩ (Sl.made w' (twoN two) _ _ _ _ HF.out rfl (by decide) rfl)
  rw [h9]
  simp only [Act.put, List.setIfInBounds_toArray, List.set_cons_zero, List.set_cons_succ]
  refine Wild.walk_wild _ rfl (by rfl) (fun w' hw K hK => ?_) ?_
  · have s3 : Sl w' (vs 3) (fourN r) := hw.2 3 (by simp [Wild.tab]) rfl
    have s9 : Sl w' (vs 9) (twoN two) := hw.2 9 (by simp [Wild.tab]) rfl
    rw [h3] at s3
    rw [h9] at s9
    have s0 : Sl w' (.slice (some ⟨w.heap.size, 0, none⟩) 16 16) I := tree_I ((hw.1.block _ (by rw [HVS.out]; omega)).trans HVR.out) HI.out
    go_simp
    exact hK.out (.slice (some ⟨w'.heap.size, 0, none⟩) 3 3) _ (hw.1.alloc hw.1.size _) ((Below.refl _ _).alloc (Nat.le_refl _) _) trivial (Rows.three _ s0 s3 s9)
  simp only [Act.put, List.setIfInBounds_toArray, List.set_cons_zero, List.set_cons_succ]
  refine Wild.walk_wild _ rfl (by rfl) (fun w' hw K hK => ?_) ?_
  · have s10 : Rows w' (vs 10) [I, fourN r, twoN two] := hw.2 10 (by simp [Wild.tab]) rfl
    go_simp
    go_at_call 26
    refine (HCO.out _ _ w' s10 (by rw [← HH.out, HHL.out]; decide)).mono ?_
    rintro e w'' ⟨v, rfl, o, hb⟩
    rw [← HH.out] at o
    obtain ⟨oa, oc, ov⟩ := o.shape
    exact hK.out _ _ (hw.1.trans (hb.mono hw.1.size)) hb ⟨oa, oc, ov⟩ (OwnC.down o hw.1.size)
  rw [h11]
  simp only [Act.put, List.setIfInBounds_toArray, List.set_cons_zero, List.set_cons_succ]
  repeat (refine Wild.walk_simple rfl (by rfl) (by rfl) (fun K hK => ?_); go_big_quiet_op; first | (refine hK _ ?_; clear hK K) | (refine ⟨_, fun _ _ => rfl, hK _ ?_⟩; clear hK K))
  refine Wild.walk_nil ?_
  intro w1 hw1 hf1
  have o1 : Own8 w1 V.heap.size (vs 11) H := hf1 11 rfl (by decide)
  rw [h11] at o1
  have HO1 := Lib.hid o1
  have HB1 : Hid (Below V.heap.size V w1) := Lib.hid hw1
  have HM1 := Lib.hid (HM.out.later HB1.out)
  generalize vs (0 + 1 + 1 + 1 + 1 + 1 + 1 + 1 + 1 + 1 + 1) = x10
  clear hw1 hf1 h3 h9 h11 o1 hvs HFO HF ht1' ht0' ht1b ht2'
  go_upto_region 2 with (fail)
  go_wp2_with (first
    | (go_at_call 26; refine (HCO.out _ ls w1 HM1.out (by have := HL.out; omega)).mono ?_; rintro e w2 ⟨v2, rfl, o2, b2⟩; have HS2 := Lib.hid o2.sl; have HB2 := Lib.hid (HB1.out.trans (b2.mono HB1.out.size)); have HO2 := Lib.hid (HO1.out.later b2); have HLL : Hid (H.length + ls.flatten.length ≤ 1000000000) := Lib.hid (by have h1 := HHL.out; have h2 := HL.out; omega); clear o2 b2)
    | (at_builtin; refine wpList_append8 rfl _ _ rfl V.heap.size _ H rfl HO2.out _ ls.flatten rfl HS2.out HLL.out HB2.out.size ?_; intro v3 w3 hv3 hg3 hor3; have HS3 := Lib.hid hv3.sl; have HB3 := Lib.hid (HB2.out.trans (HO2.out.below hg3 HB2.out.size)); clear hv3 hg3 hor3)
    | (go_at_call 51; refine (Sum_any v3 (H ++ ls.flatten) w3 HS3.out (by rw [List.length_append]; have h1 := HHL.out; have h2 := HL.out; omega)).mono ?_; rintro e w4 ⟨rfl, b4⟩; rw [← HRS.out]; have HB4 := Lib.hid (HB3.out.trans (b4.mono HB3.out.size)); have h5 := hash_store (w := W0) R HRL.out (by rw [← HV.out]; have := HB4.out; rwa [show V.heap.size = W0.heap.size + 1 by rw [HVS.out, HS0.out]] at this); rw [HS0.out] at h5; obtain ⟨h1, h2, h3, h4, h5, h6⟩ := h5; have K1 := Lib.hid h1; have K2 := Lib.hid h2; have K3 := Lib.hid h3; have K4 := Lib.hid h4; have K5 := Lib.hid (HB0.out.trans (h5.mono (by omega))); have K6 := Lib.hid h6; clear h1 h2 h3 h4 h5 h6 b4)
    | (refine wpList_store_row rfl 23 _ _ rfl _ (B8 R).toArray rfl rfl 23 _ K1.out K2.out K3.out K4.out ?_))
  exact bodyPost_ret (results_cell_row rfl _ _ (w.heap.size + 1) 23 _ (0, 0) _ rfl K6.out Try.underlying23 rfl K2.out) rfl ⟨rfl, K5.out⟩
end Go.Proofs.Ytcnelahmbfggcaa

/- The law for a region that draws its order, with allocations that are told to be unlike. Printed by wip/gen_wildf.py out of XWild and XTail. -/
namespace Go.Proofs.Ytcnelahmbfggcaa
open Go Go.RowKit
set_option maxRecDepth 100000
namespace WildF
open Wild (Ok ok_of okB waits dstOf looks lay Laid eval_same wanted_same wp_transfer filter_less left left_le listed_lt getD_set_iff unlisted waits_spec lay_laid simple simple_enter lastB peel full_last wp_never)
section
variable (P : Program) (ops : Array Oper) (C : World → Prop) (G : World → World → Prop)
/-- the operations whose values hang on the world: what their values are in any world, a value that is so, and what holds of the value in the world -/
structure Spec where
  pure : Nat → Option (Value → Prop)
  dflt : Nat → Value
  fact : Nat → (Nat → Value) → World → Prop
  use : Nat → List Nat
  fresh : Nat → Bool
variable (S : Spec)

/-- in every world of the class the operation yields v and leaves the world as it is -/
def Yields0 (o : Oper) (a : Act) (C' : World → Prop) (v : Value) : Prop :=
  ∀ w, C' w → (execOp a.eval o).run P w = .ok (.value v) w ∨ ((execOp a.eval o).run P w = .ok .skip w ∧ v = undef)
/-- the class at a step -/
def At (vs : Nat → Value) (k : Nat) (w : World) : Prop := C w ∧ ∀ m ∈ S.use k, (S.pure m).isSome = true → S.fact m vs w
/-- the step of an operation whose value hangs on the world -/
def Wilds (o : Oper) (a : Act) (vs : Nat → Value) (k : Nat) (p : Value → Prop) : Prop :=
  Region.wanted o (yielded ops a.tmps) = true ∧ ∀ w, At C S vs k w → o.wp P a w (fun a' w' => ∃ v, a' = a.put o.dst v ∧ C w' ∧ G w w' ∧ p v ∧ S.fact k (fun m => if m = k then v else vs m) w' ∧ (S.fresh k = true → ∃ b : Nat, v = .pointer (some ⟨b, 0, none⟩) ∧ w.heap.size ≤ b)) (fun _ _ _ => False)

/-- the walk in the text's order -/
def walk (vs : Nat → Value) (Q : Act → Prop) : List Oper → Nat → Act → Prop
  | [], _, a => Q a
  | o :: rest, k, a =>
    match S.pure k with
    | some p => Wilds P ops C G S o a vs k p ∧ walk vs Q rest (k + 1) (a.put o.dst (vs k))
    | none => if Region.wanted o (yielded ops a.tmps) = true then ∃ v, Yields0 P o a (At C S vs k) v ∧ walk vs Q rest (k + 1) (a.put o.dst v) else walk vs Q rest (k + 1) (a.put o.dst undef)

/-- one step of it, with its value told -/
def Step (vs : Nat → Value) (o : Oper) (k : Nat) (a : Act) (v : Value) : Prop :=
  match S.pure k with
  | some p => Wilds P ops C G S o a vs k p ∧ v = vs k
  | none => (Region.wanted o (yielded ops a.tmps) = true ∧ Yields0 P o a (At C S vs k) v) ∨ (Region.wanted o (yielded ops a.tmps) = false ∧ v = undef)

theorem walk_steps (vs : Nat → Value) (Q : Act → Prop) (a0 : Act) : ∀ (l : List Oper) (k : Nat) (u : Nat → Value), (∀ j, l[j]? = ops[k + j]?) → walk P ops C G S vs Q l k (lay ops u a0 k) →
    ∃ u' : Nat → Value, (∀ j, j < k → u' j = u j) ∧ (∀ j, k ≤ j → ∀ o, ops[j]? = some o → Step P ops C G S vs o j (lay ops u' a0 j) (u' j)) ∧ Q (lay ops u' a0 (k + l.length))
  | [], k, u, hl, h => ⟨u, fun _ _ => rfl, fun j hj o ho => by
      have := hl (j - k); rw [show k + (j - k) = j by omega, ho] at this; simp at this, by rw [List.length_nil, Nat.add_zero]; exact h⟩
  | o :: rest, k, u, hl, h => by
    have h0 : ops[k]? = some o := by simpa using (hl 0).symm
    have hd : dstOf ops k = o.dst := by simp [dstOf, h0]
    have hrest : ∀ j, rest[j]? = ops[k + 1 + j]? := fun j => by have := hl (j + 1); simpa [Nat.add_assoc, Nat.add_comm 1 j] using this
    obtain ⟨v, hv, hw⟩ : ∃ v, Step P ops C G S vs o k (lay ops u a0 k) v ∧ walk P ops C G S vs Q rest (k + 1) ((lay ops u a0 k).put o.dst v) := by
      unfold walk at h
      unfold Step
      cases hp : S.pure k with
      | some p => simp only [hp] at h ⊢; exact ⟨_, ⟨h.1, rfl⟩, h.2⟩
      | none =>
        simp only [hp] at h ⊢
        by_cases hw : Region.wanted o (yielded ops (lay ops u a0 k).tmps) = true
        · rw [if_pos hw] at h; obtain ⟨v, h1, h2⟩ := h; exact ⟨v, .inl ⟨hw, h1⟩, h2⟩
        · rw [if_neg hw] at h; exact ⟨undef, .inr ⟨by simpa using hw, rfl⟩, h⟩
    have agree : ∀ (u1 u2 : Nat → Value) n, (∀ j, j < n → u1 j = u2 j) → lay ops u1 a0 n = lay ops u2 a0 n := by
      intro u1 u2 n
      induction n with
      | zero => intro _; rfl
      | succ n ih => intro hh; simp only [lay]; rw [ih fun j hj => hh j (by omega), hh n (by omega)]
    let u1 : Nat → Value := fun j => if j = k then v else u j
    have e1 : lay ops u1 a0 k = lay ops u a0 k := agree _ _ _ fun j hj => by simp only [u1]; rw [if_neg (by omega)]
    have e2 : lay ops u1 a0 (k + 1) = (lay ops u a0 k).put o.dst v := by simp only [lay]; rw [e1, hd]; simp [u1]
    obtain ⟨u', h1, h2, h3⟩ := walk_steps vs Q a0 rest (k + 1) u1 hrest (by rw [e2]; exact hw)
    have e3 : lay ops u' a0 k = lay ops u a0 k := agree _ _ _ fun j hj => by rw [h1 j (by omega)]; simp only [u1]; rw [if_neg (by omega)]
    refine ⟨u', fun j hj => by rw [h1 j (by omega)]; simp only [u1]; rw [if_neg (by omega)], fun j hj o' ho' => ?_, by rw [List.length_cons, show k + (rest.length + 1) = k + 1 + rest.length by omega]; exact h3⟩
    by_cases hjk : j = k
    · subst hjk
      rw [h0] at ho'
      cases ho'
      rw [e3, h1 j (by omega)]
      simpa [u1] using hv
    · exact h2 j (by omega) o' ho'
end

section
variable {P : Program} {ops : Array Oper} {C : World → Prop} {G : World → World → Prop} {S : Spec} {a0 : Act}

structure Inv (P : Program) (ops : Array Oper) (C : World → Prop) (G : World → World → Prop) (S : Spec) (a0 : Act) (listed : Array Bool) (u : Nat → Value) (a : Act) (w : World) : Prop where
  c : C w
  size : listed.size = ops.size
  closed : ∀ k m, listed.getD k false = true → waits ops k m = true → listed.getD m false = true
  uses : ∀ k, listed.getD k false = true → ∀ m ∈ S.use k, listed.getD m false = true
  fact : ∀ k p, listed.getD k false = true → S.pure k = some p → p (u k) ∧ S.fact k u w
  lex : ∀ vs u' : Nat → Value, (∀ k p, S.pure k = some p → p (vs k)) → (∀ k, listed.getD k false = true → (S.pure k).isSome = true → vs k = u k) →
    (∀ j o, ops[j]? = some o → Step P ops C G S vs o j (lay ops u' a0 j) (u' j)) → ∀ k, listed.getD k false = true → u' k = u k
  laid : Laid ops a0 (fun k => listed.getD k false = true) u a
  fresh : ∀ k m, listed.getD k false = true → listed.getD m false = true → S.fresh k = true → S.fresh m = true → k ≠ m → u k ≠ u m

variable (hok : Ok ops S.use) (hG : ∀ k vs w w', S.fact k vs w → G w w' → S.fact k vs w')
  (hloc : ∀ k (vs vs' : Nat → Value) w, vs k = vs' k → (∀ m ∈ S.use k, (S.pure m).isSome = true → vs m = vs' m) → S.fact k vs w → S.fact k vs' w)
  (hd : ∀ k p, S.pure k = some p → p (S.dflt k)) (hfr : ∀ m, S.fresh m = true → (S.pure m).isSome = true ∧ ∀ vs w, S.fact m vs w → ∃ b : Nat, vs m = .pointer (some ⟨b, 0, none⟩) ∧ b < w.heap.size)
include hok hG hloc hd hfr

omit hG hd hfr in
/-- what the text's walk says of the operation that comes up, in the frame and the world at hand -/
theorem Inv.here {listed : Array Bool} {u : Nat → Value} {a : Act} {w : World} {j : Nat} {o : Oper} (inv : Inv P ops C G S a0 listed u a w) (ho : ops[j]? = some o) (hun : ¬ listed.getD j false = true) (hall : ∀ m, waits ops j m = true → listed.getD m false = true)
    {vs u' : Nat → Value} (hvs : ∀ k p, S.pure k = some p → p (vs k)) (hag : ∀ k, listed.getD k false = true → (S.pure k).isSome = true → vs k = u k)
    (hst : ∀ j o, ops[j]? = some o → Step P ops C G S vs o j (lay ops u' a0 j) (u' j)) :
    (∀ t ∈ o.looksAt ops, a.tmps[t]? = (lay ops u' a0 j).tmps[t]?) ∧ At C S vs j w ∧ (∀ m ∈ S.use j, listed.getD m false = true) := by
  have hj : j < ops.size := (Array.getElem?_eq_some_iff.1 ho).1
  have hlk : looks ops j = o.looksAt ops := by simp [looks, ho]
  have huse : ∀ m ∈ S.use j, listed.getD m false = true := fun m hm => by
    rcases hok.reach j hj m hm with h | ⟨e, _, he, hme⟩
    · exact hall m h
    · exact inv.uses e (hall e he) m hme
  refine ⟨fun t ht => ?_, ⟨inv.c, fun m hm hp => ?_⟩, huse⟩
  · refine inv.laid.same hok (lay_laid hok u' a0 j (by omega)) hj (fun m hm => listed_lt inv.size hm) (fun m hm => by omega) (fun m hm hw => ⟨hall m hw, hm, (inv.lex vs u' hvs hag hst m (hall m hw)).symm⟩) (fun m hm hw => ⟨fun hl => hun (inv.closed m j hl hw), by omega⟩) ⟨hun, by omega⟩ t (by rw [hlk]; exact ht)
  · obtain ⟨p, hp'⟩ := Option.isSome_iff_exists.1 hp
    exact hloc m u vs w (hag m (huse m hm) hp).symm (fun m' hm' hp'' => (hag m' (inv.uses m (huse m hm) m' hm') hp'').symm) (inv.fact m p (huse m hm) hp').2

theorem any_of_inv {Q : Exit → Act → World → Prop}
    (H : ∀ vs : Nat → Value, (∀ k p, S.pure k = some p → p (vs k)) → ∃ u' : Nat → Value, (∀ j o, ops[j]? = some o → Step P ops C G S vs o j (lay ops u' a0 j) (u' j)) ∧
      ∀ w, C w → (∀ m, (S.pure m).isSome = true → m < ops.size → S.fact m vs w) → (∀ k m, S.fresh k = true → S.fresh m = true → k ≠ m → k < ops.size → m < ops.size → vs k ≠ vs m) → Q .normal (lay ops u' a0 ops.size) w) :
    ∀ (fuel : Nat) (listed : Array Bool) (u : Nat → Value) (a : Act) (w : World), left ops.size listed ≤ fuel → Inv P ops C G S a0 listed u a w → wpAny P .any ops Q fuel listed a w := by
  have fin : ∀ (listed : Array Bool) (u : Nat → Value) (a : Act) (w : World), Inv P ops C G S a0 listed u a w → Region.ready .any ops listed = [] → Q .normal a w := by
    intro listed u a w inv hr
    have hall : ∀ k, k < ops.size → listed.getD k false = true := by
      intro k
      induction k using Nat.strongRecOn with
      | _ k ih =>
        intro hk
        by_cases hl : listed.getD k false = true
        · exact hl
        · have : k ∈ Region.ready .any ops listed := mem_ready.2 ⟨(unlisted (by rw [inv.size]; exact hk)).2 hl, ops[k], by simp [hk], fun e he hb => by
            have hlt := hok.back k ops[k] (by simp [hk]) e he hb
            exact ih e.on hlt (by omega)⟩
          rw [hr] at this
          cases this
    let vs : Nat → Value := fun k => if listed.getD k false = true then u k else S.dflt k
    have hvs : ∀ k p, S.pure k = some p → p (vs k) := fun k p hp => by
      simp only [vs]
      split
      · rename_i hl; exact (inv.fact k p hl hp).1
      · exact hd k p hp
    have hag : ∀ k, listed.getD k false = true → (S.pure k).isSome = true → vs k = u k := fun k hl _ => by simp only [vs]; rw [if_pos hl]
    obtain ⟨u', hst, hQ⟩ := H vs hvs
    have hu := inv.lex vs u' hvs hag hst
    have := inv.laid.eq (lay_laid hok u' a0 ops.size (Nat.le_refl _)) (fun m => ⟨fun h => listed_lt inv.size h, hall m⟩) (fun m hm => (hu m hm).symm)
    rw [this]
    refine hQ w inv.c (fun m hp hm => ?_) (fun k m hk hm hne hkl hml => by
      rw [hag k (hall k hkl) (hfr k hk).1, hag m (hall m hml) (hfr m hm).1]
      exact inv.fresh k m (hall k hkl) (hall m hml) hk hm hne)
    obtain ⟨p, hp'⟩ := Option.isSome_iff_exists.1 hp
    exact hloc m u vs w (hag m (hall m hm) hp).symm (fun m' hm' hp'' => (hag m' (hall m' (by have := hok.lt m hm m' hm'; omega)) hp'').symm) (inv.fact m p (hall m hm) hp').2
  have main : ∀ (fuel : Nat) (listed : Array Bool) (u : Nat → Value) (a : Act) (w : World), Inv P ops C G S a0 listed u a w →
      (∀ (j : Nat) (u2 : Nat → Value) (a2 : Act) (w2 : World), j < ops.size → ¬ listed.getD j false = true → Inv P ops C G S a0 (listed.setIfInBounds j true) u2 a2 w2 → wpAny P .any ops Q fuel (listed.setIfInBounds j true) a2 w2) →
      ∀ j ∈ Region.ready .any ops listed, wpOp P ops Q j (wpAny P .any ops Q fuel (listed.setIfInBounds j true)) a w := by
    intro fuel listed u a w inv ih j hj
    obtain ⟨hjun, o, ho, hafter⟩ := mem_ready.1 hj
    have hjn : j < ops.size := (Array.getElem?_eq_some_iff.1 ho).1
    have hjs : j < listed.size := by rw [inv.size]; exact hjn
    have hun := (unlisted hjs).1 hjun
    have hall : ∀ m, waits ops j m = true → listed.getD m false = true := fun m hm => by
      obtain ⟨o', ho', e, he, hb, hon⟩ := waits_spec hm
      rw [ho] at ho'
      cases ho'
      rw [← hon]
      exact hafter e he hb
    have hdst : dstOf ops j = o.dst := by simp [dstOf, ho]
    let vs : Nat → Value := fun k => if listed.getD k false = true then u k else S.dflt k
    have hvs : ∀ k p, S.pure k = some p → p (vs k) := fun k p hp => by
      simp only [vs]
      split
      · rename_i hl; exact (inv.fact k p hl hp).1
      · exact hd k p hp
    have hag : ∀ k, listed.getD k false = true → (S.pure k).isSome = true → vs k = u k := fun k hl _ => by simp only [vs]; rw [if_pos hl]
    obtain ⟨u', hst, _⟩ := H vs hvs
    obtain ⟨hsame, hat, huse⟩ := inv.here hok hloc ho hun hall hvs hag hst
    have hsel : ∀ cs b, o.op ≠ .select cs b := fun cs b => Region.noSelect_spec hok.sel j o cs b ho
    have hex := eval_same hsel hsame
    have hwa := wanted_same hsame
    have hstep := hst j o ho
    -- the invariant behind it
    have next : ∀ (v : Value) (w' : World), C w' → (∀ k p, listed.getD k false = true → S.pure k = some p → S.fact k u w') →
        (∀ p, S.pure j = some p → p v ∧ S.fact j (fun m => if m = j then v else vs m) w') →
        (∀ vs2 u2 : Nat → Value, (∀ k p, S.pure k = some p → p (vs2 k)) → (∀ k, listed.getD k false = true → (S.pure k).isSome = true → vs2 k = u k) → ((S.pure j).isSome = true → vs2 j = v) →
          (∀ j o, ops[j]? = some o → Step P ops C G S vs2 o j (lay ops u2 a0 j) (u2 j)) → u2 j = v) →
        (S.fresh j = true → ∃ b : Nat, v = .pointer (some ⟨b, 0, none⟩) ∧ w.heap.size ≤ b) →
        Inv P ops C G S a0 (listed.setIfInBounds j true) (fun k => if k = j then v else u k) (a.put o.dst v) w' := by
      intro v w' hc hold hnew hlex hfv
      have hne : ∀ k, listed.getD k false = true → k ≠ j := fun k hk e => hun (e ▸ hk)
      refine ⟨hc, by simp [inv.size], fun k m hk hw => ?_, fun k hk m hm => ?_, fun k p hk hp => ?_, fun vs2 u2 h1 h2 h3 k hk => ?_, ?_, fun k m hk hm hfk hfm hkm => ?_⟩
      · rw [getD_set_iff hjs] at hk ⊢
        rcases hk with rfl | hk
        · exact .inr (hall m hw)
        · exact .inr (inv.closed k m hk hw)
      · rw [getD_set_iff hjs] at hk ⊢
        rcases hk with rfl | hk
        · exact .inr (huse m hm)
        · exact .inr (inv.uses k hk m hm)
      · rw [getD_set_iff hjs] at hk
        rcases hk with rfl | hk
        · obtain ⟨h1, h2⟩ := hnew p hp
          refine ⟨by simpa using h1, hloc k _ _ w' (by simp) (fun m hm hpm => ?_) h2⟩
          have hml := huse m hm
          simp only [if_neg (hne m hml)]
          exact hag m hml hpm
        · refine ⟨by simp only [if_neg (hne k hk)]; exact (inv.fact k p hk hp).1, hloc k u _ w' (by simp only [if_neg (hne k hk)]) (fun m hm _ => by simp only [if_neg (hne m (inv.uses k hk m hm))]) (hold k p hk hp)⟩
      · have h2' : ∀ k, listed.getD k false = true → (S.pure k).isSome = true → vs2 k = u k := fun k hk hp => by
          have := h2 k ((getD_set_iff hjs).2 (.inr hk)) hp
          rwa [if_neg (hne k hk)] at this
        rw [getD_set_iff hjs] at hk
        rcases hk with rfl | hk
        · simp only [if_true]
          exact hlex vs2 u2 h1 h2' (fun hp => by have := h2 k ((getD_set_iff hjs).2 (.inl rfl)) hp; rwa [if_pos rfl] at this) h3
        · simp only [if_neg (hne k hk)]
          exact inv.lex vs2 u2 h1 h2' h3 k hk
      · have := inv.laid.put (u' := fun k => if k = j then v else u k) (k := j) (D' := fun k => (listed.setIfInBounds j true).getD k false = true) hok (fun m hm => listed_lt inv.size hm) hjn hun (fun m hm => by simp only [if_neg (hne m hm)]) (fun m => getD_set_iff hjs)
        simpa [hdst] using this
      · rw [getD_set_iff hjs] at hk hm
        have old : ∀ i, listed.getD i false = true → S.fresh i = true → ∃ b : Nat, u i = .pointer (some ⟨b, 0, none⟩) ∧ b < w.heap.size := fun i hi hfi => by
          obtain ⟨p, hp⟩ := Option.isSome_iff_exists.1 (hfr i hfi).1
          exact (hfr i hfi).2 u w (inv.fact i p hi hp).2
        rcases hk with rfl | hk <;> rcases hm with rfl | hm
        · exact absurd rfl hkm
        · simp only [if_true, if_neg (hne m hm)]
          obtain ⟨b, e1, h1⟩ := old m hm hfm
          obtain ⟨b', e2, h2⟩ := hfv hfk
          rw [e1, e2]
          intro e
          injection e with e
          injection e with e
          injection e with e
          omega
        · simp only [if_true, if_neg (hne k hk)]
          obtain ⟨b, e1, h1⟩ := old k hk hfk
          obtain ⟨b', e2, h2⟩ := hfv hfm
          rw [e1, e2]
          intro e
          injection e with e
          injection e with e
          injection e with e
          omega
        · simp only [if_neg (hne k hk), if_neg (hne m hm)]
          exact inv.fresh k m hk hm hfk hfm hkm
    unfold wpOp
    simp only [ho]
    unfold Step at hstep
    cases hp : S.pure j with
    | some p =>
      simp only [hp] at hstep
      obtain ⟨⟨hw, hwp⟩, _⟩ := hstep
      rw [if_pos (by rw [hwa]; exact hw)]
      refine .inl (wp_transfer (R := fun v w' => C w' ∧ G w w' ∧ p v ∧ S.fact j (fun m => if m = j then v else vs m) w' ∧ (S.fresh j = true → ∃ b : Nat, v = .pointer (some ⟨b, 0, none⟩) ∧ w.heap.size ≤ b)) (inv.laid.size.trans (lay_laid hok u' a0 j (by omega)).size.symm) hex (hwp w hat) fun v w' ⟨h1, h2, h3, h4, h5⟩ => ?_)
      refine ih j _ _ w' hjn hun (next v w' h1 (fun k q hk hq => hG k u w w' (inv.fact k q hk hq).2 h2) (fun q hq => ?_) (fun vs2 u2 k1 k2 k3 k4 => ?_) h5)
      · rw [hp] at hq
        cases hq
        exact ⟨h3, h4⟩
      · have := k4 j o ho
        unfold Step at this
        simp only [hp] at this
        rw [this.2]
        exact k3 (by rw [hp]; rfl)
    | none =>
      simp only [hp] at hstep
      have other : ∀ vs2 u2 : Nat → Value, (∀ k p, S.pure k = some p → p (vs2 k)) → (∀ k, listed.getD k false = true → (S.pure k).isSome = true → vs2 k = u k) →
          (∀ j o, ops[j]? = some o → Step P ops C G S vs2 o j (lay ops u2 a0 j) (u2 j)) →
          (Region.wanted o (yielded ops a.tmps) = true ∧ ((execOp a.eval o).run P w = .ok (.value (u2 j)) w ∨ ((execOp a.eval o).run P w = .ok .skip w ∧ u2 j = undef))) ∨ (Region.wanted o (yielded ops a.tmps) = false ∧ u2 j = undef) := by
        intro vs2 u2 k1 k2 k3
        obtain ⟨hs2, hat2, _⟩ := inv.here hok hloc ho hun hall k1 k2 k3
        have := k3 j o ho
        unfold Step at this
        simp only [hp] at this
        rw [wanted_same hs2, eval_same hsel hs2]
        rcases this with ⟨h1, h2⟩ | h1
        · exact .inl ⟨h1, h2 w hat2⟩
        · exact .inr h1
      have uniq : ∀ vs2 u2 : Nat → Value, (∀ k p, S.pure k = some p → p (vs2 k)) → (∀ k, listed.getD k false = true → (S.pure k).isSome = true → vs2 k = u k) → ((S.pure j).isSome = true → vs2 j = u' j) →
          (∀ j o, ops[j]? = some o → Step P ops C G S vs2 o j (lay ops u2 a0 j) (u2 j)) → u2 j = u' j := by
        intro vs2 u2 k1 k2 _ k3
        rcases other vs2 u2 k1 k2 k3 with ⟨h1, h2⟩ | ⟨h1, h2⟩ <;> rcases other vs u' hvs hag hst with ⟨g1, g2⟩ | ⟨g1, g2⟩
        · rcases h2 with h2 | ⟨h2, h3⟩ <;> rcases g2 with g2 | ⟨g2, g3⟩
          · rw [h2] at g2; simp only [Result.ok.injEq, Next.value.injEq, and_true] at g2; exact g2
          · rw [h2] at g2; cases g2
          · rw [h2] at g2; cases g2
          · rw [h3, g3]
        · rw [h1] at g1; cases g1
        · rw [h1] at g1; cases g1
        · rw [h2, g2]
      have hinv := next (u' j) w inv.c (fun k p hk hp => (inv.fact k p hk hp).2) (fun q hq => by rw [hp] at hq; cases hq) uniq (fun hfj => by have := (hfr j hfj).1; rw [hp] at this; cases this)
      rcases other vs u' hvs hag hst with ⟨h1, h2⟩ | ⟨h1, h2⟩
      · rw [if_pos h1]
        refine .inl ?_
        unfold Oper.wp
        rcases h2 with h2 | ⟨h2, h3⟩
        · rw [h2]
          exact ih j _ _ w hjn hun hinv
        · rw [h2]
          rw [h3] at hinv
          exact ih j _ _ w hjn hun hinv
      · rw [if_neg (by rw [h1]; exact Bool.false_ne_true)]
        rw [h2] at hinv
        exact ih j _ _ w hjn hun hinv
  intro fuel
  induction fuel with
  | zero =>
    intro listed u a w hl inv
    have hr : Region.ready .any ops listed = [] := by
      cases hr : Region.ready .any ops listed with
      | nil => rfl
      | cons x xs =>
        have hx : x ∈ Region.ready .any ops listed := by rw [hr]; exact List.mem_cons_self
        obtain ⟨h1, o, ho, _⟩ := mem_ready.1 hx
        have hxn : x < ops.size := (Array.getElem?_eq_some_iff.1 ho).1
        have : x ∈ (List.range ops.size).filter fun k => !listed.getD k true := List.mem_filter.2 ⟨List.mem_range.2 hxn, by simp [h1]⟩
        unfold left at hl
        have hnil : ((List.range ops.size).filter fun k => !listed.getD k true) = [] := List.eq_nil_of_length_eq_zero (by omega)
        rw [hnil] at this
        cases this
    exact ⟨hr, fin listed u a w inv hr⟩
  | succ fuel ih =>
    intro listed u a w hl inv
    refine ⟨fin listed u a w inv, main fuel listed u a w inv fun j u2 a2 w2 hjn hun inv2 => ih _ u2 a2 w2 ?_ inv2⟩
    have hjs : j < listed.size := by rw [inv.size]; exact hjn
    have := filter_less (p := fun k => !listed.getD k true) (q := fun k => !(listed.setIfInBounds j true).getD k true) (List.range ops.size) j (List.mem_range.2 hjn) (by simp [(unlisted hjs).2 hun]) (by simp [hjs]) (fun k hk => by
      by_cases hjk : j = k
      · subst hjk; simp [hjs] at hk
      · rw [getD_set_ne true hjk] at hk; exact hk)
    unfold left at hl ⊢
    omega
end

section
variable {P : Program} {ops : Array Oper} {C : World → Prop} {G : World → World → Prop} {S : Spec} {vs : Nat → Value} {Q : Act → Prop} {o : Oper} {rest : List Oper} {k : Nat} {a : Act}
theorem walk_nil (h : Q a) : walk P ops C G S vs Q [] k a := h
theorem walk_skip (hp : S.pure k = none) (hw : Region.wanted o (yielded ops a.tmps) = false) (h : walk P ops C G S vs Q rest (k + 1) (a.put o.dst undef)) : walk P ops C G S vs Q (o :: rest) k a := by
  unfold walk
  simp only [hp, hw, Bool.false_eq_true, if_false]
  exact h
theorem walk_run (v : Value) (hp : S.pure k = none) (hw : Region.wanted o (yielded ops a.tmps) = true) (hr : ∀ w, At C S vs k w → (execOp a.eval o).run P w = .ok (.value v) w) (h : walk P ops C G S vs Q rest (k + 1) (a.put o.dst v)) : walk P ops C G S vs Q (o :: rest) k a := by
  unfold walk
  simp only [hp, hw, if_true]
  exact ⟨v, fun w hw' => .inl (hr w hw'), h⟩
theorem walk_load (ty : TypeId) (x : Operand) (b off : Nat) (cs : List Value) (d : TypeDesc) (hp : S.pure k = none) (hw : Region.wanted o (yielded ops a.tmps) = true) (ho : o.op = .load ty x) (hx : a.eval x = .pointer (some ⟨b, off, none⟩))
    (hS : ∀ w, At C S vs k w → w.rangeAt b off cs) (hu : P.underlying ty = some d) (hd : d.isRow = true) (hi : (P.info? ty).map (·.size) = some cs.length)
    (h : walk P ops C G S vs Q rest (k + 1) (a.put o.dst (.agg cs.toArray))) : walk P ops C G S vs Q (o :: rest) k a :=
  walk_run _ hp hw (fun w hw' => by
    unfold execOp
    simp only [ho, hx, Instr.loadAt, Instr.sureAddr, Sem.run_bind, Sem.run_pure, Result.andThen_ok, run_loadVar_mid w b off ty cs d (hS w hw') hu hd hi]) h
theorem walk_wild (hf : S.fresh k = false) (p : Value → Prop) (hp : S.pure k = some p) (hw : Region.wanted o (yielded ops a.tmps) = true)
    (hs : ∀ w, At C S vs k w → ∀ K : Act → World → Prop, Hid (∀ v w', C w' → G w w' → p v → S.fact k (fun m => if m = k then v else vs m) w' → K (a.put o.dst v) w') → o.wp P a w K (fun _ _ _ => False))
    (h : walk P ops C G S vs Q rest (k + 1) (a.put o.dst (vs k))) : walk P ops C G S vs Q (o :: rest) k a := by
  unfold walk
  simp only [hp]
  exact ⟨⟨hw, fun w hw' => hs w hw' _ (Lib.hid fun v w' h1 h2 h3 h4 => ⟨v, rfl, h1, h2, h3, h4, fun h => by rw [hf] at h; cases h⟩)⟩, h⟩

theorem walk_fresh (p : Value → Prop) (hp : S.pure k = some p) (hw : Region.wanted o (yielded ops a.tmps) = true)
    (hs : ∀ w, At C S vs k w → ∀ K : Act → World → Prop, Hid (∀ (b : Nat) w', C w' → G w w' → w.heap.size ≤ b → p (.pointer (some ⟨b, 0, none⟩)) → S.fact k (fun m => if m = k then .pointer (some ⟨b, 0, none⟩) else vs m) w' → K (a.put o.dst (.pointer (some ⟨b, 0, none⟩))) w') → o.wp P a w K (fun _ _ _ => False))
    (h : walk P ops C G S vs Q rest (k + 1) (a.put o.dst (vs k))) : walk P ops C G S vs Q (o :: rest) k a := by
  unfold walk
  simp only [hp]
  exact ⟨⟨hw, fun w hw' => hs w hw' _ (Lib.hid fun b w' h1 h2 hb h3 h4 => ⟨_, rfl, h1, h2, h3, h4, fun _ => ⟨b, rfl, hb⟩⟩)⟩, h⟩
theorem walk_simple (hp : S.pure k = none) (hw : Region.wanted o (yielded ops a.tmps) = true) (hs : simple o = true) (h : ∀ K : Act → Prop, (∀ a, walk P ops C G S vs Q rest (k + 1) a → K a) → o.quiet P a (At C S vs k) K) : walk P ops C G S vs Q (o :: rest) k a := by
  obtain ⟨v, h1, h2⟩ := h _ fun _ h => h
  unfold walk
  simp only [hp, hw, if_true]
  refine ⟨v, fun w hw' => ?_, h2⟩
  have := h1 w hw'
  unfold Oper.quietAt at this
  have hne := fun (f : FuncId) (args : Array Value) (w' : World) => simple_enter (P := P) (o := o) (ρ := a.eval) (w := w) (w' := w') (f := f) (args := args) hs
  generalize (execOp a.eval o).run P w = r at *
  cases r with
  | ok n w' =>
    cases n <;> simp only [Oper.quietUpon] at this
    case value u => obtain ⟨rfl, rfl⟩ := this; exact .inl rfl
    case skip => obtain ⟨rfl, rfl⟩ := this; exact .inr ⟨rfl, rfl⟩
    case enter f args => exact absurd rfl (hne f args w')
  | halt x w' => simp only [Oper.quietUpon] at this
end
/-- .. and two last operations, one behind the other -/
theorem region_tail2 {P : Program} {o : Oper} {id : Nat} {Q : Exit → Act → World → Prop} {a : Act} {w : World} {m : List Oper} {o2 : Oper} (n : Nat) (S : Spec) (C : World → Prop) (G : World → World → Prop) (hn : m.length = n + 2) (ho : m[n]? = some o) (ho2 : m[n + 1]? = some o2) (hg : o.guard = none) (hg2 : o2.guard = none) (hm : P.follows .mixedOrders = true)
    (hB : okB (m.take n).toArray S.use = true) (hL : lastB (m.take n) o = true) (hL2 : lastB (m.take n ++ [o]) o2 = true)
    (hC : C w.drew) (hG : ∀ k vs w w', S.fact k vs w → G w w' → S.fact k vs w')
    (hloc : ∀ k (vs vs' : Nat → Value) w, vs k = vs' k → (∀ m ∈ S.use k, (S.pure m).isSome = true → vs m = vs' m) → S.fact k vs w → S.fact k vs' w)
    (hd : ∀ k p, S.pure k = some p → p (S.dflt k)) (hfr : ∀ m, S.fresh m = true → (S.pure m).isSome = true ∧ ∀ vs w, S.fact m vs w → ∃ b : Nat, vs m = .pointer (some ⟨b, 0, none⟩) ∧ b < w.heap.size)
    (h : ∀ vs : Nat → Value, (∀ k p, S.pure k = some p → p (vs k)) → walk P (m.take n).toArray C G S vs (fun a' => ∀ w', C w' → (∀ j, (S.pure j).isSome = true → j < n → S.fact j vs w') → (∀ k m, S.fresh k = true → S.fresh m = true → k ≠ m → k < n → m < n → vs k ≠ vs m) → o.wp P a' w' (fun a2 w2 => o2.wp P a2 w2 (Q .normal) Q) (fun _ _ _ => False)) (m.take n) 0 a) : (Code.region id m.toArray true).wp P Q a w := by
  have hlen : (m.take n).length = n := by rw [List.length_take, hn]; omega
  have e : m = (m.take n ++ [o]) ++ [o2] := by
    obtain ⟨h1, h2⟩ := List.getElem?_eq_some_iff.1 ho
    obtain ⟨h3, h4⟩ := List.getElem?_eq_some_iff.1 ho2
    conv => lhs; rw [← List.take_append_drop n m]
    rw [List.append_assoc]
    congr 1
    rw [List.drop_eq_getElem_cons h1, h2, List.drop_eq_getElem_cons h3, h4, List.drop_eq_nil_of_le (by omega)]
    rfl
  generalize m.take n = l at *
  subst e
  have hok := ok_of hB
  have hw : ∀ p : Act, Region.wanted o (yielded (l ++ [o]).toArray p.tmps) = true := fun p => by simp [Region.wanted, hg]
  have hw2 : ∀ p : Act, Region.wanted o2 (yielded ((l ++ [o]) ++ [o2]).toArray p.tmps) = true := fun p => by simp [Region.wanted, hg2]
  refine wp_region_any hm ?_
  have no : ∀ k m, (Array.replicate l.length false).getD k false = true → waits l.toArray k m = true → (Array.replicate l.length false).getD m false = true := fun k m hk => absurd hk (by rw [getD_replicate_false]; exact Bool.false_ne_true)
  have h1 := peel (P := P) (Q := fun e a2 w2 => e = .normal ∧ o2.wp P a2 w2 (Q .normal) Q) (fun a' w' => o.wp P a' w' (fun a2 w2 => o2.wp P a2 w2 (Q .normal) Q) (fun _ _ _ => False)) hL (fun a' w' hq => by
    unfold wpOp
    rw [full_last]
    simp only [hw, if_true]
    exact .inl (wp_never hq)) l.length (Array.replicate l.length false) a w.drew (by simp) no
    (any_of_inv (a0 := a) hok hG hloc hd hfr (fun vs hvs => by
      obtain ⟨u', _, h2, h3⟩ := walk_steps P l.toArray C G S vs _ a l 0 (fun _ => undef) (fun j => by simp) (h vs hvs)
      refine ⟨u', fun j o ho => h2 j (Nat.zero_le _) o ho, fun w' hc hf hfd => ⟨rfl, ?_⟩⟩
      have := h3 w' hc (fun j hp hj => hf j hp (by simpa [hlen] using hj)) (fun k m h1 h2 h4 h5 h6 => hfd k m h1 h2 h4 (by simpa [hlen] using h5) (by simpa [hlen] using h6))
      simpa using this) _ _ (fun _ => undef) _ _ (by simpa using left_le l.toArray.size (Array.replicate l.length false)) ⟨hC, by simp, no, fun k hk => absurd hk (by rw [getD_replicate_false]; exact Bool.false_ne_true), fun k p hk => absurd hk (by rw [getD_replicate_false]; exact Bool.false_ne_true), fun vs u' _ _ _ k hk => absurd hk (by rw [getD_replicate_false]; exact Bool.false_ne_true), ⟨rfl, rfl, fun k t hk => absurd hk (by rw [getD_replicate_false]; exact Bool.false_ne_true), fun _ _ => rfl⟩, fun k m hk => absurd hk (by rw [getD_replicate_false]; exact Bool.false_ne_true)⟩)
  rw [← Array.replicate_succ] at h1
  have h2 := peel (P := P) (Q := Q) (fun a' w' => o2.wp P a' w' (Q .normal) Q) hL2 (fun a' w' hq => by
    unfold wpOp
    rw [full_last]
    simp only [hw2, if_true]
    exact .inl hq) (l.length + 1) (Array.replicate (l.length + 1) false) a w.drew (by simp) (fun k m hk => absurd hk (by rw [getD_replicate_false]; exact Bool.false_ne_true)) h1
  rw [show ((l ++ [o]) ++ [o2]).toArray.size = l.length + 1 + 1 by simp, Array.replicate_succ]
  exact h2

open Wild (Ent CB GB)
def tab (T : Nat → Option Ent) (use : Nat → List Nat) (fr : Nat → Bool) : Spec where
  pure := fun k => (T k).map (·.pure)
  dflt := fun k => match T k with | some e => e.dflt | none => undef
  fact := fun k vs w => match T k with | some e => e.fact (vs k) w | none => True
  use := use
  fresh := fr
variable {T : Nat → Option Ent} {use : Nat → List Nat} {fr : Nat → Bool}
theorem tab_later : ∀ k vs w w', (tab T use fr).fact k vs w → Below w.heap.size w w' → (tab T use fr).fact k vs w' := by
  intro k vs w w' h hb
  simp only [tab] at *
  cases e : T k with
  | none => trivial
  | some x => rw [e] at h; exact x.later _ _ _ h hb
theorem tab_loc : ∀ k (vs vs' : Nat → Value) w, vs k = vs' k → (∀ m ∈ (tab T use fr).use k, ((tab T use fr).pure m).isSome = true → vs m = vs' m) → (tab T use fr).fact k vs w → (tab T use fr).fact k vs' w := by
  intro k vs vs' w he _ h
  simp only [tab] at *
  rw [← he]
  exact h
theorem tab_dflt : ∀ k p, (tab T use fr).pure k = some p → p ((tab T use fr).dflt k) := by
  intro k p h
  simp only [tab] at *
  cases e : T k with
  | none => rw [e] at h; cases h
  | some x => rw [e] at h; cases h; exact x.ok
theorem tab_pure {k : Nat} {e : Ent} (h : T k = some e) : (tab T use fr).pure k = some e.pure := by simp [tab, h]
theorem tab_fact {k : Nat} {e : Ent} {vs : Nat → Value} {w : World} (h : T k = some e) (hf : (tab T use fr).fact k vs w) : e.fact (vs k) w := by
  simp only [tab, h] at hf; exact hf
/-- two last operations, and allocations that are unlike -/
theorem region_tail2_b {P : Program} {id : Nat} {Q : Exit → Act → World → Prop} {a : Act} {w : World} {m : List Oper} {o o2 : Oper} (n : Nat) (T : Nat → Option Ent) (use : Nat → List Nat) (fr : Nat → Bool) (hn : m.length = n + 2) (ho : m[n]? = some o) (ho2 : m[n + 1]? = some o2) (hg : o.guard = none) (hg2 : o2.guard = none) (hm : P.follows .mixedOrders = true)
    (hB : okB (m.take n).toArray use = true) (hL : lastB (m.take n) o = true) (hL2 : lastB (m.take n ++ [o]) o2 = true)
    (hfr : ∀ k, fr k = true → ∃ t Z B, T k = some (.var t Z B))
    (h : ∀ vs : Nat → Value, (∀ k e, T k = some e → e.pure (vs k)) → walk P (m.take n).toArray (CB w) GB (tab T use fr) vs (fun a' => ∀ w', CB w w' → (∀ j e, T j = some e → j < n → e.fact (vs j) w') → (∀ k m, fr k = true → fr m = true → k ≠ m → k < n → m < n → vs k ≠ vs m) → o.wp P a' w' (fun a2 w2 => o2.wp P a2 w2 (Q .normal) Q) (fun _ _ _ => False)) (m.take n) 0 a) : (Code.region id m.toArray true).wp P Q a w :=
  region_tail2 n (tab T use fr) (CB w) GB hn ho ho2 hg hg2 hm hB hL hL2 ((Below.refl _ _).drew) tab_later tab_loc tab_dflt (fun k hk => by
    obtain ⟨t, Z, B, e⟩ := hfr k hk
    refine ⟨by rw [tab_pure e]; rfl, fun vs w hf => ?_⟩
    obtain ⟨b, h1, _, h3⟩ := tab_fact e hf
    exact ⟨b, h1, (Array.getElem?_eq_some_iff.1 h3).1⟩) fun vs hvs => by
    have h1 := h vs fun k e he => hvs k _ (tab_pure he)
    have e : (fun a' : Act => ∀ w', CB w w' → (∀ j, ((tab T use fr).pure j).isSome = true → j < n → (tab T use fr).fact j vs w') → (∀ k m, (tab T use fr).fresh k = true → (tab T use fr).fresh m = true → k ≠ m → k < n → m < n → vs k ≠ vs m) → o.wp P a' w' (fun a2 w2 => o2.wp P a2 w2 (Q .normal) Q) (fun _ _ _ => False)) = (fun a' : Act => ∀ w', CB w w' → (∀ j e, T j = some e → j < n → e.fact (vs j) w') → (∀ k m, fr k = true → fr m = true → k ≠ m → k < n → m < n → vs k ≠ vs m) → o.wp P a' w' (fun a2 w2 => o2.wp P a2 w2 (Q .normal) Q) (fun _ _ _ => False)) := by
      funext a'
      apply propext
      constructor
      · intro h2 w' hc hf
        refine h2 w' hc fun j hj hjn => ?_
        simp only [tab] at hj ⊢
        cases e : T j with
        | none => trivial
        | some x => exact hf j x e hjn
      · intro h2 w' hc hf
        exact h2 w' hc fun j e he hjn => tab_fact he (hf j (by rw [tab_pure he]; rfl) hjn)
    rw [e]
    exact h1
end WildF
end Go.Proofs.Ytcnelahmbfggcaa

/- The walks of lms's knots and of the function that it hands back. -/
namespace Go.Proofs.Ytcnelahmbfggcaa
open Go Go.RowKit
set_option maxRecDepth 100000
set_option maxHeartbeats 2000000
attribute [local irreducible] Wild.walk WildF.walk

/-- a knot's sum, d steps above the leaves -/
def knotL (I S : List UInt8) (k : Int) (H : Nat) : Nat → Nat → List UInt8
  | 0, r => hashN I r 33410 [pubV I S (r - 2 ^ H) k]
  | d + 1, r => hashN I r 33667 [knotL I S k H d (2 * r), knotL I S k H d (2 * r + 1)]
theorem knotL_length (I S : List UInt8) (k : Int) (H d r : Nat) : (knotL I S k H d r).length = 32 := by cases d <;> exact sha_length _
/-- the function value that knots hands back -/
def FV (b0 b1 : Nat) : Value := .func (.func 44) #[] #[.pointer (some ⟨b0, 0, none⟩), .pointer (some ⟨b1, 0, none⟩)]
structure KN (w : World) (b0 b1 : Nat) (I S : List UInt8) (k h : Int) : Prop where
  tree : w.heap[b0]? = some (.cells (TreeV I S k h).toArray 25 (0, 0))
  self : w.heap[b1]? = some (.cells #[FV b0 b1] 68 (0, 0))
theorem KN.later {w w' : World} {b0 b1 : Nat} {I S : List UInt8} {k h : Int} (hk : KN w b0 b1 I S k h) (hb : Below w.heap.size w w') : KN w' b0 b1 I S k h :=
  ⟨(hb.block _ (Array.getElem?_eq_some_iff.1 hk.tree).1).trans hk.tree, (hb.block _ (Array.getElem?_eq_some_iff.1 hk.self).1).trans hk.self⟩
theorem knots_any (I S : List UInt8) (k h : Int) (w : World) : Calls Try.prog 29 #[.agg (TreeV I S k h).toArray] w fun e w' => ∃ b0 b1, e = .returned (FV b0 b1) ∧ KN w' b0 b1 I S k h ∧ Below w.heap.size w w' := by
  obtain ⟨W0, HW0, HB0, HS0, HR0⟩ : ∃ V, Hid (V = w.alloc (.cells (TreeV I S k h).toArray 25)) ∧ Hid (Below w.heap.size w V) ∧ Hid (V.heap.size = w.heap.size + 1) ∧ Hid (V.heap[w.heap.size]? = some (.cells (TreeV I S k h).toArray 25 (0, 0))) := ⟨_, Lib.hid rfl, Lib.hid ((Below.refl _ _).alloc (Nat.le_refl _) _), Lib.hid (by simp), Lib.hid (heap_alloc_new _ _)⟩
  obtain ⟨b1, Hb1⟩ : ∃ b, Hid (b = W0.heap.size) := ⟨_, Lib.hid rfl⟩
  obtain ⟨V, HV, HB, HR, HN⟩ : ∃ V, Hid (V = W0.alloc (.cells #[Value.nilFunc] 68)) ∧ Hid (Below w.heap.size w V) ∧ Hid (V.heap[w.heap.size]? = some (.cells (TreeV I S k h).toArray 25 (0, 0))) ∧ Hid (V.heap[b1]? = some (.cells #[Value.nilFunc] 68 (0, 0))) :=
    ⟨_, Lib.hid rfl, Lib.hid (HB0.out.alloc HB0.out.size _), Lib.hid ((heap_alloc_old _ _ (by rw [HS0.out]; omega)).trans HR0.out), Lib.hid (by rw [Hb1.out]; exact heap_alloc_new _ _)⟩
  have kc := cell_of_row V b1 0 _ _ (0, 0) HN.out
  have kf := frozen_of_row V b1 0 _ _ HN.out
  have HX1 : Hid ((V.setCell ⟨b1, 0, none⟩ (FV w.heap.size b1)).heap[b1]? = some (.cells #[FV w.heap.size b1] 68 (0, 0))) := Lib.hid (heap_setCell_same V b1 0 _ 68 _ HN.out)
  have HX0 : Hid ((V.setCell ⟨b1, 0, none⟩ (FV w.heap.size b1)).heap[w.heap.size]? = some (.cells (TreeV I S k h).toArray 25 (0, 0))) := Lib.hid ((Below.heap_setCell _ _ _ _ (by show w.heap.size ≠ b1; rw [Hb1.out, HS0.out]; omega)).trans HR.out)
  have HXB : Hid (Below w.heap.size w (V.setCell ⟨b1, 0, none⟩ (FV w.heap.size b1))) := Lib.hid ⟨HB.out.os, HB.out.tape, HB.out.output, by have := HB.out.size; simpa using this, fun k hk => (Below.heap_setCell _ _ _ _ (by show k ≠ b1; rw [Hb1.out, HS0.out]; omega)).trans (HB.out.block k hk)⟩
  obtain ⟨X, HX⟩ : ∃ X, Hid (X = V.setCell ⟨b1, 0, none⟩ (FV w.heap.size b1)) := ⟨_, Lib.hid rfl⟩
  rw [← HX.out] at HX1 HX0 HXB
  go_enter Try.func29, Try.ntmps29
  go_upto_region 1 with (fail)
  rw [← HW0.out]
  go_upto_region 2 with (fail)
  rw [← Hb1.out, ← HV.out]
  go_upto_region 3 with (fail)
  change Code.wp _ _ _ _ (V.setCell ⟨b1, 0, none⟩ (FV w.heap.size b1))
  rw [← HX.out]
  have kx := cell_of_row X b1 0 _ _ (0, 0) HX1.out
  go_wp2_with fail
  go_ret
  exact ⟨w.heap.size, b1, rfl, ⟨HX0.out, HX1.out⟩, HXB.out⟩
end Go.Proofs.Ytcnelahmbfggcaa


/- Purses: their cells; the walks of leaves, Right, Left, Crash, and of the document's leaves and Right. -/
import Derived.Test.YtcnelahmbfggcaaG9
import Derived.Test.YtcnelahmbfggcaaG11
import Derived.Test.YtcnelahmbfggcaaG12
import Derived.Test.YtcnelahmbfggcaaG10
import Derived.Test.YtcnelahmbfggcaaAt
namespace Go.Proofs.Ytcnelahmbfggcaa
open Go Go.RowKit
set_option maxRecDepth 100000
set_option maxHeartbeats 2000000
attribute [local irreducible] Wild.walk WildF.walk

def PurseV (I S : List UInt8) (k h nx nt st : Int) : List Value := TreeV I S k h ++ [.int .i64 nx, .int .i64 nt, .int .i64 st]
theorem PurseV_length (I S : List UInt8) (k h nx nt st : Int) (hI : I.length = 16) (hS : S.length = 32) : (PurseV I S k h nx nt st).length = 53 := by
  rw [PurseV, List.length_append, TreeV_length _ _ _ _ hI hS]; rfl
theorem PurseV_one (I S : List UInt8) (k h nx nt st : Int) : (PurseV I S k h nx nt st).toArray.all (·.oneCell') = true := by
  have h := TreeV_one I S k h
  rw [List.all_toArray] at h ⊢
  rw [PurseV, List.all_append, h]
  rfl
section
variable {t : TypeId} {w : World} {b : Nat} {I S : List UInt8} {k h nx nt st : Int}
theorem purse_T (hr : w.heap[b]? = some (.cells (PurseV I S k h nx nt st).toArray t (0, 0))) : w.rangeAt b 0 (TreeV I S k h) := fun j v hj => by
  refine rangeAt_row hr j v ?_
  rw [PurseV, List.getElem?_append_left (List.getElem?_eq_some_iff.1 hj).1]
  exact hj
theorem purse_IS (hr : w.heap[b]? = some (.cells (PurseV I S k h nx nt st).toArray t (0, 0))) (hI : I.length = 16) : w.rangeAt b 0 (B8 I) ∧ w.rangeAt b 16 (B8 S) := by
  have h := purse_T hr
  constructor
  · intro j v hj
    refine h j v ?_
    rw [TreeV, List.getElem?_append_left (List.getElem?_eq_some_iff.1 hj).1]
    exact hj
  · intro j v hj
    have h2 := h (16 + j) v (by
      rw [TreeV, List.getElem?_append_right (by rw [B8_length, hI]; omega), B8_length, hI, Nat.add_sub_cancel_left, List.getElem?_append_left (List.getElem?_eq_some_iff.1 hj).1]
      exact hj)
    rwa [Nat.zero_add] at h2
theorem purse_cell (hr : w.heap[b]? = some (.cells (PurseV I S k h nx nt st).toArray t (0, 0))) (hI : I.length = 16) (hS : S.length = 32) (j : Nat) (v : Value) (hv : ([.int .i64 k, .int .i64 h, .int .i64 nx, .int .i64 nt, .int .i64 st] : List Value)[j]? = some v) : w.cell? ⟨b, 48 + j, none⟩ = some v := by
  have e := rangeAt_row hr (48 + j) v (by
    rw [PurseV, TreeV, List.append_assoc, List.append_assoc, List.getElem?_append_right (by rw [B8_length, hI]; omega), B8_length, hI, List.getElem?_append_right (by rw [B8_length, hS]; omega), B8_length, hS, show 48 + j - 16 - 32 = j by omega]
    exact hv)
  rwa [Nat.zero_add] at e
theorem purse_W (hr : w.heap[b]? = some (.cells (PurseV I S k h nx nt st).toArray t (0, 0))) (hI : I.length = 16) (hS : S.length = 32) : w.cell? ⟨b, 48, none⟩ = some (.int .i64 k) := purse_cell hr hI hS 0 _ rfl
theorem purse_H (hr : w.heap[b]? = some (.cells (PurseV I S k h nx nt st).toArray t (0, 0))) (hI : I.length = 16) (hS : S.length = 32) : w.cell? ⟨b, 49, none⟩ = some (.int .i64 h) := purse_cell hr hI hS 1 _ rfl
theorem purse_N (hr : w.heap[b]? = some (.cells (PurseV I S k h nx nt st).toArray t (0, 0))) (hI : I.length = 16) (hS : S.length = 32) : w.cell? ⟨b, 50, none⟩ = some (.int .i64 nx) := purse_cell hr hI hS 2 _ rfl
theorem purse_D (hr : w.heap[b]? = some (.cells (PurseV I S k h nx nt st).toArray t (0, 0))) (hI : I.length = 16) (hS : S.length = 32) : w.cell? ⟨b, 51, none⟩ = some (.int .i64 nt) := purse_cell hr hI hS 3 _ rfl
theorem purse_St (hr : w.heap[b]? = some (.cells (PurseV I S k h nx nt st).toArray t (0, 0))) (hI : I.length = 16) (hS : S.length = 32) : w.cell? ⟨b, 52, none⟩ = some (.int .i64 st) := purse_cell hr hI hS 4 _ rfl
theorem PurseV_set (hI : I.length = 16) (hS : S.length = 32) (j : Nat) (v : Value) : (PurseV I S k h nx nt st).toArray.setIfInBounds (50 + j) v = (TreeV I S k h ++ ([.int .i64 nx, .int .i64 nt, .int .i64 st] : List Value).set j v).toArray := by
  rw [List.setIfInBounds_toArray]
  congr 1
  rw [PurseV, List.set_append_right _ _ (by rw [TreeV_length _ _ _ _ hI hS]; omega), TreeV_length _ _ _ _ hI hS, Nat.add_sub_cancel_left]
theorem purse_setN (hr : w.heap[b]? = some (.cells (PurseV I S k h nx nt st).toArray t (0, 0))) (hI : I.length = 16) (hS : S.length = 32) (x : Int) : (w.setCell ⟨b, 50, none⟩ (.int .i64 x)).heap[b]? = some (.cells (PurseV I S k h x nt st).toArray t (0, 0)) := by
  rw [heap_setCell_same w b 50 _ _ _ hr, PurseV_set hI hS 0]; rfl
theorem purse_setD (hr : w.heap[b]? = some (.cells (PurseV I S k h nx nt st).toArray t (0, 0))) (hI : I.length = 16) (hS : S.length = 32) (x : Int) : (w.setCell ⟨b, 51, none⟩ (.int .i64 x)).heap[b]? = some (.cells (PurseV I S k h nx x st).toArray t (0, 0)) := by
  rw [heap_setCell_same w b 51 _ _ _ hr, PurseV_set hI hS 1]; rfl
end
theorem info_purse : (Try.prog.info? 30).map (·.size) = some 53 := by kernel_rfl
theorem info_purseR : (Try.prog.info? 38).map (·.size) = some 53 := by kernel_rfl
def leavesV (k h : Int) : Int := if mayT k h then ((2 ^ h.toNat : Nat) : Int) else 0
def rightB (k h nx nt st : Int) : Bool := decide (0 < leavesV k h) && (decide (1 ≤ st) && (decide (st ≤ 8) && (decide (0 ≤ nx) && (decide (nx ≤ nt) && decide (nt ≤ leavesV k h)))))
theorem leaves_pur (I S : List UInt8) (k h nx nt st : Int) (w : World) (hI : I.length = 16) (hS : S.length = 32) (hk : -9223372036854775808 ≤ k ∧ k ≤ 9223372036854775807) :
    Calls Try.prog 17 #[.agg (PurseV I S k h nx nt st).toArray] w fun e w' => e = .returned (.int .i64 (leavesV k h)) ∧ Below w.heap.size w w' := by
  obtain ⟨V, HV, HB, HR⟩ : ∃ V, Hid (V = w.alloc (.cells (PurseV I S k h nx nt st).toArray 30)) ∧ Hid (Below w.heap.size w V) ∧ Hid (V.heap[w.heap.size]? = some (.cells (PurseV I S k h nx nt st).toArray 30 (0, 0))) := ⟨_, Lib.hid rfl, Lib.hid ((Below.refl _ _).alloc (Nat.le_refl _) _), Lib.hid (heap_alloc_new _ _)⟩
  have RT := Lib.hid (purse_T HR.out)
  have ITL : Hid ((Try.prog.info? 25).map (·.size) = some (TreeV I S k h).length) := Lib.hid (by rw [info_tree, TreeV_length _ _ _ _ hI hS])
  have HLG := Lib.hid (fun w' => Long_lms I S k h w' hI hS hk)
  have HHI := Lib.hid hI
  have HHS := Lib.hid hS
  by_cases hm : mayT k h = true
  · obtain ⟨h1, h2, h3⟩ := (mayT_iff k h).1 hm
    obtain ⟨H, rfl⟩ : ∃ H : Nat, h = H := ⟨h.toNat, by omega⟩
    have he : errL k H = 0 := by rw [errL, if_pos hm]
    obtain ⟨p5, p1⟩ := pow5 H (by omega)
    obtain ⟨P, HP⟩ : ∃ P, Hid (P = 2 ^ H) := ⟨_, Lib.hid rfl⟩
    rw [← HP.out] at p5 p1
    have ew := wrap_pow H P HP.out (by omega)
    have HL : Hid (leavesV k H = P) := Lib.hid (by rw [leavesV, if_pos hm, Int.toNat_natCast, ← HP.out])
    rw [he] at HLG
    rw [HL.out]
    clear hm h1 he hI hS hk
    go_enter Try.func17, Try.ntmps17
    go_upto_region 1 with (fail)
    rw [← HV.out]
    go_wp2_with (first
      | (refine wpList_load_mid rfl 25 _ rfl w.heap.size 0 (by rfl) (TreeV I S k H) _ RT.out Try.underlying25 rfl ITL.out ?_)
      | (go_at_call 22; refine (HLG.out V).mono ?_; rintro e w1 ⟨rfl, b1⟩; have HB1 := Lib.hid b1; have kh := purse_H ((b1.block _ (Array.getElem?_eq_some_iff.1 HR.out).1).trans HR.out) HHI.out HHS.out; clear b1))
    go_ret
    exact ⟨by rw [← ew]; rfl, HB.out.trans (HB1.out.mono HB.out.size)⟩
  · have he : errL k h = 1 := by rw [errL, if_neg hm]
    have HL : Hid (leavesV k h = 0) := Lib.hid (by rw [leavesV, if_neg hm])
    rw [he] at HLG
    rw [HL.out]
    clear hm he hI hS hk
    go_enter Try.func17, Try.ntmps17
    go_upto_region 1 with (fail)
    rw [← HV.out]
    go_wp2_with (first
      | (refine wpList_load_mid rfl 25 _ rfl w.heap.size 0 (by rfl) (TreeV I S k h) _ RT.out Try.underlying25 rfl ITL.out ?_)
      | (go_at_call 22; refine (HLG.out V).mono ?_; rintro e w1 ⟨rfl, b1⟩; have HB1 := Lib.hid b1; clear b1))
    go_ret
    exact ⟨rfl, HB.out.trans (HB1.out.mono HB.out.size)⟩
theorem leaves_ref6 (I S : List UInt8) (k h : Int) (w : World) (hI : I.length = 16) (hS : S.length = 32) :
    Calls Try.prog 16 #[.agg (TreeV I S k h).toArray] w fun e w' => e = .returned (.int .i64 (leavesV k h)) ∧ Below w.heap.size w w' := by
  obtain ⟨V, HV, HB, HR⟩ : ∃ V, Hid (V = w.alloc (.cells (TreeV I S k h).toArray 36)) ∧ Hid (Below w.heap.size w V) ∧ Hid (V.heap[w.heap.size]? = some (.cells (TreeV I S k h).toArray 36 (0, 0))) := ⟨_, Lib.hid rfl, Lib.hid ((Below.refl _ _).alloc (Nat.le_refl _) _), Lib.hid (heap_alloc_new _ _)⟩
  have IT : Hid ((Try.prog.info? 36).map (·.size) = some (TreeV I S k h).toArray.size) := Lib.hid (by rw [info_treeR, List.size_toArray, TreeV_length _ _ _ _ hI hS])
  have HLG := Lib.hid (fun w' => Long_ref5 I S k h w' hI hS)
  have HHI := Lib.hid hI
  have HHS := Lib.hid hS
  by_cases hm : mayT k h = true
  · obtain ⟨h1, h2, h3⟩ := (mayT_iff k h).1 hm
    obtain ⟨H, rfl⟩ : ∃ H : Nat, h = H := ⟨h.toNat, by omega⟩
    have hH : H ≤ 5 := by omega
    have he : errL k H = 0 := by rw [errL, if_pos hm]
    obtain ⟨R, HRR⟩ : ∃ P, Hid (P = 2 ^ H) := ⟨_, Lib.hid rfl⟩
    have HL : Hid (leavesV k H = R) := Lib.hid (by rw [leavesV, if_pos hm, Int.toNat_natCast, ← HRR.out])
    rw [he] at HLG
    rw [HL.out]
    clear hm h1 he hI hS
    go_enter Try.func16, Try.ntmps16
    go_upto_region 1 with (fail)
    rw [← HV.out]
    go_upto_region 6 with (first
      | ((with_reducible refine at_load 36 _ rfl ?_); refine wpList_load_row rfl 36 _ rfl _ rfl _ (TreeV I S k H).toArray (0, 0) _ HR.out Try.underlying36 rfl IT.out ?_)
      | (go_at_call 21; refine (HLG.out V).mono ?_; rintro e w1 ⟨rfl, b1⟩; have HB1 := Lib.hid b1; have kh := tree_H ((b1.block _ (Array.getElem?_eq_some_iff.1 HR.out).1).trans HR.out) HHI.out HHS.out; clear b1))
    go_loop [5, 6] (fun p i => ∃ j q : Nat, j ≤ H ∧ i = .int .i64 j ∧ p = .int .i64 q ∧ q ≤ 32 ∧ Hid (q = 2 ^ j)) (fun _ i => H - (intOf i).toNat)
    case atStart => exact ⟨0, 1, by omega, rfl, rfl, by omega, Lib.hid rfl⟩
    case round =>
      obtain ⟨j, q, hj, rfl, rfl, hq, HQ⟩ := hrel
      by_cases hlt : j < H
      · have HQ2 : Hid (2 * q = 2 ^ (j + 1)) := Lib.hid (by rw [HQ.out, Nat.pow_succ]; omega)
        have hq2 : 2 * q ≤ 32 := by
          rw [HQ2.out]
          exact Nat.le_trans (Nat.pow_le_pow_right (by omega) (by omega : j + 1 ≤ 5)) (by decide)
        go_wp2_with fail
        go_round
        case rel => exact ⟨j + 1, 2 * q, by omega, by go_num, by go_num, hq2, HQ2⟩
        case measure => simp [intOf]; omega
      · obtain rfl : j = H := by omega
        have HE : Hid (R = q) := Lib.hid (by rw [HRR.out, HQ.out])
        go_wp2_with fail
        go_ret
        exact ⟨by rw [HE.out]; rfl, HB.out.trans (HB1.out.mono HB.out.size)⟩
  · have he : errL k h = 1 := by rw [errL, if_neg hm]
    have HL : Hid (leavesV k h = 0) := Lib.hid (by rw [leavesV, if_neg hm])
    rw [he] at HLG
    rw [HL.out]
    clear hm he hI hS
    go_enter Try.func16, Try.ntmps16
    go_upto_region 1 with (fail)
    rw [← HV.out]
    go_wp2_with (first
      | ((with_reducible refine at_load 36 _ rfl ?_); refine wpList_load_row rfl 36 _ rfl _ rfl _ (TreeV I S k h).toArray (0, 0) _ HR.out Try.underlying36 rfl IT.out ?_)
      | (go_at_call 21; refine (HLG.out V).mono ?_; rintro e w1 ⟨rfl, b1⟩; have HB1 := Lib.hid b1; clear b1))
    go_ret
    exact ⟨rfl, HB.out.trans (HB1.out.mono HB.out.size)⟩
theorem Right_pur (I S : List UInt8) (k h nx nt st : Int) (w : World) (hI : I.length = 16) (hS : S.length = 32) (hk : -9223372036854775808 ≤ k ∧ k ≤ 9223372036854775807) :
    Calls Try.prog 15 #[.agg (PurseV I S k h nx nt st).toArray] w fun e w' => e = .returned (.bool (rightB k h nx nt st)) ∧ Below w.heap.size w w' := by
  obtain ⟨V, HV, HB, HR⟩ : ∃ V, Hid (V = w.alloc (.cells (PurseV I S k h nx nt st).toArray 30)) ∧ Hid (Below w.heap.size w V) ∧ Hid (V.heap[w.heap.size]? = some (.cells (PurseV I S k h nx nt st).toArray 30 (0, 0))) := ⟨_, Lib.hid rfl, Lib.hid ((Below.refl _ _).alloc (Nat.le_refl _) _), Lib.hid (heap_alloc_new _ _)⟩
  have HHI := Lib.hid hI
  have HHS := Lib.hid hS
  have IP : Hid ((Try.prog.info? 30).map (·.size) = some (PurseV I S k h nx nt st).toArray.size) := Lib.hid (by rw [info_purse, List.size_toArray, PurseV_length _ _ _ _ _ _ _ hI hS])
  have HLV := Lib.hid (fun w' => leaves_pur I S k h nx nt st w' hI hS hk)
  obtain ⟨R, HRR⟩ : ∃ R, Hid (R = rightB k h nx nt st) := ⟨_, Lib.hid rfl⟩
  have HRB : Hid (R = (decide (0 < leavesV k h) && (decide (1 ≤ st) && (decide (st ≤ 8) && (decide (0 ≤ nx) && (decide (nx ≤ nt) && decide (nt ≤ leavesV k h))))))) := Lib.hid HRR.out
  rw [← HRR.out]
  generalize leavesV k h = n at *
  clear HRR hI hS hk
  by_cases c0 : 0 < n
  · have d0 : decide (0 < n) = true := decide_eq_true c0
    by_cases c1 : 1 ≤ st
    · have d1 : decide (1 ≤ st) = true := decide_eq_true c1
      by_cases c2 : st ≤ 8
      · have d2 : decide (st ≤ 8) = true := decide_eq_true c2
        by_cases c3 : 0 ≤ nx
        · have d3 : decide (0 ≤ nx) = true := decide_eq_true c3
          by_cases c4 : nx ≤ nt
          · have d4 : decide (nx ≤ nt) = true := decide_eq_true c4
            by_cases c5 : nt ≤ n
            · have d5 : decide (nt ≤ n) = true := decide_eq_true c5
              have HX : Hid (R = true) := Lib.hid (by rw [HRB.out, decide_eq_true c0, decide_eq_true c1, decide_eq_true c2, decide_eq_true c3, decide_eq_true c4, decide_eq_true c5]; rfl)
              go_enter Try.func15, Try.ntmps15
              go_upto_region 1 with (fail)
              rw [← HV.out]
              go_wp2_with (first
                | ((with_reducible refine at_load 30 _ rfl ?_); refine wpList_load_row rfl 30 _ rfl _ rfl _ (PurseV I S k h nx nt st).toArray (0, 0) _ HR.out Try.underlying30 rfl IP.out ?_)
                | (go_at_call 17; refine (HLV.out V).mono ?_; rintro e w1 ⟨rfl, b1⟩; have HB1 := Lib.hid b1; have HR1 := (b1.block _ (Array.getElem?_eq_some_iff.1 HR.out).1).trans HR.out; have kn := purse_N HR1 HHI.out HHS.out; have kd := purse_D HR1 HHI.out HHS.out; have ks := purse_St HR1 HHI.out HHS.out; clear b1 HR1))
              go_ret
              exact ⟨by rw [HX.out]; rfl, HB.out.trans (HB1.out.mono HB.out.size)⟩
            · have d5 : decide (nt ≤ n) = false := decide_eq_false c5
              have HX : Hid (R = false) := Lib.hid (by rw [HRB.out, decide_eq_true c0, decide_eq_true c1, decide_eq_true c2, decide_eq_true c3, decide_eq_true c4, decide_eq_false c5]; simp)
              go_enter Try.func15, Try.ntmps15
              go_upto_region 1 with (fail)
              rw [← HV.out]
              go_wp2_with (first
                | ((with_reducible refine at_load 30 _ rfl ?_); refine wpList_load_row rfl 30 _ rfl _ rfl _ (PurseV I S k h nx nt st).toArray (0, 0) _ HR.out Try.underlying30 rfl IP.out ?_)
                | (go_at_call 17; refine (HLV.out V).mono ?_; rintro e w1 ⟨rfl, b1⟩; have HB1 := Lib.hid b1; have HR1 := (b1.block _ (Array.getElem?_eq_some_iff.1 HR.out).1).trans HR.out; have kn := purse_N HR1 HHI.out HHS.out; have kd := purse_D HR1 HHI.out HHS.out; have ks := purse_St HR1 HHI.out HHS.out; clear b1 HR1))
              go_ret
              exact ⟨by rw [HX.out]; rfl, HB.out.trans (HB1.out.mono HB.out.size)⟩
          · have d4 : decide (nx ≤ nt) = false := decide_eq_false c4
            have HX : Hid (R = false) := Lib.hid (by rw [HRB.out, decide_eq_true c0, decide_eq_true c1, decide_eq_true c2, decide_eq_true c3, decide_eq_false c4]; simp)
            go_enter Try.func15, Try.ntmps15
            go_upto_region 1 with (fail)
            rw [← HV.out]
            go_wp2_with (first
              | ((with_reducible refine at_load 30 _ rfl ?_); refine wpList_load_row rfl 30 _ rfl _ rfl _ (PurseV I S k h nx nt st).toArray (0, 0) _ HR.out Try.underlying30 rfl IP.out ?_)
              | (go_at_call 17; refine (HLV.out V).mono ?_; rintro e w1 ⟨rfl, b1⟩; have HB1 := Lib.hid b1; have HR1 := (b1.block _ (Array.getElem?_eq_some_iff.1 HR.out).1).trans HR.out; have kn := purse_N HR1 HHI.out HHS.out; have kd := purse_D HR1 HHI.out HHS.out; have ks := purse_St HR1 HHI.out HHS.out; clear b1 HR1))
            go_ret
            exact ⟨by rw [HX.out]; rfl, HB.out.trans (HB1.out.mono HB.out.size)⟩
        · have d3 : decide (0 ≤ nx) = false := decide_eq_false c3
          have HX : Hid (R = false) := Lib.hid (by rw [HRB.out, decide_eq_true c0, decide_eq_true c1, decide_eq_true c2, decide_eq_false c3]; simp)
          go_enter Try.func15, Try.ntmps15
          go_upto_region 1 with (fail)
          rw [← HV.out]
          go_wp2_with (first
            | ((with_reducible refine at_load 30 _ rfl ?_); refine wpList_load_row rfl 30 _ rfl _ rfl _ (PurseV I S k h nx nt st).toArray (0, 0) _ HR.out Try.underlying30 rfl IP.out ?_)
            | (go_at_call 17; refine (HLV.out V).mono ?_; rintro e w1 ⟨rfl, b1⟩; have HB1 := Lib.hid b1; have HR1 := (b1.block _ (Array.getElem?_eq_some_iff.1 HR.out).1).trans HR.out; have kn := purse_N HR1 HHI.out HHS.out; have kd := purse_D HR1 HHI.out HHS.out; have ks := purse_St HR1 HHI.out HHS.out; clear b1 HR1))
          go_ret
          exact ⟨by rw [HX.out]; rfl, HB.out.trans (HB1.out.mono HB.out.size)⟩
      · have d2 : decide (st ≤ 8) = false := decide_eq_false c2
        have HX : Hid (R = false) := Lib.hid (by rw [HRB.out, decide_eq_true c0, decide_eq_true c1, decide_eq_false c2]; simp)
        go_enter Try.func15, Try.ntmps15
        go_upto_region 1 with (fail)
        rw [← HV.out]
        go_wp2_with (first
          | ((with_reducible refine at_load 30 _ rfl ?_); refine wpList_load_row rfl 30 _ rfl _ rfl _ (PurseV I S k h nx nt st).toArray (0, 0) _ HR.out Try.underlying30 rfl IP.out ?_)
          | (go_at_call 17; refine (HLV.out V).mono ?_; rintro e w1 ⟨rfl, b1⟩; have HB1 := Lib.hid b1; have HR1 := (b1.block _ (Array.getElem?_eq_some_iff.1 HR.out).1).trans HR.out; have kn := purse_N HR1 HHI.out HHS.out; have kd := purse_D HR1 HHI.out HHS.out; have ks := purse_St HR1 HHI.out HHS.out; clear b1 HR1))
        go_ret
        exact ⟨by rw [HX.out]; rfl, HB.out.trans (HB1.out.mono HB.out.size)⟩
    · have d1 : decide (1 ≤ st) = false := decide_eq_false c1
      have HX : Hid (R = false) := Lib.hid (by rw [HRB.out, decide_eq_true c0, decide_eq_false c1]; simp)
      go_enter Try.func15, Try.ntmps15
      go_upto_region 1 with (fail)
      rw [← HV.out]
      go_wp2_with (first
        | ((with_reducible refine at_load 30 _ rfl ?_); refine wpList_load_row rfl 30 _ rfl _ rfl _ (PurseV I S k h nx nt st).toArray (0, 0) _ HR.out Try.underlying30 rfl IP.out ?_)
        | (go_at_call 17; refine (HLV.out V).mono ?_; rintro e w1 ⟨rfl, b1⟩; have HB1 := Lib.hid b1; have HR1 := (b1.block _ (Array.getElem?_eq_some_iff.1 HR.out).1).trans HR.out; have kn := purse_N HR1 HHI.out HHS.out; have kd := purse_D HR1 HHI.out HHS.out; have ks := purse_St HR1 HHI.out HHS.out; clear b1 HR1))
      go_ret
      exact ⟨by rw [HX.out]; rfl, HB.out.trans (HB1.out.mono HB.out.size)⟩
  · have d0 : decide (0 < n) = false := decide_eq_false c0
    have HX : Hid (R = false) := Lib.hid (by rw [HRB.out, decide_eq_false c0]; simp)
    go_enter Try.func15, Try.ntmps15
    go_upto_region 1 with (fail)
    rw [← HV.out]
    go_wp2_with (first
      | ((with_reducible refine at_load 30 _ rfl ?_); refine wpList_load_row rfl 30 _ rfl _ rfl _ (PurseV I S k h nx nt st).toArray (0, 0) _ HR.out Try.underlying30 rfl IP.out ?_)
      | (go_at_call 17; refine (HLV.out V).mono ?_; rintro e w1 ⟨rfl, b1⟩; have HB1 := Lib.hid b1; have HR1 := (b1.block _ (Array.getElem?_eq_some_iff.1 HR.out).1).trans HR.out; have kn := purse_N HR1 HHI.out HHS.out; have kd := purse_D HR1 HHI.out HHS.out; have ks := purse_St HR1 HHI.out HHS.out; clear b1 HR1))
    go_ret
    exact ⟨by rw [HX.out]; rfl, HB.out.trans (HB1.out.mono HB.out.size)⟩
theorem Right_ref6 (I S : List UInt8) (k h nx nt st : Int) (w : World) (hI : I.length = 16) (hS : S.length = 32) :
    Calls Try.prog 8 #[.agg (PurseV I S k h nx nt st).toArray] w fun e w' => e = .returned (.bool (rightB k h nx nt st)) ∧ Below w.heap.size w w' := by
  obtain ⟨V, HV, HB, HR⟩ : ∃ V, Hid (V = w.alloc (.cells (PurseV I S k h nx nt st).toArray 38)) ∧ Hid (Below w.heap.size w V) ∧ Hid (V.heap[w.heap.size]? = some (.cells (PurseV I S k h nx nt st).toArray 38 (0, 0))) := ⟨_, Lib.hid rfl, Lib.hid ((Below.refl _ _).alloc (Nat.le_refl _) _), Lib.hid (heap_alloc_new _ _)⟩
  have HHI := Lib.hid hI
  have HHS := Lib.hid hS
  have RT := Lib.hid (purse_T HR.out)
  have ITL : Hid ((Try.prog.info? 36).map (·.size) = some (TreeV I S k h).length) := Lib.hid (by rw [info_treeR, TreeV_length _ _ _ _ hI hS])
  have HLV := Lib.hid (fun w' => leaves_ref6 I S k h w' hI hS)
  obtain ⟨R, HRR⟩ : ∃ R, Hid (R = rightB k h nx nt st) := ⟨_, Lib.hid rfl⟩
  have HRB : Hid (R = (decide (0 < leavesV k h) && (decide (1 ≤ st) && (decide (st ≤ 8) && (decide (0 ≤ nx) && (decide (nx ≤ nt) && decide (nt ≤ leavesV k h))))))) := Lib.hid HRR.out
  rw [← HRR.out]
  generalize leavesV k h = n at *
  clear HRR hI hS
  by_cases c0 : 0 < n
  · have d0 : decide (0 < n) = true := decide_eq_true c0
    by_cases c1 : 1 ≤ st
    · have d1 : decide (1 ≤ st) = true := decide_eq_true c1
      by_cases c2 : st ≤ 8
      · have d2 : decide (st ≤ 8) = true := decide_eq_true c2
        by_cases c3 : 0 ≤ nx
        · have d3 : decide (0 ≤ nx) = true := decide_eq_true c3
          by_cases c4 : nx ≤ nt
          · have d4 : decide (nx ≤ nt) = true := decide_eq_true c4
            by_cases c5 : nt ≤ n
            · have d5 : decide (nt ≤ n) = true := decide_eq_true c5
              have HX : Hid (R = true) := Lib.hid (by rw [HRB.out, decide_eq_true c0, decide_eq_true c1, decide_eq_true c2, decide_eq_true c3, decide_eq_true c4, decide_eq_true c5]; rfl)
              go_enter Try.func8, Try.ntmps8
              go_upto_region 1 with (fail)
              rw [← HV.out]
              go_wp2_with (first
                | (refine wpList_load_mid rfl 36 _ rfl w.heap.size 0 (by rfl) (TreeV I S k h) _ RT.out Try.underlying36 rfl ITL.out ?_)
                | (go_at_call 16; refine (HLV.out V).mono ?_; rintro e w1 ⟨rfl, b1⟩; have HB1 := Lib.hid b1; have HR1 := (b1.block _ (Array.getElem?_eq_some_iff.1 HR.out).1).trans HR.out; have kn := purse_N HR1 HHI.out HHS.out; have kd := purse_D HR1 HHI.out HHS.out; have ks := purse_St HR1 HHI.out HHS.out; clear b1 HR1))
              go_ret
              exact ⟨by rw [HX.out]; rfl, HB.out.trans (HB1.out.mono HB.out.size)⟩
            · have d5 : decide (nt ≤ n) = false := decide_eq_false c5
              have HX : Hid (R = false) := Lib.hid (by rw [HRB.out, decide_eq_true c0, decide_eq_true c1, decide_eq_true c2, decide_eq_true c3, decide_eq_true c4, decide_eq_false c5]; simp)
              go_enter Try.func8, Try.ntmps8
              go_upto_region 1 with (fail)
              rw [← HV.out]
              go_wp2_with (first
                | (refine wpList_load_mid rfl 36 _ rfl w.heap.size 0 (by rfl) (TreeV I S k h) _ RT.out Try.underlying36 rfl ITL.out ?_)
                | (go_at_call 16; refine (HLV.out V).mono ?_; rintro e w1 ⟨rfl, b1⟩; have HB1 := Lib.hid b1; have HR1 := (b1.block _ (Array.getElem?_eq_some_iff.1 HR.out).1).trans HR.out; have kn := purse_N HR1 HHI.out HHS.out; have kd := purse_D HR1 HHI.out HHS.out; have ks := purse_St HR1 HHI.out HHS.out; clear b1 HR1))
              go_ret
              exact ⟨by rw [HX.out]; rfl, HB.out.trans (HB1.out.mono HB.out.size)⟩
          · have d4 : decide (nx ≤ nt) = false := decide_eq_false c4
            have HX : Hid (R = false) := Lib.hid (by rw [HRB.out, decide_eq_true c0, decide_eq_true c1, decide_eq_true c2, decide_eq_true c3, decide_eq_false c4]; simp)
            go_enter Try.func8, Try.ntmps8
            go_upto_region 1 with (fail)
            rw [← HV.out]
            go_wp2_with (first
              | (refine wpList_load_mid rfl 36 _ rfl w.heap.size 0 (by rfl) (TreeV I S k h) _ RT.out Try.underlying36 rfl ITL.out ?_)
              | (go_at_call 16; refine (HLV.out V).mono ?_; rintro e w1 ⟨rfl, b1⟩; have HB1 := Lib.hid b1; have HR1 := (b1.block _ (Array.getElem?_eq_some_iff.1 HR.out).1).trans HR.out; have kn := purse_N HR1 HHI.out HHS.out; have kd := purse_D HR1 HHI.out HHS.out; have ks := purse_St HR1 HHI.out HHS.out; clear b1 HR1))
            go_ret
            exact ⟨by rw [HX.out]; rfl, HB.out.trans (HB1.out.mono HB.out.size)⟩
        · have d3 : decide (0 ≤ nx) = false := decide_eq_false c3
          have HX : Hid (R = false) := Lib.hid (by rw [HRB.out, decide_eq_true c0, decide_eq_true c1, decide_eq_true c2, decide_eq_false c3]; simp)
          go_enter Try.func8, Try.ntmps8
          go_upto_region 1 with (fail)
          rw [← HV.out]
          go_wp2_with (first
            | (refine wpList_load_mid rfl 36 _ rfl w.heap.size 0 (by rfl) (TreeV I S k h) _ RT.out Try.underlying36 rfl ITL.out ?_)
            | (go_at_call 16; refine (HLV.out V).mono ?_; rintro e w1 ⟨rfl, b1⟩; have HB1 := Lib.hid b1; have HR1 := (b1.block _ (Array.getElem?_eq_some_iff.1 HR.out).1).trans HR.out; have kn := purse_N HR1 HHI.out HHS.out; have kd := purse_D HR1 HHI.out HHS.out; have ks := purse_St HR1 HHI.out HHS.out; clear b1 HR1))
          go_ret
          exact ⟨by rw [HX.out]; rfl, HB.out.trans (HB1.out.mono HB.out.size)⟩
      · have d2 : decide (st ≤ 8) = false := decide_eq_false c2
        have HX : Hid (R = false) := Lib.hid (by rw [HRB.out, decide_eq_true c0, decide_eq_true c1, decide_eq_false c2]; simp)
        go_enter Try.func8, Try.ntmps8
        go_upto_region 1 with (fail)
        rw [← HV.out]
        go_wp2_with (first
          | (refine wpList_load_mid rfl 36 _ rfl w.heap.size 0 (by rfl) (TreeV I S k h) _ RT.out Try.underlying36 rfl ITL.out ?_)
          | (go_at_call 16; refine (HLV.out V).mono ?_; rintro e w1 ⟨rfl, b1⟩; have HB1 := Lib.hid b1; have HR1 := (b1.block _ (Array.getElem?_eq_some_iff.1 HR.out).1).trans HR.out; have kn := purse_N HR1 HHI.out HHS.out; have kd := purse_D HR1 HHI.out HHS.out; have ks := purse_St HR1 HHI.out HHS.out; clear b1 HR1))
        go_ret
        exact ⟨by rw [HX.out]; rfl, HB.out.trans (HB1.out.mono HB.out.size)⟩
    · have d1 : decide (1 ≤ st) = false := decide_eq_false c1
      have HX : Hid (R = false) := Lib.hid (by rw [HRB.out, decide_eq_true c0, decide_eq_false c1]; simp)
      go_enter Try.func8, Try.ntmps8
      go_upto_region 1 with (fail)
      rw [← HV.out]
      go_wp2_with (first
        | (refine wpList_load_mid rfl 36 _ rfl w.heap.size 0 (by rfl) (TreeV I S k h) _ RT.out Try.underlying36 rfl ITL.out ?_)
        | (go_at_call 16; refine (HLV.out V).mono ?_; rintro e w1 ⟨rfl, b1⟩; have HB1 := Lib.hid b1; have HR1 := (b1.block _ (Array.getElem?_eq_some_iff.1 HR.out).1).trans HR.out; have kn := purse_N HR1 HHI.out HHS.out; have kd := purse_D HR1 HHI.out HHS.out; have ks := purse_St HR1 HHI.out HHS.out; clear b1 HR1))
      go_ret
      exact ⟨by rw [HX.out]; rfl, HB.out.trans (HB1.out.mono HB.out.size)⟩
  · have d0 : decide (0 < n) = false := decide_eq_false c0
    have HX : Hid (R = false) := Lib.hid (by rw [HRB.out, decide_eq_false c0]; simp)
    go_enter Try.func8, Try.ntmps8
    go_upto_region 1 with (fail)
    rw [← HV.out]
    go_wp2_with (first
      | (refine wpList_load_mid rfl 36 _ rfl w.heap.size 0 (by rfl) (TreeV I S k h) _ RT.out Try.underlying36 rfl ITL.out ?_)
      | (go_at_call 16; refine (HLV.out V).mono ?_; rintro e w1 ⟨rfl, b1⟩; have HB1 := Lib.hid b1; have HR1 := (b1.block _ (Array.getElem?_eq_some_iff.1 HR.out).1).trans HR.out; have kn := purse_N HR1 HHI.out HHS.out; have kd := purse_D HR1 HHI.out HHS.out; have ks := purse_St HR1 HHI.out HHS.out; clear b1 HR1))
    go_ret
    exact ⟨by rw [HX.out]; rfl, HB.out.trans (HB1.out.mono HB.out.size)⟩
end Go.Proofs.Ytcnelahmbfggcaa

/- The walks of purse's Left, Crash, New, Owns, Sign. -/
namespace Go.Proofs.Ytcnelahmbfggcaa
open Go Go.RowKit
set_option maxRecDepth 100000
set_option maxHeartbeats 2000000
attribute [local irreducible] Wild.walk WildF.walk

theorem leavesV_bd (k h : Int) : 0 ≤ leavesV k h ∧ leavesV k h ≤ 32 := by
  rw [leavesV]
  split
  · rename_i hm
    obtain ⟨-, h2, h3⟩ := (mayT_iff k h).1 hm
    have h4 : 2 ^ h.toNat ≤ 32 := Nat.pow_le_pow_right (n := 2) (by decide) (show h.toNat ≤ 5 by omega)
    exact ⟨Int.natCast_nonneg _, Int.ofNat_le.2 h4⟩
  · omega
theorem Left_pur (I S : List UInt8) (k h nx nt st : Int) (w : World) (hI : I.length = 16) (hS : S.length = 32) (hk : -9223372036854775808 ≤ k ∧ k ≤ 9223372036854775807) (hn : 0 ≤ nx ∧ nx ≤ 32) :
    Calls Try.prog 12 #[.agg (PurseV I S k h nx nt st).toArray] w fun e w' => e = .returned (.int .i64 (leavesV k h - nx)) ∧ Below w.heap.size w w' := by
  obtain ⟨V, HV, HB, HR⟩ : ∃ V, Hid (V = w.alloc (.cells (PurseV I S k h nx nt st).toArray 30)) ∧ Hid (Below w.heap.size w V) ∧ Hid (V.heap[w.heap.size]? = some (.cells (PurseV I S k h nx nt st).toArray 30 (0, 0))) := ⟨_, Lib.hid rfl, Lib.hid ((Below.refl _ _).alloc (Nat.le_refl _) _), Lib.hid (heap_alloc_new _ _)⟩
  have IPL : Hid ((Try.prog.info? 30).map (·.size) = some (PurseV I S k h nx nt st).length) := Lib.hid (by rw [info_purse, PurseV_length _ _ _ _ _ _ _ hI hS])
  have HLV := Lib.hid (fun w' => leaves_pur I S k h nx nt st w' hI hS hk)
  have HHI := Lib.hid hI
  have HHS := Lib.hid hS
  have HRL : Hid (w.heap.size < V.heap.size) := Lib.hid (Array.getElem?_eq_some_iff.1 HR.out).1
  obtain ⟨n1, n2⟩ := leavesV_bd k h
  generalize leavesV k h = n at *
  obtain ⟨m1, m2⟩ := hn
  have ew : wrap64 (n - nx) = n - nx := by unfold wrap64; omega
  clear hI hS hk
  go_enter Try.func12, Try.ntmps12
  go_upto_region 1 with (fail)
  rw [← HV.out]
  refine Wild.region_b (fun k => match k with | 1 => some (.fix (.int .i64 n)) | _ => none) (fun _ => []) rfl (by kernel_rfl) (fun vs hvs => ?_)
  have h1 : vs 1 = .int .i64 n := hvs 1 _ rfl
  refine Wild.walk_load 30 _ _ _ (PurseV I S k h nx nt st) _ rfl (by rfl) rfl rfl (fun w' hw => rangeAt_blw (rangeAt_row HR.out) hw.1) Try.underlying30 rfl IPL.out ?_
  simp only [Act.put, List.setIfInBounds_toArray, List.set_cons_zero, List.set_cons_succ]
  refine Wild.walk_wild _ rfl (by rfl) (fun w' hw K hK => ?_) ?_
  · go_simp
    go_at_call 17
    refine (HLV.out w').mono ?_
    rintro e w'' ⟨rfl, hb⟩
    exact hK.out _ _ (hw.1.trans (hb.mono hw.1.size)) hb rfl trivial
  rw [h1]
  simp only [Act.put, List.setIfInBounds_toArray, List.set_cons_zero, List.set_cons_succ]
  refine Wild.walk_simple rfl (by rfl) (by rfl) (fun K hK => ?_); go_big_quiet_op; first | (refine hK _ ?_; clear hK K) | (refine ⟨_, fun _ _ => rfl, hK _ ?_⟩; clear hK K)
  refine Wild.walk_cell 3 _ _ _ (.int .i64 nx) _ rfl (by rfl) rfl rfl (fun w' hw => purse_N ((hw.1.block _ HRL.out).trans HR.out) HHI.out HHS.out) Try.underlying3 rfl ?_
  simp only [Act.put, List.setIfInBounds_toArray, List.set_cons_zero, List.set_cons_succ]
  refine Wild.walk_simple rfl (by rfl) (by rfl) (fun K hK => ?_); go_big_quiet_op; first | (refine hK _ ?_; clear hK K) | (refine ⟨_, fun _ _ => rfl, hK _ ?_⟩; clear hK K)
  refine Wild.walk_simple rfl (by rfl) (by rfl) (fun K hK => ?_); go_big_quiet_op; first | (refine hK _ ?_; clear hK K) | (refine ⟨_, fun _ _ => rfl, hK _ ?_⟩; clear hK K)
  refine Wild.walk_nil ?_
  intro w5 hw5 _
  have HB5 : Hid (Below w.heap.size w w5) := Lib.hid (HB.out.trans (Below.mono hw5 HB.out.size))
  clear hw5 hvs h1
  try simp only [ew]
  go_wp2_with fail
  go_ret
  exact ⟨rfl, HB5.out⟩
theorem Crash_pur (I S : List UInt8) (k h nx nt st : Int) (w : World) (hI : I.length = 16) (hS : S.length = 32) :
    Calls Try.prog 10 #[.agg (PurseV I S k h nx nt st).toArray] w fun e w' => e = .returned (.agg (PurseV I S k h nt nt st).toArray) ∧ Below w.heap.size w w' := by
  obtain ⟨Z, HZ⟩ : ∃ Z, Hid (Z = (PurseV zero16 zero32 0 0 0 0 0).toArray) := ⟨_, Lib.hid rfl⟩
  obtain ⟨W0, HW0, HB0, HS0, HR0⟩ : ∃ V, Hid (V = w.alloc (.cells (PurseV I S k h nx nt st).toArray 30)) ∧ Hid (Below w.heap.size w V) ∧ Hid (V.heap.size = w.heap.size + 1) ∧ Hid (V.heap[w.heap.size]? = some (.cells (PurseV I S k h nx nt st).toArray 30 (0, 0))) := ⟨_, Lib.hid rfl, Lib.hid ((Below.refl _ _).alloc (Nat.le_refl _) _), Lib.hid (by simp), Lib.hid (heap_alloc_new _ _)⟩
  obtain ⟨V, HV, HVB, HVS, HVR, HVZ⟩ : ∃ V, Hid (V = W0.alloc (.cells Z 30)) ∧ Hid (Below w.heap.size w V) ∧ Hid (V.heap.size = w.heap.size + 2) ∧ Hid (V.heap[w.heap.size]? = some (.cells (PurseV I S k h nx nt st).toArray 30 (0, 0))) ∧ Hid (V.heap[w.heap.size + 1]? = some (.cells Z 30 (0, 0))) :=
    ⟨_, Lib.hid rfl, Lib.hid (HB0.out.alloc HB0.out.size _), Lib.hid (by simp [HS0.out]), Lib.hid ((heap_alloc_old _ _ (by rw [HS0.out]; omega)).trans HR0.out), Lib.hid (by rw [← HS0.out]; exact heap_alloc_new _ _)⟩
  have kd := purse_D HVR.out hI hS
  have kn := purse_N HVR.out hI hS
  have kf := frozen_of_row V w.heap.size 50 _ _ HVR.out
  have HX := Lib.hid (purse_setN HVR.out hI hS nt)
  have HXZ : Hid ((V.setCell ⟨w.heap.size, 50, none⟩ (.int .i64 nt)).heap[w.heap.size + 1]? = some (.cells Z 30 (0, 0))) := Lib.hid ((heap_setCell_other _ _ _ _ (by simp)).trans HVZ.out)
  have HXB : Hid (Below w.heap.size w (V.setCell ⟨w.heap.size, 50, none⟩ (.int .i64 nt))) := Lib.hid (HVB.out.setCell (Nat.le_refl _) _)
  obtain ⟨X, HXd⟩ : ∃ X, Hid (X = V.setCell ⟨w.heap.size, 50, none⟩ (.int .i64 nt)) := ⟨_, Lib.hid rfl⟩
  rw [← HXd.out] at HX HXZ HXB
  have IP : Hid ((Try.prog.info? 30).map (·.size) = some (PurseV I S k h nt nt st).toArray.size) := Lib.hid (by rw [info_purse, List.size_toArray, PurseV_length _ _ _ _ _ _ _ hI hS])
  have HZL : Hid (Z.size = (PurseV I S k h nt nt st).toArray.size) := Lib.hid (by rw [HZ.out, List.size_toArray, List.size_toArray, PurseV_length _ _ _ _ _ _ _ hI hS]; rfl)
  have HKO := Lib.hid (PurseV_one I S k h nt nt st)
  clear hI hS
  go_enter Try.func10, Try.ntmps10
  go_upto_region 1 with (fail)
  rw [← HW0.out]
  change Code.wp _ _ _ _ (W0.alloc (.cells (PurseV zero16 zero32 0 0 0 0 0).toArray 30))
  rw [← HZ.out, ← HV.out]
  go_upto_region 2 with (fail)
  change Code.wp _ _ _ _ (V.setCell ⟨w.heap.size, 50, none⟩ (.int .i64 nt))
  rw [← HXd.out]
  go_wp2_with (first
    | ((with_reducible refine at_load 30 _ rfl ?_); refine wpList_load_row rfl 30 _ rfl _ rfl _ (PurseV I S k h nt nt st).toArray (0, 0) _ HX.out Try.underlying30 rfl IP.out ?_)
    | ((with_reducible refine at_store 30 _ _ rfl ?_); refine wpList_store_row rfl 30 _ _ rfl _ (PurseV I S k h nt nt st).toArray rfl rfl 30 _ HXZ.out IP.out HZL.out HKO.out ?_))
  exact bodyPost_ret (results_cell_row rfl _ _ (w.heap.size + 1) 30 _ (0, 0) _ rfl (setRow_heap _ _ _ _ _ _ HXZ.out) Try.underlying30 rfl IP.out) rfl ⟨rfl, below_row HXB.out (by omega) _⟩
theorem Owns_pur (I S : List UInt8) (k h nx nt st : Int) (tv sv : Value) (text s : List UInt8) (w : World) (hI : I.length = 16) (hS : S.length = 32) (hk : -9223372036854775808 ≤ k ∧ k ≤ 9223372036854775807) (ht : Sl w tv text) (hs : Sl w sv s) (htl : text.length ≤ 1000000) (hsl : s.length ≤ 1000000) (hm : mayT k h = true) :
    Calls Try.prog 14 #[.agg (PurseV I S k h nx nt st).toArray, tv, sv] w fun e w' => e = .returned (.bool (verV (pubL I S k h) text s == 0)) ∧ Below w.heap.size w w' := by
  obtain ⟨V, HV, HB, HR⟩ : ∃ V, Hid (V = w.alloc (.cells (PurseV I S k h nx nt st).toArray 30)) ∧ Hid (Below w.heap.size w V) ∧ Hid (V.heap[w.heap.size]? = some (.cells (PurseV I S k h nx nt st).toArray 30 (0, 0))) := ⟨_, Lib.hid rfl, Lib.hid ((Below.refl _ _).alloc (Nat.le_refl _) _), Lib.hid (heap_alloc_new _ _)⟩
  have RT := Lib.hid (purse_T HR.out)
  have ITL : Hid ((Try.prog.info? 25).map (·.size) = some (TreeV I S k h).length) := Lib.hid (by rw [info_tree, TreeV_length _ _ _ _ hI hS])
  have HPB := Lib.hid (fun w' => Public_lms I S k h w' hI hS hk)
  have e1 : errL k h = 0 := by rw [errL, if_pos hm]
  rw [e1] at HPB
  have HVR := Lib.hid (fun pv w' a b c => Verify_lms pv tv sv (pubL I S k h) text s w' a b c htl hsl)
  generalize pubL I S k h = Pk at *
  obtain ⟨vv, Hvv⟩ : ∃ vv, Hid (vv = verV Pk text s) := ⟨_, Lib.hid rfl⟩
  rw [← Hvv.out] at HVR ⊢
  have HT := Lib.hid (ht.later HB.out)
  have HS := Lib.hid (hs.later HB.out)
  obtain ⟨ta, tc, rfl⟩ := ht.shape
  obtain ⟨sa, sc, rfl⟩ := hs.shape
  clear ht hs hI hS hk hm e1
  go_enter Try.func14, Try.ntmps14
  go_upto_region 1 with (fail)
  rw [← HV.out]
  go_wp2_with (first
    | (refine wpList_load_mid rfl 25 _ rfl w.heap.size 0 (by rfl) (TreeV I S k h) _ RT.out Try.underlying25 rfl ITL.out ?_)
    | (go_at_call 19; refine (HPB.out V).mono ?_; rintro e w1 ⟨pv, rfl, s1, b1⟩; have HP1 := Lib.hid s1; have HB1 := Lib.hid b1; clear s1 b1)
    | (go_at_call 20; refine (HVR.out _ w1 HP1.out (HT.out.later HB1.out) (HS.out.later HB1.out)).mono ?_; rintro e w2 ⟨rfl, b2⟩; have HB2 := Lib.hid (HB1.out.trans (b2.mono HB1.out.size)); clear b2))
  go_ret
  exact ⟨rfl, HB.out.trans (HB2.out.mono HB.out.size)⟩
end Go.Proofs.Ytcnelahmbfggcaa

/- The walks of purse's New and Sign. -/
namespace Go.Proofs.Ytcnelahmbfggcaa
open Go Go.RowKit
set_option maxRecDepth 100000
set_option maxHeartbeats 2000000
attribute [local irreducible] Wild.walk WildF.walk

theorem built_purse (parts : List (Nat × Value)) : Try.prog.built 30 parts = Instr.fill ([(0, 50), (50, 1), (51, 1), (52, 1)].toArray[·]?) (PurseV zero16 zero32 0 0 0 0 0).toArray parts := by kernel_rfl
theorem new_built (I S : List UInt8) (k h st : Int) (hI : I.length = 16) (hS : S.length = 32) :
    Try.prog.built 30 [(0, .agg (TreeV I S k h).toArray), (3, .int .i64 st)] = some (PurseV I S k h 0 0 st).toArray := by
  rw [built_purse]
  have h1 := fill_step ([(0, 50), (50, 1), (51, 1), (52, 1)].toArray[·]?) [] (TreeV zero16 zero32 0 0) (TreeV I S k h) [.int .i64 0, .int .i64 0, .int .i64 0] 0 (.agg (TreeV I S k h).toArray) [(3, .int .i64 st)] (by rw [TreeV_length _ _ _ _ hI hS]; rfl) rfl (by rw [TreeV_length _ _ _ _ hI hS, TreeV_length _ _ _ _ rfl rfl])
  have h2 := fill_step ([(0, 50), (50, 1), (51, 1), (52, 1)].toArray[·]?) (TreeV I S k h ++ [.int .i64 0, .int .i64 0]) [.int .i64 0] [.int .i64 st] [] 3 (.int .i64 st) [] (by rw [List.length_append, TreeV_length _ _ _ _ hI hS]; rfl) rfl rfl
  simp only [List.nil_append, List.append_assoc, List.cons_append, List.append_nil] at h1 h2
  have h0 : (PurseV zero16 zero32 0 0 0 0 0).toArray = (TreeV zero16 zero32 0 0 ++ [Value.int .i64 0, Value.int .i64 0, Value.int .i64 0]).toArray := rfl
  rw [h0, h1, h2]
  rfl
theorem purse_built0 : Try.prog.built 30 [] = some (PurseV zero16 zero32 0 0 0 0 0).toArray := by rw [built_purse]; rfl
theorem New_pur (I S : List UInt8) (k h st : Int) (w : World) (hI : I.length = 16) (hS : S.length = 32) (hk : -9223372036854775808 ≤ k ∧ k ≤ 9223372036854775807) :
    Calls Try.prog 7 #[.agg (TreeV I S k h).toArray, .int .i64 st] w fun e w' => e = .returned (.tuple #[.agg (if rightB k h 0 0 st then PurseV I S k h 0 0 st else PurseV zero16 zero32 0 0 0 0 0).toArray, .int .i64 (if rightB k h 0 0 st then 0 else 1)]) ∧ Below w.heap.size w w' := by
  obtain ⟨Z, HZ⟩ : ∃ Z, Hid (Z = (PurseV zero16 zero32 0 0 0 0 0).toArray) := ⟨_, Lib.hid rfl⟩
  obtain ⟨K, HK⟩ : ∃ K, Hid (K = (PurseV I S k h 0 0 st).toArray) := ⟨_, Lib.hid rfl⟩
  obtain ⟨W0, HW0, HB0, HS0, HR0⟩ : ∃ V, Hid (V = w.alloc (.cells (TreeV I S k h).toArray 25)) ∧ Hid (Below w.heap.size w V) ∧ Hid (V.heap.size = w.heap.size + 1) ∧ Hid (V.heap[w.heap.size]? = some (.cells (TreeV I S k h).toArray 25 (0, 0))) := ⟨_, Lib.hid rfl, Lib.hid ((Below.refl _ _).alloc (Nat.le_refl _) _), Lib.hid (by simp), Lib.hid (heap_alloc_new _ _)⟩
  obtain ⟨V, HV, HVB, HVS, HVR, HVZ⟩ : ∃ V, Hid (V = W0.alloc (.cells Z 30)) ∧ Hid (Below w.heap.size w V) ∧ Hid (V.heap.size = w.heap.size + 2) ∧ Hid (V.heap[w.heap.size]? = some (.cells (TreeV I S k h).toArray 25 (0, 0))) ∧ Hid (V.heap[w.heap.size + 1]? = some (.cells Z 30 (0, 0))) :=
    ⟨_, Lib.hid rfl, Lib.hid (HB0.out.alloc HB0.out.size _), Lib.hid (by simp [HS0.out]), Lib.hid ((heap_alloc_old _ _ (by rw [HS0.out]; omega)).trans HR0.out), Lib.hid (by rw [← HS0.out]; exact heap_alloc_new _ _)⟩
  obtain ⟨X, HX, HXB, HXZ, HXK⟩ : ∃ X, Hid (X = V.alloc (.cells K 30)) ∧ Hid (Below w.heap.size w X) ∧ Hid (X.heap[w.heap.size + 1]? = some (.cells Z 30 (0, 0))) ∧ Hid (X.heap[w.heap.size + 2]? = some (.cells K 30 (0, 0))) :=
    ⟨_, Lib.hid rfl, Lib.hid (HVB.out.alloc HVB.out.size _), Lib.hid ((heap_alloc_old _ _ (by rw [HVS.out]; omega)).trans HVZ.out), Lib.hid (by rw [← HVS.out]; exact heap_alloc_new _ _)⟩
  have IT : Hid ((Try.prog.info? 25).map (·.size) = some (TreeV I S k h).toArray.size) := Lib.hid (by rw [info_tree, List.size_toArray, TreeV_length _ _ _ _ hI hS])
  have IK : Hid ((Try.prog.info? 30).map (·.size) = some K.size) := Lib.hid (by rw [HK.out, info_purse, List.size_toArray, PurseV_length _ _ _ _ _ _ _ hI hS])
  have IZ : Hid ((Try.prog.info? 30).map (·.size) = some Z.size) := Lib.hid (by rw [HZ.out, info_purse]; rfl)
  have HKS : Hid (K.size = 53) := Lib.hid (by rw [HK.out, List.size_toArray, PurseV_length _ _ _ _ _ _ _ hI hS])
  have HZS : Hid (Z.size = 53) := Lib.hid (by rw [HZ.out]; rfl)
  have HKO : Hid (K.all (·.oneCell') = true) := Lib.hid (by rw [HK.out]; exact PurseV_one _ _ _ _ _ _ _)
  have HZO : Hid (Z.all (·.oneCell') = true) := Lib.hid (by rw [HZ.out]; exact PurseV_one _ _ _ _ _ _ _)
  have HBK : Hid (Try.prog.built 30 [(0, .agg (TreeV I S k h).toArray), (3, .int .i64 st)] = some K) := Lib.hid (by rw [HK.out]; exact new_built I S k h st hI hS)
  have HBZ : Hid (Try.prog.built 30 [] = some Z) := Lib.hid (by rw [HZ.out]; exact purse_built0)
  have HRI := Lib.hid (fun w' => Right_pur I S k h 0 0 st w' hI hS hk)
  rw [← HK.out] at HRI
  cases hr : rightB k h 0 0 st
  · rw [hr] at HRI
    have HG : Hid ((if false = true then PurseV I S k h 0 0 st else PurseV zero16 zero32 0 0 0 0 0).toArray = Z ∧ (if false = true then (0 : Int) else 1) = 1) := Lib.hid ⟨HZ.out.symm, rfl⟩
    rw [HG.out.1, HG.out.2]
    clear hr hI hS hk
    go_enter Try.func7, Try.ntmps7
    go_upto_region 1 with (fail)
    rw [← HW0.out]
    change Code.wp _ _ _ _ (W0.alloc (.cells (PurseV zero16 zero32 0 0 0 0 0).toArray 30))
    rw [← HZ.out, ← HV.out]
    go_upto_region 2 with (first
      | ((with_reducible refine at_load 25 _ rfl ?_); refine wpList_load_row rfl 25 _ rfl _ rfl _ (TreeV I S k h).toArray (0, 0) _ HVR.out Try.underlying25 rfl IT.out ?_)
      | ((with_reducible refine at_build 30 _ rfl ?_); refine wpList_built rfl 30 [(0, .tmp 7), (3, .tmp 8)] rfl [(0, .agg (TreeV I S k h).toArray), (3, .int .i64 st)] rfl _ HBK.out ?_)
      | ((with_reducible refine at_store 30 _ _ rfl ?_); first | refine wpList_store_new rfl 30 _ _ rfl K rfl rfl 30 _ IK.out (by rw [HKS.out]; rfl) HKO.out ?_))
    rw [← HX.out, HVS.out]
    go_wp2_with (first
      | ((with_reducible refine at_load 30 _ rfl ?_); first | refine wpList_load_row rfl 30 _ rfl _ rfl _ K (0, 0) _ HXK.out Try.underlying30 rfl IK.out ?_ | refine wpList_load_row rfl 30 _ rfl _ rfl _ K (0, 0) _ HXK1.out Try.underlying30 rfl IK.out ?_)
      | (go_at_call 15; refine (HRI.out X).mono ?_; rintro e w1 ⟨rfl, b1⟩; have HB1 := Lib.hid b1; have HX1 := Lib.hid ((b1.block _ (Array.getElem?_eq_some_iff.1 HXZ.out).1).trans HXZ.out); have HXK1 := Lib.hid ((b1.block _ (Array.getElem?_eq_some_iff.1 HXK.out).1).trans HXK.out); clear b1)
      | ((with_reducible refine at_build 30 _ rfl ?_); refine wpList_built rfl 30 [] rfl [] rfl _ HBZ.out ?_)
      | ((with_reducible refine at_store 30 _ _ rfl ?_); refine wpList_store_same rfl 30 _ _ rfl _ Z rfl rfl 30 HX1.out IZ.out HZO.out ?_))
    exact bodyPost_ret (results_cell_row_tmp rfl _ _ (w.heap.size + 1) 30 _ (0, 0) _ rfl (HX1.out) Try.underlying30 rfl IZ.out) rfl ⟨rfl, HXB.out.trans (HB1.out.mono HXB.out.size)⟩
  · rw [hr] at HRI
    have HG : Hid ((if true = true then PurseV I S k h 0 0 st else PurseV zero16 zero32 0 0 0 0 0).toArray = K ∧ (if true = true then (0 : Int) else 1) = 0) := Lib.hid ⟨HK.out.symm, rfl⟩
    rw [HG.out.1, HG.out.2]
    clear hr hI hS hk
    go_enter Try.func7, Try.ntmps7
    go_upto_region 1 with (fail)
    rw [← HW0.out]
    change Code.wp _ _ _ _ (W0.alloc (.cells (PurseV zero16 zero32 0 0 0 0 0).toArray 30))
    rw [← HZ.out, ← HV.out]
    go_upto_region 2 with (first
      | ((with_reducible refine at_load 25 _ rfl ?_); refine wpList_load_row rfl 25 _ rfl _ rfl _ (TreeV I S k h).toArray (0, 0) _ HVR.out Try.underlying25 rfl IT.out ?_)
      | ((with_reducible refine at_build 30 _ rfl ?_); refine wpList_built rfl 30 [(0, .tmp 7), (3, .tmp 8)] rfl [(0, .agg (TreeV I S k h).toArray), (3, .int .i64 st)] rfl _ HBK.out ?_)
      | ((with_reducible refine at_store 30 _ _ rfl ?_); first | refine wpList_store_new rfl 30 _ _ rfl K rfl rfl 30 _ IK.out (by rw [HKS.out]; rfl) HKO.out ?_))
    rw [← HX.out, HVS.out]
    go_wp2_with (first
      | ((with_reducible refine at_load 30 _ rfl ?_); first | refine wpList_load_row rfl 30 _ rfl _ rfl _ K (0, 0) _ HXK.out Try.underlying30 rfl IK.out ?_ | refine wpList_load_row rfl 30 _ rfl _ rfl _ K (0, 0) _ HXK1.out Try.underlying30 rfl IK.out ?_)
      | (go_at_call 15; refine (HRI.out X).mono ?_; rintro e w1 ⟨rfl, b1⟩; have HB1 := Lib.hid b1; have HX1 := Lib.hid ((b1.block _ (Array.getElem?_eq_some_iff.1 HXZ.out).1).trans HXZ.out); have HXK1 := Lib.hid ((b1.block _ (Array.getElem?_eq_some_iff.1 HXK.out).1).trans HXK.out); clear b1)
      | ((with_reducible refine at_build 30 _ rfl ?_); refine wpList_built rfl 30 [] rfl [] rfl _ HBZ.out ?_)
      | ((with_reducible refine at_store 30 _ _ rfl ?_); refine wpList_store_row rfl 30 _ _ rfl _ K rfl rfl 30 _ HX1.out IK.out (by rw [HKS.out, HZS.out]) HKO.out ?_))
    exact bodyPost_ret (results_cell_row_tmp rfl _ _ (w.heap.size + 1) 30 _ (0, 0) _ rfl (setRow_heap _ _ _ _ _ _ HX1.out) Try.underlying30 rfl IK.out) rfl ⟨rfl, below_row (HXB.out.trans (HB1.out.mono HXB.out.size)) (by omega) _⟩
theorem results_cell_row_tmp3 {P : Program} {fn : Func} {p u1 u2 u3 : Tmp} {ty : TypeId} (h : fn.results = #[.cell p ty, .tmp u1, .tmp u2, .tmp u3]) (tmps : Array Value) (w : World) (g : Nat) (t : TypeId) (cs : Array Value) (fr : Nat × Nat) (d : TypeDesc)
    (hp : tmps.getD p undef = .pointer (some ⟨g, 0, none⟩)) (hg : w.heap[g]? = some (.cells cs t fr))
    (hu : P.underlying ty = some d) (hd : (match d with | .struct _ | .array _ _ => true | _ => false) = true) (hi : (P.info? ty).map (·.size) = some cs.size) :
    (results fn tmps).run P w = .ok (.tuple #[.agg cs, tmps.getD u1 undef, tmps.getD u2 undef, tmps.getD u3 undef]) w := by
  have hp' : tmps[p]?.getD undef = .pointer (some ⟨g, 0, none⟩) := by simpa using hp
  simp [results, h, hp', asAddr, run_loadVar_row w g t ty cs fr d hg hu hd hi]
theorem cell_same {w w' : World} {b : Nat} (h : w'.heap[b]? = w.heap[b]?) (o : Nat) : w'.cell? ⟨b, o, none⟩ = w.cell? ⟨b, o, none⟩ := by
  unfold World.cell?
  simp only [h]
theorem Sl.away {w w' : World} {v : Value} {l : List UInt8} {t1 t2 : TypeId} {b1 b2 : Nat} {I1 S1 I2 S2 : List UInt8} {k1 h1 n1 d1 s1 k2 h2 n2 d2 s2 : Int} (hs : Sl w v l) (hl : 48 < l.length)
    (r1 : w.heap[b1]? = some (.cells (PurseV I1 S1 k1 h1 n1 d1 s1).toArray t1 (0, 0))) (i1 : I1.length = 16) (j1 : S1.length = 32)
    (r2 : w.heap[b2]? = some (.cells (PurseV I2 S2 k2 h2 n2 d2 s2).toArray t2 (0, 0))) (i2 : I2.length = 16) (j2 : S2.length = 32)
    (hb : ∀ blk, blk < w.heap.size → blk ≠ b1 → blk ≠ b2 → w'.heap[blk]? = w.heap[blk]?) : Sl w' v l := by
  rcases hs with ⟨rfl, a, c, rfl⟩ | ⟨b, off, cap, rfl, e0, e1, e2, e3⟩
  · simp at hl
  · have no : ∀ {t : TypeId} {bb : Nat} {I S : List UInt8} {k h n d s : Int}, w.heap[bb]? = some (.cells (PurseV I S k h n d s).toArray t (0, 0)) → I.length = 16 → S.length = 32 → b ≠ bb := by
      intro t bb I S k h n d s r i j e
      subst e
      by_cases ho : off ≤ 48
      · have := e3 (48 - off) (by omega)
        rw [show off + (48 - off) = 48 by omega, purse_W r i j] at this
        simp at this
      · have := e3 0 (by omega)
        have hc := World.block_lt_of_cell? _ _ this
        rw [Nat.add_zero] at this
        have hlen := PurseV_length I S k h n d s i j
        by_cases h53 : off < 53
        · have hv : ∃ v : Int, w.cell? ⟨b, off, none⟩ = some (.int .i64 v) := by
            obtain h' | h' | h' | h' : off = 49 ∨ off = 50 ∨ off = 51 ∨ off = 52 := by omega
            · subst h'; exact ⟨_, purse_H r i j⟩
            · subst h'; exact ⟨_, purse_N r i j⟩
            · subst h'; exact ⟨_, purse_D r i j⟩
            · subst h'; exact ⟨_, purse_St r i j⟩
          obtain ⟨v, hv⟩ := hv
          rw [hv] at this
          simp at this
        · rw [cell_of_row w b off _ t (0, 0) r, List.getElem?_toArray, List.getElem?_eq_none (by omega)] at this
          cases this
    refine .inr ⟨b, off, cap, rfl, e0, e1, e2, fun i hi => ?_⟩
    have h0 := e3 i hi
    rw [cell_same (hb b (World.block_lt_of_cell? _ _ h0) (no r1 i1 j1) (no r2 i2 j2))]
    exact h0
theorem lsig_long (I S : List UInt8) (k : Int) (H q : Nat) (text : List UInt8) (hm : mayT k H = true) (hq : q < 4294967296) : 48 < (lsigN I S k H q text).length := by
  obtain ⟨m1, m2, m3⟩ := (mayT_iff _ _).1 hm
  obtain ⟨K, rfl⟩ : ∃ K : Nat, k = K := ⟨k.toNat, by rcases (isW_iff k).1 m1 with h | h | h | h <;> omega⟩
  rw [(lsig_facts I S K H q text hm hq).1]
  omega
theorem rightB_iff (k h nx nt st : Int) : rightB k h nx nt st = true ↔ 0 < leavesV k h ∧ 1 ≤ st ∧ st ≤ 8 ∧ 0 ≤ nx ∧ nx ≤ nt ∧ nt ≤ leavesV k h := by simp [rightB]
theorem leaves_pos (k h : Int) (h0 : 0 < leavesV k h) : mayT k h = true := by
  cases hm : mayT k h
  · rw [leavesV, hm] at h0; simp at h0
  · rfl
theorem Sign_spent (I S : List UInt8) (k h nt st : Int) (tv : Value) (w : World) (hI : I.length = 16) (hS : S.length = 32) (hk : -9223372036854775808 ≤ k ∧ k ≤ 9223372036854775807) (text : List UInt8) (ht : Sl w tv text) :
    Calls Try.prog 11 #[.agg (PurseV I S k h (leavesV k h) nt st).toArray, tv] w fun e w' => e = .returned (.tuple #[.agg (PurseV I S k h (leavesV k h) nt st).toArray, .slice none 0 0, .bool false, .int .i64 12]) ∧ Below w.heap.size w w' := by
  obtain ⟨Z, HZ⟩ : ∃ Z, Hid (Z = (PurseV zero16 zero32 0 0 0 0 0).toArray) := ⟨_, Lib.hid rfl⟩
  obtain ⟨W0, HW0, HB0, HS0, HR0⟩ : ∃ V, Hid (V = w.alloc (.cells (PurseV I S k h (leavesV k h) nt st).toArray 30)) ∧ Hid (Below w.heap.size w V) ∧ Hid (V.heap.size = w.heap.size + 1) ∧ Hid (V.heap[w.heap.size]? = some (.cells (PurseV I S k h (leavesV k h) nt st).toArray 30 (0, 0))) := ⟨_, Lib.hid rfl, Lib.hid ((Below.refl _ _).alloc (Nat.le_refl _) _), Lib.hid (by simp), Lib.hid (heap_alloc_new _ _)⟩
  obtain ⟨V, HV, HVB, HVS, HVR, HVZ⟩ : ∃ V, Hid (V = W0.alloc (.cells Z 30)) ∧ Hid (Below w.heap.size w V) ∧ Hid (V.heap.size = w.heap.size + 2) ∧ Hid (V.heap[w.heap.size]? = some (.cells (PurseV I S k h (leavesV k h) nt st).toArray 30 (0, 0))) ∧ Hid (V.heap[w.heap.size + 1]? = some (.cells Z 30 (0, 0))) :=
    ⟨_, Lib.hid rfl, Lib.hid (HB0.out.alloc HB0.out.size _), Lib.hid (by simp [HS0.out]), Lib.hid ((heap_alloc_old _ _ (by rw [HS0.out]; omega)).trans HR0.out), Lib.hid (by rw [← HS0.out]; exact heap_alloc_new _ _)⟩
  have IP : ∀ nx nt, Hid ((Try.prog.info? 30).map (·.size) = some (PurseV I S k h nx nt st).toArray.size) := fun nx nt => Lib.hid (by rw [info_purse, List.size_toArray, PurseV_length _ _ _ _ _ _ _ hI hS])
  have IPL : ∀ nx nt, Hid ((Try.prog.info? 30).map (·.size) = some (PurseV I S k h nx nt st).length) := fun nx nt => Lib.hid (by rw [info_purse, PurseV_length _ _ _ _ _ _ _ hI hS])
  have HPS : ∀ nx nt, Hid ((PurseV I S k h nx nt st).toArray.size = 53) := fun nx nt => Lib.hid (by rw [List.size_toArray, PurseV_length _ _ _ _ _ _ _ hI hS])
  have HZS : Hid (Z.size = 53) := Lib.hid (by rw [HZ.out]; rfl)
  obtain ⟨n1, n2⟩ := leavesV_bd k h
  have HLF := Lib.hid (fun w' => Left_pur I S k h (leavesV k h) nt st w' hI hS hk ⟨n1, n2⟩)
  simp only [Int.sub_self] at HLF
  obtain ⟨ta, tc, rfl⟩ := ht.shape
  generalize leavesV k h = n at *
  have IPn := IP n nt
  have HPSn := HPS n nt
  clear hI hS hk ht n1 n2
  go_enter Try.func11, Try.ntmps11
  go_upto_region 1 with (fail)
  rw [← HW0.out]
  change Code.wp _ _ _ _ (W0.alloc (.cells (PurseV zero16 zero32 0 0 0 0 0).toArray 30))
  rw [← HZ.out, ← HV.out]
  go_wp2_with (first
    | ((with_reducible refine at_load 30 _ rfl ?_); first | refine wpList_load_row rfl 30 _ rfl _ rfl _ (PurseV I S k h n nt st).toArray (0, 0) _ HVR.out Try.underlying30 rfl IPn.out ?_ | refine wpList_load_row rfl 30 _ rfl _ rfl _ (PurseV I S k h n nt st).toArray (0, 0) _ HR1.out Try.underlying30 rfl IPn.out ?_)
    | (go_at_call 12; refine (HLF.out V).mono ?_; rintro e w1 ⟨rfl, b1⟩; have HB1 := Lib.hid b1; have HR1 := Lib.hid ((b1.block _ (Array.getElem?_eq_some_iff.1 HVR.out).1).trans HVR.out); have HZ1 := Lib.hid ((b1.block _ (Array.getElem?_eq_some_iff.1 HVZ.out).1).trans HVZ.out); clear b1)
    | ((with_reducible refine at_store 30 _ _ rfl ?_); refine wpList_store_row rfl 30 _ _ rfl _ (PurseV I S k h n nt st).toArray rfl rfl 30 _ HZ1.out IPn.out (by rw [HZS.out, HPSn.out]) (PurseV_one _ _ _ _ _ _ _) ?_))
  exact bodyPost_ret (results_cell_row_tmp3 rfl _ _ (w.heap.size + 1) 30 _ (0, 0) _ rfl (setRow_heap _ _ _ _ _ _ HZ1.out) Try.underlying30 rfl IPn.out) rfl ⟨rfl, below_row (HVB.out.trans (HB1.out.mono HVB.out.size)) (by omega) _⟩
theorem Sign_note (I S : List UInt8) (k : Int) (h Q : Nat) (st : Int) (tv : Value) (text : List UInt8) (w : World) (hI : I.length = 16) (hS : S.length = 32) (hk : -9223372036854775808 ≤ k ∧ k ≤ 9223372036854775807) (hm : mayT k h = true) (hQ : Q < 2 ^ h) (hst : 1 ≤ st ∧ st ≤ 8) (ht : Sl w tv text) (htl : text.length ≤ 1000000) :
    Calls Try.prog 11 #[.agg (PurseV I S k h Q Q st).toArray, tv] w fun e w' => ∃ v, e = .returned (.tuple #[.agg (PurseV I S k h (Q + 1 : Nat) (min ((Q : Int) + st) ((2 ^ h : Nat) : Int)) st).toArray, v, .bool true, .int .i64 0]) ∧ Sl w' v (lsigN I S k h Q text) ∧ Below w.heap.size w w' := by
  obtain ⟨nt, Hnt⟩ : ∃ nt : Int, Hid (nt = (Q : Int)) := ⟨_, Lib.hid rfl⟩
  obtain ⟨nd, Hnd⟩ : ∃ nd : Int, Hid (nd = min ((Q : Int) + st) ((2 ^ h : Nat) : Int)) := ⟨_, Lib.hid rfl⟩
  have hnt0 : (Q : Int) ≤ nt ∧ nt ≤ Q := by rw [Hnt.out]; exact ⟨Int.le_refl _, Int.le_refl _⟩
  rw [← Hnd.out]
  rw [show PurseV I S k h Q Q st = PurseV I S k h Q nt st by rw [Hnt.out]]
  obtain ⟨Z, HZ⟩ : ∃ Z, Hid (Z = (PurseV zero16 zero32 0 0 0 0 0).toArray) := ⟨_, Lib.hid rfl⟩
  obtain ⟨W0, HW0, HB0, HS0, HR0⟩ : ∃ V, Hid (V = w.alloc (.cells (PurseV I S k h Q nt st).toArray 30)) ∧ Hid (Below w.heap.size w V) ∧ Hid (V.heap.size = w.heap.size + 1) ∧ Hid (V.heap[w.heap.size]? = some (.cells (PurseV I S k h Q nt st).toArray 30 (0, 0))) := ⟨_, Lib.hid rfl, Lib.hid ((Below.refl _ _).alloc (Nat.le_refl _) _), Lib.hid (by simp), Lib.hid (heap_alloc_new _ _)⟩
  obtain ⟨V, HV, HVB, HVS, HVR, HVZ⟩ : ∃ V, Hid (V = W0.alloc (.cells Z 30)) ∧ Hid (Below w.heap.size w V) ∧ Hid (V.heap.size = w.heap.size + 2) ∧ Hid (V.heap[w.heap.size]? = some (.cells (PurseV I S k h Q nt st).toArray 30 (0, 0))) ∧ Hid (V.heap[w.heap.size + 1]? = some (.cells Z 30 (0, 0))) :=
    ⟨_, Lib.hid rfl, Lib.hid (HB0.out.alloc HB0.out.size _), Lib.hid (by simp [HS0.out]), Lib.hid ((heap_alloc_old _ _ (by rw [HS0.out]; omega)).trans HR0.out), Lib.hid (by rw [← HS0.out]; exact heap_alloc_new _ _)⟩
  have IP : ∀ nx nt, Hid ((Try.prog.info? 30).map (·.size) = some (PurseV I S k h nx nt st).toArray.size) := fun nx nt => Lib.hid (by rw [info_purse, List.size_toArray, PurseV_length _ _ _ _ _ _ _ hI hS])
  have IPL : ∀ nx nt, Hid ((Try.prog.info? 30).map (·.size) = some (PurseV I S k h nx nt st).length) := fun nx nt => Lib.hid (by rw [info_purse, PurseV_length _ _ _ _ _ _ _ hI hS])
  have HPS : ∀ nx nt, Hid ((PurseV I S k h nx nt st).toArray.size = 53) := fun nx nt => Lib.hid (by rw [List.size_toArray, PurseV_length _ _ _ _ _ _ _ hI hS])
  have HZS : Hid (Z.size = 53) := Lib.hid (by rw [HZ.out]; rfl)
  obtain ⟨-, h2, h3⟩ := (mayT_iff k h).1 hm
  obtain ⟨p5, p1⟩ := pow5 h (by omega)
  obtain ⟨P, HPo⟩ : ∃ P, Hid (P = 2 ^ h) := ⟨_, Lib.hid rfl⟩
  rw [← HPo.out] at p5 p1 hQ Hnd
  have HLV : Hid (leavesV k h = (P : Int)) := Lib.hid (by rw [leavesV, if_pos hm, Int.toNat_natCast, ← HPo.out])
  have HLF := Lib.hid (fun w' => Left_pur I S k h Q nt st w' hI hS hk ⟨by omega, by omega⟩)
  have HLE := Lib.hid (fun w' => leaves_pur I S k h Q nt st w' hI hS hk)
  rw [HLV.out] at HLF HLE
  have hlk : leafOk h Q = true := by rw [leafOk, decide_eq_true_iff, Int.toNat_natCast, ← HPo.out]; omega
  have HSG := Lib.hid (fun tv w' h1 => Sign_lms I S k h Q tv text w' hI hS hk h1 htl)
  have e2 : lsigE k h Q = 0 := by rw [lsigE, hm, hlk]; rfl
  have e3 : lsigV I S k h Q text = lsigN I S k h Q text := by rw [lsigV, hm, hlk]; rfl
  rw [e2, e3] at HSG
  have HSL : Hid (48 < (lsigN I S k h Q text).length) := Lib.hid (lsig_long I S k h Q text hm (by omega))
  generalize lsigN I S k h Q text = sg at *
  have HHI := Lib.hid hI
  have HHS := Lib.hid hS
  have ITL : Hid ((Try.prog.info? 25).map (·.size) = some (TreeV I S k h).length) := Lib.hid (by rw [info_tree, TreeV_length _ _ _ _ hI hS])
  have HTW := Lib.hid ht
  obtain ⟨ta, tc, rfl⟩ := ht.shape
  obtain ⟨s1, s2⟩ := hst
  have hle : ¬ ((P : Int) - (Q : Int) ≤ 0) := by omega
  have IPn := IP Q nt
  have IPLn := IPL Q nt
  have IPf := IP (Q + 1 : Nat) nd
  have IPLf := IPL (Q + 1 : Nat) nd
  have HPSf := HPS (Q + 1 : Nat) nd
  have HPSn := HPS Q nt
  clear hI hS hk ht hm hlk e2 e3 IP IPL HPS
  go_enter Try.func11, Try.ntmps11
  go_upto_region 1 with (fail)
  rw [← HW0.out]
  change Code.wp _ _ _ _ (W0.alloc (.cells (PurseV zero16 zero32 0 0 0 0 0).toArray 30))
  rw [← HZ.out, ← HV.out]
  go_upto_region 4 with (first
    | ((with_reducible refine at_load 30 _ rfl ?_); first | refine wpList_load_row rfl 30 _ rfl _ rfl _ (PurseV I S k h Q nt st).toArray (0, 0) _ HVR.out Try.underlying30 rfl IPn.out ?_ | refine wpList_load_row rfl 30 _ rfl _ rfl _ (PurseV I S k h Q nt st).toArray (0, 0) _ HR1.out Try.underlying30 rfl IPn.out ?_)
    | (go_at_call 12; refine (HLF.out V).mono ?_; rintro e w1 ⟨rfl, b1⟩; have HB1 := Lib.hid b1; have HR1 := Lib.hid ((b1.block _ (Array.getElem?_eq_some_iff.1 HVR.out).1).trans HVR.out); have HZ1 := Lib.hid ((b1.block _ (Array.getElem?_eq_some_iff.1 HVZ.out).1).trans HVZ.out); clear b1)
    | ((with_reducible refine at_store 30 _ _ rfl ?_); refine wpList_store_new rfl 30 _ _ rfl (PurseV I S k h Q nt st).toArray rfl rfl 30 _ IPn.out (by rw [HPSn.out]; rfl) (PurseV_one _ _ _ _ _ _ _) ?_))
  have HBV : Hid (Below w.heap.size w w1) := Lib.hid (HVB.out.trans (HB1.out.mono HVB.out.size))
  obtain ⟨wb, Hwb⟩ : ∃ b, Hid (b = w1.heap.size) := ⟨_, Lib.hid rfl⟩
  have Hwb2 : Hid (w.heap.size + 2 ≤ wb) := Lib.hid (by rw [Hwb.out]; have := HB1.out.size; rw [HVS.out] at this; exact this)
  obtain ⟨W2, HW2, HB2, HR2, HZ2, HO2⟩ : ∃ W, Hid (W = w1.alloc (.cells (PurseV I S k h Q nt st).toArray 30)) ∧ Hid (Below w.heap.size w W) ∧ Hid (W.heap[w.heap.size]? = some (.cells (PurseV I S k h Q nt st).toArray 30 (0, 0))) ∧ Hid (W.heap[w.heap.size + 1]? = some (.cells Z 30 (0, 0))) ∧ Hid (W.heap[wb]? = some (.cells (PurseV I S k h Q nt st).toArray 30 (0, 0))) :=
    ⟨_, Lib.hid rfl, Lib.hid (HBV.out.alloc HBV.out.size _), Lib.hid ((heap_alloc_old _ _ (Array.getElem?_eq_some_iff.1 HR1.out).1).trans HR1.out), Lib.hid ((heap_alloc_old _ _ (Array.getElem?_eq_some_iff.1 HZ1.out).1).trans HZ1.out), Lib.hid (by rw [Hwb.out]; exact heap_alloc_new _ _)⟩
  rw [← HW2.out, ← Hwb.out]
  have kn := purse_N HR2.out HHI.out HHS.out
  have kd := purse_D HR2.out HHI.out HHS.out
  have hge : nt ≤ (Q : Int) := hnt0.2
  go_upto_region 5 with (fail)
  clear kn kd
  try simp only [Act.put]
  have ew : wrap64 (nt + st) = nt + st := by unfold wrap64; omega
  have HRL : Hid (w.heap.size < W2.heap.size) := Lib.hid (Array.getElem?_eq_some_iff.1 HR2.out).1
  have HMN : Hid (min (nt + st) (P : Int) = nd) := Lib.hid (by rw [Hnd.out, Hnt.out])
  refine Wild.region_tail_b 9 (fun k => match k with | 6 => some (.fix (.int .i64 P)) | _ => none) (fun _ => []) rfl rfl rfl (by kernel_rfl) (by kernel_rfl) (by kernel_rfl) (fun vs hvs => ?_)
  have h6 : vs 6 = .int .i64 P := hvs 6 _ rfl
  simp only [List.take_succ_cons, List.take_zero]
  refine Wild.walk_simple rfl (by rfl) (by rfl) (fun K hK => ?_); go_big_quiet_op; first | (refine hK _ ?_; clear hK K) | (refine ⟨_, fun _ _ => rfl, hK _ ?_⟩; clear hK K)
  refine Wild.walk_cell 3 _ _ _ (.int .i64 nt) _ rfl (by rfl) rfl rfl (fun w' hw => purse_D ((hw.1.block _ HRL.out).trans HR2.out) HHI.out HHS.out) Try.underlying3 rfl ?_
  simp only [Act.put, List.setIfInBounds_toArray, List.set_cons_zero, List.set_cons_succ]
  refine Wild.walk_simple rfl (by rfl) (by rfl) (fun K hK => ?_); go_big_quiet_op; first | (refine hK _ ?_; clear hK K) | (refine ⟨_, fun _ _ => rfl, hK _ ?_⟩; clear hK K)
  refine Wild.walk_cell 3 _ _ _ (.int .i64 st) _ rfl (by rfl) rfl rfl (fun w' hw => purse_St ((hw.1.block _ HRL.out).trans HR2.out) HHI.out HHS.out) Try.underlying3 rfl ?_
  simp only [Act.put, List.setIfInBounds_toArray, List.set_cons_zero, List.set_cons_succ]
  refine Wild.walk_simple rfl (by rfl) (by rfl) (fun K hK => ?_); go_big_quiet_op; first | (refine hK _ ?_; clear hK K) | (refine ⟨_, fun _ _ => rfl, hK _ ?_⟩; clear hK K)
  try simp only [ew]
  refine Wild.walk_load 30 _ _ _ (PurseV I S k h Q nt st) _ rfl (by rfl) rfl rfl (fun w' hw => rangeAt_blw (rangeAt_row HR2.out) hw.1) Try.underlying30 rfl IPLn.out ?_
  simp only [Act.put, List.setIfInBounds_toArray, List.set_cons_zero, List.set_cons_succ]
  refine Wild.walk_wild _ rfl (by rfl) (fun w' hw K hK => ?_) ?_
  · go_simp
    go_at_call 17
    refine (HLE.out w').mono ?_
    rintro e w'' ⟨rfl, hb⟩
    exact hK.out _ _ (hw.1.trans (hb.mono hw.1.size)) hb rfl trivial
  rw [h6]
  simp only [Act.put, List.setIfInBounds_toArray, List.set_cons_zero, List.set_cons_succ]
  refine Wild.walk_run (.int .i64 nd) rfl (by rfl) (fun w' _ => ?_) ?_
  · rw [← HMN.out]
    unfold execOp
    go_simp
  simp only [Act.put, List.setIfInBounds_toArray, List.set_cons_zero, List.set_cons_succ]
  refine Wild.walk_simple rfl (by rfl) (by rfl) (fun K hK => ?_); go_big_quiet_op; first | (refine hK _ ?_; clear hK K) | (refine ⟨_, fun _ _ => rfl, hK _ ?_⟩; clear hK K)
  refine Wild.walk_nil ?_
  intro w3 hw3 _
  have HB23 : Hid (Below W2.heap.size W2 w3) := Lib.hid hw3
  have HR3a := Lib.hid ((HB23.out.block _ HRL.out).trans HR2.out)
  have HZ3a := Lib.hid ((HB23.out.block _ (Array.getElem?_eq_some_iff.1 HZ2.out).1).trans HZ2.out)
  have HO3a := Lib.hid ((HB23.out.block _ (Array.getElem?_eq_some_iff.1 HO2.out).1).trans HO2.out)
  have HB3a : Hid (Below w.heap.size w w3) := Lib.hid (HB2.out.trans (Below.mono hw3 HB2.out.size))
  have kd := purse_D HR3a.out HHI.out HHS.out
  have kf := frozen_of_row w3 w.heap.size 51 _ _ HR3a.out
  clear hw3 hvs h6
  obtain ⟨W3, HW3, HB3, HR3, HZ3, HO3⟩ : ∃ W, Hid (W = w3.setCell ⟨w.heap.size, 51, none⟩ (.int .i64 nd)) ∧ Hid (Below w.heap.size w W) ∧ Hid (W.heap[w.heap.size]? = some (.cells (PurseV I S k h Q nd st).toArray 30 (0, 0))) ∧ Hid (W.heap[w.heap.size + 1]? = some (.cells Z 30 (0, 0))) ∧ Hid (W.heap[wb]? = some (.cells (PurseV I S k h Q nt st).toArray 30 (0, 0))) :=
    ⟨_, Lib.hid rfl, Lib.hid (HB3a.out.setCell (Nat.le_refl _) _), Lib.hid (purse_setD HR3a.out HHI.out HHS.out nd), Lib.hid ((heap_setCell_other _ _ _ _ (by simp)).trans HZ3a.out), Lib.hid ((heap_setCell_other _ _ _ _ (by show wb ≠ w.heap.size; have := Hwb2.out; omega)).trans HO3a.out)⟩
  have HST : Hid (∀ (K : World → Prop), K W3 → K (w3.setCell ⟨w.heap.size, 51, none⟩ (.int .i64 nd))) := Lib.hid (fun K h => by rw [← HW3.out]; exact h)
  go_simp
  rw [← HW3.out]
  clear kd kf ew
  have RT := Lib.hid (purse_T HR3.out)
  have kn := purse_N HR3.out HHI.out HHS.out
  go_upto_region 7 with (first
    | (refine wpList_load_mid rfl 25 _ rfl w.heap.size 0 (by rfl) (TreeV I S k h) _ RT.out Try.underlying25 rfl ITL.out ?_)
    | (go_at_call 18; refine (HSG.out _ W3 (HTW.out.later HB3.out)).mono ?_; rintro e w4 ⟨sv, rfl, s4, b4⟩; have HS4 := Lib.hid s4; have HB34 := Lib.hid b4; clear s4 b4))
  clear kn
  have HB4 : Hid (Below w.heap.size w w4) := Lib.hid (HB3.out.trans (HB34.out.mono HB3.out.size))
  have HR4 := Lib.hid ((HB34.out.block _ (Array.getElem?_eq_some_iff.1 HR3.out).1).trans HR3.out)
  have HZ4 := Lib.hid ((HB34.out.block _ (Array.getElem?_eq_some_iff.1 HZ3.out).1).trans HZ3.out)
  have HO4 := Lib.hid ((HB34.out.block _ (Array.getElem?_eq_some_iff.1 HO3.out).1).trans HO3.out)
  have kn := purse_N HR4.out HHI.out HHS.out
  have kf := frozen_of_row w4 w.heap.size 50 _ _ HR4.out
  obtain ⟨W5, HW5, HB5, HR5, HZ5, HO5⟩ : ∃ W, Hid (W = w4.setCell ⟨w.heap.size, 50, none⟩ (.int .i64 ((Q : Int) + 1))) ∧ Hid (Below w.heap.size w W) ∧ Hid (W.heap[w.heap.size]? = some (.cells (PurseV I S k h (Q + 1 : Nat) nd st).toArray 30 (0, 0))) ∧ Hid (W.heap[w.heap.size + 1]? = some (.cells Z 30 (0, 0))) ∧ Hid (W.heap[wb]? = some (.cells (PurseV I S k h Q nt st).toArray 30 (0, 0))) :=
    ⟨_, Lib.hid rfl, Lib.hid (HB4.out.setCell (Nat.le_refl _) _), Lib.hid (purse_setN HR4.out HHI.out HHS.out ((Q : Int) + 1)), Lib.hid ((heap_setCell_other _ _ _ _ (by simp)).trans HZ4.out), Lib.hid ((heap_setCell_other _ _ _ _ (by show wb ≠ w.heap.size; have := Hwb2.out; omega)).trans HO4.out)⟩
  go_upto_region 8 with (fail)
  change Code.wp _ _ _ _ (w4.setCell ⟨w.heap.size, 50, none⟩ (.int .i64 ((Q : Int) + 1)))
  rw [← HW5.out]
  clear kn kf
  try simp only [Act.put]
  have HSV : Hid (∀ w', (∀ blk, blk < w4.heap.size → blk ≠ w.heap.size → blk ≠ w.heap.size + 1 → w'.heap[blk]? = w4.heap[blk]?) → Sl w' sv sg) := Lib.hid (fun w' hb => Sl.away HS4.out HSL.out HR4.out HHI.out HHS.out (by rw [HZ4.out, HZ.out]) rfl rfl hb)
  have HRL5 : Hid (w.heap.size < W5.heap.size ∧ w.heap.size + 1 < W5.heap.size ∧ wb < W5.heap.size) := Lib.hid ⟨(Array.getElem?_eq_some_iff.1 HR5.out).1, (Array.getElem?_eq_some_iff.1 HZ5.out).1, (Array.getElem?_eq_some_iff.1 HO5.out).1⟩
  have hne : (nd != nt) = true := by
    have : nd ≠ nt := by rw [Hnd.out, Hnt.out]; omega
    simpa using this
  refine Wild.region_k (fun _ => none) (w.heap.size + 1) 30 Z (PurseV I S k h (Q + 1 : Nat) nd st).toArray 8 rfl (by decide) HZ5.out rfl (by kernel_rfl) (fun vs hvs => ?_)
  refine Wild.walk_load 30 _ _ _ (PurseV I S k h (Q + 1 : Nat) nd st) _ rfl (by rfl) rfl rfl (fun w' hw => rangeAt_row ((hw.1.block _ HRL5.out.1 (by omega)).trans HR5.out)) Try.underlying30 rfl IPLf.out ?_
  simp only [Act.put, List.setIfInBounds_toArray, List.set_cons_zero, List.set_cons_succ]
  refine Wild.walk_simple rfl (by rfl) (by rfl) (fun K hK => ?_); go_big_quiet_op; first | (refine hK _ ?_; clear hK K) | (refine ⟨_, fun _ _ => rfl, hK _ ?_⟩; clear hK K)
  refine Wild.walk_simple rfl (by rfl) (by rfl) (fun K hK => ?_); go_big_quiet_op; first | (refine hK _ ?_; clear hK K) | (refine ⟨_, fun _ _ => rfl, hK _ ?_⟩; clear hK K)
  refine Wild.walk_cell 3 _ _ _ (.int .i64 nd) _ rfl (by rfl) rfl rfl (fun w' hw => purse_D ((hw.1.block _ HRL5.out.1 (by omega)).trans HR5.out) HHI.out HHS.out) Try.underlying3 rfl ?_
  simp only [Act.put, List.setIfInBounds_toArray, List.set_cons_zero, List.set_cons_succ]
  refine Wild.walk_simple rfl (by rfl) (by rfl) (fun K hK => ?_); go_big_quiet_op; first | (refine hK _ ?_; clear hK K) | (refine ⟨_, fun _ _ => rfl, hK _ ?_⟩; clear hK K)
  refine Wild.walk_cell 3 _ _ _ (.int .i64 nt) _ rfl (by rfl) rfl rfl (fun w' hw => purse_D ((hw.1.block _ HRL5.out.2.2 (by have := Hwb2.out; omega)).trans HO5.out) HHI.out HHS.out) Try.underlying3 rfl ?_
  simp only [Act.put, List.setIfInBounds_toArray, List.set_cons_zero, List.set_cons_succ]
  refine Wild.walk_simple rfl (by rfl) (by rfl) (fun K hK => ?_); go_big_quiet_op; first | (refine hK _ ?_; clear hK K) | (refine ⟨_, fun _ _ => rfl, hK _ ?_⟩; clear hK K)
  try simp only [hne]
  refine Wild.walk_simple rfl (by rfl) (by rfl) (fun K hK => ?_); go_big_quiet_op; first | (refine hK _ ?_; clear hK K) | (refine ⟨_, fun _ _ => rfl, hK _ ?_⟩; clear hK K)
  refine Wild.walk_wild _ rfl (by rfl) (fun w' hw K hK => ?_) ?_
  · obtain ⟨s1, s2, s3⟩ := hw.1.set
    rcases hw.1.one with e | e <;> exact wp_store_row 30 _ _ rfl _ (PurseV I S k h (Q + 1 : Nat) nd st).toArray rfl rfl 30 _ e IPf.out (by first | rw [HZS.out, HPSf.out] | rfl) (PurseV_one _ _ _ _ _ _ _) (hK.out undef _ s1 s2 trivial s3)
  simp only [Act.put]
  refine Wild.walk_simple rfl (by rfl) (by rfl) (fun K hK => ?_); go_big_quiet_op; first | (refine hK _ ?_; clear hK K) | (refine ⟨_, fun _ _ => rfl, hK _ ?_⟩; clear hK K)
  refine Wild.walk_simple rfl (by rfl) (by rfl) (fun K hK => ?_); go_big_quiet_op; first | (refine hK _ ?_; clear hK K) | (refine ⟨_, fun _ _ => rfl, hK _ ?_⟩; clear hK K)
  refine Wild.walk_simple rfl (by rfl) (by rfl) (fun K hK => ?_); go_big_quiet_op; first | (refine hK _ ?_; clear hK K) | (refine ⟨_, fun _ _ => rfl, hK _ ?_⟩; clear hK K)
  refine Wild.walk_nil ?_
  intro w6 hw6 hp6
  have HB56 : Below (w.heap.size + 1) W5 w6 := hw6.below (Nat.le_of_lt HRL5.out.2.1)
  have HS6 := Lib.hid (HSV.out w6 (fun blk h1 h2 h3 => (hw6.block blk (by rw [HW5.out]; simpa using h1) h3).trans (by rw [HW5.out]; exact heap_setCell_other _ _ _ _ (fun e => h2 e))))
  have HB6 := Lib.hid (HB5.out.trans (HB56.mono (Nat.le_succ _)))
  go_wp2_with fail
  exact bodyPost_ret (results_cell_row_tmp3 rfl _ _ (w.heap.size + 1) 30 _ (0, 0) _ rfl hp6 Try.underlying30 rfl IPf.out) rfl ⟨_, rfl, HS6.out, HB6.out⟩
theorem Sign_more (I S : List UInt8) (k : Int) (h Q : Nat) (nt st : Int) (tv : Value) (text : List UInt8) (w : World) (hI : I.length = 16) (hS : S.length = 32) (hk : -9223372036854775808 ≤ k ∧ k ≤ 9223372036854775807) (hm : mayT k h = true) (hQ : Q < 2 ^ h) (hst : 1 ≤ st ∧ st ≤ 8) (hnt : (Q : Int) < nt ∧ nt ≤ 32) (ht : Sl w tv text) (htl : text.length ≤ 1000000) :
    Calls Try.prog 11 #[.agg (PurseV I S k h Q nt st).toArray, tv] w fun e w' => ∃ v, e = .returned (.tuple #[.agg (PurseV I S k h (Q + 1 : Nat) nt st).toArray, v, .bool false, .int .i64 0]) ∧ Sl w' v (lsigN I S k h Q text) ∧ Below w.heap.size w w' := by
  obtain ⟨nd, Hnd⟩ : ∃ nd : Int, Hid (nd = nt) := ⟨_, Lib.hid rfl⟩
  obtain ⟨Z, HZ⟩ : ∃ Z, Hid (Z = (PurseV zero16 zero32 0 0 0 0 0).toArray) := ⟨_, Lib.hid rfl⟩
  obtain ⟨W0, HW0, HB0, HS0, HR0⟩ : ∃ V, Hid (V = w.alloc (.cells (PurseV I S k h Q nt st).toArray 30)) ∧ Hid (Below w.heap.size w V) ∧ Hid (V.heap.size = w.heap.size + 1) ∧ Hid (V.heap[w.heap.size]? = some (.cells (PurseV I S k h Q nt st).toArray 30 (0, 0))) := ⟨_, Lib.hid rfl, Lib.hid ((Below.refl _ _).alloc (Nat.le_refl _) _), Lib.hid (by simp), Lib.hid (heap_alloc_new _ _)⟩
  obtain ⟨V, HV, HVB, HVS, HVR, HVZ⟩ : ∃ V, Hid (V = W0.alloc (.cells Z 30)) ∧ Hid (Below w.heap.size w V) ∧ Hid (V.heap.size = w.heap.size + 2) ∧ Hid (V.heap[w.heap.size]? = some (.cells (PurseV I S k h Q nt st).toArray 30 (0, 0))) ∧ Hid (V.heap[w.heap.size + 1]? = some (.cells Z 30 (0, 0))) :=
    ⟨_, Lib.hid rfl, Lib.hid (HB0.out.alloc HB0.out.size _), Lib.hid (by simp [HS0.out]), Lib.hid ((heap_alloc_old _ _ (by rw [HS0.out]; omega)).trans HR0.out), Lib.hid (by rw [← HS0.out]; exact heap_alloc_new _ _)⟩
  have IP : ∀ nx nt, Hid ((Try.prog.info? 30).map (·.size) = some (PurseV I S k h nx nt st).toArray.size) := fun nx nt => Lib.hid (by rw [info_purse, List.size_toArray, PurseV_length _ _ _ _ _ _ _ hI hS])
  have IPL : ∀ nx nt, Hid ((Try.prog.info? 30).map (·.size) = some (PurseV I S k h nx nt st).length) := fun nx nt => Lib.hid (by rw [info_purse, PurseV_length _ _ _ _ _ _ _ hI hS])
  have HPS : ∀ nx nt, Hid ((PurseV I S k h nx nt st).toArray.size = 53) := fun nx nt => Lib.hid (by rw [List.size_toArray, PurseV_length _ _ _ _ _ _ _ hI hS])
  have HZS : Hid (Z.size = 53) := Lib.hid (by rw [HZ.out]; rfl)
  obtain ⟨-, h2, h3⟩ := (mayT_iff k h).1 hm
  obtain ⟨p5, p1⟩ := pow5 h (by omega)
  obtain ⟨P, HPo⟩ : ∃ P, Hid (P = 2 ^ h) := ⟨_, Lib.hid rfl⟩
  rw [← HPo.out] at p5 p1 hQ
  have HLV : Hid (leavesV k h = (P : Int)) := Lib.hid (by rw [leavesV, if_pos hm, Int.toNat_natCast, ← HPo.out])
  have HLF := Lib.hid (fun w' => Left_pur I S k h Q nt st w' hI hS hk ⟨by omega, by omega⟩)
  have HLE := Lib.hid (fun w' => leaves_pur I S k h Q nt st w' hI hS hk)
  rw [HLV.out] at HLF HLE
  have hlk : leafOk h Q = true := by rw [leafOk, decide_eq_true_iff, Int.toNat_natCast, ← HPo.out]; omega
  have HSG := Lib.hid (fun tv w' h1 => Sign_lms I S k h Q tv text w' hI hS hk h1 htl)
  have e2 : lsigE k h Q = 0 := by rw [lsigE, hm, hlk]; rfl
  have e3 : lsigV I S k h Q text = lsigN I S k h Q text := by rw [lsigV, hm, hlk]; rfl
  rw [e2, e3] at HSG
  have HSL : Hid (48 < (lsigN I S k h Q text).length) := Lib.hid (lsig_long I S k h Q text hm (by omega))
  generalize lsigN I S k h Q text = sg at *
  have HHI := Lib.hid hI
  have HHS := Lib.hid hS
  have ITL : Hid ((Try.prog.info? 25).map (·.size) = some (TreeV I S k h).length) := Lib.hid (by rw [info_tree, TreeV_length _ _ _ _ hI hS])
  have HTW := Lib.hid ht
  obtain ⟨ta, tc, rfl⟩ := ht.shape
  obtain ⟨s1, s2⟩ := hst
  obtain ⟨t1, t2⟩ := hnt
  have hle : ¬ ((P : Int) - (Q : Int) ≤ 0) := by omega
  have IPn := IP Q nt
  have IPLn := IPL Q nt
  have IPf := IP (Q + 1 : Nat) nd
  have IPLf := IPL (Q + 1 : Nat) nd
  have HPSf := HPS (Q + 1 : Nat) nd
  have HPSn := HPS Q nt
  clear hI hS hk ht hm hlk e2 e3 IP IPL HPS
  go_enter Try.func11, Try.ntmps11
  go_upto_region 1 with (fail)
  rw [← HW0.out]
  change Code.wp _ _ _ _ (W0.alloc (.cells (PurseV zero16 zero32 0 0 0 0 0).toArray 30))
  rw [← HZ.out, ← HV.out]
  go_upto_region 4 with (first
    | ((with_reducible refine at_load 30 _ rfl ?_); first | refine wpList_load_row rfl 30 _ rfl _ rfl _ (PurseV I S k h Q nt st).toArray (0, 0) _ HVR.out Try.underlying30 rfl IPn.out ?_ | refine wpList_load_row rfl 30 _ rfl _ rfl _ (PurseV I S k h Q nt st).toArray (0, 0) _ HR1.out Try.underlying30 rfl IPn.out ?_)
    | (go_at_call 12; refine (HLF.out V).mono ?_; rintro e w1 ⟨rfl, b1⟩; have HB1 := Lib.hid b1; have HR1 := Lib.hid ((b1.block _ (Array.getElem?_eq_some_iff.1 HVR.out).1).trans HVR.out); have HZ1 := Lib.hid ((b1.block _ (Array.getElem?_eq_some_iff.1 HVZ.out).1).trans HVZ.out); clear b1)
    | ((with_reducible refine at_store 30 _ _ rfl ?_); refine wpList_store_new rfl 30 _ _ rfl (PurseV I S k h Q nt st).toArray rfl rfl 30 _ IPn.out (by rw [HPSn.out]; rfl) (PurseV_one _ _ _ _ _ _ _) ?_))
  have HBV : Hid (Below w.heap.size w w1) := Lib.hid (HVB.out.trans (HB1.out.mono HVB.out.size))
  obtain ⟨wb, Hwb⟩ : ∃ b, Hid (b = w1.heap.size) := ⟨_, Lib.hid rfl⟩
  have Hwb2 : Hid (w.heap.size + 2 ≤ wb) := Lib.hid (by rw [Hwb.out]; have := HB1.out.size; rw [HVS.out] at this; exact this)
  obtain ⟨W2, HW2, HB2, HR2, HZ2, HO2⟩ : ∃ W, Hid (W = w1.alloc (.cells (PurseV I S k h Q nt st).toArray 30)) ∧ Hid (Below w.heap.size w W) ∧ Hid (W.heap[w.heap.size]? = some (.cells (PurseV I S k h Q nt st).toArray 30 (0, 0))) ∧ Hid (W.heap[w.heap.size + 1]? = some (.cells Z 30 (0, 0))) ∧ Hid (W.heap[wb]? = some (.cells (PurseV I S k h Q nt st).toArray 30 (0, 0))) :=
    ⟨_, Lib.hid rfl, Lib.hid (HBV.out.alloc HBV.out.size _), Lib.hid ((heap_alloc_old _ _ (Array.getElem?_eq_some_iff.1 HR1.out).1).trans HR1.out), Lib.hid ((heap_alloc_old _ _ (Array.getElem?_eq_some_iff.1 HZ1.out).1).trans HZ1.out), Lib.hid (by rw [Hwb.out]; exact heap_alloc_new _ _)⟩
  rw [← HW2.out, ← Hwb.out]
  have kn := purse_N HR2.out HHI.out HHS.out
  have kd := purse_D HR2.out HHI.out HHS.out
  have hge : ¬ nt ≤ (Q : Int) := by omega
  go_upto_region 6 with (fail)
  clear kn kd hge
  obtain ⟨W3, HW3, HB3, HR3, HZ3, HO3⟩ : ∃ W, Hid (W = W2) ∧ Hid (Below w.heap.size w W) ∧ Hid (W.heap[w.heap.size]? = some (.cells (PurseV I S k h Q nd st).toArray 30 (0, 0))) ∧ Hid (W.heap[w.heap.size + 1]? = some (.cells Z 30 (0, 0))) ∧ Hid (W.heap[wb]? = some (.cells (PurseV I S k h Q nt st).toArray 30 (0, 0))) :=
    ⟨_, Lib.hid rfl, HB2, Lib.hid (by rw [Hnd.out]; exact HR2.out), HZ2, HO2⟩
  rw [← HW3.out]
  have RT := Lib.hid (purse_T HR3.out)
  have kn := purse_N HR3.out HHI.out HHS.out
  go_upto_region 7 with (first
    | (refine wpList_load_mid rfl 25 _ rfl w.heap.size 0 (by rfl) (TreeV I S k h) _ RT.out Try.underlying25 rfl ITL.out ?_)
    | (go_at_call 18; refine (HSG.out _ W3 (HTW.out.later HB3.out)).mono ?_; rintro e w4 ⟨sv, rfl, s4, b4⟩; have HS4 := Lib.hid s4; have HB34 := Lib.hid b4; clear s4 b4))
  clear kn
  have HB4 : Hid (Below w.heap.size w w4) := Lib.hid (HB3.out.trans (HB34.out.mono HB3.out.size))
  have HR4 := Lib.hid ((HB34.out.block _ (Array.getElem?_eq_some_iff.1 HR3.out).1).trans HR3.out)
  have HZ4 := Lib.hid ((HB34.out.block _ (Array.getElem?_eq_some_iff.1 HZ3.out).1).trans HZ3.out)
  have HO4 := Lib.hid ((HB34.out.block _ (Array.getElem?_eq_some_iff.1 HO3.out).1).trans HO3.out)
  have kn := purse_N HR4.out HHI.out HHS.out
  have kf := frozen_of_row w4 w.heap.size 50 _ _ HR4.out
  obtain ⟨W5, HW5, HB5, HR5, HZ5, HO5⟩ : ∃ W, Hid (W = w4.setCell ⟨w.heap.size, 50, none⟩ (.int .i64 ((Q : Int) + 1))) ∧ Hid (Below w.heap.size w W) ∧ Hid (W.heap[w.heap.size]? = some (.cells (PurseV I S k h (Q + 1 : Nat) nd st).toArray 30 (0, 0))) ∧ Hid (W.heap[w.heap.size + 1]? = some (.cells Z 30 (0, 0))) ∧ Hid (W.heap[wb]? = some (.cells (PurseV I S k h Q nt st).toArray 30 (0, 0))) :=
    ⟨_, Lib.hid rfl, Lib.hid (HB4.out.setCell (Nat.le_refl _) _), Lib.hid (purse_setN HR4.out HHI.out HHS.out ((Q : Int) + 1)), Lib.hid ((heap_setCell_other _ _ _ _ (by simp)).trans HZ4.out), Lib.hid ((heap_setCell_other _ _ _ _ (by show wb ≠ w.heap.size; have := Hwb2.out; omega)).trans HO4.out)⟩
  go_upto_region 8 with (fail)
  change Code.wp _ _ _ _ (w4.setCell ⟨w.heap.size, 50, none⟩ (.int .i64 ((Q : Int) + 1)))
  rw [← HW5.out]
  clear kn kf
  try simp only [Act.put]
  have HSV : Hid (∀ w', (∀ blk, blk < w4.heap.size → blk ≠ w.heap.size → blk ≠ w.heap.size + 1 → w'.heap[blk]? = w4.heap[blk]?) → Sl w' sv sg) := Lib.hid (fun w' hb => Sl.away HS4.out HSL.out HR4.out HHI.out HHS.out (by rw [HZ4.out, HZ.out]) rfl rfl hb)
  have HRL5 : Hid (w.heap.size < W5.heap.size ∧ w.heap.size + 1 < W5.heap.size ∧ wb < W5.heap.size) := Lib.hid ⟨(Array.getElem?_eq_some_iff.1 HR5.out).1, (Array.getElem?_eq_some_iff.1 HZ5.out).1, (Array.getElem?_eq_some_iff.1 HO5.out).1⟩
  have hne : (nd != nt) = false := by rw [Hnd.out]; simp
  refine Wild.region_k (fun _ => none) (w.heap.size + 1) 30 Z (PurseV I S k h (Q + 1 : Nat) nd st).toArray 8 rfl (by decide) HZ5.out rfl (by kernel_rfl) (fun vs hvs => ?_)
  refine Wild.walk_load 30 _ _ _ (PurseV I S k h (Q + 1 : Nat) nd st) _ rfl (by rfl) rfl rfl (fun w' hw => rangeAt_row ((hw.1.block _ HRL5.out.1 (by omega)).trans HR5.out)) Try.underlying30 rfl IPLf.out ?_
  simp only [Act.put, List.setIfInBounds_toArray, List.set_cons_zero, List.set_cons_succ]
  refine Wild.walk_simple rfl (by rfl) (by rfl) (fun K hK => ?_); go_big_quiet_op; first | (refine hK _ ?_; clear hK K) | (refine ⟨_, fun _ _ => rfl, hK _ ?_⟩; clear hK K)
  refine Wild.walk_simple rfl (by rfl) (by rfl) (fun K hK => ?_); go_big_quiet_op; first | (refine hK _ ?_; clear hK K) | (refine ⟨_, fun _ _ => rfl, hK _ ?_⟩; clear hK K)
  refine Wild.walk_cell 3 _ _ _ (.int .i64 nd) _ rfl (by rfl) rfl rfl (fun w' hw => purse_D ((hw.1.block _ HRL5.out.1 (by omega)).trans HR5.out) HHI.out HHS.out) Try.underlying3 rfl ?_
  simp only [Act.put, List.setIfInBounds_toArray, List.set_cons_zero, List.set_cons_succ]
  refine Wild.walk_simple rfl (by rfl) (by rfl) (fun K hK => ?_); go_big_quiet_op; first | (refine hK _ ?_; clear hK K) | (refine ⟨_, fun _ _ => rfl, hK _ ?_⟩; clear hK K)
  refine Wild.walk_cell 3 _ _ _ (.int .i64 nt) _ rfl (by rfl) rfl rfl (fun w' hw => purse_D ((hw.1.block _ HRL5.out.2.2 (by have := Hwb2.out; omega)).trans HO5.out) HHI.out HHS.out) Try.underlying3 rfl ?_
  simp only [Act.put, List.setIfInBounds_toArray, List.set_cons_zero, List.set_cons_succ]
  refine Wild.walk_simple rfl (by rfl) (by rfl) (fun K hK => ?_); go_big_quiet_op; first | (refine hK _ ?_; clear hK K) | (refine ⟨_, fun _ _ => rfl, hK _ ?_⟩; clear hK K)
  try simp only [hne]
  refine Wild.walk_simple rfl (by rfl) (by rfl) (fun K hK => ?_); go_big_quiet_op; first | (refine hK _ ?_; clear hK K) | (refine ⟨_, fun _ _ => rfl, hK _ ?_⟩; clear hK K)
  refine Wild.walk_wild _ rfl (by rfl) (fun w' hw K hK => ?_) ?_
  · obtain ⟨s1, s2, s3⟩ := hw.1.set
    rcases hw.1.one with e | e <;> exact wp_store_row 30 _ _ rfl _ (PurseV I S k h (Q + 1 : Nat) nd st).toArray rfl rfl 30 _ e IPf.out (by first | rw [HZS.out, HPSf.out] | rfl) (PurseV_one _ _ _ _ _ _ _) (hK.out undef _ s1 s2 trivial s3)
  simp only [Act.put]
  refine Wild.walk_simple rfl (by rfl) (by rfl) (fun K hK => ?_); go_big_quiet_op; first | (refine hK _ ?_; clear hK K) | (refine ⟨_, fun _ _ => rfl, hK _ ?_⟩; clear hK K)
  refine Wild.walk_simple rfl (by rfl) (by rfl) (fun K hK => ?_); go_big_quiet_op; first | (refine hK _ ?_; clear hK K) | (refine ⟨_, fun _ _ => rfl, hK _ ?_⟩; clear hK K)
  refine Wild.walk_simple rfl (by rfl) (by rfl) (fun K hK => ?_); go_big_quiet_op; first | (refine hK _ ?_; clear hK K) | (refine ⟨_, fun _ _ => rfl, hK _ ?_⟩; clear hK K)
  refine Wild.walk_nil ?_
  intro w6 hw6 hp6
  have HB56 : Below (w.heap.size + 1) W5 w6 := hw6.below (Nat.le_of_lt HRL5.out.2.1)
  have HS6 := Lib.hid (HSV.out w6 (fun blk h1 h2 h3 => (hw6.block blk (by rw [HW5.out]; simpa using h1) h3).trans (by rw [HW5.out]; exact heap_setCell_other _ _ _ _ (fun e => h2 e))))
  have HB6 := Lib.hid (HB5.out.trans (HB56.mono (Nat.le_succ _)))
  go_wp2_with fail
  exact bodyPost_ret (results_cell_row_tmp3 rfl _ _ (w.heap.size + 1) 30 _ (0, 0) _ rfl hp6 Try.underlying30 rfl IPf.out) rfl ⟨_, by rw [Hnd.out]; rfl, HS6.out, HB6.out⟩
end Go.Proofs.Ytcnelahmbfggcaa


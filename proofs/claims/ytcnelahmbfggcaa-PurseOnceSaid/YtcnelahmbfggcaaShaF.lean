/- The walks of sha.Pad and (*Sums).Sum. -/
import Derived.Test.YtcnelahmbfggcaaShaE
namespace Go.Proofs.Ytcnelahmbfggcaa
open Go Go.RowKit
set_option maxRecDepth 100000
set_option maxHeartbeats 1000000

theorem make8 (w : World) (l c : Nat) (a b : Int) (ha : a = l) (hb : b = c) (hlc : l ≤ c) (hc : c ≤ 1000000000) :
    (Instr.makeSlice 41 (.int .i64 a) (.int .i64 b)).run Try.prog w = .ok (.slice (some ⟨w.heap.size, 0, none⟩) l c) (w.alloc (.cells (Array.replicate c (.int .u8 0)) 5)) := by
  obtain ⟨i0, hi, hz0, hz1, hz2⟩ := info_parts info_u8
  subst ha hb
  have h := run_make (P := Try.prog) w 41 5 i0 (.int .u8 0) Try.underlying41 hi hz0 .i64 .i64 l c (by omega) (by omega) (by rw [hz2]; omega) (by omega)
  rw [h]
  congr 4
  rw [hz1]
  apply Array.ext
  · simp [madeCells]
  · intro k h1 h2
    simp [madeCells, Value.cells, Nat.mod_one]
theorem made8 (w : World) (l c : Nat) (hlc : l ≤ c) (hc : c ≤ 1000000000) : Own8 (w.alloc (.cells (Array.replicate c (.int .u8 0)) 5)) w.heap.size (.slice (some ⟨w.heap.size, 0, none⟩) l c) (List.replicate l 0) := by
  unfold Own8
  rw [List.length_replicate]
  refine ⟨by simp [B8_length], .inr ⟨w.heap.size, 0, c, _, rfl, Nat.le_refl _, heap_alloc_new w _, hlc, by simp [maxLen]; omega, by simp, fun j hj => ?_⟩⟩
  rw [B8_length, List.length_replicate] at hj
  simp [B8, hj, show j < c by omega, bn]
theorem Own8.setCell {w : World} {B g off n c : Nat} {l : List UInt8} (h : Own8 w B (.slice (some ⟨g, off, none⟩) n c) l) (i : Nat) (hi : i < l.length) (x : UInt8) :
    Own8 (w.setCell ⟨g, off + i, none⟩ (.int .u8 (bn x))) B (.slice (some ⟨g, off, none⟩) n c) (l.set i x) := by
  unfold Own8
  rw [List.length_set]
  refine ⟨by simp [B8_length], .inr ?_⟩
  rcases h.2 with ⟨h1, _⟩ | ⟨g', off', cap', cur, h1, hb, hg, hnc, hcm, hcs, hcell⟩
  · cases h1
  · cases h1
    refine ⟨g, off, c, _, rfl, hb, heap_setCell_same w g (off + i) _ _ _ hg, hnc, hcm, by simpa using hcs, fun j hj => ?_⟩
    rw [B8_length, List.length_set] at hj
    have h2 := hcell j (by rw [B8_length]; exact hj)
    by_cases e : i = j
    · subst e
      have h3 : off + i < cur.size := by
        rw [B8_getElem?, List.getElem?_eq_getElem hi] at h2
        exact (Array.getElem?_eq_some_iff.1 h2).1
      rw [Array.getElem?_setIfInBounds_self_of_lt h3, B8_getElem?]
      simp [hj]
    · rw [Array.getElem?_setIfInBounds_ne (by omega), h2, B8_getElem?, B8_getElem?]
      simp [List.getElem?_set_ne e]

theorem Pad_tail (z m : Nat) (hz : z = (119 - m % 64) % 64) : 0x80 :: List.replicate z 0 ++ be 8 (m * 8 % 2 ^ 64) = pad m := by
  subst hz; simp [pad]

theorem Pad_any (n : Int) (w : World) (hn : n ≤ 1152921504606846976) (hn0 : -9223372036854775808 ≤ n) :
    Calls Try.prog 66 #[.int .i64 n] w fun e w' => ∃ v, e = .returned v ∧ Own8 w' w.heap.size v (pad n.toNat) ∧ Below w.heap.size w w' := by
  obtain ⟨z, hz⟩ : ∃ z, z = (119 - n.toNat % 64) % 64 := ⟨_, rfl⟩
  have HZ := Lib.hid (Pad_tail z n.toNat hz)
  have hz2 : z < 64 := by omega
  have ho := made8 w (1 + z) (9 + z) (by omega) (by omega)
  obtain ⟨W, HW, HO, C0, F0, HB⟩ : ∃ W, Hid (W = w.alloc (.cells (Array.replicate (9 + z) (.int .u8 0)) 5)) ∧ Hid (Own8 (W.setCell ⟨w.heap.size, 0, none⟩ (.int .u8 128)) w.heap.size (.slice (some ⟨w.heap.size, 0, none⟩) (1 + z) (9 + z)) (0x80 :: List.replicate z 0)) ∧
      Hid (W.cell? ⟨w.heap.size, 0, none⟩ = some (.int .u8 0)) ∧ Hid (W.frozen? ⟨w.heap.size, 0, none⟩ = false) ∧ Hid (Below w.heap.size w (W.setCell ⟨w.heap.size, 0, none⟩ (.int .u8 128))) := by
    refine ⟨_, Lib.hid rfl, Lib.hid ?_, Lib.hid ?_, Lib.hid (frozen_of_row _ w.heap.size 0 _ _ (heap_alloc_new w _)), Lib.hid (((Below.refl _ _).alloc (Nat.le_refl _) _).setCell (Nat.le_refl _) _)⟩
    · have := ho.setCell 0 (by simp; omega) 0x80
      rw [show 1 + z = z + 1 by omega, List.replicate_succ] at this
      rw [show 1 + z = z + 1 by omega]
      exact this
    · rw [cell_of_row _ w.heap.size 0 _ _ (0, 0) (heap_alloc_new w _), Array.getElem?_replicate, if_pos (by omega)]
  have HBs : Hid (w.heap.size ≤ (W.setCell ⟨w.heap.size, 0, none⟩ (.int .u8 128)).heap.size) := Lib.hid HB.out.size
  have HL : Hid ((0x80 :: List.replicate z (0 : UInt8)).length ≤ 100000000) := Lib.hid (by simp; omega)
  clear ho
  by_cases hneg : n < 0
  · obtain rfl : z = 55 := by omega
    have hmk := make8 w (1 + 55) (9 + 55) 56 64 (by rfl) (by rfl) (by omega) (by omega)
    have e0 : n.toNat = 0 := by omega
    have HZ0 : Hid (128 :: List.replicate 55 0 ++ be 8 0 = pad 0) := Lib.hid (by have := HZ.out; rw [e0] at this; exact this)
    rw [e0]
    clear hz e0 HZ
    go_enter Try.func66, Try.ntmps66
    go_upto_region 4 with (fail)
    change Code.wp _ _ _ _ (w.alloc (.cells (Array.replicate (9 + 55) (.int .u8 0)) 5))
    rw [← HW.out]
    clear hmk HW
    have c0 := C0.out
    have f0 := F0.out
    go_wp2_with fail
    refine (laid_any _ (0x80 :: List.replicate 55 0) 0 8 w.heap.size _ HO.out HBs.out HL.out (by omega)).mono ?_
    rintro e w' ⟨v', rfl, hv, hb⟩
    rw [HZ0.out] at hv
    have HV := Lib.hid hv
    clear hv c0 f0
    go_wp2_with fail
    go_ret
    exact ⟨_, rfl, HV.out, HB.out.trans hb⟩
  · obtain ⟨m, rfl⟩ : ∃ m : Nat, n = m := ⟨n.toNat, by omega⟩
    have hmk := make8 w (1 + z) (9 + z) (1 + (119 - (m : Int)) % 64) (1 + (119 - (m : Int)) % 64 + 8) (by omega) (by omega) (by omega) (by omega)
    rw [Int.toNat_natCast] at HZ ⊢
    clear hz
    go_enter Try.func66, Try.ntmps66
    go_upto_region 4 with (fail)
    rw [← HW.out]
    clear hmk HW
    have c0 := C0.out
    have f0 := F0.out
    go_wp2_with fail
    have e8 : (m : Int) * 8 = ((m * 8 % 2 ^ 64 : Nat) : Int) := by omega
    rw [e8]
    refine (laid_any _ (0x80 :: List.replicate z 0) (m * 8 % 2 ^ 64) 8 w.heap.size _ HO.out HBs.out HL.out (by omega)).mono ?_
    rintro e w' ⟨v', rfl, hv, hb⟩
    rw [HZ.out] at hv
    have HV := Lib.hid hv
    clear hv c0 f0 e8
    go_wp2_with fail
    go_ret
    exact ⟨_, rfl, HV.out, HB.out.trans hb⟩
end Go.Proofs.Ytcnelahmbfggcaa

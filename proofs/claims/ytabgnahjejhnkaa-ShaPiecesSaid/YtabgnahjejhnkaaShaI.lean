/- The walk of law02.alive. -/
import Derived.Test.YtabgnahjejhnkaaShaH
import Derived.Lib.SlBytesConst
import Derived.Test.YtabgnahjejhnkaaKit2
namespace Go.Proofs.Ytabgnahjejhnkaa
open Go Go.RowKit
set_option maxHeartbeats 1000000

theorem abc0 : (sha [97, 98, 99]).getD 0 0 = 0xba := by decide +kernel
theorem abc1 : (sha [97, 98, 99]).getD 1 0 = 0x78 := by decide +kernel
theorem abc31 : (sha [97, 98, 99]).getD 31 0 = 0xad := by decide +kernel
theorem round63 : roundV 63 = 3329325298 := by decide +kernel
theorem round63e : roundE 63 = 0 := by decide +kernel

theorem Pad_0 (w : World) : Calls Try.prog 30 #[.int .i64 0] w fun e w' => ∃ a c, e = .returned (.slice a 64 c) ∧ Below w.heap.size w w' := by
  refine (Pad_any 0 w (by omega) (by omega)).mono ?_
  rintro e w' ⟨v, rfl, hv, hb⟩
  obtain ⟨a, c, rfl⟩ := hv.shape
  exact ⟨a, c, by rw [pad_length]; rfl, hb⟩

theorem alive02_any (w : World) : Calls Try.prog 17 #[] w fun e w' => e = .returned (.bool true) ∧ Below w.heap.size w w' := by
  have HL : Hid ((sha [97, 98, 99]).length = 32) := Lib.hid (sha_length _)
  have A0 := Lib.hid abc0
  have A1 := Lib.hid abc1
  have A31 := Lib.hid abc31
  obtain ⟨H, HH⟩ : ∃ H, Hid (H = sha [97, 98, 99]) := ⟨_, Lib.hid rfl⟩
  rw [← HH.out] at HL A0 A1 A31
  have hcv := Lib.run_convert_bytes_const (P := Try.prog) w 22 5 #[.int .u8 97, .int .u8 98, .int .u8 99] 3 3 Try.underlying22 Try.underlying5
  obtain ⟨W1, HW1, HB1, HS1⟩ : ∃ W1, Hid (W1 = w.alloc (.cells #[.int .u8 97, .int .u8 98, .int .u8 99] 5 (3, 4))) ∧ Hid (Below w.heap.size w W1) ∧ Hid (Sl W1 (.slice (some ⟨w.heap.size, 0, none⟩) 3 3) [97, 98, 99]) :=
    ⟨_, Lib.hid rfl, Lib.hid ((Below.refl _ _).alloc (Nat.le_refl _) _), Lib.hid (Sl.ofBlock (heap_alloc_new w _) rfl (by omega) (by simp [maxLen]) fun i hi => by
      match i, hi with
      | 0, _ => rfl
      | 1, _ => rfl
      | 2, _ => rfl)⟩
  go_enter Try.func17, Try.ntmps17
  go_wp2_with (fail)
  change Calls _ _ _ (w.alloc (.cells #[.int .u8 97, .int .u8 98, .int .u8 99] 5 (3, 4))) _
  rw [← HW1.out]
  clear hcv
  refine (Sum_any _ [97, 98, 99] _ HS1.out (by decide)).mono ?_
  rintro e w2 ⟨rfl, hb⟩
  rw [← HH.out]
  have HB2 := Lib.hid (HB1.out.trans (hb.mono HB1.out.size))
  clear hb
  have I32 : Hid ((Try.prog.info? 29).map (·.size) = some (B8 H).toArray.size) := Lib.hid (by rw [info_32, B8_size, HL.out])
  have O32 : Hid (32 = (B8 H).toArray.size) := Lib.hid (by rw [B8_size, HL.out])
  have hs64 : Hid ((schedV []).length = 64) := Lib.hid (by simp [schedV])
  have I64 := Lib.hid (size_64 hs64.out)
  have O64 : Hid (64 = (W32 (schedV [])).toArray.size) := Lib.hid (by rw [List.size_toArray, W32_length, hs64.out])
  go_upto_region 2 with (refine wpList_store_new rfl 29 _ _ rfl (B8 H).toArray rfl rfl 29 _ I32.out O32.out (B8_oneA H) ?_)
  dsimp only [Act.put]
  obtain ⟨W3, HW3, HB3, HR3⟩ : ∃ W3, Hid (W3 = w2.alloc (.cells (B8 H).toArray 29)) ∧ Hid (Below w2.heap.size w2 W3) ∧ Hid (W3.heap[w2.heap.size]? = some (.cells (B8 H).toArray 29 (0, 0))) :=
    ⟨_, Lib.hid rfl, Lib.hid ((Below.refl _ _).alloc (Nat.le_refl _) _), Lib.hid (heap_alloc_new _ _)⟩
  rw [← HW3.out]
  go_wp2_with (fail)
  refine (Round_any 63 _).mono ?_
  rintro e w4 ⟨rfl, hb4⟩
  rw [round63, round63e]
  have HB4 := Lib.hid hb4
  clear hb4
  go_wp2_with (fail)
  refine (Schedule_any _ [] _ (.inl ⟨rfl, _, _, rfl⟩)).mono ?_
  rintro e w5 ⟨rfl, hb5⟩
  have HB5 : Hid (Below W3.heap.size W3 w5) := Lib.hid (HB4.out.trans (hb5.mono HB4.out.size))
  rw [show err64 [] = 1 from rfl]
  clear hb5
  go_upto_region 4 with (refine wpList_store_new rfl 45 _ _ rfl (W32 (schedV [])).toArray rfl rfl 45 _ I64.out O64.out (W32_one _) ?_)
  have hb6 : Below W3.heap.size W3 (w5.alloc (.cells (W32 (schedV [])).toArray 45)) := HB5.out.alloc (HB5.out.size) _
  have hr6 := (hb6.block w2.heap.size (Array.getElem?_eq_some_iff.1 HR3.out).1).trans HR3.out
  have c0 : (w5.alloc (.cells (W32 (schedV [])).toArray 45)).cell? ⟨w2.heap.size, 0, none⟩ = some (.int .u8 186) := by
    have h := B8_cell hr6 (i := 0) (by rw [HL.out]; omega)
    rw [A0.out] at h; exact h
  have c1 : (w5.alloc (.cells (W32 (schedV [])).toArray 45)).cell? ⟨w2.heap.size, 1, none⟩ = some (.int .u8 120) := by
    have h := B8_cell hr6 (i := 1) (by rw [HL.out]; omega)
    rw [A1.out] at h; exact h
  have c31 : (w5.alloc (.cells (W32 (schedV [])).toArray 45)).cell? ⟨w2.heap.size, 31, none⟩ = some (.int .u8 173) := by
    have h := B8_cell hr6 (i := 31) (by rw [HL.out]; omega)
    rw [A31.out] at h; exact h
  have HB6 : Hid (Below w.heap.size w (w5.alloc (.cells (W32 (schedV [])).toArray 45))) := Lib.hid ((HB2.out.trans (HB3.out.mono HB2.out.size)).trans (hb6.mono (Nat.le_trans HB2.out.size HB3.out.size)))
  clear hb6 hr6
  generalize w5.alloc (.cells (W32 (schedV [])).toArray 45) = W6 at c0 c1 c31 HB6 ⊢
  go_wp2_with (go_at_call 30; refine (Pad_0 _).mono ?_; rintro e w7 ⟨a7, c7, rfl, hb7⟩)
  go_ret
  exact ⟨rfl, HB6.out.trans (hb7.mono HB6.out.size)⟩
end Go.Proofs.Ytabgnahjejhnkaa

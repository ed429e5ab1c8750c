/- The walk of the document's Pad. -/
import Derived.Test.YtcnelahmbfggcaaGreatShaI
import Derived.Test.YtcnelahmbfggcaaGreatFresh
namespace Go.Proofs.YtcnelahmbfggcaaGreat
open Go Go.RowKit
set_option maxRecDepth 100000
set_option maxHeartbeats 1000000

theorem own_one (w : World) (x : UInt8) : Own8 (w.alloc (.cells #[.int .u8 (bn x)] 5)) w.heap.size (.slice (some ⟨w.heap.size, 0, none⟩) 1 1) [x] :=
  ⟨rfl, .inr ⟨w.heap.size, 0, 1, _, rfl, Nat.le_refl _, heap_alloc_new w _, by simp, by simp [maxLen], by simp, fun j hj => by
    have : j = 0 := by simp [B8] at hj; omega
    subst this; rfl⟩⟩
theorem pad_parts (m z : Nat) (hz : z = (119 - m % 64) % 64) : pad m = (0x80 :: List.replicate z 0) ++ beTo 8 (m * 8 % 2 ^ 64) 8 := by
  subst hz; simp [pad, be, beTo]

theorem Pad_ref_pos (m : Nat) (w : World) (hm : m ≤ 1152921504606846976) :
    Calls Tryz.prog 95 #[.int .i64 m] w fun e w' => ∃ v, e = .returned v ∧ Own8 w' w.heap.size v (pad m) ∧ Below w.heap.size w w' := by
  obtain ⟨z, hz⟩ : ∃ z, z = (119 - m % 64) % 64 := ⟨_, rfl⟩
  have HP := Lib.hid (pad_parts m z hz)
  have hz2 : z < 64 := by omega
  have HZ := Lib.hid hz
  obtain ⟨N, HN⟩ : ∃ N, Hid (N = m * 8 % 2 ^ 64) := ⟨_, Lib.hid rfl⟩
  have HNI : Hid ((m : Int) * 8 = (N : Int)) := Lib.hid (by have := HN.out; omega)
  rw [← HN.out] at HP
  have hN : N < 2 ^ 64 := by have := HN.out; omega
  clear hz
  go_enter Tryz.func95, Tryz.ntmps95
  go_wp2_with fail
  go_loopg [3] (z + 1) (fun gk u wr => ∃ j : Nat, j ≤ z ∧ gk + j = z + 1 ∧ Own8 wr w.heap.size u (0x80 :: List.replicate j 0) ∧ Below w.heap.size w wr)
  case atStart => exact ⟨0, by omega, by omega, own_one w 0x80, (Below.refl _ _).alloc (Nat.le_refl _) _⟩
  case round =>
    obtain ⟨j, hj, hk, ho, hb⟩ := hrel
    obtain ⟨a, c, rfl⟩ := ho.shape
    have hlj : (0x80 :: List.replicate j (0 : UInt8)).length = j + 1 := by simp
    rw [hlj] at ho ⊢
    have HO0 := Lib.hid ho
    have HK := Lib.hid hk
    by_cases hjz : j = z
    · have hc : ((m : Int) + (j + 1) + 8) % 64 = 0 := by have := HZ.out; omega
      have HJZ := Lib.hid hjz
      have HB := Lib.hid hb
      clear ho hlj hk hjz hb
      go_wp2_with fail
      rw [HNI.out]
      clear hc
      obtain ⟨L, HLL⟩ : ∃ L, Hid (L = 0x80 :: List.replicate j (0 : UInt8)) := ⟨_, Lib.hid rfl⟩
      rw [← HLL.out] at HO0
      have HLN : Hid (L.length ≤ 65) := Lib.hid (by rw [HLL.out]; simp; omega)
      have HPP : Hid (pad m = L ++ beTo 8 N 8) := Lib.hid (by rw [HP.out, HLL.out, HJZ.out])
      generalize hW : wr = V at *
      clear hW
      go_loopw [3, 5] (fun u i wr => ∃ q : Nat, q ≤ 8 ∧ i = .int .i64 ((q : Int) - 1) ∧ Own8 wr w.heap.size u (L ++ beTo 8 N (8 - q)) ∧ Below w.heap.size w wr) (fun _ i _ => (intOf i + 1).toNat)
      case atStart => exact ⟨8, by omega, rfl, by simpa [beTo] using HO0.out, HB.out⟩
      case round =>
        obtain ⟨q, hk, rfl, ho, hb⟩ := hrel
        by_cases hm : 1 ≤ q
        · obtain ⟨j, rfl⟩ : ∃ j, q = j + 1 := ⟨q - 1, by omega⟩
          have hj : j < 8 := by omega
          have hc : ∀ (x : Nat), (bn (UInt8.ofNat x) : Int) = (x : Int) % 256 := fun x => by simp [bn]
          have HS : Sl (wr.alloc (.cells #[.int .u8 ((N : Int) / 2 ^ (8 * j) % 256)] 5)) (.slice (some ⟨wr.heap.size, 0, none⟩) 1 1) [UInt8.ofNat (N / 2 ^ (8 * j))] :=
            Sl.made _ [UInt8.ofNat (N / 2 ^ (8 * j))] _ _ _ _ (by simp [B8, hc]) rfl (by decide) rfl
          have HO := ho.later ((Below.refl wr.heap.size wr).alloc (Nat.le_refl _) (.cells #[.int .u8 ((N : Int) / 2 ^ (8 * j) % 256)] 5))
          have hlen : (L ++ beTo 8 N (8 - (j + 1))).length + [UInt8.ofNat (N / 2 ^ (8 * j))].length ≤ 1000000000 := by rw [List.length_append, beTo_length, List.length_singleton]; have := HLN.out; omega
          have hBa : w.heap.size ≤ (wr.alloc (.cells #[.int .u8 ((N : Int) / 2 ^ (8 * j) % 256)] 5)).heap.size := by have := hb.size; simp; omega
          have e : beTo 8 N (8 - j) = beTo 8 N (8 - (j + 1)) ++ [UInt8.ofNat (N / 2 ^ (8 * j))] := by
            rw [show 8 - j = (8 - (j + 1)) + 1 by omega, beTo_succ]
            congr 3
            rw [show 8 - 1 - (8 - (j + 1)) = j by omega]
          have HEE := Lib.hid e
          have HL := Lib.hid hlen
          have HHS := Lib.hid HS
          have HHO := Lib.hid HO
          have HBa := Lib.hid hBa
          have HBB := Lib.hid hb
          have hw8 : IntKind.i64.wrap (8 * (j : Int)) = 8 * j := by rw [IntKind.wrap_i64]; omega
          clear hc HS HO hlen e ho hBa hb
          go_wp2_with (at_builtin; refine wpList_append8 rfl _ _ rfl w.heap.size u3 _ rfl HHO.out _ _ rfl HHS.out HL.out HBa.out ?_; intro v' w' hv' hg hor)
          have hb2 := (HBB.out.alloc HBB.out.size (.cells #[.int .u8 ((N : Int) / 2 ^ (8 * j) % 256)] 5)).trans (HHO.out.below hg HBa.out)
          exact ⟨⟨j, by omega, rfl, by rw [HEE.out, ← List.append_assoc]; exact hv', hb2⟩, by simp [intOf]⟩
        · obtain rfl : q = 0 := by omega
          have HO : Hid (Own8 wr w.heap.size u3 (pad m)) := Lib.hid (by rw [HPP.out]; exact ho)
          have HBB := Lib.hid hb
          clear ho hb
          go_wp2
          go_ret
          exact ⟨_, rfl, HO.out, HBB.out⟩
    · have hc : ((m : Int) + (j + 1) + 8) % 64 ≠ 0 := by have := HZ.out; omega
      have HB := Lib.hid hb
      have hjz2 : j < z := by omega
      have HS : Sl (wr.alloc (.cells #[.int .u8 0] 5)) (.slice (some ⟨wr.heap.size, 0, none⟩) 1 1) [0] := Sl.made _ [0] _ _ _ _ rfl rfl (by decide) rfl
      have HO := ho.later ((Below.refl wr.heap.size wr).alloc (Nat.le_refl _) (.cells #[.int .u8 0] 5))
      have HHS := Lib.hid HS
      have HHO := Lib.hid HO
      have HL : Hid ((0x80 :: List.replicate j (0 : UInt8)).length + [(0 : UInt8)].length ≤ 1000000000) := Lib.hid (by simp; omega)
      have HBa : Hid (w.heap.size ≤ (wr.alloc (.cells #[.int .u8 0] 5)).heap.size) := Lib.hid (by have := hb.size; simp; omega)
      clear ho hlj hk hjz hb HS HO
      go_wp2_with (at_builtin; refine wpList_append8 rfl _ _ rfl w.heap.size _ (0x80 :: List.replicate j 0) rfl HHO.out _ [0] rfl HHS.out HL.out HBa.out ?_; intro v' w' hv' hg hor)
      have hb2 := (HB.out.alloc HB.out.size (.cells #[.int .u8 0] 5)).trans (HHO.out.below hg HBa.out)
      go_roundg (z + 1 - (j + 1))
      case measure => have := HK.out; omega
      case rel => exact ⟨j + 1, by omega, by omega, by rw [List.replicate_succ', ← List.cons_append]; exact hv', hb2⟩
end Go.Proofs.YtcnelahmbfggcaaGreat

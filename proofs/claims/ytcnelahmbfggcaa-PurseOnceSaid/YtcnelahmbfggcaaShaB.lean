/- The walk of sha.laid. -/
import Derived.Test.YtcnelahmbfggcaaOwn8
import Derived.Test.YtcnelahmbfggcaaShaA
namespace Go.Proofs.Ytcnelahmbfggcaa
open Go Go.RowKit
set_option maxRecDepth 100000
set_option maxHeartbeats 400000

/-- the first k bytes of the long ones of n -/
def beTo (long n k : Nat) : List UInt8 := (List.range k).map fun i => UInt8.ofNat (n / 2 ^ (8 * (long - 1 - i)))
theorem beTo_succ (long n k : Nat) : beTo long n (k + 1) = beTo long n k ++ [UInt8.ofNat (n / 2 ^ (8 * (long - 1 - k)))] := by simp [beTo, List.range_succ]
theorem beTo_length (long n k : Nat) : (beTo long n k).length = k := by simp [beTo]

theorem laid_any (v : Value) (l : List UInt8) (n long B : Nat) (w : World) (hown : Own8 w B v l) (hB : B ≤ w.heap.size) (hl : l.length ≤ 100000000) (hlong : long ≤ 8) :
    Calls Try.prog 67 #[v, .int .u64 n, .int .i64 long] w fun e w' => ∃ v', e = .returned v' ∧ Own8 w' B v' (l ++ be long n) ∧ Below B w w' := by
  go_enter Try.func67, Try.ntmps67
  go_wp2_with fail
  go_loopw [0, 7] (fun u i wr => ∃ m : Nat, m ≤ long ∧ i = .int .i64 ((m : Int) - 1) ∧ Own8 wr B u (l ++ beTo long n (long - m)) ∧ Below B w wr ∧ B ≤ wr.heap.size) (fun _ i _ => (intOf i + 1).toNat)
  case atStart => exact ⟨long, by omega, by simp, by simpa [beTo] using hown, Below.refl _ _, hB⟩
  case round =>
    obtain ⟨m, hk, rfl, ho, hb, hBr⟩ := hrel
    by_cases hm : 1 ≤ m
    · obtain ⟨j, rfl⟩ : ∃ j, m = j + 1 := ⟨m - 1, by omega⟩
      have hj : j < 8 := by omega
      have hc : ∀ (x : Nat), (bn (UInt8.ofNat x) : Int) = (x : Int) % 256 := fun x => by simp [bn]
      have HS : Sl (wr.alloc (.cells #[.int .u8 ((n : Int) / 2 ^ (8 * j) % 256)] 5)) (.slice (some ⟨wr.heap.size, 0, none⟩) 1 1) [UInt8.ofNat (n / 2 ^ (8 * j))] :=
        Sl.made _ [UInt8.ofNat (n / 2 ^ (8 * j))] _ _ _ _ (by simp [B8, hc]) rfl (by decide) rfl
      have HO := ho.later ((Below.refl wr.heap.size wr).alloc (Nat.le_refl _) (.cells #[.int .u8 ((n : Int) / 2 ^ (8 * j) % 256)] 5))
      have hlen : (l ++ beTo long n (long - (j + 1))).length + [UInt8.ofNat (n / 2 ^ (8 * j))].length ≤ 1000000000 := by rw [List.length_append, beTo_length, List.length_singleton]; omega
      have hBa : B ≤ (wr.alloc (.cells #[.int .u8 ((n : Int) / 2 ^ (8 * j) % 256)] 5)).heap.size := by simp; omega
      have e : beTo long n (long - j) = beTo long n (long - (j + 1)) ++ [UInt8.ofNat (n / 2 ^ (8 * j))] := by
        rw [show long - j = (long - (j + 1)) + 1 by omega, beTo_succ]
        congr 3
        rw [show long - 1 - (long - (j + 1)) = j by omega]
      have HE := Lib.hid e
      have HL := Lib.hid hlen
      have HHS := Lib.hid HS
      have HHO := Lib.hid HO
      have HH := Lib.hid ho
      have HBa := Lib.hid hBa
      clear hc HS HO hlen e ho hown hBa
      go_wp2_with (at_builtin; refine wpList_append8 rfl _ _ rfl B u0 _ rfl HHO.out _ _ rfl HHS.out HL.out HBa.out ?_; intro v' w' hv' hg hor)
      have hb2 := (hb.alloc hBr _).trans (HHO.out.below hg HBa.out)
      exact ⟨⟨j, by omega, rfl, by rw [HE.out, ← List.append_assoc]; exact hv', hb2, Nat.le_trans hB hb2.size⟩, by simp [intOf]⟩
    · obtain rfl : m = 0 := by omega
      have HO := Lib.hid ho
      clear ho hown
      go_wp2
      go_ret
      exact ⟨_, rfl, HO.out, hb⟩
end Go.Proofs.Ytcnelahmbfggcaa

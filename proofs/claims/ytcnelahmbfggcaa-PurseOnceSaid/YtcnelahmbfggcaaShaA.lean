/- The walks of sha's leaves: RotateLeft32, turn, word, words, first, laid. -/
import Derived.Test.YtcnelahmbfggcaaKit
import Derived.Test.YtcnelahmbfggcaaPlSha
namespace Go.Proofs.Ytcnelahmbfggcaa
open Go Go.RowKit
set_option maxRecDepth 100000
set_option maxHeartbeats 400000

/-- the cells of words -/
def W32 (l : List UInt32) : List Value := l.map fun x => Value.int .u32 (wn x)
theorem W32_length (l : List UInt32) : (W32 l).length = l.length := by simp [W32]
theorem W32_getElem? (l : List UInt32) (i : Nat) : (W32 l)[i]? = (l[i]?).map fun x => Value.int .u32 (wn x) := by simp [W32]
theorem W32_one (l : List UInt32) : (W32 l).toArray.all (·.oneCell') = true := Array.all_eq_true_iff_forall_mem.2 fun v hv => by
  simp [W32] at hv
  obtain ⟨_, _, rfl⟩ := hv
  rfl
theorem info_64 : (Try.prog.info? 115).map (·.size) = some 64 := by kernel_rfl
theorem info_8 : (Try.prog.info? 105).map (·.size) = some 8 := by kernel_rfl
theorem size_64 {l : List UInt32} (h : l.length = 64) : (Try.prog.info? 115).map (·.size) = some (W32 l).toArray.size := by rw [info_64]; simp [W32_length, h]
theorem size_8 {l : List UInt32} (h : l.length = 8) : (Try.prog.info? 105).map (·.size) = some (W32 l).toArray.size := by rw [info_8]; simp [W32_length, h]
theorem i_rot (x : UInt32) (k : Nat) (h1 : 1 ≤ k) (h2 : k ≤ 31) : bits .or .u32 ((wn x : Int) * 2 ^ (32 - k) % 4294967296) ((wn x : Int) / 2 ^ k) = ((wn (rotr x k) : Nat) : Int) := by
  have e1 : (UInt32.ofNat k).toNat = k := by simp; omega
  have e2 : (UInt32.ofNat (32 - k)).toNat = 32 - k := by simp; omega
  have a := i_shl x (UInt32.ofNat (32 - k)) (by omega)
  have b := i_shr x (UInt32.ofNat k) (by omega)
  rw [e2] at a
  rw [e1] at b
  rw [a, b, i_or, rotr, UInt32.or_comm]
theorem turn_any (x : UInt32) (k : Int) (w : World) (hk : 1 ≤ k ∧ k ≤ 31) : Calls Try.prog 74 #[.int .u32 (wn x), .int .i64 k] w fun e w' => e = .returned (.int .u32 (wn (rotr x k.toNat))) ∧ w' = w := by
  obtain ⟨k, rfl⟩ := Int.eq_ofNat_of_zero_le (show 0 ≤ k by omega)
  have h1 : 1 ≤ k := by omega
  have h2 : k ≤ 31 := by omega
  have hb : bits .and .u64 (IntKind.u64.wrap (-(k : Int))) 31 = 32 - k := by
    have := bits_mask .u64 64 (by decide) (fun n h0 h1 => by rw [IntKind.wrap_u64]; omega) 5 (by decide) (IntKind.u64.wrap (-(k : Int))) (by rw [IntKind.wrap_u64]; omega) (by rw [IntKind.wrap_u64]; omega)
    refine this.trans ?_
    rw [IntKind.wrap_u64]; omega
  have h3 : (0 : Int) ≤ 32 - k := by omega
  have h4 : (32 : Int) - k ≤ 32 := by omega
  have h5 : (32 : Int) - (32 - k) = k := by omega
  go_enter Try.func74, Try.ntmps74
  go_wp2
  go_ret
  exact ⟨ret_int (i_rot x k h1 h2), rfl⟩

set_option maxRecDepth 100000 in
theorem words_row (w : World) : Calls Try.prog 73 #[] w fun e w' => e = .returned (.pointer (some ⟨w.heap.size, 0, none⟩)) ∧ w' = w.alloc (.cells (W32 K).toArray 115) := by
  go_enter Try.func73, Try.ntmps73
  go_wp2
  go_ret
  exact ⟨rfl, rfl⟩
theorem words_any (w : World) : Calls Try.prog 73 #[] w fun e w' => ∃ c, Hid (c = (W32 K).toArray) ∧ e = .returned (.pointer (some ⟨w.heap.size, 0, none⟩)) ∧ w' = w.alloc (.cells c 115) :=
  (words_row w).mono fun _ _ ⟨h1, h2⟩ => ⟨_, Lib.hid rfl, h1, h2⟩
theorem first_any (w : World) : Calls Try.prog 64 #[] w fun e w' => e = .returned (.agg (W32 init.list).toArray) ∧ w' = w.alloc (.cells (W32 init.list).toArray 105) := by
  go_enter Try.func64, Try.ntmps64
  go_wp2
  exact bodyPost_ret (results_cell_row rfl _ _ w.heap.size 105 _ (0, 0) _ rfl (heap_alloc_new w _) Try.underlying105 rfl (by kernel_rfl)) rfl ⟨rfl, rfl⟩

theorem i_wide (x : UInt8) : (bn x : Int) % 4294967296 = ((wn x.toUInt32 : Nat) : Int) := by
  have := bn_lt x
  have e : wn x.toUInt32 = bn x := by simp [wn, bn]
  rw [e]; omega
theorem i_word (x0 x1 x2 x3 : UInt8) :
    bits .or .u32 (bits .or .u32 (bits .or .u32 ((bn x0 : Int) % 4294967296 * 16777216 % 4294967296) ((bn x1 : Int) % 4294967296 * 65536 % 4294967296)) ((bn x2 : Int) % 4294967296 * 256 % 4294967296)) ((bn x3 : Int) % 4294967296) =
      ((wn (x0.toUInt32 <<< 24 ||| x1.toUInt32 <<< 16 ||| x2.toUInt32 <<< 8 ||| x3.toUInt32) : Nat) : Int) := by
  have a0 := i_shl x0.toUInt32 24 (by decide)
  have a1 := i_shl x1.toUInt32 16 (by decide)
  have a2 := i_shl x2.toUInt32 8 (by decide)
  simp only [i_wide]
  rw [show (16777216 : Int) = 2 ^ (24 : UInt32).toNat from by decide, show (65536 : Int) = 2 ^ (16 : UInt32).toNat from by decide, show (256 : Int) = 2 ^ (8 : UInt32).toNat from by decide, a0, a1, a2, i_or, i_or, i_or]
theorem word_any (b off cap len : Nat) (l : List UInt8) (i : Nat) (w : World) (hl : 4 ≤ len) (hm : len ≤ 1000000)
    (h0 : w.cell? ⟨b, off, none⟩ = some (.int .u8 (bn (l.getD i 0)))) (h1 : w.cell? ⟨b, off + 1, none⟩ = some (.int .u8 (bn (l.getD (i + 1) 0))))
    (h2 : w.cell? ⟨b, off + 2, none⟩ = some (.int .u8 (bn (l.getD (i + 2) 0)))) (h3 : w.cell? ⟨b, off + 3, none⟩ = some (.int .u8 (bn (l.getD (i + 3) 0)))) :
    Calls Try.prog 78 #[.slice (some ⟨b, off, none⟩) len cap] w fun e w' => e = .returned (.int .u32 (wn (wordAt l i))) ∧ ∃ n, w' = w.drewN n := by
  have g0 : (0 : Int) < len := by omega
  have g1 : (1 : Int) < len := by omega
  have g2 : (2 : Int) < len := by omega
  have g3 : (3 : Int) < len := by omega
  unfold wordAt
  generalize l.getD i 0 = x0 at *
  generalize l.getD (i + 1) 0 = x1 at *
  generalize l.getD (i + 2) 0 = x2 at *
  generalize l.getD (i + 3) 0 = x3 at *
  go_enter Try.func78, Try.ntmps78
  go_wp2_with fail
  go_quiet (fail)
  go_wp2
  go_ret
  exact ⟨ret_int (i_word x0 x1 x2 x3), _, rfl⟩
end Go.Proofs.Ytcnelahmbfggcaa

/- A variable of bytes, written byte by byte; a state's bytes. -/
import Derived.Test.YtcnelahmbfggcaaKit2
import Derived.Test.YtcnelahmbfggcaaPlSha
namespace Go.Proofs.Ytcnelahmbfggcaa
open Go Go.RowKit
set_option maxRecDepth 100000

/-- block b is a variable of bytes -/
def Arr8 (w : World) (b : Nat) (t : TypeId) (l : List UInt8) : Prop := w.heap[b]? = some (.cells (B8 l).toArray t (0, 0))
theorem Arr8.cell {w : World} {b : Nat} {t : TypeId} {l : List UInt8} (h : Arr8 w b t l) {i : Nat} (hi : i < l.length) : w.cell? ⟨b, i, none⟩ = some (.int .u8 (bn (l.getD i 0))) := B8_cell h hi
theorem Arr8.frozen {w : World} {b : Nat} {t : TypeId} {l : List UInt8} (h : Arr8 w b t l) (i : Nat) : w.frozen? ⟨b, i, none⟩ = false := frozen_of_row w b i _ t h
theorem Arr8.set {w : World} {b : Nat} {t : TypeId} {l : List UInt8} (h : Arr8 w b t l) (i : Nat) (x : UInt8) : Arr8 (w.setCell ⟨b, i, none⟩ (.int .u8 (bn x))) b t (l.set i x) := by
  unfold Arr8
  rw [heap_setCell_same w b i _ t _ h]
  congr 2
  apply Array.toList_inj.1
  simp [B8, List.map_set]
theorem Arr8.later {w w' : World} {b : Nat} {t : TypeId} {l : List UInt8} (h : Arr8 w b t l) (hb : w'.heap[b]? = w.heap[b]?) : Arr8 w' b t l := hb.trans h
theorem set_fill8 (l : List UInt8) (n k : Nat) (x : UInt8) (hl : l.length = k) (hk : k < n) : (l ++ List.replicate (n - k) 0).set k x = (l ++ [x]) ++ List.replicate (n - (k + 1)) 0 := by
  subst hl
  rw [List.set_append_right _ _ (Nat.le_refl _), Nat.sub_self, show n - l.length = (n - (l.length + 1)) + 1 by omega, List.replicate_succ, List.set_cons_zero, List.append_assoc]
  rfl
theorem be4 (n : Nat) : be 4 n = [UInt8.ofNat (n / 2 ^ 24), UInt8.ofNat (n / 2 ^ 16), UInt8.ofNat (n / 2 ^ 8), UInt8.ofNat (n / 2 ^ 0)] := rfl
theorem words_byte : ∀ (l : List UInt32) (i : Nat), i < 4 * l.length → (l.flatMap fun x => be 4 x.toNat).getD i 0 = UInt8.ofNat ((l.getD (i / 4) 0).toNat / 2 ^ (24 - 8 * (i % 4)))
  | [], i, h => by simp at h
  | x :: l, i, h => by
    rw [List.flatMap_cons, be4]
    match i, h with
    | 0, _ => rfl
    | 1, _ => rfl
    | 2, _ => rfl
    | 3, _ => rfl
    | i + 4, h =>
      have ih := words_byte l i (by simp at h; omega)
      rw [show (i + 4) / 4 = i / 4 + 1 by omega, show (i + 4) % 4 = i % 4 by omega]
      simpa using ih
theorem St.bytes_length (s : St) : s.bytes.length = 32 := by simp [St.bytes, St.list, be]
theorem St.byte (s : St) (i : Nat) (h : i < 32) : s.bytes.getD i 0 = UInt8.ofNat (wn (s.list.getD (i / 4) 0) / 2 ^ (24 - 8 * (i % 4))) := words_byte s.list i (by simp [St.list]; omega)
theorem take_snoc8 (l : List UInt8) (k : Nat) (h : k < l.length) : l.take k ++ [l.getD k 0] = l.take (k + 1) := by
  rw [List.take_add_one, List.getElem?_eq_getElem h]
  simp [h]
end Go.Proofs.Ytcnelahmbfggcaa

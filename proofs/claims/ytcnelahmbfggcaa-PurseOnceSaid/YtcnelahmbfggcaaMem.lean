/- What it means that a slice value reads as given bytes in a world, and how that lasts. -/
import Derived.Test.YtcnelahmbfggcaaPl
import Derived.Below
import Derived.Laws.Rows
namespace Go.Proofs.Ytcnelahmbfggcaa
open Go Go.RowKit
set_option maxRecDepth 100000

/-- the cells of bytes -/
def B8 (l : List UInt8) : List Value := l.map fun b => Value.int .u8 (bn b)
theorem B8_length (l : List UInt8) : (B8 l).length = l.length := by simp [B8]

/-- the slice value v reads as the bytes l in the world w -/
def Sl (w : World) (v : Value) (l : List UInt8) : Prop :=
  (l = [] ∧ ∃ a c, v = .slice a 0 c) ∨
  ∃ b off cap, v = .slice (some ⟨b, off, none⟩) l.length cap ∧ 0 < l.length ∧ l.length ≤ cap ∧ cap ≤ maxLen ∧
    ∀ i (h : i < l.length), w.cell? ⟨b, off + i, none⟩ = some (.int .u8 (bn l[i]))

/-- it lasts as long as no old block turns -/
theorem Sl.later {w w' : World} {v : Value} {l : List UInt8} (h : Sl w v l) (hb : Below w.heap.size w w') : Sl w' v l := by
  rcases h with h | ⟨b, off, cap, rfl, h0, h1, h2, h3⟩
  · exact .inl h
  · refine .inr ⟨b, off, cap, rfl, h0, h1, h2, fun i hi => ?_⟩
    rw [hb.cell (World.block_lt_of_cell? _ _ (h3 i hi))]
    exact h3 i hi

theorem B8_getElem? (l : List UInt8) (i : Nat) : (B8 l)[i]? = (l[i]?).map fun b => Value.int .u8 (bn b) := by simp [B8]
/-- a slice over a block that holds the bytes from its place on -/
theorem Sl.ofBlock {w : World} {b off cap : Nat} {cs : Array Value} {t : TypeId} {fr : Nat × Nat} {l : List UInt8} {n : Nat} (hb : w.heap[b]? = some (.cells cs t fr)) (hn : n = l.length)
    (hc : n ≤ cap) (hm : cap ≤ maxLen) (h : ∀ i, i < l.length → cs[off + i]? = (B8 l)[i]?) : Sl w (.slice (some ⟨b, off, none⟩) n cap) l := by
  subst hn
  by_cases h0 : 0 < l.length
  · refine .inr ⟨b, off, cap, rfl, h0, hc, hm, fun i hi => ?_⟩
    rw [cell_of_row w b (off + i) cs t fr hb, h i hi, B8_getElem?, List.getElem?_eq_getElem hi]
    rfl
  · obtain rfl : l = [] := List.eq_nil_of_length_eq_zero (by omega)
    exact .inl ⟨rfl, _, _, rfl⟩
/-- .. over a block that was just made of them -/
theorem Sl.made (w : World) (l : List UInt8) (t : TypeId) (cs : Array Value) (n b : Nat) (h : cs = (B8 l).toArray) (hn : n = l.length) (hm : n ≤ maxLen) (hk : b = w.heap.size) :
    Sl (w.alloc (.cells cs t)) (.slice (some ⟨b, 0, none⟩) n n) l := by
  subst hk
  refine Sl.ofBlock (heap_alloc_new w _) hn (Nat.le_refl _) hm fun i _ => ?_
  subst h
  simp

/-- a byte of it -/
theorem Sl.cellAt {w : World} {a : Option Addr} {len cap : Nat} {l : List UInt8} (h : Sl w (.slice a len cap) l) {i : Nat} (hi : i < l.length) :
    ∃ b off, a = some ⟨b, off, none⟩ ∧ w.cell? ⟨b, off + i, none⟩ = some (.int .u8 (bn (l.getD i 0))) := by
  rcases h with ⟨rfl, _⟩ | ⟨b, off, c, hv, _, _, _, hc⟩
  · simp at hi
  · cases hv
    exact ⟨b, off, rfl, by rw [hc i hi]; simp [hi]⟩
end Go.Proofs.Ytcnelahmbfggcaa

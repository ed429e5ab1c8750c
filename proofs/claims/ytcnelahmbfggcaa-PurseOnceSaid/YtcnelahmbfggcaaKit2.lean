/- Two more small laws: a new variable is written whole; what a hash's cells are. -/
import Derived.Test.YtcnelahmbfggcaaOwn8
import Derived.Deep.MidRow
import Derived.Deep.WholeRow
namespace Go.Proofs.Ytcnelahmbfggcaa
open Go Go.RowKit
set_option maxRecDepth 100000

theorem wpList_store_new {P : Program} {ops : Array Oper} {rest : List Oper} {o : Oper} {a : Act} {w : World} {Q : Exit → Act → World → Prop} (hgd : o.guard = none) (ty : TypeId) (x y : Operand) (ho : o.op = .store ty x y)
    (cells : Array Value) (hx : a.eval x = .pointer (some ⟨w.heap.size, 0, none⟩)) (hy : a.eval y = .agg cells)
    (t : TypeId) (old : Array Value) (hi : (P.info? ty).map (·.size) = some cells.size) (hold : old.size = cells.size) (h1 : cells.all (·.oneCell') = true)
    (h : wpList P ops Q rest (a.put o.dst undef) (w.alloc (.cells cells t))) : wpList P ops Q (o :: rest) a (w.alloc (.cells old t)) :=
  wpList_store_row hgd ty x y ho w.heap.size cells hx hy t old (heap_alloc_new _ _) hi hold h1 (by rw [World.setRow_alloc_new]; exact h)

theorem B8_oneA (l : List UInt8) : (B8 l).toArray.all (·.oneCell') = true := Array.all_eq_true_iff_forall_mem.2 fun v hv => B8_one _ v (by simpa using hv)
theorem B8_size (l : List UInt8) : (B8 l).toArray.size = l.length := by simp [B8_length]
theorem B8_cell {w : World} {b : Nat} {t : TypeId} {l : List UInt8} (h : w.heap[b]? = some (.cells (B8 l).toArray t (0, 0))) {i : Nat} (hi : i < l.length) : w.cell? ⟨b, i, none⟩ = some (.int .u8 (bn (l.getD i 0))) := by
  rw [cell_of_row w b i _ t (0, 0) h, List.getElem?_toArray, B8_getElem?, List.getElem?_eq_getElem hi]
  simp [hi]
end Go.Proofs.Ytcnelahmbfggcaa

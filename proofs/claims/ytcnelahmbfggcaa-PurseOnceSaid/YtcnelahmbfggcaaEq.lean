/- Equality of rows of numbers. -/
import Derived.Test.YtcnelahmbfggcaaKit2
import Derived.ChangeKeysEq
namespace Go.Proofs.Ytcnelahmbfggcaa
open Go Go.RowKit
set_option maxRecDepth 100000

theorem run_part_int {P : Program} {w : World} {e : TypeId} {k' : IntKind} (he : P.underlying e = some (.int k')) (xs : Array Value) (i : Nat) (v : Value) (h : xs[i]? = some v) : (part e xs i).run P w = .ok v w := by
  simp [part, isAgg, run_underlying he, h]
theorem run_eqItems_ints {P : Program} {w : World} (d : Nat) {e : TypeId} {k k' : IntKind} (he : P.underlying e = some (.int k')) (xa xb : List Int) (hl : xa.length = xb.length) : ∀ (m s : Nat), s + m = xa.length →
    (Op.eqItems (d + 1) e 1 (xa.map (Value.int k)).toArray (xb.map (Value.int k)).toArray (List.range' s m)).run P w = .ok (decide (xa.drop s = xb.drop s)) w
  | 0, s, h => by
    have h1 : xa.drop s = [] := List.drop_eq_nil_of_le (by omega)
    have h2 : xb.drop s = [] := List.drop_eq_nil_of_le (by omega)
    simp [Op.eqItems, h1, h2]
  | m + 1, s, h => by
    have ha : s < xa.length := by omega
    have hb : s < xb.length := by omega
    have e1 : (xa.map (Value.int k)).toArray[s * 1]? = some (.int k xa[s]) := by simp [ha]
    have e2 : (xb.map (Value.int k)).toArray[s * 1]? = some (.int k xb[s]) := by simp [hb]
    rw [List.range'_succ]
    simp only [Op.eqItems, Sem.run_bind, run_part_int he _ _ _ e1, run_part_int he _ _ _ e2, Result.andThen_ok, run_equalIn_int w d e k k' _ _ he, Sem.run_ite, Sem.run_pure]
    rw [List.drop_eq_getElem_cons ha, List.drop_eq_getElem_cons hb]
    by_cases hx : xa[s] = xb[s]
    · have := run_eqItems_ints (w := w) (k := k) d he xa xb hl m (s + 1) (by omega)
      rw [hx]
      simp only [beq_self_eq_true, Bool.not_true, Bool.false_eq_true, if_false, this, List.cons.injEq, true_and]
    · simp only [beq_eq_false_iff_ne.2 hx, Bool.not_false, if_true, List.cons.injEq, hx, false_and, decide_false]
theorem run_eq_ints {P : Program} {w : World} (d : Nat) {t e : TypeId} {n : Nat} {i : TypeInfo} {k k' : IntKind} (ht : P.underlying t = some (.array n e)) (hi : P.info? e = some i) (hc : P.cellsOf e = 1) (he : P.underlying e = some (.int k'))
    (xa xb : List Int) (ha : xa.length = n) (hb : xb.length = n) :
    (Op.equalIn (d + 2) t (.agg (xa.map (Value.int k)).toArray) (.agg (xb.map (Value.int k)).toArray)).run P w = .ok (decide (xa = xb)) w := by
  rw [run_equalIn_array w (d + 1) _ _ ht hi, hc, List.range_eq_range', run_eqItems_ints d he xa xb (by omega) n 0 (by omega)]
  simp

theorem cells_u8 : Try.prog.cellsOf 5 = 1 := by kernel_rfl
theorem map_bn_inj {l l' : List UInt8} : (l.map fun b => ((bn b : Nat) : Int)) = (l'.map fun b => ((bn b : Nat) : Int)) ↔ l = l' :=
  ⟨fun h => (List.map_inj_right (fun a b h => UInt8.toNat_inj.1 (Int.ofNat.inj h))).1 h, fun h => by rw [h]⟩
/-- two sums are alike, or not -/
theorem eq_hash (l l' : List UInt8) (h : l.length = 32) (h' : l'.length = 32) (w : World) : (Op.equalIn 10000 23 (.agg (B8 l).toArray) (.agg (B8 l').toArray)).run Try.prog w = .ok (decide (l = l')) w := by
  obtain ⟨i0, hi, _⟩ := info_parts info_u8
  have e (l : List UInt8) : (B8 l) = (l.map fun b => ((bn b : Nat) : Int)).map (Value.int .u8) := by simp [B8]
  rw [e l, e l', run_eq_ints (P := Try.prog) 9998 Try.underlying23 hi cells_u8 Try.underlying5 _ _ (by simp [h]) (by simp [h'])]
  simp only [map_bn_inj]
end Go.Proofs.Ytcnelahmbfggcaa

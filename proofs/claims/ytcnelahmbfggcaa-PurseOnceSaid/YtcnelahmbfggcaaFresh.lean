/- Append onto a slice that is shut (its room is its length), of at least one byte: always into new memory; at a step of a region that draws. -/
import Derived.Test.YtcnelahmbfggcaaOwn8
namespace Go.Proofs.Ytcnelahmbfggcaa
open Go Go.RowKit
set_option maxRecDepth 100000

theorem run_append_fresh {w : World} {ty : TypeId} (v : Value) (l r : List UInt8) (y : Value) (hv : Sl w v l) (hsh : ∃ a, v = .slice a l.length l.length) (hr : Sl w y r) (hr0 : 0 < r.length) (hlen : l.length + r.length ≤ 1000000000) :
    ∃ v' w', (Builtin.append_ #[41, 41] ty #[v, y]).run Try.prog w = .ok v' w' ∧ Own8 w' w.heap.size v' (l ++ r) ∧ Below w.heap.size w w' := by
  obtain ⟨a, rfl⟩ := hsh
  obtain ⟨i0, hi, hz0, hz1, hz2⟩ := info_parts info_u8
  have hold : (Builtin.firstCells i0.size l.length (.slice a l.length l.length)).run Try.prog w.drew = .ok (B8 l).toArray w.drew := by
    rw [hz1]
    rcases hv with ⟨rfl, _⟩ | ⟨b, off, cap, he, h0, _, _, hc⟩
    · cases a with
      | none => simp [Builtin.firstCells, B8]
      | some a => exact run_firstCells_some (P := Try.prog) w.drew 1 0 a 0 0 (B8 []) rfl fun j u hu => by simp [B8] at hu
    · cases he
      refine run_firstCells_some (P := Try.prog) w.drew 1 l.length ⟨b, off, none⟩ l.length l.length (B8 l) (by rw [B8_length, Nat.mul_one]) fun j u hu => ?_
      have hj : j < l.length := by have := (List.getElem?_eq_some_iff.1 hu).1; rwa [B8_length] at this
      have hadd : (⟨b, off, none⟩ : Addr).add j = ⟨b, off + j, none⟩ := by unfold Addr.add; split <;> simp_all
      rw [hadd]
      refine (hc j hj).trans ?_
      rw [← hu, B8_getElem?, List.getElem?_eq_getElem hj]
      rfl
  have hs := hr.src
  rw [← hz1] at hs
  have hrun := run_append_grow_src (P := Try.prog) w 41 41 ty 5 i0 (.int .u8 0) Try.underlying41 hi hz0 a l.length l.length (B8 l) hold y r.length (B8 r) hs (by omega) (by omega)
    (growslice_fits (by omega) (by rw [hz2]; omega))
  have hge := grownCap_ge w (l.length + r.length) l.length 5
  have hcm := grownCap_le_maxLen w (l.length + r.length) l.length 5 (by simp only [maxLen]; omega)
  refine ⟨_, _, hrun, ?_, ⟨rfl, rfl, rfl, by simp, fun k hk => Below.heap_alloc w.drew _ k hk⟩⟩
  unfold Own8
  rw [List.length_append, B8_append]
  refine ⟨by rw [List.length_append, B8_length, B8_length, Nat.mul_one], .inr ⟨w.heap.size, 0, _, _, rfl, Nat.le_refl _, heap_alloc_new w.drew _, hge, hcm, ?_, fun j hj => ?_⟩⟩
  · simp only [Array.size_append, List.size_toArray, size_zeroCells, List.length_append, B8_length, Value.cells]
    simp
    omega
  · rw [Nat.zero_add, Array.getElem?_append_left (by simpa using hj), List.getElem?_toArray]

/-- at a step of a region that draws its order -/
theorem step_append_fresh {ops : Array Oper} {o : Oper} {a : Act} {w : World} {K : Act → World → Prop} {Q : Exit → Act → World → Prop} {E : Prop} (hgd : o.guard = none) (s x : Operand)
    (ho : o.op = .call { callee := .builtin .append, args := #[s, x], argTypes := #[41, 41] })
    (v : Value) (l : List UInt8) (hs : a.eval s = v) (hv : Sl w v l) (hsh : ∃ a, v = .slice a l.length l.length) (y : Value) (r : List UInt8) (hx : a.eval x = y) (hr : Sl w y r) (hr0 : 0 < r.length)
    (hlen : l.length + r.length ≤ 1000000000)
    (h : ∀ v' w', Own8 w' w.heap.size v' (l ++ r) → Below w.heap.size w w' → K (a.put o.dst v') w') :
    if Region.wanted o (yielded ops a.tmps) = true then Oper.wp Try.prog o a w K Q else E := by
  have hw : Region.wanted o (yielded ops a.tmps) = true := by simp [Region.wanted, hgd]
  rw [if_pos hw]
  obtain ⟨v', w', hrun, h2, h3⟩ := run_append_fresh (ty := o.type) v l r y hv hsh hr hr0 hlen
  unfold Oper.wp execOp
  simp only [ho, resolve, invoke, builtin, Sem.run_bind, Sem.run_pure, Result.andThen_ok, List.map_toArray, List.map_cons, List.map_nil, hs, hx, hrun]
  exact h v' w' h2 h3
/-- in a plain region -/
theorem wpList_append_fresh {ops : Array Oper} {rest : List Oper} {o : Oper} {a : Act} {w : World} {Q : Exit → Act → World → Prop} (hgd : o.guard = none) (s x : Operand)
    (ho : o.op = .call { callee := .builtin .append, args := #[s, x], argTypes := #[41, 41] })
    (v : Value) (l : List UInt8) (hs : a.eval s = v) (hv : Sl w v l) (hsh : ∃ a, v = .slice a l.length l.length) (y : Value) (r : List UInt8) (hx : a.eval x = y) (hr : Sl w y r) (hr0 : 0 < r.length)
    (hlen : l.length + r.length ≤ 1000000000)
    (h : ∀ v' w', Own8 w' w.heap.size v' (l ++ r) → Below w.heap.size w w' → wpList Try.prog ops Q rest (a.put o.dst v') w') :
    wpList Try.prog ops Q (o :: rest) a w := by
  refine wpList_plain hgd fun _ hK => ?_
  obtain ⟨v', w', hrun, h2, h3⟩ := run_append_fresh (ty := o.type) v l r y hv hsh hr hr0 hlen
  unfold Oper.wp execOp
  simp only [ho, resolve, invoke, builtin, Sem.run_bind, Sem.run_pure, Result.andThen_ok, List.map_toArray, List.map_cons, List.map_nil, hs, hx, hrun]
  exact hK _ _ (h v' w' h2 h3)
end Go.Proofs.Ytcnelahmbfggcaa

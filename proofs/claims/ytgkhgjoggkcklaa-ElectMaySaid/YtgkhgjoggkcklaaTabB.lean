/- A table of what is known of a drawn region's values, and the laws with it: the region's operations only read or make memory, and perhaps a last one follows behind all. No condition. -/
import Derived.Test.YtgkhgjoggkcklaaTail
import Derived.Test.YtgkhgjoggkcklaaKit2
import Derived.Deep.MidRow
namespace Go.Proofs.Ytgkhgjoggkcklaa
open Go Go.RowKit
set_option maxRecDepth 100000
namespace Wild

structure Ent where
  pure : Value → Prop
  dflt : Value
  fact : Value → World → Prop
  later : ∀ v w w', fact v w → Below w.heap.size w w' → fact v w'
  ok : pure dflt
def Ent.fix (v : Value) : Ent := ⟨(· = v), v, fun _ _ => True, fun _ _ _ _ _ => trivial, rfl⟩
def Ent.sl (l : List UInt8) : Ent := ⟨fun _ => True, undef, fun v w => Sl w v l, fun _ _ _ h hb => h.later hb, trivial⟩
def Ent.var (t : TypeId) (Z : Array Value) (B : Nat) : Ent := ⟨fun _ => True, undef, fun v w => ∃ b : Nat, v = .pointer (some ⟨b, 0, none⟩) ∧ B ≤ b ∧ w.heap[b]? = some (.cells Z t (0, 0)),
  fun _ _ _ ⟨b, h1, h2, h3⟩ hb => ⟨b, h1, h2, (hb.block b (Array.getElem?_eq_some_iff.1 h3).1).trans h3⟩, trivial⟩
def tab (T : Nat → Option Ent) (use : Nat → List Nat) : Spec where
  pure := fun k => (T k).map (·.pure)
  dflt := fun k => match T k with | some e => e.dflt | none => undef
  fact := fun k vs w => match T k with | some e => e.fact (vs k) w | none => True
  use := use
variable {T : Nat → Option Ent} {use : Nat → List Nat}
theorem tab_later : ∀ k vs w w', (tab T use).fact k vs w → Below w.heap.size w w' → (tab T use).fact k vs w' := by
  intro k vs w w' h hb
  simp only [tab] at *
  cases e : T k with
  | none => trivial
  | some x => rw [e] at h; exact x.later _ _ _ h hb
theorem tab_loc : ∀ k (vs vs' : Nat → Value) w, vs k = vs' k → (∀ m ∈ (tab T use).use k, ((tab T use).pure m).isSome = true → vs m = vs' m) → (tab T use).fact k vs w → (tab T use).fact k vs' w := by
  intro k vs vs' w he _ h
  simp only [tab] at *
  rw [← he]
  exact h
theorem tab_dflt : ∀ k p, (tab T use).pure k = some p → p ((tab T use).dflt k) := by
  intro k p h
  simp only [tab] at *
  cases e : T k with
  | none => rw [e] at h; cases h
  | some x => rw [e] at h; cases h; exact x.ok
theorem tab_pure {k : Nat} {e : Ent} (h : T k = some e) : (tab T use).pure k = some e.pure := by simp [tab, h]
theorem tab_fact {k : Nat} {e : Ent} {vs : Nat → Value} {w : World} (h : T k = some e) (hf : (tab T use).fact k vs w) : e.fact (vs k) w := by
  simp only [tab, h] at hf; exact hf

abbrev CB (w : World) (w' : World) : Prop := Below w.heap.size w w'
abbrev GB (w w' : World) : Prop := Below w.heap.size w w'
/-- the last operation behind all others -/
theorem region_tail_b {P : Program} {id : Nat} {Q : Exit → Act → World → Prop} {a : Act} {w : World} {m : List Oper} {o : Oper} (n : Nat) (T : Nat → Option Ent) (use : Nat → List Nat) (hn : m.length = n + 1) (ho : m[n]? = some o) (hg : o.guard = none) (hm : P.follows .mixedOrders = true) (hB : okB (m.take n).toArray use = true) (hL : lastB (m.take n) o = true)
    (h : ∀ vs : Nat → Value, (∀ k e, T k = some e → e.pure (vs k)) → walk P (m.take n).toArray (CB w) GB (tab T use) vs (fun a' => ∀ w', CB w w' → (∀ j e, T j = some e → j < n → e.fact (vs j) w') → o.wp P a' w' (Q .normal) Q) (m.take n) 0 a) : (Code.region id m.toArray true).wp P Q a w :=
  region_tail n (tab T use) (CB w) GB hn ho hg hm hB hL ((Below.refl _ _).drew) tab_later tab_loc tab_dflt fun vs hvs => by
    have h1 := h vs fun k e he => hvs k _ (tab_pure he)
    have e : (fun a' : Act => ∀ w', CB w w' → (∀ j, ((tab T use).pure j).isSome = true → j < n → (tab T use).fact j vs w') → o.wp P a' w' (Q .normal) Q) = (fun a' : Act => ∀ w', CB w w' → (∀ j e, T j = some e → j < n → e.fact (vs j) w') → o.wp P a' w' (Q .normal) Q) := by
      funext a'
      apply propext
      constructor
      · intro h2 w' hc hf
        refine h2 w' hc fun j hj hjn => ?_
        simp only [tab] at hj ⊢
        cases e : T j with
        | none => trivial
        | some x => exact hf j x e hjn
      · intro h2 w' hc hf
        exact h2 w' hc fun j e he hjn => tab_fact he (hf j (by rw [tab_pure he]; rfl) hjn)
    rw [e]
    exact h1
theorem region_tail2_b {P : Program} {id : Nat} {Q : Exit → Act → World → Prop} {a : Act} {w : World} {m : List Oper} {o o2 : Oper} (n : Nat) (T : Nat → Option Ent) (use : Nat → List Nat) (hn : m.length = n + 2) (ho : m[n]? = some o) (ho2 : m[n + 1]? = some o2) (hg : o.guard = none) (hg2 : o2.guard = none) (hm : P.follows .mixedOrders = true)
    (hB : okB (m.take n).toArray use = true) (hL : lastB (m.take n) o = true) (hL2 : lastB (m.take n ++ [o]) o2 = true)
    (h : ∀ vs : Nat → Value, (∀ k e, T k = some e → e.pure (vs k)) → walk P (m.take n).toArray (CB w) GB (tab T use) vs (fun a' => ∀ w', CB w w' → (∀ j e, T j = some e → j < n → e.fact (vs j) w') → o.wp P a' w' (fun a2 w2 => o2.wp P a2 w2 (Q .normal) Q) (fun _ _ _ => False)) (m.take n) 0 a) : (Code.region id m.toArray true).wp P Q a w :=
  region_tail2 n (tab T use) (CB w) GB hn ho ho2 hg hg2 hm hB hL hL2 ((Below.refl _ _).drew) tab_later tab_loc tab_dflt fun vs hvs => by
    have h1 := h vs fun k e he => hvs k _ (tab_pure he)
    have e : (fun a' : Act => ∀ w', CB w w' → (∀ j, ((tab T use).pure j).isSome = true → j < n → (tab T use).fact j vs w') → o.wp P a' w' (fun a2 w2 => o2.wp P a2 w2 (Q .normal) Q) (fun _ _ _ => False)) = (fun a' : Act => ∀ w', CB w w' → (∀ j e, T j = some e → j < n → e.fact (vs j) w') → o.wp P a' w' (fun a2 w2 => o2.wp P a2 w2 (Q .normal) Q) (fun _ _ _ => False)) := by
      funext a'
      apply propext
      constructor
      · intro h2 w' hc hf
        refine h2 w' hc fun j hj hjn => ?_
        simp only [tab] at hj ⊢
        cases e : T j with
        | none => trivial
        | some x => exact hf j x e hjn
      · intro h2 w' hc hf
        exact h2 w' hc fun j e he hjn => tab_fact he (hf j (by rw [tab_pure he]; rfl) hjn)
    rw [e]
    exact h1
/-- no last operation -/
theorem region_b {P : Program} {id : Nat} {Q : Exit → Act → World → Prop} {a : Act} {w : World} {l : List Oper} (T : Nat → Option Ent) (use : Nat → List Nat) (hm : P.follows .mixedOrders = true) (hB : okB l.toArray use = true)
    (h : ∀ vs : Nat → Value, (∀ k e, T k = some e → e.pure (vs k)) → walk P l.toArray (CB w) GB (tab T use) vs (fun a' => ∀ w', CB w w' → (∀ m, ((tab T use).pure m).isSome = true → m < l.length → (tab T use).fact m vs w') → Q .normal a' w') l 0 a) : (Code.region id l.toArray true).wp P Q a w :=
  region (tab T use) (CB w) GB hm hB ((Below.refl _ _).drew) tab_later tab_loc tab_dflt fun vs hvs => h vs fun k _ he => hvs k _ (tab_pure he)
end Wild
theorem below_row {B b : Nat} {a w : World} (h : Below B a w) (hb : B ≤ b) (c : Array Value) : Below B a (w.setRow b c) :=
  ⟨h.os, h.tape, h.output, by simpa using h.size, fun k hk => by rw [setRow_other _ _ _ _ (by omega)]; exact h.block k hk⟩
theorem rangeAt_row {w : World} {b : Nat} {t : TypeId} {cs : List Value} (h : w.heap[b]? = some (.cells cs.toArray t (0, 0))) : w.rangeAt b 0 cs := fun j v hj => by
  rw [cell_of_row w b (0 + j) _ t (0, 0) h, Nat.zero_add, List.getElem?_toArray]; exact hj
theorem rangeAt_blw {w w' : World} {b o : Nat} {cs : List Value} (h : w.rangeAt b o cs) (hb : Below w.heap.size w w') : w'.rangeAt b o cs := fun j v hj => by
  have := h j v hj
  rw [hb.cell (World.block_lt_of_cell? _ _ this)]; exact this
theorem run_loadVar_one {P : Program} (w : World) (b o : Nat) (ty : TypeId) (u : Value) (d : TypeDesc) (hc : w.cell? ⟨b, o, none⟩ = some u) (hu : P.underlying ty = some d) (hd : d.isRow = false) :
    (loadVar ty ⟨b, o, none⟩).run P w = .ok u w := by
  have hagg : (isAgg ty).run P w = .ok false w := by
    unfold isAgg
    rw [Sem.run_bind, run_underlying hu w]
    cases d <;> simp_all
  simp [loadVar, Sem.run_bind, hagg, hc]
theorem Wild.walk_cell {P : Program} {ops : Array Oper} {C : World → Prop} {G : World → World → Prop} {S : Wild.Spec} {vs : Nat → Value} {Q : Act → Prop} {rest : List Oper} {o : Oper} {k : Nat} {a : Act}
    (ty : TypeId) (x : Operand) (b off : Nat) (u : Value) (d : TypeDesc) (hp : S.pure k = none) (hw : Region.wanted o (yielded ops a.tmps) = true) (ho : o.op = .load ty x) (hx : a.eval x = .pointer (some ⟨b, off, none⟩))
    (hS : ∀ w, Wild.At C S vs k w → w.cell? ⟨b, off, none⟩ = some u) (hu : P.underlying ty = some d) (hd : d.isRow = false)
    (h : Wild.walk P ops C G S vs Q rest (k + 1) (a.put o.dst u)) : Wild.walk P ops C G S vs Q (o :: rest) k a :=
  Wild.walk_run _ hp hw (fun w hw' => by
    unfold execOp
    simp only [ho, hx, Instr.loadAt, Instr.sureAddr, Sem.run_bind, Sem.run_pure, Result.andThen_ok, run_loadVar_one w b off ty u d (hS w hw') hu hd]) h
end Go.Proofs.Ytgkhgjoggkcklaa

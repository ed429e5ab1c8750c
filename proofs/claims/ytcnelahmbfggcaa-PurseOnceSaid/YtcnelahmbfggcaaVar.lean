/- The statement 'x, e := f(..)' whose region draws its order: a call whose value does not hang on the world, a new variable, its store. No condition. -/
import Derived.Test.YtcnelahmbfggcaaWild
import Derived.Test.YtcnelahmbfggcaaKit2
namespace Go.Proofs.Ytcnelahmbfggcaa
open Go Go.RowKit
set_option maxRecDepth 100000
/-- a whole variable is read, in a plain region, the operation guarded or not -/
theorem wpList_load_want {P : Program} {ops : Array Oper} {rest : List Oper} {o : Oper} {a : Act} {w : World} {Q : Exit → Act → World → Prop} (hw : Region.wanted o (yielded ops a.tmps) = true) (ty : TypeId) (x : Operand) (ho : o.op = .load ty x)
    (g : Nat) (hx : a.eval x = .pointer (some ⟨g, 0, none⟩)) (t : TypeId) (cs : Array Value) (fr : Nat × Nat) (d : TypeDesc) (hg : w.heap[g]? = some (.cells cs t fr))
    (hu : P.underlying ty = some d) (hd : (match d with | .struct _ | .array _ _ => true | _ => false) = true) (hi : (P.info? ty).map (·.size) = some cs.size)
    (h : wpList P ops Q rest (a.put o.dst (.agg cs)) w) : wpList P ops Q (o :: rest) a w := by
  unfold wpList
  rw [if_pos hw]
  exact .inl (wp_load_row ty x ho g hx t cs fr d hg hu hd hi h)
namespace Wild

/-- rows Z may become rows V; a row V stays -/
def G1 (t : TypeId) (Z V : Array Value) (w w' : World) : Prop :=
  (∀ b : Nat, w.heap[b]? = some (.cells V t (0, 0)) → w'.heap[b]? = some (.cells V t (0, 0))) ∧
  ∀ b : Nat, w.heap[b]? = some (.cells Z t (0, 0)) → w'.heap[b]? = some (.cells Z t (0, 0)) ∨ w'.heap[b]? = some (.cells V t (0, 0))
theorem G1.of_below {t : TypeId} {Z V : Array Value} {w w' : World} (h : Below w.heap.size w w') : G1 t Z V w w' :=
  ⟨fun b hb => by rw [h.block b (Array.getElem?_eq_some_iff.1 hb).1, hb], fun b hb => .inl (by rw [h.block b (Array.getElem?_eq_some_iff.1 hb).1, hb])⟩
theorem G1.of_set {t : TypeId} {Z V : Array Value} {w : World} {g : Nat} (h : w.heap[g]? = some (.cells Z t (0, 0)) ∨ w.heap[g]? = some (.cells V t (0, 0))) : G1 t Z V w (w.setRow g V) := by
  have hg : ∃ cs, w.heap[g]? = some (.cells cs t (0, 0)) := by rcases h with h | h <;> exact ⟨_, h⟩
  obtain ⟨cs, hg⟩ := hg
  have key : ∀ b : Nat, b ≠ g → (w.setRow g V).heap[b]? = w.heap[b]? := fun b hb => setRow_other w g b V hb
  refine ⟨fun b hb => ?_, fun b hb => ?_⟩
  · by_cases e : b = g
    · subst e; exact setRow_heap _ _ _ _ _ _ hg
    · rw [key b e, hb]
  · by_cases e : b = g
    · subst e; exact .inr (setRow_heap _ _ _ _ _ _ hg)
    · exact .inl (by rw [key b e, hb])
/-- what is known: the call's value c (operation ci), the variable's place (ai), the store (si) -/
def sp1 (t : TypeId) (Z V : Array Value) (B : Nat) (c : Value) (ci ai si : Nat) : Spec where
  pure := fun k => if k = ci then some (· = c) else if k = ai then some fun _ => True else if k = si then some fun _ => True else none
  dflt := fun k => if k = ci then c else undef
  fact := fun k vs w => if k = ai then ∃ b : Nat, vs ai = .pointer (some ⟨b, 0, none⟩) ∧ B ≤ b ∧ (w.heap[b]? = some (.cells Z t (0, 0)) ∨ w.heap[b]? = some (.cells V t (0, 0)))
    else if k = si then ∃ b : Nat, vs ai = .pointer (some ⟨b, 0, none⟩) ∧ B ≤ b ∧ w.heap[b]? = some (.cells V t (0, 0)) else True
  use := fun k => if k = si then [ai] else []
variable {t : TypeId} {Z V : Array Value} {B : Nat} {c : Value} {ci ai si : Nat}
theorem sp1_later : ∀ k vs w w', (sp1 t Z V B c ci ai si).fact k vs w → G1 t Z V w w' → (sp1 t Z V B c ci ai si).fact k vs w' := by
  intro k vs w w' h hg
  simp only [sp1] at *
  split
  · rename_i e
    rw [if_pos e] at h
    obtain ⟨b, h1, h2, h3⟩ := h
    refine ⟨b, h1, h2, ?_⟩
    rcases h3 with h3 | h3
    · exact hg.2 b h3
    · exact .inr (hg.1 b h3)
  · rename_i e
    rw [if_neg e] at h
    split
    · rename_i e2
      rw [if_pos e2] at h
      obtain ⟨b, h1, h2, h3⟩ := h
      exact ⟨b, h1, h2, hg.1 b h3⟩
    · trivial
theorem sp1_loc (hai : ai ≠ ci) : ∀ k (vs vs' : Nat → Value) w, vs k = vs' k → (∀ m ∈ (sp1 t Z V B c ci ai si).use k, ((sp1 t Z V B c ci ai si).pure m).isSome = true → vs m = vs' m) → (sp1 t Z V B c ci ai si).fact k vs w → (sp1 t Z V B c ci ai si).fact k vs' w := by
  intro k vs vs' w he hu h
  simp only [sp1] at *
  split
  · rename_i e
    rw [if_pos e] at h
    subst e
    rw [← he]
    exact h
  · rename_i e
    rw [if_neg e] at h
    split
    · rename_i e2
      rw [if_pos e2] at h hu
      rw [← hu ai (by simp) (by rw [if_neg hai]; simp)]
      exact h
    · trivial
theorem sp1_dflt : ∀ k p, (sp1 t Z V B c ci ai si).pure k = some p → p ((sp1 t Z V B c ci ai si).dflt k) := by
  intro k p h
  simp only [sp1] at *
  split at h
  · rename_i e; cases h; rw [if_pos e]
  · split at h
    · cases h; trivial
    · split at h
      · cases h; trivial
      · cases h
/-- the store's step -/
theorem step_store {P : Program} {o : Oper} {a : Act} {w : World} {K : Act → World → Prop} {Q : Exit → Act → World → Prop} (ty : TypeId) (x y : Operand) (ho : o.op = .store ty x y) {v : Value} (hx : a.eval x = v) (hy : a.eval y = .agg V)
    (hi : (P.info? ty).map (·.size) = some V.size) (hZ : Z.size = V.size) (h1 : V.all (·.oneCell') = true)
    (hf : ∃ b : Nat, v = .pointer (some ⟨b, 0, none⟩) ∧ B ≤ b ∧ (w.heap[b]? = some (.cells Z t (0, 0)) ∨ w.heap[b]? = some (.cells V t (0, 0))))
    (h : ∀ b : Nat, v = .pointer (some ⟨b, 0, none⟩) → B ≤ b → G1 t Z V w (w.setRow b V) → (w.setRow b V).heap[b]? = some (.cells V t (0, 0)) → K (a.put o.dst undef) (w.setRow b V)) : o.wp P a w K Q := by
  obtain ⟨b, rfl, hB, hc⟩ := hf
  have hg := G1.of_set hc
  obtain ⟨cs, hcs, hsz⟩ : ∃ cs, w.heap[b]? = some (.cells cs t (0, 0)) ∧ cs.size = V.size := by
    rcases hc with h | h
    · exact ⟨_, h, hZ⟩
    · exact ⟨_, h, rfl⟩
  exact wp_store_row ty x y ho b V hx hy t cs hcs hi hsz h1 (h b rfl hB hg (setRow_heap _ _ _ _ _ _ hcs))
end Wild
end Go.Proofs.Ytcnelahmbfggcaa

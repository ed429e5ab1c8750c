/- A region that draws its order: two rows are read, two are written. Two rows as a function's results. No condition. -/
import Derived.Test.YtgkhgjoggkcklaaTabB
import Derived.Deep.WholeRow
namespace Go.Proofs.Ytgkhgjoggkcklaa
open Go Go.RowKit
set_option maxRecDepth 100000
namespace Wild

structure C2 (b1 b2 : Nat) (t1 t2 : TypeId) (Z1 V1 Z2 V2 : Array Value) (w w' : World) : Prop where
  os : w'.os = w.os
  tape : w'.tape = w.tape
  output : w'.output = w.output
  size : w'.heap.size = w.heap.size
  block : ∀ k, k ≠ b1 → k ≠ b2 → w'.heap[k]? = w.heap[k]?
  one : w'.heap[b1]? = some (.cells Z1 t1 (0, 0)) ∨ w'.heap[b1]? = some (.cells V1 t1 (0, 0))
  two : w'.heap[b2]? = some (.cells Z2 t2 (0, 0)) ∨ w'.heap[b2]? = some (.cells V2 t2 (0, 0))
def G2 (b1 b2 : Nat) (t1 t2 : TypeId) (V1 V2 : Array Value) (w w' : World) : Prop :=
  (w.heap[b1]? = some (.cells V1 t1 (0, 0)) → w'.heap[b1]? = some (.cells V1 t1 (0, 0))) ∧ (w.heap[b2]? = some (.cells V2 t2 (0, 0)) → w'.heap[b2]? = some (.cells V2 t2 (0, 0)))
def sp2 (b1 b2 : Nat) (t1 t2 : TypeId) (V1 V2 : Array Value) (i1 i2 : Nat) : Spec where
  pure := fun k => if k = i1 then some fun _ => True else if k = i2 then some fun _ => True else none
  dflt := fun _ => undef
  fact := fun k _ w => if k = i1 then w.heap[b1]? = some (.cells V1 t1 (0, 0)) else if k = i2 then w.heap[b2]? = some (.cells V2 t2 (0, 0)) else True
  use := fun _ => []
theorem region_two {P : Program} {id : Nat} {Q : Exit → Act → World → Prop} {a : Act} {w : World} {l : List Oper} (b1 b2 : Nat) (t1 t2 : TypeId) (Z1 V1 Z2 V2 : Array Value) (i1 i2 : Nat) (h12 : i1 ≠ i2) (hl1 : i1 < l.length) (hl2 : i2 < l.length)
    (hz1 : w.heap[b1]? = some (.cells Z1 t1 (0, 0))) (hz2 : w.heap[b2]? = some (.cells Z2 t2 (0, 0))) (hm : P.follows .mixedOrders = true) (hB : okB l.toArray (fun _ => []) = true)
    (h : ∀ vs, walk P l.toArray (C2 b1 b2 t1 t2 Z1 V1 Z2 V2 w) (G2 b1 b2 t1 t2 V1 V2) (sp2 b1 b2 t1 t2 V1 V2 i1 i2) vs (fun a' => ∀ w', C2 b1 b2 t1 t2 Z1 V1 Z2 V2 w w' → w'.heap[b1]? = some (.cells V1 t1 (0, 0)) → w'.heap[b2]? = some (.cells V2 t2 (0, 0)) → Q .normal a' w') l 0 a) : (Code.region id l.toArray true).wp P Q a w :=
  region (sp2 b1 b2 t1 t2 V1 V2 i1 i2) (C2 b1 b2 t1 t2 Z1 V1 Z2 V2 w) (G2 b1 b2 t1 t2 V1 V2) hm hB ⟨rfl, rfl, rfl, rfl, fun _ _ _ => rfl, .inl hz1, .inl hz2⟩
    (by
      intro k vs w w' hf hg
      simp only [sp2] at *
      split
      · rename_i e; rw [if_pos e] at hf; exact hg.1 hf
      · rename_i e
        rw [if_neg e] at hf
        split
        · rename_i e2; rw [if_pos e2] at hf; exact hg.2 hf
        · trivial)
    (fun k vs vs' w _ _ hf => hf)
    (by
      intro k p hp
      simp only [sp2] at hp
      split at hp
      · cases hp; trivial
      · split at hp
        · cases hp; trivial
        · cases hp)
    (fun vs _ => by
      have h1 := h vs
      have e : (fun a' : Act => ∀ w', C2 b1 b2 t1 t2 Z1 V1 Z2 V2 w w' → (∀ m, ((sp2 b1 b2 t1 t2 V1 V2 i1 i2).pure m).isSome = true → m < l.length → (sp2 b1 b2 t1 t2 V1 V2 i1 i2).fact m vs w') → Q .normal a' w') = (fun a' : Act => ∀ w', C2 b1 b2 t1 t2 Z1 V1 Z2 V2 w w' → w'.heap[b1]? = some (.cells V1 t1 (0, 0)) → w'.heap[b2]? = some (.cells V2 t2 (0, 0)) → Q .normal a' w') := by
        funext a'
        apply propext
        constructor
        · intro h2 w' hc f1 f2
          refine h2 w' hc fun m _ _ => ?_
          simp only [sp2]
          split
          · exact f1
          · split
            · exact f2
            · trivial
        · intro h2 w' hc hf
          have f1 := hf i1 (by simp [sp2]) hl1
          have f2 := hf i2 (by simp [sp2, Ne.symm h12]) hl2
          simp only [sp2, if_true] at f1
          simp only [sp2, if_neg (Ne.symm h12), if_true] at f2
          exact h2 w' hc f1 f2
      rw [e]
      exact h1)
variable {b1 b2 : Nat} {t1 t2 : TypeId} {Z1 V1 Z2 V2 : Array Value} {w w' : World}
/-- a store of the one, of the other -/
theorem C2.set1 (h : C2 b1 b2 t1 t2 Z1 V1 Z2 V2 w w') (hb : b1 ≠ b2) : C2 b1 b2 t1 t2 Z1 V1 Z2 V2 w (w'.setRow b1 V1) ∧ G2 b1 b2 t1 t2 V1 V2 w' (w'.setRow b1 V1) ∧ (w'.setRow b1 V1).heap[b1]? = some (.cells V1 t1 (0, 0)) := by
  have h1 : (w'.setRow b1 V1).heap[b1]? = some (.cells V1 t1 (0, 0)) := by
    rcases h.one with e | e <;> exact setRow_heap _ _ _ _ _ _ e
  have h2 : (w'.setRow b1 V1).heap[b2]? = w'.heap[b2]? := setRow_other _ _ _ _ (Ne.symm hb)
  exact ⟨⟨h.os, h.tape, h.output, by simpa using h.size, fun k k1 k2 => (setRow_other _ _ _ _ k1).trans (h.block k k1 k2), .inr h1, by rw [h2]; exact h.two⟩, ⟨fun _ => h1, fun e => h2.trans e⟩, h1⟩
theorem C2.set2 (h : C2 b1 b2 t1 t2 Z1 V1 Z2 V2 w w') (hb : b1 ≠ b2) : C2 b1 b2 t1 t2 Z1 V1 Z2 V2 w (w'.setRow b2 V2) ∧ G2 b1 b2 t1 t2 V1 V2 w' (w'.setRow b2 V2) ∧ (w'.setRow b2 V2).heap[b2]? = some (.cells V2 t2 (0, 0)) := by
  have h1 : (w'.setRow b2 V2).heap[b2]? = some (.cells V2 t2 (0, 0)) := by
    rcases h.two with e | e <;> exact setRow_heap _ _ _ _ _ _ e
  have h2 : (w'.setRow b2 V2).heap[b1]? = w'.heap[b1]? := setRow_other _ _ _ _ hb
  exact ⟨⟨h.os, h.tape, h.output, by simpa using h.size, fun k k1 k2 => (setRow_other _ _ _ _ k2).trans (h.block k k1 k2), by rw [h2]; exact h.one, .inr h1⟩, ⟨fun e => h2.trans e, fun _ => h1⟩, h1⟩
end Wild
theorem results_cell2 {P : Program} {fn : Func} {p p2 : Tmp} {ty ty2 : TypeId} (h : fn.results = #[.cell p ty, .cell p2 ty2]) (tmps : Array Value) (w : World) (g g2 : Nat) (t t2 : TypeId) (cs cs2 : Array Value) (fr fr2 : Nat × Nat) (d d2 : TypeDesc)
    (hp : tmps.getD p undef = .pointer (some ⟨g, 0, none⟩)) (hg : w.heap[g]? = some (.cells cs t fr)) (hu : P.underlying ty = some d) (hd : d.isRow = true) (hi : (P.info? ty).map (·.size) = some cs.size)
    (hp2 : tmps.getD p2 undef = .pointer (some ⟨g2, 0, none⟩)) (hg2 : w.heap[g2]? = some (.cells cs2 t2 fr2)) (hu2 : P.underlying ty2 = some d2) (hd2 : d2.isRow = true) (hi2 : (P.info? ty2).map (·.size) = some cs2.size) :
    (results fn tmps).run P w = .ok (.tuple #[.agg cs, .agg cs2]) w := by
  have hp' : tmps[p]?.getD undef = .pointer (some ⟨g, 0, none⟩) := by simpa using hp
  have hp2' : tmps[p2]?.getD undef = .pointer (some ⟨g2, 0, none⟩) := by simpa using hp2
  simp [results, h, hp', hp2', asAddr, run_loadVar_row w g t ty cs fr d hg hu (by cases d <;> simp_all [TypeDesc.isRow]) hi, run_loadVar_row w g2 t2 ty2 cs2 fr2 d2 hg2 hu2 (by cases d2 <;> simp_all [TypeDesc.isRow]) hi2]
end Go.Proofs.Ytgkhgjoggkcklaa

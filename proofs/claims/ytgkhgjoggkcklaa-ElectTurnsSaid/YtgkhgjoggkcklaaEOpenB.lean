/- A script of acts that came in. -/
import Derived.Test.YtgkhgjoggkcklaaEOpen
import Derived.Deep.MidRow
namespace Go.Proofs.Ytgkhgjoggkcklaa
open Go Go.RowKit Go.ChangeShapes Go.WideShapes Go.ChangeAt
set_option maxRecDepth 100000

def Acts (w : World) (a : Option Addr) (len cap : Nat) (K B X : Nat → Int) : Prop := ∀ i, i < len → len ≤ cap ∧ ∃ b off, a = some ⟨b, off, none⟩ ∧ w.rangeAt b (off + i * 3) [.int .i64 (K i), .int .i64 (B i), .int .i64 (X i)]
def OpActs (w : World) (v : Value) : Prop := ∃ (a : Option Addr) (len cap : Nat) (K B X : Nat → Int), v = .slice a len cap ∧ Acts w a len cap K B X
theorem cells3 {w : World} {base : Nat} {a : Addr} {x y z : Value} (h : w.cells? base a 3 = some [x, y, z]) : w.cell? (a.add 0) = some x ∧ w.cell? (a.add 1) = some y ∧ w.cell? (a.add 2) = some z := by
  unfold World.cells? at h
  split at h
  · have e : List.range 3 = [0, 1, 2] := by decide
    rw [e] at h
    simp only [List.mapM_cons, List.mapM_nil] at h
    cases h0 : w.cell? (a.add 0) <;> rw [h0] at h <;> simp at h
    cases h1 : w.cell? (a.add 1) <;> rw [h1] at h <;> simp at h
    cases h2 : w.cell? (a.add 2) <;> rw [h2] at h <;> simp at h
    obtain ⟨rfl, rfl, rfl⟩ := h
    exact ⟨rfl, rfl, rfl⟩
  · cases h
section
variable {H : Type} {enc : TypeId × Value → H} {w : World} {base : Nat} {held : Bool} {r : Reach} {b0 : Nat} {v : Value} {d : DataW H} {ps : List MemPlace}
theorem trod_act {fuel : Nat} {cs : List Value} {x : DataW H × List MemPlace} (h : DataW.trod enc Try.prog w base (fun _ => true) held fuel 56 cs = some x) : ∃ a b c : Int, cs = [.int .i64 a, .int .i64 b, .int .i64 c] := by
  obtain ⟨hl, m, hfs⟩ := trod_fields Try.underlying56 h
  obtain ⟨y0, h0⟩ : ∃ y, DataW.trod enc Try.prog w base (fun _ => true) held m 3 ((cs.drop 0).take (Try.prog.cellsOf 3)) = some y := hfs 0 _ rfl
  obtain ⟨y1, h1⟩ : ∃ y, DataW.trod enc Try.prog w base (fun _ => true) held m 3 ((cs.drop 1).take (Try.prog.cellsOf 3)) = some y := hfs 1 _ rfl
  obtain ⟨y2, h2⟩ : ∃ y, DataW.trod enc Try.prog w base (fun _ => true) held m 3 ((cs.drop 2).take (Try.prog.cellsOf 3)) = some y := hfs 2 _ rfl
  have hl' : cs.length = 3 := by rw [show (3 : Nat) = Try.prog.cellsOf 56 by kernel_rfl]; exact hl
  obtain ⟨z0, e0, _, _⟩ := DataW.trod_int Try.underlying3 h0
  obtain ⟨z1, e1, _, _⟩ := DataW.trod_int Try.underlying3 h1
  obtain ⟨z2, e2, _, _⟩ := DataW.trod_int Try.underlying3 h2
  rw [show Try.prog.cellsOf 3 = 1 by kernel_rfl] at e0 e1 e2
  refine ⟨z0, z1, z2, ?_⟩
  match cs, hl' with
  | [a, b, c], _ =>
    simp at e0 e1 e2
    rw [e0, e1, e2]
theorem op_acts_z (hz : ∀ n ∈ d.weights Try.prog 50, n ≤ reachBytes) (hval : Value.okWide Try.prog w r b0 50 v) (h : DataW.Trod enc Try.prog w base (fun _ => true) held 50 v d ps) : OpActs w v := by
  have ht := Try.underlying50
  have hc : Try.prog.cellsOf 56 = 3 := by kernel_rfl
  obtain ⟨a, len, cap, rfl⟩ := okWide_slice ht hval
  obtain ⟨fuel, hf⟩ := h
  rcases trod_elems ht hz hf with hcs | ⟨x, l, c, m, hcs, hl, hm, _, hel⟩
  · simp [Value.cells] at hcs
    obtain ⟨rfl, rfl, rfl⟩ := hcs
    exact ⟨none, 0, 0, fun _ => 0, fun _ => 0, fun _ => 0, rfl, fun i hi => absurd hi (Nat.not_lt_zero _)⟩
  · simp [Value.cells] at hcs
    obtain ⟨rfl, rfl, rfl⟩ := hcs
    have each : ∀ i, i < len → ∃ a b c : Int, w.cell? ((x.add (i * 3)).add 0) = some (.int .i64 a) ∧ w.cell? ((x.add (i * 3)).add 1) = some (.int .i64 b) ∧ w.cell? ((x.add (i * 3)).add 2) = some (.int .i64 c) := by
      intro i hi
      obtain ⟨es, y, h1, h2, _⟩ := hel i hi
      obtain ⟨a, b, c, e⟩ := trod_act h2
      subst e
      rw [hc] at h1
      exact ⟨a, b, c, cells3 h1⟩
    by_cases h0 : 0 < len
    · obtain ⟨b, off, spot⟩ := x
      have hs : spot = none := by
        obtain ⟨_, _, _, h1, _⟩ := each 0 h0
        simpa [Addr.add] using World.cell?_spot h1
      subst hs
      have each2 : ∀ i, i < len → ∃ z : Int × Int × Int, w.rangeAt b (off + i * 3) [.int .i64 z.1, .int .i64 z.2.1, .int .i64 z.2.2] := fun i hi => by
        obtain ⟨p, q, s, h1, h2, h3⟩ := each i hi
        refine ⟨(p, q, s), fun j v hj => ?_⟩
        rw [Addr.add_mid, Addr.add_mid] at h1 h2 h3
        match j, hj with
        | 0, hj => cases hj; exact h1
        | 1, hj => cases hj; exact h2
        | 2, hj => cases hj; exact h3
      obtain ⟨f, hf⟩ : ∃ f : Nat → Int × Int × Int, ∀ i, i < len → w.rangeAt b (off + i * 3) [.int .i64 (f i).1, .int .i64 (f i).2.1, .int .i64 (f i).2.2] :=
        ⟨fun i => if hi : i < len then (each2 i hi).choose else (0, 0, 0), fun i hi => by dsimp only; rw [dif_pos hi]; exact (each2 i hi).choose_spec⟩
      exact ⟨_, len, cap, fun i => (f i).1, fun i => (f i).2.1, fun i => (f i).2.2, rfl, fun i hi => ⟨hl, b, off, rfl, hf i hi⟩⟩
    · obtain rfl : len = 0 := by omega
      exact ⟨_, 0, cap, fun _ => 0, fun _ => 0, fun _ => 0, rfl, fun i hi => absurd hi (Nat.not_lt_zero _)⟩
end
theorem Acts.later {w w' : World} {a : Option Addr} {len cap : Nat} {K B X : Nat → Int} (h : Acts w a len cap K B X) (hb : Below w.heap.size w w') : Acts w' a len cap K B X := fun i hi => by
  obtain ⟨h1, b, off, h2, h3⟩ := h i hi
  refine ⟨h1, b, off, h2, fun j v hj => ?_⟩
  have := h3 j v hj
  exact (hb.cell (World.block_lt_of_cell? _ _ this)).trans this
end Go.Proofs.Ytgkhgjoggkcklaa

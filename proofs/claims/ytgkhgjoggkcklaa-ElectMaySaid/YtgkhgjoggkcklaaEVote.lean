/- What a call leaves as it was but for named blocks; a voter's cells; the walk of elect's vote. -/
import Derived.Test.YtgkhgjoggkcklaaESize
namespace Go.Proofs.Ytgkhgjoggkcklaa
open Go Go.RowKit
set_option maxRecDepth 100000
set_option maxHeartbeats 1000000

/-- all blocks that were there are as they were, but those of S -/
structure Kept (S : Nat → Prop) (w w' : World) : Prop where
  os : w'.os = w.os
  tape : w'.tape = w.tape
  output : w'.output = w.output
  size : w.heap.size ≤ w'.heap.size
  block : ∀ k, k < w.heap.size → ¬ S k → w'.heap[k]? = w.heap[k]?
theorem Kept.refl (S : Nat → Prop) (w : World) : Kept S w w := ⟨rfl, rfl, rfl, Nat.le_refl _, fun _ _ _ => rfl⟩
theorem Kept.trans {S : Nat → Prop} {a b c : World} (h : Kept S a b) (k : Kept S b c) : Kept S a c :=
  ⟨k.os.trans h.os, k.tape.trans h.tape, k.output.trans h.output, Nat.le_trans h.size k.size, fun i hi hs => (k.block i (Nat.lt_of_lt_of_le hi h.size) hs).trans (h.block i hi hs)⟩
theorem Kept.of {S : Nat → Prop} {a b : World} (h : Below a.heap.size a b) : Kept S a b := ⟨h.os, h.tape, h.output, h.size, fun k hk _ => h.block k hk⟩
theorem Kept.set {S : Nat → Prop} {a b : World} (h : Kept S a b) {p : Addr} (hp : S p.block ∨ a.heap.size ≤ p.block) (u : Value) : Kept S a (b.setCell p u) :=
  ⟨h.os, h.tape, h.output, by simpa using h.size, fun k hk hs => by
    rw [Below.heap_setCell _ _ _ _ (fun e => by subst e; rcases hp with hp | hp; exact hs hp; omega)]
    exact h.block k hk hs⟩
theorem Kept.new {S : Nat → Prop} {a b : World} (h : Kept S a b) (o : Obj) : Kept S a (b.alloc o) :=
  ⟨h.os, h.tape, h.output, by have := h.size; simp; omega, fun k hk hs => by rw [Below.heap_alloc _ _ _ (Nat.lt_of_lt_of_le hk h.size)]; exact h.block k hk hs⟩
theorem Kept.mono {S S' : Nat → Prop} {a b : World} (h : Kept S a b) (hS : ∀ k, S k → S' k) : Kept S' a b := ⟨h.os, h.tape, h.output, h.size, fun k hk hs => h.block k hk (fun x => hs (hS k x))⟩
theorem Kept.below {S : Nat → Prop} {a b : World} {B : Nat} (h : Kept S a b) (hB : B ≤ a.heap.size) (hS : ∀ k, S k → B ≤ k) : Below B a b :=
  ⟨h.os, h.tape, h.output, h.size, fun k hk => h.block k (Nat.lt_of_lt_of_le hk hB) (fun x => by have := hS k x; omega)⟩
theorem SlI.kept {S : Nat → Prop} {w w' : World} {k : IntKind} {v : Value} {l : List Int} (h : SlI w k v l) (hk : Kept S w w') (hS : ∀ b, v.ownBlock = some b → ¬ S b) : SlI w' k v l := by
  rcases h with hn | ⟨b, off, cap, rfl, h0, h1, h2, h3⟩
  · exact .inl hn
  · refine .inr ⟨b, off, cap, rfl, h0, h1, h2, fun i hi => ?_⟩
    have hc := h3 i hi
    rw [← hc]
    exact World.cell?_of_block (w := w) (hk.block b (World.block_lt_of_cell? _ _ hc) (hS b rfl))

/-- a voter's cells -/
def ElV (F T me view : Int) (vv : Value) (clock wait : Int) : Array Value := #[.int .i64 F, .int .i64 T, .int .i64 me, .int .i64 view, vv, .int .i64 clock, .int .i64 wait]
/-- block eb is a voter -/
def ElB (w : World) (eb : Nat) (t : TypeId) (F T me view : Int) (vv : Value) (clock wait : Int) : Prop := w.heap[eb]? = some (.cells (ElV F T me view vv clock wait) t (0, 0))
section
variable {w : World} {eb : Nat} {t : TypeId} {F T me view : Int} {vv : Value} {clock wait : Int}
theorem ElB.lt (h : ElB w eb t F T me view vv clock wait) : eb < w.heap.size := (Array.getElem?_eq_some_iff.1 h).1
theorem ElB.cells (h : ElB w eb t F T me view vv clock wait) : w.cell? ⟨eb, 0, none⟩ = some (.int .i64 F) ∧ w.cell? ⟨eb, 1, none⟩ = some (.int .i64 T) ∧ w.cell? ⟨eb, 2, none⟩ = some (.int .i64 me) ∧ w.cell? ⟨eb, 3, none⟩ = some (.int .i64 view) ∧ w.cell? ⟨eb, 4, none⟩ = some vv ∧ w.cell? ⟨eb, 5, none⟩ = some (.int .i64 clock) ∧ w.cell? ⟨eb, 6, none⟩ = some (.int .i64 wait) := by
  have hc := fun i => cell_of_row w eb i _ t (0, 0) h
  exact ⟨hc 0, hc 1, hc 2, hc 3, hc 4, hc 5, hc 6⟩
theorem ElB.frozen (h : ElB w eb t F T me view vv clock wait) (i : Nat) : w.frozen? ⟨eb, i, none⟩ = false := frozen_of_row w eb i _ _ h
theorem ElB.kept {S : Nat → Prop} {w' : World} (h : ElB w eb t F T me view vv clock wait) (hk : Kept S w w') (hS : ¬ S eb) : ElB w' eb t F T me view vv clock wait := (hk.block eb h.lt hS).trans h
theorem ElB.later {w' : World} (h : ElB w eb t F T me view vv clock wait) (hk : Below w.heap.size w w') : ElB w' eb t F T me view vv clock wait := (hk.block eb h.lt).trans h
theorem ElB.setVotes (h : ElB w eb t F T me view vv clock wait) (v' : Value) : ElB (w.setCell ⟨eb, 4, none⟩ v') eb t F T me view v' clock wait := heap_setCell_same w eb 4 _ t _ h
theorem ElB.setView (h : ElB w eb t F T me view vv clock wait) (x : Int) : ElB (w.setCell ⟨eb, 3, none⟩ (.int .i64 x)) eb t F T me x vv clock wait := heap_setCell_same w eb 3 _ t _ h
theorem ElB.setClock (h : ElB w eb t F T me view vv clock wait) (x : Int) : ElB (w.setCell ⟨eb, 5, none⟩ (.int .i64 x)) eb t F T me view vv x wait := heap_setCell_same w eb 5 _ t _ h
theorem ElB.setWait (h : ElB w eb t F T me view vv clock wait) (x : Int) : ElB (w.setCell ⟨eb, 6, none⟩ (.int .i64 x)) eb t F T me view vv clock x := heap_setCell_same w eb 6 _ t _ h
theorem ElB.setOther (h : ElB w eb t F T me view vv clock wait) {p : Addr} (hp : eb ≠ p.block) (u : Value) : ElB (w.setCell p u) eb t F T me view vv clock wait := (Below.heap_setCell _ _ _ _ hp).trans h
end
theorem ownsRow_rowI {w : World} {B : Nat} {e : TypeId} {v : Value} {zs : List Int} (h : w.ownsRow B e 1 v zs.length (zs.map (Value.int .i64))) (h0 : 0 < zs.length) : ∃ g cap, v = .slice (some ⟨g, 0, none⟩) zs.length cap ∧ B ≤ g ∧ RowI w g e .i64 zs ∧ zs.length ≤ cap ∧ cap ≤ maxLen := by
  rcases h.2 with ⟨rfl, hz⟩ | ⟨g, cap, cur, rfl, hB, hg, hc, hm, hs, ht⟩
  · omega
  · refine ⟨g, cap, rfl, hB, ⟨cur, hg, by omega, fun i hi => ?_⟩, hc, hm⟩
    have := congrArg (fun l : List Value => l[i]?) ht
    simp only [Nat.mul_one, List.getElem?_take, hi, if_true, Array.getElem?_toList] at this
    rw [this]
    simp [hi]

/-- a replica has voted: the voter's votes are a new row -/
theorem vote_any (eb by_ : Nat) (F T me view : Int) (vv : Value) (clock wait x : Int) (votes : List Int) (w : World) (hE : ElB w eb 26 F T me view vv clock wait) (hv : SlI w .i64 vv votes) (hl : votes.length ≤ 1000000) (hb : by_ < votes.length) :
    Calls Try.prog 33 #[.pointer (some ⟨eb, 0, none⟩), .int .i64 by_, .int .i64 x] w fun e w' => e = .returned (.tuple #[]) ∧ ∃ g cap, ElB w' eb 26 F T me view (.slice (some ⟨g, 0, none⟩) votes.length cap) clock wait ∧ w.heap.size ≤ g ∧ RowI w' g 3 .i64 (votes.set by_ x) ∧ votes.length ≤ cap ∧ cap ≤ maxLen ∧ Kept (· = eb) w w' := by
  obtain ⟨b, off, vcap, rfl, hvb, hm, hI⟩ := hv.src_cells (by omega)
  have HC := Lib.hid (Try.slices_Clone_int b off votes.length vcap votes w (Nat.le_refl _) (by omega) (fun j hj => by rw [hI j hj]; simp))
  rw [List.take_length] at HC
  obtain ⟨c0, c1, c2, c3, c4, c5, c6⟩ := hE.cells
  have HE := Lib.hid hE
  have hbi : (by_ : Int) < votes.length := by omega
  have H0 : Hid (0 < votes.length) := Lib.hid (by omega)
  clear hE hv hI c0 c1 c2 c3 c5 c6
  go_enter Try.func33, Try.ntmps33
  go_wp2_with (go_at_call 48; refine HC.out.mono ?_; rintro e w1 ⟨v', rfl, o1, -, b1⟩; have HE1 := Lib.hid (HE.out.later b1); have HB1 := Lib.hid b1; obtain ⟨g, cap, rfl, hBg, hR, hcap, hmx⟩ := ownsRow_rowI o1 H0.out; have HR := Lib.hid hR; have HBG := Lib.hid hBg; have hfz := HE1.out.frozen 4; have hcc := HE1.out.cells.2.2.2.2.1; have hne : g ≠ eb := (by have := HE.out.lt; omega); have hR2 : RowI (w1.setCell ⟨eb, 4, none⟩ (.slice (some ⟨g, 0, none⟩) votes.length cap)) g 3 .i64 votes := hR.same (Below.heap_setCell _ _ _ _ hne); have hx1 := hR2.cell hb; have hx2 := hR2.frozen by_; have HR2 := Lib.hid hR2; clear o1 b1 hR hBg hR2)
  go_end0
  refine ⟨rfl, g, cap, ?_, HBG.out, HR2.out.set by_ x, hcap, hmx, ?_⟩
  · exact ElB.setOther (p := ⟨g, by_, none⟩) (HE1.out.setVotes _) (by have := HE.out.lt; have := HBG.out; show eb ≠ g; omega) _
  · exact ((Kept.of (S := (· = eb)) HB1.out).set (p := ⟨eb, 4, none⟩) (.inl rfl) _).set (p := ⟨g, by_, none⟩) (.inr HBG.out) _
end Go.Proofs.Ytgkhgjoggkcklaa

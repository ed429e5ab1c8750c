/- Slices of numbers: what it means that one reads as a list; a block whose head is a list; append onto one of the call's own. -/
import Derived.Test.YtcnelahmbfggcaaKit2
import Derived.OwnWalk
namespace Go.Proofs.Ytcnelahmbfggcaa
open Go Go.RowKit
set_option maxRecDepth 100000

/-- the cells of numbers -/
def IV (k : IntKind) (l : List Int) : List Value := l.map (Value.int k)
theorem IV_length (k : IntKind) (l : List Int) : (IV k l).length = l.length := by simp [IV]
theorem IV_append (k : IntKind) (l r : List Int) : IV k (l ++ r) = IV k l ++ IV k r := by simp [IV]
theorem IV_one (k : IntKind) (l : List Int) : ∀ u ∈ IV k l, u.oneCell' = true := fun u hu => by
  obtain ⟨_, _, rfl⟩ := List.mem_map.1 hu
  rfl
theorem IV_get (k : IntKind) (l : List Int) (i : Nat) (h : i < l.length) : (IV k l)[i]? = some (.int k (l.getD i 0)) := by simp [IV, h]

def NI (l : List Nat) : List Int := l.map fun n : Nat => (n : Int)
theorem NI_length (l : List Nat) : (NI l).length = l.length := by simp [NI]
theorem NI_getD (l : List Nat) (i : Nat) : (NI l).getD i 0 = ((l.getD i 0 : Nat) : Int) := by
  by_cases h : i < l.length
  · simp [NI, h]
  · simp [NI, List.getElem?_eq_none (by omega : l.length ≤ i)]
theorem NI_set (l : List Nat) (i x : Nat) : (NI l).set i x = NI (l.set i x) := by simp [NI, List.map_set]
/-- the slice value v reads as the numbers l -/
def SlI (w : World) (k : IntKind) (v : Value) (l : List Int) : Prop :=
  (l = [] ∧ ∃ a c, v = .slice a 0 c) ∨
  ∃ b off cap, v = .slice (some ⟨b, off, none⟩) l.length cap ∧ 0 < l.length ∧ l.length ≤ cap ∧ cap ≤ maxLen ∧
    ∀ i, i < l.length → w.cell? ⟨b, off + i, none⟩ = some (.int k (l.getD i 0))
theorem SlI.later {w w' : World} {k : IntKind} {v : Value} {l : List Int} (h : SlI w k v l) (hb : Below w.heap.size w w') : SlI w' k v l := by
  rcases h with h | ⟨b, off, cap, rfl, h0, h1, h2, h3⟩
  · exact .inl h
  · refine .inr ⟨b, off, cap, rfl, h0, h1, h2, fun i hi => ?_⟩
    rw [hb.cell (World.block_lt_of_cell? _ _ (h3 i hi))]
    exact h3 i hi
theorem SlI.shape {w : World} {k : IntKind} {v : Value} {l : List Int} (h : SlI w k v l) : ∃ a c, v = .slice a l.length c := by
  rcases h with ⟨rfl, a, c, rfl⟩ | ⟨b, off, cap, rfl, _⟩
  · exact ⟨a, c, rfl⟩
  · exact ⟨_, cap, rfl⟩
/-- a number of it -/
theorem SlI.cellAt {w : World} {k : IntKind} {a : Option Addr} {len cap : Nat} {l : List Int} (h : SlI w k (.slice a len cap) l) {i : Nat} (hi : i < l.length) :
    ∃ b off, a = some ⟨b, off, none⟩ ∧ len = l.length ∧ l.length ≤ cap ∧ ∀ j, j < l.length → w.cell? ⟨b, off + j, none⟩ = some (.int k (l.getD j 0)) := by
  rcases h with ⟨rfl, _⟩ | ⟨b, off, c, hv, _, hc, _, h⟩
  · simp at hi
  · cases hv
    exact ⟨b, off, rfl, rfl, hc, h⟩
/-- the head of block b is the numbers l; it may be written -/
def RowI (w : World) (b : Nat) (t : TypeId) (k : IntKind) (l : List Int) : Prop :=
  ∃ cur : Array Value, w.heap[b]? = some (.cells cur t (0, 0)) ∧ l.length ≤ cur.size ∧ ∀ i, i < l.length → cur[i]? = some (.int k (l.getD i 0))
theorem RowI.lt {w : World} {b : Nat} {t : TypeId} {k : IntKind} {l : List Int} (h : RowI w b t k l) : b < w.heap.size := by
  obtain ⟨cur, h, _⟩ := h
  exact (Array.getElem?_eq_some_iff.1 h).1
theorem RowI.cell {w : World} {b : Nat} {t : TypeId} {k : IntKind} {l : List Int} (h : RowI w b t k l) {i : Nat} (hi : i < l.length) : w.cell? ⟨b, i, none⟩ = some (.int k (l.getD i 0)) := by
  obtain ⟨cur, h, _, hc⟩ := h
  rw [cell_of_row w b i _ _ (0, 0) h, hc i hi]
theorem RowI.frozen {w : World} {b : Nat} {t : TypeId} {k : IntKind} {l : List Int} (h : RowI w b t k l) (i : Nat) : w.frozen? ⟨b, i, none⟩ = false := by
  obtain ⟨cur, h, _⟩ := h
  exact frozen_of_row w b i _ _ h
theorem RowI.set {w : World} {b : Nat} {t : TypeId} {k : IntKind} {l : List Int} (h : RowI w b t k l) (i : Nat) (x : Int) : RowI (w.setCell ⟨b, i, none⟩ (.int k x)) b t k (l.set i x) := by
  obtain ⟨cur, h, hs, hc⟩ := h
  refine ⟨_, heap_setCell_same w b i _ _ _ h, by simpa using hs, fun j hj => ?_⟩
  have hj' : j < l.length := by simpa using hj
  by_cases hij : i = j
  · subst hij
    have : i < cur.size := by omega
    simp [this, hj']
  · rw [Array.getElem?_setIfInBounds_ne hij, hc j hj']
    simp [List.getD_eq_getElem?_getD, List.getElem?_set_ne hij]
theorem RowI.later {w w' : World} {b : Nat} {t : TypeId} {k : IntKind} {l : List Int} (h : RowI w b t k l) (hb : Below w.heap.size w w') : RowI w' b t k l := by
  have := h.lt
  obtain ⟨cur, h, hs, hc⟩ := h
  exact ⟨cur, (hb.block b this).trans h, hs, hc⟩
theorem RowI.same {w w' : World} {b : Nat} {t : TypeId} {k : IntKind} {l : List Int} (h : RowI w b t k l) (hb : w'.heap[b]? = w.heap[b]?) : RowI w' b t k l := by
  obtain ⟨cur, h, hs, hc⟩ := h
  exact ⟨cur, hb.trans h, hs, hc⟩
theorem RowI.sl {w : World} {b : Nat} {t : TypeId} {k : IntKind} {l : List Int} (h : RowI w b t k l) {n cap : Nat} (hn : n = l.length) (h1 : n ≤ cap) (h2 : cap ≤ maxLen) : SlI w k (.slice (some ⟨b, 0, none⟩) n cap) l := by
  subst hn
  by_cases h0 : 0 < l.length
  · exact .inr ⟨b, 0, cap, rfl, h0, h1, h2, fun i hi => by rw [Nat.zero_add]; exact h.cell hi⟩
  · obtain rfl : l = [] := List.eq_nil_of_length_eq_zero (by omega)
    exact .inl ⟨rfl, _, _, rfl⟩
/-- a new block -/
theorem RowI.made (w : World) (t : TypeId) (k : IntKind) (l : List Int) (cs : Array Value) (h : cs = (IV k l).toArray) : RowI (w.alloc (.cells cs t)) w.heap.size t k l := by
  subst h
  refine ⟨_, heap_alloc_new w _, by simp [IV], fun i hi => ?_⟩
  rw [List.getElem?_toArray, IV_get k l i hi]
/-- make([]T, n): zeros -/
theorem madeCells_int (k : IntKind) (n : Nat) : (madeCells #[Value.int k 0] (n * 1)).toList = List.replicate n (Value.int k 0) := by
  rw [Nat.mul_one]
  apply List.ext_getElem?
  intro i
  simp only [madeCells, Array.toList_map, Array.toList_range, List.getElem?_map, List.getElem?_replicate]
  by_cases h : i < n
  · simp [h, Nat.mod_one]
  · simp [h]
theorem RowI.zeros {w : World} {B g t n c : Nat} {k : IntKind} (h : w.ownsRow B t 1 (.slice (some ⟨g, 0, none⟩) n c) n (madeCells #[Value.int k 0] (n * 1)).toList) : RowI w g t k (List.replicate n 0) := by
  rw [madeCells_int] at h
  obtain ⟨_, h⟩ := h
  rcases h with ⟨h, _⟩ | ⟨b, cap, cur, hv, _, hb, hn, _, hsz, hc⟩
  · cases h
  · cases hv
    refine ⟨cur, hb, by simp; omega, fun i hi => ?_⟩
    have hi' : i < n := by simpa using hi
    have := congrArg (fun l : List Value => l[i]?) hc
    simp only [List.getElem?_take, Nat.mul_one, hi', if_true, List.getElem?_replicate, Array.getElem?_toList] at this
    rw [this]
    simp [hi']

/-- numbers of the call's own -/
def OwnI (w : World) (B : Nat) (t : TypeId) (k : IntKind) (v : Value) (l : List Int) : Prop := OwnC w B t 1 v l.length (IV k l)
theorem OwnI.nil (w : World) (B : Nat) (t : TypeId) (k : IntKind) : OwnI w B t k (.slice none 0 0) [] := OwnC.nil _ _ _ _
theorem OwnI.sl {w : World} {B t : Nat} {k : IntKind} {v : Value} {l : List Int} (h : OwnI w B t k v l) : SlI w k v l := by
  rcases h.2 with ⟨rfl, h0⟩ | ⟨g, off, cap, cur, rfl, _, hg, hc, hm, hs, hcell⟩
  · exact .inl ⟨List.eq_nil_of_length_eq_zero h0, _, _, rfl⟩
  · by_cases h0 : 0 < l.length
    · refine .inr ⟨g, off, cap, rfl, h0, hc, hm, fun i hi => ?_⟩
      rw [cell_of_row w g (off + i) _ _ (0, 0) hg, hcell i (by rw [IV_length]; exact hi), IV_get k l i hi]
    · obtain rfl : l = [] := List.eq_nil_of_length_eq_zero (by omega)
      exact .inl ⟨rfl, _, _, rfl⟩
theorem OwnI.later {w w' : World} {B t : Nat} {k : IntKind} {v : Value} {l : List Int} (h : OwnI w B t k v l) (hb : Below w.heap.size w w') : OwnI w' B t k v l := OwnC.later h hb
theorem OwnI.shape {w : World} {B t : Nat} {k : IntKind} {v : Value} {l : List Int} (h : OwnI w B t k v l) : ∃ a c, v = .slice a l.length c := h.sl.shape
theorem OwnI.below {w w' : World} {B t : Nat} {k : IntKind} {v : Value} {l : List Int} (h : OwnI w B t k v l) (hg : w.grownBy w' v.ownBlock) (hB : B ≤ w.heap.size) : Below B w w' :=
  (Below.refl _ _).grown hg hB fun k hk => (h.lt k hk).1
/-- a slice literal with nothing in it -/
theorem OwnI.none (w : World) (t : TypeId) (k : IntKind) : OwnI (w.alloc (.cells #[] t)) w.heap.size t k (.slice (some ⟨w.heap.size, 0, .none⟩) 0 0) [] :=
  ⟨rfl, .inr ⟨w.heap.size, 0, 0, _, rfl, Nat.le_refl _, heap_alloc_new w _, by simp, by simp [maxLen], by simp, fun j hj => by simp [IV] at hj⟩⟩
/-- a source of an append -/
theorem SlI.src {P : Program} {w : World} {k : IntKind} {t e : TypeId} (ht : P.underlying t = some (.slice e)) {y : Value} {r : List Int} (h : SlI w k y r) : Src P 1 t y r.length (IV k r) w := by
  rcases h with ⟨rfl, a, c, rfl⟩ | ⟨b, off, cap, rfl, _, _, _, hc⟩
  · cases a with
    | none => exact Src.ofNil w ht c
    | some a => exact Src.ofSlice w ht a 0 c [] (by simp) (fun j u hu => by simp at hu) (fun u hu => by cases hu)
  · refine Src.ofSlice w ht ⟨b, off, .none⟩ _ cap (IV k r) (by rw [IV_length, Nat.mul_one]) (fun j u hu => ?_) (IV_one k r)
    have hj : j < r.length := by have := (List.getElem?_eq_some_iff.1 hu).1; rwa [IV_length] at this
    have hadd : (⟨b, off, .none⟩ : Addr).add j = ⟨b, off + j, .none⟩ := by unfold Addr.add; split <;> simp_all
    rw [hadd, hc j hj, ← hu, IV_get k r j hj]
/-- THE LAW: append(s, x...) of numbers in a plain region. -/
theorem wpList_appendI {P : Program} {ops : Array Oper} {rest : List Oper} {o : Oper} {a : Act} {w : World} {Q : Exit → Act → World → Prop} (hgd : o.guard = .none) (s x : Operand) (t e : TypeId)
    (ho : o.op = .call { callee := .builtin .append, args := #[s, x], argTypes := #[t, t] }) {i0 : TypeInfo} (k : IntKind) (bytes : Nat) (ht : P.underlying t = some (.slice e)) (hi : P.info? e = some i0) (hz0 : i0.zero = some (.int k 0)) (hz1 : i0.size = 1) (hz2 : i0.bytes = bytes) (hby : bytes ≤ 8)
    (B : Nat) (v : Value) (l : List Int) (hs : a.eval s = v) (hown : OwnI w B e k v l) (y : Value) (r : List Int) (hx : a.eval x = y) (hr : SlI w k y r)
    (hlen : l.length + r.length ≤ 1000000000) (hB : B ≤ w.heap.size)
    (h : ∀ v' w', OwnI w' B e k v' (l ++ r) → w.grownBy w' v.ownBlock → (v'.ownBlock = v.ownBlock ∨ v'.ownBlock = some w.heap.size) → wpList P ops Q rest (a.put o.dst v') w') :
    wpList P ops Q (o :: rest) a w := by
  refine wpList_plain hgd fun _ hK => ?_
  obtain ⟨v', w', hrun, h2, h3, h4⟩ := run_append_ownC (P := P) t t o.type e i0 (.int k 0) 1 bytes ht hi hz0 hz1 hz2 rfl hown y r.length (IV k r) (hr.src ht)
    (by simp only [maxLen]; omega) (Nat.le_trans (Nat.mul_le_mul hlen hby) (by omega)) hB
  unfold Oper.wp execOp
  simp only [ho, resolve, invoke, builtin, Sem.run_bind, Sem.run_pure, Result.andThen_ok, List.map_toArray, List.map_cons, List.map_nil, hs, hx, hrun]
  refine hK _ _ (h v' w' ?_ h3 h4)
  unfold OwnI
  rw [List.length_append, IV_append]
  exact h2
end Go.Proofs.Ytcnelahmbfggcaa

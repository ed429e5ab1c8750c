/- Rows of sums ([][32]byte): what it means that a slice reads as one; one of the call's own; append onto it. -/
import Derived.Test.YtcnelahmbfggcaaG4
import Derived.Deep.MidRow
import Derived.Great.BuildSlice
import Derived.Test.YtcnelahmbfggcaaG3
import Derived.Test.YtcnelahmbfggcaaVar
import Derived.Test.YtcnelahmbfggcaaG2
import Derived.Test.YtcnelahmbfggcaaOpen
namespace Go.Proofs.Ytcnelahmbfggcaa
open Go Go.RowKit
set_option maxRecDepth 100000

theorem info_a32 : (Try.prog.info? 23).map (fun i => (i.zero, i.size, i.bytes)) = some (some (.agg (Array.replicate 32 (.int .u8 0))), 32, 32) := by kernel_rfl
theorem run_loadVar_one {P : Program} (w : World) (b o : Nat) (ty : TypeId) (u : Value) (d : TypeDesc) (hc : w.cell? ⟨b, o, none⟩ = some u) (hu : P.underlying ty = some d) (hd : d.isRow = false) :
    (loadVar ty ⟨b, o, none⟩).run P w = .ok u w := by
  have hagg : (isAgg ty).run P w = .ok false w := by
    unfold isAgg
    rw [Sem.run_bind, run_underlying hu w]
    cases d <;> simp_all
  simp [loadVar, Sem.run_bind, hagg, hc]
/-- in a drawn region: a cell is read -/
theorem Wild.walk_cell {P : Program} {ops : Array Oper} {C : World → Prop} {G : World → World → Prop} {S : Wild.Spec} {vs : Nat → Value} {Q : Act → Prop} {rest : List Oper} {o : Oper} {k : Nat} {a : Act}
    (ty : TypeId) (x : Operand) (b off : Nat) (u : Value) (d : TypeDesc) (hp : S.pure k = none) (hw : Region.wanted o (yielded ops a.tmps) = true) (ho : o.op = .load ty x) (hx : a.eval x = .pointer (some ⟨b, off, none⟩))
    (hS : ∀ w, Wild.At C S vs k w → w.cell? ⟨b, off, none⟩ = some u) (hu : P.underlying ty = some d) (hd : d.isRow = false)
    (h : Wild.walk P ops C G S vs Q rest (k + 1) (a.put o.dst u)) : Wild.walk P ops C G S vs Q (o :: rest) k a :=
  Wild.walk_run _ hp hw (fun w hw' => by
    unfold execOp
    simp only [ho, hx, Instr.loadAt, Instr.sureAddr, Sem.run_bind, Sem.run_pure, Result.andThen_ok, run_loadVar_one w b off ty u d (hS w hw') hu hd]) h
/-- all are sums -/
def L32 (ls : List (List UInt8)) : Prop := ∀ x ∈ ls, x.length = 32
theorem L32.nil : L32 [] := fun _ h => by cases h
theorem L32.snoc {ls : List (List UInt8)} (h : L32 ls) {x : List UInt8} (hx : x.length = 32) : L32 (ls ++ [x]) := fun y hy => by
  rcases List.mem_append.1 hy with hy | hy
  · exact h y hy
  · rw [List.mem_singleton.1 hy]; exact hx
theorem L32.getD {ls : List (List UInt8)} (h : L32 ls) {i : Nat} (hi : i < ls.length) : (ls.getD i []).length = 32 := by
  refine h _ ?_
  rw [show ls.getD i [] = ls[i] by simp [List.getD_eq_getElem?_getD, hi]]
  exact List.getElem_mem hi
theorem L32.flat {ls : List (List UInt8)} (h : L32 ls) : ls.flatten.length = 32 * ls.length := by
  induction ls with
  | nil => rfl
  | cons x ls ih =>
    rw [List.flatten_cons, List.length_append, ih fun y hy => h y (List.mem_cons_of_mem _ hy), h x List.mem_cons_self, List.length_cons]
    omega
/-- their cells -/
def BH (ls : List (List UInt8)) : List Value := (ls.map B8).flatten
theorem BH_length {ls : List (List UInt8)} (h : L32 ls) : (BH ls).length = ls.length * 32 := by
  induction ls with
  | nil => rfl
  | cons x ls ih =>
    rw [BH, List.map_cons, List.flatten_cons, List.length_append, B8_length, h x List.mem_cons_self, List.length_cons]
    have := ih fun y hy => h y (List.mem_cons_of_mem _ hy)
    rw [BH] at this
    omega
theorem BH_snoc (ls : List (List UInt8)) (x : List UInt8) : BH (ls ++ [x]) = BH ls ++ B8 x := by simp [BH]
theorem BH_get {ls : List (List UInt8)} (h : L32 ls) (i j : Nat) (hi : i < ls.length) (hj : j < 32) : (BH ls)[i * 32 + j]? = (B8 (ls.getD i []))[j]? := by
  induction ls generalizing i with
  | nil => simp at hi
  | cons x ls ih =>
    have hx := h x List.mem_cons_self
    rw [BH, List.map_cons, List.flatten_cons]
    cases i with
    | zero =>
      rw [Nat.zero_mul, Nat.zero_add, List.getElem?_append_left (by rw [B8_length, hx]; exact hj)]
      rfl
    | succ i =>
      rw [List.getElem?_append_right (by rw [B8_length, hx]; omega), B8_length, hx, show (i + 1) * 32 + j - 32 = i * 32 + j by omega, List.getD_cons_succ]
      exact ih (fun y hy => h y (List.mem_cons_of_mem _ hy)) i (by simpa using hi)

/-- the slice value v reads as the sums ls -/
def SlH (w : World) (v : Value) (ls : List (List UInt8)) : Prop :=
  (ls = [] ∧ ∃ a c, v = .slice a 0 c) ∨ ∃ b off cap, v = .slice (some ⟨b, off, none⟩) ls.length cap ∧ ls.length ≤ cap ∧ cap ≤ maxLen ∧ ∀ i, i < ls.length → w.rangeAt b (off + i * 32) (B8 (ls.getD i []))
theorem SlH.shape {w : World} {v : Value} {ls : List (List UInt8)} (h : SlH w v ls) : ∃ a c, v = .slice a ls.length c := by
  rcases h with ⟨rfl, a, c, rfl⟩ | ⟨b, off, cap, rfl, _⟩
  · exact ⟨a, c, rfl⟩
  · exact ⟨_, cap, rfl⟩
theorem SlH.later {w w' : World} {v : Value} {ls : List (List UInt8)} (h : SlH w v ls) (hb : Below w.heap.size w w') : SlH w' v ls := by
  rcases h with h | ⟨b, off, cap, h0, h1, h2, h3⟩
  · exact .inl h
  · exact .inr ⟨b, off, cap, h0, h1, h2, fun i hi => rangeAt_blw (h3 i hi) hb⟩
/-- one of them -/
theorem SlH.cellAt {w : World} {a : Option Addr} {len cap : Nat} {ls : List (List UInt8)} (h : SlH w (.slice a len cap) ls) {i : Nat} (hi : i < ls.length) :
    ∃ b off, a = some ⟨b, off, none⟩ ∧ len = ls.length ∧ ls.length ≤ cap ∧ cap ≤ maxLen ∧ ∀ j, j < ls.length → w.rangeAt b (off + j * 32) (B8 (ls.getD j [])) := by
  rcases h with ⟨rfl, _⟩ | ⟨b, off, c, hv, h1, h2, h3⟩
  · simp at hi
  · cases hv
    exact ⟨b, off, rfl, rfl, h1, h2, h3⟩
/-- of the call's own -/
def OwnH (w : World) (B : Nat) (v : Value) (ls : List (List UInt8)) : Prop := OwnC w B 23 32 v ls.length (BH ls)
theorem OwnH.nil (w : World) (B : Nat) : OwnH w B (.slice none 0 0) [] := OwnC.nil _ _ _ _
theorem OwnH.none (w : World) : OwnH (w.alloc (.cells #[] 23)) w.heap.size (.slice (some ⟨w.heap.size, 0, .none⟩) 0 0) [] :=
  ⟨rfl, .inr ⟨w.heap.size, 0, 0, #[], rfl, Nat.le_refl _, heap_alloc_new w _, Nat.le_refl _, by simp, by simp, fun j hj => by simp [BH] at hj⟩⟩
theorem OwnH.later {w w' : World} {B : Nat} {v : Value} {ls : List (List UInt8)} (h : OwnH w B v ls) (hb : Below w.heap.size w w') : OwnH w' B v ls := OwnC.later h hb
theorem OwnH.down {w : World} {B B' : Nat} {v : Value} {ls : List (List UInt8)} (h : OwnH w B v ls) (hB : B' ≤ B) : OwnH w B' v ls := OwnC.down h hB
theorem OwnH.below {w w' : World} {B : Nat} {v : Value} {ls : List (List UInt8)} (h : OwnH w B v ls) (hg : w.grownBy w' v.ownBlock) (hB : B ≤ w.heap.size) : Below B w w' :=
  (Below.refl _ _).grown hg hB fun k hk => (OwnC.lt h k hk).1
theorem OwnH.sl {w : World} {B : Nat} {v : Value} {ls : List (List UInt8)} (h : OwnH w B v ls) (hl : L32 ls) : SlH w v ls := by
  rcases h.2 with ⟨rfl, h0⟩ | ⟨g, off, cap, cur, rfl, _, hg, hc, hm, hs, hcell⟩
  · exact .inl ⟨List.eq_nil_of_length_eq_zero h0, _, _, rfl⟩
  · refine .inr ⟨g, off, cap, rfl, hc, hm, fun i hi j u hu => ?_⟩
    have hj : j < 32 := by
      have := (List.getElem?_eq_some_iff.1 hu).1
      rwa [B8_length, hl.getD hi] at this
    rw [cell_of_row w g (off + i * 32 + j) _ _ (0, 0) hg, Nat.add_assoc, hcell (i * 32 + j) (by rw [BH_length hl]; omega), BH_get hl i j hi hj]
    exact hu
theorem OwnH.shape {w : World} {B : Nat} {v : Value} {ls : List (List UInt8)} (h : OwnH w B v ls) : ∃ a c, v = .slice a ls.length c := by
  rcases h.2 with ⟨rfl, h0⟩ | ⟨g, off, cap, cur, rfl, _⟩
  · exact ⟨_, _, by rw [h0]⟩
  · exact ⟨_, _, rfl⟩
theorem fillH (Y : List UInt8) (hY : Y.length = 32) (cells : Array Value) (hc : cells.size = 32) : Instr.fill (fun i => some (i * 32, 32)) cells [(0, .agg (B8 Y).toArray)] = some (B8 Y).toArray := by
  have hs : (Value.agg (B8 Y).toArray).cells.size = 32 := by simp [Value.cells, B8_length, hY]
  obtain ⟨r, hr, hsz, hk⟩ := Great.fill_dense (s := 32) (by decide) [.agg (B8 Y).toArray] 0 cells (fun v hv => by rw [List.mem_singleton.1 hv]; exact hs) (by simp [hc])
  have e : r = (B8 Y).toArray := by
    apply Array.ext_getElem?
    intro k
    rw [hk k]
    by_cases h : k < 32
    · have h1 : k / 32 = 0 := by omega
      have h2 : k % 32 = k := by omega
      rw [if_pos ⟨by omega, by simpa using h⟩, h1, h2]
      rfl
    · rw [if_neg (by simp; omega), Array.getElem?_eq_none (by omega), Array.getElem?_eq_none (by simp [B8_length, hY]; omega)]
  rw [e] at hr
  exact hr
end Go.Proofs.Ytcnelahmbfggcaa

/- The walk of the document's public. -/
namespace Go.Proofs.Ytcnelahmbfggcaa
open Go Go.RowKit
set_option maxRecDepth 100000
set_option maxHeartbeats 1000000

end Go.Proofs.Ytcnelahmbfggcaa

/- `x, e := f(..)` in a drawn region with more than one call: a table of values, and the variable's place and store. No condition. -/
namespace Go.Proofs.Ytcnelahmbfggcaa
open Go Go.RowKit
set_option maxRecDepth 100000
namespace Wild

def spv (F : Nat → Option Value) (t : TypeId) (Z V : Array Value) (B ai si : Nat) : Spec where
  pure := fun k => match F k with | some v => some (· = v) | none => if k = ai then some fun _ => True else if k = si then some fun _ => True else none
  dflt := fun k => (F k).getD undef
  fact := fun k vs w => if k = ai then ∃ b : Nat, vs ai = .pointer (some ⟨b, 0, none⟩) ∧ B ≤ b ∧ (w.heap[b]? = some (.cells Z t (0, 0)) ∨ w.heap[b]? = some (.cells V t (0, 0)))
    else if k = si then ∃ b : Nat, vs ai = .pointer (some ⟨b, 0, none⟩) ∧ B ≤ b ∧ w.heap[b]? = some (.cells V t (0, 0)) else True
  use := fun k => if k = si then [ai] else []
variable {F : Nat → Option Value} {t : TypeId} {Z V : Array Value} {B ai si : Nat}
theorem spv_later : ∀ k vs w w', (spv F t Z V B ai si).fact k vs w → G1 t Z V w w' → (spv F t Z V B ai si).fact k vs w' := by
  intro k vs w w' h hg
  simp only [spv] at *
  split
  · rename_i e
    rw [if_pos e] at h
    obtain ⟨b, h1, h2, h3⟩ := h
    refine ⟨b, h1, h2, ?_⟩
    rcases h3 with h3 | h3
    · exact hg.2 b h3
    · exact .inr (hg.1 b h3)
  · rename_i e
    rw [if_neg e] at h
    split
    · rename_i e2
      rw [if_pos e2] at h
      obtain ⟨b, h1, h2, h3⟩ := h
      exact ⟨b, h1, h2, hg.1 b h3⟩
    · trivial
theorem spv_ai (h : F ai = none) : ((spv F t Z V B ai si).pure ai).isSome = true := by simp [spv, h]
theorem spv_si (h : F si = none) : ((spv F t Z V B ai si).pure si).isSome = true := by
  simp only [spv, h]
  split <;> rfl
theorem spv_loc (hai : F ai = none) : ∀ k (vs vs' : Nat → Value) w, vs k = vs' k → (∀ m ∈ (spv F t Z V B ai si).use k, ((spv F t Z V B ai si).pure m).isSome = true → vs m = vs' m) → (spv F t Z V B ai si).fact k vs w → (spv F t Z V B ai si).fact k vs' w := by
  intro k vs vs' w he hu h
  have ha : ((spv F t Z V B ai si).pure ai).isSome = true := spv_ai hai
  simp only [spv] at h hu ⊢
  split
  · rename_i e
    rw [if_pos e] at h
    subst e
    rw [← he]
    exact h
  · rename_i e
    rw [if_neg e] at h
    split
    · rename_i e2
      rw [if_pos e2] at h hu
      rw [← hu ai (by simp) ha]
      exact h
    · trivial
theorem spv_dflt : ∀ k p, (spv F t Z V B ai si).pure k = some p → p ((spv F t Z V B ai si).dflt k) := by
  intro k p h
  simp only [spv] at *
  cases e : F k with
  | some v => rw [e] at h; cases h; rfl
  | none =>
    rw [e] at h
    simp only at h
    split at h
    · cases h; trivial
    · split at h
      · cases h; trivial
      · cases h
theorem region_v {P : Program} {id : Nat} {Q : Exit → Act → World → Prop} {a : Act} {w : World} {l : List Oper} (F : Nat → Option Value) (t : TypeId) (Z V : Array Value) (ai si : Nat) (hai : F ai = none) (hsi : F si = none) (has : ai ≠ si) (hl : si < l.length)
    (hm : P.follows .mixedOrders = true) (hB : okB l.toArray (fun k => if k = si then [ai] else []) = true)
    (h : ∀ vs : Nat → Value, (∀ k v, F k = some v → vs k = v) → walk P l.toArray (CB w) (G1 t Z V) (spv F t Z V w.heap.size ai si) vs (fun a' => ∀ w', CB w w' → (∃ b : Nat, vs ai = .pointer (some ⟨b, 0, none⟩) ∧ w.heap.size ≤ b ∧ w'.heap[b]? = some (.cells V t (0, 0))) → Q .normal a' w') l 0 a) : (Code.region id l.toArray true).wp P Q a w :=
  region (spv F t Z V w.heap.size ai si) (CB w) (G1 t Z V) hm hB ((Below.refl _ _).drew) spv_later (spv_loc hai) spv_dflt fun vs hvs => by
    have h1 := h vs fun k v e => hvs k (· = v) (by simp [spv, e])
    have e : (fun a' : Act => ∀ w', CB w w' → (∀ m, ((spv F t Z V w.heap.size ai si).pure m).isSome = true → m < l.length → (spv F t Z V w.heap.size ai si).fact m vs w') → Q .normal a' w') = (fun a' : Act => ∀ w', CB w w' → (∃ b : Nat, vs ai = .pointer (some ⟨b, 0, none⟩) ∧ w.heap.size ≤ b ∧ w'.heap[b]? = some (.cells V t (0, 0))) → Q .normal a' w') := by
      funext a'
      apply propext
      constructor
      · intro h2 w' hc ⟨b, b1, b2, b3⟩
        refine h2 w' hc fun m _ _ => ?_
        simp only [spv]
        split
        · exact ⟨b, b1, b2, .inr b3⟩
        · split
          · exact ⟨b, b1, b2, b3⟩
          · trivial
      · intro h2 w' hc hf
        refine h2 w' hc ?_
        have := hf si (spv_si hsi) hl
        simp only [spv, if_neg (Ne.symm has), if_true] at this
        exact this
    rw [e]
    exact h1
/-- the variable's fact at the store's step -/
theorem spv_var {P : Program} {vs : Nat → Value} {w w0 : World} (hai : F ai = none) (h : At (CB w0) (spv F t Z V B ai si) vs si w) (_ : P = P) : ∃ b : Nat, vs ai = .pointer (some ⟨b, 0, none⟩) ∧ B ≤ b ∧ (w.heap[b]? = some (.cells Z t (0, 0)) ∨ w.heap[b]? = some (.cells V t (0, 0))) := by
  have := h.2 ai (by simp [spv]) (spv_ai hai)
  simpa [spv] using this
end Wild
end Go.Proofs.Ytcnelahmbfggcaa

/- The walk of the document's Public. -/
namespace Go.Proofs.Ytcnelahmbfggcaa
open Go Go.RowKit
set_option maxRecDepth 100000
set_option maxHeartbeats 1000000

/-- the ends of the chains -/
def endsL (I S : List UInt8) (q L : Nat) : Nat → List (List UInt8)
  | 0 => []
  | n + 1 => endsL I S q L n ++ [chainN I q n (secretN I S q n) 0 L]
theorem endsL_flat (I S : List UInt8) (q L n : Nat) : (endsL I S q L n).flatten = endsN I S q L n := by
  induction n with
  | zero => rfl
  | succ n ih => rw [endsL, List.flatten_append, ih, endsN]; simp
theorem endsL_length (I S : List UInt8) (q L n : Nat) : (endsL I S q L n).length = n := by
  induction n with
  | zero => rfl
  | succ n ih => rw [endsL, List.length_append, ih]; rfl
theorem endsL_32 (I S : List UInt8) (q L n : Nat) : L32 (endsL I S q L n) := by
  induction n with
  | zero => exact L32.nil
  | succ n ih => exact ih.snoc (chainN_length _ _ _ _ _ _ (secretN_length _ _ _ _))
theorem hash_flat (I : List UInt8) (q t : Nat) (ls : List (List UInt8)) : hashN I q t ls = hashN I q t [ls.flatten] := by simp [hashN]
/-- of a width: the digits' secrets and chains are there -/
theorem sec_in (I S : List UInt8) (q k n : Nat) (hn : (n : Int) < manyW k) : secV I S q k n = secretN I S q n ∧ (if (0 : Int) ≤ n ∧ (n : Int) < manyW k then (0 : Int) else 1) = 0 := by
  have h : (0 : Int) ≤ n ∧ (n : Int) < manyW k := ⟨Int.natCast_nonneg _, hn⟩
  exact ⟨by rw [secV, if_pos h, Int.toNat_natCast], if_pos h⟩
theorem ch_in (I : List UInt8) (q k n a b : Nat) (x : List UInt8) (hn : (n : Int) < manyW k) (hab : a ≤ b) (hb : b ≤ 2 ^ k - 1) : chV I q k n a b x = chainN I q n x a (b - a) ∧ chOk k n a b = true := by
  have h : chOk k n a b = true := by
    rw [chOk, decide_eq_true_iff, Int.toNat_natCast]
    exact ⟨Int.natCast_nonneg _, hn, Int.natCast_nonneg _, Int.ofNat_le.2 hab, Int.ofNat_le.2 hb⟩
  exact ⟨by rw [chV, if_pos h, Int.toNat_natCast, Int.toNat_natCast, Int.toNat_natCast], h⟩

end Go.Proofs.Ytcnelahmbfggcaa

/- Keys that are built of their parts. -/
namespace Go.Proofs.Ytcnelahmbfggcaa
open Go Go.RowKit
set_option maxRecDepth 100000

/-- one part goes in -/
theorem fill_step (place : Nat → Option (Nat × Nat)) (A old new C : List Value) (i : Nat) (v : Value) (rest : List (Nat × Value)) (hp : place i = some (A.length, new.length)) (hv : v.cells = new.toArray) (ho : old.length = new.length) :
    Instr.fill place (A ++ (old ++ C)).toArray ((i, v) :: rest) = Instr.fill place (A ++ (new ++ C)).toArray rest := by
  rw [Instr.fill, hp]
  have hs : v.cells.size = new.length := by rw [hv, List.size_toArray]
  simp only
  rw [if_neg (by rw [hs, List.size_toArray]; simp; omega)]
  congr 1
  obtain ⟨g1, g2⟩ := Great.foldl_set A.length v.cells.toList 0 (A ++ (old ++ C)).toArray
  rw [← Array.foldl_toList, Array.toList_zipIdx]
  apply Array.ext_getElem?
  intro k
  rw [g2 k]
  simp only [Nat.add_zero, List.size_toArray, List.length_append, List.getElem?_toArray, hv]
  by_cases h1 : k < A.length
  · rw [if_neg (by omega), List.getElem?_append_left h1, List.getElem?_append_left h1]
  · by_cases h2 : k - A.length < new.length
    · rw [if_pos (by omega), List.getElem?_append_right (l₁ := A) (l₂ := new ++ C) (by omega), List.getElem?_append_left h2]
    · rw [if_neg (by omega), List.getElem?_append_right (l₁ := A) (by omega), List.getElem?_append_right (l₁ := A) (by omega), List.getElem?_append_right (by omega), List.getElem?_append_right (by omega), ho]
theorem wpList_built {P : Program} {ops : Array Oper} {rest : List Oper} {o : Oper} {a : Act} {w : World} {Q : Exit → Act → World → Prop} (hgd : o.guard = none) (t : TypeId) (parts : List (Nat × Operand)) (ho : o.op = .build t parts.toArray)
    (vals : List (Nat × Value)) (hv : parts.map (fun x => (x.1, a.eval x.2)) = vals) (cells : Array Value) (hc : P.built t vals = some cells)
    (h : wpList P ops Q rest (a.put o.dst (.agg cells)) w) : wpList P ops Q (o :: rest) a w := by
  refine wpList_plain hgd fun _ hK => ?_
  subst hv
  unfold Oper.wp execOp
  have e : (parts.toArray.map fun (i, x) => (i, a.eval x)).toList = parts.map (fun x => (x.1, a.eval x.2)) := by simp
  simp only [ho, Sem.run_bind, run_build w t _ cells (by rw [e]; exact hc), Result.andThen_ok]
  exact hK _ _ h

def zero16 : List UInt8 := List.replicate 16 0
def placesK : List (Nat × Nat) := [(0, 16), (16, 1), (17, 32), (49, 1)]
theorem built_key (parts : List (Nat × Value)) : Try.prog.built 63 parts = Instr.fill (placesK.toArray[·]?) (KeyV zero16 zero32 0 0).toArray parts := by kernel_rfl
theorem KeyV_I (I S I' : List UInt8) (q : Nat) (d : Int) (hI : I.length = 16) (hI' : I'.length = 16) (rest : List (Nat × Value)) :
    Instr.fill (placesK.toArray[·]?) (KeyV I' S q d).toArray ((0, .agg (B8 I).toArray) :: rest) = Instr.fill (placesK.toArray[·]?) (KeyV I S q d).toArray rest :=
  fill_step _ [] (B8 I') (B8 I) (.int .u32 q :: (B8 S ++ [.int .i64 d])) 0 _ rest (by rw [B8_length, hI]; rfl) rfl (by rw [B8_length, B8_length, hI, hI'])
theorem KeyV_q (I S : List UInt8) (q q' : Nat) (d : Int) (hI : I.length = 16) (rest : List (Nat × Value)) :
    Instr.fill (placesK.toArray[·]?) (KeyV I S q' d).toArray ((1, .int .u32 q) :: rest) = Instr.fill (placesK.toArray[·]?) (KeyV I S q d).toArray rest :=
  fill_step _ (B8 I) [.int .u32 q'] [.int .u32 q] (B8 S ++ [.int .i64 d]) 1 _ rest (by rw [B8_length, hI]; rfl) rfl rfl
theorem KeyV_S (I S S' : List UInt8) (q : Nat) (d : Int) (hI : I.length = 16) (hS : S.length = 32) (hS' : S'.length = 32) (rest : List (Nat × Value)) :
    Instr.fill (placesK.toArray[·]?) (KeyV I S' q d).toArray ((2, .agg (B8 S).toArray) :: rest) = Instr.fill (placesK.toArray[·]?) (KeyV I S q d).toArray rest := by
  have h := fill_step (placesK.toArray[·]?) (B8 I ++ [.int .u32 q]) (B8 S') (B8 S) [.int .i64 d] 2 (.agg (B8 S).toArray) rest (by rw [List.length_append, B8_length, B8_length, hI, hS]; rfl) rfl (by rw [B8_length, B8_length, hS, hS'])
  simpa [KeyV] using h
theorem KeyV_d (I S : List UInt8) (q : Nat) (d d' : Int) (hI : I.length = 16) (hS : S.length = 32) (rest : List (Nat × Value)) :
    Instr.fill (placesK.toArray[·]?) (KeyV I S q d').toArray ((3, .int .i64 d) :: rest) = Instr.fill (placesK.toArray[·]?) (KeyV I S q d).toArray rest := by
  have h := fill_step (placesK.toArray[·]?) (B8 I ++ .int .u32 q :: B8 S) [.int .i64 d'] [.int .i64 d] [] 3 (.int .i64 d) rest (by rw [List.length_append, List.length_cons, B8_length, B8_length, hI, hS]; rfl) rfl rfl
  simpa [KeyV] using h
theorem key_name (I : List UInt8) (q : Nat) (d : Int) (hI : I.length = 16) :
    Try.prog.built 63 [(0, .agg (B8 I).toArray), (1, .int .u32 q), (3, .int .i64 d)] = some (KeyV I zero32 q d).toArray := by
  rw [built_key, KeyV_I _ _ _ _ _ hI rfl, KeyV_q _ _ _ _ _ hI, KeyV_d _ _ _ _ _ hI rfl]
  rfl
theorem key_width (d : Int) : Try.prog.built 63 [(3, .int .i64 d)] = some (KeyV zero16 zero32 0 d).toArray := by
  rw [built_key, KeyV_d _ _ _ _ _ rfl rfl]
  rfl
end Go.Proofs.Ytcnelahmbfggcaa

/- The walks of the chapter's plain and alive. -/
namespace Go.Proofs.Ytcnelahmbfggcaa
open Go Go.RowKit
set_option maxRecDepth 100000
set_option maxHeartbeats 1000000

theorem info_16 : (Try.prog.info? 22).map (·.size) = some 16 := by kernel_rfl
theorem key_ranges {w : World} {b : Nat} {t : TypeId} {I S : List UInt8} {q : Nat} {d : Int} (h : w.heap[b]? = some (.cells (KeyV I S q d).toArray t (0, 0))) (hI : I.length = 16) :
    w.rangeAt b 0 (B8 I) ∧ w.rangeAt b 17 (B8 S) := by
  constructor
  · intro j v hj
    have hl := (List.getElem?_eq_some_iff.1 hj).1
    rw [cell_of_row w b (0 + j) _ t (0, 0) h, Nat.zero_add, List.getElem?_toArray, KeyV, List.getElem?_append_left hl]
    exact hj
  · intro j v hj
    have hl := (List.getElem?_eq_some_iff.1 hj).1
    rw [cell_of_row w b (17 + j) _ t (0, 0) h, List.getElem?_toArray, KeyV, List.getElem?_append_right (by rw [B8_length]; omega), B8_length, hI, show 17 + j - 16 = j + 1 by omega, List.getElem?_cons_succ, List.getElem?_append_left hl]
    exact hj
theorem KeyV_one (I S : List UInt8) (q : Nat) (d : Int) : (KeyV I S q d).toArray.all (·.oneCell') = true := by
  refine Array.all_eq_true_iff_forall_mem.2 fun v hv => ?_
  rw [List.mem_toArray, KeyV] at hv
  rcases List.mem_append.1 hv with h | h
  · exact B8_one _ v h
  · rcases List.mem_cons.1 h with rfl | h
    · rfl
    · rcases List.mem_append.1 h with h | h
      · exact B8_one _ v h
      · rw [List.mem_singleton.1 h]; rfl
end Go.Proofs.Ytcnelahmbfggcaa

/- A key, or a claim, that came in. -/
namespace Go.Proofs.Ytcnelahmbfggcaa
open Go Go.RowKit Go.ChangeShapes Go.WideShapes Go.ChangeAt
set_option maxRecDepth 100000

def OpKey (_ : World) (v : Value) : Prop := ∃ (I S : List UInt8) (q : Nat) (d : Int), I.length = 16 ∧ S.length = 32 ∧ q < 4294967296 ∧ (-9223372036854775808 ≤ d ∧ d ≤ 9223372036854775807) ∧ v = .agg (KeyV I S q d).toArray
theorem cut4 (cs : List Value) (h : cs.length = 50) : cs = (cs.drop 0).take 16 ++ ((cs.drop 16).take 1 ++ ((cs.drop 17).take 32 ++ (cs.drop 49).take 1)) := by
  have e1 : (cs.drop 49).take 1 = cs.drop 49 := List.take_of_length_le (by rw [List.length_drop]; omega)
  have e2 : (cs.drop 17).take 32 ++ cs.drop 49 = cs.drop 17 := by
    have := List.take_append_drop 32 (cs.drop 17)
    rwa [List.drop_drop] at this
  have e3 : (cs.drop 16).take 1 ++ cs.drop 17 = cs.drop 16 := by
    have := List.take_append_drop 1 (cs.drop 16)
    rwa [List.drop_drop] at this
  rw [e1, e2, e3, List.drop_zero, List.take_append_drop]
section
variable {H : Type} {enc : TypeId × Value → H} {w : World} {base : Nat} {held : Bool} {r : Reach} {b0 : Nat} {v : Value} {d : DataW H} {ps : List MemPlace}
theorem op_key (hval : Value.okWide Try.prog w r b0 63 v) (h : DataW.Trod enc Try.prog w base (fun _ => true) held 63 v d ps) : OpKey w v := by
  obtain ⟨cs, rfl⟩ := okWide_agg Try.underlying63 rfl hval
  obtain ⟨fuel, hf⟩ := h
  obtain ⟨hl, m, hfs⟩ := trod_fields Try.underlying63 hf
  obtain ⟨y0, h0⟩ : ∃ y, DataW.trod enc Try.prog w base (fun _ => true) held m 22 ((cs.toList.drop 0).take (Try.prog.cellsOf 22)) = some y := hfs 0 _ rfl
  obtain ⟨y1, h1⟩ : ∃ y, DataW.trod enc Try.prog w base (fun _ => true) held m 61 ((cs.toList.drop 16).take (Try.prog.cellsOf 61)) = some y := hfs 1 _ rfl
  obtain ⟨y2, h2⟩ : ∃ y, DataW.trod enc Try.prog w base (fun _ => true) held m 23 ((cs.toList.drop 17).take (Try.prog.cellsOf 23)) = some y := hfs 2 _ rfl
  obtain ⟨y3, h3⟩ : ∃ y, DataW.trod enc Try.prog w base (fun _ => true) held m 3 ((cs.toList.drop 49).take (Try.prog.cellsOf 3)) = some y := hfs 3 _ rfl
  have hl' : cs.toList.length = 50 := by rw [show (50 : Nat) = Try.prog.cellsOf 63 by kernel_rfl]; exact hl
  obtain ⟨l0, l0l, e0, w0⟩ := trod_row (n := 16) Try.underlying22 Try.underlying5 (by kernel_rfl) (by kernel_rfl) h0
  obtain ⟨z1, e1, _, w1⟩ := DataW.trod_int Try.underlying61 h1
  obtain ⟨l2, l2l, e2, w2⟩ := trod_row (n := 32) Try.underlying23 Try.underlying5 (by kernel_rfl) (by kernel_rfl) h2
  obtain ⟨z3, e3, _, w3⟩ := DataW.trod_int Try.underlying3 h3
  rw [show Try.prog.cellsOf 22 = 16 by kernel_rfl] at e0
  rw [show Try.prog.cellsOf 61 = 1 by kernel_rfl] at e1
  rw [show Try.prog.cellsOf 23 = 32 by kernel_rfl] at e2
  rw [show Try.prog.cellsOf 3 = 1 by kernel_rfl] at e3
  obtain ⟨I, hI, eI⟩ := IV_bytes l0 w0
  obtain ⟨S, hS, eS⟩ := IV_bytes l2 w2
  have b1 := wf_u32_bd w1
  refine ⟨I, S, z1.toNat, z3, by omega, by omega, by omega, wf_i64_bd w3, ?_⟩
  have e : cs.toList = KeyV I S z1.toNat z3 := by
    rw [cut4 _ hl']
    rw [e0, e1, e2, e3, eI, eS, KeyV]
    have : ((z1.toNat : Nat) : Int) = z1 := by omega
    rw [this]
    rfl
  rw [← e]
end
end Go.Proofs.Ytcnelahmbfggcaa


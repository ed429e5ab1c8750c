/- What a walk is told of an argument that came in: numbers, rows of numbers by value, slices of bytes and of numbers. -/
import Derived.Test.YtcnelahmbfggcaaBridge
import Derived.Test.YtcnelahmbfggcaaInts
import Derived.ProofKit
import Derived.OpenShut
import Derived.ChangeOld
import Derived.SizedLaws
namespace Go.Proofs.Ytcnelahmbfggcaa
open Go Go.RowKit Go.ChangeShapes Go.WideShapes Go.ChangeAt
set_option maxRecDepth 100000

def vnum : Value → Int
  | .int _ n => n
  | _ => 0
section
variable {H : Type} {enc : TypeId × Value → H} {P : Program} {w : World} {base : Nat} {spare : Nat → Bool} {held : Bool} {fuel : Nat} {t e : TypeId} {cs : List Value} {x : DataW H × List MemPlace}
/-- a row of numbers, by value -/
theorem trod_row {n : Nat} {k : IntKind} (ht : P.underlying t = some (.array n e)) (he : P.underlying e = some (.int k)) (hc : P.cellsOf e = 1) (hct : P.cellsOf t = n)
    (h : DataW.trod enc P w base spare held fuel t cs = some x) : ∃ l : List Int, l.length = n ∧ cs = IV k l ∧ ∀ z ∈ l, (Lit.int k z).wf = true := by
  obtain ⟨xs, m, _, _, hl, hxl, hi⟩ := DataW.trod_array ht h
  rw [hct] at hl
  have each : ∀ i (hi : i < n), ∃ z, cs[i]? = some (.int k z) ∧ (Lit.int k z).wf = true := by
    intro i hin
    have h1 := hi i hin
    rw [hc, Nat.mul_one] at h1
    have h2 : xs[i]? = some xs[i] := by simp [hxl, hin]
    rw [h2] at h1
    obtain ⟨z, hz, _, hw⟩ := DataW.trod_int he h1
    refine ⟨z, ?_, hw⟩
    have := congrArg (fun l : List Value => l[0]?) hz
    simpa using this
  refine ⟨cs.map vnum, by simp [hl], ?_, fun z hz => ?_⟩
  · apply List.ext_getElem?
    intro i
    by_cases hin : i < n
    · obtain ⟨z, hz, _⟩ := each i hin
      simp [IV, hz, vnum]
    · simp [IV, List.getElem?_eq_none (by omega : cs.length ≤ i)]
  · obtain ⟨v, hv, rfl⟩ := List.mem_map.1 hz
    obtain ⟨i, hi', rfl⟩ := List.getElem_of_mem hv
    obtain ⟨z, hz', hw⟩ := each i (by omega)
    rw [List.getElem?_eq_getElem hi'] at hz'
    have e : cs[i] = .int k z := Option.some.inj hz'
    simp only [e, vnum]
    exact hw
/-- the fields of a struct -/
theorem trod_fields {fs : Array Field} (ht : P.underlying t = some (.struct fs)) (h : DataW.trod enc P w base spare held fuel t cs = some x) :
    cs.length = P.cellsOf t ∧ ∃ m, ∀ (i : Nat) (f : Field), fs[i]? = some f → ∃ y, DataW.trod enc P w base spare held m f.type ((cs.drop f.offset).take (P.cellsOf f.type)) = some y := by
  cases fuel with
  | zero => simp [DataW.trod] at h
  | succ m =>
    unfold DataW.trod at h
    rw [ht] at h
    split at h <;> simp_all
    obtain ⟨hl, xs, hp, hd⟩ := h
    refine ⟨m, fun i f hf => ?_⟩
    have h1 := mapM_some_get hp i f (by simpa using hf)
    have h2 : i < xs.length := by
      have := mapM_some_length hp
      have h3 := (Array.getElem?_eq_some_iff.1 hf).1
      simp at this
      omega
    rw [List.getElem?_eq_getElem h2] at h1
    exact ⟨xs[i].1, xs[i].2, h1⟩
theorem okWide_agg {r : Reach} {b0 : Nat} {v : Value} {d : TypeDesc} (ht : P.underlying t = some d) (hd : (match d with | .struct _ | .array _ _ => true | _ => false) = true) (h : Value.okWide P w r b0 t v) : ∃ cs, v = .agg cs := by
  simp only [Value.okWide, ht] at h
  cases d <;> simp_all
  all_goals (obtain ⟨cs, h, _⟩ := h; exact ⟨cs, h⟩)
end

theorem wf_u32_bd {n : Int} (h : (Lit.int .u32 n).wf = true) : 0 ≤ n ∧ n ≤ 4294967295 := by
  simp [Lit.wf, IntKind.min, IntKind.max, IntKind.signed, IntKind.bits] at h
  omega
theorem IV_bytes (l : List Int) (h : ∀ z ∈ l, (Lit.int .u8 z).wf = true) : ∃ l8 : List UInt8, l8.length = l.length ∧ IV .u8 l = B8 l8 := by
  refine ⟨l.map fun n => UInt8.ofNat n.toNat, by simp, ?_⟩
  simp only [IV, B8, List.map_map]
  refine List.map_congr_left fun z hz => ?_
  simp only [Function.comp]
  rw [bn_ofInt (wf_u8_bd (h z hz))]
theorem IV_words (l : List Int) (h : ∀ z ∈ l, (Lit.int .u32 z).wf = true) : ∃ l32 : List UInt32, l32.length = l.length ∧ IV .u32 l = l32.map fun b => Value.int .u32 (wn b) := by
  refine ⟨l.map fun n => UInt32.ofNat n.toNat, by simp, ?_⟩
  simp only [IV, List.map_map]
  refine List.map_congr_left fun z hz => ?_
  simp only [Function.comp]
  have := wf_u32_bd (h z hz)
  congr 1
  simp [wn]
  omega

/-! ### The words -/
def OpInt (k : IntKind) (_ : World) (v : Value) : Prop := ∃ n, v = .int k n ∧ (Lit.int k n).wf = true
def OpBool (_ : World) (v : Value) : Prop := ∃ b, v = .bool b
def OpRow8 (n : Nat) (_ : World) (v : Value) : Prop := ∃ l : List UInt8, l.length = n ∧ v = .agg (B8 l).toArray
def OpRow32 (n : Nat) (_ : World) (v : Value) : Prop := ∃ l : List UInt32, l.length = n ∧ v = .agg (l.map fun b => Value.int .u32 (wn b)).toArray
def OpRow64 (n : Nat) (_ : World) (v : Value) : Prop := ∃ l : List Int, l.length = n ∧ v = .agg (IV .i64 l).toArray ∧ ∀ z ∈ l, (Lit.int .i64 z).wf = true
def OpBytes (w : World) (v : Value) : Prop := ∃ l, Sl w v l
def OpInts (k : IntKind) (w : World) (v : Value) : Prop := ∃ l, SlI w k v l ∧ ∀ z ∈ l, (Lit.int k z).wf = true

section
variable {H : Type} {enc : TypeId × Value → H} {P : Program} {w : World} {base : Nat} {held : Bool} {t e : TypeId} {r : Reach} {b0 : Nat} {v : Value} {d : DataW H} {ps : List MemPlace}
theorem op_int {k : IntKind} (ht : P.underlying t = some (.int k)) (hval : Value.okWide P w r b0 t v) (h : DataW.Trod enc P w base (fun _ => true) held t v d ps) : OpInt k w v := by
  obtain ⟨n, rfl, _, _, hw⟩ := open_int ht hval h
  exact ⟨n, rfl, hw⟩
theorem op_bool (ht : P.underlying t = some .bool) (hval : Value.okWide P w r b0 t v) (h : DataW.Trod enc P w base (fun _ => true) held t v d ps) : OpBool w v := by
  obtain ⟨n, rfl, _⟩ := open_bool ht hval h
  exact ⟨n, rfl⟩
theorem op_row {n : Nat} {k : IntKind} (ht : P.underlying t = some (.array n e)) (he : P.underlying e = some (.int k)) (hc : P.cellsOf e = 1) (hct : P.cellsOf t = n)
    (hval : Value.okWide P w r b0 t v) (h : DataW.Trod enc P w base (fun _ => true) held t v d ps) : ∃ l : List Int, l.length = n ∧ v = .agg (IV k l).toArray ∧ ∀ z ∈ l, (Lit.int k z).wf = true := by
  obtain ⟨cs, rfl⟩ := okWide_agg ht rfl hval
  obtain ⟨fuel, hf⟩ := h
  obtain ⟨l, hl, hcs, hw⟩ := trod_row ht he hc hct hf
  refine ⟨l, hl, ?_, hw⟩
  have : cs.toList = IV k l := hcs
  rw [← this]
theorem op_row8 {n : Nat} (ht : P.underlying t = some (.array n e)) (he : P.underlying e = some (.int .u8)) (hc : P.cellsOf e = 1) (hct : P.cellsOf t = n)
    (hval : Value.okWide P w r b0 t v) (h : DataW.Trod enc P w base (fun _ => true) held t v d ps) : OpRow8 n w v := by
  obtain ⟨l, hl, rfl, hw⟩ := op_row ht he hc hct hval h
  obtain ⟨l8, h1, h2⟩ := IV_bytes l hw
  exact ⟨l8, by omega, by rw [h2]⟩
theorem op_row32 {n : Nat} (ht : P.underlying t = some (.array n e)) (he : P.underlying e = some (.int .u32)) (hc : P.cellsOf e = 1) (hct : P.cellsOf t = n)
    (hval : Value.okWide P w r b0 t v) (h : DataW.Trod enc P w base (fun _ => true) held t v d ps) : OpRow32 n w v := by
  obtain ⟨l, hl, rfl, hw⟩ := op_row ht he hc hct hval h
  obtain ⟨l8, h1, h2⟩ := IV_words l hw
  exact ⟨l8, by omega, by rw [h2]⟩
/-- a slice of numbers among the cells -/
theorem trod_ints {k : IntKind} {fuel : Nat} {x : DataW H × List MemPlace} (ht : P.underlying t = some (.slice e)) (he : P.underlying e = some (.int k)) (hc : P.cellsOf e = 1) {cs : List Value} (h : DataW.trod enc P w base (fun _ => true) held fuel t cs = some x) :
    ∃ a len cap zs, cs = [.slice a len cap] ∧ ((a = none ∧ len = 0 ∧ cap = 0 ∧ zs = []) ∨ ∃ x : Addr, a = some x ∧ len ≤ cap ∧ cap ≤ maxLen ∧ zs.length = cap ∧ (∀ i, i < zs.length → w.cell? (x.add i) = some (.int k (zs.getD i 0))) ∧ ∀ n ∈ zs, (Lit.int k n).wf = true) := by
  rcases open_ints ht he hc h with ⟨hcs, _⟩ | ⟨x, l, c, zs, hcs, _, hl, hm, hz, _, hcell, hwz⟩
  · exact ⟨none, 0, 0, [], hcs, .inl ⟨rfl, rfl, rfl, rfl⟩⟩
  · exact ⟨some x, l, c, zs, hcs, .inr ⟨x, rfl, hl, hm, by simpa using hz, hcell, hwz⟩⟩
theorem SlI.ofRow {w : World} {k : IntKind} {a : Option Addr} {len cap : Nat} {zs : List Int}
    (h : (a = none ∧ len = 0 ∧ cap = 0 ∧ zs = []) ∨ ∃ x : Addr, a = some x ∧ len ≤ cap ∧ cap ≤ maxLen ∧ zs.length = cap ∧ (∀ i, i < zs.length → w.cell? (x.add i) = some (.int k (zs.getD i 0))) ∧ ∀ n ∈ zs, (Lit.int k n).wf = true) :
    ∃ l : List Int, l.length = len ∧ SlI w k (.slice a len cap) l ∧ ∀ n ∈ l, (Lit.int k n).wf = true := by
  rcases h with ⟨rfl, rfl, rfl, rfl⟩ | ⟨x, rfl, h1, h2, h3, h4, h5⟩
  · exact ⟨[], rfl, .inl ⟨rfl, _, _, rfl⟩, fun _ h => by cases h⟩
  · have hlen : (zs.take len).length = len := by simp; omega
    refine ⟨zs.take len, hlen, ?_, fun n hn => h5 n (List.mem_of_mem_take hn)⟩
    by_cases h0 : 0 < len
    · obtain ⟨b, off, spot⟩ := x
      have hs : spot = none := by simpa [Addr.add] using World.cell?_spot (h4 0 (by omega))
      subst hs
      refine .inr ⟨b, off, cap, by rw [hlen], by omega, by omega, h2, fun i hi => ?_⟩
      rw [hlen] at hi
      have e := h4 i (by omega)
      rw [show (⟨b, off, none⟩ : Addr).add i = ⟨b, off + i, none⟩ from by unfold Addr.add; split <;> simp_all] at e
      rw [e]
      simp [hi]
    · obtain rfl : len = 0 := by omega
      exact .inl ⟨by simp, _, _, rfl⟩
theorem op_bytes (ht : P.underlying t = some (.slice e)) (he : P.underlying e = some (.int .u8)) (hc : P.cellsOf e = 1) (hval : Value.okWide P w r b0 t v) (h : DataW.Trod enc P w base (fun _ => true) held t v d ps) : OpBytes w v := by
  obtain ⟨a, len, cap, rfl⟩ := okWide_slice ht hval
  obtain ⟨fuel, hf⟩ := h
  obtain ⟨a', len', cap', zs, hcs, hr⟩ := trod_ints ht he hc hf
  simp [Value.cells] at hcs
  obtain ⟨rfl, rfl, rfl⟩ := hcs
  obtain ⟨l, _, hl⟩ := Sl.ofRow hr
  exact ⟨l, hl⟩
theorem op_ints {k : IntKind} (ht : P.underlying t = some (.slice e)) (he : P.underlying e = some (.int k)) (hc : P.cellsOf e = 1) (hval : Value.okWide P w r b0 t v) (h : DataW.Trod enc P w base (fun _ => true) held t v d ps) : OpInts k w v := by
  obtain ⟨a, len, cap, rfl⟩ := okWide_slice ht hval
  obtain ⟨fuel, hf⟩ := h
  obtain ⟨a', len', cap', zs, hcs, hr⟩ := trod_ints ht he hc hf
  simp [Value.cells] at hcs
  obtain ⟨rfl, rfl, rfl⟩ := hcs
  obtain ⟨l, _, hl, hw⟩ := SlI.ofRow hr
  exact ⟨l, hl, hw⟩
theorem weightsAll_mem {P : Program} {e : TypeId} {n : Nat} : ∀ {l : List (DataW H)} {y : DataW H}, y ∈ l → n ∈ y.weights P e → n ∈ DataW.weightsAll P e l
  | z :: l, y, h, hn => by
    rw [DataW.weightsAll, List.mem_append]
    rcases List.mem_cons.1 h with rfl | h
    · exact .inl hn
    · exact .inr (weightsAll_mem h hn)
/-- a slice's elements, and what the reach says of them -/
theorem trod_elems {fuel : Nat} {cs : List Value} {x : DataW H × List MemPlace} (ht : P.underlying t = some (.slice e)) (hz : ∀ n ∈ x.1.weights P t, n ≤ reachBytes) (h : DataW.trod enc P w base (fun _ => true) held fuel t cs = some x) :
    cs = [.slice none 0 0] ∨ ∃ (a : Addr) (len cap m : Nat), cs = [.slice (some a) len cap] ∧ len ≤ cap ∧ cap ≤ maxLen ∧ len * P.bytesOf e ≤ reachBytes ∧
      ∀ i, i < len → ∃ es y, w.cells? base (a.add (i * P.cellsOf e)) (P.cellsOf e) = some es ∧ DataW.trod enc P w base (fun _ => true) held m e es = some y ∧ ∀ n ∈ y.1.weights P e, n ≤ reachBytes := by
  rcases DataW.trod_slice ht h with ⟨h0, _⟩ | ⟨a, len, cap, elems, rest, n, _, rfl, rfl, _, hl, hm, hlen, hel, _, _⟩
  · exact .inl h0
  · refine .inr ⟨a, len, cap, n, rfl, hl, hm, ?_, fun i hi => ?_⟩
    · have := hz ((elems.length + rest.length) * P.bytesOf e) (by simp [DataW.weights, ht])
      exact Nat.le_trans (Nat.mul_le_mul_right _ (by omega)) this
    · have h1 := hel i hi
      rw [List.getElem?_eq_getElem (by omega), Option.bind_eq_some_iff] at h1
      obtain ⟨es, h2, h3⟩ := h1
      refine ⟨es, _, h2, h3, fun k hk => hz k ?_⟩
      simp only [DataW.weights, ht, List.mem_cons, List.mem_append]
      exact .inr (.inl (weightsAll_mem (List.mem_map.2 ⟨_, List.getElem_mem _, rfl⟩) hk))
/-- a slice of numbers among the cells, and how long it is -/
theorem trod_ints_z {k : IntKind} {fuel : Nat} {x : DataW H × List MemPlace} (ht : P.underlying t = some (.slice e)) (he : P.underlying e = some (.int k)) (hc : P.cellsOf e = 1) {cs : List Value} (hz : ∀ n ∈ x.1.weights P t, n ≤ reachBytes) (h : DataW.trod enc P w base (fun _ => true) held fuel t cs = some x) :
    ∃ a len cap zs, cs = [.slice a len cap] ∧ len * P.bytesOf e ≤ reachBytes ∧ ((a = none ∧ len = 0 ∧ cap = 0 ∧ zs = []) ∨ ∃ x : Addr, a = some x ∧ len ≤ cap ∧ cap ≤ maxLen ∧ zs.length = cap ∧ (∀ i, i < zs.length → w.cell? (x.add i) = some (.int k (zs.getD i 0))) ∧ ∀ n ∈ zs, (Lit.int k n).wf = true) := by
  rcases open_ints ht he hc h with ⟨hcs, _⟩ | ⟨x, l, c, zs, hcs, _, hl, hm, hzl, rfl, hcell, hwz⟩
  · exact ⟨none, 0, 0, [], hcs, by simp, .inl ⟨rfl, rfl, rfl, rfl⟩⟩
  · have hzc : zs.length = c := by simpa using hzl
    refine ⟨some x, l, c, zs, hcs, ?_, .inr ⟨x, rfl, hl, hm, hzc, hcell, hwz⟩⟩
    have := hz (((lits (H := H) k (zs.take l)).length + (lits (H := H) k (zs.drop l)).length) * P.bytesOf e) (by simp [DataW.weights, ht])
    refine Nat.le_trans (Nat.mul_le_mul_right _ ?_) this
    simp only [lits, List.length_map, List.length_take, List.length_drop]
    omega
/-- a slice of slices of bytes -/
def OpRows8 (w : World) (v : Value) : Prop := ∃ ls : List (List UInt8), (ls = [] ∧ ∃ a c, v = .slice a 0 c) ∨
  ∃ b off cap, v = .slice (some ⟨b, off, none⟩) ls.length cap ∧ ls.length ≤ cap ∧ cap ≤ maxLen ∧ ∀ i, i < ls.length → ∃ a c, w.cell? ⟨b, off + i, none⟩ = some (.slice a (ls.getD i []).length c) ∧ Sl w (.slice a (ls.getD i []).length c) (ls.getD i []) ∧ (ls.getD i []).length ≤ 140737488351232
theorem op_rows8_z {u : TypeId} (ht : P.underlying t = some (.slice e)) (he : P.underlying e = some (.slice u)) (hu : P.underlying u = some (.int .u8)) (hc : P.cellsOf e = 1) (hcu : P.cellsOf u = 1) (hbu : P.bytesOf u = 1) (hz : ∀ n ∈ d.weights P t, n ≤ reachBytes) (hval : Value.okWide P w r b0 t v) (h : DataW.Trod enc P w base (fun _ => true) held t v d ps) : OpRows8 w v := by
  obtain ⟨a, len, cap, rfl⟩ := okWide_slice ht hval
  obtain ⟨fuel, hf⟩ := h
  rcases trod_elems ht hz hf with hcs | ⟨x, l, c, m, hcs, hl, hm, _, hel⟩
  · simp [Value.cells] at hcs
    obtain ⟨rfl, rfl, rfl⟩ := hcs
    exact ⟨[], .inl ⟨rfl, _, _, rfl⟩⟩
  · simp [Value.cells] at hcs
    obtain ⟨rfl, rfl, rfl⟩ := hcs
    have each : ∀ i, i < len → ∃ (l : List UInt8) (a : Option Addr) (c : Nat), w.cell? (x.add i) = some (.slice a l.length c) ∧ Sl w (.slice a l.length c) l ∧ l.length ≤ 140737488351232 := by
      intro i hi
      obtain ⟨es, y, h1, h2, h3⟩ := hel i hi
      obtain ⟨a', len', cap', zs, hcs, hle, hr⟩ := trod_ints_z he hu hcu h3 h2
      subst hcs
      rw [hc, Nat.mul_one] at h1
      obtain ⟨l, hll, hs⟩ := Sl.ofRow hr
      subst hll
      rw [hbu, Nat.mul_one] at hle
      exact ⟨l, a', cap', cell_of_cells?_one h1, hs, hle⟩
    by_cases h0 : 0 < len
    · obtain ⟨b, off, spot⟩ := x
      have hs : spot = none := by
        obtain ⟨_, _, _, h1, _⟩ := each 0 h0
        simpa [Addr.add] using World.cell?_spot h1
      subst hs
      have each2 : ∀ i, i < len → ∃ (l : List UInt8) (a : Option Addr) (c : Nat), w.cell? ⟨b, off + i, none⟩ = some (.slice a l.length c) ∧ Sl w (.slice a l.length c) l ∧ l.length ≤ 140737488351232 := fun i hi => by
        obtain ⟨l, a, c, h1, h2⟩ := each i hi
        refine ⟨l, a, c, ?_, h2⟩
        rw [← h1]
        congr 1
        unfold Addr.add
        split <;> simp_all
      obtain ⟨f, hf⟩ : ∃ f : Nat → List UInt8, ∀ i, i < len → ∃ (a : Option Addr) (c : Nat), w.cell? ⟨b, off + i, none⟩ = some (.slice a (f i).length c) ∧ Sl w (.slice a (f i).length c) (f i) ∧ (f i).length ≤ 140737488351232 :=
        ⟨fun i => if hi : i < len then (each2 i hi).choose else [], fun i hi => by dsimp only; rw [dif_pos hi]; exact (each2 i hi).choose_spec⟩
      have hlen : ((List.range len).map f).length = len := by simp
      refine ⟨(List.range len).map f, .inr ⟨b, off, cap, by rw [hlen], by omega, hm, fun i hi => ?_⟩⟩
      rw [hlen] at hi
      have hg : ((List.range len).map f).getD i [] = f i := by simp [hi]
      rw [hg]
      exact hf i hi
    · obtain rfl : len = 0 := by omega
      exact ⟨[], .inl ⟨rfl, _, _, rfl⟩⟩
end
theorem list8 {α : Type} (l : List α) (h : l.length = 8) : ∃ x0 x1 x2 x3 x4 x5 x6 x7, l = [x0, x1, x2, x3, x4, x5, x6, x7] := by
  match l, h with
  | [x0, x1, x2, x3, x4, x5, x6, x7], _ => exact ⟨_, _, _, _, _, _, _, _, rfl⟩
end Go.Proofs.Ytcnelahmbfggcaa

/- A claim that came in. -/
import Derived.Test.YtmmmjlmfnonmaaaQOpenK
namespace Go.Proofs.Ytmmmjlmfnonmaaa
open Go Go.RowKit Go.ChangeShapes Go.WideShapes Go.ChangeAt
set_option maxRecDepth 100000

/-- a claim's cells -/
def ClaimV (I : List UInt8) (q : Nat) (tv sv : Value) : List Value := B8 I ++ [.int .u32 q, tv, sv]
def OpClaim (w : World) (v : Value) : Prop := ∃ (I : List UInt8) (q : Nat) (tv sv : Value) (text s : List UInt8), I.length = 16 ∧ q < 4294967296 ∧ Sl w tv text ∧ Sl w sv s ∧ v = .agg (ClaimV I q tv sv).toArray
theorem cut3 (cs : List Value) (h : cs.length = 19) : cs = (cs.drop 0).take 16 ++ ((cs.drop 16).take 1 ++ ((cs.drop 17).take 1 ++ (cs.drop 18).take 1)) := by
  have e1 : (cs.drop 18).take 1 = cs.drop 18 := List.take_of_length_le (by rw [List.length_drop]; omega)
  have e2 : (cs.drop 17).take 1 ++ cs.drop 18 = cs.drop 17 := by
    have := List.take_append_drop 1 (cs.drop 17)
    rwa [List.drop_drop] at this
  have e3 : (cs.drop 16).take 1 ++ cs.drop 17 = cs.drop 16 := by
    have := List.take_append_drop 1 (cs.drop 16)
    rwa [List.drop_drop] at this
  rw [e1, e2, e3, List.drop_zero, List.take_append_drop]
section
variable {H : Type} {enc : TypeId × Value → H} {w : World} {base : Nat} {held : Bool} {r : Reach} {b0 : Nat} {v : Value} {d : DataW H} {ps : List MemPlace}
theorem op_claim (hval : Value.okWide Try.prog w r b0 53 v) (h : DataW.Trod enc Try.prog w base (fun _ => true) held 53 v d ps) : OpClaim w v := by
  obtain ⟨cs, rfl⟩ := okWide_agg Try.underlying53 rfl hval
  obtain ⟨fuel, hf⟩ := h
  obtain ⟨hl, m, hfs⟩ := trod_fields Try.underlying53 hf
  obtain ⟨y0, h0⟩ : ∃ y, DataW.trod enc Try.prog w base (fun _ => true) held m 22 ((cs.toList.drop 0).take (Try.prog.cellsOf 22)) = some y := hfs 0 _ rfl
  obtain ⟨y1, h1⟩ : ∃ y, DataW.trod enc Try.prog w base (fun _ => true) held m 23 ((cs.toList.drop 16).take (Try.prog.cellsOf 23)) = some y := hfs 1 _ rfl
  obtain ⟨y2, h2⟩ : ∃ y, DataW.trod enc Try.prog w base (fun _ => true) held m 47 ((cs.toList.drop 17).take (Try.prog.cellsOf 47)) = some y := hfs 2 _ rfl
  obtain ⟨y3, h3⟩ : ∃ y, DataW.trod enc Try.prog w base (fun _ => true) held m 47 ((cs.toList.drop 18).take (Try.prog.cellsOf 47)) = some y := hfs 3 _ rfl
  have hl' : cs.toList.length = 19 := by rw [show (19 : Nat) = Try.prog.cellsOf 53 by kernel_rfl]; exact hl
  obtain ⟨l0, l0l, e0, w0⟩ := trod_row (n := 16) Try.underlying22 Try.underlying5 (by kernel_rfl) (by kernel_rfl) h0
  obtain ⟨z1, e1, _, w1⟩ := DataW.trod_int Try.underlying23 h1
  obtain ⟨a2, n2, c2, z2, e2, r2⟩ := trod_ints Try.underlying47 Try.underlying5 (by kernel_rfl) h2
  obtain ⟨a3, n3, c3, z3, e3, r3⟩ := trod_ints Try.underlying47 Try.underlying5 (by kernel_rfl) h3
  rw [show Try.prog.cellsOf 22 = 16 by kernel_rfl] at e0
  rw [show Try.prog.cellsOf 23 = 1 by kernel_rfl] at e1
  rw [show Try.prog.cellsOf 47 = 1 by kernel_rfl] at e2 e3
  obtain ⟨I, hI, eI⟩ := IV_bytes l0 w0
  have b1 := wf_u32_bd w1
  obtain ⟨text, _, ht⟩ := Sl.ofRow r2
  obtain ⟨s, _, hs⟩ := Sl.ofRow r3
  refine ⟨I, z1.toNat, _, _, text, s, by omega, by omega, ht, hs, ?_⟩
  have e : cs.toList = ClaimV I z1.toNat (.slice a2 n2 c2) (.slice a3 n3 c3) := by
    rw [cut3 _ hl']
    rw [e0, e1, e2, e3, eI, ClaimV]
    have : ((z1.toNat : Nat) : Int) = z1 := by omega
    rw [this]
    rfl
  rw [← e]
end
theorem claim_row {w : World} {b : Nat} {t : TypeId} {I : List UInt8} {q : Nat} {tv sv : Value} (h : w.heap[b]? = some (.cells (ClaimV I q tv sv).toArray t (0, 0))) (hI : I.length = 16) :
    w.rangeAt b 0 (B8 I) ∧ w.cell? ⟨b, 16, none⟩ = some (.int .u32 q) ∧ w.cell? ⟨b, 17, none⟩ = some tv ∧ w.cell? ⟨b, 18, none⟩ = some sv := by
  have hc : ∀ i v, ([.int .u32 q, tv, sv] : List Value)[i]? = some v → w.cell? ⟨b, 16 + i, none⟩ = some v := fun i v hv => by
    rw [cell_of_row w b (16 + i) _ t (0, 0) h, List.getElem?_toArray, ClaimV, List.getElem?_append_right (by rw [B8_length]; omega), B8_length, hI, show 16 + i - 16 = i by omega]
    exact hv
  refine ⟨?_, hc 0 _ rfl, hc 1 _ rfl, hc 2 _ rfl⟩
  intro j v hj
  have hl := (List.getElem?_eq_some_iff.1 hj).1
  rw [cell_of_row w b (0 + j) _ t (0, 0) h, Nat.zero_add, List.getElem?_toArray, ClaimV, List.getElem?_append_left hl]
  exact hj
end Go.Proofs.Ytmmmjlmfnonmaaa


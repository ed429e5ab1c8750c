/- A voter, a size that came in. -/
import Derived.Test.YtgkhgjoggkcklaaOpen
import Derived.Test.YtgkhgjoggkcklaaEHear
namespace Go.Proofs.Ytgkhgjoggkcklaa
open Go Go.RowKit Go.ChangeShapes Go.WideShapes Go.ChangeAt
set_option maxRecDepth 100000

def I64 (z : Int) : Prop := -9223372036854775808 ≤ z ∧ z ≤ 9223372036854775807
def OpEl (w : World) (v : Value) : Prop := ∃ (F T me view : Int) (vv : Value) (clock wait : Int) (votes : List Int), SlI w .i64 vv votes ∧ (∀ z ∈ votes, (Lit.int .i64 z).wf = true) ∧ I64 F ∧ I64 T ∧ I64 me ∧ I64 view ∧ I64 clock ∧ I64 wait ∧ v = .agg (ElV F T me view vv clock wait)
def OpSize (_ : World) (v : Value) : Prop := ∃ F T : Int, I64 F ∧ I64 T ∧ v = .agg (SizeV F T)
theorem cutEl (cs : List Value) (h : cs.length = 7) : cs = (cs.drop 0).take 2 ++ ((cs.drop 2).take 1 ++ ((cs.drop 3).take 1 ++ ((cs.drop 4).take 1 ++ ((cs.drop 5).take 1 ++ (cs.drop 6).take 1)))) := by
  match cs, h with
  | [a, b, c, d, e, f, g], _ => rfl
section
variable {H : Type} {enc : TypeId × Value → H} {w : World} {base : Nat} {held : Bool} {r : Reach} {b0 : Nat} {v : Value} {d : DataW H} {ps : List MemPlace}
theorem trod_size {fuel : Nat} {cs : List Value} {x : DataW H × List MemPlace} (h : DataW.trod enc Try.prog w base (fun _ => true) held fuel 23 cs = some x) : ∃ F T : Int, I64 F ∧ I64 T ∧ cs = [.int .i64 F, .int .i64 T] := by
  obtain ⟨hl, m, hfs⟩ := trod_fields Try.underlying23 h
  obtain ⟨y0, h0⟩ : ∃ y, DataW.trod enc Try.prog w base (fun _ => true) held m 3 ((cs.drop 0).take (Try.prog.cellsOf 3)) = some y := hfs 0 _ rfl
  obtain ⟨y1, h1⟩ : ∃ y, DataW.trod enc Try.prog w base (fun _ => true) held m 3 ((cs.drop 1).take (Try.prog.cellsOf 3)) = some y := hfs 1 _ rfl
  have hl' : cs.length = 2 := by rw [show (2 : Nat) = Try.prog.cellsOf 23 by kernel_rfl]; exact hl
  obtain ⟨z0, e0, _, w0⟩ := DataW.trod_int Try.underlying3 h0
  obtain ⟨z1, e1, _, w1⟩ := DataW.trod_int Try.underlying3 h1
  rw [show Try.prog.cellsOf 3 = 1 by kernel_rfl] at e0 e1
  refine ⟨z0, z1, wf_i64_bd w0, wf_i64_bd w1, ?_⟩
  match cs, hl' with
  | [a, b], _ =>
    simp at e0 e1
    rw [e0, e1]
theorem op_size (hval : Value.okWide Try.prog w r b0 23 v) (h : DataW.Trod enc Try.prog w base (fun _ => true) held 23 v d ps) : OpSize w v := by
  obtain ⟨cs, rfl⟩ := okWide_agg Try.underlying23 rfl hval
  obtain ⟨fuel, hf⟩ := h
  obtain ⟨F, T, h1, h2, e⟩ := trod_size hf
  refine ⟨F, T, h1, h2, ?_⟩
  have : cs.toList = [.int .i64 F, .int .i64 T] := e
  rw [SizeV, ← this]
theorem op_el (hval : Value.okWide Try.prog w r b0 26 v) (h : DataW.Trod enc Try.prog w base (fun _ => true) held 26 v d ps) : OpEl w v := by
  obtain ⟨cs, rfl⟩ := okWide_agg Try.underlying26 rfl hval
  obtain ⟨fuel, hf⟩ := h
  obtain ⟨hl, m, hfs⟩ := trod_fields Try.underlying26 hf
  obtain ⟨y0, h0⟩ : ∃ y, DataW.trod enc Try.prog w base (fun _ => true) held m 23 ((cs.toList.drop 0).take (Try.prog.cellsOf 23)) = some y := hfs 0 _ rfl
  obtain ⟨y1, h1⟩ : ∃ y, DataW.trod enc Try.prog w base (fun _ => true) held m 3 ((cs.toList.drop 2).take (Try.prog.cellsOf 3)) = some y := hfs 1 _ rfl
  obtain ⟨y2, h2⟩ : ∃ y, DataW.trod enc Try.prog w base (fun _ => true) held m 3 ((cs.toList.drop 3).take (Try.prog.cellsOf 3)) = some y := hfs 2 _ rfl
  obtain ⟨y3, h3⟩ : ∃ y, DataW.trod enc Try.prog w base (fun _ => true) held m 24 ((cs.toList.drop 4).take (Try.prog.cellsOf 24)) = some y := hfs 3 _ rfl
  obtain ⟨y4, h4⟩ : ∃ y, DataW.trod enc Try.prog w base (fun _ => true) held m 3 ((cs.toList.drop 5).take (Try.prog.cellsOf 3)) = some y := hfs 4 _ rfl
  obtain ⟨y5, h5⟩ : ∃ y, DataW.trod enc Try.prog w base (fun _ => true) held m 3 ((cs.toList.drop 6).take (Try.prog.cellsOf 3)) = some y := hfs 5 _ rfl
  have hl' : cs.toList.length = 7 := by rw [show (7 : Nat) = Try.prog.cellsOf 26 by kernel_rfl]; exact hl
  obtain ⟨F, T, bF, bT, e0⟩ := trod_size h0
  obtain ⟨z1, e1, _, w1⟩ := DataW.trod_int Try.underlying3 h1
  obtain ⟨z2, e2, _, w2⟩ := DataW.trod_int Try.underlying3 h2
  obtain ⟨a3, n3, c3, z3, e3, r3⟩ := trod_ints Try.underlying24 Try.underlying3 (by kernel_rfl) h3
  obtain ⟨z4, e4, _, w4⟩ := DataW.trod_int Try.underlying3 h4
  obtain ⟨z5, e5, _, w5⟩ := DataW.trod_int Try.underlying3 h5
  rw [show Try.prog.cellsOf 3 = 1 by kernel_rfl] at e1 e2 e4 e5
  rw [show Try.prog.cellsOf 24 = 1 by kernel_rfl] at e3
  rw [show Try.prog.cellsOf 23 = 2 by kernel_rfl] at e0
  obtain ⟨votes, _, hv, hw⟩ := SlI.ofRow r3
  refine ⟨F, T, z1, z2, _, z4, z5, votes, hv, hw, bF, bT, wf_i64_bd w1, wf_i64_bd w2, wf_i64_bd w4, wf_i64_bd w5, ?_⟩
  have e : cs.toList = elL F T z1 z2 (.slice a3 n3 c3) z4 z5 := by
    rw [cutEl _ hl', e0, e1, e2, e3, e4, e5]
    rfl
  have e' : cs = (elL F T z1 z2 (.slice a3 n3 c3) z4 z5).toArray := by rw [← e]
  rw [e']
  rfl
end
end Go.Proofs.Ytgkhgjoggkcklaa

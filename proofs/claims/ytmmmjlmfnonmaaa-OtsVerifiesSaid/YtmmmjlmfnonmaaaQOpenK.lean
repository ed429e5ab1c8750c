/- A key, or a claim, that came in. -/
import Derived.Test.YtmmmjlmfnonmaaaOpen
import Derived.Test.YtmmmjlmfnonmaaaG5
namespace Go.Proofs.Ytmmmjlmfnonmaaa
open Go Go.RowKit Go.ChangeShapes Go.WideShapes Go.ChangeAt
set_option maxRecDepth 100000

def OpKey (_ : World) (v : Value) : Prop := ∃ (I S : List UInt8) (q : Nat) (d : Int), I.length = 16 ∧ S.length = 32 ∧ q < 4294967296 ∧ (-9223372036854775808 ≤ d ∧ d ≤ 9223372036854775807) ∧ v = .agg (KeyV I S q d).toArray
theorem cut4 (cs : List Value) (h : cs.length = 50) : cs = (cs.drop 0).take 16 ++ ((cs.drop 16).take 1 ++ ((cs.drop 17).take 32 ++ (cs.drop 49).take 1)) := by
  have e1 : (cs.drop 49).take 1 = cs.drop 49 := List.take_of_length_le (by rw [List.length_drop]; omega)
  have e2 : (cs.drop 17).take 32 ++ cs.drop 49 = cs.drop 17 := by
    have := List.take_append_drop 32 (cs.drop 17)
    rwa [List.drop_drop] at this
  have e3 : (cs.drop 16).take 1 ++ cs.drop 17 = cs.drop 16 := by
    have := List.take_append_drop 1 (cs.drop 16)
    rwa [List.drop_drop] at this
  rw [e1, e2, e3, List.drop_zero, List.take_append_drop]
section
variable {H : Type} {enc : TypeId × Value → H} {w : World} {base : Nat} {held : Bool} {r : Reach} {b0 : Nat} {v : Value} {d : DataW H} {ps : List MemPlace}
theorem op_key (hval : Value.okWide Try.prog w r b0 26 v) (h : DataW.Trod enc Try.prog w base (fun _ => true) held 26 v d ps) : OpKey w v := by
  obtain ⟨cs, rfl⟩ := okWide_agg Try.underlying26 rfl hval
  obtain ⟨fuel, hf⟩ := h
  obtain ⟨hl, m, hfs⟩ := trod_fields Try.underlying26 hf
  obtain ⟨y0, h0⟩ : ∃ y, DataW.trod enc Try.prog w base (fun _ => true) held m 22 ((cs.toList.drop 0).take (Try.prog.cellsOf 22)) = some y := hfs 0 _ rfl
  obtain ⟨y1, h1⟩ : ∃ y, DataW.trod enc Try.prog w base (fun _ => true) held m 23 ((cs.toList.drop 16).take (Try.prog.cellsOf 23)) = some y := hfs 1 _ rfl
  obtain ⟨y2, h2⟩ : ∃ y, DataW.trod enc Try.prog w base (fun _ => true) held m 24 ((cs.toList.drop 17).take (Try.prog.cellsOf 24)) = some y := hfs 2 _ rfl
  obtain ⟨y3, h3⟩ : ∃ y, DataW.trod enc Try.prog w base (fun _ => true) held m 3 ((cs.toList.drop 49).take (Try.prog.cellsOf 3)) = some y := hfs 3 _ rfl
  have hl' : cs.toList.length = 50 := by rw [show (50 : Nat) = Try.prog.cellsOf 26 by kernel_rfl]; exact hl
  obtain ⟨l0, l0l, e0, w0⟩ := trod_row (n := 16) Try.underlying22 Try.underlying5 (by kernel_rfl) (by kernel_rfl) h0
  obtain ⟨z1, e1, _, w1⟩ := DataW.trod_int Try.underlying23 h1
  obtain ⟨l2, l2l, e2, w2⟩ := trod_row (n := 32) Try.underlying24 Try.underlying5 (by kernel_rfl) (by kernel_rfl) h2
  obtain ⟨z3, e3, _, w3⟩ := DataW.trod_int Try.underlying3 h3
  rw [show Try.prog.cellsOf 22 = 16 by kernel_rfl] at e0
  rw [show Try.prog.cellsOf 23 = 1 by kernel_rfl] at e1
  rw [show Try.prog.cellsOf 24 = 32 by kernel_rfl] at e2
  rw [show Try.prog.cellsOf 3 = 1 by kernel_rfl] at e3
  obtain ⟨I, hI, eI⟩ := IV_bytes l0 w0
  obtain ⟨S, hS, eS⟩ := IV_bytes l2 w2
  have b1 := wf_u32_bd w1
  refine ⟨I, S, z1.toNat, z3, by omega, by omega, by omega, wf_i64_bd w3, ?_⟩
  have e : cs.toList = KeyV I S z1.toNat z3 := by
    rw [cut4 _ hl']
    rw [e0, e1, e2, e3, eI, eS, KeyV]
    have : ((z1.toNat : Nat) : Int) = z1 := by omega
    rw [this]
    rfl
  rw [← e]
end
end Go.Proofs.Ytmmmjlmfnonmaaa


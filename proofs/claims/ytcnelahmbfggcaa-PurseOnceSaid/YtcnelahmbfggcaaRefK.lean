/- The walk of the document's round words. -/
import Derived.Test.YtcnelahmbfggcaaShaI
import Derived.Test.YtcnelahmbfggcaaKit2
namespace Go.Proofs.Ytcnelahmbfggcaa
open Go Go.RowKit
set_option maxRecDepth 100000
set_option maxHeartbeats 4000000
theorem wpList_build {P : Program} {ops : Array Oper} {rest : List Oper} {o : Oper} {a : Act} {w : World} {Q : Exit → Act → World → Prop} (hgd : o.guard = none) (t : TypeId) (ps : Array (Nat × Operand)) (ho : o.op = .build t ps) (v : Value) (qs : Array (Nat × Value))
    (hq : (ps.map fun (p : Nat × Operand) => (p.1, a.eval p.2)) = qs) (hb : ∀ w, (Instr.build t qs).run P w = .ok v w) (h : wpList P ops Q rest (a.put o.dst v) w) : wpList P ops Q (o :: rest) a w := by
  refine wpList_plain hgd fun _ hK => ?_
  unfold Oper.wp execOp
  have h2 := hb w
  rw [← hq] at h2
  simp only [ho, Sem.run_bind]
  simp [h2]
  exact hK _ _ h
theorem buildK : ∃ Z, Hid (Z = (W32 K).toArray) ∧ ∀ w, (Instr.build 115 ((K.mapIdx fun i x => (i, Value.int .u32 (wn x))).toArray)).run Try.prog w = .ok (.agg Z) w := ⟨_, Lib.hid rfl, fun w => by kernel_rfl⟩
end Go.Proofs.Ytcnelahmbfggcaa

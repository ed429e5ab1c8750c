/- The walk of the document's round words. -/
import Derived.Test.YtcnelahmbfggcaaGreatShaI
import Derived.Test.YtcnelahmbfggcaaGreatKit2
namespace Go.Proofs.YtcnelahmbfggcaaGreat
open Go Go.RowKit
set_option maxRecDepth 100000
set_option maxHeartbeats 4000000
theorem wpList_build {P : Program} {ops : Array Oper} {rest : List Oper} {o : Oper} {a : Act} {w : World} {Q : Exit → Act → World → Prop} (hgd : o.guard = none) (t : TypeId) (ps : Array (Nat × Operand)) (ho : o.op = .build t ps) (v : Value) (qs : Array (Nat × Value))
    (hq : (ps.map fun (p : Nat × Operand) => (p.1, a.eval p.2)) = qs) (hb : ∀ w, (Instr.build t qs).run P w = .ok v w) (h : wpList P ops Q rest (a.put o.dst v) w) : wpList P ops Q (o :: rest) a w := by
  refine wpList_plain hgd fun _ hK => ?_
  unfold Oper.wp execOp
  have h2 := hb w
  rw [← hq] at h2
  simp only [ho, Sem.run_bind]
  simp [h2]
  exact hK _ _ h
theorem buildK : ∃ Z, Hid (Z = (W32 K).toArray) ∧ ∀ w, (Instr.build 144 ((K.mapIdx fun i x => (i, Value.int .u32 (wn x))).toArray)).run Tryz.prog w = .ok (.agg Z) w := ⟨_, Lib.hid rfl, fun w => by kernel_rfl⟩
theorem rounds_any (w : World) : Calls Tryz.prog 108 #[] w fun e w' => e = .returned (.agg (W32 K).toArray) ∧ Below w.heap.size w w' := by
  obtain ⟨Z, HZ, hb⟩ := buildK
  have HB := Lib.hid hb
  have I64 : Hid ((Tryz.prog.info? 144).map (·.size) = some Z.size) := Lib.hid (by rw [HZ.out]; exact size_64 rfl)
  have O64 : Hid (64 = Z.size) := Lib.hid (by rw [HZ.out, List.size_toArray, W32_length]; rfl)
  have Z1 : Hid (Z.all (·.oneCell') = true) := Lib.hid (by rw [HZ.out]; exact W32_one _)
  clear hb
  go_enter Tryz.func108, Tryz.ntmps108
  go_wp2_with (first
      | refine wpList_build rfl 144 _ rfl (.agg Z) _ (by kernel_rfl) HB.out ?_
      | refine wpList_store_new rfl 144 _ _ rfl Z rfl rfl 144 _ I64.out O64.out Z1.out ?_)
  exact bodyPost_ret (results_cell_row rfl _ _ w.heap.size 144 Z (0, 0) _ rfl (heap_alloc_new w _) Tryz.underlying144 rfl I64.out) rfl ⟨by rw [HZ.out], (Below.refl _ _).alloc (Nat.le_refl _) _⟩
end Go.Proofs.YtcnelahmbfggcaaGreat

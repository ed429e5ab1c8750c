/- The walks of sha's exported functions. -/
import Derived.Test.YtcnelahmbfggcaaShaG
namespace Go.Proofs.Ytcnelahmbfggcaa
open Go Go.RowKit
set_option maxRecDepth 100000
set_option maxHeartbeats 1000000

theorem Write_nil (v : Value) (w : World) : Calls Try.prog 55 #[.pointer none, v] w fun e w' => e = .returned (.tuple #[]) ∧ w' = w := by
  go_enter Try.func55, Try.ntmps55
  go_wp2_with fail
  exact bodyPost_ret (results_none rfl _ _ _) rfl ⟨rfl, rfl⟩
/-- a hash variable of the call's own is written whole -/
theorem hash_store {w wx : World} (l : List UInt8) (hl : l.length = 32) (hb : Below (w.heap.size + 1) (w.alloc (.cells (Array.replicate 32 (.int .u8 0)) 23)) wx) :
    wx.heap[w.heap.size]? = some (.cells (Array.replicate 32 (.int .u8 0)) 23 (0, 0)) ∧ (Try.prog.info? 23).map (·.size) = some (B8 l).toArray.size ∧ (Array.replicate 32 (Value.int .u8 0)).size = (B8 l).toArray.size ∧
    (B8 l).toArray.all (·.oneCell') = true ∧ Below w.heap.size w (wx.setRow w.heap.size (B8 l).toArray) ∧ (wx.setRow w.heap.size (B8 l).toArray).heap[w.heap.size]? = some (.cells (B8 l).toArray 23 (0, 0)) := by
  have h1 : wx.heap[w.heap.size]? = some (.cells (Array.replicate 32 (.int .u8 0)) 23 (0, 0)) := (hb.block w.heap.size (by omega)).trans (heap_alloc_new w _)
  refine ⟨h1, by rw [info_32]; simp [B8_length, hl], by simp [B8_length, hl], Array.all_eq_true_iff_forall_mem.2 fun v hv => B8_one _ v (by simpa using hv), ⟨hb.os, hb.tape, hb.output, ?_, fun k hk => ?_⟩, setRow_heap _ _ _ _ _ _ h1⟩
  · have := hb.size; simp at this; simp; omega
  · rw [setRow_other _ _ _ _ (by omega), hb.block k (by omega), Below.heap_alloc _ _ k hk]

theorem Sum_any (v : Value) (l : List UInt8) (w : World) (hv : Sl w v l) (hl : l.length ≤ 100000000) :
    Calls Try.prog 51 #[v] w fun e w' => e = .returned (.agg (B8 (sha l)).toArray) ∧ Below w.heap.size w w' := by
  have HV := Lib.hid hv
  clear hv
  go_enter Try.func51, Try.ntmps51
  obtain ⟨W1, HW1⟩ : ∃ W1, Hid (W1 = w.alloc (.cells (Array.replicate 32 (.int .u8 0)) 23)) := ⟨_, Lib.hid rfl⟩
  have hs1 : W1.heap.size = w.heap.size + 1 := by rw [HW1.out]; simp
  have HS1 := Lib.hid hs1
  have HB1 : Hid (Below w.heap.size w W1) := Lib.hid (by rw [HW1.out]; exact (Below.refl _ _).alloc (Nat.le_refl _) _)
  clear hs1
  go_upto_region 1 with (fail)
  change Code.wp _ _ _ _ (w.alloc (.cells (Array.replicate 32 (.int .u8 0)) 23))
  rw [← HW1.out]
  go_wp2_with fail
  refine (New_any W1).mono ?_
  rintro e w1 ⟨p, rfl, hs, hb⟩
  have HS := Lib.hid hs
  have HB := Lib.hid hb
  clear hs hb
  go_wp2_with fail
  refine (Write_any p W1.heap.size [] l v w1 HS.out ((HV.out.later HB1.out).later HB.out) (by simpa using hl) HB.out.size).mono ?_
  rintro e w2 ⟨rfl, hs, hb⟩
  rw [List.nil_append] at hs
  have HS2 := Lib.hid hs
  have HB2 := Lib.hid (HB.out.trans hb)
  clear hs hb
  go_wp2_with fail
  refine (SSum_any p W1.heap.size l w2 HS2.out hl).mono ?_
  rintro e w3 ⟨rfl, hb⟩
  have h5 := hash_store (w := w) (sha l) (sha_length l) (by rw [← HW1.out, ← HS1.out]; exact HB2.out.trans (hb.mono HB2.out.size))
  obtain ⟨h1, h2, h3, h4, h5, h6⟩ := h5
  have K1 := Lib.hid h1
  have K2 := Lib.hid h2
  have K3 := Lib.hid h3
  have K4 := Lib.hid h4
  have K5 := Lib.hid h5
  have K6 := Lib.hid h6
  clear h1 h2 h3 h4 h5 h6 hb
  go_wp2_with (refine wpList_store_row rfl 23 _ _ rfl _ (B8 (sha l)).toArray rfl rfl 23 _ K1.out K2.out K3.out K4.out ?_)
  exact bodyPost_ret (results_cell_row rfl _ _ w.heap.size 23 _ (0, 0) _ rfl K6.out Try.underlying23 rfl K2.out) rfl ⟨rfl, K5.out⟩

theorem SSum_nil (w : World) : Calls Try.prog 56 #[.pointer none] w fun e w' => e = .returned (.agg (B8 (sha [])).toArray) ∧ Below w.heap.size w w' := by
  obtain ⟨W1, HW1⟩ : ∃ W1, Hid (W1 = w.alloc (.cells (Array.replicate 32 (.int .u8 0)) 23)) := ⟨_, Lib.hid rfl⟩
  have hs1 : W1.heap.size = w.heap.size + 1 := by rw [HW1.out]; simp
  have HS1 := Lib.hid hs1
  clear hs1
  go_enter Try.func56, Try.ntmps56
  go_upto_region 2 with (fail)
  change Code.wp _ _ _ _ (w.alloc (.cells (Array.replicate 32 (.int .u8 0)) 23))
  rw [← HW1.out]
  go_wp2_with fail
  refine (Sum_any _ [] W1 (.inl ⟨rfl, _, _, rfl⟩) (by simp)).mono ?_
  rintro e w3 ⟨rfl, hb⟩
  have h5 := hash_store (w := w) (sha []) (sha_length []) (by rw [← HW1.out, ← HS1.out]; exact hb)
  obtain ⟨h1, h2, h3, h4, h5, h6⟩ := h5
  have K1 := Lib.hid h1
  have K2 := Lib.hid h2
  have K3 := Lib.hid h3
  have K4 := Lib.hid h4
  have K5 := Lib.hid h5
  have K6 := Lib.hid h6
  clear h1 h2 h3 h4 h5 h6 hb
  go_wp2_with (refine wpList_store_row rfl 23 _ _ rfl _ (B8 (sha [])).toArray rfl rfl 23 _ K1.out K2.out K3.out K4.out ?_)
  exact bodyPost_ret (results_cell_row rfl _ _ w.heap.size 23 _ (0, 0) _ rfl K6.out Try.underlying23 rfl K2.out) rfl ⟨rfl, K5.out⟩

/-- a round word, or none -/
def roundV (i : Int) : Nat := if 0 ≤ i ∧ i < 64 then wn (K.getD i.toNat 0) else 0
def roundE (i : Int) : Int := if 0 ≤ i ∧ i < 64 then 0 else 1
/-- a schedule, or none -/
def schedV (l : List UInt8) : List UInt32 := if l.length = 64 then sched l else List.replicate 64 0
def err64 (l : List UInt8) : Int := if l.length = 64 then 0 else 1
theorem W32_zeros (n : Nat) : (W32 (List.replicate n 0)).toArray = Array.replicate n (.int .u32 0) := by
  apply Array.toList_inj.1
  simp [W32, wn]
theorem results_cell_row_tmp {P : Program} {fn : Func} {p u : Tmp} {ty : TypeId} (h : fn.results = #[.cell p ty, .tmp u]) (tmps : Array Value) (w : World) (g : Nat) (t : TypeId) (cs : Array Value) (fr : Nat × Nat) (d : TypeDesc)
    (hp : tmps.getD p undef = .pointer (some ⟨g, 0, none⟩)) (hg : w.heap[g]? = some (.cells cs t fr))
    (hu : P.underlying ty = some d) (hd : (match d with | .struct _ | .array _ _ => true | _ => false) = true) (hi : (P.info? ty).map (·.size) = some cs.size) :
    (results fn tmps).run P w = .ok (.tuple #[.agg cs, tmps.getD u undef]) w := by
  have hp' : tmps[p]?.getD undef = .pointer (some ⟨g, 0, none⟩) := by simpa using hp
  simp [results, h, hp', asAddr, run_loadVar_row w g t ty cs fr d hg hu hd hi]
/-- a row variable of the call's own is written whole -/
theorem row_store {w wx : World} {t : TypeId} (z c : Array Value) (hb : Below (w.heap.size + 1) (w.alloc (.cells z t)) wx) :
    wx.heap[w.heap.size]? = some (.cells z t (0, 0)) ∧ Below w.heap.size w (wx.setRow w.heap.size c) ∧ (wx.setRow w.heap.size c).heap[w.heap.size]? = some (.cells c t (0, 0)) := by
  have h1 : wx.heap[w.heap.size]? = some (.cells z t (0, 0)) := (hb.block w.heap.size (by omega)).trans (heap_alloc_new w _)
  refine ⟨h1, ⟨hb.os, hb.tape, hb.output, ?_, fun k hk => ?_⟩, setRow_heap _ _ _ _ _ _ h1⟩
  · have := hb.size; simp at this; simp; omega
  · rw [setRow_other _ _ _ _ (by omega), hb.block k (by omega), Below.heap_alloc _ _ k hk]

theorem wpList_build0 {P : Program} {ops : Array Oper} {rest : List Oper} {o : Oper} {a : Act} {w : World} {Q : Exit → Act → World → Prop} (hgd : o.guard = none) (t : TypeId) (ho : o.op = .build t #[]) (v : Value)
    (hb : ∀ w, (Instr.build t #[]).run P w = .ok v w) (h : wpList P ops Q rest (a.put o.dst v) w) : wpList P ops Q (o :: rest) a w := by
  refine wpList_plain hgd fun _ hK => ?_
  unfold Oper.wp execOp
  simp only [ho, Sem.run_bind]
  have h2 := hb w
  simp [h2]
  exact hK _ _ h
theorem zeros_one (n : Nat) : (Array.replicate n (Value.int .u32 0)).all (·.oneCell') = true := by rw [← W32_zeros]; exact W32_one _
theorem build64 : ∃ Z, Hid (Z = Array.replicate 64 (Value.int .u32 0)) ∧ ∀ w, (Instr.build 115 #[]).run Try.prog w = .ok (.agg Z) w := ⟨_, Lib.hid rfl, fun w => by kernel_rfl⟩
theorem build8 : ∃ Z, Hid (Z = Array.replicate 8 (Value.int .u32 0)) ∧ ∀ w, (Instr.build 105 #[]).run Try.prog w = .ok (.agg Z) w := ⟨_, Lib.hid rfl, fun w => by kernel_rfl⟩
def blockV (s : St) (l : List UInt8) : List UInt32 := if l.length = 64 then (comp s l).list else List.replicate 8 0
end Go.Proofs.Ytcnelahmbfggcaa

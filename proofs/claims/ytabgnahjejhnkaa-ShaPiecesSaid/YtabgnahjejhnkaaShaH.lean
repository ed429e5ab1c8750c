/- The walks of sha's exported functions. -/
import Derived.Test.YtabgnahjejhnkaaShaG
namespace Go.Proofs.Ytabgnahjejhnkaa
open Go Go.RowKit
set_option maxHeartbeats 1000000

theorem Long_any (p B : Nat) (l : List UInt8) (w : World) (hs : SumsAt w p B l) :
    Calls Try.prog 24 #[.pointer (some ⟨p, 0, none⟩)] w fun e w' => e = .returned (.int .i64 l.length) ∧ w' = w := by
  obtain ⟨lv, h1, h2, h3, h4⟩ := hs
  have c9 := row_9 h1
  clear h1 h2 h4
  go_enter Try.func24, Try.ntmps24
  go_wp2_with fail
  go_ret
  exact ⟨rfl, rfl⟩
theorem Long_nil (w : World) : Calls Try.prog 24 #[.pointer none] w fun e w' => e = .returned (.int .i64 0) ∧ w' = w := by
  go_enter Try.func24, Try.ntmps24
  go_wp2_with fail
  go_ret
  exact ⟨rfl, rfl⟩
theorem Write_nil (v : Value) (w : World) : Calls Try.prog 23 #[.pointer none, v] w fun e w' => e = .returned (.tuple #[]) ∧ w' = w := by
  go_enter Try.func23, Try.ntmps23
  go_wp2_with fail
  exact bodyPost_ret (results_none rfl _ _ _) rfl ⟨rfl, rfl⟩
/-- a hash variable of the call's own is written whole -/
theorem hash_store {w wx : World} (l : List UInt8) (hl : l.length = 32) (hb : Below (w.heap.size + 1) (w.alloc (.cells (Array.replicate 32 (.int .u8 0)) 29)) wx) :
    wx.heap[w.heap.size]? = some (.cells (Array.replicate 32 (.int .u8 0)) 29 (0, 0)) ∧ (Try.prog.info? 29).map (·.size) = some (B8 l).toArray.size ∧ (Array.replicate 32 (Value.int .u8 0)).size = (B8 l).toArray.size ∧
    (B8 l).toArray.all (·.oneCell') = true ∧ Below w.heap.size w (wx.setRow w.heap.size (B8 l).toArray) ∧ (wx.setRow w.heap.size (B8 l).toArray).heap[w.heap.size]? = some (.cells (B8 l).toArray 29 (0, 0)) := by
  have h1 : wx.heap[w.heap.size]? = some (.cells (Array.replicate 32 (.int .u8 0)) 29 (0, 0)) := (hb.block w.heap.size (by omega)).trans (heap_alloc_new w _)
  refine ⟨h1, by rw [info_32]; simp [B8_length, hl], by simp [B8_length, hl], Array.all_eq_true_iff_forall_mem.2 fun v hv => B8_one _ v (by simpa using hv), ⟨hb.os, hb.tape, hb.output, ?_, fun k hk => ?_⟩, setRow_heap _ _ _ _ _ _ h1⟩
  · have := hb.size; simp at this; simp; omega
  · rw [setRow_other _ _ _ _ (by omega), hb.block k (by omega), Below.heap_alloc _ _ k hk]

theorem Sum_any (v : Value) (l : List UInt8) (w : World) (hv : Sl w v l) (hl : l.length ≤ 100000000) :
    Calls Try.prog 18 #[v] w fun e w' => e = .returned (.agg (B8 (sha l)).toArray) ∧ Below w.heap.size w w' := by
  have HV := Lib.hid hv
  clear hv
  go_enter Try.func18, Try.ntmps18
  obtain ⟨W1, HW1⟩ : ∃ W1, Hid (W1 = w.alloc (.cells (Array.replicate 32 (.int .u8 0)) 29)) := ⟨_, Lib.hid rfl⟩
  have hs1 : W1.heap.size = w.heap.size + 1 := by rw [HW1.out]; simp
  have HS1 := Lib.hid hs1
  have HB1 : Hid (Below w.heap.size w W1) := Lib.hid (by rw [HW1.out]; exact (Below.refl _ _).alloc (Nat.le_refl _) _)
  clear hs1
  go_upto_region 1 with (fail)
  change Code.wp _ _ _ _ (w.alloc (.cells (Array.replicate 32 (.int .u8 0)) 29))
  rw [← HW1.out]
  go_wp2_with fail
  refine (New_any W1).mono ?_
  rintro e w1 ⟨p, rfl, hs, hb⟩
  have HS := Lib.hid hs
  have HB := Lib.hid hb
  clear hs hb
  go_wp2_with fail
  refine (Write_any p W1.heap.size [] l v w1 HS.out ((HV.out.later HB1.out).later HB.out) (by simpa using hl) HB.out.size).mono ?_
  rintro e w2 ⟨rfl, hs, hb⟩
  rw [List.nil_append] at hs
  have HS2 := Lib.hid hs
  have HB2 := Lib.hid (HB.out.trans hb)
  clear hs hb
  go_wp2_with fail
  refine (SSum_any p W1.heap.size l w2 HS2.out hl).mono ?_
  rintro e w3 ⟨rfl, hb⟩
  have h5 := hash_store (w := w) (sha l) (sha_length l) (by rw [← HW1.out, ← HS1.out]; exact HB2.out.trans (hb.mono HB2.out.size))
  obtain ⟨h1, h2, h3, h4, h5, h6⟩ := h5
  have K1 := Lib.hid h1
  have K2 := Lib.hid h2
  have K3 := Lib.hid h3
  have K4 := Lib.hid h4
  have K5 := Lib.hid h5
  have K6 := Lib.hid h6
  clear h1 h2 h3 h4 h5 h6 hb
  go_wp2_with (refine wpList_store_row rfl 29 _ _ rfl _ (B8 (sha l)).toArray rfl rfl 29 _ K1.out K2.out K3.out K4.out ?_)
  exact bodyPost_ret (results_cell_row rfl _ _ w.heap.size 29 _ (0, 0) _ rfl K6.out Try.underlying29 rfl K2.out) rfl ⟨rfl, K5.out⟩

theorem SSum_nil (w : World) : Calls Try.prog 25 #[.pointer none] w fun e w' => e = .returned (.agg (B8 (sha [])).toArray) ∧ Below w.heap.size w w' := by
  obtain ⟨W1, HW1⟩ : ∃ W1, Hid (W1 = w.alloc (.cells (Array.replicate 32 (.int .u8 0)) 29)) := ⟨_, Lib.hid rfl⟩
  have hs1 : W1.heap.size = w.heap.size + 1 := by rw [HW1.out]; simp
  have HS1 := Lib.hid hs1
  clear hs1
  go_enter Try.func25, Try.ntmps25
  go_upto_region 2 with (fail)
  change Code.wp _ _ _ _ (w.alloc (.cells (Array.replicate 32 (.int .u8 0)) 29))
  rw [← HW1.out]
  go_wp2_with fail
  refine (Sum_any _ [] W1 (.inl ⟨rfl, _, _, rfl⟩) (by simp)).mono ?_
  rintro e w3 ⟨rfl, hb⟩
  have h5 := hash_store (w := w) (sha []) (sha_length []) (by rw [← HW1.out, ← HS1.out]; exact hb)
  obtain ⟨h1, h2, h3, h4, h5, h6⟩ := h5
  have K1 := Lib.hid h1
  have K2 := Lib.hid h2
  have K3 := Lib.hid h3
  have K4 := Lib.hid h4
  have K5 := Lib.hid h5
  have K6 := Lib.hid h6
  clear h1 h2 h3 h4 h5 h6 hb
  go_wp2_with (refine wpList_store_row rfl 29 _ _ rfl _ (B8 (sha [])).toArray rfl rfl 29 _ K1.out K2.out K3.out K4.out ?_)
  exact bodyPost_ret (results_cell_row rfl _ _ w.heap.size 29 _ (0, 0) _ rfl K6.out Try.underlying29 rfl K2.out) rfl ⟨rfl, K5.out⟩

/-- a round word, or none -/
def roundV (i : Int) : Nat := if 0 ≤ i ∧ i < 64 then wn (K.getD i.toNat 0) else 0
def roundE (i : Int) : Int := if 0 ≤ i ∧ i < 64 then 0 else 1
theorem Round_any (i : Int) (w : World) : Calls Try.prog 20 #[.int .i64 i] w fun e w' => e = .returned (.tuple #[.int .u32 (roundV i), .int .i64 (roundE i)]) ∧ Below w.heap.size w w' := by
  by_cases h : 0 ≤ i ∧ i < 64
  · obtain ⟨k, rfl⟩ : ∃ k : Nat, i = k := ⟨i.toNat, by omega⟩
    have hk : k < 64 := by omega
    have HV : Hid (roundV k = wn (K.getD k 0)) := Lib.hid (by rw [roundV, if_pos h]; simp)
    have HE : Hid (roundE k = 0) := Lib.hid (by rw [roundE, if_pos h])
    have h1 : (0 : Int) ≤ k := by omega
    have h2 : (k : Int) < 64 := by omega
    clear h
    go_enter Try.func20, Try.ntmps20
    go_wp2_with fail
    refine (words_any w).mono ?_
    rintro e w2 ⟨c, HK, rfl, rfl⟩
    have hA : Arr (w.alloc (.cells c 45)) w.heap.size 45 K := by unfold Arr; rw [← HK.out]; exact heap_alloc_new w _
    have hc := hA.cell (i := k) (by simp [K]; omega)
    rw [← HV.out] at hc
    clear hA
    go_wp2_with fail
    go_ret2
    exact ⟨by rw [HE.out]; rfl, (Below.refl _ _).alloc (Nat.le_refl _) _⟩
  · have HV : Hid (roundV i = 0) := Lib.hid (by rw [roundV, if_neg h])
    have HE : Hid (roundE i = 1) := Lib.hid (by rw [roundE, if_neg h])
    go_enter Try.func20, Try.ntmps20
    by_cases h0 : i < 0
    · go_wp2_with fail
      go_ret2
      exact ⟨by rw [HV.out, HE.out]; rfl, Below.refl _ _⟩
    · have h2 : 64 ≤ i := by omega
      go_wp2_with fail
      go_ret2
      exact ⟨by rw [HV.out, HE.out]; rfl, Below.refl _ _⟩

/-- a schedule, or none -/
def schedV (l : List UInt8) : List UInt32 := if l.length = 64 then sched l else List.replicate 64 0
def err64 (l : List UInt8) : Int := if l.length = 64 then 0 else 1
theorem W32_zeros (n : Nat) : (W32 (List.replicate n 0)).toArray = Array.replicate n (.int .u32 0) := by
  apply Array.toList_inj.1
  simp [W32, wn]
theorem results_cell_row_tmp {P : Program} {fn : Func} {p u : Tmp} {ty : TypeId} (h : fn.results = #[.cell p ty, .tmp u]) (tmps : Array Value) (w : World) (g : Nat) (t : TypeId) (cs : Array Value) (fr : Nat × Nat) (d : TypeDesc)
    (hp : tmps.getD p undef = .pointer (some ⟨g, 0, none⟩)) (hg : w.heap[g]? = some (.cells cs t fr))
    (hu : P.underlying ty = some d) (hd : (match d with | .struct _ | .array _ _ => true | _ => false) = true) (hi : (P.info? ty).map (·.size) = some cs.size) :
    (results fn tmps).run P w = .ok (.tuple #[.agg cs, tmps.getD u undef]) w := by
  have hp' : tmps[p]?.getD undef = .pointer (some ⟨g, 0, none⟩) := by simpa using hp
  simp [results, h, hp', asAddr, run_loadVar_row w g t ty cs fr d hg hu hd hi]
/-- a row variable of the call's own is written whole -/
theorem row_store {w wx : World} {t : TypeId} (z c : Array Value) (hb : Below (w.heap.size + 1) (w.alloc (.cells z t)) wx) :
    wx.heap[w.heap.size]? = some (.cells z t (0, 0)) ∧ Below w.heap.size w (wx.setRow w.heap.size c) ∧ (wx.setRow w.heap.size c).heap[w.heap.size]? = some (.cells c t (0, 0)) := by
  have h1 : wx.heap[w.heap.size]? = some (.cells z t (0, 0)) := (hb.block w.heap.size (by omega)).trans (heap_alloc_new w _)
  refine ⟨h1, ⟨hb.os, hb.tape, hb.output, ?_, fun k hk => ?_⟩, setRow_heap _ _ _ _ _ _ h1⟩
  · have := hb.size; simp at this; simp; omega
  · rw [setRow_other _ _ _ _ (by omega), hb.block k (by omega), Below.heap_alloc _ _ k hk]

theorem wpList_build0 {P : Program} {ops : Array Oper} {rest : List Oper} {o : Oper} {a : Act} {w : World} {Q : Exit → Act → World → Prop} (hgd : o.guard = none) (t : TypeId) (ho : o.op = .build t #[]) (v : Value)
    (hb : ∀ w, (Instr.build t #[]).run P w = .ok v w) (h : wpList P ops Q rest (a.put o.dst v) w) : wpList P ops Q (o :: rest) a w := by
  refine wpList_plain hgd fun _ hK => ?_
  unfold Oper.wp execOp
  simp only [ho, Sem.run_bind]
  have h2 := hb w
  simp [h2]
  exact hK _ _ h
theorem zeros_one (n : Nat) : (Array.replicate n (Value.int .u32 0)).all (·.oneCell') = true := by rw [← W32_zeros]; exact W32_one _
theorem build64 : ∃ Z, Hid (Z = Array.replicate 64 (Value.int .u32 0)) ∧ ∀ w, (Instr.build 45 #[]).run Try.prog w = .ok (.agg Z) w := ⟨_, Lib.hid rfl, fun w => by kernel_rfl⟩
theorem build8 : ∃ Z, Hid (Z = Array.replicate 8 (Value.int .u32 0)) ∧ ∀ w, (Instr.build 44 #[]).run Try.prog w = .ok (.agg Z) w := ⟨_, Lib.hid rfl, fun w => by kernel_rfl⟩
theorem Schedule_bad (av : Option Addr) (cv : Nat) (l : List UInt8) (w : World) (h : ¬ l.length = 64) : Calls Try.prog 26 #[.slice av l.length cv] w fun e w' => e = .returned (.tuple #[.agg (W32 (schedV l)).toArray, .int .i64 (err64 l)]) ∧ Below w.heap.size w w' := by
  have HV : Hid (schedV l = List.replicate 64 0) := Lib.hid (by rw [schedV, if_neg h])
  have HE : Hid (err64 l = 1) := Lib.hid (by rw [err64, if_neg h])
  have hi : ¬ (l.length : Int) = 64 := by omega
  go_enter Try.func26, Try.ntmps26
  obtain ⟨Z, HZ, hb⟩ := build64
  have HB := Lib.hid hb
  have H1 : Hid ((Try.prog.info? 45).map (·.size) = some Z.size) := Lib.hid (by rw [info_64, HZ.out]; simp)
  have H2 : Hid ((Array.replicate 64 (Value.int .u32 0)).size = Z.size) := Lib.hid (by rw [HZ.out])
  have H3 : Hid (Z.all (·.oneCell') = true) := Lib.hid (by rw [HZ.out]; exact zeros_one 64)
  obtain ⟨W1, HW1⟩ : ∃ W1, Hid (W1 = w.alloc (.cells (Array.replicate 64 (.int .u32 0)) 45)) := ⟨_, Lib.hid rfl⟩
  have h3 := row_store (w := w) (wx := W1) (t := 45) (Array.replicate 64 (.int .u32 0)) Z (by rw [HW1.out]; exact Below.refl _ _)
  have HH := Lib.hid h3.1
  have HBE := Lib.hid h3.2.1
  have HRE := Lib.hid h3.2.2
  clear hb h3
  go_upto_region 2 with (fail)
  change Code.wp _ _ _ _ (w.alloc (.cells (Array.replicate 64 (.int .u32 0)) 45))
  rw [← HW1.out]
  go_wp2_with (first
    | refine wpList_build0 rfl 45 rfl (.agg Z) HB.out ?_
    | refine wpList_store_row rfl 45 _ _ rfl _ Z rfl rfl 45 _ HH.out H1.out H2.out H3.out ?_)
  exact bodyPost_ret (results_cell_row_tmp rfl _ _ w.heap.size 45 Z (0, 0) _ rfl HRE.out Try.underlying45 rfl H1.out) rfl ⟨by rw [HV.out, HE.out, W32_zeros, ← HZ.out]; rfl, HBE.out⟩

theorem Schedule_any (v : Value) (l : List UInt8) (w : World) (hv : Sl w v l) : Calls Try.prog 26 #[v] w fun e w' => e = .returned (.tuple #[.agg (W32 (schedV l)).toArray, .int .i64 (err64 l)]) ∧ Below w.heap.size w w' := by
  obtain ⟨av, cv, rfl⟩ : ∃ a cap, v = .slice a l.length cap := by
    rcases hv with ⟨rfl, a, c, rfl⟩ | ⟨b, off, cap, rfl, _⟩
    · exact ⟨a, c, rfl⟩
    · exact ⟨_, cap, rfl⟩
  obtain ⟨W1, HW1⟩ : ∃ W1, Hid (W1 = w.alloc (.cells (Array.replicate 64 (.int .u32 0)) 45)) := ⟨_, Lib.hid rfl⟩
  by_cases h : l.length = 64
  · have HV : Hid (schedV l = sched l) := Lib.hid (by rw [schedV, if_pos h])
    have HE : Hid (err64 l = 0) := Lib.hid (by rw [err64, if_pos h])
    have hs1 : W1.heap.size = w.heap.size + 1 := by rw [HW1.out]; simp
    rcases hv with ⟨rfl, _⟩ | ⟨b, off, cap, he, h0, h1, h2, hc⟩
    · simp at h
    cases he
    have hblt : b < w.heap.size := World.block_lt_of_cell? _ _ (hc 0 (by omega))
    have hb1 : Below w.heap.size w W1 := by rw [HW1.out]; exact (Below.refl _ _).alloc (Nat.le_refl _) _
    have HC : Hid (∀ i (h : i < l.length), W1.cell? ⟨b, off + i, none⟩ = some (.int .u8 (bn l[i]))) := Lib.hid fun i hi => (hb1.cell hblt).trans (hc i hi)
    have HS1 := Lib.hid hs1
    have HL := Lib.hid h
    have HCAP : Hid (64 ≤ cv ∧ cv ≤ maxLen) := Lib.hid ⟨by omega, h2⟩
    have HLS : Hid ((sched l).length = 64) := Lib.hid (by simp [sched, schedTo_length])
    have HZ := Lib.hid (size_64 (l := sched l) HLS.out)
    have HSZ : Hid ((Array.replicate 64 (Value.int .u32 0)).size = (W32 (sched l)).toArray.size) := Lib.hid (by rw [Array.size_replicate, List.size_toArray, W32_length, HLS.out])
    rw [h]
    clear hc hb1 hs1 h h0 h1
    go_enter Try.func26, Try.ntmps26
    go_upto_region 1 with (fail)
    change Code.wp _ _ _ _ (w.alloc (.cells (Array.replicate 64 (.int .u32 0)) 45))
    rw [← HW1.out]
    go_wp2_with fail
    refine (schedule_any b off cv l _ HL.out HCAP.out HC.out).mono ?_
    rintro e w2 ⟨rfl, hb⟩
    have h3 := row_store (w := w) (t := 45) _ (W32 (sched l)).toArray (by rw [← HW1.out, ← HS1.out]; exact hb)
    have HH := Lib.hid h3.1
    have HBE := Lib.hid h3.2.1
    have HRE := Lib.hid h3.2.2
    clear hb h3
    go_wp2_with (refine wpList_store_row rfl 45 _ _ rfl _ (W32 (sched l)).toArray rfl rfl 45 _ HH.out HZ.out HSZ.out (W32_one _) ?_)
    exact bodyPost_ret (results_cell_row_tmp rfl _ _ w.heap.size 45 _ (0, 0) _ rfl HRE.out Try.underlying45 rfl HZ.out) rfl ⟨by rw [HV.out, HE.out]; rfl, HBE.out⟩
  · exact Schedule_bad av cv l w h

def blockV (s : St) (l : List UInt8) : List UInt32 := if l.length = 64 then (comp s l).list else List.replicate 8 0
theorem Block_bad (av : Option Addr) (cv : Nat) (s : St) (l : List UInt8) (w : World) (h : ¬ l.length = 64) : Calls Try.prog 28 #[.agg (W32 s.list).toArray, .slice av l.length cv] w fun e w' => e = .returned (.tuple #[.agg (W32 (blockV s l)).toArray, .int .i64 (err64 l)]) ∧ Below w.heap.size w w' := by
  have HV : Hid (blockV s l = List.replicate 8 0) := Lib.hid (by rw [blockV, if_neg h])
  have HE : Hid (err64 l = 1) := Lib.hid (by rw [err64, if_neg h])
  have hi : ¬ (l.length : Int) = 64 := by omega
  obtain ⟨Z, HZ, hb⟩ := build8
  have HB := Lib.hid hb
  have H1 : Hid ((Try.prog.info? 44).map (·.size) = some Z.size) := Lib.hid (by rw [info_8, HZ.out]; simp)
  have H2 : Hid ((Array.replicate 8 (Value.int .u32 0)).size = Z.size) := Lib.hid (by rw [HZ.out])
  have H3 : Hid (Z.all (·.oneCell') = true) := Lib.hid (by rw [HZ.out]; exact zeros_one 8)
  obtain ⟨W0, HW0, HS0, HB0⟩ : ∃ W0, Hid (W0 = w.alloc (.cells (W32 s.list).toArray 44)) ∧ Hid (W0.heap.size = w.heap.size + 1) ∧ Hid (Below w.heap.size w W0) := ⟨_, Lib.hid rfl, Lib.hid (by simp), Lib.hid ((Below.refl _ _).alloc (Nat.le_refl _) _)⟩
  obtain ⟨W1, HW1⟩ : ∃ W1, Hid (W1 = W0.alloc (.cells (Array.replicate 8 (.int .u32 0)) 44)) := ⟨_, Lib.hid rfl⟩
  have h3 := row_store (w := W0) (wx := W1) (t := 44) (Array.replicate 8 (.int .u32 0)) Z (by rw [HW1.out]; exact Below.refl _ _)
  have HH := Lib.hid h3.1
  have HBE := Lib.hid (HB0.out.trans (h3.2.1.mono HB0.out.size))
  have HRE := Lib.hid h3.2.2
  clear hb h3
  go_enter Try.func28, Try.ntmps28
  go_upto_region 1 with (fail)
  change Code.wp _ _ _ _ ((w.alloc (.cells (W32 s.list).toArray 44)).alloc (.cells (Array.replicate 8 (.int .u32 0)) 44))
  rw [← HW0.out, ← HW1.out, ← HS0.out]
  go_wp2_with (first
    | refine wpList_build0 rfl 44 rfl (.agg Z) HB.out ?_
    | refine wpList_store_row rfl 44 _ _ rfl _ Z rfl rfl 44 _ HH.out H1.out H2.out H3.out ?_)
  exact bodyPost_ret (results_cell_row_tmp rfl _ _ W0.heap.size 44 Z (0, 0) _ rfl HRE.out Try.underlying44 rfl H1.out) rfl ⟨by rw [HV.out, HE.out, W32_zeros, ← HZ.out]; rfl, HBE.out⟩

theorem Block_any (v : Value) (s : St) (l : List UInt8) (w : World) (hv : Sl w v l) : Calls Try.prog 28 #[.agg (W32 s.list).toArray, v] w fun e w' => e = .returned (.tuple #[.agg (W32 (blockV s l)).toArray, .int .i64 (err64 l)]) ∧ Below w.heap.size w w' := by
  by_cases h : l.length = 64
  · rcases hv with ⟨rfl, _⟩ | ⟨b, off, cap, rfl, h0, h1, h2, hc⟩
    · simp at h
    have HV : Hid (blockV s l = (comp s l).list) := Lib.hid (by rw [blockV, if_pos h])
    have HE : Hid (err64 l = 0) := Lib.hid (by rw [err64, if_pos h])
    have hblt : b < w.heap.size := World.block_lt_of_cell? _ _ (hc 0 (by omega))
    obtain ⟨W0, HW0, HS0, HB0⟩ : ∃ W0, Hid (W0 = w.alloc (.cells (W32 s.list).toArray 44)) ∧ Hid (W0.heap.size = w.heap.size + 1) ∧ Hid (Below w.heap.size w W0) := ⟨_, Lib.hid rfl, Lib.hid (by simp), Lib.hid ((Below.refl _ _).alloc (Nat.le_refl _) _)⟩
    obtain ⟨W1, HW1, HB1⟩ : ∃ W1, Hid (W1 = W0.alloc (.cells (Array.replicate 8 (.int .u32 0)) 44)) ∧ Hid (Below W0.heap.size W0 W1) := ⟨_, Lib.hid rfl, Lib.hid ((Below.refl _ _).alloc (Nat.le_refl _) _)⟩
    have hs0 := HS0.out
    have HST : Hid (W1.heap[w.heap.size]? = some (.cells (W32 s.list ++ []).toArray 44 (0, 0))) := Lib.hid ((HB1.out.block w.heap.size (by omega)).trans (by rw [HW0.out, List.append_nil]; exact heap_alloc_new w _))
    have HZR : Hid (W1.heap[W0.heap.size]? = some (.cells (Array.replicate 8 (.int .u32 0)) 44 (0, 0))) := Lib.hid (by rw [HW1.out]; exact heap_alloc_new W0 _)
    have HC : Hid (∀ i (h : i < l.length), W1.cell? ⟨b, off + i, none⟩ = some (.int .u8 (bn l[i]))) := Lib.hid fun i hi => ((HB0.out.trans (HB1.out.mono (by omega))).cell hblt).trans (hc i hi)
    have HL := Lib.hid h
    have HCAP : Hid (64 ≤ cap ∧ cap ≤ maxLen) := Lib.hid ⟨by omega, h2⟩
    have S8 := Lib.hid (size_8 (l := (comp s l).list) rfl)
    have S8' : Hid ((Try.prog.info? 44).map (·.size) = some (W32 (comp s l).list).length) := Lib.hid (by rw [S8.out]; simp)
    have SZ : Hid ((Array.replicate 8 (Value.int .u32 0)).size = (W32 (comp s l).list).toArray.size) := Lib.hid (by rw [Array.size_replicate, List.size_toArray]; rfl)
    rw [h]
    clear hc h h0 h1 hs0
    go_enter Try.func28, Try.ntmps28
    go_upto_region 1 with (fail)
    change Code.wp _ _ _ _ ((w.alloc (.cells (W32 s.list).toArray 44)).alloc (.cells (Array.replicate 8 (.int .u32 0)) 44))
    rw [← HW0.out, ← HW1.out, ← HS0.out]
    go_wp2_with fail
    refine (block_any w.heap.size b off cap s [] 44 l W1 HL.out HCAP.out HC.out HST.out).mono ?_
    rintro e w2 ⟨rfl, hrow, hg⟩
    have R0 := Lib.hid (row_range hrow)
    have HZ2 : Hid (w2.heap[W0.heap.size]? = some (.cells (Array.replicate 8 (.int .u32 0)) 44 (0, 0))) := Lib.hid ((hg.block W0.heap.size (Array.getElem?_eq_some_iff.1 HZR.out).1 (by have := HS0.out; simp; omega)).trans HZR.out)
    have HBE : Hid (Below w.heap.size w (w2.setRow W0.heap.size (W32 (comp s l).list).toArray)) := Lib.hid (by
      have e1 := HS0.out
      have h1 := HB0.out.trans (HB1.out.mono (by omega))
      refine ⟨hg.os.trans h1.os, hg.tape.trans h1.tape, hg.output.trans h1.output, by simpa using Nat.le_trans h1.size hg.size, fun k hk => ?_⟩
      rw [setRow_other _ _ _ _ (by omega), hg.block k (Nat.lt_of_lt_of_le hk h1.size) (by simp; omega)]
      exact h1.block k hk)
    have HRE : Hid ((w2.setRow W0.heap.size (W32 (comp s l).list).toArray).heap[W0.heap.size]? = some (.cells (W32 (comp s l).list).toArray 44 (0, 0))) := Lib.hid (setRow_heap _ _ _ _ _ _ HZ2.out)
    clear hrow hg
    go_wp2_with (first
      | refine wpList_load_mid rfl 44 _ rfl w.heap.size 0 rfl (W32 (comp s l).list) _ R0.out Try.underlying44 rfl S8'.out ?_
      | refine wpList_store_row rfl 44 _ _ rfl _ (W32 (comp s l).list).toArray rfl rfl 44 _ HZ2.out S8.out SZ.out (W32_one _) ?_)
    exact bodyPost_ret (results_cell_row_tmp rfl _ _ W0.heap.size 44 _ (0, 0) _ rfl HRE.out Try.underlying44 rfl S8.out) rfl ⟨by rw [HV.out, HE.out]; rfl, HBE.out⟩
  · obtain ⟨av, cv, rfl⟩ : ∃ a cap, v = .slice a l.length cap := by
      rcases hv with ⟨rfl, a, c, rfl⟩ | ⟨b, off, cap, rfl, _⟩
      · exact ⟨a, c, rfl⟩
      · exact ⟨_, cap, rfl⟩
    exact Block_bad av cv s l w h
end Go.Proofs.Ytabgnahjejhnkaa

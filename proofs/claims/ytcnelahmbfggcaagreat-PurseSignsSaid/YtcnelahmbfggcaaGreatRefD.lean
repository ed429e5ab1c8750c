/- The walk of the document's Sum. -/
import Derived.Test.YtcnelahmbfggcaaGreatRefB
import Derived.Test.YtcnelahmbfggcaaGreatRefC
import Derived.Deep.LoopGhost
import Derived.Lib.SlBytesRow
import Derived.Test.YtcnelahmbfggcaaGreatArr8
import Derived.Deep.RegionLaw
namespace Go.Proofs.YtcnelahmbfggcaaGreat
open Go Go.RowKit
set_option maxRecDepth 100000
set_option maxHeartbeats 1000000

theorem own_none (w : World) : Own8 (w.alloc (.cells #[] 5)) w.heap.size (.slice (some ⟨w.heap.size, 0, none⟩) 0 0) [] :=
  ⟨rfl, .inr ⟨w.heap.size, 0, 0, _, rfl, Nat.le_refl _, heap_alloc_new w _, by simp, by simp [maxLen], by simp, fun j hj => by simp [B8] at hj⟩⟩
theorem build32 : ∃ Z, Hid (Z = (B8 (List.replicate 32 0)).toArray) ∧ ∀ w, (Instr.build 23 #[]).run Tryz.prog w = .ok (.agg Z) w := ⟨_, Lib.hid rfl, fun w => by kernel_rfl⟩
theorem buildInit : ∃ Z, Hid (Z = (W32 init.list).toArray) ∧ ∀ w, (Instr.build 131 ((init.list.mapIdx fun i x => (i, Value.int .u32 (wn x))).toArray)).run Tryz.prog w = .ok (.agg Z) w := ⟨_, Lib.hid rfl, fun w => by kernel_rfl⟩

theorem step_of_wp {P : Program} {ops : Array Oper} {o : Oper} {a : Act} {w : World} {K : Act → World → Prop} {Q : Exit → Act → World → Prop} {E : Prop} (hgd : o.guard = none) (h : Oper.wp P o a w K Q) :
    if Region.wanted o (yielded ops a.tmps) = true then Oper.wp P o a w K Q else E := by
  have hw : Region.wanted o (yielded ops a.tmps) = true := by simp [Region.wanted, hgd]
  rw [if_pos hw]
  exact h
theorem step_load_row {P : Program} {ops : Array Oper} {o : Oper} {a : Act} {w : World} {K : Act → World → Prop} {Q : Exit → Act → World → Prop} {E : Prop} (hgd : o.guard = none) (ty : TypeId) (x : Operand) (ho : o.op = .load ty x)
    (g : Nat) (hx : a.eval x = .pointer (some ⟨g, 0, none⟩)) (t : TypeId) (cs : Array Value) (fr : Nat × Nat) (d : TypeDesc) (hg : w.heap[g]? = some (.cells cs t fr))
    (hu : P.underlying ty = some d) (hd : (match d with | .struct _ | .array _ _ => true | _ => false) = true) (hi : (P.info? ty).map (·.size) = some cs.size)
    (h : K (a.put o.dst (.agg cs)) w) : if Region.wanted o (yielded ops a.tmps) = true then Oper.wp P o a w K Q else E :=
  step_of_wp hgd (wp_load_row ty x ho g hx t cs fr d hg hu hd hi h)
theorem step_store_row {P : Program} {ops : Array Oper} {o : Oper} {a : Act} {w : World} {K : Act → World → Prop} {Q : Exit → Act → World → Prop} {E : Prop} (hgd : o.guard = none) (ty : TypeId) (x y : Operand) (ho : o.op = .store ty x y)
    (g : Nat) (cells : Array Value) (hx : a.eval x = .pointer (some ⟨g, 0, none⟩)) (hy : a.eval y = .agg cells)
    (t : TypeId) (old : Array Value) (hg : w.heap[g]? = some (.cells old t (0, 0))) (hi : (P.info? ty).map (·.size) = some cells.size)
    (hold : old.size = cells.size) (h1 : cells.all (·.oneCell') = true)
    (h : K (a.put o.dst undef) (w.setRow g cells)) : if Region.wanted o (yielded ops a.tmps) = true then Oper.wp P o a w K Q else E :=
  step_of_wp hgd (wp_store_row ty x y ho g cells hx hy t old hg hi hold h1 h)

theorem zrow {w : World} {b : Nat} {t : TypeId} (h : w.heap[b]? = some (.cells #[.int .u32 0, .int .u32 0, .int .u32 0, .int .u32 0, .int .u32 0, .int .u32 0, .int .u32 0, .int .u32 0] t (0, 0))) :
    (w.cell? ⟨b, 0, none⟩ = some (.int .u32 0) ∧ w.cell? ⟨b, 1, none⟩ = some (.int .u32 0) ∧ w.cell? ⟨b, 2, none⟩ = some (.int .u32 0) ∧ w.cell? ⟨b, 3, none⟩ = some (.int .u32 0) ∧ w.cell? ⟨b, 4, none⟩ = some (.int .u32 0) ∧ w.cell? ⟨b, 5, none⟩ = some (.int .u32 0) ∧ w.cell? ⟨b, 6, none⟩ = some (.int .u32 0) ∧ w.cell? ⟨b, 7, none⟩ = some (.int .u32 0)) ∧ (w.frozen? ⟨b, 0, none⟩ = false ∧ w.frozen? ⟨b, 1, none⟩ = false ∧ w.frozen? ⟨b, 2, none⟩ = false ∧ w.frozen? ⟨b, 3, none⟩ = false ∧ w.frozen? ⟨b, 4, none⟩ = false ∧ w.frozen? ⟨b, 5, none⟩ = false ∧ w.frozen? ⟨b, 6, none⟩ = false ∧ w.frozen? ⟨b, 7, none⟩ = false) :=
  ⟨⟨cell_of_row w b 0 _ _ (0, 0) h, cell_of_row w b 1 _ _ (0, 0) h, cell_of_row w b 2 _ _ (0, 0) h, cell_of_row w b 3 _ _ (0, 0) h, cell_of_row w b 4 _ _ (0, 0) h, cell_of_row w b 5 _ _ (0, 0) h, cell_of_row w b 6 _ _ (0, 0) h, cell_of_row w b 7 _ _ (0, 0) h⟩, ⟨frozen_of_row w b 0 _ _ h, frozen_of_row w b 1 _ _ h, frozen_of_row w b 2 _ _ h, frozen_of_row w b 3 _ _ h, frozen_of_row w b 4 _ _ h, frozen_of_row w b 5 _ _ h, frozen_of_row w b 6 _ _ h, frozen_of_row w b 7 _ _ h⟩⟩
theorem set8 {w : World} {b B : Nat} {t : TypeId} (hb : B ≤ b) (h0 : w.heap[b]? = some (.cells #[.int .u32 0, .int .u32 0, .int .u32 0, .int .u32 0, .int .u32 0, .int .u32 0, .int .u32 0, .int .u32 0] t (0, 0))) (x0 x1 x2 x3 x4 x5 x6 x7 : Value) :
    ((((((((w.setCell ⟨b, 0, none⟩ x0).setCell ⟨b, 1, none⟩ x1).setCell ⟨b, 2, none⟩ x2).setCell ⟨b, 3, none⟩ x3).setCell ⟨b, 4, none⟩ x4).setCell ⟨b, 5, none⟩ x5).setCell ⟨b, 6, none⟩ x6).setCell ⟨b, 7, none⟩ x7).heap[b]? = some (.cells #[x0, x1, x2, x3, x4, x5, x6, x7] t (0, 0)) ∧ Below B w ((((((((w.setCell ⟨b, 0, none⟩ x0).setCell ⟨b, 1, none⟩ x1).setCell ⟨b, 2, none⟩ x2).setCell ⟨b, 3, none⟩ x3).setCell ⟨b, 4, none⟩ x4).setCell ⟨b, 5, none⟩ x5).setCell ⟨b, 6, none⟩ x6).setCell ⟨b, 7, none⟩ x7) := by
  have h1 : (w.setCell ⟨b, 0, none⟩ x0).heap[b]? = some (.cells #[x0, .int .u32 0, .int .u32 0, .int .u32 0, .int .u32 0, .int .u32 0, .int .u32 0, .int .u32 0] t (0, 0)) := heap_setCell_same w b 0 _ t x0 h0
  have h2 : ((w.setCell ⟨b, 0, none⟩ x0).setCell ⟨b, 1, none⟩ x1).heap[b]? = some (.cells #[x0, x1, .int .u32 0, .int .u32 0, .int .u32 0, .int .u32 0, .int .u32 0, .int .u32 0] t (0, 0)) := heap_setCell_same (w.setCell ⟨b, 0, none⟩ x0) b 1 _ t x1 h1
  have h3 : (((w.setCell ⟨b, 0, none⟩ x0).setCell ⟨b, 1, none⟩ x1).setCell ⟨b, 2, none⟩ x2).heap[b]? = some (.cells #[x0, x1, x2, .int .u32 0, .int .u32 0, .int .u32 0, .int .u32 0, .int .u32 0] t (0, 0)) := heap_setCell_same ((w.setCell ⟨b, 0, none⟩ x0).setCell ⟨b, 1, none⟩ x1) b 2 _ t x2 h2
  have h4 : ((((w.setCell ⟨b, 0, none⟩ x0).setCell ⟨b, 1, none⟩ x1).setCell ⟨b, 2, none⟩ x2).setCell ⟨b, 3, none⟩ x3).heap[b]? = some (.cells #[x0, x1, x2, x3, .int .u32 0, .int .u32 0, .int .u32 0, .int .u32 0] t (0, 0)) := heap_setCell_same (((w.setCell ⟨b, 0, none⟩ x0).setCell ⟨b, 1, none⟩ x1).setCell ⟨b, 2, none⟩ x2) b 3 _ t x3 h3
  have h5 : (((((w.setCell ⟨b, 0, none⟩ x0).setCell ⟨b, 1, none⟩ x1).setCell ⟨b, 2, none⟩ x2).setCell ⟨b, 3, none⟩ x3).setCell ⟨b, 4, none⟩ x4).heap[b]? = some (.cells #[x0, x1, x2, x3, x4, .int .u32 0, .int .u32 0, .int .u32 0] t (0, 0)) := heap_setCell_same ((((w.setCell ⟨b, 0, none⟩ x0).setCell ⟨b, 1, none⟩ x1).setCell ⟨b, 2, none⟩ x2).setCell ⟨b, 3, none⟩ x3) b 4 _ t x4 h4
  have h6 : ((((((w.setCell ⟨b, 0, none⟩ x0).setCell ⟨b, 1, none⟩ x1).setCell ⟨b, 2, none⟩ x2).setCell ⟨b, 3, none⟩ x3).setCell ⟨b, 4, none⟩ x4).setCell ⟨b, 5, none⟩ x5).heap[b]? = some (.cells #[x0, x1, x2, x3, x4, x5, .int .u32 0, .int .u32 0] t (0, 0)) := heap_setCell_same (((((w.setCell ⟨b, 0, none⟩ x0).setCell ⟨b, 1, none⟩ x1).setCell ⟨b, 2, none⟩ x2).setCell ⟨b, 3, none⟩ x3).setCell ⟨b, 4, none⟩ x4) b 5 _ t x5 h5
  have h7 : (((((((w.setCell ⟨b, 0, none⟩ x0).setCell ⟨b, 1, none⟩ x1).setCell ⟨b, 2, none⟩ x2).setCell ⟨b, 3, none⟩ x3).setCell ⟨b, 4, none⟩ x4).setCell ⟨b, 5, none⟩ x5).setCell ⟨b, 6, none⟩ x6).heap[b]? = some (.cells #[x0, x1, x2, x3, x4, x5, x6, .int .u32 0] t (0, 0)) := heap_setCell_same ((((((w.setCell ⟨b, 0, none⟩ x0).setCell ⟨b, 1, none⟩ x1).setCell ⟨b, 2, none⟩ x2).setCell ⟨b, 3, none⟩ x3).setCell ⟨b, 4, none⟩ x4).setCell ⟨b, 5, none⟩ x5) b 6 _ t x6 h6
  have h8 : ((((((((w.setCell ⟨b, 0, none⟩ x0).setCell ⟨b, 1, none⟩ x1).setCell ⟨b, 2, none⟩ x2).setCell ⟨b, 3, none⟩ x3).setCell ⟨b, 4, none⟩ x4).setCell ⟨b, 5, none⟩ x5).setCell ⟨b, 6, none⟩ x6).setCell ⟨b, 7, none⟩ x7).heap[b]? = some (.cells #[x0, x1, x2, x3, x4, x5, x6, x7] t (0, 0)) := heap_setCell_same (((((((w.setCell ⟨b, 0, none⟩ x0).setCell ⟨b, 1, none⟩ x1).setCell ⟨b, 2, none⟩ x2).setCell ⟨b, 3, none⟩ x3).setCell ⟨b, 4, none⟩ x4).setCell ⟨b, 5, none⟩ x5).setCell ⟨b, 6, none⟩ x6) b 7 _ t x7 h7
  exact ⟨h8, ((((((((Below.refl _ _).setCell hb _).setCell hb _).setCell hb _).setCell hb _).setCell hb _).setCell hb _).setCell hb _).setCell hb _⟩
/-- Block at a whole block, the state written out -/
theorem size_u8 (w : World) : (Go.sizeOf 5).run Tryz.prog w = .ok 1 w := by
  obtain ⟨i0, hi, hz0, hz1, hz2⟩ := info_parts info_u8
  simp [sizeOf, typeInfo, hi, hz1]
theorem slice_64 (g off n c x : Nat) (hx : x + 64 ≤ c) (W : World) : (Instr.slice 28 (.slice (some ⟨g, off, none⟩) n c) (some (.int .i64 (x : Int))) (some (.int .i64 ((x : Int) + 64))) none).run Tryz.prog W = .ok (.slice (some ⟨g, off + x, none⟩) 64 (c - x)) W := by
  have h := Lib.run_slice_window (P := Tryz.prog) W 28 5 Tryz.underlying28 size_u8 g off n c x (x + 64) (by omega) hx
  rw [show x + 64 - x = 64 by omega] at h
  exact h
theorem Block_flat (v : Value) (a b c d e f g h : UInt32) (l : List UInt8) (w : World) (hv : Sl w v l) (hl : l.length = 64) :
    Calls Tryz.prog 96 #[.agg #[.int .u32 (wn a), .int .u32 (wn b), .int .u32 (wn c), .int .u32 (wn d), .int .u32 (wn e), .int .u32 (wn f), .int .u32 (wn g), .int .u32 (wn h)], v] w fun ee w' => ∃ a' b' c' d' e' f' g' h' : UInt32,
      Hid (comp ⟨a, b, c, d, e, f, g, h⟩ l = ⟨a', b', c', d', e', f', g', h'⟩) ∧ ee = .returned (.tuple #[.agg #[.int .u32 (wn a'), .int .u32 (wn b'), .int .u32 (wn c'), .int .u32 (wn d'), .int .u32 (wn e'), .int .u32 (wn f'), .int .u32 (wn g'), .int .u32 (wn h')], .int .i64 0]) ∧ Below w.heap.size w w' := by
  refine (Block_ref v ⟨a, b, c, d, e, f, g, h⟩ l w hv).mono ?_
  rintro ee w' ⟨rfl, hb⟩
  have h1 : blockV ⟨a, b, c, d, e, f, g, h⟩ l = (comp ⟨a, b, c, d, e, f, g, h⟩ l).list := by rw [blockV, if_pos hl]
  have h2 : err64 l = 0 := by rw [err64, if_pos hl]
  rw [h1, h2]
  obtain ⟨q, hq⟩ : ∃ q, q = comp ⟨a, b, c, d, e, f, g, h⟩ l := ⟨_, rfl⟩
  rw [← hq]
  obtain ⟨a', b', c', d', e', f', g', h'⟩ := q
  exact ⟨a', b', c', d', e', f', g', h', Lib.hid rfl, rfl, hb⟩

theorem Sum_ref (v : Value) (l : List UInt8) (w : World) (hv : Sl w v l) (hl : l.length ≤ 100000000) : Calls Tryz.prog 78 #[v] w fun e w' => e = .returned (.agg (B8 (sha l)).toArray) ∧ Below w.heap.size w w' := by
  obtain ⟨av, cv, rfl⟩ : ∃ a cap, v = .slice a l.length cap := by
    rcases hv with ⟨rfl, a, c, rfl⟩ | ⟨b, off, cap, rfl, _⟩
    · exact ⟨a, c, rfl⟩
    · exact ⟨_, cap, rfl⟩
  obtain ⟨W1, HW1, HS1, HB1⟩ : ∃ W1, Hid (W1 = w.alloc (.cells (Array.replicate 32 (.int .u8 0)) 23)) ∧ Hid (W1.heap.size = w.heap.size + 1) ∧ Hid (Below w.heap.size w W1) := ⟨_, Lib.hid rfl, Lib.hid (by simp), Lib.hid ((Below.refl _ _).alloc (Nat.le_refl _) _)⟩
  have HSL : Hid (Sl W1 (.slice av l.length cv) l) := Lib.hid (hv.later HB1.out)
  have HO := Lib.hid (own_none W1)
  have HSL2 : Hid (Sl (W1.alloc (.cells #[] 5)) (.slice av l.length cv) l) := Lib.hid (HSL.out.later ((Below.refl _ _).alloc (Nat.le_refl _) _))
  have HLN : Hid (([] : List UInt8).length + l.length ≤ 1000000000) := Lib.hid (by simp; omega)
  have HBa : Hid (W1.heap.size ≤ (W1.alloc (.cells #[] 5)).heap.size) := Lib.hid (by simp)
  clear hv
  go_enter Tryz.func78, Tryz.ntmps78
  go_upto_region 1 with (fail)
  change Code.wp _ _ _ _ (w.alloc (.cells (Array.replicate 32 (.int .u8 0)) 23))
  rw [← HW1.out]
  go_wp2_with (at_builtin; refine wpList_append8 rfl _ _ rfl W1.heap.size _ [] rfl HO.out _ l rfl HSL2.out HLN.out HBa.out ?_; intro v' w' hv' hg hor)
  rw [List.nil_append] at hv'
  have HB2 : Hid (Below W1.heap.size W1 w') := Lib.hid (((Below.refl _ _).alloc (Nat.le_refl _) _).trans (HO.out.below hg HBa.out))
  have HO2 := Lib.hid hv'
  clear hv' hg hor
  refine (Pad_ref_pos l.length w' (by omega)).mono ?_
  rintro e w3 ⟨v3, rfl, hv3, hb3⟩
  have HO3 : Hid (Own8 w3 W1.heap.size v' l) := Lib.hid (HO2.out.later hb3)
  have HS3 := Lib.hid hv3.sl
  have HB3 : Hid (Below W1.heap.size W1 w3) := Lib.hid (HB2.out.trans (hb3.mono HB2.out.size))
  have HL3 : Hid (l.length + (pad l.length).length ≤ 1000000000) := Lib.hid (by rw [pad_length]; omega)
  clear hv3 hb3
  go_upto_region 3 with (at_builtin; refine wpList_append8 rfl _ _ rfl W1.heap.size _ l rfl HO3.out _ (pad l.length) rfl HS3.out HL3.out HB3.out.size ?_; intro v4 w4 hv4 hg4 hor4)
  obtain ⟨Z, HZ, hbd⟩ := buildInit
  have HBD := Lib.hid hbd
  have I8 : Hid ((Tryz.prog.info? 131).map (·.size) = some Z.size) := Lib.hid (by rw [HZ.out]; exact size_8 rfl)
  have O8 : Hid (8 = Z.size) := Lib.hid (by rw [HZ.out]; rfl)
  have Z1 : Hid (Z.all (·.oneCell') = true) := Lib.hid (by rw [HZ.out]; exact W32_one _)
  obtain ⟨T, HT⟩ : ∃ T, Hid (T = l ++ pad l.length) := ⟨_, Lib.hid rfl⟩
  rw [← HT.out] at hv4
  have HO4 := Lib.hid hv4
  have HTL : Hid (T.length % 64 = 0 ∧ T.length ≤ 100000100) := Lib.hid (by have := pad_mod l.length; have := pad_length l.length; rw [HT.out, List.length_append]; omega)
  have HB4 : Hid (Below W1.heap.size W1 w4) := Lib.hid (HB3.out.trans (HO3.out.below hg4 HB3.out.size))
  obtain ⟨W5, HW5, HB5, HR5⟩ : ∃ W5, Hid (W5 = w4.alloc (.cells Z 131)) ∧ Hid (Below w4.heap.size w4 W5) ∧ Hid (W5.heap[w4.heap.size]? = some (.cells (W32 (absorb 0 init T).list).toArray 131 (0, 0))) := ⟨_, Lib.hid rfl, Lib.hid ((Below.refl _ _).alloc (Nat.le_refl _) _), Lib.hid (by rw [HZ.out]; exact heap_alloc_new _ _)⟩
  obtain ⟨a4, c4, rfl⟩ := hv4.shape
  clear hv4 hg4 hor4 hbd
  go_upto_region 4 with (first
      | refine wpList_build rfl 131 _ rfl (.agg Z) _ (by kernel_rfl) HBD.out ?_
      | refine wpList_store_new rfl 131 _ _ rfl Z rfl rfl 131 _ I8.out O8.out Z1.out ?_)
  rw [← HW5.out]
  go_wp2_with fail
  obtain ⟨m, HM⟩ : ∃ m, Hid (m = T.length) := ⟨_, Lib.hid rfl⟩
  rw [← HM.out]
  go_loopw [5] (fun i wr => ∃ j : Nat, 64 * j ≤ m ∧ i = .int .i64 ((64 * j : Nat) : Int) ∧ wr.heap[w4.heap.size]? = some (.cells (W32 (absorb j init T).list).toArray 131 (0, 0)) ∧ Below w4.heap.size W5 wr) (fun i _ => m - (intOf i).toNat)
  case atStart => exact ⟨0, by omega, by rfl, HR5.out, Below.refl _ _⟩
  case round =>
    obtain ⟨j, hj, rfl, hrow, hb⟩ := hrel
    obtain ⟨x, hx⟩ : ∃ x : Nat, x = 64 * j := ⟨_, rfl⟩
    rw [← hx] at hj ⊢
    have HX := Lib.hid hx
    have hmt := HM.out
    have htl := HTL.out
    by_cases hlt : x < m
    · have hlt' : (x : Int) < m := by omega
      have hsl : Sl wr (.slice a4 T.length c4) T := HO4.out.sl.later (HB5.out.trans hb)
      rcases hsl with ⟨h0, _⟩ | ⟨g, off, cap, he, h0, h1, h2, hc⟩
      · rw [h0] at hmt; simp at hmt; omega
      cases he
      have hblk : Hid (((T.drop (64 * j)).take 64).length = 64) := Lib.hid (by simp; omega)
      have HSB : Hid (Sl wr (.slice (some ⟨g, off + x, none⟩) 64 (c4 - x)) ((T.drop (64 * j)).take 64)) := Lib.hid (.inr ⟨g, off + x, c4 - x, by rw [hblk.out], by rw [hblk.out]; omega, by rw [hblk.out]; omega, by omega, fun i hi => by
        rw [hblk.out] at hi
        rw [List.getElem_take, List.getElem_drop, hx, Nat.add_assoc]
        exact hc (64 * j + i) (by omega)⟩)
      have HROW := Lib.hid hrow
      have HB := Lib.hid hb
      have hx64 : (x : Int) + 64 ≤ c4 := by omega
      have hw : IntKind.i64.wrap ((x : Int) + 64) = x + 64 := by rw [IntKind.wrap_i64]; omega
      have hle : x ≤ c4 := by omega
      obtain ⟨q, HQ⟩ : ∃ q, Hid (q = absorb j init T) := ⟨_, Lib.hid rfl⟩
      rw [← HQ.out] at HROW
      have gg (i : Nat) (hi : i < 8) : wr.cell? ⟨w4.heap.size, i, none⟩ = some (.int .u32 (wn (q.list.getD i 0))) := by
        rw [cell_of_row wr w4.heap.size i _ _ (0, 0) HROW.out, List.getElem?_toArray, W32_getElem?, List.getElem?_eq_getElem (by simp [St.list]; omega)]
        simp [St.list, show i < 8 from hi]
      obtain ⟨q0, q1, q2, q3, q4, q5, q6, q7⟩ := q
      have g0 : wr.cell? ⟨w4.heap.size, 0, none⟩ = some (.int .u32 (wn q0)) := gg 0 (by omega)
      have g1 : wr.cell? ⟨w4.heap.size, 1, none⟩ = some (.int .u32 (wn q1)) := gg 1 (by omega)
      have g2 : wr.cell? ⟨w4.heap.size, 2, none⟩ = some (.int .u32 (wn q2)) := gg 2 (by omega)
      have g3 : wr.cell? ⟨w4.heap.size, 3, none⟩ = some (.int .u32 (wn q3)) := gg 3 (by omega)
      have g4 : wr.cell? ⟨w4.heap.size, 4, none⟩ = some (.int .u32 (wn q4)) := gg 4 (by omega)
      have g5 : wr.cell? ⟨w4.heap.size, 5, none⟩ = some (.int .u32 (wn q5)) := gg 5 (by omega)
      have g6 : wr.cell? ⟨w4.heap.size, 6, none⟩ = some (.int .u32 (wn q6)) := gg 6 (by omega)
      have g7 : wr.cell? ⟨w4.heap.size, 7, none⟩ = some (.int .u32 (wn q7)) := gg 7 (by omega)
      have hs4 : w4.heap.size < wr.heap.size := (Array.getElem?_eq_some_iff.1 HROW.out).1
      have HS5 : Hid (∀ o, w4.heap.size < (wr.drew.alloc o).heap.size) := Lib.hid fun o => by simp; omega
      have HS6 : Hid (∀ o, wr.drew.heap.size < (wr.drew.alloc o).heap.size) := Lib.hid fun o => by simp
      have hnc : ¬ c4 = x := by omega
      have hxx : (x : Int) ≤ x + 64 := by omega
      have hx0 : (0 : Int) ≤ x := by omega
      have h64n : ((x : Int) + 64).toNat = x + 64 := by omega
      have hne4 : ¬ w4.heap.size = wr.heap.size := by omega
      have hne5 : ¬ wr.heap.size = w4.heap.size := by omega
      have HSBD : Hid (Sl wr.drew (.slice (some ⟨g, off + x, none⟩) 64 (c4 - x)) ((T.drop (64 * j)).take 64)) := Lib.hid (HSB.out.later (Below.refl _ _).drew)
      have HSBA : Hid (∀ o, Sl (wr.drew.alloc o) (.slice (some ⟨g, off + x, none⟩) 64 (c4 - x)) ((T.drop (64 * j)).take 64)) := Lib.hid fun o => HSB.out.later ((Below.refl _ _).drew.alloc (Nat.le_refl _) o)
      have hsl := slice_64 g off T.length c4 x (by omega)
      clear hc hrow hb hx hmt htl gg
      go_upto_region 7 with (fail)
      go_region_law (first
          | (go_simp; go_at_call 96; refine (Block_flat _ _ _ _ _ _ _ _ _ _ _ HSBD.out hblk.out).mono ?_; rintro ee w6 ⟨a', b', c', d', e', f', g', h', HCOMP, rfl, hb6⟩)
          | (go_simp; go_at_call 96; refine (Block_flat _ _ _ _ _ _ _ _ _ _ _ (HSBA.out _) hblk.out).mono ?_; rintro ee w6 ⟨a', b', c', d', e', f', g', h', HCOMP, rfl, hb6⟩; obtain ⟨⟨z0, z1, z2, z3, z4, z5, z6, z7⟩, y0, y1, y2, y3, y4, y5, y6, y7⟩ := zrow (b := wr.heap.size) ((hb6.block wr.drew.heap.size (HS6.out _)).trans (heap_alloc_new wr.drew _))))
      · have F1 : (w6.alloc (.cells (W32 (St.list ⟨a', b', c', d', e', f', g', h'⟩)).toArray 131)).heap[w6.heap.size]? = some (.cells (W32 (St.list ⟨a', b', c', d', e', f', g', h'⟩)).toArray 131 (0, 0)) := heap_alloc_new _ _
        have F3 : Below wr.heap.size wr (w6.alloc (.cells (W32 (St.list ⟨a', b', c', d', e', f', g', h'⟩)).toArray 131)) := (show Below wr.heap.size wr w6 from ⟨hb6.os, hb6.tape, hb6.output, hb6.size, hb6.block⟩).alloc hb6.size _
        change Exit.then _ _ _ _ (w6.alloc (.cells (W32 (St.list ⟨a', b', c', d', e', f', g', h'⟩)).toArray 131))
        generalize w6.alloc (.cells (W32 (St.list ⟨a', b', c', d', e', f', g', h'⟩)).toArray 131) = WX at F1 F3 ⊢
        generalize w6.heap.size = bx at F1 ⊢
        have HTO : Hid (absorb (j + 1) init T = ⟨a', b', c', d', e', f', g', h'⟩) := Lib.hid (by rw [absorb_add, ← HQ.out, absorb, absorb, HCOMP.out])
        have I8' : Hid ((Tryz.prog.info? 131).map (·.size) = some (W32 (St.list ⟨a', b', c', d', e', f', g', h'⟩)).toArray.size) := Lib.hid (size_8 rfl)
        have HF1 := Lib.hid F1
        have HF2 : Hid (WX.heap[w4.heap.size]? = some (.cells (W32 (St.list ⟨q0, q1, q2, q3, q4, q5, q6, q7⟩)).toArray 131 (0, 0))) := Lib.hid ((F3.block _ hs4).trans HROW.out)
        have HF3 := Lib.hid F3
        clear F1 F3
        go_wp2_with (first
          | refine wpList_load_row rfl 131 _ rfl _ rfl _ (W32 (St.list ⟨a', b', c', d', e', f', g', h'⟩)).toArray (0, 0) _ HF1.out Tryz.underlying131 rfl I8'.out ?_
          | refine wpList_store_row rfl 131 _ _ rfl _ (W32 (St.list ⟨a', b', c', d', e', f', g', h'⟩)).toArray rfl rfl 131 _ HF2.out I8'.out rfl (W32_one _) ?_)
        refine ⟨⟨j + 1, ?_, ?_, ?_, below_setRow (HB.out.trans (HF3.out.mono (Nat.le_of_lt hs4))) (Nat.le_refl _) _⟩, ?_⟩
        · have := HX.out; have := HM.out; have := HTL.out; omega
        · have := HX.out; congr 1; omega
        · rw [HTO.out]; exact setRow_heap _ _ _ _ _ _ HF2.out
        · simp [intOf]; omega
      · have h0 : w6.heap[wr.heap.size]? = some (.cells #[.int .u32 0, .int .u32 0, .int .u32 0, .int .u32 0, .int .u32 0, .int .u32 0, .int .u32 0, .int .u32 0] 131 (0, 0)) := (hb6.block wr.drew.heap.size (HS6.out _)).trans (heap_alloc_new wr.drew _)
        obtain ⟨F1', F3'⟩ := set8 (Nat.le_refl wr.heap.size) h0 (.int .u32 (wn a')) (.int .u32 (wn b')) (.int .u32 (wn c')) (.int .u32 (wn d')) (.int .u32 (wn e')) (.int .u32 (wn f')) (.int .u32 (wn g')) (.int .u32 (wn h'))
        have F1 : ((((((((w6.setCell ⟨wr.heap.size, 0, none⟩ (.int .u32 (wn a'))).setCell ⟨wr.heap.size, 1, none⟩ (.int .u32 (wn b'))).setCell ⟨wr.heap.size, 2, none⟩ (.int .u32 (wn c'))).setCell ⟨wr.heap.size, 3, none⟩ (.int .u32 (wn d'))).setCell ⟨wr.heap.size, 4, none⟩ (.int .u32 (wn e'))).setCell ⟨wr.heap.size, 5, none⟩ (.int .u32 (wn f'))).setCell ⟨wr.heap.size, 6, none⟩ (.int .u32 (wn g'))).setCell ⟨wr.heap.size, 7, none⟩ (.int .u32 (wn h'))).heap[wr.heap.size]? = some (.cells (W32 (St.list ⟨a', b', c', d', e', f', g', h'⟩)).toArray 131 (0, 0)) := F1'
        have F3 : Below wr.heap.size wr ((((((((w6.setCell ⟨wr.heap.size, 0, none⟩ (.int .u32 (wn a'))).setCell ⟨wr.heap.size, 1, none⟩ (.int .u32 (wn b'))).setCell ⟨wr.heap.size, 2, none⟩ (.int .u32 (wn c'))).setCell ⟨wr.heap.size, 3, none⟩ (.int .u32 (wn d'))).setCell ⟨wr.heap.size, 4, none⟩ (.int .u32 (wn e'))).setCell ⟨wr.heap.size, 5, none⟩ (.int .u32 (wn f'))).setCell ⟨wr.heap.size, 6, none⟩ (.int .u32 (wn g'))).setCell ⟨wr.heap.size, 7, none⟩ (.int .u32 (wn h'))) := (((Below.refl wr.heap.size wr).drew.alloc (Nat.le_refl _) _).trans (hb6.mono (Nat.le_of_lt (HS6.out _)))).trans F3'
        clear F1' F3' h0
        generalize ((((((((w6.setCell ⟨wr.heap.size, 0, none⟩ (.int .u32 (wn a'))).setCell ⟨wr.heap.size, 1, none⟩ (.int .u32 (wn b'))).setCell ⟨wr.heap.size, 2, none⟩ (.int .u32 (wn c'))).setCell ⟨wr.heap.size, 3, none⟩ (.int .u32 (wn d'))).setCell ⟨wr.heap.size, 4, none⟩ (.int .u32 (wn e'))).setCell ⟨wr.heap.size, 5, none⟩ (.int .u32 (wn f'))).setCell ⟨wr.heap.size, 6, none⟩ (.int .u32 (wn g'))).setCell ⟨wr.heap.size, 7, none⟩ (.int .u32 (wn h'))) = WX at F1 F3 ⊢
        have HTO : Hid (absorb (j + 1) init T = ⟨a', b', c', d', e', f', g', h'⟩) := Lib.hid (by rw [absorb_add, ← HQ.out, absorb, absorb, HCOMP.out])
        have I8' : Hid ((Tryz.prog.info? 131).map (·.size) = some (W32 (St.list ⟨a', b', c', d', e', f', g', h'⟩)).toArray.size) := Lib.hid (size_8 rfl)
        have HF1 := Lib.hid F1
        have HF2 : Hid (WX.heap[w4.heap.size]? = some (.cells (W32 (St.list ⟨q0, q1, q2, q3, q4, q5, q6, q7⟩)).toArray 131 (0, 0))) := Lib.hid ((F3.block _ hs4).trans HROW.out)
        have HF3 := Lib.hid F3
        clear F1 F3
        go_wp2_with (first
          | refine wpList_load_row rfl 131 _ rfl _ rfl _ (W32 (St.list ⟨a', b', c', d', e', f', g', h'⟩)).toArray (0, 0) _ HF1.out Tryz.underlying131 rfl I8'.out ?_
          | refine wpList_store_row rfl 131 _ _ rfl _ (W32 (St.list ⟨a', b', c', d', e', f', g', h'⟩)).toArray rfl rfl 131 _ HF2.out I8'.out rfl (W32_one _) ?_)
        refine ⟨⟨j + 1, ?_, ?_, ?_, below_setRow (HB.out.trans (HF3.out.mono (Nat.le_of_lt hs4))) (Nat.le_refl _) _⟩, ?_⟩
        · have := HX.out; have := HM.out; have := HTL.out; omega
        · have := HX.out; congr 1; omega
        · rw [HTO.out]; exact setRow_heap _ _ _ _ _ _ HF2.out
        · simp [intOf]; omega
      · have h0 : w6.heap[wr.heap.size]? = some (.cells #[.int .u32 0, .int .u32 0, .int .u32 0, .int .u32 0, .int .u32 0, .int .u32 0, .int .u32 0, .int .u32 0] 131 (0, 0)) := (hb6.block wr.drew.heap.size (HS6.out _)).trans (heap_alloc_new wr.drew _)
        obtain ⟨F1', F3'⟩ := set8 (Nat.le_refl wr.heap.size) h0 (.int .u32 (wn a')) (.int .u32 (wn b')) (.int .u32 (wn c')) (.int .u32 (wn d')) (.int .u32 (wn e')) (.int .u32 (wn f')) (.int .u32 (wn g')) (.int .u32 (wn h'))
        have F1 : ((((((((w6.setCell ⟨wr.heap.size, 0, none⟩ (.int .u32 (wn a'))).setCell ⟨wr.heap.size, 1, none⟩ (.int .u32 (wn b'))).setCell ⟨wr.heap.size, 2, none⟩ (.int .u32 (wn c'))).setCell ⟨wr.heap.size, 3, none⟩ (.int .u32 (wn d'))).setCell ⟨wr.heap.size, 4, none⟩ (.int .u32 (wn e'))).setCell ⟨wr.heap.size, 5, none⟩ (.int .u32 (wn f'))).setCell ⟨wr.heap.size, 6, none⟩ (.int .u32 (wn g'))).setCell ⟨wr.heap.size, 7, none⟩ (.int .u32 (wn h'))).heap[wr.heap.size]? = some (.cells (W32 (St.list ⟨a', b', c', d', e', f', g', h'⟩)).toArray 131 (0, 0)) := F1'
        have F3 : Below wr.heap.size wr ((((((((w6.setCell ⟨wr.heap.size, 0, none⟩ (.int .u32 (wn a'))).setCell ⟨wr.heap.size, 1, none⟩ (.int .u32 (wn b'))).setCell ⟨wr.heap.size, 2, none⟩ (.int .u32 (wn c'))).setCell ⟨wr.heap.size, 3, none⟩ (.int .u32 (wn d'))).setCell ⟨wr.heap.size, 4, none⟩ (.int .u32 (wn e'))).setCell ⟨wr.heap.size, 5, none⟩ (.int .u32 (wn f'))).setCell ⟨wr.heap.size, 6, none⟩ (.int .u32 (wn g'))).setCell ⟨wr.heap.size, 7, none⟩ (.int .u32 (wn h'))) := (((Below.refl wr.heap.size wr).drew.alloc (Nat.le_refl _) _).trans (hb6.mono (Nat.le_of_lt (HS6.out _)))).trans F3'
        clear F1' F3' h0
        generalize ((((((((w6.setCell ⟨wr.heap.size, 0, none⟩ (.int .u32 (wn a'))).setCell ⟨wr.heap.size, 1, none⟩ (.int .u32 (wn b'))).setCell ⟨wr.heap.size, 2, none⟩ (.int .u32 (wn c'))).setCell ⟨wr.heap.size, 3, none⟩ (.int .u32 (wn d'))).setCell ⟨wr.heap.size, 4, none⟩ (.int .u32 (wn e'))).setCell ⟨wr.heap.size, 5, none⟩ (.int .u32 (wn f'))).setCell ⟨wr.heap.size, 6, none⟩ (.int .u32 (wn g'))).setCell ⟨wr.heap.size, 7, none⟩ (.int .u32 (wn h'))) = WX at F1 F3 ⊢
        have HTO : Hid (absorb (j + 1) init T = ⟨a', b', c', d', e', f', g', h'⟩) := Lib.hid (by rw [absorb_add, ← HQ.out, absorb, absorb, HCOMP.out])
        have I8' : Hid ((Tryz.prog.info? 131).map (·.size) = some (W32 (St.list ⟨a', b', c', d', e', f', g', h'⟩)).toArray.size) := Lib.hid (size_8 rfl)
        have HF1 := Lib.hid F1
        have HF2 : Hid (WX.heap[w4.heap.size]? = some (.cells (W32 (St.list ⟨q0, q1, q2, q3, q4, q5, q6, q7⟩)).toArray 131 (0, 0))) := Lib.hid ((F3.block _ hs4).trans HROW.out)
        have HF3 := Lib.hid F3
        clear F1 F3
        go_wp2_with (first
          | refine wpList_load_row rfl 131 _ rfl _ rfl _ (W32 (St.list ⟨a', b', c', d', e', f', g', h'⟩)).toArray (0, 0) _ HF1.out Tryz.underlying131 rfl I8'.out ?_
          | refine wpList_store_row rfl 131 _ _ rfl _ (W32 (St.list ⟨a', b', c', d', e', f', g', h'⟩)).toArray rfl rfl 131 _ HF2.out I8'.out rfl (W32_one _) ?_)
        refine ⟨⟨j + 1, ?_, ?_, ?_, below_setRow (HB.out.trans (HF3.out.mono (Nat.le_of_lt hs4))) (Nat.le_refl _) _⟩, ?_⟩
        · have := HX.out; have := HM.out; have := HTL.out; omega
        · have := HX.out; congr 1; omega
        · rw [HTO.out]; exact setRow_heap _ _ _ _ _ _ HF2.out
        · simp [intOf]; omega
    · obtain rfl : x = m := by omega
      obtain ⟨H, HH⟩ : ∃ H, Hid (H = sha l) := ⟨_, Lib.hid rfl⟩
      obtain ⟨S, HS⟩ : ∃ S, Hid (S = absorb j init T) := ⟨_, Lib.hid rfl⟩
      have HSB : Hid (S.bytes = H) := Lib.hid (by
        rw [HS.out, HH.out, sha, ← HT.out, show T.length / 64 = j by omega])
      rw [← HS.out] at hrow
      have HHL : Hid (H.length = 32) := Lib.hid (by rw [HH.out, sha_length])
      obtain ⟨Y, HY, hyd⟩ := build32
      have HYD := Lib.hid hyd
      have I32 : Hid ((Tryz.prog.info? 23).map (·.size) = some Y.size) := Lib.hid (by rw [info_32, HY.out, B8_size]; simp)
      have O32 : Hid (32 = Y.size) := Lib.hid (by rw [HY.out, B8_size]; simp)
      have Y1 : Hid (Y.all (·.oneCell') = true) := Lib.hid (by rw [HY.out]; exact B8_oneA _)
      have HBV : Hid (Below W1.heap.size W1 wr) := Lib.hid (HB4.out.trans ((HB5.out.trans hb).mono HB4.out.size))
      obtain ⟨V, HV, HVB, HVR, HVS⟩ : ∃ V, Hid (V = wr.alloc (.cells Y 23)) ∧ Hid (Below wr.heap.size wr V) ∧ Hid (Arr8 V wr.heap.size 23 (H.take 0 ++ List.replicate (32 - 0) 0)) ∧ Hid (Arr V w4.heap.size 131 S.list) :=
        ⟨_, Lib.hid rfl, Lib.hid ((Below.refl _ _).alloc (Nat.le_refl _) _), Lib.hid (by unfold Arr8; rw [HY.out]; exact heap_alloc_new _ _), Lib.hid ((((Below.refl _ _).alloc (Nat.le_refl _) _).block w4.heap.size (Array.getElem?_eq_some_iff.1 hrow).1).trans hrow)⟩
      have hs4 : w4.heap.size < wr.heap.size := (Array.getElem?_eq_some_iff.1 hrow).1
      clear hrow hb hx hmt htl hyd
      go_upto_region 10 with (first
        | refine wpList_build0 rfl 23 rfl (.agg Y) HYD.out ?_
        | refine wpList_store_new rfl 23 _ _ rfl Y rfl rfl 23 _ I32.out O32.out Y1.out ?_)
      rw [← HV.out]
      dsimp only [Act.put]
      generalize hG : wr.heap.size = vb at HVB HVR hs4 ⊢
      go_wp2_with fail
      go_loopw [9] (fun i wy => ∃ k : Nat, k ≤ 32 ∧ i = .int .i64 k ∧ Arr8 wy vb 23 (H.take k ++ List.replicate (32 - k) 0) ∧ Below vb V wy) (fun i _ => 33 - (intOf i).toNat)
      case atStart => exact ⟨0, by omega, rfl, HVR.out, Below.refl _ _⟩
      case round =>
        obtain ⟨k, hk, rfl, ha, hb⟩ := hrel
        by_cases hlt : k < 32
        · have hlt' : (k : Int) < 32 := by omega
          have cs := (HVS.out.later (hb.block _ hs4)).cell (i := k / 4) (by simp [St.list]; omega)
          have hlen : (H.take k ++ List.replicate (32 - k) 0).length = 32 := by have := HHL.out; simp; omega
          have hcell := ha.cell (i := k) (by omega)
          have hfz := ha.frozen k
          generalize (H.take k ++ List.replicate (32 - k) 0).getD k 0 = old at hcell
          have HSF : Hid ((H.take k ++ List.replicate (32 - k) 0).set k (H.getD k 0) = H.take (k + 1) ++ List.replicate (32 - (k + 1)) 0) := Lib.hid (by
            rw [set_fill8 (H.take k) 32 k (H.getD k 0) (by rw [List.length_take, HHL.out]; omega) (by omega), take_snoc8 H k (by rw [HHL.out]; omega)])
          have HBY : Hid (H.getD k 0 = UInt8.ofNat (wn (S.list.getD (k / 4) 0) / 2 ^ (24 - 8 * (k % 4)))) := Lib.hid (by rw [← HSB.out]; exact S.byte k hlt)
          generalize S.list.getD (k / 4) 0 = y at cs HBY
          have HA := Lib.hid ha
          have HB2 := Lib.hid hb
          have e1 : ((k : Int) / 4).toNat = k / 4 := by omega
          have p1 : (0 : Int) ≤ (k : Int) / 4 := by omega
          have p2 : (k : Int) / 4 < 8 := by omega
          have p3 : (0 : Int) ≤ (k : Int) % 4 := by omega
          have p4 : (k : Int) % 4 < 4 := by omega
          have p5 : (0 : Int) ≤ 24 - 8 * ((k : Int) % 4) := by omega
          have e2 : (24 - 8 * ((k : Int) % 4)).toNat = 24 - 8 * (k % 4) := by omega
          clear ha hb hlen
          go_wp2_with fail
          have ev : (wn y : Int) / 2 ^ (24 - 8 * (k % 4)) % 256 = ((bn (H.getD k 0) : Nat) : Int) := by rw [HBY.out]; simp [bn]
          rw [ev]
          exact ⟨⟨k + 1, by omega, by go_num, by rw [← HSF.out]; exact HA.out.set k _, HB2.out.setCell (Nat.le_refl _) _⟩, by simp [intOf]; omega⟩
        · obtain rfl : k = 32 := by omega
          rw [show ((32 : Nat) : Int) = 32 from rfl]
          have ha2 : Arr8 wr vb 23 H := by rw [List.take_of_length_le (by rw [HHL.out]; omega)] at ha; simpa using ha
          have HA := Lib.hid ha2
          have hbw : Below (w.heap.size + 1) (w.alloc (.cells (Array.replicate 32 (.int .u8 0)) 23)) wr := by
            rw [← HW1.out, ← HS1.out]
            exact HBV.out.trans ((HVB.out.trans hb).mono (by have := HBV.out.size; omega))
          obtain ⟨h1, h2, h3, h4, h5, h6⟩ := hash_store (w := w) H HHL.out hbw
          have K1 := Lib.hid h1
          have K2 := Lib.hid h2
          have K3 := Lib.hid h3
          have K4 := Lib.hid h4
          have K5 := Lib.hid h5
          have K6 := Lib.hid h6
          clear h1 h2 h3 h4 h5 h6 hb ha ha2 hbw
          go_wp2_with (first
            | refine wpList_load_row rfl 23 _ rfl vb rfl _ (B8 H).toArray (0, 0) _ HA.out Tryz.underlying23 rfl K2.out ?_
            | refine wpList_store_row rfl 23 _ _ rfl _ (B8 H).toArray rfl rfl 23 _ K1.out K2.out K3.out K4.out ?_)
          exact bodyPost_ret (results_cell_row rfl _ _ w.heap.size 23 _ (0, 0) _ rfl K6.out Tryz.underlying23 rfl K2.out) rfl ⟨by rw [HH.out], K5.out⟩
end Go.Proofs.YtcnelahmbfggcaaGreat

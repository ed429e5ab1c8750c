/- The walk of the document's Block. -/
import Derived.Test.YtcnelahmbfggcaaGreatRefA
import Derived.Test.YtcnelahmbfggcaaGreatRefK
namespace Go.Proofs.YtcnelahmbfggcaaGreat
open Go Go.RowKit
set_option maxRecDepth 100000
set_option maxHeartbeats 1000000

theorem below_setRow {B b : Nat} {a w : World} (h : Below B a w) (hb : B ≤ b) (c : Array Value) : Below B a (w.setRow b c) :=
  ⟨h.os, h.tape, h.output, by simpa using h.size, fun k hk => by rw [setRow_other _ _ _ _ (by omega)]; exact h.block k hk⟩

set_option maxRecDepth 100000 in
theorem Block_ref_good (v : Value) (s : St) (l : List UInt8) (w : World) (hv : Sl w v l) (h : l.length = 64) : Calls Tryz.prog 96 #[.agg (W32 s.list).toArray, v] w fun e w' => e = .returned (.tuple #[.agg (W32 (blockV s l)).toArray, .int .i64 (err64 l)]) ∧ Below w.heap.size w w' := by
  have HV : Hid (blockV s l = (comp s l).list) := Lib.hid (by rw [blockV, if_pos h])
  have HSV : Hid (schedV l = sched l) := Lib.hid (by rw [schedV, if_pos h])
  have HE : Hid (err64 l = 0) := Lib.hid (by rw [err64, if_pos h])
  have HLS : Hid ((sched l).length = 64) := Lib.hid (by simp [sched, schedTo_length])
  obtain ⟨SL, HSLL⟩ : ∃ SL, Hid (SL = sched l) := ⟨_, Lib.hid rfl⟩
  rw [← HSLL.out] at HLS HSV
  have I64 := Lib.hid (size_64 (l := SL) HLS.out)
  have O64 : Hid (64 = (W32 SL).toArray.size) := Lib.hid (by rw [List.size_toArray, W32_length, HLS.out])
  have IK := Lib.hid (size_64 (l := K) rfl)
  have OK : Hid (64 = (W32 K).toArray.size) := Lib.hid (by rw [List.size_toArray, W32_length]; rfl)
  have I8 := Lib.hid (size_8 (l := s.list) rfl)
  have O8 : Hid (8 = (W32 s.list).toArray.size) := Lib.hid rfl
  obtain ⟨KK, HKK⟩ : ∃ KK, Hid (KK = (W32 K).toArray) := ⟨_, Lib.hid rfl⟩
  have KK1 : Hid (KK.all (·.oneCell') = true) := Lib.hid (by rw [HKK.out]; exact W32_one _)
  rw [← HKK.out] at IK OK
  obtain ⟨W0, HW0, HS0, HB0, HA0⟩ : ∃ W0, Hid (W0 = w.alloc (.cells (W32 s.list).toArray 131)) ∧ Hid (W0.heap.size = w.heap.size + 1) ∧ Hid (Below w.heap.size w W0) ∧ Hid (W0.heap[w.heap.size]? = some (.cells (W32 s.list).toArray 131 (0, 0))) := ⟨_, Lib.hid rfl, Lib.hid (by simp), Lib.hid ((Below.refl _ _).alloc (Nat.le_refl _) _), Lib.hid (heap_alloc_new _ _)⟩
  obtain ⟨W1, HW1, HB1, HR1⟩ : ∃ W1, Hid (W1 = W0.alloc (.cells (Array.replicate 8 (.int .u32 0)) 131)) ∧ Hid (Below W0.heap.size W0 W1) ∧ Hid (W1.heap[W0.heap.size]? = some (.cells (Array.replicate 8 (.int .u32 0)) 131 (0, 0))) := ⟨_, Lib.hid rfl, Lib.hid ((Below.refl _ _).alloc (Nat.le_refl _) _), Lib.hid (heap_alloc_new _ _)⟩
  have HSL : Hid (Sl W1 v l) := Lib.hid ((hv.later HB0.out).later HB1.out)
  clear hv h
  go_enter Tryz.func96, Tryz.ntmps96
  go_upto_region 1 with (fail)
  change Code.wp _ _ _ _ ((w.alloc (.cells (W32 s.list).toArray 131)).alloc (.cells (Array.replicate 8 (.int .u32 0)) 131))
  rw [← HW0.out, ← HW1.out, ← HS0.out]
  go_wp2_with fail
  refine (Schedule_ref v l W1 HSL.out).mono ?_
  rintro e w2 ⟨rfl, hb2⟩
  rw [HSV.out, HE.out]
  have HB2 := Lib.hid hb2
  clear hb2
  go_upto_region 2 with (refine wpList_store_new rfl 144 _ _ rfl (W32 SL).toArray rfl rfl 144 _ I64.out O64.out (W32_one _) ?_)
  obtain ⟨W3, HW3, HB3, HA3⟩ : ∃ W3, Hid (W3 = w2.alloc (.cells (W32 SL).toArray 144)) ∧ Hid (Below w2.heap.size w2 W3) ∧ Hid (Arr W3 w2.heap.size 144 SL) := ⟨_, Lib.hid rfl, Lib.hid ((Below.refl _ _).alloc (Nat.le_refl _) _), Lib.hid (heap_alloc_new _ _)⟩
  rw [← HW3.out]
  go_wp2_with fail
  refine (rounds_any W3).mono ?_
  rintro e w4 ⟨rfl, hb4⟩
  rw [← HKK.out]
  have HB4 := Lib.hid hb4
  clear hb4
  go_upto_region 5 with (refine wpList_store_new rfl 144 _ _ rfl KK rfl rfl 144 _ IK.out OK.out KK1.out ?_)
  obtain ⟨W5, HW5, HB5, HA5⟩ : ∃ W5, Hid (W5 = w4.alloc (.cells KK 144)) ∧ Hid (Below w4.heap.size w4 W5) ∧ Hid (Arr W5 w4.heap.size 144 K) := ⟨_, Lib.hid rfl, Lib.hid ((Below.refl _ _).alloc (Nat.le_refl _) _), Lib.hid (by unfold Arr; rw [← HKK.out]; exact heap_alloc_new _ _)⟩
  rw [← HW5.out]
  have HA2 : Hid (W5.heap[w.heap.size]? = some (.cells (W32 s.list).toArray 131 (0, 0))) := by
    have e0 := HS0.out
    have e1 := HB1.out.size; have e2 := HB2.out.size; have e3 := HB3.out.size; have e4 := HB4.out.size
    exact Lib.hid ((HB5.out.block _ (by omega)).trans ((HB4.out.block _ (by omega)).trans ((HB3.out.block _ (by omega)).trans ((HB2.out.block _ (by omega)).trans ((HB1.out.block _ (by omega)).trans HA0.out)))))
  go_upto_region 6 with (first
    | refine wpList_load_row rfl 131 _ rfl _ rfl _ (W32 s.list).toArray (0, 0) _ HA2.out Tryz.underlying131 rfl I8.out ?_
    | refine wpList_store_new rfl 131 _ _ rfl (W32 s.list).toArray rfl rfl 131 _ I8.out O8.out (W32_one _) ?_)
  dsimp only [Act.put]
  obtain ⟨W9, HW9, HB9, HR9⟩ : ∃ W9, Hid (W9 = W5.alloc (.cells (W32 s.list).toArray 131)) ∧ Hid (Below W5.heap.size W5 W9) ∧ Hid (W9.heap[W5.heap.size]? = some (.cells (W32 s.list).toArray 131 (0, 0))) := ⟨_, Lib.hid rfl, Lib.hid ((Below.refl _ _).alloc (Nat.le_refl _) _), Lib.hid (heap_alloc_new _ _)⟩
  rw [← HW9.out]
  have HX6 : Hid (w2.heap.size < W5.heap.size ∧ w4.heap.size < W5.heap.size ∧ w.heap.size < W5.heap.size ∧ W0.heap.size < W5.heap.size ∧ w.heap.size < W0.heap.size ∧ W1.heap.size ≤ W5.heap.size) := by
    have e0 := HS0.out
    have e1 := HB1.out.size; have e2 := HB2.out.size; have e3 := HB3.out.size; have e4 := HB4.out.size
    have e5 := (Array.getElem?_eq_some_iff.1 HA5.out).1
    have e6 := HA3.out.lt
    have e7 := (Array.getElem?_eq_some_iff.1 HR1.out).1
    have e8 := HB5.out.size
    exact Lib.hid ⟨by omega, by omega, by omega, by omega, by omega, by omega⟩
  have G6 : Hid (Arr W9 w2.heap.size 144 SL) := by
    have e4 := HB4.out.size
    have e6 := HA3.out.lt
    exact Lib.hid ((HB9.out.block _ HX6.out.1).trans ((HB5.out.block _ (by omega)).trans ((HB4.out.block _ (by omega)).trans HA3.out)))
  have G8 : Hid (Arr W9 w4.heap.size 144 K) := Lib.hid ((HB9.out.block _ HX6.out.2.1).trans HA5.out)
  have G2 : Hid (W9.heap[w.heap.size]? = some (.cells (W32 s.list).toArray 131 (0, 0))) := Lib.hid ((HB9.out.block _ HX6.out.2.2.1).trans HA2.out)
  have HB19 : Hid (Below W1.heap.size W1 W9) := by
    have e2 := HB2.out.size; have e3 := HB3.out.size; have e4 := HB4.out.size; have e5 := HB5.out.size
    exact Lib.hid (HB2.out.trans ((HB3.out.trans ((HB4.out.trans ((HB5.out.trans (HB9.out.mono (by omega))).mono (by omega))).mono (by omega))).mono (by omega)))
  have G4 : Hid (W9.heap[W0.heap.size]? = some (.cells (Array.replicate 8 (.int .u32 0)) 131 (0, 0))) := Lib.hid ((HB19.out.block _ (Array.getElem?_eq_some_iff.1 HR1.out).1).trans HR1.out)
  clear HW9 HW5 HW3 HW1 HW0 HB2 HB3 HB4 HB5 HA2 HA3 HA5 HR1 HA0
  go_wp2_with fail
  go_loopw [10] (fun i wr => ∃ (k : Nat) (q : St), k ≤ 64 ∧ Hid (q = roundsTo (sched l) s k) ∧ i = .int .i64 k ∧ wr.heap[W5.heap.size]? = some (.cells (W32 q.list).toArray 131 (0, 0)) ∧ Below W5.heap.size W9 wr) (fun i _ => 65 - (intOf i).toNat)
  case atStart => exact ⟨0, s, by omega, Lib.hid rfl, rfl, HR9.out, Below.refl _ _⟩
  case round =>
    obtain ⟨k, q, hk, HQ, rfl, hrow, hb⟩ := hrel
    by_cases hlt : k < 64
    · have hlt' : (k : Int) < 64 := by omega
      have fk := (G8.out.later (hb.block _ HX6.out.2.1)).cell (i := k) (by simp [K]; omega)
      have fw := (G6.out.later (hb.block _ HX6.out.1)).cell (i := k) (by rw [HLS.out]; omega)
      have g (i : Nat) (hi : i < 8) : wr.cell? ⟨W5.heap.size, i, none⟩ = some (.int .u32 (wn (q.list.getD i 0))) := by
        rw [cell_of_row wr W5.heap.size i _ _ (0, 0) hrow, List.getElem?_toArray, W32_getElem?, List.getElem?_eq_getElem (by simp [St.list]; omega)]
        simp [St.list, show i < 8 from hi]
      obtain ⟨a, b, c, d, e, f, g', h⟩ := q
      have g0 : wr.cell? ⟨W5.heap.size, 0, none⟩ = some (.int .u32 (wn a)) := g 0 (by omega)
      have g1 : wr.cell? ⟨W5.heap.size, 1, none⟩ = some (.int .u32 (wn b)) := g 1 (by omega)
      have g2 : wr.cell? ⟨W5.heap.size, 2, none⟩ = some (.int .u32 (wn c)) := g 2 (by omega)
      have g3 : wr.cell? ⟨W5.heap.size, 3, none⟩ = some (.int .u32 (wn d)) := g 3 (by omega)
      have g4 : wr.cell? ⟨W5.heap.size, 4, none⟩ = some (.int .u32 (wn e)) := g 4 (by omega)
      have g5 : wr.cell? ⟨W5.heap.size, 5, none⟩ = some (.int .u32 (wn f)) := g 5 (by omega)
      have g6 : wr.cell? ⟨W5.heap.size, 6, none⟩ = some (.int .u32 (wn g')) := g 6 (by omega)
      have g7 : wr.cell? ⟨W5.heap.size, 7, none⟩ = some (.int .u32 (wn h)) := g 7 (by omega)
      have HR : Hid ((⟨h + (rotr e 6 ^^^ rotr e 11 ^^^ rotr e 25) + ((e &&& f) ||| ((e ^^^ 4294967295) &&& g')) + K.getD k 0 + SL.getD k 0 + ((rotr a 2 ^^^ rotr a 13 ^^^ rotr a 22) + ((a &&& b) ||| (a &&& c) ||| (b &&& c))), a, b, c,
          d + (h + (rotr e 6 ^^^ rotr e 11 ^^^ rotr e 25) + ((e &&& f) ||| ((e ^^^ 4294967295) &&& g')) + K.getD k 0 + SL.getD k 0), e, f, g'⟩ : St) = roundsTo (sched l) s (k + 1)) := Lib.hid (by
        rw [roundsTo, ← HQ.out, HSLL.out, ch_ref, maj_ref]
        rfl)
      generalize K.getD k 0 = kk at fk HR
      generalize SL.getD k 0 = ww at fw HR
      have HROW := Lib.hid hrow
      have HB := Lib.hid hb
      have ix := i_xor
      have ia := i_add
      have ian := i_and
      have io := i_or
      have ixf : ∀ x : UInt32, bits .xor .u32 (wn x) 4294967295 = ((wn (x ^^^ 4294967295) : Nat) : Int) := fun x => i_xor x 4294967295
      clear g hrow hb HQ
      go_wp2_with fail
      go_quiet (fail)
      go_wp2_with (go_at_call 109; refine (turned_any _ _ _ (by omega)).mono ?_; rintro e w' ⟨rfl, nt, rfl⟩)
      go_quiet (fail)
      have S8 : Hid ((Tryz.prog.info? 131).map (·.size) = some (W32 (St.list ⟨h + (rotr e 6 ^^^ rotr e 11 ^^^ rotr e 25) + ((e &&& f) ||| ((e ^^^ 4294967295) &&& g')) + kk + ww + ((rotr a 2 ^^^ rotr a 13 ^^^ rotr a 22) + ((a &&& b) ||| (a &&& c) ||| (b &&& c))), a, b, c,
          d + (h + (rotr e 6 ^^^ rotr e 11 ^^^ rotr e 25) + ((e &&& f) ||| ((e ^^^ 4294967295) &&& g')) + kk + ww), e, f, g'⟩)).toArray.size) := Lib.hid (size_8 rfl)
      go_wp2_with (first
        | (go_at_call 109; refine (turned_any _ _ _ (by omega)).mono ?_; rintro e w' ⟨rfl, nt, rfl⟩)
        | refine wpList_store_row rfl 131 _ _ rfl W5.heap.size (W32 (St.list ⟨h + (rotr e 6 ^^^ rotr e 11 ^^^ rotr e 25) + ((e &&& f) ||| ((e ^^^ 4294967295) &&& g')) + kk + ww + ((rotr a 2 ^^^ rotr a 13 ^^^ rotr a 22) + ((a &&& b) ||| (a &&& c) ||| (b &&& c))), a, b, c,
          d + (h + (rotr e 6 ^^^ rotr e 11 ^^^ rotr e 25) + ((e &&& f) ||| ((e ^^^ 4294967295) &&& g')) + kk + ww), e, f, g'⟩)).toArray rfl rfl 131 _ HROW.out S8.out rfl (W32_one _) ?_)
      exact ⟨⟨k + 1, _, by omega, HR, by go_num, setRow_heap (wr.drewN _) W5.heap.size _ _ _ (0, 0) HROW.out, below_setRow (below_drewN HB.out _) (Nat.le_refl _) _⟩, by simp [intOf]; omega⟩
    · obtain rfl : k = 64 := by omega
      rw [show ((64 : Nat) : Int) = 64 from rfl]
      have HCM : Hid (comp s l = s.add q) := Lib.hid (by rw [HQ.out]; rfl)
      have HROW := Lib.hid hrow
      have HB := Lib.hid hb
      clear hrow hb HQ
      go_wp2_with fail
      go_loopw [18] (fun i wr => ∃ k : Nat, k ≤ 8 ∧ i = .int .i64 k ∧ wr.heap[W5.heap.size]? = some (.cells (W32 (addTo q.list s.list k)).toArray 131 (0, 0)) ∧ Below W5.heap.size W9 wr) (fun i _ => 9 - (intOf i).toNat)
      case atStart => exact ⟨0, by omega, rfl, HROW.out, HB.out⟩
      case round =>
        clear HROW HB
        obtain ⟨k, hk, rfl, hrow, hb⟩ := hrel
        have hlen : (addTo q.list s.list k).length = 8 := addTo_length _ _ _
        by_cases hlt : k < 8
        · have hlt' : (k : Int) < 8 := by omega
          have hA : Arr wr W5.heap.size 131 (addTo q.list s.list k) := hrow
          have c9 := hA.cell (i := k) (by omega)
          have f9 := hA.frozen k
          have h2 : Arr wr w.heap.size 131 s.list := (hb.block _ HX6.out.2.2.1).trans G2.out
          have c2 := h2.cell (i := k) (by simp [St.list]; omega)
          rw [addTo_high q.list s.list k k (Nat.le_refl _)] at c9
          have HN : Hid ((addTo q.list s.list k).set k (q.list.getD k 0 + s.list.getD k 0) = addTo q.list s.list (k + 1)) := Lib.hid rfl
          generalize q.list.getD k 0 = x at c9 HN
          generalize s.list.getD k 0 = y at c2 HN
          have HA := Lib.hid hA
          have HB := Lib.hid hb
          have ia := i_add
          clear hlen hrow hA h2 hb
          go_upto_region 18 with (fail)
          refine wp_region_quiet_tail 9 (by kernel_rfl) (by kernel_rfl) ?_
          simp only [List.take_succ_cons, List.take_zero, List.drop_succ_cons, List.drop_zero]
          repeat (go_big_quiet_step (fail))
          refine wpQuiet_nil ?_
          go_wp2
          exact ⟨⟨k + 1, by omega, by go_num, by rw [← HN.out]; exact (HA.out.later (w' := wr.drew) rfl).set k _, (below_drewN HB.out 1).setCell (Nat.le_refl _) _⟩, by simp [intOf]; omega⟩
        · obtain rfl : k = 8 := by omega
          rw [show ((8 : Nat) : Int) = 8 from rfl]
          have HADD : Hid (addTo q.list s.list 8 = (comp s l).list) := Lib.hid (by rw [HCM.out]; simp [addTo, St.list, St.add, UInt32.add_comm])
          rw [HADD.out] at hrow
          have HROW := Lib.hid hrow
          have HR4 : Hid (wr.heap[W0.heap.size]? = some (.cells (Array.replicate 8 (.int .u32 0)) 131 (0, 0))) := Lib.hid ((hb.block _ HX6.out.2.2.2.1).trans G4.out)
          obtain ⟨C, HCC⟩ : ∃ C, Hid (C = (comp s l).list) := ⟨_, Lib.hid rfl⟩
          rw [← HCC.out] at HROW HV
          have HCL : Hid (C.length = 8) := Lib.hid (by rw [HCC.out]; rfl)
          have I8C := Lib.hid (size_8 (l := C) HCL.out)
          have O8C : Hid ((Array.replicate 8 (Value.int .u32 0)).size = (W32 C).toArray.size) := Lib.hid (by rw [Array.size_replicate, List.size_toArray, W32_length, HCL.out])
          have HBE : Hid (Below w.heap.size w (wr.setRow W0.heap.size (W32 C).toArray)) := Lib.hid (by
            have e0 := HS0.out
            have e1 := HB1.out.size
            have e2 := HB19.out.size
            have h1 := HB0.out.trans ((HB1.out.trans ((HB19.out.trans (hb.mono HX6.out.2.2.2.2.2)).mono e1)).mono (by omega))
            refine ⟨h1.os, h1.tape, h1.output, by simpa using h1.size, fun k hk => ?_⟩
            rw [setRow_other _ _ _ _ (by omega)]
            exact h1.block k hk)
          have HRE : Hid ((wr.setRow W0.heap.size (W32 C).toArray).heap[W0.heap.size]? = some (.cells (W32 C).toArray 131 (0, 0))) := Lib.hid (setRow_heap _ _ _ _ _ _ HR4.out)
          clear hrow hb hlen
          go_wp2_with (first
            | refine wpList_load_row rfl 131 _ rfl _ rfl _ (W32 C).toArray (0, 0) _ HROW.out Tryz.underlying131 rfl I8C.out ?_
            | refine wpList_store_row rfl 131 _ _ rfl W0.heap.size (W32 C).toArray rfl rfl _ _ HR4.out I8C.out O8C.out (W32_one _) ?_)
          exact bodyPost_ret (results_cell_row_tmp rfl _ _ W0.heap.size 131 _ (0, 0) _ rfl HRE.out Tryz.underlying131 rfl I8C.out) rfl ⟨by rw [HV.out, HE.out]; rfl, HBE.out⟩

theorem Block_ref_bad (v : Value) (s : St) (l : List UInt8) (w : World) (hv : Sl w v l) (h : ¬ l.length = 64) : Calls Tryz.prog 96 #[.agg (W32 s.list).toArray, v] w fun e w' => e = .returned (.tuple #[.agg (W32 (blockV s l)).toArray, .int .i64 (err64 l)]) ∧ Below w.heap.size w w' := by
  have HV : Hid (blockV s l = List.replicate 8 0) := Lib.hid (by rw [blockV, if_neg h])
  have HE : Hid (err64 l = 1) := Lib.hid (by rw [err64, if_neg h])
  obtain ⟨SL, HSLL⟩ : ∃ SL, Hid (SL = schedV l) := ⟨_, Lib.hid rfl⟩
  have HLS : Hid (SL.length = 64) := Lib.hid (by rw [HSLL.out, schedV, if_neg h]; simp)
  have I64 := Lib.hid (size_64 (l := SL) HLS.out)
  have O64 : Hid (64 = (W32 SL).toArray.size) := Lib.hid (by rw [List.size_toArray, W32_length, HLS.out])
  obtain ⟨Z, HZ, hbd⟩ := build8
  have HBD := Lib.hid hbd
  have H1 : Hid ((Tryz.prog.info? 131).map (·.size) = some Z.size) := Lib.hid (by rw [info_8, HZ.out]; simp)
  have H2 : Hid ((Array.replicate 8 (Value.int .u32 0)).size = Z.size) := Lib.hid (by rw [HZ.out])
  have H3 : Hid (Z.all (·.oneCell') = true) := Lib.hid (by rw [HZ.out]; exact zeros_one 8)
  obtain ⟨W0, HW0, HS0, HB0⟩ : ∃ W0, Hid (W0 = w.alloc (.cells (W32 s.list).toArray 131)) ∧ Hid (W0.heap.size = w.heap.size + 1) ∧ Hid (Below w.heap.size w W0) := ⟨_, Lib.hid rfl, Lib.hid (by simp), Lib.hid ((Below.refl _ _).alloc (Nat.le_refl _) _)⟩
  obtain ⟨W1, HW1, HB1, HR1⟩ : ∃ W1, Hid (W1 = W0.alloc (.cells (Array.replicate 8 (.int .u32 0)) 131)) ∧ Hid (Below W0.heap.size W0 W1) ∧ Hid (W1.heap[W0.heap.size]? = some (.cells (Array.replicate 8 (.int .u32 0)) 131 (0, 0))) := ⟨_, Lib.hid rfl, Lib.hid ((Below.refl _ _).alloc (Nat.le_refl _) _), Lib.hid (heap_alloc_new _ _)⟩
  have HSL : Hid (Sl W1 v l) := Lib.hid ((hv.later HB0.out).later HB1.out)
  clear hv h hbd
  go_enter Tryz.func96, Tryz.ntmps96
  go_upto_region 1 with (fail)
  change Code.wp _ _ _ _ ((w.alloc (.cells (W32 s.list).toArray 131)).alloc (.cells (Array.replicate 8 (.int .u32 0)) 131))
  rw [← HW0.out, ← HW1.out, ← HS0.out]
  go_wp2_with fail
  refine (Schedule_ref v l W1 HSL.out).mono ?_
  rintro e w2 ⟨rfl, hb2⟩
  rw [← HSLL.out, HE.out]
  have HB2 := Lib.hid hb2
  clear hb2
  go_upto_region 2 with (refine wpList_store_new rfl 144 _ _ rfl (W32 SL).toArray rfl rfl 144 _ I64.out O64.out (W32_one _) ?_)
  have HB3 : Hid (Below W0.heap.size W0 (w2.alloc (.cells (W32 SL).toArray 144))) := Lib.hid (HB1.out.trans ((HB2.out.alloc HB2.out.size _).mono HB1.out.size))
  have HR3 : Hid ((w2.alloc (.cells (W32 SL).toArray 144)).heap[W0.heap.size]? = some (.cells (Array.replicate 8 (.int .u32 0)) 131 (0, 0))) := Lib.hid (((HB2.out.alloc HB2.out.size _).block _ (Array.getElem?_eq_some_iff.1 HR1.out).1).trans HR1.out)
  generalize w2.alloc (.cells (W32 SL).toArray 144) = W3 at HB3 HR3 ⊢
  have HBE : Hid (Below w.heap.size w (W3.setRow W0.heap.size Z)) := Lib.hid (below_setRow (HB0.out.trans (HB3.out.mono (by have := HS0.out; omega))) (by have := HS0.out; omega) _)
  have HRE : Hid ((W3.setRow W0.heap.size Z).heap[W0.heap.size]? = some (.cells Z 131 (0, 0))) := Lib.hid (setRow_heap _ _ _ _ _ _ HR3.out)
  go_wp2_with (first
    | refine wpList_build0 rfl 131 rfl (.agg Z) HBD.out ?_
    | refine wpList_store_row rfl 131 _ _ rfl _ Z rfl rfl 131 _ HR3.out H1.out H2.out H3.out ?_)
  exact bodyPost_ret (results_cell_row_tmp rfl _ _ W0.heap.size 131 Z (0, 0) _ rfl HRE.out Tryz.underlying131 rfl H1.out) rfl ⟨by rw [HV.out, HE.out, W32_zeros, ← HZ.out]; rfl, HBE.out⟩

theorem Block_ref (v : Value) (s : St) (l : List UInt8) (w : World) (hv : Sl w v l) : Calls Tryz.prog 96 #[.agg (W32 s.list).toArray, v] w fun e w' => e = .returned (.tuple #[.agg (W32 (blockV s l)).toArray, .int .i64 (err64 l)]) ∧ Below w.heap.size w w' := by
  by_cases h : l.length = 64
  · exact Block_ref_good v s l w hv h
  · exact Block_ref_bad v s l w hv h
end Go.Proofs.YtcnelahmbfggcaaGreat

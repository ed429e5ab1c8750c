/- The walk of sha.block. -/
import Derived.Test.YtcnelahmbfggcaaShaC
namespace Go.Proofs.Ytcnelahmbfggcaa
open Go Go.RowKit
set_option maxRecDepth 100000
set_option maxHeartbeats 200000

theorem block_facts (w1 : World) (c z : Array Value) (S : List UInt32) (hc : c = (W32 K).toArray) :
    Arr (((w1.alloc (.cells c 115)).alloc (.cells z 115)).setRow (w1.heap.size + 1) (W32 S).toArray) (w1.heap.size + 1) 115 S ∧
    Arr (((w1.alloc (.cells c 115)).alloc (.cells z 115)).setRow (w1.heap.size + 1) (W32 S).toArray) w1.heap.size 115 K ∧
    Below w1.heap.size w1 (((w1.alloc (.cells c 115)).alloc (.cells z 115)).setRow (w1.heap.size + 1) (W32 S).toArray) := by
  refine ⟨setRow_heap _ _ z _ _ _ (heap_alloc2_new _ _ _), ?_, ?_⟩
  · unfold Arr
    rw [setRow_other _ _ _ _ (by omega)]
    rw [← hc]
    exact heap_alloc2_old _ _ _
  · refine ⟨rfl, rfl, rfl, by simp; omega, fun k hk => ?_⟩
    rw [setRow_other _ _ _ _ (by omega), Below.heap_alloc _ _ k (by simp; omega), Below.heap_alloc _ _ k hk]

theorem index_8 (l : List UInt32) (hl : l.length = 8) (k : Nat) (hk : k < 8) (w : World) : (Instr.index 105 (.agg (W32 l).toArray) (.int .i64 k)).run Try.prog w = .ok (.int .u32 (wn (l.getD k 0))) w := by
  have h1 : (0 : Int) ≤ k ∧ (k : Int) < 8 := by omega
  have h2 : (W32 l)[k]? = some (.int .u32 (wn (l.getD k 0))) := by
    rw [W32_getElem?, List.getElem?_eq_getElem (by omega)]
    simp [show k < l.length by omega]
  simp [Instr.index, asIntOf, go_sem, hk, h2]
/-- the first k words are added -/
def addTo (a b : List UInt32) : Nat → List UInt32
  | 0 => a
  | k + 1 => (addTo a b k).set k (a.getD k 0 + b.getD k 0)
theorem addTo_length (a b : List UInt32) (k : Nat) : (addTo a b k).length = a.length := by
  induction k with
  | zero => rfl
  | succ k ih => simp [addTo, ih]
theorem addTo_high (a b : List UInt32) (k j : Nat) (h : k ≤ j) : (addTo a b k).getD j 0 = a.getD j 0 := by
  induction k with
  | zero => rfl
  | succ k ih =>
    have := ih (by omega)
    simp only [List.getD_eq_getElem?_getD] at *
    rw [addTo, List.getElem?_set_ne (by omega)]
    exact this
theorem addTo_end (s q : St) : addTo s.list q.list 8 = (s.add q).list := rfl

set_option maxRecDepth 100000 in
theorem block_any (sb : Nat) (b off cap : Nat) (s : St) (rest : List Value) (t : TypeId) (l : List UInt8) (w : World) (hl : l.length = 64) (hcap : 64 ≤ cap ∧ cap ≤ maxLen)
    (hc : ∀ i (h : i < l.length), w.cell? ⟨b, off + i, none⟩ = some (.int .u8 (bn l[i]))) (hs : w.heap[sb]? = some (.cells (W32 s.list ++ rest).toArray t (0, 0))) :
    Calls Try.prog 65 #[.pointer (some ⟨sb, 0, none⟩), .slice (some ⟨b, off, none⟩) 64 cap] w fun e w' =>
      e = .returned (.tuple #[]) ∧ w'.heap[sb]? = some (.cells (W32 (comp s l).list ++ rest).toArray t (0, 0)) ∧ w.grownBy w' (some sb) := by
  have HC := Lib.hid hc
  have HS := Lib.hid hs
  have hsb : sb < w.heap.size := (Array.getElem?_eq_some_iff.1 hs).1
  have HL : Hid ((sched l).length = 64) := Lib.hid (by simp [sched, schedTo_length])
  have HZ := Lib.hid (size_64 (l := sched l) HL.out)
  have HSZ : Hid (64 = (W32 (sched l)).toArray.size) := Lib.hid (by rw [List.size_toArray, W32_length, HL.out])
  clear hc hs
  go_enter Try.func65, Try.ntmps65
  go_wp2_with fail
  refine (schedule_any b off cap l _ hl hcap HC.out).mono ?_
  rintro e w1 ⟨rfl, hb⟩
  have HB := Lib.hid hb
  clear hb
  go_wp2_with fail
  refine (words_any _).mono ?_
  rintro e w2 ⟨c, HK, rfl, rfl⟩
  go_wp2_with (refine wpList_store_row rfl 115 _ _ rfl _ (W32 (sched l)).toArray rfl rfl 115 _ (heap_alloc2_new _ _ _) HZ.out HSZ.out (W32_one _) ?_)
  have F := block_facts w1 c (W32 (List.replicate 64 0)).toArray (sched l) HK.out
  obtain ⟨W, HW, F1, F2, F3⟩ : ∃ W, Hid (W = ((w1.alloc (.cells c 115)).alloc (.cells (W32 (List.replicate 64 0)).toArray 115)).setRow (w1.heap.size + 1) (W32 (sched l)).toArray) ∧ Hid (Arr W (w1.heap.size + 1) 115 (sched l)) ∧ Hid (Arr W w1.heap.size 115 K) ∧ Hid (Below w1.heap.size w1 W) :=
    ⟨_, Lib.hid rfl, Lib.hid F.1, Lib.hid F.2.1, Lib.hid F.2.2⟩
  clear F
  change Code.wp _ _ _ _ (((w1.alloc (.cells c 115)).alloc (.cells (W32 (List.replicate 64 0)).toArray 115)).setRow (w1.heap.size + 1) (W32 (sched l)).toArray)
  rw [← HW.out]
  have BW : Hid (Below w.heap.size w W) := Lib.hid (HB.out.trans (F3.out.mono HB.out.size))
  have hst : W.heap[sb]? = some (.cells (W32 s.list ++ rest).toArray t (0, 0)) := (BW.out.block sb hsb).trans HS.out
  have g (i : Nat) (hi : i < 8) : W.cell? ⟨sb, i, none⟩ = some (.int .u32 (wn (s.list.getD i 0))) := by
    rw [cell_of_row W sb i _ t (0, 0) hst, List.getElem?_toArray, List.getElem?_append_left (by simp [W32_length, St.list]; omega), W32_getElem?, List.getElem?_eq_getElem (by simp [St.list]; omega)]
    simp [St.list, show i < 8 from hi]
  have g0 : W.cell? ⟨sb, 0, none⟩ = some (.int .u32 (wn s.a)) := g 0 (by omega)
  have g1 : W.cell? ⟨sb, 1, none⟩ = some (.int .u32 (wn s.b)) := g 1 (by omega)
  have g2 : W.cell? ⟨sb, 2, none⟩ = some (.int .u32 (wn s.c)) := g 2 (by omega)
  have g3 : W.cell? ⟨sb, 3, none⟩ = some (.int .u32 (wn s.d)) := g 3 (by omega)
  have g4 : W.cell? ⟨sb, 4, none⟩ = some (.int .u32 (wn s.e)) := g 4 (by omega)
  have g5 : W.cell? ⟨sb, 5, none⟩ = some (.int .u32 (wn s.f)) := g 5 (by omega)
  have g6 : W.cell? ⟨sb, 6, none⟩ = some (.int .u32 (wn s.g)) := g 6 (by omega)
  have g7 : W.cell? ⟨sb, 7, none⟩ = some (.int .u32 (wn s.h)) := g 7 (by omega)
  have HST := Lib.hid hst
  clear g hst
  go_quiet (fail)
  clear g0 g1 g2 g3 g4 g5 g6 g7
  go_wp2_with fail
  go_loopw [6, 7, 8, 9, 10, 11, 12, 13, 54] (fun va vb vc vd ve vf vg vh i wr => ∃ (k : Nat) (q : St) (nd : Nat), k ≤ 64 ∧ Hid (q = roundsTo (sched l) s k) ∧ wr = W.drewN nd ∧ i = .int .i64 k ∧
    va = .int .u32 (wn q.a) ∧ vb = .int .u32 (wn q.b) ∧ vc = .int .u32 (wn q.c) ∧ vd = .int .u32 (wn q.d) ∧ ve = .int .u32 (wn q.e) ∧ vf = .int .u32 (wn q.f) ∧ vg = .int .u32 (wn q.g) ∧ vh = .int .u32 (wn q.h)) (fun _ _ _ _ _ _ _ _ i _ => 65 - (intOf i).toNat)
  case atStart => exact ⟨0, s, nq, by omega, Lib.hid rfl, rfl, rfl, rfl, rfl, rfl, rfl, rfl, rfl, rfl, rfl⟩
  case round =>
    obtain ⟨k, q, nd, hk, HQ, rfl, rfl, rfl, rfl, rfl, rfl, rfl, rfl, rfl, rfl⟩ := hrel
    by_cases hlt : k < 64
    · have hlt' : (k : Int) < 64 := by omega
      have fk := F2.out.cell (i := k) (by simp [K]; omega)
      have fw := F1.out.cell (i := k) (by rw [HL.out]; omega)
      have HR : Hid (round q (K.getD k 0) ((sched l).getD k 0) = roundsTo (sched l) s (k + 1)) := Lib.hid (by rw [HQ.out]; rfl)
      unfold round ch maj big0 big1 at HR
      generalize K.getD k 0 = kk at fk HR
      generalize (sched l).getD k 0 = ww at fw HR
      obtain ⟨a, b', c', d, e', f, g, h⟩ := q
      dsimp only at HR
      have ix := i_xor
      have ia := i_add
      have ian := i_and
      go_wp2_with fail
      go_quiet ((go_at_call 74; exact (turn_any _ _ _ (by omega)).mono fun _ _ h => ⟨h.1, _, h.2⟩))
      go_wp2_with (go_at_call 74; refine (turn_any _ _ _ (by omega)).mono ?_; rintro e w' ⟨rfl, rfl⟩)
      exact ⟨⟨k + 1, _, _, by omega, HR, rfl, by go_num, by rw [i_add], rfl, rfl, rfl, by rw [i_add], rfl, rfl, rfl⟩, by simp [intOf]; omega⟩
    · obtain rfl : k = 64 := by omega
      rw [show ((64 : Nat) : Int) = 64 from rfl]
      have HCM : Hid (comp s l = s.add q) := Lib.hid (by rw [HQ.out]; rfl)
      have hql : q.list.length = 8 := rfl
      have HQL := Lib.hid hql
      clear HQ hql F1 F2 HL HZ HSZ HK HW
      go_wp2_with fail
      go_loopw [127] (fun i wr => ∃ k : Nat, k ≤ 8 ∧ i = .int .i64 k ∧ wr.heap[sb]? = some (.cells (W32 (addTo s.list q.list k) ++ rest).toArray t (0, 0)) ∧ W.grownBy wr (some sb)) (fun i _ => 9 - (intOf i).toNat)
      case atStart => exact ⟨0, by omega, rfl, HST.out, ⟨rfl, rfl, rfl, Nat.le_refl _, fun _ _ _ => rfl⟩⟩
      case round =>
        obtain ⟨k, hk, rfl, hst, hg⟩ := hrel
        have HG := Lib.hid hg
        clear hg
        by_cases hlt : k < 8
        · have hlt' : (k : Int) < 8 := by omega
          have hidx := index_8 q.list HQL.out k hlt
          have hlen : (addTo s.list q.list k).length = 8 := addTo_length _ _ _
          have hcell : wr.cell? ⟨sb, k, none⟩ = some (.int .u32 (wn (s.list.getD k 0))) := by
            rw [cell_of_row wr sb k _ t (0, 0) hst, List.getElem?_toArray, List.getElem?_append_left (by rw [W32_length]; omega), W32_getElem?, List.getElem?_eq_getElem (by omega)]
            have := addTo_high s.list q.list k k (Nat.le_refl _)
            rw [← this]
            simp [show k < (addTo s.list q.list k).length by omega]
          have hfz := frozen_of_row wr sb k _ t hst
          have HN : Hid ((addTo s.list q.list k).set k (s.list.getD k 0 + q.list.getD k 0) = addTo s.list q.list (k + 1)) := Lib.hid rfl
          have hidx' : ∀ w, (Instr.index 105 (.agg #[.int .u32 (wn q.a), .int .u32 (wn q.b), .int .u32 (wn q.c), .int .u32 (wn q.d), .int .u32 (wn q.e), .int .u32 (wn q.f), .int .u32 (wn q.g), .int .u32 (wn q.h)]) (.int .i64 k)).run Try.prog w = .ok (.int .u32 (wn (q.list.getD k 0))) w := hidx
          generalize q.list.getD k 0 = x at hidx hidx' HN
          generalize s.list.getD k 0 = y at hcell HN
          have HST2 := Lib.hid hst
          have HLN := Lib.hid hlen
          clear hidx hst hlen
          have ia := i_add
          go_wp2_with fail
          refine wp_region_quiet_tail 9 (by kernel_rfl) (by kernel_rfl) ?_
          simp only [List.take_succ_cons, List.take_zero, List.drop_succ_cons, List.drop_zero]
          repeat (go_big_quiet_step (fail))
          refine wpQuiet_nil ?_
          go_wp2
          refine ⟨⟨k + 1, by omega, by go_num, ?_, grownBy_drew (grownBy_setCell HG.out k _)⟩, by simp [intOf]; omega⟩
          show (wr.setCell ⟨sb, k, none⟩ (.int .u32 (wn (y + x)))).heap[sb]? = _
          rw [heap_setCell_same wr sb k _ t _ HST2.out, ← HN.out]
          congr 2
          apply Array.toList_inj.1
          simp only [List.setIfInBounds_toArray]
          rw [List.set_append_left _ _ (by rw [W32_length, HLN.out]; exact hlt)]
          simp [W32, List.map_set]
        · obtain rfl : k = 8 := by omega
          rw [show ((8 : Nat) : Int) = 8 from rfl]
          have HST2 := Lib.hid hst
          clear hst
          go_wp2
          go_end0
          refine ⟨rfl, ?_, grownBy_trans (grownBy_of_below BW.out) HG.out⟩
          rw [HST2.out, HCM.out, addTo_end]
end Go.Proofs.Ytcnelahmbfggcaa

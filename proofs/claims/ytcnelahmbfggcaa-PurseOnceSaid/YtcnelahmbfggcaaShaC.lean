/- The walk of sha.schedule. -/
import Derived.Test.YtcnelahmbfggcaaShaA
import Derived.StillTailTactics
namespace Go.Proofs.Ytcnelahmbfggcaa
open Go Go.RowKit
set_option maxRecDepth 100000
set_option maxHeartbeats 400000

/-- block b is a variable of n words -/
def Arr (w : World) (b : Nat) (t : TypeId) (l : List UInt32) : Prop := w.heap[b]? = some (.cells (W32 l).toArray t (0, 0))
theorem Arr.cell {w : World} {b : Nat} {t : TypeId} {l : List UInt32} (h : Arr w b t l) {i : Nat} (hi : i < l.length) : w.cell? ⟨b, i, none⟩ = some (.int .u32 (wn (l.getD i 0))) := by
  rw [cell_of_row w b i _ t (0, 0) h, List.getElem?_toArray, W32_getElem?, List.getElem?_eq_getElem hi]
  simp [hi]
theorem Arr.frozen {w : World} {b : Nat} {t : TypeId} {l : List UInt32} (h : Arr w b t l) (i : Nat) : w.frozen? ⟨b, i, none⟩ = false := frozen_of_row w b i _ t h
theorem Arr.set {w : World} {b : Nat} {t : TypeId} {l : List UInt32} (h : Arr w b t l) (i : Nat) (x : UInt32) : Arr (w.setCell ⟨b, i, none⟩ (.int .u32 (wn x))) b t (l.set i x) := by
  unfold Arr
  rw [heap_setCell_same w b i _ t _ h]
  congr 2
  apply Array.toList_inj.1
  simp [W32, List.map_set]
theorem Arr.later {w w' : World} {b : Nat} {t : TypeId} {l : List UInt32} (h : Arr w b t l) (hb : w'.heap[b]? = w.heap[b]?) : Arr w' b t l := hb.trans h
theorem Arr.lt {w : World} {b : Nat} {t : TypeId} {l : List UInt32} (h : Arr w b t l) : b < w.heap.size := (Array.getElem?_eq_some_iff.1 h).1
theorem set_fill (l : List UInt32) (n k : Nat) (x : UInt32) (hl : l.length = k) (hk : k < n) : (l ++ List.replicate (n - k) 0).set k x = (l ++ [x]) ++ List.replicate (n - (k + 1)) 0 := by
  subst hl
  rw [List.set_append_right _ _ (Nat.le_refl _), Nat.sub_self, show n - l.length = (n - (l.length + 1)) + 1 by omega, List.replicate_succ, List.set_cons_zero, List.append_assoc]
  rfl
theorem schedTo_low (l : List UInt8) (k : Nat) (h : k < 16) : schedTo l k ++ [wordAt l (4 * k)] = schedTo l (k + 1) := by simp [schedTo, h]
theorem schedTo_high (l : List UInt8) (k : Nat) (h : ¬ k < 16) : schedTo l k ++ [schedNext (schedTo l k) k] = schedTo l (k + 1) := by simp [schedTo, h]
theorem below_drewN {B : Nat} {a w : World} (h : Below B a w) (n : Nat) : Below B a (w.drewN n) := ⟨h.os, h.tape, h.output, h.size, h.block⟩

theorem schedule_any (b off cap : Nat) (l : List UInt8) (w : World) (hl : l.length = 64) (hcap : 64 ≤ cap ∧ cap ≤ maxLen) (hc : ∀ i (h : i < l.length), w.cell? ⟨b, off + i, none⟩ = some (.int .u8 (bn l[i]))) :
    Calls Try.prog 72 #[.slice (some ⟨b, off, none⟩) 64 cap] w fun e w' => e = .returned (.agg (W32 (sched l)).toArray) ∧ Below w.heap.size w w' := by
  have HC := Lib.hid hc
  clear hc
  go_enter Try.func72, Try.ntmps72
  go_wp2_with fail
  go_loopw [9] (fun i wr => ∃ k : Nat, k ≤ 16 ∧ i = .int .i64 k ∧ Arr wr w.heap.size 115 (schedTo l k ++ List.replicate (64 - k) 0) ∧ Below w.heap.size w wr) (fun i _ => 17 - (intOf i).toNat)
  case atStart => exact ⟨0, by omega, rfl, heap_alloc_new w _, (Below.refl _ _).alloc (Nat.le_refl _) _⟩
  case round =>
    obtain ⟨k, hk, rfl, ha, hb⟩ := hrel
    by_cases hlt : k < 16
    · have hlt' : (k : Int) < 16 := by omega
      have HA := Lib.hid ha
      have hcb := HC.out 0 (by omega)
      have hblt : b < w.heap.size := World.block_lt_of_cell? _ _ hcb
      have c (j : Nat) (hj : 4 * k + j < 64) : wr.cell? ⟨b, off + 4 * k + j, none⟩ = some (.int .u8 (bn (l.getD (4 * k + j) 0))) := by
        rw [hb.cell hblt, Nat.add_assoc, HC.out (4 * k + j) (by omega)]
        simp [show 4 * k + j < l.length by omega]
      have c0 := Lib.hid (c 0 (by omega))
      have c1 := Lib.hid (c 1 (by omega))
      have c2 := Lib.hid (c 2 (by omega))
      have c3 := Lib.hid (c 3 (by omega))
      have hlen : (schedTo l k ++ List.replicate (64 - k) 0).length = 64 := by simp [schedTo_length]; omega
      have hcell := ha.cell (i := k) (by omega)
      have hfz := ha.frozen k
      generalize (schedTo l k ++ List.replicate (64 - k) 0).getD k 0 = old at hcell
      have HS := Lib.hid (set_fill (schedTo l k) 64 k (wordAt l (4 * k)) (schedTo_length l k) (by omega))
      have HN := Lib.hid (schedTo_low l k hlt)
      have HB := Lib.hid hb
      have hcap1 : 4 * (k : Int) ≤ cap := by omega
      clear c ha hcb hlen hb
      go_wp2_with (go_at_call 78; refine (word_any b (off + 4 * k) _ (64 - 4 * k) l (4 * k) _ (by omega) (by omega) c0.out c1.out c2.out c3.out).mono ?_; rintro e w1 ⟨rfl, nq, rfl⟩; generalize wordAt l (4 * k) = x at *)
      exact ⟨⟨k + 1, by omega, by go_num, by rw [← HN.out, ← HS.out]; exact (HA.out.later (w' := wr.drewN nq) rfl).set k x, (below_drewN HB.out nq).setCell (Nat.le_refl _) _⟩, by simp [intOf]; omega⟩
    · obtain rfl : k = 16 := by omega
      have HA := Lib.hid ha
      have HB := Lib.hid hb
      clear ha hb
      rw [show ((16 : Nat) : Int) = 16 from rfl]
      go_wp2_with fail
      go_loopw [4] (fun i wr => ∃ k : Nat, 16 ≤ k ∧ k ≤ 64 ∧ i = .int .i64 k ∧ Arr wr w.heap.size 115 (schedTo l k ++ List.replicate (64 - k) 0) ∧ Below w.heap.size w wr) (fun i _ => 65 - (intOf i).toNat)
      case atStart => exact ⟨16, by omega, by omega, rfl, HA.out, HB.out⟩
      case round =>
        clear HA HB
        obtain ⟨k, hk1, hk2, rfl, ha, hb⟩ := hrel
        by_cases hlt : k < 64
        · have hlt' : (k : Int) < 64 := by omega
          have HA := Lib.hid ha
          have hlen : (schedTo l k ++ List.replicate (64 - k) 0).length = 64 := by simp [schedTo_length]; omega
          have hget (j : Nat) (hj : 1 ≤ j ∧ j ≤ 16) : (schedTo l k ++ List.replicate (64 - k) 0).getD (k - j) 0 = (schedTo l k).getD (k - j) 0 := by
            simp only [List.getD_eq_getElem?_getD]
            rw [List.getElem?_append_left (by rw [schedTo_length]; omega)]
          have d15 := ha.cell (i := k - 15) (by omega)
          have d2 := ha.cell (i := k - 2) (by omega)
          have d16 := ha.cell (i := k - 16) (by omega)
          have d7 := ha.cell (i := k - 7) (by omega)
          rw [hget _ (by omega)] at d15 d2 d16 d7
          have hcell := ha.cell (i := k) (by omega)
          have hfz := ha.frozen k
          generalize (schedTo l k ++ List.replicate (64 - k) 0).getD k 0 = old at hcell
          have HS := Lib.hid (fun x => set_fill (schedTo l k) 64 k x (schedTo_length l k) (by omega))
          have HN := Lib.hid (schedTo_high l k (by omega))
          have hnext : schedNext (schedTo l k) k = (schedTo l k).getD (k - 16) 0 + sig0 ((schedTo l k).getD (k - 15) 0) + (schedTo l k).getD (k - 7) 0 + sig1 ((schedTo l k).getD (k - 2) 0) := rfl
          rw [hnext] at HN
          have HB := Lib.hid hb
          unfold sig0 sig1 at HN
          generalize (schedTo l k).getD (k - 16) 0 = x16 at *
          generalize (schedTo l k).getD (k - 15) 0 = x15 at *
          generalize (schedTo l k).getD (k - 7) 0 = x7 at *
          generalize (schedTo l k).getD (k - 2) 0 = x2 at *
          clear ha hlen hb hget hnext
          go_wp2_with fail
          go_quiet (fail)
          have ix := i_xor
          have i3 : ∀ a x : UInt32, bits .xor .u32 (wn a) ((wn x : Int) / 8) = wn (a ^^^ (x >>> 3)) := fun a x => by rw [show (8 : Int) = 2 ^ (3 : UInt32).toNat from by decide, i_shr x 3 (by decide), i_xor]
          have i10 : ∀ a x : UInt32, bits .xor .u32 (wn a) ((wn x : Int) / 1024) = wn (a ^^^ (x >>> 10)) := fun a x => by rw [show (1024 : Int) = 2 ^ (10 : UInt32).toNat from by decide, i_shr x 10 (by decide), i_xor]
          have ia := i_add
          go_wp2_with (go_at_call 74; refine (turn_any _ _ _ (by omega)).mono ?_; rintro e w' ⟨rfl, rfl⟩)
          refine wp_region_quiet_tail 15 (by kernel_rfl) (by kernel_rfl) ?_
          simp only [List.take_succ_cons, List.take_zero, List.drop_succ_cons, List.drop_zero]
          repeat (go_big_quiet_step (fail))
          refine wpQuiet_nil ?_
          go_wp2
          go_roundw
          case rel => exact ⟨k + 1, by omega, by omega, by go_num, by rw [← HN.out, ← HS.out]; exact (HA.out.later (w' := (wr.drewN nq).drew) rfl).set k _, ((below_drewN HB.out nq).drew).setCell (Nat.le_refl _) _⟩
          case measure => simp [intOf]; omega
        · obtain rfl : k = 64 := by omega
          rw [show ((64 : Nat) : Int) = 64 from rfl]
          have ha' : Arr wr w.heap.size 115 (sched l) := by simpa [sched] using ha
          have HA := Lib.hid ha'
          have HB := Lib.hid hb
          have HZ := Lib.hid (size_64 (l := sched l) (by simp [sched, schedTo_length]))
          clear ha hb ha'
          go_wp2_with (first | (refine wpList_load_row rfl 115 _ rfl _ rfl _ (W32 (sched l)).toArray (0, 0) _ HA.out Try.underlying115 rfl HZ.out ?_) | (refine wpList_store_same rfl 115 _ _ rfl w.heap.size (W32 (sched l)).toArray rfl rfl _ HA.out HZ.out (W32_one _) ?_))
          exact bodyPost_ret (results_cell_row rfl _ _ w.heap.size 115 _ (0, 0) _ rfl HA.out Try.underlying115 rfl HZ.out) rfl ⟨rfl, HB.out⟩
end Go.Proofs.Ytcnelahmbfggcaa

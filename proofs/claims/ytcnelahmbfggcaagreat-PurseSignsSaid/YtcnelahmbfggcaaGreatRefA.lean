/- The walks of the document's SHA: turned, rounds, Schedule. -/
import Derived.Test.YtcnelahmbfggcaaGreatShaI
import Derived.Test.YtcnelahmbfggcaaGreatKit2
namespace Go.Proofs.YtcnelahmbfggcaaGreat
open Go Go.RowKit
set_option maxRecDepth 100000
set_option maxHeartbeats 1000000

theorem i_rot2 (x : UInt32) (k : Nat) (h1 : 1 ≤ k) (h2 : k ≤ 31) : bits .or .u32 ((wn x : Int) / 2 ^ k) ((wn x : Int) * 2 ^ (32 - k) % 4294967296) = ((wn (rotr x k) : Nat) : Int) := by
  have e1 : (UInt32.ofNat k).toNat = k := by simp; omega
  have e2 : (UInt32.ofNat (32 - k)).toNat = 32 - k := by simp; omega
  have a := i_shl x (UInt32.ofNat (32 - k)) (by omega)
  have b := i_shr x (UInt32.ofNat k) (by omega)
  rw [e2] at a
  rw [e1] at b
  rw [a, b, i_or, rotr]
theorem turned_any (x : UInt32) (k : Int) (w : World) (hk : 1 ≤ k ∧ k ≤ 31) : Calls Tryz.prog 109 #[.int .u32 (wn x), .int .i64 k] w fun e w' => e = .returned (.int .u32 (wn (rotr x k.toNat))) ∧ ∃ n, w' = w.drewN n := by
  obtain ⟨k, rfl⟩ := Int.eq_ofNat_of_zero_le (show 0 ≤ k by omega)
  have h1 : 1 ≤ k := by omega
  have h2 : k ≤ 31 := by omega
  have e : 32 - (k : Int) = ((32 - k : Nat) : Int) := by omega
  have hw : IntKind.i64.wrap (32 - (k : Int)) = ((32 - k : Nat) : Int) := by rw [IntKind.wrap_i64]; omega
  go_enter Tryz.func109, Tryz.ntmps109
  go_wp2_with fail
  go_quiet (fail)
  go_wp2_with fail
  go_ret
  exact ⟨ret_int (i_rot2 x k h1 h2), _, rfl⟩
theorem Schedule_ref (v : Value) (l : List UInt8) (w : World) (hv : Sl w v l) : Calls Tryz.prog 107 #[v] w fun e w' => e = .returned (.tuple #[.agg (W32 (schedV l)).toArray, .int .i64 (err64 l)]) ∧ Below w.heap.size w w' := by
  by_cases h : l.length = 64
  · rcases hv with ⟨rfl, _⟩ | ⟨b, off, cap, rfl, h0, h1, h2, hc⟩
    · simp at h
    have HV : Hid (schedV l = sched l) := Lib.hid (by rw [schedV, if_pos h])
    have HE : Hid (err64 l = 0) := Lib.hid (by rw [err64, if_pos h])
    have hblt : b < w.heap.size := World.block_lt_of_cell? _ _ (hc 0 (by omega))
    obtain ⟨Z, HZ, hb⟩ := build64
    have HB := Lib.hid hb
    have I64 : Hid ((Tryz.prog.info? 144).map (·.size) = some Z.size) := Lib.hid (by rw [info_64, HZ.out]; simp)
    have O64 : Hid (64 = Z.size) := Lib.hid (by rw [HZ.out]; simp)
    have Z1 : Hid (Z.all (·.oneCell') = true) := Lib.hid (by rw [HZ.out]; exact zeros_one 64)
    obtain ⟨W0, HW0, HS0, HB0⟩ : ∃ W0, Hid (W0 = w.alloc (.cells (Array.replicate 64 (.int .u32 0)) 144)) ∧ Hid (W0.heap.size = w.heap.size + 1) ∧ Hid (Below w.heap.size w W0) := ⟨_, Lib.hid rfl, Lib.hid (by simp), Lib.hid ((Below.refl _ _).alloc (Nat.le_refl _) _)⟩
    obtain ⟨W1, HW1, HB1⟩ : ∃ W1, Hid (W1 = W0.alloc (.cells Z 144)) ∧ Hid (Below W0.heap.size W0 W1) := ⟨_, Lib.hid rfl, Lib.hid ((Below.refl _ _).alloc (Nat.le_refl _) _)⟩
    have hs0 := HS0.out
    have HC : Hid (∀ i (h : i < l.length), W1.cell? ⟨b, off + i, none⟩ = some (.int .u8 (bn l[i]))) := Lib.hid fun i hi => ((HB0.out.trans (HB1.out.mono (by omega))).cell hblt).trans (hc i hi)
    have HL := Lib.hid h
    have HA0 : Hid (Arr W1 W0.heap.size 144 (schedTo l 0 ++ List.replicate 64 0)) := Lib.hid (by unfold Arr; rw [HW1.out, schedTo, List.nil_append, W32_zeros, ← HZ.out]; exact heap_alloc_new W0 _)
    have HR0 : Hid (W1.heap[w.heap.size]? = some (.cells (Array.replicate 64 (.int .u32 0)) 144 (0, 0))) := Lib.hid ((HB1.out.block w.heap.size (by omega)).trans (by rw [HW0.out]; exact heap_alloc_new w _))
    have HBL : Hid (b < W1.heap.size) := Lib.hid (by have := HB1.out.size; omega)
    rw [h]
    clear hc h h0 h1 hs0 hb
    go_enter Tryz.func107, Tryz.ntmps107
    go_upto_region 1 with (fail)
    change Code.wp _ _ _ _ (w.alloc (.cells (Array.replicate 64 (.int .u32 0)) 144))
    rw [← HW0.out]
    go_upto_region 2 with (first
      | refine wpList_build0 rfl 144 rfl (.agg Z) HB.out ?_
      | refine wpList_store_new rfl 144 _ _ rfl Z rfl rfl 144 _ I64.out O64.out Z1.out ?_)
    rw [← HW1.out]
    go_wp2_with fail
    go_loopw [5] (fun i wr => ∃ k : Nat, k ≤ 16 ∧ i = .int .i64 k ∧ Arr wr W0.heap.size 144 (schedTo l k ++ List.replicate (64 - k) 0) ∧ Below W0.heap.size W1 wr) (fun i _ => 17 - (intOf i).toNat)
    case atStart => exact ⟨0, by omega, rfl, HA0.out, Below.refl _ _⟩
    case round =>
      obtain ⟨k, hk, rfl, ha, hb⟩ := hrel
      by_cases hlt : k < 16
      · have hlt' : (k : Int) < 16 := by omega
        have HA := Lib.hid ha
        have c (j : Nat) (hj : 4 * k + j < 64) : wr.cell? ⟨b, off + (4 * k + j), none⟩ = some (.int .u8 (bn (l.getD (4 * k + j) 0))) := by
          rw [hb.cell (p := ⟨b, off + (4 * k + j), none⟩) (by have := HBL.out; have := HS0.out; simp; omega), HC.out (4 * k + j) (by have := HL.out; omega)]
          simp [show 4 * k + j < l.length by have := HL.out; omega]
        have c0 : wr.cell? ⟨b, off + (4 * k), none⟩ = some (.int .u8 (bn (l.getD (4 * k) 0))) := c 0 (by omega)
        have c1 := c 1 (by omega)
        have c2 := c 2 (by omega)
        have c3 := c 3 (by omega)
        have hlen : (schedTo l k ++ List.replicate (64 - k) 0).length = 64 := by simp [schedTo_length]; omega
        have hcell := ha.cell (i := k) (by omega)
        have hfz := ha.frozen k
        generalize (schedTo l k ++ List.replicate (64 - k) 0).getD k 0 = old at hcell
        have HS := Lib.hid (set_fill (schedTo l k) 64 k (wordAt l (4 * k)) (schedTo_length l k) (by omega))
        have HN := Lib.hid (schedTo_low l k hlt)
        have HB2 := Lib.hid hb
        have HW : Hid (((l.getD (4 * k) 0).toUInt32 <<< 24) ||| ((l.getD (4 * k + 1) 0).toUInt32 <<< 16) ||| ((l.getD (4 * k + 2) 0).toUInt32 <<< 8) ||| (l.getD (4 * k + 3) 0).toUInt32 = wordAt l (4 * k)) := Lib.hid rfl
        generalize l.getD (4 * k) 0 = x0 at c0 HW
        generalize l.getD (4 * k + 1) 0 = x1 at c1 HW
        generalize l.getD (4 * k + 2) 0 = x2 at c2 HW
        generalize l.getD (4 * k + 3) 0 = x3 at c3 HW
        have e0 : IntKind.i64.wrap (4 * (k : Int)) = 4 * k := by rw [IntKind.wrap_i64]; omega
        have e1 : IntKind.i64.wrap (4 * (k : Int) + 1) = 4 * k + 1 := by rw [IntKind.wrap_i64]; omega
        have e2 : IntKind.i64.wrap (4 * (k : Int) + 2) = 4 * k + 2 := by rw [IntKind.wrap_i64]; omega
        have e3 : IntKind.i64.wrap (4 * (k : Int) + 3) = 4 * k + 3 := by rw [IntKind.wrap_i64]; omega
        have p0 : (0 : Int) ≤ 4 * k ∧ 4 * (k : Int) < 64 := by omega
        have p1 : (0 : Int) ≤ 4 * k + 1 ∧ 4 * (k : Int) + 1 < 64 := by omega
        have p2 : (0 : Int) ≤ 4 * k + 2 ∧ 4 * (k : Int) + 2 < 64 := by omega
        have p3 : (0 : Int) ≤ 4 * k + 3 ∧ 4 * (k : Int) + 3 < 64 := by omega
        have t0 : (4 * (k : Int)).toNat = 4 * k := by omega
        have t1 : (4 * (k : Int) + 1).toNat = 4 * k + 1 := by omega
        have t2 : (4 * (k : Int) + 2).toNat = 4 * k + 2 := by omega
        have t3 : (4 * (k : Int) + 3).toNat = 4 * k + 3 := by omega
        obtain ⟨p00, p01⟩ := p0
        obtain ⟨p10, p11⟩ := p1
        obtain ⟨p20, p21⟩ := p2
        obtain ⟨p30, p31⟩ := p3
        clear c ha hlen hb
        go_upto_region 7 with (fail)
        refine wp_region_quiet_tail 35 (by kernel_rfl) (by kernel_rfl) ?_
        simp only [List.take_succ_cons, List.take_zero, List.drop_succ_cons, List.drop_zero]
        repeat (go_big_quiet_step (fail))
        refine wpQuiet_nil ?_
        rw [i_word, HW.out]
        generalize wordAt l (4 * k) = x at *
        clear p00 p01 p10 p11 p20 p21 p30 p31 t0 t1 t2 t3 e0 e1 e2 e3
        go_wp2_with fail
        exact ⟨⟨k + 1, by omega, by go_num, by rw [← HN.out, ← HS.out]; exact (HA.out.later (w' := wr.drew) rfl).set k x, (below_drewN HB2.out 1).setCell (Nat.le_refl _) _⟩, by simp [intOf]; omega⟩
      · obtain rfl : k = 16 := by omega
        have HA := Lib.hid ha
        have HB2 := Lib.hid hb
        clear ha hb
        rw [show ((16 : Nat) : Int) = 16 from rfl]
        go_wp2_with fail
        go_loopw [6] (fun i wr => ∃ k : Nat, 16 ≤ k ∧ k ≤ 64 ∧ i = .int .i64 k ∧ Arr wr W0.heap.size 144 (schedTo l k ++ List.replicate (64 - k) 0) ∧ Below W0.heap.size W1 wr) (fun i _ => 65 - (intOf i).toNat)
        case atStart => exact ⟨16, by omega, by omega, rfl, HA.out, HB2.out⟩
        case round =>
          clear HA HB2
          obtain ⟨k, hk1, hk2, rfl, ha, hb⟩ := hrel
          by_cases hlt : k < 64
          · have hlt' : (k : Int) < 64 := by omega
            have HA := Lib.hid ha
            have hlen : (schedTo l k ++ List.replicate (64 - k) 0).length = 64 := by simp [schedTo_length]; omega
            have hget (j : Nat) (hj : 1 ≤ j ∧ j ≤ 16) : (schedTo l k ++ List.replicate (64 - k) 0).getD (k - j) 0 = (schedTo l k).getD (k - j) 0 := by
              simp only [List.getD_eq_getElem?_getD]
              rw [List.getElem?_append_left (by rw [schedTo_length]; omega)]
            have d15 := ha.cell (i := k - 15) (by omega)
            have d2 := ha.cell (i := k - 2) (by omega)
            have d16 := ha.cell (i := k - 16) (by omega)
            have d7 := ha.cell (i := k - 7) (by omega)
            rw [hget _ (by omega)] at d15 d2 d16 d7
            have hcell := ha.cell (i := k) (by omega)
            have hfz := ha.frozen k
            generalize (schedTo l k ++ List.replicate (64 - k) 0).getD k 0 = old at hcell
            have HS := Lib.hid (fun x => set_fill (schedTo l k) 64 k x (schedTo_length l k) (by omega))
            have HN := Lib.hid (schedTo_high l k (by omega))
            have hnext : schedNext (schedTo l k) k = sig1 ((schedTo l k).getD (k - 2) 0) + (schedTo l k).getD (k - 7) 0 + sig0 ((schedTo l k).getD (k - 15) 0) + (schedTo l k).getD (k - 16) 0 := by
              unfold schedNext
              generalize sig1 _ = a
              generalize sig0 _ = b
              generalize (schedTo l k).getD (k - 7) 0 = c
              generalize (schedTo l k).getD (k - 16) 0 = d
              ac_rfl
            rw [hnext] at HN
            have HB2 := Lib.hid hb
            unfold sig0 sig1 at HN
            generalize (schedTo l k).getD (k - 16) 0 = x16 at *
            generalize (schedTo l k).getD (k - 15) 0 = x15 at *
            generalize (schedTo l k).getD (k - 7) 0 = x7 at *
            generalize (schedTo l k).getD (k - 2) 0 = x2 at *
            clear ha hlen hb hget hnext
            go_wp2_with fail
            go_quiet (fail)
            have ix := i_xor
            have i3 : ∀ a x : UInt32, bits .xor .u32 (wn a) ((wn x : Int) / 8) = wn (a ^^^ (x >>> 3)) := fun a x => by rw [show (8 : Int) = 2 ^ (3 : UInt32).toNat from by decide, i_shr x 3 (by decide), i_xor]
            have i10 : ∀ a x : UInt32, bits .xor .u32 (wn a) ((wn x : Int) / 1024) = wn (a ^^^ (x >>> 10)) := fun a x => by rw [show (1024 : Int) = 2 ^ (10 : UInt32).toNat from by decide, i_shr x 10 (by decide), i_xor]
            have ia := i_add
            go_wp2_with (go_at_call 109; refine (turned_any _ _ _ (by omega)).mono ?_; rintro e w' ⟨rfl, nt, rfl⟩)
            refine wp_region_quiet_tail 15 (by kernel_rfl) (by kernel_rfl) ?_
            simp only [List.take_succ_cons, List.take_zero, List.drop_succ_cons, List.drop_zero]
            repeat (go_big_quiet_step (fail))
            refine wpQuiet_nil ?_
            go_wp2
            exact ⟨⟨k + 1, by omega, by omega, by go_num, by rw [← HN.out, ← HS.out]; exact (HA.out.later (w' := wr.drewN _) rfl).set k _, (below_drewN HB2.out _).setCell (Nat.le_refl _) _⟩, by simp [intOf]; omega⟩
          · obtain rfl : k = 64 := by omega
            rw [show ((64 : Nat) : Int) = 64 from rfl]
            have ha' : Arr wr W0.heap.size 144 (sched l) := by simpa [sched] using ha
            have HA := Lib.hid ha'
            have HLS : Hid ((sched l).length = 64) := Lib.hid (by simp [sched, schedTo_length])
            have HZ2 := Lib.hid (size_64 (l := sched l) HLS.out)
            have HSZ : Hid ((Array.replicate 64 (Value.int .u32 0)).size = (W32 (sched l)).toArray.size) := Lib.hid (by rw [Array.size_replicate, List.size_toArray, W32_length, HLS.out])
            have HRW : Hid (wr.heap[w.heap.size]? = some (.cells (Array.replicate 64 (.int .u32 0)) 144 (0, 0))) := Lib.hid ((hb.block w.heap.size (by have := HS0.out; omega)).trans HR0.out)
            have HBE : Hid (Below w.heap.size w (wr.setRow w.heap.size (W32 (sched l)).toArray)) := Lib.hid (by
              have e1 := HS0.out
              have h1 := HB0.out.trans ((HB1.out.trans hb).mono (by omega))
              refine ⟨h1.os, h1.tape, h1.output, by simpa using h1.size, fun k hk => ?_⟩
              rw [setRow_other _ _ _ _ (by omega)]
              exact h1.block k hk)
            have HRE : Hid ((wr.setRow w.heap.size (W32 (sched l)).toArray).heap[w.heap.size]? = some (.cells (W32 (sched l)).toArray 144 (0, 0))) := Lib.hid (setRow_heap _ _ _ _ _ _ HRW.out)
            clear ha hb ha'
            go_wp2_with (first
              | refine wpList_load_row rfl 144 _ rfl _ rfl _ (W32 (sched l)).toArray (0, 0) _ HA.out Tryz.underlying144 rfl HZ2.out ?_
              | refine wpList_store_row rfl 144 _ _ rfl w.heap.size (W32 (sched l)).toArray rfl rfl _ _ HRW.out HZ2.out HSZ.out (W32_one _) ?_)
            exact bodyPost_ret (results_cell_row_tmp rfl _ _ w.heap.size 144 _ (0, 0) _ rfl HRE.out Tryz.underlying144 rfl HZ2.out) rfl ⟨by rw [HV.out, HE.out]; rfl, HBE.out⟩
  · obtain ⟨av, cv, rfl⟩ : ∃ a cap, v = .slice a l.length cap := by
      rcases hv with ⟨rfl, a, c, rfl⟩ | ⟨b, off, cap, rfl, _⟩
      · exact ⟨a, c, rfl⟩
      · exact ⟨_, cap, rfl⟩
    have HV : Hid (schedV l = List.replicate 64 0) := Lib.hid (by rw [schedV, if_neg h])
    have HE : Hid (err64 l = 1) := Lib.hid (by rw [err64, if_neg h])
    have hi : ¬ (l.length : Int) = 64 := by omega
    obtain ⟨Z, HZ, hb⟩ := build64
    have HB := Lib.hid hb
    have I64 : Hid ((Tryz.prog.info? 144).map (·.size) = some Z.size) := Lib.hid (by rw [info_64, HZ.out]; simp)
    have O64 : Hid (64 = Z.size) := Lib.hid (by rw [HZ.out]; simp)
    have Z1 : Hid (Z.all (·.oneCell') = true) := Lib.hid (by rw [HZ.out]; exact zeros_one 64)
    have O64' : Hid ((Array.replicate 64 (Value.int .u32 0)).size = Z.size) := Lib.hid (by rw [HZ.out])
    obtain ⟨W0, HW0, HS0, HB0⟩ : ∃ W0, Hid (W0 = w.alloc (.cells (Array.replicate 64 (.int .u32 0)) 144)) ∧ Hid (W0.heap.size = w.heap.size + 1) ∧ Hid (Below w.heap.size w W0) := ⟨_, Lib.hid rfl, Lib.hid (by simp), Lib.hid ((Below.refl _ _).alloc (Nat.le_refl _) _)⟩
    obtain ⟨W1, HW1, HB1, HA1⟩ : ∃ W1, Hid (W1 = W0.alloc (.cells Z 144)) ∧ Hid (Below W0.heap.size W0 W1) ∧ Hid (W1.heap[W0.heap.size]? = some (.cells Z 144 (0, 0))) := ⟨_, Lib.hid rfl, Lib.hid ((Below.refl _ _).alloc (Nat.le_refl _) _), Lib.hid (heap_alloc_new _ _)⟩
    have hs0 := HS0.out
    have HR0 : Hid (W1.heap[w.heap.size]? = some (.cells (Array.replicate 64 (.int .u32 0)) 144 (0, 0))) := Lib.hid ((HB1.out.block w.heap.size (by omega)).trans (by rw [HW0.out]; exact heap_alloc_new w _))
    have HBE : Hid (Below w.heap.size w (W1.setRow w.heap.size Z)) := Lib.hid (by
      have h1 := HB0.out.trans (HB1.out.mono (by omega))
      refine ⟨h1.os, h1.tape, h1.output, by simpa using h1.size, fun k hk => ?_⟩
      rw [setRow_other _ _ _ _ (by omega)]
      exact h1.block k hk)
    have HRE : Hid ((W1.setRow w.heap.size Z).heap[w.heap.size]? = some (.cells Z 144 (0, 0))) := Lib.hid (setRow_heap _ _ _ _ _ _ HR0.out)
    clear hb hs0 hv
    go_enter Tryz.func107, Tryz.ntmps107
    go_upto_region 1 with (fail)
    change Code.wp _ _ _ _ (w.alloc (.cells (Array.replicate 64 (.int .u32 0)) 144))
    rw [← HW0.out]
    go_upto_region 2 with (first
      | refine wpList_build0 rfl 144 rfl (.agg Z) HB.out ?_
      | refine wpList_store_new rfl 144 _ _ rfl Z rfl rfl 144 _ I64.out O64.out Z1.out ?_)
    rw [← HW1.out]
    go_wp2_with (first
      | refine wpList_load_row rfl 144 _ rfl _ rfl _ Z (0, 0) _ HA1.out Tryz.underlying144 rfl I64.out ?_
      | refine wpList_store_row rfl 144 _ _ rfl w.heap.size Z rfl rfl _ _ HR0.out I64.out O64'.out Z1.out ?_)
    exact bodyPost_ret (results_cell_row_tmp rfl _ _ w.heap.size 144 _ (0, 0) _ rfl HRE.out Tryz.underlying144 rfl I64.out) rfl ⟨by rw [HV.out, HE.out, W32_zeros, ← HZ.out]; rfl, HBE.out⟩
end Go.Proofs.YtcnelahmbfggcaaGreat

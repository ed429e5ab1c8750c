/- The walk of the law ElectWaits. -/
import Derived.Test.YtgkhgjoggkcklaaPlWaits
import Derived.Test.YtgkhgjoggkcklaaEGood
namespace Go.Proofs.Ytgkhgjoggkcklaa
open Go Go.RowKit
set_option maxRecDepth 100000
set_option maxHeartbeats 4000000

theorem ElectWaits_any (F T me : Int) (turns : Int) (w : World) (ht : 0 ≤ turns ∧ turns ≤ 255) :
    Calls Try.prog 7 #[.agg (SizeV F T), .int .i64 me, .int .u8 turns] w fun e w' => e = .returned (.bool true) ∧ Below w.heap.size w w' := by
  obtain ⟨V, HV, HB, HS, HE⟩ : ∃ V, Hid (V = w.alloc (.cells (SizeV F T) 23)) ∧ Hid (Below w.heap.size w V) ∧ Hid (V.heap.size = w.heap.size + 1) ∧ Hid (V.heap[w.heap.size]? = some (.cells (SizeV F T) 23 (0, 0))) := ⟨_, Lib.hid rfl, Lib.hid ((Below.refl _ _).alloc (Nat.le_refl _) _), Lib.hid (by simp), Lib.hid (heap_alloc_new _ _)⟩
  have IS : (Try.prog.info? 23).map (·.size) = some (SizeV F T).size := info_size
  have HN := Lib.hid (New_any F T me V)
  by_cases hok : newOk F T me = true
  · simp only [hok, if_true, forall_const] at HN
    obtain ⟨h1, h2⟩ : rightS F T = true ∧ (0 ≤ me ∧ me < 3 * F + 2 * T + 1) := by simpa [newOk] using hok
    have hR := (rightS_iff F T).1 h1
    obtain ⟨m, rfl⟩ : ∃ m : Nat, me = m := ⟨me.toNat, by omega⟩
    obtain ⟨N, HNN⟩ : ∃ N : Nat, Hid (3 * F + 2 * T + 1 = N) := ⟨(3 * F + 2 * T + 1).toNat, Lib.hid (by obtain ⟨r1, r2, r3, r4⟩ := hR; omega)⟩
    have HSZ : Hid (SizeOk F T m N) := Lib.hid ⟨hR, HNN.out.symm, by have := HNN.out; omega⟩
    have HNB : Hid (N ≤ 1000 ∧ 0 < N) := Lib.hid (by have := HNN.out; obtain ⟨r1, r2, r3, r4⟩ := hR; omega)
    have HTI := Lib.hid (fun vv wait (E : El) w' (h1 : SlI w' .i64 vv E.votes) (hE : E.votes.length = N) a b c d => Tick_any F T m vv wait E w' h1 hR (by rw [hE]; exact HNB.out.1) (by rw [hE]; exact HSZ.out.hme) a b c d)
    have HGO := Lib.hid (fun view va vn vc clock wait w' => Good_any F T m view va vn vc clock wait w')
    rw [HNN.out, Int.toNat_natCast] at HN
    obtain ⟨ht1, ht2⟩ := ht
    clear hok h1 h2
    go_enter Try.func7, Try.ntmps7
    go_upto_region 1 with (fail)
    rw [← HV.out]
    go_upto_region 2 with (first
      | ((with_reducible refine at_load 23 _ rfl ?_); refine wpList_load_row rfl 23 _ rfl _ rfl _ (SizeV F T) (0, 0) _ HE.out Try.underlying23 rfl IS ?_)
      | (go_at_call 24; refine HN.out.mono ?_; rintro e w1 ⟨v1, rfl, ⟨s1, p1⟩, b1⟩; obtain ⟨a1, d1, hv1⟩ := s1.shape; rw [List.length_replicate] at hv1; subst hv1; have HSx := Lib.hid s1; have HP1 := Lib.hid (fun k h => s1.blt (by have := HNB.out.2; simp; exact this) k h); have HB1 := Lib.hid b1; clear s1 b1 p1)
      | ((with_reducible refine at_store 26 _ _ rfl ?_); refine wpList_store_new rfl 26 _ _ rfl (ElV F T m 0 (.slice a1 N d1) 0 4) rfl rfl 26 _ info_el rfl ElV_one ?_))
    obtain ⟨nb, Hnb⟩ : ∃ nb, Hid (nb = w1.heap.size) := ⟨_, Lib.hid rfl⟩
    obtain ⟨W1, HW1, HE1, HBW1, HS1, HZ1, HNW⟩ : ∃ W, Hid (W = w1.alloc (.cells (ElV F T m 0 (.slice a1 N d1) 0 4) 26)) ∧ Hid (ElB W nb 26 F T m 0 (.slice a1 N d1) 0 4) ∧ Hid (Below w.heap.size w W) ∧ Hid (SlI W .i64 (.slice a1 N d1) (List.replicate N 0)) ∧ Hid (nb < W.heap.size) ∧ Hid (w.heap.size ≤ nb) :=
      ⟨_, Lib.hid rfl, Lib.hid (by rw [Hnb.out]; exact heap_alloc_new _ _), Lib.hid ((HB.out.trans (HB1.out.mono HB.out.size)).alloc (Nat.le_trans HB.out.size HB1.out.size) _), Lib.hid (HSx.out.later ((Below.refl _ _).alloc (Nat.le_refl _) _)), Lib.hid (by rw [Hnb.out]; simp), Lib.hid (by rw [Hnb.out]; exact Nat.le_trans HB.out.size HB1.out.size)⟩
    have HP2 : Hid (∀ k, (Value.slice a1 N d1).ownBlock = some k → k ≠ nb) := Lib.hid (fun k h => by rw [Hnb.out]; exact Nat.ne_of_lt (HP1.out k h))
    rw [← HW1.out, ← Hnb.out]
    clear HW1 Hnb HSx HP1 HB1 HE HN
    try simp only [Act.put]
    go_upto_region 6 with (fail)
    obtain ⟨M, HM, HMB⟩ : ∃ M : Nat, Hid (turns % 12 = (M : Int)) ∧ Hid (M ≤ 11) := ⟨(turns % 12).toNat, Lib.hid (by omega), Lib.hid (by omega)⟩
    have HS1' : Hid (SlI W1 .i64 (.slice a1 N d1) (st N m 0 1).votes) := Lib.hid (by have h2 := wt_bd 0; rw [st, if_pos (by omega)]; simp only [Int.natCast_zero, vts_zero]; exact HS1.out)
    have HE1' : Hid (ElB W1 nb 26 F T m 0 (.slice a1 N d1) (st N m 0 1).clock (stW 0 1)) := Lib.hid (by have h2 := wt_bd 0; rw [st, stW, if_pos (by omega), if_pos (by omega)]; exact HE1.out)
    clear HS1 HE1
    go_loopw [9, 10] (fun wv iv wr => ∃ (i : Nat) (v' : Value), i ≤ M ∧ iv = .int .i64 i ∧ wv = .int .i64 (wt i : Nat) ∧ Hid (ElB wr nb 26 F T m 0 v' (st N m i 1).clock (stW i 1)) ∧ Hid (SlI wr .i64 v' (st N m i 1).votes) ∧ Hid (∀ k, v'.ownBlock = some k → k ≠ nb) ∧ Hid (Below w.heap.size w wr) ∧ Hid (nb < wr.heap.size)) (fun _ iv _ => M - (intOf iv).toNat)
    case atStart => exact ⟨0, _, by omega, rfl, rfl, HE1', HS1', HP2, HBW1, HZ1⟩
    case round =>
      obtain ⟨i, v', hi, rfl, rfl, HEi, HSi, HPi, HBi, HZi⟩ := hrel
      have hwt := wt_bd i
      have hM := HMB.out
      have hMi : (M : Int) ≤ 11 := by omega
      have hm0 := HM.out
      by_cases hlt : i < M
      · have hlt' : (i : Int) < M := by omega
        go_upto_region 9 with (fail)
        obtain ⟨q, Hq⟩ : ∃ q, Hid (q = wt i) := ⟨_, Lib.hid rfl⟩
        rw [← Hq.out] at hwt ⊢
        obtain ⟨hq1, hq2⟩ := hwt
        clear hm0
        go_loopw [11] (fun kv wr2 => ∃ (k : Nat) (v' : Value), 1 ≤ k ∧ k ≤ q + 1 ∧ kv = .int .i64 k ∧ Hid (ElB wr2 nb 26 F T m 0 v' (st N m i k).clock (stW i k)) ∧ Hid (SlI wr2 .i64 v' (st N m i k).votes) ∧ Hid (∀ k, v'.ownBlock = some k → k ≠ nb) ∧ Hid (Below w.heap.size w wr2) ∧ Hid (nb < wr2.heap.size)) (fun kv _ => q + 1 - (intOf kv).toNat)
        case atStart => exact ⟨1, _, by omega, by omega, rfl, HEi, HSi, HPi, HBi, HZi⟩
        case round =>
          obtain ⟨k, v', hk1, hk2, rfl, HEk, HSk, HPk, HBk, HZk⟩ := hrel
          by_cases hkq : k ≤ q
          · have hkq' : (k : Int) ≤ q := by omega
            have hk4 : (k : Int) ≤ 4096 := by omega
            have dk1 : decide ((k : Int) ≤ q) = true := decide_eq_true hkq'
            have dk2 : decide ((k : Int) ≤ 4096) = true := decide_eq_true hk4
            have HST := Lib.hid (st_tick F T N m i k HSZ.out (by omega) (by rw [← Hq.out]; exact hkq))
            have hb := st_bd N m i k HSZ.out.hme (by omega) (by omega)
            have hb2 := st_bd N m i (k + 1) HSZ.out.hme (by omega) (by omega)
            have HCK : Hid (0 ≤ (st N m i k).clock) := Lib.hid (by rw [st, if_pos (by rw [← Hq.out]; exact hkq)]; simp only; omega)
            have HWK : Hid (0 ≤ stW i k ∧ stW i k ≤ 100000) := Lib.hid (by rw [stW, if_pos (by rw [← Hq.out]; exact hkq)]; have := wt_bd i; omega)
            have HTK := Lib.hid (HTI.out v' (stW i k) (st N m i k) wr HSk.out hb.2.1 HWK.out ⟨HCK.out, by omega⟩ (by rw [hb.1]; omega) hb.2.2.2.2)
            rw [HST.out.1, HST.out.2.1, HST.out.2.2.1, HST.out.2.2.2, hb.1, hb2.1, ← Hq.out] at HTK
            have HL2 : Hid ((st N m i (k + 1)).votes.length = N) := Lib.hid hb2.2.1
            obtain ⟨vo, Hvo⟩ : ∃ vo : Int, Hid (vo = if k = q then (i : Int) + 1 else 0) := ⟨_, Lib.hid rfl⟩
            rw [← Hvo.out] at HTK
            obtain ⟨a0, d0, hv0⟩ := HSk.out.shape
            rw [hb.2.1] at hv0
            subst hv0
            clear hb hb2 HST HCK HWK
            go_upto_region 12 with (first
              | ((with_reducible refine at_load 26 _ rfl ?_); refine wpList_load_row rfl 26 _ rfl _ rfl _ (ElV F T m 0 (.slice a0 N d0) (st N m i k).clock (stW i k)) (0, 0) _ HEk.out Try.underlying26 rfl info_el ?_)
              | (go_at_call 18; refine HTK.out.mono ?_; rintro e w3 ⟨v2, rfl, s2, p2, b2⟩; obtain ⟨a2, d2, hv2⟩ := s2.shape; rw [HL2.out] at hv2; subst hv2; have H3S := Lib.hid s2; have H3P := Lib.hid p2; have H3B := Lib.hid b2; have HT := Lib.hid (two_rows w3 26 34 (ElV 0 0 0 0 (.slice none 0 0) 0 0) (ElV F T m 0 (.slice a2 N d2) (st N m i (k + 1)).clock (stW i (k + 1))) #[.int .i64 0, .int .i64 0] #[.int .i64 vo, .int .i64 0]); clear s2 p2 b2)
              | ((with_reducible refine at_store 26 _ _ rfl ?_); refine wpList_store_row rfl 26 _ _ rfl w3.heap.size (ElV F T m 0 (.slice a2 N d2) (st N m i (k + 1)).clock (stW i (k + 1))) rfl rfl 26 _ HT.out.1 info_el rfl ElV_one ?_)
              | ((with_reducible refine at_store 34 _ _ rfl ?_); refine wpList_store_row rfl 34 _ _ rfl (w3.heap.size + 1) #[.int .i64 vo, .int .i64 0] rfl rfl 34 _ HT.out.2.1 info_out rfl out_one ?_))
            obtain ⟨W4, HW4, H4B, H4E, H4O⟩ : ∃ W, Hid (W = (((w3.alloc (.cells (ElV 0 0 0 0 (.slice none 0 0) 0 0) 26)).alloc (.cells #[.int .i64 0, .int .i64 0] 34)).setRow w3.heap.size (ElV F T m 0 (.slice a2 N d2) (st N m i (k + 1)).clock (stW i (k + 1)))).setRow (w3.heap.size + 1) #[.int .i64 vo, .int .i64 0]) ∧ Hid (Below w3.heap.size w3 W) ∧ Hid (ElB W w3.heap.size 26 F T m 0 (.slice a2 N d2) (st N m i (k + 1)).clock (stW i (k + 1))) ∧ Hid (OutB W (w3.heap.size + 1) 34 vo 0) :=
              ⟨_, Lib.hid rfl, Lib.hid HT.out.2.2.2.2, Lib.hid HT.out.2.2.1, Lib.hid HT.out.2.2.2.1⟩
            change Code.wp _ _ _ _ ((((w3.alloc (.cells (ElV 0 0 0 0 (.slice none 0 0) 0 0) 26)).alloc (.cells #[.int .i64 0, .int .i64 0] 34)).setRow w3.heap.size (ElV F T m 0 (.slice a2 N d2) (st N m i (k + 1)).clock (stW i (k + 1)))).setRow (w3.heap.size + 1) #[.int .i64 vo, .int .i64 0])
            rw [← HW4.out]
            have H4K : Hid (Below wr.heap.size wr W4) := Lib.hid (H3B.out.trans (H4B.out.mono H3B.out.size))
            have H4N := Lib.hid (HEk.out.later H4K.out)
            have H4S := Lib.hid (H3S.out.later H4B.out)
            have H4W : Hid (Below w.heap.size w W4) := Lib.hid (HBk.out.trans (H4K.out.mono HBk.out.size))
            have H4P : Hid (∀ k, (Value.slice a2 N d2).ownBlock = some k → k ≠ nb) := Lib.hid (fun k hk => by
              rcases H3P.out k hk with h3 | ⟨h3, -⟩
              · exact HPk.out k h3
              · have := HZk.out; omega)
            obtain ⟨b1, Hb1⟩ : ∃ b1, Hid (b1 = w3.heap.size) := ⟨_, Lib.hid rfl⟩
            rw [← Hb1.out] at H4E H4O ⊢
            clear HT HW4 H3S H3P H3B H4B H4K
            try simp only [Act.put]
            have H5E := Lib.hid (setRow_heap _ _ _ (ElV F T m 0 (.slice a2 N d2) (st N m i (k + 1)).clock (stW i (k + 1))) _ _ H4N.out)
            have H5S : Hid (SlI (W4.setRow nb (ElV F T m 0 (.slice a2 N d2) (st N m i (k + 1)).clock (stW i (k + 1)))) .i64 (.slice a2 N d2) (st N m i (k + 1)).votes) := Lib.hid (H4S.out.kept ((Kept.refl (fun k => k = nb) W4).row (show (fun k => k = nb) nb from rfl) _) (fun b hb => H4P.out b hb))
            have H5B := Lib.hid (below_row H4W.out HNW.out (ElV F T m 0 (.slice a2 N d2) (st N m i (k + 1)).clock (stW i (k + 1))))
            have H5Z : Hid (nb < (W4.setRow nb (ElV F T m 0 (.slice a2 N d2) (st N m i (k + 1)).clock (stW i (k + 1)))).heap.size) := Lib.hid (by have := H4N.out.lt; simpa using this)
            obtain ⟨o0, o1⟩ := H4O.out.cells
            obtain ⟨c0, c1, c2, c3, c4, c5, c6⟩ := H4E.out.cells
            by_cases hkk : k = q
            · have Hvo2 : Hid (vo = (i : Int) + 1) := Lib.hid (by rw [Hvo.out, if_pos hkk])
              obtain rfl := Hvo2.out
              have e1 : ((i : Int) + 1 != 0) = true := bne_iff_ne.2 (by omega)
              have e2 : ((k : Int) == (q : Int)) = true := by rw [hkk]; simp
              clear hkk Hvo
              go_wp2_with (first
                | ((with_reducible refine at_load 26 _ rfl ?_); refine wpList_load_row rfl 26 _ rfl _ rfl _ (ElV F T m 0 (.slice a2 N d2) (st N m i (k + 1)).clock (stW i (k + 1))) (0, 0) _ H4E.out Try.underlying26 rfl info_el ?_)
                | ((with_reducible refine at_store 26 _ _ rfl ?_); refine wpList_store_row rfl 26 _ _ rfl nb (ElV F T m 0 (.slice a2 N d2) (st N m i (k + 1)).clock (stW i (k + 1))) rfl rfl 26 _ H4N.out info_el rfl ElV_one ?_))
              go_roundw
              case rel => exact ⟨k + 1, _, by omega, by omega, by go_num, H5E, H5S, H4P, H5B, H5Z⟩
              case measure => simp [intOf]; omega
            · have Hvo2 : Hid (vo = 0) := Lib.hid (by rw [Hvo.out, if_neg hkk])
              obtain rfl := Hvo2.out
              have e2 : ((k : Int) == (q : Int)) = false := beq_eq_false_iff_ne.2 (by omega)
              clear Hvo
              go_wp2_with (first
                | ((with_reducible refine at_load 26 _ rfl ?_); refine wpList_load_row rfl 26 _ rfl _ rfl _ (ElV F T m 0 (.slice a2 N d2) (st N m i (k + 1)).clock (stW i (k + 1))) (0, 0) _ H4E.out Try.underlying26 rfl info_el ?_)
                | ((with_reducible refine at_store 26 _ _ rfl ?_); refine wpList_store_row rfl 26 _ _ rfl nb (ElV F T m 0 (.slice a2 N d2) (st N m i (k + 1)).clock (stW i (k + 1))) rfl rfl 26 _ H4N.out info_el rfl ElV_one ?_))
              go_roundw
              case rel => exact ⟨k + 1, _, by omega, by omega, by go_num, H5E, H5S, H4P, H5B, H5Z⟩
              case measure => simp [intOf]; omega
          · obtain rfl : k = q + 1 := by omega
            have HSN := Lib.hid (st_next N m i)
            have HWS := Lib.hid (wt_succ i)
            rw [← Hq.out] at HSN HWS
            rw [HSN.out.1] at HSk
            rw [HSN.out.1, HSN.out.2] at HEk
            have dk1 : decide (((q + 1 : Nat) : Int) ≤ q) = false := decide_eq_false (by omega)
            go_wp2_with fail
            go_roundw
            case rel => exact ⟨i + 1, _, by omega, by go_num, by rw [← HWS.out], HEk, HSk, HPk, HBk, HZk⟩
            case measure => simp [intOf]; omega
      · obtain rfl : i = M := by omega
        have HSb := Lib.hid ((st_bd N m i 1 HSZ.out.hme (by omega) (by omega)).2.1)
        obtain ⟨a0, d0, hv0⟩ := HSi.out.shape
        rw [HSb.out] at hv0
        subst hv0
        clear hwt
        go_upto_region 17 with (first
          | ((with_reducible refine at_load 26 _ rfl ?_); refine wpList_load_row rfl 26 _ rfl _ rfl _ (ElV F T m 0 (.slice a0 N d0) (st N m i 1).clock (stW i 1)) (0, 0) _ HEi.out Try.underlying26 rfl info_el ?_)
          | (go_at_call 22; refine (HGO.out 0 a0 N d0 (st N m i 1).clock (stW i 1) wr).mono ?_; rintro e w5 ⟨rfl, b5⟩; have H5B := Lib.hid b5; have H5E := Lib.hid (HEi.out.later b5); clear b5)
          | ((with_reducible refine at_store 26 _ _ rfl ?_); refine wpList_store_row rfl 26 _ _ rfl nb (ElV F T m 0 (.slice a0 N d0) 0 4) rfl rfl 26 _ H5E.out info_el rfl ElV_one ?_))
        obtain ⟨X, HX, HXE, HXB⟩ : ∃ X, Hid (X = w5.setRow nb (ElV F T m 0 (.slice a0 N d0) 0 4)) ∧ Hid (ElB X nb 26 F T m 0 (.slice a0 N d0) 0 4) ∧ Hid (Below w.heap.size w X) :=
          ⟨_, Lib.hid rfl, Lib.hid (setRow_heap _ _ _ _ _ _ H5E.out), Lib.hid (below_row (HBi.out.trans (H5B.out.mono HBi.out.size)) HNW.out _)⟩
        rw [← HX.out]
        clear HX H5E H5B HEi HSi
        try simp only [Act.put]
        go_wp2_with (go_at_call 11; refine (alive24_any _).mono ?_; rintro e w6 ⟨rfl, b6⟩; have H6B := Lib.hid (HXB.out.trans (b6.mono HXB.out.size)); have H6E := Lib.hid (HXE.out.later b6); obtain ⟨c0, c1, c2, c3, c4, c5, c6⟩ := H6E.out.cells; clear b6)
        go_ret
        exact ⟨rfl, H6B.out⟩
  · have hok' : newOk F T me = false := by simpa using hok
    simp only [hok', Bool.false_eq_true, if_false, false_implies, true_and, exists_const] at HN
    clear hok hok'
    go_enter Try.func7, Try.ntmps7
    go_upto_region 1 with (fail)
    rw [← HV.out]
    go_wp2_with (first
      | ((with_reducible refine at_load 23 _ rfl ?_); refine wpList_load_row rfl 23 _ rfl _ rfl _ (SizeV F T) (0, 0) _ HE.out Try.underlying23 rfl IS ?_)
      | (go_at_call 24; refine HN.out.mono ?_; rintro e w1 ⟨rfl, b1⟩; have HB1 : Hid (Below w.heap.size w (w1.alloc (.cells (ElV 0 0 0 0 (.slice none 0 0) 0 0) 26))) := Lib.hid ((HB.out.trans (b1.mono HB.out.size)).alloc (Nat.le_trans HB.out.size b1.size) _); clear b1)
      | ((with_reducible refine at_store 26 _ _ rfl ?_); refine wpList_store_new rfl 26 _ _ rfl (ElV 0 0 0 0 (.slice none 0 0) 0 0) rfl rfl 26 _ info_el rfl ElV_one ?_)
      | (go_at_call 11; refine (alive24_any _).mono ?_; rintro e w6 ⟨rfl, b6⟩; have H6B := Lib.hid (HB1.out.trans (b6.mono HB1.out.size)); clear b6))
    go_ret
    exact ⟨rfl, H6B.out⟩
end Go.Proofs.Ytgkhgjoggkcklaa

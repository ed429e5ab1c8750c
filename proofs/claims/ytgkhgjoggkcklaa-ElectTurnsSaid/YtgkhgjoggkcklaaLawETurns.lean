/- The walk of the law ElectTurns. -/
import Derived.Test.YtgkhgjoggkcklaaERTick
import Derived.Test.YtgkhgjoggkcklaaESame
import Derived.Test.YtgkhgjoggkcklaaEGood
import Derived.Test.YtgkhgjoggkcklaaEMovA
import Derived.Test.YtgkhgjoggkcklaaPlRises
import Derived.Test.YtgkhgjoggkcklaaEOpenB
namespace Go.Proofs.Ytgkhgjoggkcklaa
open Go Go.RowKit
set_option maxRecDepth 100000
set_option maxHeartbeats 8000000
attribute [local irreducible] Wild.walk

theorem ElectTurns_any (F T me view : Int) (v : Value) (clock wait by_ x : Int) (votes : List Int) (w : World) (hv : SlI w .i64 v votes) :
    Calls Try.prog 5 #[.agg (ElV F T me view v clock wait), .int .i64 by_, .int .i64 x] w fun e w' => e = .returned (.bool true) ∧ Below w.heap.size w w' := by
  obtain ⟨va, vc, rfl⟩ := hv.shape
  obtain ⟨N, HN⟩ : ∃ N, Hid (N = votes.length) := ⟨_, Lib.hid rfl⟩
  have HSW := Lib.hid hv
  rw [← HN.out] at HSW ⊢
  obtain ⟨V, HV, HB, HE⟩ : ∃ V, Hid (V = w.alloc (.cells (ElV F T me view (.slice va N vc) clock wait) 26)) ∧ Hid (Below w.heap.size w V) ∧ Hid (ElB V w.heap.size 26 F T me view (.slice va N vc) clock wait) := ⟨_, Lib.hid rfl, Lib.hid ((Below.refl _ _).alloc (Nat.le_refl _) _), Lib.hid (heap_alloc_new _ _)⟩
  have HS := Lib.hid (HSW.out.later HB.out)
  have HPL := Lib.hid (fun view va vc clock wait w' => plain_any F T me view va N vc clock wait w')
  have HRT := Lib.hid (fun w' h => Right_ref F T me view (.slice va N vc) clock wait votes w' h)
  clear hv
  by_cases h1 : RightE F T me view votes clock wait
  · rw [decide_eq_true h1] at HRT
    by_cases h2 : 1000000000 < clock
    · have d2 : decide (1000000000 < clock) = true := decide_eq_true h2
      clear h1
      go_enter Try.func5, Try.ntmps5
      go_upto_region 1 with (fail)
      rw [← HV.out]
      go_wp2_with (first
        | ((with_reducible refine at_load 26 _ rfl ?_); refine wpList_load_row rfl 26 _ rfl _ rfl _ (ElV F T me view (.slice va N vc) clock wait) (0, 0) _ HE.out Try.underlying26 rfl info_el ?_)
        | (go_at_call 10; refine (HPL.out _ _ _ _ _ _).mono ?_; rintro e w1 ⟨rfl, b1⟩; have HB1 := Lib.hid b1; have HS1 := Lib.hid (HS.out.later b1); clear b1)
        | (go_at_call 9; refine (HRT.out w1 HS1.out).mono ?_; rintro e w2 ⟨rfl, b2⟩; have HB2 := Lib.hid (HB1.out.trans (b2.mono HB1.out.size)); have HE2 := Lib.hid (HE.out.later HB2.out); obtain ⟨c0, c1, c2, c3, c4, c5, c6⟩ := HE2.out.cells; have HB3 := Lib.hid (HB.out.trans (HB2.out.mono HB.out.size)); clear b2)
        | (go_at_call 11; refine (alive24_any _).mono ?_; rintro e w3 ⟨rfl, b3⟩; have HB4 := Lib.hid (HB3.out.trans (b3.mono HB3.out.size)); clear b3))
      go_ret
      exact ⟨rfl, HB4.out⟩
    · have d2 : decide (1000000000 < clock) = false := decide_eq_false h2
      obtain ⟨hR, hm0, hm1, hNN, hv0, hv1, hc0, hall, hwt⟩ := h1
      obtain ⟨m, rfl⟩ : ∃ m : Nat, me = m := ⟨me.toNat, by omega⟩
      have hwb := waits_bd _ hwt
      have HRS := Lib.hid hR
      obtain ⟨r1, r2, r3, r4⟩ := hR
      have HM : Hid (m < votes.length) := Lib.hid (by omega)
      have HNB : Hid (N ≤ 1000 ∧ 0 < N) := Lib.hid (by rw [HN.out]; omega)
      have hz := hall (votes.getD m 0) (by have := HM.out; simp [this])
      have HTK := Lib.hid (fun w' h => Tick_any F T m (.slice va N vc) wait ⟨view, votes, clock⟩ w' h HRS.out (by rw [← HN.out]; exact HNB.out.1) HM.out (by omega) (by simp only; omega) ⟨hv0, hv1⟩ hz)
      have HTR := Lib.hid (fun w' h => Tick_ref F T m (.slice va N vc) wait ⟨view, votes, clock⟩ w' h HRS.out (by rw [← HN.out]; exact HNB.out.1) HM.out (by omega) (by simp only; omega) ⟨hv0, hv1⟩ hz)
      have HHE := Lib.hid (fun w' h => Hear_any F T m (.slice va N vc) wait by_ x ⟨view, votes, clock⟩ w' h HRS.out (by rw [← HN.out]; exact HNB.out.1) HM.out)
      have HHR := Lib.hid (fun w' h => Hear_ref F T m (.slice va N vc) wait by_ x ⟨view, votes, clock⟩ w' h HRS.out (by rw [← HN.out]; exact HNB.out.1) HM.out (fun i hi => (hall _ (by simp at hi ⊢; simp [hi])).1))
      have HGO := Lib.hid (fun w' => Good_any F T m view va N vc clock wait w')
      have HGR := Lib.hid (fun a c w' => Good_ref F T m view a N c clock wait w')
      obtain ⟨TE, HTE⟩ : ∃ y, Hid (y = tickE F T m wait ⟨view, votes, clock⟩) := ⟨_, Lib.hid rfl⟩
      obtain ⟨TW, HTW⟩ : ∃ y, Hid (y = tickW wait ⟨view, votes, clock⟩) := ⟨_, Lib.hid rfl⟩
      obtain ⟨TO, HTO⟩ : ∃ y, Hid (y = tickVo F m wait ⟨view, votes, clock⟩) := ⟨_, Lib.hid rfl⟩
      obtain ⟨TI, HTI⟩ : ∃ y, Hid (y = tickVi F T m wait ⟨view, votes, clock⟩) := ⟨_, Lib.hid rfl⟩
      obtain ⟨AE, HAE⟩ : ∃ y, Hid (y = hearE F T m by_ x ⟨view, votes, clock⟩) := ⟨_, Lib.hid rfl⟩
      obtain ⟨AO, HAO⟩ : ∃ y, Hid (y = hearVo F m by_ x ⟨view, votes, clock⟩) := ⟨_, Lib.hid rfl⟩
      obtain ⟨AI, HAI⟩ : ∃ y, Hid (y = hearVi F T m by_ x ⟨view, votes, clock⟩) := ⟨_, Lib.hid rfl⟩
      simp only [← HTE.out, ← HTW.out, ← HTO.out, ← HTI.out] at HTK HTR
      simp only [← HAE.out, ← HAO.out, ← HAI.out] at HHE HHR
      have HTL : Hid (TE.votes.length = N) := Lib.hid (by rw [HTE.out, tickE]; split; exact HN.out.symm; simp only [El.settled, joined]; split <;> simp [tickVotes_length, HN.out])
      have HAL : Hid (AE.votes.length = N) := Lib.hid (by rw [HAE.out, hearE]; split; (simp only [El.settled, joined]; split <;> simp [HN.out]); exact HN.out.symm)
      have HSM := Lib.hid (fun (view clock wait : Int) (l : List Int) (hl : l.length = N) a c a' c' w' h h' => by
        have h8 := Same_ref F T m view (.slice a N c) clock wait l F T m view (.slice a' N c') clock wait l w' h h' (by have := HNB.out.1; omega) (by have := HNB.out.1; omega)
        rw [show sameB F T m view l clock wait F T m view l clock wait = true from by simp [sameB]] at h8
        exact h8)
      have HAV : Hid (∀ k, (Value.slice va N vc).ownBlock = some k → k < w.heap.size) := Lib.hid (fun k hk => HSW.out.blt (by have := HM.out; omega) k hk)
      clear hall hz hwt hm0 hm1 hNN hv0 hv1 hc0 HTE HTW HTO HTI HAE HAO HAI hwb r1 r2 r3 r4
      go_enter Try.func5, Try.ntmps5
      go_upto_region 1 with (fail)
      rw [← HV.out]
      go_upto_region 3 with (first
        | ((with_reducible refine at_load 26 _ rfl ?_); refine wpList_load_row rfl 26 _ rfl _ rfl _ (ElV F T m view (.slice va N vc) clock wait) (0, 0) _ HE.out Try.underlying26 rfl info_el ?_)
        | (go_at_call 10; refine (HPL.out _ _ _ _ _ _).mono ?_; rintro e w1 ⟨rfl, b1⟩; have HB1 := Lib.hid b1; have HS1 := Lib.hid (HS.out.later b1); clear b1)
        | (go_at_call 9; refine (HRT.out w1 HS1.out).mono ?_; rintro e w2 ⟨rfl, b2⟩; have HB2 := Lib.hid (HB1.out.trans (b2.mono HB1.out.size)); have HE2 := Lib.hid (HE.out.later HB2.out); obtain ⟨c0, c1, c2, c3, c4, c5, c6⟩ := HE2.out.cells; clear b2))
      have HS2 := Lib.hid (HS.out.later HB2.out)
      have HW2 := Lib.hid (HB.out.trans (HB2.out.mono HB.out.size))
      clear c0 c1 c2 c3 c4 c5 c6 HRT
      try simp only [Act.put]
      go_upto_region 4 with (first
        | ((with_reducible refine at_load 26 _ rfl ?_); refine wpList_load_row rfl 26 _ rfl _ rfl _ (ElV F T m view (.slice va N vc) clock wait) (0, 0) _ HE2.out Try.underlying26 rfl info_el ?_)
        | (go_at_call 10; refine (HPL.out _ _ _ _ _ w2).mono ?_; rintro e w3 ⟨rfl, b3⟩; have HB3 := Lib.hid b3; clear b3)
        | ((with_reducible refine at_store 30 _ _ rfl ?_); refine wpList_store_new rfl 30 _ _ rfl (ElV F T m view (.slice va N vc) clock wait) rfl rfl 30 _ info_rel rfl ElV_one ?_))
      obtain ⟨b7, Hb7⟩ : ∃ b, Hid (b = w3.heap.size) := ⟨_, Lib.hid rfl⟩
      obtain ⟨X3, HX3, HB3X, E7⟩ : ∃ W, Hid (W = w3.alloc (.cells (ElV F T m view (.slice va N vc) clock wait) 30)) ∧ Hid (Below w2.heap.size w2 W) ∧ Hid (ElB W b7 30 F T m view (.slice va N vc) clock wait) := ⟨_, Lib.hid rfl, Lib.hid (HB3.out.alloc HB3.out.size _), Lib.hid (by rw [Hb7.out]; exact heap_alloc_new _ _)⟩
      rw [← HX3.out, ← Hb7.out]
      have HBZ : Hid (w.heap.size < b7 ∧ b7 < X3.heap.size) := Lib.hid (by have h1 := HE2.out.lt; have h2 := HB3.out.size; have h3 := Hb7.out; have h4 := E7.out.lt; omega)
      have E0 := Lib.hid (HE2.out.later HB3X.out)
      have S0 := Lib.hid (HS2.out.later HB3X.out)
      have WW := Lib.hid (HW2.out.trans (HB3X.out.mono HW2.out.size))
      clear HX3 Hb7 HB3 HB3X HE2 HS2 HW2 HB1 HB2 HS1 HV HB HE HS HSW
      have HO := Lib.hid (OwnI.none X3 3 .i64)
      have HBo : Hid (Below X3.heap.size X3 (X3.alloc (.cells #[] 3))) := Lib.hid ((Below.refl _ _).alloc (Nat.le_refl _) _)
      have HSo := Lib.hid (S0.out.later HBo.out)
      have HBs : Hid (X3.heap.size ≤ (X3.alloc (.cells #[] 3)).heap.size) := Lib.hid (by simp)
      have HLL : Hid (([] : List Int).length + votes.length ≤ 1000000000) := Lib.hid (by have h1 := HNB.out; have h2 := HN.out; simp; omega)
      obtain ⟨i0, hi, hz0, hz1, hz2⟩ := info_parts4
      have HI := Lib.hid hi
      have HZ0 := Lib.hid hz0
      have HZ1 := Lib.hid hz1
      have HZ2 := Lib.hid hz2
      obtain ⟨c0, c1, c2, c3, c4, c5, c6⟩ := (E0.out.later HBo.out).cells
      clear hi hz0 hz1 hz2
      go_upto_region 5 with (at_builtin; refine wpList_appendI rfl _ _ 24 3 rfl .i64 8 Try.underlying24 HI.out HZ0.out HZ1.out HZ2.out (by decide) X3.heap.size _ [] rfl HO.out _ votes rfl HSo.out HLL.out HBs.out ?_; intro vo w4 hvo hgo hoo)
      rw [List.nil_append] at hvo
      have B4 := Lib.hid (HBo.out.trans ((HO.out.below hgo HBs.out).mono (Nat.le_refl _)))
      obtain ⟨g, off, cap, rfl, hBg, hgl, hcp, hmx, hfz, hcl⟩ := ownI_parts hvo (by have := HM.out; omega)
      have SO := Lib.hid hvo.sl
      have HG : Hid (b7 < g) := Lib.hid (by have := HBZ.out; omega)
      rw [← HN.out] at SO ⊢
      clear c0 c1 c2 c3 c4 c5 c6 hBg hgl hcp hmx hfz hcl hvo hgo hoo HO HBo HSo HBs HLL HI HZ0 HZ1 HZ2
      obtain ⟨oa, Hoa⟩ : ∃ a : Option Addr, Hid (a = some ⟨g, off, none⟩) := ⟨_, Lib.hid rfl⟩
      rw [← Hoa.out] at SO ⊢
      try simp only [Act.put]
      have E0' := Lib.hid (E0.out.later B4.out)
      have S0' := Lib.hid (S0.out.later B4.out)
      have E7' := Lib.hid (E7.out.later B4.out)
      have WW' := Lib.hid (WW.out.trans (B4.out.mono WW.out.size))
      clear E0 S0 E7 WW
      have E0 := E0'
      have S0 := S0'
      have E7 := E7'
      have WW := WW'
      clear E0' S0' E7' WW'
      clear B4
      go_upto_region 6 with (first
        | ((with_reducible refine at_load 26 _ rfl ?_); refine wpList_load_row rfl 26 _ rfl _ rfl _ (ElV F T m view (.slice va N vc) clock wait) (0, 0) _ E0.out Try.underlying26 rfl info_el ?_)
        | (go_at_call 18; refine (HTK.out w4 S0.out).mono ?_; rintro e c5 ⟨v2, rfl, s2, p2, b2⟩; obtain ⟨a5, d5, hv2⟩ := s2.shape; rw [HTL.out] at hv2; subst hv2; have H3S := Lib.hid s2; have H3B := Lib.hid b2; have HT := Lib.hid (two_rows c5 26 34 (ElV 0 0 0 0 (.slice none 0 0) 0 0) (ElV F T m TE.view (.slice a5 N d5) TE.clock TW) #[.int .i64 0, .int .i64 0] #[.int .i64 TO, .int .i64 TI]); clear s2 p2 b2)
        | ((with_reducible refine at_store 26 _ _ rfl ?_); refine wpList_store_row rfl 26 _ _ rfl c5.heap.size (ElV F T m TE.view (.slice a5 N d5) TE.clock TW) rfl rfl 26 _ HT.out.1 info_el rfl ElV_one ?_)
        | ((with_reducible refine at_store 34 _ _ rfl ?_); refine wpList_store_row rfl 34 _ _ rfl (c5.heap.size + 1) #[.int .i64 TO, .int .i64 TI] rfl rfl 34 _ HT.out.2.1 info_out rfl out_one ?_))
      obtain ⟨w5, HW4, H4B, E9, O9⟩ : ∃ W, Hid (W = (((c5.alloc (.cells (ElV 0 0 0 0 (.slice none 0 0) 0 0) 26)).alloc (.cells #[.int .i64 0, .int .i64 0] 34)).setRow c5.heap.size (ElV F T m TE.view (.slice a5 N d5) TE.clock TW)).setRow (c5.heap.size + 1) #[.int .i64 TO, .int .i64 TI]) ∧ Hid (Below c5.heap.size c5 W) ∧ Hid (ElB W c5.heap.size 26 F T m TE.view (.slice a5 N d5) TE.clock TW) ∧ Hid (OutB W (c5.heap.size + 1) 34 TO TI) :=
        ⟨_, Lib.hid rfl, Lib.hid HT.out.2.2.2.2, Lib.hid HT.out.2.2.1, Lib.hid HT.out.2.2.2.1⟩
      change Code.wp _ _ _ _ ((((c5.alloc (.cells (ElV 0 0 0 0 (.slice none 0 0) 0 0) 26)).alloc (.cells #[.int .i64 0, .int .i64 0] 34)).setRow c5.heap.size (ElV F T m TE.view (.slice a5 N d5) TE.clock TW)).setRow (c5.heap.size + 1) #[.int .i64 TO, .int .i64 TI])
      rw [← HW4.out]
      have BB : Hid (Below w4.heap.size w4 w5) := Lib.hid (H3B.out.trans (H4B.out.mono H3B.out.size))
      have S9 := Lib.hid (H3S.out.later H4B.out)
      obtain ⟨e5, Hb1⟩ : ∃ b1, Hid (b1 = c5.heap.size) := ⟨_, Lib.hid rfl⟩
      rw [← Hb1.out] at E9 O9 ⊢
      obtain ⟨o5, Hb2⟩ : ∃ b1, Hid (b1 = e5 + 1) := ⟨_, Lib.hid rfl⟩
      rw [← Hb2.out] at O9 ⊢
      clear HT HW4 H3S H3B H4B Hb1 Hb2
      try simp only [Act.put]
      have E0' := Lib.hid (E0.out.later BB.out)
      have S0' := Lib.hid (S0.out.later BB.out)
      have E7' := Lib.hid (E7.out.later BB.out)
      have SO' := Lib.hid (SO.out.later BB.out)
      have WW' := Lib.hid (WW.out.trans (BB.out.mono WW.out.size))
      clear E0 S0 E7 SO WW
      have E0 := E0'
      have S0 := S0'
      have E7 := E7'
      have SO := SO'
      have WW := WW'
      clear E0' S0' E7' SO' WW'
      clear BB
      go_upto_region 7 with (first
        | ((with_reducible refine at_load 30 _ rfl ?_); refine wpList_load_row rfl 30 _ rfl _ rfl _ (ElV F T m view (.slice va N vc) clock wait) (0, 0) _ E7.out Try.underlying30 rfl info_rel ?_)
        | (go_at_call 19; refine (HTR.out w5 S0.out).mono ?_; rintro e c6 ⟨v2, rfl, s2, p2, b2⟩; obtain ⟨a6, d6, hv2⟩ := s2.shape; rw [HTL.out] at hv2; subst hv2; have H3S := Lib.hid s2; have H3B := Lib.hid b2; have HT := Lib.hid (two_rows c6 30 42 (ElV 0 0 0 0 (.slice none 0 0) 0 0) (ElV F T m TE.view (.slice a6 N d6) TE.clock TW) #[.int .i64 0, .int .i64 0] #[.int .i64 TO, .int .i64 TI]); clear s2 p2 b2)
        | ((with_reducible refine at_store 30 _ _ rfl ?_); refine wpList_store_row rfl 30 _ _ rfl c6.heap.size (ElV F T m TE.view (.slice a6 N d6) TE.clock TW) rfl rfl 30 _ HT.out.1 info_rel rfl ElV_one ?_)
        | ((with_reducible refine at_store 42 _ _ rfl ?_); refine wpList_store_row rfl 42 _ _ rfl (c6.heap.size + 1) #[.int .i64 TO, .int .i64 TI] rfl rfl 42 _ HT.out.2.1 info_rout rfl out_one ?_))
      obtain ⟨w6, HW4, H4B, E11, O11⟩ : ∃ W, Hid (W = (((c6.alloc (.cells (ElV 0 0 0 0 (.slice none 0 0) 0 0) 30)).alloc (.cells #[.int .i64 0, .int .i64 0] 42)).setRow c6.heap.size (ElV F T m TE.view (.slice a6 N d6) TE.clock TW)).setRow (c6.heap.size + 1) #[.int .i64 TO, .int .i64 TI]) ∧ Hid (Below c6.heap.size c6 W) ∧ Hid (ElB W c6.heap.size 30 F T m TE.view (.slice a6 N d6) TE.clock TW) ∧ Hid (OutB W (c6.heap.size + 1) 42 TO TI) :=
        ⟨_, Lib.hid rfl, Lib.hid HT.out.2.2.2.2, Lib.hid HT.out.2.2.1, Lib.hid HT.out.2.2.2.1⟩
      change Code.wp _ _ _ _ ((((c6.alloc (.cells (ElV 0 0 0 0 (.slice none 0 0) 0 0) 30)).alloc (.cells #[.int .i64 0, .int .i64 0] 42)).setRow c6.heap.size (ElV F T m TE.view (.slice a6 N d6) TE.clock TW)).setRow (c6.heap.size + 1) #[.int .i64 TO, .int .i64 TI])
      rw [← HW4.out]
      have BB : Hid (Below w5.heap.size w5 w6) := Lib.hid (H3B.out.trans (H4B.out.mono H3B.out.size))
      have S11 := Lib.hid (H3S.out.later H4B.out)
      obtain ⟨e6, Hb1⟩ : ∃ b1, Hid (b1 = c6.heap.size) := ⟨_, Lib.hid rfl⟩
      rw [← Hb1.out] at E11 O11 ⊢
      obtain ⟨o6, Hb2⟩ : ∃ b1, Hid (b1 = e6 + 1) := ⟨_, Lib.hid rfl⟩
      rw [← Hb2.out] at O11 ⊢
      clear HT HW4 H3S H3B H4B Hb1 Hb2
      try simp only [Act.put]
      have E0' := Lib.hid (E0.out.later BB.out)
      have S0' := Lib.hid (S0.out.later BB.out)
      have E7' := Lib.hid (E7.out.later BB.out)
      have SO' := Lib.hid (SO.out.later BB.out)
      have E9' := Lib.hid (E9.out.later BB.out)
      have O9' := Lib.hid (O9.out.later BB.out)
      have S9' := Lib.hid (S9.out.later BB.out)
      have WW' := Lib.hid (WW.out.trans (BB.out.mono WW.out.size))
      clear E0 S0 E7 SO E9 O9 S9 WW
      have E0 := E0'
      have S0 := S0'
      have E7 := E7'
      have SO := SO'
      have E9 := E9'
      have O9 := O9'
      have S9 := S9'
      have WW := WW'
      clear E0' S0' E7' SO' E9' O9' S9' WW'
      clear BB
      go_upto_region 8 with (first
        | ((with_reducible refine at_load 26 _ rfl ?_); refine wpList_load_row rfl 26 _ rfl _ rfl _ (ElV F T m view (.slice va N vc) clock wait) (0, 0) _ E0.out Try.underlying26 rfl info_el ?_)
        | (go_at_call 12; refine (HHE.out w6 S0.out).mono ?_; rintro e c7 ⟨v2, rfl, s2, p2, b2⟩; obtain ⟨a7, d7, hv2⟩ := s2.shape; rw [HAL.out] at hv2; subst hv2; have H3S := Lib.hid s2; have H3B := Lib.hid b2; have HT := Lib.hid (two_rows c7 26 34 (ElV 0 0 0 0 (.slice none 0 0) 0 0) (ElV F T m AE.view (.slice a7 N d7) AE.clock wait) #[.int .i64 0, .int .i64 0] #[.int .i64 AO, .int .i64 AI]); clear s2 p2 b2)
        | ((with_reducible refine at_store 26 _ _ rfl ?_); refine wpList_store_row rfl 26 _ _ rfl c7.heap.size (ElV F T m AE.view (.slice a7 N d7) AE.clock wait) rfl rfl 26 _ HT.out.1 info_el rfl ElV_one ?_)
        | ((with_reducible refine at_store 34 _ _ rfl ?_); refine wpList_store_row rfl 34 _ _ rfl (c7.heap.size + 1) #[.int .i64 AO, .int .i64 AI] rfl rfl 34 _ HT.out.2.1 info_out rfl out_one ?_))
      obtain ⟨w7, HW4, H4B, E13, O13⟩ : ∃ W, Hid (W = (((c7.alloc (.cells (ElV 0 0 0 0 (.slice none 0 0) 0 0) 26)).alloc (.cells #[.int .i64 0, .int .i64 0] 34)).setRow c7.heap.size (ElV F T m AE.view (.slice a7 N d7) AE.clock wait)).setRow (c7.heap.size + 1) #[.int .i64 AO, .int .i64 AI]) ∧ Hid (Below c7.heap.size c7 W) ∧ Hid (ElB W c7.heap.size 26 F T m AE.view (.slice a7 N d7) AE.clock wait) ∧ Hid (OutB W (c7.heap.size + 1) 34 AO AI) :=
        ⟨_, Lib.hid rfl, Lib.hid HT.out.2.2.2.2, Lib.hid HT.out.2.2.1, Lib.hid HT.out.2.2.2.1⟩
      change Code.wp _ _ _ _ ((((c7.alloc (.cells (ElV 0 0 0 0 (.slice none 0 0) 0 0) 26)).alloc (.cells #[.int .i64 0, .int .i64 0] 34)).setRow c7.heap.size (ElV F T m AE.view (.slice a7 N d7) AE.clock wait)).setRow (c7.heap.size + 1) #[.int .i64 AO, .int .i64 AI])
      rw [← HW4.out]
      have BB : Hid (Below w6.heap.size w6 w7) := Lib.hid (H3B.out.trans (H4B.out.mono H3B.out.size))
      have S13 := Lib.hid (H3S.out.later H4B.out)
      obtain ⟨e7, Hb1⟩ : ∃ b1, Hid (b1 = c7.heap.size) := ⟨_, Lib.hid rfl⟩
      rw [← Hb1.out] at E13 O13 ⊢
      obtain ⟨o7, Hb2⟩ : ∃ b1, Hid (b1 = e7 + 1) := ⟨_, Lib.hid rfl⟩
      rw [← Hb2.out] at O13 ⊢
      clear HT HW4 H3S H3B H4B Hb1 Hb2
      try simp only [Act.put]
      have E0' := Lib.hid (E0.out.later BB.out)
      have S0' := Lib.hid (S0.out.later BB.out)
      have E7' := Lib.hid (E7.out.later BB.out)
      have SO' := Lib.hid (SO.out.later BB.out)
      have E9' := Lib.hid (E9.out.later BB.out)
      have O9' := Lib.hid (O9.out.later BB.out)
      have S9' := Lib.hid (S9.out.later BB.out)
      have E11' := Lib.hid (E11.out.later BB.out)
      have O11' := Lib.hid (O11.out.later BB.out)
      have S11' := Lib.hid (S11.out.later BB.out)
      have WW' := Lib.hid (WW.out.trans (BB.out.mono WW.out.size))
      clear E0 S0 E7 SO E9 O9 S9 E11 O11 S11 WW
      have E0 := E0'
      have S0 := S0'
      have E7 := E7'
      have SO := SO'
      have E9 := E9'
      have O9 := O9'
      have S9 := S9'
      have E11 := E11'
      have O11 := O11'
      have S11 := S11'
      have WW := WW'
      clear E0' S0' E7' SO' E9' O9' S9' E11' O11' S11' WW'
      clear BB
      go_upto_region 9 with (first
        | ((with_reducible refine at_load 30 _ rfl ?_); refine wpList_load_row rfl 30 _ rfl _ rfl _ (ElV F T m view (.slice va N vc) clock wait) (0, 0) _ E7.out Try.underlying30 rfl info_rel ?_)
        | (go_at_call 20; refine (HHR.out w7 S0.out).mono ?_; rintro e c8 ⟨v2, rfl, s2, p2, b2⟩; obtain ⟨a8, d8, hv2⟩ := s2.shape; rw [HAL.out] at hv2; subst hv2; have H3S := Lib.hid s2; have H3B := Lib.hid b2; have HT := Lib.hid (two_rows c8 30 42 (ElV 0 0 0 0 (.slice none 0 0) 0 0) (ElV F T m AE.view (.slice a8 N d8) AE.clock wait) #[.int .i64 0, .int .i64 0] #[.int .i64 AO, .int .i64 AI]); clear s2 p2 b2)
        | ((with_reducible refine at_store 30 _ _ rfl ?_); refine wpList_store_row rfl 30 _ _ rfl c8.heap.size (ElV F T m AE.view (.slice a8 N d8) AE.clock wait) rfl rfl 30 _ HT.out.1 info_rel rfl ElV_one ?_)
        | ((with_reducible refine at_store 42 _ _ rfl ?_); refine wpList_store_row rfl 42 _ _ rfl (c8.heap.size + 1) #[.int .i64 AO, .int .i64 AI] rfl rfl 42 _ HT.out.2.1 info_rout rfl out_one ?_))
      obtain ⟨w8, HW4, H4B, E15, O15⟩ : ∃ W, Hid (W = (((c8.alloc (.cells (ElV 0 0 0 0 (.slice none 0 0) 0 0) 30)).alloc (.cells #[.int .i64 0, .int .i64 0] 42)).setRow c8.heap.size (ElV F T m AE.view (.slice a8 N d8) AE.clock wait)).setRow (c8.heap.size + 1) #[.int .i64 AO, .int .i64 AI]) ∧ Hid (Below c8.heap.size c8 W) ∧ Hid (ElB W c8.heap.size 30 F T m AE.view (.slice a8 N d8) AE.clock wait) ∧ Hid (OutB W (c8.heap.size + 1) 42 AO AI) :=
        ⟨_, Lib.hid rfl, Lib.hid HT.out.2.2.2.2, Lib.hid HT.out.2.2.1, Lib.hid HT.out.2.2.2.1⟩
      change Code.wp _ _ _ _ ((((c8.alloc (.cells (ElV 0 0 0 0 (.slice none 0 0) 0 0) 30)).alloc (.cells #[.int .i64 0, .int .i64 0] 42)).setRow c8.heap.size (ElV F T m AE.view (.slice a8 N d8) AE.clock wait)).setRow (c8.heap.size + 1) #[.int .i64 AO, .int .i64 AI])
      rw [← HW4.out]
      have BB : Hid (Below w7.heap.size w7 w8) := Lib.hid (H3B.out.trans (H4B.out.mono H3B.out.size))
      have S15 := Lib.hid (H3S.out.later H4B.out)
      obtain ⟨e8, Hb1⟩ : ∃ b1, Hid (b1 = c8.heap.size) := ⟨_, Lib.hid rfl⟩
      rw [← Hb1.out] at E15 O15 ⊢
      obtain ⟨o8, Hb2⟩ : ∃ b1, Hid (b1 = e8 + 1) := ⟨_, Lib.hid rfl⟩
      rw [← Hb2.out] at O15 ⊢
      clear HT HW4 H3S H3B H4B Hb1 Hb2
      try simp only [Act.put]
      have E0' := Lib.hid (E0.out.later BB.out)
      have S0' := Lib.hid (S0.out.later BB.out)
      have E7' := Lib.hid (E7.out.later BB.out)
      have SO' := Lib.hid (SO.out.later BB.out)
      have E9' := Lib.hid (E9.out.later BB.out)
      have O9' := Lib.hid (O9.out.later BB.out)
      have S9' := Lib.hid (S9.out.later BB.out)
      have E11' := Lib.hid (E11.out.later BB.out)
      have O11' := Lib.hid (O11.out.later BB.out)
      have S11' := Lib.hid (S11.out.later BB.out)
      have E13' := Lib.hid (E13.out.later BB.out)
      have O13' := Lib.hid (O13.out.later BB.out)
      have S13' := Lib.hid (S13.out.later BB.out)
      have WW' := Lib.hid (WW.out.trans (BB.out.mono WW.out.size))
      clear E0 S0 E7 SO E9 O9 S9 E11 O11 S11 E13 O13 S13 WW
      have E0 := E0'
      have S0 := S0'
      have E7 := E7'
      have SO := SO'
      have E9 := E9'
      have O9 := O9'
      have S9 := S9'
      have E11 := E11'
      have O11 := O11'
      have S11 := S11'
      have E13 := E13'
      have O13 := O13'
      have S13 := S13'
      have WW := WW'
      clear E0' S0' E7' SO' E9' O9' S9' E11' O11' S11' E13' O13' S13' WW'
      clear BB
      have HFy : Hid (∀ W, Below w8.heap.size w8 W → ElB W e5 26 F T m TE.view (.slice a5 N d5) TE.clock TW ∧ ElB W e6 30 F T m TE.view (.slice a6 N d6) TE.clock TW ∧ OutB W o5 34 TO TI ∧ OutB W o6 42 TO TI ∧ SlI W .i64 (.slice a5 N d5) TE.votes ∧ SlI W .i64 (.slice a6 N d6) TE.votes ∧ ElB W e7 26 F T m AE.view (.slice a7 N d7) AE.clock wait ∧ ElB W e8 30 F T m AE.view (.slice a8 N d8) AE.clock wait ∧ OutB W o7 34 AO AI ∧ OutB W o8 42 AO AI ∧ SlI W .i64 (.slice a7 N d7) AE.votes ∧ SlI W .i64 (.slice a8 N d8) AE.votes) := Lib.hid (fun W hW => ⟨E9.out.later hW, E11.out.later hW, O9.out.later hW, O11.out.later hW, S9.out.later hW, S11.out.later hW, E13.out.later hW, E15.out.later hW, O13.out.later hW, O15.out.later hW, S13.out.later hW, S15.out.later hW⟩)
      refine Wild.region_b (fun k => match k with | 1 => some (.fix (.agg (ElV F T m TE.view (.slice a5 N d5) TE.clock TW))) | 3 => some (.fix (.bool true)) | 20 => some (.fix (.agg (ElV F T m AE.view (.slice a7 N d7) AE.clock wait))) | 22 => some (.fix (.bool true)) | _ => none) (fun _ => []) rfl (by kernel_rfl) (fun vs hvs => ?_)
      have v1 : vs 1 = .agg (ElV F T m TE.view (.slice a5 N d5) TE.clock TW) := hvs 1 _ rfl
      have v3 : vs 3 = .bool true := hvs 3 _ rfl
      have v20 : vs 20 = .agg (ElV F T m AE.view (.slice a7 N d7) AE.clock wait) := hvs 20 _ rfl
      have v22 : vs 22 = .bool true := hvs 22 _ rfl
      refine Wild.walk_load 26 _ _ _ (elL F T m TE.view (.slice a5 N d5) TE.clock TW) _ rfl (by rfl) rfl rfl (fun w' hw => rangeAt_row (cs := elL F T m TE.view (.slice a5 N d5) TE.clock TW) (HFy.out w' hw.1).1) Try.underlying26 rfl info_el ?_
      simp only [Act.put, List.setIfInBounds_toArray, List.set_cons_zero, List.set_cons_succ]
      refine Wild.walk_wild _ rfl (by rfl) (fun w' hw K hK => ?_) ?_
      · go_simp
        go_at_call 10
        refine (HPL.out _ _ _ _ _ w').mono ?_
        rintro e w'' ⟨rfl, hb⟩
        exact hK.out _ _ (hw.1.trans (hb.mono hw.1.size)) hb rfl trivial
      rw [v1]
      simp only [Act.put, List.setIfInBounds_toArray, List.set_cons_zero, List.set_cons_succ]
      refine Wild.walk_load 30 _ _ _ (elL F T m TE.view (.slice a6 N d6) TE.clock TW) _ rfl (by rfl) rfl rfl (fun w' hw => rangeAt_row (cs := elL F T m TE.view (.slice a6 N d6) TE.clock TW) (HFy.out w' hw.1).2.1) Try.underlying30 rfl info_rel ?_
      simp only [Act.put, List.setIfInBounds_toArray, List.set_cons_zero, List.set_cons_succ]
      refine Wild.walk_wild _ rfl (by rfl) (fun w' hw K hK => ?_) ?_
      · go_simp
        go_at_call 21
        refine (HSM.out TE.view TE.clock TW TE.votes HTL.out _ _ _ _ w' (HFy.out w' hw.1).2.2.2.2.1 (HFy.out w' hw.1).2.2.2.2.2.1).mono ?_
        rintro e w'' ⟨rfl, hb⟩
        exact hK.out _ _ (hw.1.trans (hb.mono hw.1.size)) hb rfl trivial
      rw [v3]
      simp only [Act.put, List.setIfInBounds_toArray, List.set_cons_zero, List.set_cons_succ]
      refine Wild.walk_simple rfl (by rfl) (by rfl) (fun K hK => ?_); go_big_quiet_op; first | (refine hK _ ?_; clear hK K) | (refine ⟨_, fun _ _ => rfl, hK _ ?_⟩; clear hK K)
      refine Wild.walk_simple rfl (by rfl) (by rfl) (fun K hK => ?_); go_big_quiet_op; first | (refine hK _ ?_; clear hK K) | (refine ⟨_, fun _ _ => rfl, hK _ ?_⟩; clear hK K)
      refine Wild.walk_cell 3 _ _ _ (.int .i64 TO) _ rfl (by rfl) rfl rfl (fun w' hw => (HFy.out w' hw.1).2.2.1.cells.1) Try.underlying3 rfl ?_
      simp only [Act.put, List.setIfInBounds_toArray, List.set_cons_zero, List.set_cons_succ]
      refine Wild.walk_simple rfl (by rfl) (by rfl) (fun K hK => ?_); go_big_quiet_op; first | (refine hK _ ?_; clear hK K) | (refine ⟨_, fun _ _ => rfl, hK _ ?_⟩; clear hK K)
      refine Wild.walk_cell 3 _ _ _ (.int .i64 TO) _ rfl (by rfl) rfl rfl (fun w' hw => (HFy.out w' hw.1).2.2.2.1.cells.1) Try.underlying3 rfl ?_
      simp only [Act.put, List.setIfInBounds_toArray, List.set_cons_zero, List.set_cons_succ]
      refine Wild.walk_simple rfl (by rfl) (by rfl) (fun K hK => ?_); go_big_quiet_op; first | (refine hK _ ?_; clear hK K) | (refine ⟨_, fun _ _ => rfl, hK _ ?_⟩; clear hK K)
      refine Wild.walk_simple rfl (by rfl) (by rfl) (fun K hK => ?_); go_big_quiet_op; first | (refine hK _ ?_; clear hK K) | (refine ⟨_, fun _ _ => rfl, hK _ ?_⟩; clear hK K)
      refine Wild.walk_simple rfl (by rfl) (by rfl) (fun K hK => ?_); go_big_quiet_op; first | (refine hK _ ?_; clear hK K) | (refine ⟨_, fun _ _ => rfl, hK _ ?_⟩; clear hK K)
      refine Wild.walk_simple rfl (by rfl) (by rfl) (fun K hK => ?_); go_big_quiet_op; first | (refine hK _ ?_; clear hK K) | (refine ⟨_, fun _ _ => rfl, hK _ ?_⟩; clear hK K)
      refine Wild.walk_cell 3 _ _ _ (.int .i64 TI) _ rfl (by rfl) rfl rfl (fun w' hw => (HFy.out w' hw.1).2.2.1.cells.2) Try.underlying3 rfl ?_
      simp only [Act.put, List.setIfInBounds_toArray, List.set_cons_zero, List.set_cons_succ]
      refine Wild.walk_simple rfl (by rfl) (by rfl) (fun K hK => ?_); go_big_quiet_op; first | (refine hK _ ?_; clear hK K) | (refine ⟨_, fun _ _ => rfl, hK _ ?_⟩; clear hK K)
      refine Wild.walk_cell 3 _ _ _ (.int .i64 TI) _ rfl (by rfl) rfl rfl (fun w' hw => (HFy.out w' hw.1).2.2.2.1.cells.2) Try.underlying3 rfl ?_
      simp only [Act.put, List.setIfInBounds_toArray, List.set_cons_zero, List.set_cons_succ]
      refine Wild.walk_simple rfl (by rfl) (by rfl) (fun K hK => ?_); go_big_quiet_op; first | (refine hK _ ?_; clear hK K) | (refine ⟨_, fun _ _ => rfl, hK _ ?_⟩; clear hK K)
      refine Wild.walk_simple rfl (by rfl) (by rfl) (fun K hK => ?_); go_big_quiet_op; first | (refine hK _ ?_; clear hK K) | (refine ⟨_, fun _ _ => rfl, hK _ ?_⟩; clear hK K)
      refine Wild.walk_simple rfl (by rfl) (by rfl) (fun K hK => ?_); go_big_quiet_op; first | (refine hK _ ?_; clear hK K) | (refine ⟨_, fun _ _ => rfl, hK _ ?_⟩; clear hK K)
      refine Wild.walk_load 26 _ _ _ (elL F T m AE.view (.slice a7 N d7) AE.clock wait) _ rfl (by rfl) rfl rfl (fun w' hw => rangeAt_row (cs := elL F T m AE.view (.slice a7 N d7) AE.clock wait) (HFy.out w' hw.1).2.2.2.2.2.2.1) Try.underlying26 rfl info_el ?_
      simp only [Act.put, List.setIfInBounds_toArray, List.set_cons_zero, List.set_cons_succ]
      refine Wild.walk_wild _ rfl (by rfl) (fun w' hw K hK => ?_) ?_
      · go_simp
        go_at_call 10
        refine (HPL.out _ _ _ _ _ w').mono ?_
        rintro e w'' ⟨rfl, hb⟩
        exact hK.out _ _ (hw.1.trans (hb.mono hw.1.size)) hb rfl trivial
      rw [v20]
      simp only [Act.put, List.setIfInBounds_toArray, List.set_cons_zero, List.set_cons_succ]
      refine Wild.walk_load 30 _ _ _ (elL F T m AE.view (.slice a8 N d8) AE.clock wait) _ rfl (by rfl) rfl rfl (fun w' hw => rangeAt_row (cs := elL F T m AE.view (.slice a8 N d8) AE.clock wait) (HFy.out w' hw.1).2.2.2.2.2.2.2.1) Try.underlying30 rfl info_rel ?_
      simp only [Act.put, List.setIfInBounds_toArray, List.set_cons_zero, List.set_cons_succ]
      refine Wild.walk_wild _ rfl (by rfl) (fun w' hw K hK => ?_) ?_
      · go_simp
        go_at_call 21
        refine (HSM.out AE.view AE.clock wait AE.votes HAL.out _ _ _ _ w' (HFy.out w' hw.1).2.2.2.2.2.2.2.2.2.2.1 (HFy.out w' hw.1).2.2.2.2.2.2.2.2.2.2.2).mono ?_
        rintro e w'' ⟨rfl, hb⟩
        exact hK.out _ _ (hw.1.trans (hb.mono hw.1.size)) hb rfl trivial
      rw [v22]
      simp only [Act.put, List.setIfInBounds_toArray, List.set_cons_zero, List.set_cons_succ]
      refine Wild.walk_simple rfl (by rfl) (by rfl) (fun K hK => ?_); go_big_quiet_op; first | (refine hK _ ?_; clear hK K) | (refine ⟨_, fun _ _ => rfl, hK _ ?_⟩; clear hK K)
      refine Wild.walk_simple rfl (by rfl) (by rfl) (fun K hK => ?_); go_big_quiet_op; first | (refine hK _ ?_; clear hK K) | (refine ⟨_, fun _ _ => rfl, hK _ ?_⟩; clear hK K)
      refine Wild.walk_simple rfl (by rfl) (by rfl) (fun K hK => ?_); go_big_quiet_op; first | (refine hK _ ?_; clear hK K) | (refine ⟨_, fun _ _ => rfl, hK _ ?_⟩; clear hK K)
      refine Wild.walk_cell 3 _ _ _ (.int .i64 AO) _ rfl (by rfl) rfl rfl (fun w' hw => (HFy.out w' hw.1).2.2.2.2.2.2.2.2.1.cells.1) Try.underlying3 rfl ?_
      simp only [Act.put, List.setIfInBounds_toArray, List.set_cons_zero, List.set_cons_succ]
      refine Wild.walk_simple rfl (by rfl) (by rfl) (fun K hK => ?_); go_big_quiet_op; first | (refine hK _ ?_; clear hK K) | (refine ⟨_, fun _ _ => rfl, hK _ ?_⟩; clear hK K)
      refine Wild.walk_cell 3 _ _ _ (.int .i64 AO) _ rfl (by rfl) rfl rfl (fun w' hw => (HFy.out w' hw.1).2.2.2.2.2.2.2.2.2.1.cells.1) Try.underlying3 rfl ?_
      simp only [Act.put, List.setIfInBounds_toArray, List.set_cons_zero, List.set_cons_succ]
      refine Wild.walk_simple rfl (by rfl) (by rfl) (fun K hK => ?_); go_big_quiet_op; first | (refine hK _ ?_; clear hK K) | (refine ⟨_, fun _ _ => rfl, hK _ ?_⟩; clear hK K)
      refine Wild.walk_simple rfl (by rfl) (by rfl) (fun K hK => ?_); go_big_quiet_op; first | (refine hK _ ?_; clear hK K) | (refine ⟨_, fun _ _ => rfl, hK _ ?_⟩; clear hK K)
      refine Wild.walk_simple rfl (by rfl) (by rfl) (fun K hK => ?_); go_big_quiet_op; first | (refine hK _ ?_; clear hK K) | (refine ⟨_, fun _ _ => rfl, hK _ ?_⟩; clear hK K)
      refine Wild.walk_simple rfl (by rfl) (by rfl) (fun K hK => ?_); go_big_quiet_op; first | (refine hK _ ?_; clear hK K) | (refine ⟨_, fun _ _ => rfl, hK _ ?_⟩; clear hK K)
      refine Wild.walk_cell 3 _ _ _ (.int .i64 AI) _ rfl (by rfl) rfl rfl (fun w' hw => (HFy.out w' hw.1).2.2.2.2.2.2.2.2.1.cells.2) Try.underlying3 rfl ?_
      simp only [Act.put, List.setIfInBounds_toArray, List.set_cons_zero, List.set_cons_succ]
      refine Wild.walk_simple rfl (by rfl) (by rfl) (fun K hK => ?_); go_big_quiet_op; first | (refine hK _ ?_; clear hK K) | (refine ⟨_, fun _ _ => rfl, hK _ ?_⟩; clear hK K)
      refine Wild.walk_cell 3 _ _ _ (.int .i64 AI) _ rfl (by rfl) rfl rfl (fun w' hw => (HFy.out w' hw.1).2.2.2.2.2.2.2.2.2.1.cells.2) Try.underlying3 rfl ?_
      simp only [Act.put, List.setIfInBounds_toArray, List.set_cons_zero, List.set_cons_succ]
      refine Wild.walk_simple rfl (by rfl) (by rfl) (fun K hK => ?_); go_big_quiet_op; first | (refine hK _ ?_; clear hK K) | (refine ⟨_, fun _ _ => rfl, hK _ ?_⟩; clear hK K)
      refine Wild.walk_simple rfl (by rfl) (by rfl) (fun K hK => ?_); go_big_quiet_op; first | (refine hK _ ?_; clear hK K) | (refine ⟨_, fun _ _ => rfl, hK _ ?_⟩; clear hK K)
      refine Wild.walk_simple rfl (by rfl) (by rfl) (fun K hK => ?_); go_big_quiet_op; first | (refine hK _ ?_; clear hK K) | (refine ⟨_, fun _ _ => rfl, hK _ ?_⟩; clear hK K)
      refine Wild.walk_nil ?_
      intro w9 hw9 hf9
      have B9 : Hid (Below w8.heap.size w8 w9) := Lib.hid hw9
      clear hw9 hf9 hvs HFy v1 v3 v20 v22
      have E0' := Lib.hid (E0.out.later B9.out)
      have S0' := Lib.hid (S0.out.later B9.out)
      have E7' := Lib.hid (E7.out.later B9.out)
      have SO' := Lib.hid (SO.out.later B9.out)
      have WW' := Lib.hid (WW.out.trans (B9.out.mono WW.out.size))
      clear E0 S0 E7 SO WW
      have E0 := E0'
      have S0 := S0'
      have E7 := E7'
      have SO := SO'
      have WW := WW'
      clear E0' S0' E7' SO' WW'
      clear B9 E9 E11 O9 O11 S9 S11 E13 E15 O13 O15 S13 S15
      have f4 := E7.out.frozen 4
      have k4 := E7.out.cells.2.2.2.2.1
      go_upto_region 11 with (fail)
      obtain ⟨Y, HY, HKY, YE7⟩ : ∃ W, Hid (W = w9.setCell ⟨b7, 4, none⟩ (.slice oa N cap)) ∧ Hid (Kept (fun k => k = b7) w9 W) ∧ Hid (ElB W b7 30 F T m view (.slice oa N cap) clock wait) :=
        ⟨_, Lib.hid rfl, Lib.hid ((Kept.refl (fun k => k = b7) w9).set (p := ⟨b7, 4, none⟩) (.inl rfl) _), Lib.hid (E7.out.setVotes _)⟩
      rw [← HY.out]
      have YE0 := Lib.hid (E0.out.kept HKY.out (by have := HBZ.out; omega))
      have YS0 := Lib.hid (S0.out.kept HKY.out (fun b hb e => by have h1 := HAV.out b hb; have h2 := HBZ.out; omega))
      have YSO := Lib.hid (SO.out.kept HKY.out (fun b hb e => by rw [Hoa.out] at hb; have h1 : g = b := Option.some.inj hb; have h2 := HG.out; omega))
      have YW : Hid (Below w.heap.size w Y) := Lib.hid (WW.out.trans (HKY.out.below WW.out.size (fun k h => by have := HBZ.out; omega)))
      clear E0 S0 E7 SO HY HKY WW f4 k4
      have HFy : Hid (∀ W, Below Y.heap.size Y W → ElB W w.heap.size 26 F T m view (.slice va N vc) clock wait ∧ ElB W b7 30 F T m view (.slice oa N cap) clock wait ∧ SlI W .i64 (.slice va N vc) votes ∧ SlI W .i64 (.slice oa N cap) votes) := Lib.hid (fun W hW => ⟨YE0.out.later hW, YE7.out.later hW, YS0.out.later hW, YSO.out.later hW⟩)
      try simp only [Act.put]
      refine Wild.region_b (fun k => match k with | 0 => some (.fix (.bool true)) | 6 => some (.fix (.agg (ElV F T m view (.slice va N vc) 0 4))) | 7 => some (.fix (.agg (ElV F T m view (.slice va N vc) 0 4))) | 9 => some (.fix (.agg (ElV F T m view (.slice oa N cap) 0 4))) | 10 => some (.fix (.bool true)) | 14 => some (.fix (.agg (ElV F T m view (.slice va N vc) clock wait))) | 16 => some (.fix (.bool true)) | _ => none) (fun _ => []) rfl (by kernel_rfl) (fun vs hvs => ?_)
      have v0 : vs 0 = .bool true := hvs 0 _ rfl
      have v6 : vs 6 = .agg (ElV F T m view (.slice va N vc) 0 4) := hvs 6 _ rfl
      have v7 : vs 7 = .agg (ElV F T m view (.slice va N vc) 0 4) := hvs 7 _ rfl
      have v9 : vs 9 = .agg (ElV F T m view (.slice oa N cap) 0 4) := hvs 9 _ rfl
      have v10 : vs 10 = .bool true := hvs 10 _ rfl
      have v14 : vs 14 = .agg (ElV F T m view (.slice va N vc) clock wait) := hvs 14 _ rfl
      have v16 : vs 16 = .bool true := hvs 16 _ rfl
      refine Wild.walk_wild _ rfl (by rfl) (fun w' hw K hK => ?_) ?_
      · go_simp
        go_at_call 11
        refine (alive24_any w').mono ?_
        rintro e w'' ⟨rfl, hb⟩
        exact hK.out _ _ (hw.1.trans (hb.mono hw.1.size)) hb rfl trivial
      rw [v0]
      simp only [Act.put, List.setIfInBounds_toArray, List.set_cons_zero, List.set_cons_succ]
      refine Wild.walk_simple rfl (by rfl) (by rfl) (fun K hK => ?_); go_big_quiet_op; first | (refine hK _ ?_; clear hK K) | (refine ⟨_, fun _ _ => rfl, hK _ ?_⟩; clear hK K)
      refine Wild.walk_simple rfl (by rfl) (by rfl) (fun K hK => ?_); go_big_quiet_op; first | (refine hK _ ?_; clear hK K) | (refine ⟨_, fun _ _ => rfl, hK _ ?_⟩; clear hK K)
      refine Wild.walk_simple rfl (by rfl) (by rfl) (fun K hK => ?_); go_big_quiet_op; first | (refine hK _ ?_; clear hK K) | (refine ⟨_, fun _ _ => rfl, hK _ ?_⟩; clear hK K)
      refine Wild.walk_simple rfl (by rfl) (by rfl) (fun K hK => ?_); go_big_quiet_op; first | (refine hK _ ?_; clear hK K) | (refine ⟨_, fun _ _ => rfl, hK _ ?_⟩; clear hK K)
      refine Wild.walk_load 26 _ _ _ (elL F T m view (.slice va N vc) clock wait) _ rfl (by rfl) rfl rfl (fun w' hw => rangeAt_row (cs := elL F T m view (.slice va N vc) clock wait) (HFy.out w' hw.1).1) Try.underlying26 rfl info_el ?_
      simp only [Act.put, List.setIfInBounds_toArray, List.set_cons_zero, List.set_cons_succ]
      refine Wild.walk_wild _ rfl (by rfl) (fun w' hw K hK => ?_) ?_
      · go_simp
        go_at_call 22
        refine (HGO.out w').mono ?_
        rintro e w'' ⟨rfl, hb⟩
        exact hK.out _ _ (hw.1.trans (hb.mono hw.1.size)) hb rfl trivial
      rw [v6]
      simp only [Act.put, List.setIfInBounds_toArray, List.set_cons_zero, List.set_cons_succ]
      refine Wild.walk_wild _ rfl (by rfl) (fun w' hw K hK => ?_) ?_
      · go_simp
        go_at_call 10
        refine (HPL.out _ _ _ _ _ w').mono ?_
        rintro e w'' ⟨rfl, hb⟩
        exact hK.out _ _ (hw.1.trans (hb.mono hw.1.size)) hb rfl trivial
      rw [v7]
      simp only [Act.put, List.setIfInBounds_toArray, List.set_cons_zero, List.set_cons_succ]
      refine Wild.walk_load 30 _ _ _ (elL F T m view (.slice oa N cap) clock wait) _ rfl (by rfl) rfl rfl (fun w' hw => rangeAt_row (cs := elL F T m view (.slice oa N cap) clock wait) (HFy.out w' hw.1).2.1) Try.underlying30 rfl info_rel ?_
      simp only [Act.put, List.setIfInBounds_toArray, List.set_cons_zero, List.set_cons_succ]
      refine Wild.walk_wild _ rfl (by rfl) (fun w' hw K hK => ?_) ?_
      · go_simp
        go_at_call 23
        refine (HGR.out _ _ w').mono ?_
        rintro e w'' ⟨rfl, hb⟩
        exact hK.out _ _ (hw.1.trans (hb.mono hw.1.size)) hb rfl trivial
      rw [v9]
      simp only [Act.put, List.setIfInBounds_toArray, List.set_cons_zero, List.set_cons_succ]
      refine Wild.walk_wild _ rfl (by rfl) (fun w' hw K hK => ?_) ?_
      · go_simp
        go_at_call 21
        refine (HSM.out view 0 4 votes HN.out.symm _ _ _ _ w' (HFy.out w' hw.1).2.2.1 (HFy.out w' hw.1).2.2.2).mono ?_
        rintro e w'' ⟨rfl, hb⟩
        exact hK.out _ _ (hw.1.trans (hb.mono hw.1.size)) hb rfl trivial
      rw [v10]
      simp only [Act.put, List.setIfInBounds_toArray, List.set_cons_zero, List.set_cons_succ]
      refine Wild.walk_simple rfl (by rfl) (by rfl) (fun K hK => ?_); go_big_quiet_op; first | (refine hK _ ?_; clear hK K) | (refine ⟨_, fun _ _ => rfl, hK _ ?_⟩; clear hK K)
      refine Wild.walk_simple rfl (by rfl) (by rfl) (fun K hK => ?_); go_big_quiet_op; first | (refine hK _ ?_; clear hK K) | (refine ⟨_, fun _ _ => rfl, hK _ ?_⟩; clear hK K)
      refine Wild.walk_load 26 _ _ _ (elL F T m view (.slice va N vc) clock wait) _ rfl (by rfl) rfl rfl (fun w' hw => rangeAt_row (cs := elL F T m view (.slice va N vc) clock wait) (HFy.out w' hw.1).1) Try.underlying26 rfl info_el ?_
      simp only [Act.put, List.setIfInBounds_toArray, List.set_cons_zero, List.set_cons_succ]
      refine Wild.walk_wild _ rfl (by rfl) (fun w' hw K hK => ?_) ?_
      · go_simp
        go_at_call 10
        refine (HPL.out _ _ _ _ _ w').mono ?_
        rintro e w'' ⟨rfl, hb⟩
        exact hK.out _ _ (hw.1.trans (hb.mono hw.1.size)) hb rfl trivial
      rw [v14]
      simp only [Act.put, List.setIfInBounds_toArray, List.set_cons_zero, List.set_cons_succ]
      refine Wild.walk_load 30 _ _ _ (elL F T m view (.slice oa N cap) clock wait) _ rfl (by rfl) rfl rfl (fun w' hw => rangeAt_row (cs := elL F T m view (.slice oa N cap) clock wait) (HFy.out w' hw.1).2.1) Try.underlying30 rfl info_rel ?_
      simp only [Act.put, List.setIfInBounds_toArray, List.set_cons_zero, List.set_cons_succ]
      refine Wild.walk_wild _ rfl (by rfl) (fun w' hw K hK => ?_) ?_
      · go_simp
        go_at_call 21
        refine (HSM.out view clock wait votes HN.out.symm _ _ _ _ w' (HFy.out w' hw.1).2.2.1 (HFy.out w' hw.1).2.2.2).mono ?_
        rintro e w'' ⟨rfl, hb⟩
        exact hK.out _ _ (hw.1.trans (hb.mono hw.1.size)) hb rfl trivial
      rw [v16]
      simp only [Act.put, List.setIfInBounds_toArray, List.set_cons_zero, List.set_cons_succ]
      refine Wild.walk_simple rfl (by rfl) (by rfl) (fun K hK => ?_); go_big_quiet_op; first | (refine hK _ ?_; clear hK K) | (refine ⟨_, fun _ _ => rfl, hK _ ?_⟩; clear hK K)
      refine Wild.walk_simple rfl (by rfl) (by rfl) (fun K hK => ?_); go_big_quiet_op; first | (refine hK _ ?_; clear hK K) | (refine ⟨_, fun _ _ => rfl, hK _ ?_⟩; clear hK K)
      refine Wild.walk_nil ?_
      intro w11 hw11 hf11
      have HB9 : Hid (Below w.heap.size w w11) := Lib.hid (YW.out.trans (Below.mono hw11 YW.out.size))
      clear hw11 hf11 hvs
      go_wp2_with fail
      go_ret
      exact ⟨rfl, HB9.out⟩
  · rw [decide_eq_false h1] at HRT
    clear h1
    go_enter Try.func5, Try.ntmps5
    go_upto_region 1 with (fail)
    rw [← HV.out]
    go_wp2_with (first
      | ((with_reducible refine at_load 26 _ rfl ?_); refine wpList_load_row rfl 26 _ rfl _ rfl _ (ElV F T me view (.slice va N vc) clock wait) (0, 0) _ HE.out Try.underlying26 rfl info_el ?_)
      | (go_at_call 10; refine (HPL.out _ _ _ _ _ _).mono ?_; rintro e w1 ⟨rfl, b1⟩; have HB1 := Lib.hid b1; have HS1 := Lib.hid (HS.out.later b1); clear b1)
      | (go_at_call 9; refine (HRT.out w1 HS1.out).mono ?_; rintro e w2 ⟨rfl, b2⟩; have HB2 := Lib.hid (HB1.out.trans (b2.mono HB1.out.size)); have HE2 := Lib.hid (HE.out.later HB2.out); obtain ⟨c0, c1, c2, c3, c4, c5, c6⟩ := HE2.out.cells; have HB3 := Lib.hid (HB.out.trans (HB2.out.mono HB.out.size)); clear b2)
      | (go_at_call 11; refine (alive24_any _).mono ?_; rintro e w3 ⟨rfl, b3⟩; have HB4 := Lib.hid (HB3.out.trans (b3.mono HB3.out.size)); clear b3))
    go_ret
    exact ⟨rfl, HB4.out⟩
end Go.Proofs.Ytgkhgjoggkcklaa

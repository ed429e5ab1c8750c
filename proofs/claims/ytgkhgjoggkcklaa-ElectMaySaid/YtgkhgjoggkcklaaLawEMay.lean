/- The walk of the law ElectMay. -/
import Derived.Test.YtgkhgjoggkcklaaERight
import Derived.Test.YtgkhgjoggkcklaaESameL
import Derived.Test.YtgkhgjoggkcklaaERNew
namespace Go.Proofs.Ytgkhgjoggkcklaa
open Go Go.RowKit
set_option maxRecDepth 100000
set_option maxHeartbeats 8000000
attribute [local irreducible] Wild.walk

theorem ElectMay_any (F T me view : Int) (v : Value) (clock wait : Int) (votes : List Int) (F' T' me' view' : Int) (v' : Value) (clock' wait' : Int) (votes' : List Int) (n : Int) (w : World) (hv : SlI w .i64 v votes) (hv' : SlI w .i64 v' votes') :
    Calls Try.prog 8 #[.agg (ElV F T me view v clock wait), .agg (ElV F' T' me' view' v' clock' wait'), .int .i64 n] w fun e w' => e = .returned (.bool true) ∧ Below w.heap.size w w' := by
  obtain ⟨va, vc, rfl⟩ := hv.shape
  obtain ⟨va', vc', rfl⟩ := hv'.shape
  obtain ⟨N, HN⟩ : ∃ N, Hid (N = votes.length) := ⟨_, Lib.hid rfl⟩
  obtain ⟨N', HN'⟩ : ∃ N, Hid (N = votes'.length) := ⟨_, Lib.hid rfl⟩
  have HSA := Lib.hid hv
  have HSB := Lib.hid hv'
  rw [← HN.out] at HSA ⊢
  rw [← HN'.out] at HSB ⊢
  obtain ⟨W0, HW0, HB0, HS0, HE0⟩ : ∃ V, Hid (V = w.alloc (.cells (ElV F T me view (.slice va N vc) clock wait) 26)) ∧ Hid (Below w.heap.size w V) ∧ Hid (V.heap.size = w.heap.size + 1) ∧ Hid (ElB V w.heap.size 26 F T me view (.slice va N vc) clock wait) := ⟨_, Lib.hid rfl, Lib.hid ((Below.refl _ _).alloc (Nat.le_refl _) _), Lib.hid (by simp), Lib.hid (heap_alloc_new _ _)⟩
  obtain ⟨V, HV, WW, EA, EB⟩ : ∃ V, Hid (V = W0.alloc (.cells (ElV F' T' me' view' (.slice va' N' vc') clock' wait') 26)) ∧ Hid (Below w.heap.size w V) ∧ Hid (ElB V w.heap.size 26 F T me view (.slice va N vc) clock wait) ∧ Hid (ElB V (w.heap.size + 1) 26 F' T' me' view' (.slice va' N' vc') clock' wait') :=
    ⟨_, Lib.hid rfl, Lib.hid (HB0.out.alloc HB0.out.size _), Lib.hid ((heap_alloc_old _ _ _ (by rw [HS0.out]; omega)).trans HE0.out), Lib.hid (by rw [← HS0.out]; exact heap_alloc_new _ _)⟩
  have SA := Lib.hid (HSA.out.later WW.out)
  have SB := Lib.hid (HSB.out.later WW.out)
  obtain ⟨c0, c1, c2, c3, c4, c5, c6⟩ := EA.out.cells
  obtain ⟨k0, k1, k2, k3, k4, k5, k6⟩ := EB.out.cells
  clear hv hv'
  by_cases h1 : 60 < N
  · have g1 : (60 : Int) < N := by omega
    have d1 : decide ((60 : Int) < N) = true := decide_eq_true g1
    go_enter Try.func8, Try.ntmps8
    go_upto_region 1 with (fail)
    rw [← HW0.out]
    change Code.wp _ _ _ _ (W0.alloc (.cells (ElV F' T' me' view' (.slice va' N' vc') clock' wait') 26))
    rw [← HV.out]
    go_wp2_with (go_at_call 11; refine (alive24_any _).mono ?_; rintro e w3 ⟨rfl, b3⟩; have HB4 := Lib.hid (WW.out.trans (b3.mono WW.out.size)); clear b3)
    go_ret
    exact ⟨rfl, HB4.out⟩
  · have n1 : ¬ (60 : Int) < N := by omega
    have d1 : decide ((60 : Int) < N) = false := decide_eq_false n1
    by_cases h2 : 60 < N'
    · have g2 : (60 : Int) < N' := by omega
      have d2 : decide ((60 : Int) < N') = true := decide_eq_true g2
      go_enter Try.func8, Try.ntmps8
      go_upto_region 1 with (fail)
      rw [← HW0.out]
      change Code.wp _ _ _ _ (W0.alloc (.cells (ElV F' T' me' view' (.slice va' N' vc') clock' wait') 26))
      rw [← HV.out]
      go_wp2_with (go_at_call 11; refine (alive24_any _).mono ?_; rintro e w3 ⟨rfl, b3⟩; have HB4 := Lib.hid (WW.out.trans (b3.mono WW.out.size)); clear b3)
      go_ret
      exact ⟨rfl, HB4.out⟩
    · have n2 : ¬ (60 : Int) < N' := by omega
      have d2 : decide ((60 : Int) < N') = false := decide_eq_false n2
      have HPL := Lib.hid (fun F T me view va vn vc clock wait w' => plain_any F T me view va vn vc clock wait w')
      have HSI := Lib.hid (fun w' => sized_any F T w')
      have HNE := Lib.hid (fun w' => New_any F T n w')
      have HNR := Lib.hid (fun w' => New_ref F T n w')
      have HRE := Lib.hid (fun w' h => Right_el F T me view (.slice va N vc) clock wait votes w' h (by rw [← HN.out]; omega))
      have HRR := Lib.hid (fun w' h => Right_ref F T me view (.slice va N vc) clock wait votes w' h)
      have HTE := Lib.hid (fun w' h => Nth_any (.slice va N vc) votes n w' h (by rw [← HN.out]; omega))
      have HTR := Lib.hid (fun w' h => Nth_ref (.slice va N vc) votes n w' h (by rw [← HN.out]; omega))
      have HSE := Lib.hid (fun w' h h' => Same_el F T me view (.slice va N vc) clock wait votes F' T' me' view' (.slice va' N' vc') clock' wait' votes' w' h h' (by rw [← HN.out]; omega) (by rw [← HN'.out]; omega))
      have HSR := Lib.hid (fun w' h h' => Same_ref F T me view (.slice va N vc) clock wait votes F' T' me' view' (.slice va' N' vc') clock' wait' votes' w' h h' (by rw [← HN.out]; omega) (by rw [← HN'.out]; omega))
      obtain ⟨rb, Hrb⟩ : ∃ r, Hid (r = decide (RightE F T me view votes clock wait)) := ⟨_, Lib.hid rfl⟩
      obtain ⟨sb, Hsb⟩ : ∃ r, Hid (r = sameB F T me view votes clock wait F' T' me' view' votes' clock' wait') := ⟨_, Lib.hid rfl⟩
      obtain ⟨tb, Htb⟩ : ∃ r, Hid (r = nthV votes n) := ⟨_, Lib.hid rfl⟩
      simp only [← Hrb.out] at HRE HRR
      simp only [← Hsb.out] at HSE HSR
      simp only [← Htb.out] at HTE HTR
      have gr : (rb == rb) = true := by simp
      have gs : (sb == sb) = true := by simp
      have gt : (tb == tb) = true := by simp
      clear Hrb Hsb Htb
      by_cases hok : newOk F T n = true
      · obtain ⟨M, HM⟩ : ∃ M, Hid (M = (3 * F + 2 * T + 1).toNat) := ⟨_, Lib.hid rfl⟩
        have HMB : Hid (M ≤ 1000000) := Lib.hid (by obtain ⟨⟨r1, r2, r3, r4⟩, -⟩ := (newOk_iff F T n).1 hok; rw [HM.out]; omega)
        simp only [hok, if_true, forall_const, ← HM.out] at HNE HNR
        have HSM := Lib.hid (fun a c a' c' w' h h' => by
          have h8 := Same_ref F T n 0 (.slice a M c) 0 4 (List.replicate M 0) F T n 0 (.slice a' M c') 0 4 (List.replicate M 0) w' h h' (by simpa using HMB.out) (by simpa using HMB.out)
          rw [show sameB F T n 0 (List.replicate M 0) 0 4 F T n 0 (List.replicate M 0) 0 4 = true from by simp [sameB]] at h8
          exact h8)
        clear hok
        go_enter Try.func8, Try.ntmps8
        go_upto_region 1 with (fail)
        rw [← HW0.out]
        change Code.wp _ _ _ _ (W0.alloc (.cells (ElV F' T' me' view' (.slice va' N' vc') clock' wait') 26))
        rw [← HV.out]
        go_upto_region 3 with (fail)
        clear c0 c1 c2 c3 c4 c5 c6 k0 k1 k2 k3 k4 k5 k6
        go_upto_region 4 with (first
          | ((with_reducible refine at_load 23 _ rfl ?_); refine wpList_load_midW (by rfl) 23 _ rfl w.heap.size 0 rfl [.int .i64 F, .int .i64 T] _ (el_size EA.out) Try.underlying23 rfl info_size ?_)
          | (go_at_call 24; refine (HNE.out V).mono ?_; rintro e w1 ⟨v1, rfl, ⟨s1, -⟩, b1⟩; obtain ⟨xa, xc, hv1⟩ := s1.shape; rw [List.length_replicate] at hv1; subst hv1; have SX0 := Lib.hid s1; clear s1; have HB1 := Lib.hid b1; clear b1)
          | ((with_reducible refine at_store 26 _ _ rfl ?_); refine wpList_store_new rfl 26 _ _ rfl (ElV F T n 0 (.slice xa M xc) 0 4) rfl rfl 26 _ info_el rfl ElV_one ?_))
        obtain ⟨b7, Hb7⟩ : ∃ b, Hid (b = w1.heap.size) := ⟨_, Lib.hid rfl⟩
        obtain ⟨w2, HW2, B2, BX, EX⟩ : ∃ W, Hid (W = w1.alloc (.cells (ElV F T n 0 (.slice xa M xc) 0 4) 26)) ∧ Hid (Below V.heap.size V W) ∧ Hid (Below w1.heap.size w1 W) ∧ Hid (ElB W b7 26 F T n 0 (.slice xa M xc) 0 4) := ⟨_, Lib.hid rfl, Lib.hid (HB1.out.alloc HB1.out.size _), Lib.hid ((Below.refl _ _).alloc (Nat.le_refl _) _), Lib.hid (by rw [Hb7.out]; exact heap_alloc_new _ _)⟩
        rw [← HW2.out, ← Hb7.out]
        have SX := Lib.hid (SX0.out.later BX.out)
        have EA' := Lib.hid (EA.out.later B2.out)
        have EB' := Lib.hid (EB.out.later B2.out)
        have SA' := Lib.hid (SA.out.later B2.out)
        have SB' := Lib.hid (SB.out.later B2.out)
        have WW' := Lib.hid (WW.out.trans (B2.out.mono WW.out.size))
        clear EA EB SA SB WW
        have EA := EA'
        have EB := EB'
        have SA := SA'
        have SB := SB'
        have WW := WW'
        clear EA' EB' SA' SB' WW'
        clear B2 BX HW2 Hb7 HB1
        try simp only [Act.put]
        go_upto_region 5 with (first
          | ((with_reducible refine at_load 23 _ rfl ?_); refine wpList_load_midW (by rfl) 23 _ rfl w.heap.size 0 rfl [.int .i64 F, .int .i64 T] _ (el_size EA.out) Try.underlying23 rfl info_size ?_)
          | (go_at_call 27; refine (HSI.out w2).mono ?_; rintro e w3 ⟨rfl, b3⟩; have HB3 := Lib.hid b3; clear b3)
          | (go_at_call 26; refine (HNR.out w3).mono ?_; rintro e w4 ⟨v1, rfl, ⟨s1, -⟩, b1⟩; obtain ⟨ya, yc, hv1⟩ := s1.shape; rw [List.length_replicate] at hv1; subst hv1; have SY0 := Lib.hid s1; clear s1; have HB4 := Lib.hid (HB3.out.trans (b1.mono HB3.out.size)); clear b1)
          | ((with_reducible refine at_store 30 _ _ rfl ?_); refine wpList_store_new rfl 30 _ _ rfl (ElV F T n 0 (.slice ya M yc) 0 4) rfl rfl 30 _ info_rel rfl ElV_one ?_))
        obtain ⟨b9, Hb9⟩ : ∃ b, Hid (b = w4.heap.size) := ⟨_, Lib.hid rfl⟩
        obtain ⟨w5, HW5, B5, BY, EY⟩ : ∃ W, Hid (W = w4.alloc (.cells (ElV F T n 0 (.slice ya M yc) 0 4) 30)) ∧ Hid (Below w2.heap.size w2 W) ∧ Hid (Below w4.heap.size w4 W) ∧ Hid (ElB W b9 30 F T n 0 (.slice ya M yc) 0 4) := ⟨_, Lib.hid rfl, Lib.hid (HB4.out.alloc HB4.out.size _), Lib.hid ((Below.refl _ _).alloc (Nat.le_refl _) _), Lib.hid (by rw [Hb9.out]; exact heap_alloc_new _ _)⟩
        rw [← HW5.out, ← Hb9.out]
        have SY := Lib.hid (SY0.out.later BY.out)
        have EA' := Lib.hid (EA.out.later B5.out)
        have EB' := Lib.hid (EB.out.later B5.out)
        have SA' := Lib.hid (SA.out.later B5.out)
        have SB' := Lib.hid (SB.out.later B5.out)
        have EX' := Lib.hid (EX.out.later B5.out)
        have SX' := Lib.hid (SX.out.later B5.out)
        have WW' := Lib.hid (WW.out.trans (B5.out.mono WW.out.size))
        clear EA EB SA SB EX SX WW
        have EA := EA'
        have EB := EB'
        have SA := SA'
        have SB := SB'
        have EX := EX'
        have SX := SX'
        have WW := WW'
        clear EA' EB' SA' SB' EX' SX' WW'
        clear B5 BY HW5 Hb9 HB3 HB4
        try simp only [Act.put]
        have HFy : Hid (∀ W, Below w5.heap.size w5 W → ElB W w.heap.size 26 F T me view (.slice va N vc) clock wait ∧ ElB W (w.heap.size + 1) 26 F' T' me' view' (.slice va' N' vc') clock' wait' ∧ SlI W .i64 (.slice va N vc) votes ∧ SlI W .i64 (.slice va' N' vc') votes' ∧ ElB W b7 26 F T n 0 (.slice xa M xc) 0 4 ∧ ElB W b9 30 F T n 0 (.slice ya M yc) 0 4 ∧ SlI W .i64 (.slice xa M xc) (List.replicate M 0) ∧ SlI W .i64 (.slice ya M yc) (List.replicate M 0)) := Lib.hid (fun W hW => ⟨EA.out.later hW, EB.out.later hW, SA.out.later hW, SB.out.later hW, EX.out.later hW, EY.out.later hW, SX.out.later hW, SY.out.later hW⟩)
        refine Wild.region_b (fun k => match k with | 1 => some (.fix (.agg (ElV F T n 0 (.slice xa M xc) 0 4))) | 3 => some (.fix (.bool true)) | 12 => some (.fix (.bool sb)) | 14 => some (.fix (.agg (ElV F T me view (.slice va N vc) clock wait))) | 16 => some (.fix (.agg (ElV F' T' me' view' (.slice va' N' vc') clock' wait'))) | 17 => some (.fix (.bool sb)) | _ => none) (fun _ => []) rfl (by kernel_rfl) (fun vs hvs => ?_)
        have v1 : vs 1 = .agg (ElV F T n 0 (.slice xa M xc) 0 4) := hvs 1 _ rfl
        have v3 : vs 3 = .bool true := hvs 3 _ rfl
        have v12 : vs 12 = .bool sb := hvs 12 _ rfl
        have v14 : vs 14 = .agg (ElV F T me view (.slice va N vc) clock wait) := hvs 14 _ rfl
        have v16 : vs 16 = .agg (ElV F' T' me' view' (.slice va' N' vc') clock' wait') := hvs 16 _ rfl
        have v17 : vs 17 = .bool sb := hvs 17 _ rfl
        refine Wild.walk_load 26 _ _ _ (elL F T n 0 (.slice xa M xc) 0 4) _ rfl (by rfl) rfl rfl (fun w' hw => rangeAt_row (cs := elL F T n 0 (.slice xa M xc) 0 4) (HFy.out w' hw.1).2.2.2.2.1) Try.underlying26 rfl info_el ?_
        simp only [Act.put, List.setIfInBounds_toArray, List.set_cons_zero, List.set_cons_succ]
        refine Wild.walk_wild _ rfl (by rfl) (fun w' hw K hK => ?_) ?_
        · go_simp
          go_at_call 10
          refine (HPL.out _ _ _ _ _ _ _ _ _ w').mono ?_
          rintro e w'' ⟨rfl, hb⟩
          exact hK.out _ _ (hw.1.trans (hb.mono hw.1.size)) hb rfl trivial
        rw [v1]
        simp only [Act.put, List.setIfInBounds_toArray, List.set_cons_zero, List.set_cons_succ]
        refine Wild.walk_load 30 _ _ _ (elL F T n 0 (.slice ya M yc) 0 4) _ rfl (by rfl) rfl rfl (fun w' hw => rangeAt_row (cs := elL F T n 0 (.slice ya M yc) 0 4) (HFy.out w' hw.1).2.2.2.2.2.1) Try.underlying30 rfl info_rel ?_
        simp only [Act.put, List.setIfInBounds_toArray, List.set_cons_zero, List.set_cons_succ]
        refine Wild.walk_wild _ rfl (by rfl) (fun w' hw K hK => ?_) ?_
        · go_simp
          go_at_call 21
          refine (HSM.out _ _ _ _ w' (HFy.out w' hw.1).2.2.2.2.2.2.1 (HFy.out w' hw.1).2.2.2.2.2.2.2).mono ?_
          rintro e w'' ⟨rfl, hb⟩
          exact hK.out _ _ (hw.1.trans (hb.mono hw.1.size)) hb rfl trivial
        rw [v3]
        simp only [Act.put, List.setIfInBounds_toArray, List.set_cons_zero, List.set_cons_succ]
        refine Wild.walk_simple rfl (by rfl) (by rfl) (fun K hK => ?_); go_big_quiet_op; first | (refine hK _ ?_; clear hK K) | (refine ⟨_, fun _ _ => rfl, hK _ ?_⟩; clear hK K)
        refine Wild.walk_simple rfl (by rfl) (by rfl) (fun K hK => ?_); go_big_quiet_op; first | (refine hK _ ?_; clear hK K) | (refine ⟨_, fun _ _ => rfl, hK _ ?_⟩; clear hK K)
        refine Wild.walk_simple rfl (by rfl) (by rfl) (fun K hK => ?_); go_big_quiet_op; first | (refine hK _ ?_; clear hK K) | (refine ⟨_, fun _ _ => rfl, hK _ ?_⟩; clear hK K)
        refine Wild.walk_simple rfl (by rfl) (by rfl) (fun K hK => ?_); go_big_quiet_op; first | (refine hK _ ?_; clear hK K) | (refine ⟨_, fun _ _ => rfl, hK _ ?_⟩; clear hK K)
        refine Wild.walk_simple rfl (by rfl) (by rfl) (fun K hK => ?_); go_big_quiet_op; first | (refine hK _ ?_; clear hK K) | (refine ⟨_, fun _ _ => rfl, hK _ ?_⟩; clear hK K)
        refine Wild.walk_simple rfl (by rfl) (by rfl) (fun K hK => ?_); go_big_quiet_op; first | (refine hK _ ?_; clear hK K) | (refine ⟨_, fun _ _ => rfl, hK _ ?_⟩; clear hK K)
        refine Wild.walk_load 26 _ _ _ (elL F T me view (.slice va N vc) clock wait) _ rfl (by rfl) rfl rfl (fun w' hw => rangeAt_row (cs := elL F T me view (.slice va N vc) clock wait) (HFy.out w' hw.1).1) Try.underlying26 rfl info_el ?_
        simp only [Act.put, List.setIfInBounds_toArray, List.set_cons_zero, List.set_cons_succ]
        refine Wild.walk_load 26 _ _ _ (elL F' T' me' view' (.slice va' N' vc') clock' wait') _ rfl (by rfl) rfl rfl (fun w' hw => rangeAt_row (cs := elL F' T' me' view' (.slice va' N' vc') clock' wait') (HFy.out w' hw.1).2.1) Try.underlying26 rfl info_el ?_
        simp only [Act.put, List.setIfInBounds_toArray, List.set_cons_zero, List.set_cons_succ]
        refine Wild.walk_wild _ rfl (by rfl) (fun w' hw K hK => ?_) ?_
        · go_simp
          go_at_call 28
          refine (HSE.out w' (HFy.out w' hw.1).2.2.1 (HFy.out w' hw.1).2.2.2.1).mono ?_
          rintro e w'' ⟨rfl, hb⟩
          exact hK.out _ _ (hw.1.trans (hb.mono hw.1.size)) hb rfl trivial
        rw [v12]
        simp only [Act.put, List.setIfInBounds_toArray, List.set_cons_zero, List.set_cons_succ]
        refine Wild.walk_load 26 _ _ _ (elL F T me view (.slice va N vc) clock wait) _ rfl (by rfl) rfl rfl (fun w' hw => rangeAt_row (cs := elL F T me view (.slice va N vc) clock wait) (HFy.out w' hw.1).1) Try.underlying26 rfl info_el ?_
        simp only [Act.put, List.setIfInBounds_toArray, List.set_cons_zero, List.set_cons_succ]
        refine Wild.walk_wild _ rfl (by rfl) (fun w' hw K hK => ?_) ?_
        · go_simp
          go_at_call 10
          refine (HPL.out _ _ _ _ _ _ _ _ _ w').mono ?_
          rintro e w'' ⟨rfl, hb⟩
          exact hK.out _ _ (hw.1.trans (hb.mono hw.1.size)) hb rfl trivial
        rw [v14]
        simp only [Act.put, List.setIfInBounds_toArray, List.set_cons_zero, List.set_cons_succ]
        refine Wild.walk_load 26 _ _ _ (elL F' T' me' view' (.slice va' N' vc') clock' wait') _ rfl (by rfl) rfl rfl (fun w' hw => rangeAt_row (cs := elL F' T' me' view' (.slice va' N' vc') clock' wait') (HFy.out w' hw.1).2.1) Try.underlying26 rfl info_el ?_
        simp only [Act.put, List.setIfInBounds_toArray, List.set_cons_zero, List.set_cons_succ]
        refine Wild.walk_wild _ rfl (by rfl) (fun w' hw K hK => ?_) ?_
        · go_simp
          go_at_call 10
          refine (HPL.out _ _ _ _ _ _ _ _ _ w').mono ?_
          rintro e w'' ⟨rfl, hb⟩
          exact hK.out _ _ (hw.1.trans (hb.mono hw.1.size)) hb rfl trivial
        rw [v16]
        simp only [Act.put, List.setIfInBounds_toArray, List.set_cons_zero, List.set_cons_succ]
        refine Wild.walk_wild _ rfl (by rfl) (fun w' hw K hK => ?_) ?_
        · go_simp
          go_at_call 21
          refine (HSR.out w' (HFy.out w' hw.1).2.2.1 (HFy.out w' hw.1).2.2.2.1).mono ?_
          rintro e w'' ⟨rfl, hb⟩
          exact hK.out _ _ (hw.1.trans (hb.mono hw.1.size)) hb rfl trivial
        rw [v17]
        simp only [Act.put, List.setIfInBounds_toArray, List.set_cons_zero, List.set_cons_succ]
        refine Wild.walk_simple rfl (by rfl) (by rfl) (fun K hK => ?_); go_big_quiet_op; first | (refine hK _ ?_; clear hK K) | (refine ⟨_, fun _ _ => rfl, hK _ ?_⟩; clear hK K)
        refine Wild.walk_simple rfl (by rfl) (by rfl) (fun K hK => ?_); go_big_quiet_op; first | (refine hK _ ?_; clear hK K) | (refine ⟨_, fun _ _ => rfl, hK _ ?_⟩; clear hK K)
        refine Wild.walk_simple rfl (by rfl) (by rfl) (fun K hK => ?_); go_big_quiet_op; first | (refine hK _ ?_; clear hK K) | (refine ⟨_, fun _ _ => rfl, hK _ ?_⟩; clear hK K)
        refine Wild.walk_nil ?_
        intro w6 hw6 hf6
        have B6 : Hid (Below w5.heap.size w5 w6) := Lib.hid hw6
        clear hw6 hf6 hvs HFy v1 v3 v12 v14 v16 v17
        have EA' := Lib.hid (EA.out.later B6.out)
        have SA' := Lib.hid (SA.out.later B6.out)
        have WW' := Lib.hid (WW.out.trans (B6.out.mono WW.out.size))
        clear EA SA WW
        have EA := EA'
        have SA := SA'
        have WW := WW'
        clear EA' SA' WW'
        clear B6 EB SB EX EY SX SY
        go_upto_region 6 with (fail)
        try simp only [Act.put]
        have HFy : Hid (∀ W, Below w6.heap.size w6 W → ElB W w.heap.size 26 F T me view (.slice va N vc) clock wait ∧ SlI W .i64 (.slice va N vc) votes) := Lib.hid (fun W hW => ⟨EA.out.later hW, SA.out.later hW⟩)
        refine Wild.region_b (fun k => match k with | 0 => some (.fix (.bool true)) | 6 => some (.fix (.bool rb)) | 8 => some (.fix (.agg (ElV F T me view (.slice va N vc) clock wait))) | 9 => some (.fix (.bool rb)) | 16 => some (.fix (.int .i64 tb)) | 20 => some (.fix (.int .i64 tb)) | _ => none) (fun _ => []) rfl (by kernel_rfl) (fun vs hvs => ?_)
        have v0 : vs 0 = .bool true := hvs 0 _ rfl
        have v6 : vs 6 = .bool rb := hvs 6 _ rfl
        have v8 : vs 8 = .agg (ElV F T me view (.slice va N vc) clock wait) := hvs 8 _ rfl
        have v9 : vs 9 = .bool rb := hvs 9 _ rfl
        have v16 : vs 16 = .int .i64 tb := hvs 16 _ rfl
        have v20 : vs 20 = .int .i64 tb := hvs 20 _ rfl
        refine Wild.walk_wild _ rfl (by rfl) (fun w' hw K hK => ?_) ?_
        · go_simp
          go_at_call 11
          refine (alive24_any w').mono ?_
          rintro e w'' ⟨rfl, hb⟩
          exact hK.out _ _ (hw.1.trans (hb.mono hw.1.size)) hb rfl trivial
        rw [v0]
        simp only [Act.put, List.setIfInBounds_toArray, List.set_cons_zero, List.set_cons_succ]
        refine Wild.walk_simple rfl (by rfl) (by rfl) (fun K hK => ?_); go_big_quiet_op; first | (refine hK _ ?_; clear hK K) | (refine ⟨_, fun _ _ => rfl, hK _ ?_⟩; clear hK K)
        refine Wild.walk_simple rfl (by rfl) (by rfl) (fun K hK => ?_); go_big_quiet_op; first | (refine hK _ ?_; clear hK K) | (refine ⟨_, fun _ _ => rfl, hK _ ?_⟩; clear hK K)
        refine Wild.walk_simple rfl (by rfl) (by rfl) (fun K hK => ?_); go_big_quiet_op; first | (refine hK _ ?_; clear hK K) | (refine ⟨_, fun _ _ => rfl, hK _ ?_⟩; clear hK K)
        refine Wild.walk_simple rfl (by rfl) (by rfl) (fun K hK => ?_); go_big_quiet_op; first | (refine hK _ ?_; clear hK K) | (refine ⟨_, fun _ _ => rfl, hK _ ?_⟩; clear hK K)
        refine Wild.walk_load 26 _ _ _ (elL F T me view (.slice va N vc) clock wait) _ rfl (by rfl) rfl rfl (fun w' hw => rangeAt_row (cs := elL F T me view (.slice va N vc) clock wait) (HFy.out w' hw.1).1) Try.underlying26 rfl info_el ?_
        simp only [Act.put, List.setIfInBounds_toArray, List.set_cons_zero, List.set_cons_succ]
        refine Wild.walk_wild _ rfl (by rfl) (fun w' hw K hK => ?_) ?_
        · go_simp
          go_at_call 29
          refine (HRE.out w' (HFy.out w' hw.1).2).mono ?_
          rintro e w'' ⟨rfl, hb⟩
          exact hK.out _ _ (hw.1.trans (hb.mono hw.1.size)) hb rfl trivial
        rw [v6]
        simp only [Act.put, List.setIfInBounds_toArray, List.set_cons_zero, List.set_cons_succ]
        refine Wild.walk_load 26 _ _ _ (elL F T me view (.slice va N vc) clock wait) _ rfl (by rfl) rfl rfl (fun w' hw => rangeAt_row (cs := elL F T me view (.slice va N vc) clock wait) (HFy.out w' hw.1).1) Try.underlying26 rfl info_el ?_
        simp only [Act.put, List.setIfInBounds_toArray, List.set_cons_zero, List.set_cons_succ]
        refine Wild.walk_wild _ rfl (by rfl) (fun w' hw K hK => ?_) ?_
        · go_simp
          go_at_call 10
          refine (HPL.out _ _ _ _ _ _ _ _ _ w').mono ?_
          rintro e w'' ⟨rfl, hb⟩
          exact hK.out _ _ (hw.1.trans (hb.mono hw.1.size)) hb rfl trivial
        rw [v8]
        simp only [Act.put, List.setIfInBounds_toArray, List.set_cons_zero, List.set_cons_succ]
        refine Wild.walk_wild _ rfl (by rfl) (fun w' hw K hK => ?_) ?_
        · go_simp
          go_at_call 9
          refine (HRR.out w' (HFy.out w' hw.1).2).mono ?_
          rintro e w'' ⟨rfl, hb⟩
          exact hK.out _ _ (hw.1.trans (hb.mono hw.1.size)) hb rfl trivial
        rw [v9]
        simp only [Act.put, List.setIfInBounds_toArray, List.set_cons_zero, List.set_cons_succ]
        refine Wild.walk_simple rfl (by rfl) (by rfl) (fun K hK => ?_); go_big_quiet_op; first | (refine hK _ ?_; clear hK K) | (refine ⟨_, fun _ _ => rfl, hK _ ?_⟩; clear hK K)
        refine Wild.walk_simple rfl (by rfl) (by rfl) (fun K hK => ?_); go_big_quiet_op; first | (refine hK _ ?_; clear hK K) | (refine ⟨_, fun _ _ => rfl, hK _ ?_⟩; clear hK K)
        refine Wild.walk_simple rfl (by rfl) (by rfl) (fun K hK => ?_); go_big_quiet_op; first | (refine hK _ ?_; clear hK K) | (refine ⟨_, fun _ _ => rfl, hK _ ?_⟩; clear hK K)
        refine Wild.walk_simple rfl (by rfl) (by rfl) (fun K hK => ?_); go_big_quiet_op; first | (refine hK _ ?_; clear hK K) | (refine ⟨_, fun _ _ => rfl, hK _ ?_⟩; clear hK K)
        refine Wild.walk_cell 24 _ _ _ (.slice va N vc) _ rfl (by rfl) rfl rfl (fun w' hw => (HFy.out w' hw.1).1.cells.2.2.2.2.1) Try.underlying24 rfl ?_
        simp only [Act.put, List.setIfInBounds_toArray, List.set_cons_zero, List.set_cons_succ]
        refine Wild.walk_simple rfl (by rfl) (by rfl) (fun K hK => ?_); go_big_quiet_op; first | (refine hK _ ?_; clear hK K) | (refine ⟨_, fun _ _ => rfl, hK _ ?_⟩; clear hK K)
        refine Wild.walk_wild _ rfl (by rfl) (fun w' hw K hK => ?_) ?_
        · go_simp
          go_at_call 17
          refine (HTE.out w' (HFy.out w' hw.1).2).mono ?_
          rintro e w'' ⟨rfl, hb⟩
          exact hK.out _ _ (hw.1.trans (hb.mono hw.1.size)) hb rfl trivial
        rw [v16]
        simp only [Act.put, List.setIfInBounds_toArray, List.set_cons_zero, List.set_cons_succ]
        refine Wild.walk_simple rfl (by rfl) (by rfl) (fun K hK => ?_); go_big_quiet_op; first | (refine hK _ ?_; clear hK K) | (refine ⟨_, fun _ _ => rfl, hK _ ?_⟩; clear hK K)
        refine Wild.walk_cell 24 _ _ _ (.slice va N vc) _ rfl (by rfl) rfl rfl (fun w' hw => (HFy.out w' hw.1).1.cells.2.2.2.2.1) Try.underlying24 rfl ?_
        simp only [Act.put, List.setIfInBounds_toArray, List.set_cons_zero, List.set_cons_succ]
        refine Wild.walk_simple rfl (by rfl) (by rfl) (fun K hK => ?_); go_big_quiet_op; first | (refine hK _ ?_; clear hK K) | (refine ⟨_, fun _ _ => rfl, hK _ ?_⟩; clear hK K)
        refine Wild.walk_wild _ rfl (by rfl) (fun w' hw K hK => ?_) ?_
        · go_simp
          go_at_call 30
          refine (HTR.out w' (HFy.out w' hw.1).2).mono ?_
          rintro e w'' ⟨rfl, hb⟩
          exact hK.out _ _ (hw.1.trans (hb.mono hw.1.size)) hb rfl trivial
        rw [v20]
        simp only [Act.put, List.setIfInBounds_toArray, List.set_cons_zero, List.set_cons_succ]
        refine Wild.walk_simple rfl (by rfl) (by rfl) (fun K hK => ?_); go_big_quiet_op; first | (refine hK _ ?_; clear hK K) | (refine ⟨_, fun _ _ => rfl, hK _ ?_⟩; clear hK K)
        refine Wild.walk_simple rfl (by rfl) (by rfl) (fun K hK => ?_); go_big_quiet_op; first | (refine hK _ ?_; clear hK K) | (refine ⟨_, fun _ _ => rfl, hK _ ?_⟩; clear hK K)
        refine Wild.walk_simple rfl (by rfl) (by rfl) (fun K hK => ?_); go_big_quiet_op; first | (refine hK _ ?_; clear hK K) | (refine ⟨_, fun _ _ => rfl, hK _ ?_⟩; clear hK K)
        refine Wild.walk_nil ?_
        intro w7 hw7 hf7
        have HB9 : Hid (Below w.heap.size w w7) := Lib.hid (WW.out.trans (Below.mono hw7 WW.out.size))
        clear hw7 hf7 hvs
        go_wp2_with fail
        go_ret
        exact ⟨rfl, HB9.out⟩
      · have hok' : newOk F T n = false := by simpa using hok
        simp only [hok', Bool.false_eq_true, if_false, false_implies, true_and, exists_const] at HNE HNR
        have HSM := Lib.hid (fun w' => by
          have h8 := Same_ref 0 0 0 0 (.slice none 0 0) 0 0 [] 0 0 0 0 (.slice none 0 0) 0 0 [] w' (.inl ⟨rfl, _, _, rfl⟩) (.inl ⟨rfl, _, _, rfl⟩) (by simp) (by simp)
          rw [show sameB 0 0 0 0 [] 0 0 0 0 0 0 [] 0 0 = true from by simp [sameB]] at h8
          exact h8)
        clear hok hok'
        go_enter Try.func8, Try.ntmps8
        go_upto_region 1 with (fail)
        rw [← HW0.out]
        change Code.wp _ _ _ _ (W0.alloc (.cells (ElV F' T' me' view' (.slice va' N' vc') clock' wait') 26))
        rw [← HV.out]
        go_upto_region 3 with (fail)
        clear c0 c1 c2 c3 c4 c5 c6 k0 k1 k2 k3 k4 k5 k6
        go_upto_region 4 with (first
          | ((with_reducible refine at_load 23 _ rfl ?_); refine wpList_load_midW (by rfl) 23 _ rfl w.heap.size 0 rfl [.int .i64 F, .int .i64 T] _ (el_size EA.out) Try.underlying23 rfl info_size ?_)
          | (go_at_call 24; refine (HNE.out V).mono ?_; rintro e w1 ⟨rfl, b1⟩; have HB1 := Lib.hid b1; clear b1)
          | ((with_reducible refine at_store 26 _ _ rfl ?_); refine wpList_store_new rfl 26 _ _ rfl (ElV 0 0 0 0 (.slice none 0 0) 0 0) rfl rfl 26 _ info_el rfl ElV_one ?_))
        obtain ⟨b7, Hb7⟩ : ∃ b, Hid (b = w1.heap.size) := ⟨_, Lib.hid rfl⟩
        obtain ⟨w2, HW2, B2, BX, EX⟩ : ∃ W, Hid (W = w1.alloc (.cells (ElV 0 0 0 0 (.slice none 0 0) 0 0) 26)) ∧ Hid (Below V.heap.size V W) ∧ Hid (Below w1.heap.size w1 W) ∧ Hid (ElB W b7 26 0 0 0 0 (.slice none 0 0) 0 0) := ⟨_, Lib.hid rfl, Lib.hid (HB1.out.alloc HB1.out.size _), Lib.hid ((Below.refl _ _).alloc (Nat.le_refl _) _), Lib.hid (by rw [Hb7.out]; exact heap_alloc_new _ _)⟩
        rw [← HW2.out, ← Hb7.out]
        have EA' := Lib.hid (EA.out.later B2.out)
        have EB' := Lib.hid (EB.out.later B2.out)
        have SA' := Lib.hid (SA.out.later B2.out)
        have SB' := Lib.hid (SB.out.later B2.out)
        have WW' := Lib.hid (WW.out.trans (B2.out.mono WW.out.size))
        clear EA EB SA SB WW
        have EA := EA'
        have EB := EB'
        have SA := SA'
        have SB := SB'
        have WW := WW'
        clear EA' EB' SA' SB' WW'
        clear B2 BX HW2 Hb7 HB1
        try simp only [Act.put]
        go_upto_region 5 with (first
          | ((with_reducible refine at_load 23 _ rfl ?_); refine wpList_load_midW (by rfl) 23 _ rfl w.heap.size 0 rfl [.int .i64 F, .int .i64 T] _ (el_size EA.out) Try.underlying23 rfl info_size ?_)
          | (go_at_call 27; refine (HSI.out w2).mono ?_; rintro e w3 ⟨rfl, b3⟩; have HB3 := Lib.hid b3; clear b3)
          | (go_at_call 26; refine (HNR.out w3).mono ?_; rintro e w4 ⟨rfl, b1⟩; have HB4 := Lib.hid (HB3.out.trans (b1.mono HB3.out.size)); clear b1)
          | ((with_reducible refine at_store 30 _ _ rfl ?_); refine wpList_store_new rfl 30 _ _ rfl (ElV 0 0 0 0 (.slice none 0 0) 0 0) rfl rfl 30 _ info_rel rfl ElV_one ?_))
        obtain ⟨b9, Hb9⟩ : ∃ b, Hid (b = w4.heap.size) := ⟨_, Lib.hid rfl⟩
        obtain ⟨w5, HW5, B5, BY, EY⟩ : ∃ W, Hid (W = w4.alloc (.cells (ElV 0 0 0 0 (.slice none 0 0) 0 0) 30)) ∧ Hid (Below w2.heap.size w2 W) ∧ Hid (Below w4.heap.size w4 W) ∧ Hid (ElB W b9 30 0 0 0 0 (.slice none 0 0) 0 0) := ⟨_, Lib.hid rfl, Lib.hid (HB4.out.alloc HB4.out.size _), Lib.hid ((Below.refl _ _).alloc (Nat.le_refl _) _), Lib.hid (by rw [Hb9.out]; exact heap_alloc_new _ _)⟩
        rw [← HW5.out, ← Hb9.out]
        have EA' := Lib.hid (EA.out.later B5.out)
        have EB' := Lib.hid (EB.out.later B5.out)
        have SA' := Lib.hid (SA.out.later B5.out)
        have SB' := Lib.hid (SB.out.later B5.out)
        have EX' := Lib.hid (EX.out.later B5.out)
        have WW' := Lib.hid (WW.out.trans (B5.out.mono WW.out.size))
        clear EA EB SA SB EX WW
        have EA := EA'
        have EB := EB'
        have SA := SA'
        have SB := SB'
        have EX := EX'
        have WW := WW'
        clear EA' EB' SA' SB' EX' WW'
        clear B5 BY HW5 Hb9 HB3 HB4
        try simp only [Act.put]
        have HFy : Hid (∀ W, Below w5.heap.size w5 W → ElB W w.heap.size 26 F T me view (.slice va N vc) clock wait ∧ ElB W (w.heap.size + 1) 26 F' T' me' view' (.slice va' N' vc') clock' wait' ∧ SlI W .i64 (.slice va N vc) votes ∧ SlI W .i64 (.slice va' N' vc') votes' ∧ ElB W b7 26 0 0 0 0 (.slice none 0 0) 0 0 ∧ ElB W b9 30 0 0 0 0 (.slice none 0 0) 0 0) := Lib.hid (fun W hW => ⟨EA.out.later hW, EB.out.later hW, SA.out.later hW, SB.out.later hW, EX.out.later hW, EY.out.later hW⟩)
        refine Wild.region_b (fun k => match k with | 1 => some (.fix (.agg (ElV 0 0 0 0 (.slice none 0 0) 0 0))) | 3 => some (.fix (.bool true)) | 12 => some (.fix (.bool sb)) | 14 => some (.fix (.agg (ElV F T me view (.slice va N vc) clock wait))) | 16 => some (.fix (.agg (ElV F' T' me' view' (.slice va' N' vc') clock' wait'))) | 17 => some (.fix (.bool sb)) | _ => none) (fun _ => []) rfl (by kernel_rfl) (fun vs hvs => ?_)
        have v1 : vs 1 = .agg (ElV 0 0 0 0 (.slice none 0 0) 0 0) := hvs 1 _ rfl
        have v3 : vs 3 = .bool true := hvs 3 _ rfl
        have v12 : vs 12 = .bool sb := hvs 12 _ rfl
        have v14 : vs 14 = .agg (ElV F T me view (.slice va N vc) clock wait) := hvs 14 _ rfl
        have v16 : vs 16 = .agg (ElV F' T' me' view' (.slice va' N' vc') clock' wait') := hvs 16 _ rfl
        have v17 : vs 17 = .bool sb := hvs 17 _ rfl
        refine Wild.walk_load 26 _ _ _ (elL 0 0 0 0 (.slice none 0 0) 0 0) _ rfl (by rfl) rfl rfl (fun w' hw => rangeAt_row (cs := elL 0 0 0 0 (.slice none 0 0) 0 0) (HFy.out w' hw.1).2.2.2.2.1) Try.underlying26 rfl info_el ?_
        simp only [Act.put, List.setIfInBounds_toArray, List.set_cons_zero, List.set_cons_succ]
        refine Wild.walk_wild _ rfl (by rfl) (fun w' hw K hK => ?_) ?_
        · go_simp
          go_at_call 10
          refine (HPL.out _ _ _ _ _ _ _ _ _ w').mono ?_
          rintro e w'' ⟨rfl, hb⟩
          exact hK.out _ _ (hw.1.trans (hb.mono hw.1.size)) hb rfl trivial
        rw [v1]
        simp only [Act.put, List.setIfInBounds_toArray, List.set_cons_zero, List.set_cons_succ]
        refine Wild.walk_load 30 _ _ _ (elL 0 0 0 0 (.slice none 0 0) 0 0) _ rfl (by rfl) rfl rfl (fun w' hw => rangeAt_row (cs := elL 0 0 0 0 (.slice none 0 0) 0 0) (HFy.out w' hw.1).2.2.2.2.2) Try.underlying30 rfl info_rel ?_
        simp only [Act.put, List.setIfInBounds_toArray, List.set_cons_zero, List.set_cons_succ]
        refine Wild.walk_wild _ rfl (by rfl) (fun w' hw K hK => ?_) ?_
        · go_simp
          go_at_call 21
          refine (HSM.out w').mono ?_
          rintro e w'' ⟨rfl, hb⟩
          exact hK.out _ _ (hw.1.trans (hb.mono hw.1.size)) hb rfl trivial
        rw [v3]
        simp only [Act.put, List.setIfInBounds_toArray, List.set_cons_zero, List.set_cons_succ]
        refine Wild.walk_simple rfl (by rfl) (by rfl) (fun K hK => ?_); go_big_quiet_op; first | (refine hK _ ?_; clear hK K) | (refine ⟨_, fun _ _ => rfl, hK _ ?_⟩; clear hK K)
        refine Wild.walk_simple rfl (by rfl) (by rfl) (fun K hK => ?_); go_big_quiet_op; first | (refine hK _ ?_; clear hK K) | (refine ⟨_, fun _ _ => rfl, hK _ ?_⟩; clear hK K)
        refine Wild.walk_simple rfl (by rfl) (by rfl) (fun K hK => ?_); go_big_quiet_op; first | (refine hK _ ?_; clear hK K) | (refine ⟨_, fun _ _ => rfl, hK _ ?_⟩; clear hK K)
        refine Wild.walk_simple rfl (by rfl) (by rfl) (fun K hK => ?_); go_big_quiet_op; first | (refine hK _ ?_; clear hK K) | (refine ⟨_, fun _ _ => rfl, hK _ ?_⟩; clear hK K)
        refine Wild.walk_simple rfl (by rfl) (by rfl) (fun K hK => ?_); go_big_quiet_op; first | (refine hK _ ?_; clear hK K) | (refine ⟨_, fun _ _ => rfl, hK _ ?_⟩; clear hK K)
        refine Wild.walk_simple rfl (by rfl) (by rfl) (fun K hK => ?_); go_big_quiet_op; first | (refine hK _ ?_; clear hK K) | (refine ⟨_, fun _ _ => rfl, hK _ ?_⟩; clear hK K)
        refine Wild.walk_load 26 _ _ _ (elL F T me view (.slice va N vc) clock wait) _ rfl (by rfl) rfl rfl (fun w' hw => rangeAt_row (cs := elL F T me view (.slice va N vc) clock wait) (HFy.out w' hw.1).1) Try.underlying26 rfl info_el ?_
        simp only [Act.put, List.setIfInBounds_toArray, List.set_cons_zero, List.set_cons_succ]
        refine Wild.walk_load 26 _ _ _ (elL F' T' me' view' (.slice va' N' vc') clock' wait') _ rfl (by rfl) rfl rfl (fun w' hw => rangeAt_row (cs := elL F' T' me' view' (.slice va' N' vc') clock' wait') (HFy.out w' hw.1).2.1) Try.underlying26 rfl info_el ?_
        simp only [Act.put, List.setIfInBounds_toArray, List.set_cons_zero, List.set_cons_succ]
        refine Wild.walk_wild _ rfl (by rfl) (fun w' hw K hK => ?_) ?_
        · go_simp
          go_at_call 28
          refine (HSE.out w' (HFy.out w' hw.1).2.2.1 (HFy.out w' hw.1).2.2.2.1).mono ?_
          rintro e w'' ⟨rfl, hb⟩
          exact hK.out _ _ (hw.1.trans (hb.mono hw.1.size)) hb rfl trivial
        rw [v12]
        simp only [Act.put, List.setIfInBounds_toArray, List.set_cons_zero, List.set_cons_succ]
        refine Wild.walk_load 26 _ _ _ (elL F T me view (.slice va N vc) clock wait) _ rfl (by rfl) rfl rfl (fun w' hw => rangeAt_row (cs := elL F T me view (.slice va N vc) clock wait) (HFy.out w' hw.1).1) Try.underlying26 rfl info_el ?_
        simp only [Act.put, List.setIfInBounds_toArray, List.set_cons_zero, List.set_cons_succ]
        refine Wild.walk_wild _ rfl (by rfl) (fun w' hw K hK => ?_) ?_
        · go_simp
          go_at_call 10
          refine (HPL.out _ _ _ _ _ _ _ _ _ w').mono ?_
          rintro e w'' ⟨rfl, hb⟩
          exact hK.out _ _ (hw.1.trans (hb.mono hw.1.size)) hb rfl trivial
        rw [v14]
        simp only [Act.put, List.setIfInBounds_toArray, List.set_cons_zero, List.set_cons_succ]
        refine Wild.walk_load 26 _ _ _ (elL F' T' me' view' (.slice va' N' vc') clock' wait') _ rfl (by rfl) rfl rfl (fun w' hw => rangeAt_row (cs := elL F' T' me' view' (.slice va' N' vc') clock' wait') (HFy.out w' hw.1).2.1) Try.underlying26 rfl info_el ?_
        simp only [Act.put, List.setIfInBounds_toArray, List.set_cons_zero, List.set_cons_succ]
        refine Wild.walk_wild _ rfl (by rfl) (fun w' hw K hK => ?_) ?_
        · go_simp
          go_at_call 10
          refine (HPL.out _ _ _ _ _ _ _ _ _ w').mono ?_
          rintro e w'' ⟨rfl, hb⟩
          exact hK.out _ _ (hw.1.trans (hb.mono hw.1.size)) hb rfl trivial
        rw [v16]
        simp only [Act.put, List.setIfInBounds_toArray, List.set_cons_zero, List.set_cons_succ]
        refine Wild.walk_wild _ rfl (by rfl) (fun w' hw K hK => ?_) ?_
        · go_simp
          go_at_call 21
          refine (HSR.out w' (HFy.out w' hw.1).2.2.1 (HFy.out w' hw.1).2.2.2.1).mono ?_
          rintro e w'' ⟨rfl, hb⟩
          exact hK.out _ _ (hw.1.trans (hb.mono hw.1.size)) hb rfl trivial
        rw [v17]
        simp only [Act.put, List.setIfInBounds_toArray, List.set_cons_zero, List.set_cons_succ]
        refine Wild.walk_simple rfl (by rfl) (by rfl) (fun K hK => ?_); go_big_quiet_op; first | (refine hK _ ?_; clear hK K) | (refine ⟨_, fun _ _ => rfl, hK _ ?_⟩; clear hK K)
        refine Wild.walk_simple rfl (by rfl) (by rfl) (fun K hK => ?_); go_big_quiet_op; first | (refine hK _ ?_; clear hK K) | (refine ⟨_, fun _ _ => rfl, hK _ ?_⟩; clear hK K)
        refine Wild.walk_simple rfl (by rfl) (by rfl) (fun K hK => ?_); go_big_quiet_op; first | (refine hK _ ?_; clear hK K) | (refine ⟨_, fun _ _ => rfl, hK _ ?_⟩; clear hK K)
        refine Wild.walk_nil ?_
        intro w6 hw6 hf6
        have B6 : Hid (Below w5.heap.size w5 w6) := Lib.hid hw6
        clear hw6 hf6 hvs HFy v1 v3 v12 v14 v16 v17
        have EA' := Lib.hid (EA.out.later B6.out)
        have SA' := Lib.hid (SA.out.later B6.out)
        have WW' := Lib.hid (WW.out.trans (B6.out.mono WW.out.size))
        clear EA SA WW
        have EA := EA'
        have SA := SA'
        have WW := WW'
        clear EA' SA' WW'
        clear B6 EB SB EX EY
        go_upto_region 6 with (fail)
        try simp only [Act.put]
        have HFy : Hid (∀ W, Below w6.heap.size w6 W → ElB W w.heap.size 26 F T me view (.slice va N vc) clock wait ∧ SlI W .i64 (.slice va N vc) votes) := Lib.hid (fun W hW => ⟨EA.out.later hW, SA.out.later hW⟩)
        refine Wild.region_b (fun k => match k with | 0 => some (.fix (.bool true)) | 6 => some (.fix (.bool rb)) | 8 => some (.fix (.agg (ElV F T me view (.slice va N vc) clock wait))) | 9 => some (.fix (.bool rb)) | 16 => some (.fix (.int .i64 tb)) | 20 => some (.fix (.int .i64 tb)) | _ => none) (fun _ => []) rfl (by kernel_rfl) (fun vs hvs => ?_)
        have v0 : vs 0 = .bool true := hvs 0 _ rfl
        have v6 : vs 6 = .bool rb := hvs 6 _ rfl
        have v8 : vs 8 = .agg (ElV F T me view (.slice va N vc) clock wait) := hvs 8 _ rfl
        have v9 : vs 9 = .bool rb := hvs 9 _ rfl
        have v16 : vs 16 = .int .i64 tb := hvs 16 _ rfl
        have v20 : vs 20 = .int .i64 tb := hvs 20 _ rfl
        refine Wild.walk_wild _ rfl (by rfl) (fun w' hw K hK => ?_) ?_
        · go_simp
          go_at_call 11
          refine (alive24_any w').mono ?_
          rintro e w'' ⟨rfl, hb⟩
          exact hK.out _ _ (hw.1.trans (hb.mono hw.1.size)) hb rfl trivial
        rw [v0]
        simp only [Act.put, List.setIfInBounds_toArray, List.set_cons_zero, List.set_cons_succ]
        refine Wild.walk_simple rfl (by rfl) (by rfl) (fun K hK => ?_); go_big_quiet_op; first | (refine hK _ ?_; clear hK K) | (refine ⟨_, fun _ _ => rfl, hK _ ?_⟩; clear hK K)
        refine Wild.walk_simple rfl (by rfl) (by rfl) (fun K hK => ?_); go_big_quiet_op; first | (refine hK _ ?_; clear hK K) | (refine ⟨_, fun _ _ => rfl, hK _ ?_⟩; clear hK K)
        refine Wild.walk_simple rfl (by rfl) (by rfl) (fun K hK => ?_); go_big_quiet_op; first | (refine hK _ ?_; clear hK K) | (refine ⟨_, fun _ _ => rfl, hK _ ?_⟩; clear hK K)
        refine Wild.walk_simple rfl (by rfl) (by rfl) (fun K hK => ?_); go_big_quiet_op; first | (refine hK _ ?_; clear hK K) | (refine ⟨_, fun _ _ => rfl, hK _ ?_⟩; clear hK K)
        refine Wild.walk_load 26 _ _ _ (elL F T me view (.slice va N vc) clock wait) _ rfl (by rfl) rfl rfl (fun w' hw => rangeAt_row (cs := elL F T me view (.slice va N vc) clock wait) (HFy.out w' hw.1).1) Try.underlying26 rfl info_el ?_
        simp only [Act.put, List.setIfInBounds_toArray, List.set_cons_zero, List.set_cons_succ]
        refine Wild.walk_wild _ rfl (by rfl) (fun w' hw K hK => ?_) ?_
        · go_simp
          go_at_call 29
          refine (HRE.out w' (HFy.out w' hw.1).2).mono ?_
          rintro e w'' ⟨rfl, hb⟩
          exact hK.out _ _ (hw.1.trans (hb.mono hw.1.size)) hb rfl trivial
        rw [v6]
        simp only [Act.put, List.setIfInBounds_toArray, List.set_cons_zero, List.set_cons_succ]
        refine Wild.walk_load 26 _ _ _ (elL F T me view (.slice va N vc) clock wait) _ rfl (by rfl) rfl rfl (fun w' hw => rangeAt_row (cs := elL F T me view (.slice va N vc) clock wait) (HFy.out w' hw.1).1) Try.underlying26 rfl info_el ?_
        simp only [Act.put, List.setIfInBounds_toArray, List.set_cons_zero, List.set_cons_succ]
        refine Wild.walk_wild _ rfl (by rfl) (fun w' hw K hK => ?_) ?_
        · go_simp
          go_at_call 10
          refine (HPL.out _ _ _ _ _ _ _ _ _ w').mono ?_
          rintro e w'' ⟨rfl, hb⟩
          exact hK.out _ _ (hw.1.trans (hb.mono hw.1.size)) hb rfl trivial
        rw [v8]
        simp only [Act.put, List.setIfInBounds_toArray, List.set_cons_zero, List.set_cons_succ]
        refine Wild.walk_wild _ rfl (by rfl) (fun w' hw K hK => ?_) ?_
        · go_simp
          go_at_call 9
          refine (HRR.out w' (HFy.out w' hw.1).2).mono ?_
          rintro e w'' ⟨rfl, hb⟩
          exact hK.out _ _ (hw.1.trans (hb.mono hw.1.size)) hb rfl trivial
        rw [v9]
        simp only [Act.put, List.setIfInBounds_toArray, List.set_cons_zero, List.set_cons_succ]
        refine Wild.walk_simple rfl (by rfl) (by rfl) (fun K hK => ?_); go_big_quiet_op; first | (refine hK _ ?_; clear hK K) | (refine ⟨_, fun _ _ => rfl, hK _ ?_⟩; clear hK K)
        refine Wild.walk_simple rfl (by rfl) (by rfl) (fun K hK => ?_); go_big_quiet_op; first | (refine hK _ ?_; clear hK K) | (refine ⟨_, fun _ _ => rfl, hK _ ?_⟩; clear hK K)
        refine Wild.walk_simple rfl (by rfl) (by rfl) (fun K hK => ?_); go_big_quiet_op; first | (refine hK _ ?_; clear hK K) | (refine ⟨_, fun _ _ => rfl, hK _ ?_⟩; clear hK K)
        refine Wild.walk_simple rfl (by rfl) (by rfl) (fun K hK => ?_); go_big_quiet_op; first | (refine hK _ ?_; clear hK K) | (refine ⟨_, fun _ _ => rfl, hK _ ?_⟩; clear hK K)
        refine Wild.walk_cell 24 _ _ _ (.slice va N vc) _ rfl (by rfl) rfl rfl (fun w' hw => (HFy.out w' hw.1).1.cells.2.2.2.2.1) Try.underlying24 rfl ?_
        simp only [Act.put, List.setIfInBounds_toArray, List.set_cons_zero, List.set_cons_succ]
        refine Wild.walk_simple rfl (by rfl) (by rfl) (fun K hK => ?_); go_big_quiet_op; first | (refine hK _ ?_; clear hK K) | (refine ⟨_, fun _ _ => rfl, hK _ ?_⟩; clear hK K)
        refine Wild.walk_wild _ rfl (by rfl) (fun w' hw K hK => ?_) ?_
        · go_simp
          go_at_call 17
          refine (HTE.out w' (HFy.out w' hw.1).2).mono ?_
          rintro e w'' ⟨rfl, hb⟩
          exact hK.out _ _ (hw.1.trans (hb.mono hw.1.size)) hb rfl trivial
        rw [v16]
        simp only [Act.put, List.setIfInBounds_toArray, List.set_cons_zero, List.set_cons_succ]
        refine Wild.walk_simple rfl (by rfl) (by rfl) (fun K hK => ?_); go_big_quiet_op; first | (refine hK _ ?_; clear hK K) | (refine ⟨_, fun _ _ => rfl, hK _ ?_⟩; clear hK K)
        refine Wild.walk_cell 24 _ _ _ (.slice va N vc) _ rfl (by rfl) rfl rfl (fun w' hw => (HFy.out w' hw.1).1.cells.2.2.2.2.1) Try.underlying24 rfl ?_
        simp only [Act.put, List.setIfInBounds_toArray, List.set_cons_zero, List.set_cons_succ]
        refine Wild.walk_simple rfl (by rfl) (by rfl) (fun K hK => ?_); go_big_quiet_op; first | (refine hK _ ?_; clear hK K) | (refine ⟨_, fun _ _ => rfl, hK _ ?_⟩; clear hK K)
        refine Wild.walk_wild _ rfl (by rfl) (fun w' hw K hK => ?_) ?_
        · go_simp
          go_at_call 30
          refine (HTR.out w' (HFy.out w' hw.1).2).mono ?_
          rintro e w'' ⟨rfl, hb⟩
          exact hK.out _ _ (hw.1.trans (hb.mono hw.1.size)) hb rfl trivial
        rw [v20]
        simp only [Act.put, List.setIfInBounds_toArray, List.set_cons_zero, List.set_cons_succ]
        refine Wild.walk_simple rfl (by rfl) (by rfl) (fun K hK => ?_); go_big_quiet_op; first | (refine hK _ ?_; clear hK K) | (refine ⟨_, fun _ _ => rfl, hK _ ?_⟩; clear hK K)
        refine Wild.walk_simple rfl (by rfl) (by rfl) (fun K hK => ?_); go_big_quiet_op; first | (refine hK _ ?_; clear hK K) | (refine ⟨_, fun _ _ => rfl, hK _ ?_⟩; clear hK K)
        refine Wild.walk_simple rfl (by rfl) (by rfl) (fun K hK => ?_); go_big_quiet_op; first | (refine hK _ ?_; clear hK K) | (refine ⟨_, fun _ _ => rfl, hK _ ?_⟩; clear hK K)
        refine Wild.walk_nil ?_
        intro w7 hw7 hf7
        have HB9 : Hid (Below w.heap.size w w7) := Lib.hid (WW.out.trans (Below.mono hw7 WW.out.size))
        clear hw7 hf7 hvs
        go_wp2_with fail
        go_ret
        exact ⟨rfl, HB9.out⟩
end Go.Proofs.Ytgkhgjoggkcklaa

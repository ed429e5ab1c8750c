/- The walk of the law ElectRises. -/
import Derived.Test.YtgkhgjoggkcklaaPlRises
import Derived.Test.YtgkhgjoggkcklaaEMovA
import Derived.Test.YtgkhgjoggkcklaaEOpenB
import Derived.Deep.CutRange
namespace Go.Proofs.Ytgkhgjoggkcklaa
open Go Go.RowKit
set_option maxRecDepth 100000
set_option maxHeartbeats 8000000
attribute [local irreducible] Wild.walk

theorem right_new (F T : Int) (m N : Nat) (hs : SizeOk F T m N) : RightE F T m 0 (List.replicate N 0) 0 4 := by
  obtain ⟨hR, hn, hme⟩ := hs
  refine ⟨hR, by omega, by omega, by simpa using hn, by omega, by omega, by omega, fun v hv => ?_, by decide⟩
  rw [(List.mem_replicate.1 hv).2]
  omega
theorem ElectRises_any (F T me : Int) (sa : Option Addr) (n sc : Nat) (K B X : Nat → Int) (w : World) (hs : Acts w sa n sc K B X) :
    Calls Try.prog 6 #[.agg (SizeV F T), .int .i64 me, .slice sa n sc] w fun e w' => e = .returned (.bool true) ∧ Below w.heap.size w w' := by
  obtain ⟨V, HV, HB, HS, HE⟩ : ∃ V, Hid (V = w.alloc (.cells (SizeV F T) 23)) ∧ Hid (Below w.heap.size w V) ∧ Hid (V.heap.size = w.heap.size + 1) ∧ Hid (V.heap[w.heap.size]? = some (.cells (SizeV F T) 23 (0, 0))) := ⟨_, Lib.hid rfl, Lib.hid ((Below.refl _ _).alloc (Nat.le_refl _) _), Lib.hid (by simp), Lib.hid (heap_alloc_new _ _)⟩
  have IS : (Try.prog.info? 23).map (·.size) = some (SizeV F T).size := info_size
  have HN := Lib.hid (New_any F T me V)
  have HA := Lib.hid (hs.later HB.out)
  clear hs
  by_cases hok : newOk F T me = true
  · simp only [hok, if_true, forall_const] at HN
    obtain ⟨h1, h2⟩ : rightS F T = true ∧ (0 ≤ me ∧ me < 3 * F + 2 * T + 1) := by simpa [newOk] using hok
    have hR := (rightS_iff F T).1 h1
    obtain ⟨m, rfl⟩ : ∃ m : Nat, me = m := ⟨me.toNat, by omega⟩
    obtain ⟨N, HNN⟩ : ∃ N : Nat, Hid (3 * F + 2 * T + 1 = N) := ⟨(3 * F + 2 * T + 1).toNat, Lib.hid (by obtain ⟨r1, r2, r3, r4⟩ := hR; omega)⟩
    have HSZ : Hid (SizeOk F T m N) := Lib.hid ⟨hR, HNN.out.symm, by have := HNN.out; omega⟩
    have HNB : Hid (N ≤ 1000 ∧ 0 < N) := Lib.hid (by have := HNN.out; obtain ⟨r1, r2, r3, r4⟩ := hR; omega)
    rw [HNN.out, Int.toNat_natCast] at HN
    by_cases hn : n ≤ 200
    · have hni : (n : Int) ≤ 200 := by omega
      have dn : decide ((200 : Int) < n) = false := decide_eq_false (by omega)
      have HDO := Lib.hid (fun vv wait kind by_ x (E : El) w' (h1 : SlI w' .i64 vv E.votes) (hE : E.votes.length = N) a b c d => done_any F T m vv wait kind by_ x E w' h1 hR (by rw [hE]; exact HNB.out.1) (by rw [hE]; exact HSZ.out.hme) a b c d)
      have HRT := Lib.hid (fun view vv clock wait votes w' h => Right_ref F T m view vv clock wait votes w' h)
      have HPL := Lib.hid (fun view va vn vc clock wait w' => plain_any F T m view va vn vc clock wait w')
      have HWE := Lib.hid (fun w' => Weak_any F T w' hR)
      have HPR := Lib.hid (fun w' => Proof_any F T w' hR)
      have HAB := Lib.hid (fun v l y w' h1 h2 => above_any v l y w' h1 h2)
      clear hok h1 h2
      go_enter Try.func6, Try.ntmps6
      go_upto_region 1 with (fail)
      rw [← HV.out]
      go_upto_region 2 with (first
        | ((with_reducible refine at_load 23 _ rfl ?_); refine wpList_load_row rfl 23 _ rfl _ rfl _ (SizeV F T) (0, 0) _ HE.out Try.underlying23 rfl IS ?_)
        | (go_at_call 24; refine HN.out.mono ?_; rintro e w1 ⟨v1, rfl, ⟨s1, p1⟩, b1⟩; obtain ⟨a1, d1, hv1⟩ := s1.shape; rw [List.length_replicate] at hv1; subst hv1; have HSx := Lib.hid s1; have HP1 := Lib.hid (fun k h => s1.blt (by have := HNB.out.2; simp; exact this) k h); have HB1 := Lib.hid b1; clear s1 b1 p1)
        | ((with_reducible refine at_store 26 _ _ rfl ?_); refine wpList_store_new rfl 26 _ _ rfl (ElV F T m 0 (.slice a1 N d1) 0 4) rfl rfl 26 _ info_el rfl ElV_one ?_))
      obtain ⟨nb, Hnb⟩ : ∃ nb, Hid (nb = w1.heap.size) := ⟨_, Lib.hid rfl⟩
      obtain ⟨W1, HW1, HE1, HBW1, HO1, HZ1, HNW, HK1⟩ : ∃ W, Hid (W = w1.alloc (.cells (ElV F T m 0 (.slice a1 N d1) 0 4) 26)) ∧ Hid (ElB W nb 26 F T m 0 (.slice a1 N d1) 0 4) ∧ Hid (Below w.heap.size w W) ∧ Hid (OkV nb W (.slice a1 N d1) (List.replicate N 0)) ∧ Hid (nb < W.heap.size) ∧ Hid (w.heap.size < nb) ∧ Hid (Below nb w1 W) :=
        ⟨_, Lib.hid rfl, Lib.hid (by rw [Hnb.out]; exact heap_alloc_new _ _), Lib.hid ((HB.out.trans (HB1.out.mono HB.out.size)).alloc (Nat.le_trans HB.out.size HB1.out.size) _), Lib.hid ⟨HSx.out.later ((Below.refl _ _).alloc (Nat.le_refl _) _), fun k h => .inl (by rw [Hnb.out]; exact HP1.out k h)⟩, Lib.hid (by rw [Hnb.out]; simp), Lib.hid (by have h1 := HB1.out.size; have h2 := HS.out; rw [Hnb.out]; omega), Lib.hid (by rw [Hnb.out]; exact (Below.refl _ _).alloc (Nat.le_refl _) _)⟩
      rw [← HW1.out, ← Hnb.out]
      have HE' : Hid (w1.heap[w.heap.size]? = some (.cells (SizeV F T) 23 (0, 0))) := Lib.hid ((HB1.out.block _ (by rw [HS.out]; omega)).trans HE.out)
      have HA' := Lib.hid (HA.out.later HB1.out)
      have HBX : Hid (Below w.heap.size w w1) := Lib.hid (HB.out.trans (HB1.out.mono HB.out.size))
      clear HW1 HSx HP1 HB1 HE HN HA
      try simp only [Act.put]
      go_upto_region 5 with (fail)
      go_loopw [9] (fun iv wr => ∃ (j : Nat) (E : El) (wt : Int) (v' : Value), j ≤ n ∧ iv = .int .i64 j ∧ Hid (RightE F T m E.view E.votes E.clock wt) ∧ Hid (E.clock ≤ j) ∧ Hid (ElB wr nb 26 F T m E.view v' E.clock wt) ∧ Hid (OkV nb wr v' E.votes) ∧ Hid (Below nb w1 wr) ∧ Hid (nb < wr.heap.size)) (fun iv _ => n - (intOf iv).toNat)
      case atStart => exact ⟨0, ⟨0, List.replicate N 0, 0⟩, 4, _, by omega, rfl, Lib.hid (right_new F T m N HSZ.out), Lib.hid (Int.le_refl _), HE1, HO1, HK1, HZ1⟩
      case round =>
        obtain ⟨j, E, wt, v', hj, rfl, HRE, HCE, HEj, HOj, HBj, HZj⟩ := hrel
        have HBj' : Hid (Below w1.heap.size w1 wr) := Lib.hid (by have := HBj.out; rw [Hnb.out] at this; exact this)
        have HAj := Lib.hid (HA'.out.later HBj'.out)
        by_cases hlt : j < n
        · have hlt' : (j : Int) < n := by omega
          obtain ⟨q, b, o, rfl, ra⟩ := HAj.out j hlt
          have HRA := Lib.hid ra
          obtain ⟨kind, Hkind⟩ : ∃ x, Hid (x = K j) := ⟨_, Lib.hid rfl⟩
          obtain ⟨by_, Hby⟩ : ∃ x, Hid (x = B j) := ⟨_, Lib.hid rfl⟩
          obtain ⟨x, Hx⟩ : ∃ x, Hid (x = X j) := ⟨_, Lib.hid rfl⟩
          rw [← Hkind.out, ← Hby.out, ← Hx.out] at HRA
          have HST := Lib.hid (done_step F T m wt kind by_ x E HRE.out)
          have HRN := Lib.hid (done_right F T m wt kind by_ x E HRE.out)
          have HLE : Hid (E.votes.length = N) := Lib.hid (by have h1 := HRE.out.2.2.2.1; have h2 := HNN.out; omega)
          have HDK := Lib.hid (fun w' h1 => HDO.out v' wt kind by_ x E w' h1 HLE.out (by have := waits_bd _ HRE.out.2.2.2.2.2.2.2.2; omega) ⟨HRE.out.2.2.2.2.2.2.1, by have := HCE.out; omega⟩ ⟨HRE.out.2.2.2.2.1, HRE.out.2.2.2.2.2.1⟩ (OkVotes.getD ⟨rfl, HRE.out.2.2.2.2.2.2.2.1⟩ (by rw [HLE.out]; exact HSZ.out.hme)))
          obtain ⟨a', c', hv0⟩ := HOj.out.1.shape
          rw [HLE.out] at hv0
          subst hv0
          obtain ⟨E', HE'⟩ : ∃ y, Hid (y = doneE F T m wt kind by_ x E) := ⟨_, Lib.hid rfl⟩
          obtain ⟨wt', Hwt'⟩ : ∃ y, Hid (y = doneW wt kind E) := ⟨_, Lib.hid rfl⟩
          obtain ⟨vo, Hvo⟩ : ∃ y, Hid (y = doneVo F m wt kind by_ x E) := ⟨_, Lib.hid rfl⟩
          obtain ⟨vi, Hvi⟩ : ∃ y, Hid (y = doneVi F T m wt kind by_ x E) := ⟨_, Lib.hid rfl⟩
          rw [← HE'.out, ← Hwt'.out, ← Hvo.out, ← Hvi.out] at HDK
          rw [← HE'.out, ← Hwt'.out, ← Hvo.out, ← Hvi.out] at HST
          rw [← HE'.out, ← Hwt'.out] at HRN
          have HL2 : Hid (E'.votes.length = N) := Lib.hid (by rw [HST.out.1.votes.1]; exact HLE.out)
          clear HE' Hwt' Hvo Hvi Hkind Hby Hx ra
          go_upto_region 7 with (fail)
          have hp : ∀ vv w w', OkV nb w vv E'.votes → Below w.heap.size w w' → OkV nb w' vv E'.votes := fun _ _ _ h hb => h.later hb
          have hp2 : ∀ vv w b t cs cs', OkV nb w vv E'.votes → wr.heap.size ≤ b → Wild.rowOf w b t cs → (t = 26 ∨ t = 34) → OkV nb (w.setRow b cs') vv E'.votes := fun vv w b t cs cs' h hb hr ht => h.row (by have := HZj.out; omega) hr (by rcases ht with rfl | rfl <;> decide) cs'
          have h5 : Wild.Five 5 9 10 11 12 := by constructor <;> decide
          refine Wild.region_call2 (fun vv w => OkV nb w vv E'.votes) 26 34 (ElV 0 0 0 0 (.slice none 0 0) 0 0) (fun vv => ElV F T m E'.view vv E'.clock wt') #[.int .i64 0, .int .i64 0] #[.int .i64 vo, .int .i64 vi] 5 9 10 11 12 [6, 7, 8] h5 rfl (by kernel_rfl) (fun vs hvs => ?_)
          obtain ⟨vx, hvx⟩ := hvs
          refine Wild.walk_load 26 _ _ _ (elL F T m E.view (.slice a' N c') E.clock wt) _ rfl (by rfl) rfl rfl (fun w' hw => rangeAt_row (cs := elL F T m E.view (.slice a' N c') E.clock wt) (HEj.out.later hw.1)) Try.underlying26 rfl info_el ?_
          simp only [Act.put, List.setIfInBounds_toArray, List.set_cons_zero, List.set_cons_succ]
          refine Wild.walk_simple rfl (by rfl) (by rfl) (fun K hK => ?_); go_big_quiet_op; first | (refine hK _ ?_; clear hK K) | (refine ⟨_, fun _ _ => rfl, hK _ ?_⟩; clear hK K)
          refine Wild.walk_simple rfl (by rfl) (by rfl) (fun K hK => ?_); go_big_quiet_op; first | (refine hK _ ?_; clear hK K) | (refine ⟨_, fun _ _ => rfl, hK _ ?_⟩; clear hK K)
          refine Wild.walk_simple rfl (by rfl) (by rfl) (fun K hK => ?_); go_big_quiet_op; first | (refine hK _ ?_; clear hK K) | (refine ⟨_, fun _ _ => rfl, hK _ ?_⟩; clear hK K)
          refine Wild.walk_load 56 _ _ _ [.int .i64 kind, .int .i64 by_, .int .i64 x] _ rfl (by rfl) rfl rfl (fun w' hw => rangeAt_blw HRA.out hw.1) Try.underlying56 rfl info_act ?_
          simp only [Act.put, List.setIfInBounds_toArray, List.set_cons_zero, List.set_cons_succ]
          refine Wild.walk_wild _ rfl (by rfl) (fun w' hw K hK => ?_) ?_
          · go_simp
            go_at_call 25
            refine (HDK.out w' (HOj.out.later hw.1).1).mono ?_
            rintro e w'' ⟨vv', rfl, s9, p9, hb⟩
            refine hK.out _ _ (hw.1.trans (hb.mono hw.1.size)) (Wild.Gc.of_below hp hb) ⟨vv', rfl⟩ (Wild.spc_ci ⟨s9, fun k hk => ?_⟩)
            rcases p9 k hk with h9 | h9
            · exact ((HOj.out.later hw.1).2 k h9).imp id fun h2 => h2.later hb
            · exact .inr h9.2
          rw [hvx]
          simp only [Act.put, List.setIfInBounds_toArray, List.set_cons_zero, List.set_cons_succ]
          refine Wild.walk_simple rfl (by rfl) (by rfl) (fun K hK => ?_); go_big_quiet_op; first | (refine hK _ ?_; clear hK K) | (refine ⟨_, fun _ _ => rfl, hK _ ?_⟩; clear hK K)
          refine Wild.walk_simple rfl (by rfl) (by rfl) (fun K hK => ?_); go_big_quiet_op; first | (refine hK _ ?_; clear hK K) | (refine ⟨_, fun _ _ => rfl, hK _ ?_⟩; clear hK K)
          refine Wild.walk_simple rfl (by rfl) (by rfl) (fun K hK => ?_); go_big_quiet_op; first | (refine hK _ ?_; clear hK K) | (refine ⟨_, fun _ _ => rfl, hK _ ?_⟩; clear hK K)
          refine Wild.walk_wild _ rfl (by rfl) (fun w' hw K hK => ?_) ?_
          · go_simp
            exact hK.out _ _ (hw.1.alloc hw.1.size _) (Wild.Gc.of_below hp ((Below.refl _ _).alloc (Nat.le_refl _) _)) trivial (Wild.spc_a1 h5 hw.1.size (heap_alloc_new _ _))
          simp only [Act.put, List.setIfInBounds_toArray, List.set_cons_zero, List.set_cons_succ]
          refine Wild.walk_wild _ rfl (by rfl) (fun w' hw K hK => ?_) ?_
          · go_simp
            exact hK.out _ _ (hw.1.alloc hw.1.size _) (Wild.Gc.of_below hp ((Below.refl _ _).alloc (Nat.le_refl _) _)) trivial (Wild.spc_a2 h5 hw.1.size (heap_alloc_new _ _))
          simp only [Act.put, List.setIfInBounds_toArray, List.set_cons_zero, List.set_cons_succ]
          refine Wild.walk_wild _ rfl (by rfl) (fun w' hw K hK => ?_) ?_
          · exact Wild.step_s1 h5 hp2 (by decide) rfl 26 _ _ rfl rfl vx hvx ElV_inj rfl info_el (fun _ => rfl) (fun h => by obtain ⟨x1, x2, rfl⟩ := h.1.shape; exact ElV_one) hw hK
          simp only [Act.put]
          refine Wild.walk_wild _ rfl (by rfl) (fun w' hw K hK => ?_) ?_
          · exact Wild.step_s2 (Z2 := #[.int .i64 0, .int .i64 0]) h5 hp2 (by decide) rfl 34 _ _ rfl rfl rfl info_out rfl out_one hw hK
          simp only [Act.put]
          refine Wild.walk_nil ?_
          intro w9 hw9 hf9
          obtain ⟨⟨b1, vy, e1, hb1, o1, r1⟩, b2, e2, hb2, r2⟩ := Wild.spc_end h5 (by decide) (by decide) hf9
          rw [e1, e2]
          obtain ⟨y1, y2, hvy⟩ := o1.1.shape
          rw [HL2.out] at hvy
          subst hvy
          have H9E : Hid (ElB w9 b1 26 F T m E'.view (.slice y1 N y2) E'.clock wt') := Lib.hid r1
          have H9O : Hid (OutB w9 b2 34 vo vi) := Lib.hid r2
          have H9B : Hid (Below wr.heap.size wr w9) := Lib.hid hw9
          have H9N := Lib.hid (HEj.out.later hw9)
          have H9V := Lib.hid o1
          have H9W := Lib.hid ((HOj.out.later hw9).1)
          have H9A := Lib.hid (rangeAt_blw HRA.out hw9)
          have H9S : Hid (w9.heap[w.heap.size]? = some (.cells (SizeV F T) 23 (0, 0))) := Lib.hid ((hw9.block _ (by have h1 := HZj.out; have h2 := HNW.out; omega)).trans ((HBj.out.block _ HNW.out).trans HE'.out))
          clear hf9 hw9 e1 e2 r1 r2 o1 hvx hp hp2 HDK
          have HSP := Lib.hid HST.out.1
          have HSK := Lib.hid HST.out.2.2.2.2
          have HSC := Lib.hid HST.out.2.2.1
          obtain ⟨yb, yo, rfl, -, yq, ycl⟩ := H9V.out.1.cellAt (i := m) (by rw [HL2.out]; exact HSZ.out.hme)
          obtain ⟨ab, ao, rfl, -, aq, acl⟩ := H9W.out.cellAt (i := m) (by rw [HLE.out]; exact HSZ.out.hme)
          have HZN := Lib.hid (ycl m (by rw [HL2.out]; exact HSZ.out.hme))
          have HZO := Lib.hid (acl m (by rw [HLE.out]; exact HSZ.out.hme))
          obtain ⟨zn, Hzn⟩ : ∃ x, Hid (x = E'.votes.getD m 0) := ⟨_, Lib.hid rfl⟩
          obtain ⟨zo, Hzo⟩ : ∃ x, Hid (x = E.votes.getD m 0) := ⟨_, Lib.hid rfl⟩
          rw [← Hzn.out] at HZN
          rw [← Hzo.out] at HZO
          obtain ⟨c10, Hc10⟩ : ∃ c, Hid (c = cGe E'.votes E'.view) := ⟨_, Lib.hid rfl⟩
          obtain ⟨c14, Hc14⟩ : ∃ c, Hid (c = cGe E'.votes vo) := ⟨_, Lib.hid rfl⟩
          have HA10 := Lib.hid (fun w' h1 => HAB.out (.slice (some ⟨yb, yo, none⟩) N y2) E'.votes E'.view w' h1 (by rw [HL2.out]; have := HNB.out.1; omega))
          have HA14 := Lib.hid (fun w' h1 => HAB.out (.slice (some ⟨yb, yo, none⟩) N y2) E'.votes vo w' h1 (by rw [HL2.out]; have := HNB.out.1; omega))
          rw [← Hc10.out] at HA10
          rw [← Hc14.out] at HA14
          have HRTn := Lib.hid (fun w' h => HRT.out E'.view (.slice (some ⟨yb, yo, none⟩) N y2) E'.clock wt' E'.votes w' h)
          rw [decide_eq_true HRN.out] at HRTn
          have HFx : Hid (∀ W, Below w9.heap.size w9 W → ElB W b1 26 F T m E'.view (.slice (some ⟨yb, yo, none⟩) N y2) E'.clock wt' ∧ ElB W nb 26 F T m E.view (.slice (some ⟨ab, ao, none⟩) N c') E.clock wt ∧ OutB W b2 34 vo vi ∧
              SlI W .i64 (.slice (some ⟨yb, yo, none⟩) N y2) E'.votes ∧ SlI W .i64 (.slice (some ⟨ab, ao, none⟩) N c') E.votes ∧ W.cell? ⟨yb, yo + m, none⟩ = some (.int .i64 zn) ∧ W.cell? ⟨ab, ao + m, none⟩ = some (.int .i64 zo) ∧
              W.heap[w.heap.size]? = some (.cells (SizeV F T) 23 (0, 0)) ∧ W.rangeAt b (o + j * 3) [.int .i64 kind, .int .i64 by_, .int .i64 x]) := Lib.hid (fun W hW =>
            ⟨H9E.out.later hW, H9N.out.later hW, H9O.out.later hW, H9V.out.1.later hW, H9W.out.later hW, (hW.cell (World.block_lt_of_cell? _ _ HZN.out)).trans HZN.out, (hW.cell (World.block_lt_of_cell? _ _ HZO.out)).trans HZO.out, (hW.block _ (Array.getElem?_eq_some_iff.1 H9S.out).1).trans H9S.out, rangeAt_blw H9A.out hW⟩)
          have HC0 : Hid (Below w9.heap.size w9 w9) := Lib.hid (Below.refl _ _)
          have d81 : decide (E'.view < E.view) = false := by rw [decide_eq_false_iff_not]; have := HSP.out.v0; omega
          have d82 : decide (zn < zo) = false := by rw [decide_eq_false_iff_not, Hzn.out, Hzo.out]; have := HSP.out.m0; omega
          have hml : m < N := HSZ.out.hme
          have hmli : (m : Int) < N := by omega
          obtain ⟨r1, r2, r3, r4⟩ := hR
          clear ycl acl HE1 HBW1 HO1 HZ1 HK1 HDO HRT HST HRA HAj
          go_upto_region 8 with (fail)
          try simp only [Act.put]
          go_cut [64] from 41 to 64 (fun s wx => s = .bool false ∧ Below w9.heap.size w9 wx)
          case first =>
            have HFy := Lib.hid (fun W' h => HFx.out W' (HC0.out.trans (Below.mono h HC0.out.size)))
            refine Wild.region_b (fun k => match k with | 1 => some (.fix (.agg (ElV F T m E'.view (.slice (some ⟨yb, yo, none⟩) N y2) E'.clock wt'))) | 2 => some (.fix (.bool true)) | _ => none) (fun _ => []) rfl (by kernel_rfl) (fun vs hvs => ?_)
            have v1 : vs 1 = .agg (ElV F T m E'.view (.slice (some ⟨yb, yo, none⟩) N y2) E'.clock wt') := hvs 1 _ rfl
            have v2 : vs 2 = .bool true := hvs 2 _ rfl
            refine Wild.walk_load 26 _ _ _ (elL F T m E'.view (.slice (some ⟨yb, yo, none⟩) N y2) E'.clock wt') _ rfl (by rfl) rfl rfl (fun w' hw => rangeAt_row (cs := (elL F T m E'.view (.slice (some ⟨yb, yo, none⟩) N y2) E'.clock wt')) (HFy.out w' hw.1).1) Try.underlying26 rfl info_el ?_
            simp only [Act.put, List.setIfInBounds_toArray, List.set_cons_zero, List.set_cons_succ]
            refine Wild.walk_wild _ rfl (by rfl) (fun w' hw K hK => ?_) ?_
            · go_simp
              go_at_call 10
              refine (HPL.out _ _ _ _ _ _ w').mono ?_
              rintro e w'' ⟨rfl, hb⟩
              exact hK.out _ _ (hw.1.trans (hb.mono hw.1.size)) hb rfl trivial
            rw [v1]
            simp only [Act.put, List.setIfInBounds_toArray, List.set_cons_zero, List.set_cons_succ]
            refine Wild.walk_wild _ rfl (by rfl) (fun w' hw K hK => ?_) ?_
            · go_simp
              go_at_call 9
              refine (HRTn.out w' (HFy.out w' hw.1).2.2.2.1).mono ?_
              rintro e w'' ⟨rfl, hb⟩
              exact hK.out _ _ (hw.1.trans (hb.mono hw.1.size)) hb rfl trivial
            rw [v2]
            simp only [Act.put, List.setIfInBounds_toArray, List.set_cons_zero, List.set_cons_succ]
            refine Wild.walk_simple rfl (by rfl) (by rfl) (fun K hK => ?_); go_big_quiet_op; first | (refine hK _ ?_; clear hK K) | (refine ⟨_, fun _ _ => rfl, hK _ ?_⟩; clear hK K)
            refine Wild.walk_simple rfl (by rfl) (by rfl) (fun K hK => ?_); go_big_quiet_op; first | (refine hK _ ?_; clear hK K) | (refine ⟨_, fun _ _ => rfl, hK _ ?_⟩; clear hK K)
            refine Wild.walk_simple rfl (by rfl) (by rfl) (fun K hK => ?_); go_big_quiet_op; first | (refine hK _ ?_; clear hK K) | (refine ⟨_, fun _ _ => rfl, hK _ ?_⟩; clear hK K)
            refine Wild.walk_cell 3 _ _ _ (.int .i64 E'.view) _ rfl (by rfl) rfl rfl (fun w' hw => (HFy.out w' hw.1).1.cells.2.2.2.1) Try.underlying3 rfl ?_
            simp only [Act.put, List.setIfInBounds_toArray, List.set_cons_zero, List.set_cons_succ]
            refine Wild.walk_simple rfl (by rfl) (by rfl) (fun K hK => ?_); go_big_quiet_op; first | (refine hK _ ?_; clear hK K) | (refine ⟨_, fun _ _ => rfl, hK _ ?_⟩; clear hK K)
            refine Wild.walk_cell 3 _ _ _ (.int .i64 E.view) _ rfl (by rfl) rfl rfl (fun w' hw => (HFy.out w' hw.1).2.1.cells.2.2.2.1) Try.underlying3 rfl ?_
            simp only [Act.put, List.setIfInBounds_toArray, List.set_cons_zero, List.set_cons_succ]
            refine Wild.walk_simple rfl (by rfl) (by rfl) (fun K hK => ?_); go_big_quiet_op; first | (refine hK _ ?_; clear hK K) | (refine ⟨_, fun _ _ => rfl, hK _ ?_⟩; clear hK K)
            refine Wild.walk_simple rfl (by rfl) (by rfl) (fun K hK => ?_); go_big_quiet_op; first | (refine hK _ ?_; clear hK K) | (refine ⟨_, fun _ _ => rfl, hK _ ?_⟩; clear hK K)
            refine Wild.walk_simple rfl (by rfl) (by rfl) (fun K hK => ?_); go_big_quiet_op; first | (refine hK _ ?_; clear hK K) | (refine ⟨_, fun _ _ => rfl, hK _ ?_⟩; clear hK K)
            refine Wild.walk_simple rfl (by rfl) (by rfl) (fun K hK => ?_); go_big_quiet_op; first | (refine hK _ ?_; clear hK K) | (refine ⟨_, fun _ _ => rfl, hK _ ?_⟩; clear hK K)
            refine Wild.walk_cell 24 _ _ _ (.slice (some ⟨yb, yo, none⟩) N y2) _ rfl (by rfl) rfl rfl (fun w' hw => (HFy.out w' hw.1).1.cells.2.2.2.2.1) Try.underlying24 rfl ?_
            simp only [Act.put, List.setIfInBounds_toArray, List.set_cons_zero, List.set_cons_succ]
            refine Wild.walk_simple rfl (by rfl) (by rfl) (fun K hK => ?_); go_big_quiet_op; first | (refine hK _ ?_; clear hK K) | (refine ⟨_, fun _ _ => rfl, hK _ ?_⟩; clear hK K)
            refine Wild.walk_simple rfl (by rfl) (by rfl) (fun K hK => ?_); go_big_quiet_op; first | (refine hK _ ?_; clear hK K) | (refine ⟨_, fun _ _ => rfl, hK _ ?_⟩; clear hK K)
            refine Wild.walk_cell 3 _ _ _ (.int .i64 zn) _ rfl (by rfl) rfl rfl (fun w' hw => (HFy.out w' hw.1).2.2.2.2.2.1) Try.underlying3 rfl ?_
            simp only [Act.put, List.setIfInBounds_toArray, List.set_cons_zero, List.set_cons_succ]
            refine Wild.walk_simple rfl (by rfl) (by rfl) (fun K hK => ?_); go_big_quiet_op; first | (refine hK _ ?_; clear hK K) | (refine ⟨_, fun _ _ => rfl, hK _ ?_⟩; clear hK K)
            refine Wild.walk_cell 24 _ _ _ (.slice (some ⟨ab, ao, none⟩) N c') _ rfl (by rfl) rfl rfl (fun w' hw => (HFy.out w' hw.1).2.1.cells.2.2.2.2.1) Try.underlying24 rfl ?_
            simp only [Act.put, List.setIfInBounds_toArray, List.set_cons_zero, List.set_cons_succ]
            refine Wild.walk_simple rfl (by rfl) (by rfl) (fun K hK => ?_); go_big_quiet_op; first | (refine hK _ ?_; clear hK K) | (refine ⟨_, fun _ _ => rfl, hK _ ?_⟩; clear hK K)
            refine Wild.walk_simple rfl (by rfl) (by rfl) (fun K hK => ?_); go_big_quiet_op; first | (refine hK _ ?_; clear hK K) | (refine ⟨_, fun _ _ => rfl, hK _ ?_⟩; clear hK K)
            refine Wild.walk_cell 3 _ _ _ (.int .i64 zo) _ rfl (by rfl) rfl rfl (fun w' hw => (HFy.out w' hw.1).2.2.2.2.2.2.1) Try.underlying3 rfl ?_
            simp only [Act.put, List.setIfInBounds_toArray, List.set_cons_zero, List.set_cons_succ]
            refine Wild.walk_simple rfl (by rfl) (by rfl) (fun K hK => ?_); go_big_quiet_op; first | (refine hK _ ?_; clear hK K) | (refine ⟨_, fun _ _ => rfl, hK _ ?_⟩; clear hK K)
            refine Wild.walk_simple rfl (by rfl) (by rfl) (fun K hK => ?_); go_big_quiet_op; first | (refine hK _ ?_; clear hK K) | (refine ⟨_, fun _ _ => rfl, hK _ ?_⟩; clear hK K)
            refine Wild.walk_nil ?_
            intro w8 hw8 hf8
            have HB8 := Lib.hid (HC0.out.trans (Below.mono hw8 HC0.out.size))
            clear hw8 hf8 hvs
            go_wp2_with fail
            go_meet
            exact ⟨rfl, HB8.out⟩
          obtain ⟨rfl, hcb⟩ := hcut
          have HC64 := Lib.hid hcb
          clear hcb
          obtain ⟨wd64, Hwd⟩ : ∃ W, Hid (W = wc) := ⟨_, Lib.hid rfl⟩
          rw [← Hwd.out] at HC64 ⊢
          clear Hwd wc
          go_upto_region 10 with (fail)
          try simp only [Act.put]
          go_cut [100] from 65 to 100 (fun s wx => s = .bool false ∧ Below w9.heap.size w9 wx)
          case first =>
            have HFy := Lib.hid (fun W' h => HFx.out W' (HC64.out.trans (Below.mono h HC64.out.size)))
            by_cases hvi : vi = 0
            · have g1 : (vi != 0) = false := by rw [hvi]; rfl
              have g2 : decide (E.view < E'.view) = false := by rw [decide_eq_false_iff_not]; exact fun h => (HSP.out.i1.2 h) hvi
              clear hvi
              refine Wild.region_b (fun _ => none) (fun _ => []) rfl (by kernel_rfl) (fun vs hvs => ?_)
              refine Wild.walk_simple rfl (by rfl) (by rfl) (fun K hK => ?_); go_big_quiet_op; first | (refine hK _ ?_; clear hK K) | (refine ⟨_, fun _ _ => rfl, hK _ ?_⟩; clear hK K)
              refine Wild.walk_cell 3 _ _ _ (.int .i64 vi) _ rfl (by rfl) rfl rfl (fun w' hw => (HFy.out w' hw.1).2.2.1.cells.2) Try.underlying3 rfl ?_
              simp only [Act.put, List.setIfInBounds_toArray, List.set_cons_zero, List.set_cons_succ]
              refine Wild.walk_simple rfl (by rfl) (by rfl) (fun K hK => ?_); go_big_quiet_op; first | (refine hK _ ?_; clear hK K) | (refine ⟨_, fun _ _ => rfl, hK _ ?_⟩; clear hK K)
              refine Wild.walk_simple rfl (by rfl) (by rfl) (fun K hK => ?_); go_big_quiet_op; first | (refine hK _ ?_; clear hK K) | (refine ⟨_, fun _ _ => rfl, hK _ ?_⟩; clear hK K)
              refine Wild.walk_cell 3 _ _ _ (.int .i64 E'.view) _ rfl (by rfl) rfl rfl (fun w' hw => (HFy.out w' hw.1).1.cells.2.2.2.1) Try.underlying3 rfl ?_
              simp only [Act.put, List.setIfInBounds_toArray, List.set_cons_zero, List.set_cons_succ]
              refine Wild.walk_simple rfl (by rfl) (by rfl) (fun K hK => ?_); go_big_quiet_op; first | (refine hK _ ?_; clear hK K) | (refine ⟨_, fun _ _ => rfl, hK _ ?_⟩; clear hK K)
              refine Wild.walk_cell 3 _ _ _ (.int .i64 E.view) _ rfl (by rfl) rfl rfl (fun w' hw => (HFy.out w' hw.1).2.1.cells.2.2.2.1) Try.underlying3 rfl ?_
              simp only [Act.put, List.setIfInBounds_toArray, List.set_cons_zero, List.set_cons_succ]
              refine Wild.walk_simple rfl (by rfl) (by rfl) (fun K hK => ?_); go_big_quiet_op; first | (refine hK _ ?_; clear hK K) | (refine ⟨_, fun _ _ => rfl, hK _ ?_⟩; clear hK K)
              refine Wild.walk_simple rfl (by rfl) (by rfl) (fun K hK => ?_); go_big_quiet_op; first | (refine hK _ ?_; clear hK K) | (refine ⟨_, fun _ _ => rfl, hK _ ?_⟩; clear hK K)
              refine Wild.walk_simple rfl (by rfl) (by rfl) (fun K hK => ?_); go_big_quiet_op; first | (refine hK _ ?_; clear hK K) | (refine ⟨_, fun _ _ => rfl, hK _ ?_⟩; clear hK K)
              refine Wild.walk_simple rfl (by rfl) (by rfl) (fun K hK => ?_); go_big_quiet_op; first | (refine hK _ ?_; clear hK K) | (refine ⟨_, fun _ _ => rfl, hK _ ?_⟩; clear hK K)
              refine Wild.walk_cell 3 _ _ _ (.int .i64 vi) _ rfl (by rfl) rfl rfl (fun w' hw => (HFy.out w' hw.1).2.2.1.cells.2) Try.underlying3 rfl ?_
              simp only [Act.put, List.setIfInBounds_toArray, List.set_cons_zero, List.set_cons_succ]
              refine Wild.walk_simple rfl (by rfl) (by rfl) (fun K hK => ?_); go_big_quiet_op; first | (refine hK _ ?_; clear hK K) | (refine ⟨_, fun _ _ => rfl, hK _ ?_⟩; clear hK K)
              refine Wild.walk_simple rfl (by rfl) (by rfl) (fun K hK => ?_); go_big_quiet_op; first | (refine hK _ ?_; clear hK K) | (refine ⟨_, fun _ _ => rfl, hK _ ?_⟩; clear hK K)
              refine Wild.walk_skip rfl (by rfl) ?_
              simp only [Act.put, List.setIfInBounds_toArray, List.set_cons_zero, List.set_cons_succ]
              refine Wild.walk_skip rfl (by rfl) ?_
              simp only [Act.put, List.setIfInBounds_toArray, List.set_cons_zero, List.set_cons_succ]
              refine Wild.walk_skip rfl (by rfl) ?_
              simp only [Act.put, List.setIfInBounds_toArray, List.set_cons_zero, List.set_cons_succ]
              refine Wild.walk_skip rfl (by rfl) ?_
              simp only [Act.put, List.setIfInBounds_toArray, List.set_cons_zero, List.set_cons_succ]
              refine Wild.walk_skip rfl (by rfl) ?_
              simp only [Act.put, List.setIfInBounds_toArray, List.set_cons_zero, List.set_cons_succ]
              refine Wild.walk_skip rfl (by rfl) ?_
              simp only [Act.put, List.setIfInBounds_toArray, List.set_cons_zero, List.set_cons_succ]
              refine Wild.walk_skip rfl (by rfl) ?_
              simp only [Act.put, List.setIfInBounds_toArray, List.set_cons_zero, List.set_cons_succ]
              refine Wild.walk_skip rfl (by rfl) ?_
              simp only [Act.put, List.setIfInBounds_toArray, List.set_cons_zero, List.set_cons_succ]
              refine Wild.walk_skip rfl (by rfl) ?_
              simp only [Act.put, List.setIfInBounds_toArray, List.set_cons_zero, List.set_cons_succ]
              refine Wild.walk_skip rfl (by rfl) ?_
              simp only [Act.put, List.setIfInBounds_toArray, List.set_cons_zero, List.set_cons_succ]
              refine Wild.walk_skip rfl (by rfl) ?_
              simp only [Act.put, List.setIfInBounds_toArray, List.set_cons_zero, List.set_cons_succ]
              refine Wild.walk_skip rfl (by rfl) ?_
              simp only [Act.put, List.setIfInBounds_toArray, List.set_cons_zero, List.set_cons_succ]
              refine Wild.walk_skip rfl (by rfl) ?_
              simp only [Act.put, List.setIfInBounds_toArray, List.set_cons_zero, List.set_cons_succ]
              refine Wild.walk_skip rfl (by rfl) ?_
              simp only [Act.put, List.setIfInBounds_toArray, List.set_cons_zero, List.set_cons_succ]
              refine Wild.walk_skip rfl (by rfl) ?_
              simp only [Act.put, List.setIfInBounds_toArray, List.set_cons_zero, List.set_cons_succ]
              refine Wild.walk_skip rfl (by rfl) ?_
              simp only [Act.put, List.setIfInBounds_toArray, List.set_cons_zero, List.set_cons_succ]
              refine Wild.walk_skip rfl (by rfl) ?_
              simp only [Act.put, List.setIfInBounds_toArray, List.set_cons_zero, List.set_cons_succ]
              refine Wild.walk_skip rfl (by rfl) ?_
              simp only [Act.put, List.setIfInBounds_toArray, List.set_cons_zero, List.set_cons_succ]
              refine Wild.walk_skip rfl (by rfl) ?_
              simp only [Act.put, List.setIfInBounds_toArray, List.set_cons_zero, List.set_cons_succ]
              refine Wild.walk_skip rfl (by rfl) ?_
              simp only [Act.put, List.setIfInBounds_toArray, List.set_cons_zero, List.set_cons_succ]
              refine Wild.walk_simple rfl (by rfl) (by rfl) (fun K hK => ?_); go_big_quiet_op; first | (refine hK _ ?_; clear hK K) | (refine ⟨_, fun _ _ => rfl, hK _ ?_⟩; clear hK K)
              refine Wild.walk_simple rfl (by rfl) (by rfl) (fun K hK => ?_); go_big_quiet_op; first | (refine hK _ ?_; clear hK K) | (refine ⟨_, fun _ _ => rfl, hK _ ?_⟩; clear hK K)
              refine Wild.walk_nil ?_
              intro w8 hw8 hf8
              have HB8 := Lib.hid (HC64.out.trans (Below.mono hw8 HC64.out.size))
              clear hw8 hf8 hvs
              go_wp2_with fail
              go_meet
              exact ⟨rfl, HB8.out⟩
            · have g1 : (vi != 0) = true := bne_iff_ne.2 hvi
              have g2 : decide (E.view < E'.view) = true := decide_eq_true (HSP.out.i1.1 hvi)
              obtain ⟨q1, q2, q3⟩ := HSP.out.i2 hvi
              rw [← Hc10.out] at q2
              have g3 : (vi != E'.view) = false := by rw [q1]; simp
              have g4 : decide ((c10 : Int) < 2 * F + T + 1) = false := by rw [decide_eq_false_iff_not]; omega
              have g5 : (E'.clock != 0) = false := by rw [q3]; rfl
              clear hvi q1 q2 q3
              refine Wild.region_b (fun k => match k with | 24 => some (.fix (.int .i64 c10)) | 26 => some (.fix (.int .i64 (2 * F + T + 1))) | _ => none) (fun _ => []) rfl (by kernel_rfl) (fun vs hvs => ?_)
              have v24 : vs 24 = .int .i64 c10 := hvs 24 _ rfl
              have v26 : vs 26 = .int .i64 (2 * F + T + 1) := hvs 26 _ rfl
              refine Wild.walk_simple rfl (by rfl) (by rfl) (fun K hK => ?_); go_big_quiet_op; first | (refine hK _ ?_; clear hK K) | (refine ⟨_, fun _ _ => rfl, hK _ ?_⟩; clear hK K)
              refine Wild.walk_cell 3 _ _ _ (.int .i64 vi) _ rfl (by rfl) rfl rfl (fun w' hw => (HFy.out w' hw.1).2.2.1.cells.2) Try.underlying3 rfl ?_
              simp only [Act.put, List.setIfInBounds_toArray, List.set_cons_zero, List.set_cons_succ]
              refine Wild.walk_simple rfl (by rfl) (by rfl) (fun K hK => ?_); go_big_quiet_op; first | (refine hK _ ?_; clear hK K) | (refine ⟨_, fun _ _ => rfl, hK _ ?_⟩; clear hK K)
              refine Wild.walk_simple rfl (by rfl) (by rfl) (fun K hK => ?_); go_big_quiet_op; first | (refine hK _ ?_; clear hK K) | (refine ⟨_, fun _ _ => rfl, hK _ ?_⟩; clear hK K)
              refine Wild.walk_cell 3 _ _ _ (.int .i64 E'.view) _ rfl (by rfl) rfl rfl (fun w' hw => (HFy.out w' hw.1).1.cells.2.2.2.1) Try.underlying3 rfl ?_
              simp only [Act.put, List.setIfInBounds_toArray, List.set_cons_zero, List.set_cons_succ]
              refine Wild.walk_simple rfl (by rfl) (by rfl) (fun K hK => ?_); go_big_quiet_op; first | (refine hK _ ?_; clear hK K) | (refine ⟨_, fun _ _ => rfl, hK _ ?_⟩; clear hK K)
              refine Wild.walk_cell 3 _ _ _ (.int .i64 E.view) _ rfl (by rfl) rfl rfl (fun w' hw => (HFy.out w' hw.1).2.1.cells.2.2.2.1) Try.underlying3 rfl ?_
              simp only [Act.put, List.setIfInBounds_toArray, List.set_cons_zero, List.set_cons_succ]
              refine Wild.walk_simple rfl (by rfl) (by rfl) (fun K hK => ?_); go_big_quiet_op; first | (refine hK _ ?_; clear hK K) | (refine ⟨_, fun _ _ => rfl, hK _ ?_⟩; clear hK K)
              refine Wild.walk_simple rfl (by rfl) (by rfl) (fun K hK => ?_); go_big_quiet_op; first | (refine hK _ ?_; clear hK K) | (refine ⟨_, fun _ _ => rfl, hK _ ?_⟩; clear hK K)
              refine Wild.walk_simple rfl (by rfl) (by rfl) (fun K hK => ?_); go_big_quiet_op; first | (refine hK _ ?_; clear hK K) | (refine ⟨_, fun _ _ => rfl, hK _ ?_⟩; clear hK K)
              refine Wild.walk_simple rfl (by rfl) (by rfl) (fun K hK => ?_); go_big_quiet_op; first | (refine hK _ ?_; clear hK K) | (refine ⟨_, fun _ _ => rfl, hK _ ?_⟩; clear hK K)
              refine Wild.walk_cell 3 _ _ _ (.int .i64 vi) _ rfl (by rfl) rfl rfl (fun w' hw => (HFy.out w' hw.1).2.2.1.cells.2) Try.underlying3 rfl ?_
              simp only [Act.put, List.setIfInBounds_toArray, List.set_cons_zero, List.set_cons_succ]
              refine Wild.walk_simple rfl (by rfl) (by rfl) (fun K hK => ?_); go_big_quiet_op; first | (refine hK _ ?_; clear hK K) | (refine ⟨_, fun _ _ => rfl, hK _ ?_⟩; clear hK K)
              refine Wild.walk_simple rfl (by rfl) (by rfl) (fun K hK => ?_); go_big_quiet_op; first | (refine hK _ ?_; clear hK K) | (refine ⟨_, fun _ _ => rfl, hK _ ?_⟩; clear hK K)
              refine Wild.walk_simple rfl (by rfl) (by rfl) (fun K hK => ?_); go_big_quiet_op; first | (refine hK _ ?_; clear hK K) | (refine ⟨_, fun _ _ => rfl, hK _ ?_⟩; clear hK K)
              refine Wild.walk_cell 3 _ _ _ (.int .i64 vi) _ rfl (by rfl) rfl rfl (fun w' hw => (HFy.out w' hw.1).2.2.1.cells.2) Try.underlying3 rfl ?_
              simp only [Act.put, List.setIfInBounds_toArray, List.set_cons_zero, List.set_cons_succ]
              refine Wild.walk_simple rfl (by rfl) (by rfl) (fun K hK => ?_); go_big_quiet_op; first | (refine hK _ ?_; clear hK K) | (refine ⟨_, fun _ _ => rfl, hK _ ?_⟩; clear hK K)
              refine Wild.walk_cell 3 _ _ _ (.int .i64 E'.view) _ rfl (by rfl) rfl rfl (fun w' hw => (HFy.out w' hw.1).1.cells.2.2.2.1) Try.underlying3 rfl ?_
              simp only [Act.put, List.setIfInBounds_toArray, List.set_cons_zero, List.set_cons_succ]
              refine Wild.walk_simple rfl (by rfl) (by rfl) (fun K hK => ?_); go_big_quiet_op; first | (refine hK _ ?_; clear hK K) | (refine ⟨_, fun _ _ => rfl, hK _ ?_⟩; clear hK K)
              refine Wild.walk_simple rfl (by rfl) (by rfl) (fun K hK => ?_); go_big_quiet_op; first | (refine hK _ ?_; clear hK K) | (refine ⟨_, fun _ _ => rfl, hK _ ?_⟩; clear hK K)
              refine Wild.walk_simple rfl (by rfl) (by rfl) (fun K hK => ?_); go_big_quiet_op; first | (refine hK _ ?_; clear hK K) | (refine ⟨_, fun _ _ => rfl, hK _ ?_⟩; clear hK K)
              refine Wild.walk_cell 24 _ _ _ (.slice (some ⟨yb, yo, none⟩) N y2) _ rfl (by rfl) rfl rfl (fun w' hw => (HFy.out w' hw.1).1.cells.2.2.2.2.1) Try.underlying24 rfl ?_
              simp only [Act.put, List.setIfInBounds_toArray, List.set_cons_zero, List.set_cons_succ]
              refine Wild.walk_simple rfl (by rfl) (by rfl) (fun K hK => ?_); go_big_quiet_op; first | (refine hK _ ?_; clear hK K) | (refine ⟨_, fun _ _ => rfl, hK _ ?_⟩; clear hK K)
              refine Wild.walk_cell 3 _ _ _ (.int .i64 E'.view) _ rfl (by rfl) rfl rfl (fun w' hw => (HFy.out w' hw.1).1.cells.2.2.2.1) Try.underlying3 rfl ?_
              simp only [Act.put, List.setIfInBounds_toArray, List.set_cons_zero, List.set_cons_succ]
              refine Wild.walk_wild _ rfl (by rfl) (fun w' hw K hK => ?_) ?_
              · go_simp
                go_at_call 13
                refine (HA10.out w' (HFy.out w' hw.1).2.2.2.1).mono ?_
                rintro e w'' ⟨rfl, rfl⟩
                exact hK.out _ _ hw.1 (Below.refl _ _) rfl trivial
              rw [v24]
              simp only [Act.put, List.setIfInBounds_toArray, List.set_cons_zero, List.set_cons_succ]
              refine Wild.walk_load 23 _ _ _ [.int .i64 F, .int .i64 T] _ rfl (by rfl) rfl rfl (fun w' hw => rangeAt_row (cs := [.int .i64 F, .int .i64 T]) (HFy.out w' hw.1).2.2.2.2.2.2.2.1) Try.underlying23 rfl info_size ?_
              simp only [Act.put, List.setIfInBounds_toArray, List.set_cons_zero, List.set_cons_succ]
              refine Wild.walk_wild _ rfl (by rfl) (fun w' hw K hK => ?_) ?_
              · go_simp
                go_at_call 16
                refine (HPR.out w').mono ?_
                rintro e w'' ⟨rfl, hb⟩
                exact hK.out _ _ (hw.1.trans (hb.mono hw.1.size)) hb rfl trivial
              rw [v26]
              simp only [Act.put, List.setIfInBounds_toArray, List.set_cons_zero, List.set_cons_succ]
              refine Wild.walk_simple rfl (by rfl) (by rfl) (fun K hK => ?_); go_big_quiet_op; first | (refine hK _ ?_; clear hK K) | (refine ⟨_, fun _ _ => rfl, hK _ ?_⟩; clear hK K)
              refine Wild.walk_simple rfl (by rfl) (by rfl) (fun K hK => ?_); go_big_quiet_op; first | (refine hK _ ?_; clear hK K) | (refine ⟨_, fun _ _ => rfl, hK _ ?_⟩; clear hK K)
              refine Wild.walk_simple rfl (by rfl) (by rfl) (fun K hK => ?_); go_big_quiet_op; first | (refine hK _ ?_; clear hK K) | (refine ⟨_, fun _ _ => rfl, hK _ ?_⟩; clear hK K)
              refine Wild.walk_simple rfl (by rfl) (by rfl) (fun K hK => ?_); go_big_quiet_op; first | (refine hK _ ?_; clear hK K) | (refine ⟨_, fun _ _ => rfl, hK _ ?_⟩; clear hK K)
              refine Wild.walk_cell 3 _ _ _ (.int .i64 E'.clock) _ rfl (by rfl) rfl rfl (fun w' hw => (HFy.out w' hw.1).1.cells.2.2.2.2.2.1) Try.underlying3 rfl ?_
              simp only [Act.put, List.setIfInBounds_toArray, List.set_cons_zero, List.set_cons_succ]
              refine Wild.walk_simple rfl (by rfl) (by rfl) (fun K hK => ?_); go_big_quiet_op; first | (refine hK _ ?_; clear hK K) | (refine ⟨_, fun _ _ => rfl, hK _ ?_⟩; clear hK K)
              refine Wild.walk_simple rfl (by rfl) (by rfl) (fun K hK => ?_); go_big_quiet_op; first | (refine hK _ ?_; clear hK K) | (refine ⟨_, fun _ _ => rfl, hK _ ?_⟩; clear hK K)
              refine Wild.walk_simple rfl (by rfl) (by rfl) (fun K hK => ?_); go_big_quiet_op; first | (refine hK _ ?_; clear hK K) | (refine ⟨_, fun _ _ => rfl, hK _ ?_⟩; clear hK K)
              refine Wild.walk_simple rfl (by rfl) (by rfl) (fun K hK => ?_); go_big_quiet_op; first | (refine hK _ ?_; clear hK K) | (refine ⟨_, fun _ _ => rfl, hK _ ?_⟩; clear hK K)
              refine Wild.walk_nil ?_
              intro w8 hw8 hf8
              have HB8 := Lib.hid (HC64.out.trans (Below.mono hw8 HC64.out.size))
              clear hw8 hf8 hvs
              go_wp2_with fail
              go_meet
              exact ⟨rfl, HB8.out⟩
          obtain ⟨rfl, hcb⟩ := hcut
          have HC100 := Lib.hid hcb
          clear hcb
          obtain ⟨wd100, Hwd⟩ : ∃ W, Hid (W = wc) := ⟨_, Lib.hid rfl⟩
          rw [← Hwd.out] at HC100 ⊢
          clear Hwd wc
          go_upto_region 12 with (fail)
          try simp only [Act.put]
          go_cut [130] from 101 to 130 (fun s wx => s = .bool false ∧ Below w9.heap.size w9 wx)
          case first =>
            have HFy := Lib.hid (fun W' h => HFx.out W' (HC100.out.trans (Below.mono h HC100.out.size)))
            by_cases hvo : vo = 0
            · have g1 : (vo != 0) = false := by rw [hvo]; rfl
              have g2 : decide (zo < zn) = false := by rw [decide_eq_false_iff_not, Hzo.out, Hzn.out]; exact fun h => (HSP.out.o1.2 h) hvo
              clear hvo
              refine Wild.region_b (fun _ => none) (fun _ => []) rfl (by kernel_rfl) (fun vs hvs => ?_)
              refine Wild.walk_simple rfl (by rfl) (by rfl) (fun K hK => ?_); go_big_quiet_op; first | (refine hK _ ?_; clear hK K) | (refine ⟨_, fun _ _ => rfl, hK _ ?_⟩; clear hK K)
              refine Wild.walk_cell 3 _ _ _ (.int .i64 vo) _ rfl (by rfl) rfl rfl (fun w' hw => (HFy.out w' hw.1).2.2.1.cells.1) Try.underlying3 rfl ?_
              simp only [Act.put, List.setIfInBounds_toArray, List.set_cons_zero, List.set_cons_succ]
              refine Wild.walk_simple rfl (by rfl) (by rfl) (fun K hK => ?_); go_big_quiet_op; first | (refine hK _ ?_; clear hK K) | (refine ⟨_, fun _ _ => rfl, hK _ ?_⟩; clear hK K)
              refine Wild.walk_simple rfl (by rfl) (by rfl) (fun K hK => ?_); go_big_quiet_op; first | (refine hK _ ?_; clear hK K) | (refine ⟨_, fun _ _ => rfl, hK _ ?_⟩; clear hK K)
              refine Wild.walk_cell 24 _ _ _ (.slice (some ⟨yb, yo, none⟩) N y2) _ rfl (by rfl) rfl rfl (fun w' hw => (HFy.out w' hw.1).1.cells.2.2.2.2.1) Try.underlying24 rfl ?_
              simp only [Act.put, List.setIfInBounds_toArray, List.set_cons_zero, List.set_cons_succ]
              refine Wild.walk_simple rfl (by rfl) (by rfl) (fun K hK => ?_); go_big_quiet_op; first | (refine hK _ ?_; clear hK K) | (refine ⟨_, fun _ _ => rfl, hK _ ?_⟩; clear hK K)
              refine Wild.walk_simple rfl (by rfl) (by rfl) (fun K hK => ?_); go_big_quiet_op; first | (refine hK _ ?_; clear hK K) | (refine ⟨_, fun _ _ => rfl, hK _ ?_⟩; clear hK K)
              refine Wild.walk_cell 3 _ _ _ (.int .i64 zn) _ rfl (by rfl) rfl rfl (fun w' hw => (HFy.out w' hw.1).2.2.2.2.2.1) Try.underlying3 rfl ?_
              simp only [Act.put, List.setIfInBounds_toArray, List.set_cons_zero, List.set_cons_succ]
              refine Wild.walk_simple rfl (by rfl) (by rfl) (fun K hK => ?_); go_big_quiet_op; first | (refine hK _ ?_; clear hK K) | (refine ⟨_, fun _ _ => rfl, hK _ ?_⟩; clear hK K)
              refine Wild.walk_cell 24 _ _ _ (.slice (some ⟨ab, ao, none⟩) N c') _ rfl (by rfl) rfl rfl (fun w' hw => (HFy.out w' hw.1).2.1.cells.2.2.2.2.1) Try.underlying24 rfl ?_
              simp only [Act.put, List.setIfInBounds_toArray, List.set_cons_zero, List.set_cons_succ]
              refine Wild.walk_simple rfl (by rfl) (by rfl) (fun K hK => ?_); go_big_quiet_op; first | (refine hK _ ?_; clear hK K) | (refine ⟨_, fun _ _ => rfl, hK _ ?_⟩; clear hK K)
              refine Wild.walk_simple rfl (by rfl) (by rfl) (fun K hK => ?_); go_big_quiet_op; first | (refine hK _ ?_; clear hK K) | (refine ⟨_, fun _ _ => rfl, hK _ ?_⟩; clear hK K)
              refine Wild.walk_cell 3 _ _ _ (.int .i64 zo) _ rfl (by rfl) rfl rfl (fun w' hw => (HFy.out w' hw.1).2.2.2.2.2.2.1) Try.underlying3 rfl ?_
              simp only [Act.put, List.setIfInBounds_toArray, List.set_cons_zero, List.set_cons_succ]
              refine Wild.walk_simple rfl (by rfl) (by rfl) (fun K hK => ?_); go_big_quiet_op; first | (refine hK _ ?_; clear hK K) | (refine ⟨_, fun _ _ => rfl, hK _ ?_⟩; clear hK K)
              refine Wild.walk_simple rfl (by rfl) (by rfl) (fun K hK => ?_); go_big_quiet_op; first | (refine hK _ ?_; clear hK K) | (refine ⟨_, fun _ _ => rfl, hK _ ?_⟩; clear hK K)
              refine Wild.walk_simple rfl (by rfl) (by rfl) (fun K hK => ?_); go_big_quiet_op; first | (refine hK _ ?_; clear hK K) | (refine ⟨_, fun _ _ => rfl, hK _ ?_⟩; clear hK K)
              refine Wild.walk_simple rfl (by rfl) (by rfl) (fun K hK => ?_); go_big_quiet_op; first | (refine hK _ ?_; clear hK K) | (refine ⟨_, fun _ _ => rfl, hK _ ?_⟩; clear hK K)
              refine Wild.walk_cell 3 _ _ _ (.int .i64 vo) _ rfl (by rfl) rfl rfl (fun w' hw => (HFy.out w' hw.1).2.2.1.cells.1) Try.underlying3 rfl ?_
              simp only [Act.put, List.setIfInBounds_toArray, List.set_cons_zero, List.set_cons_succ]
              refine Wild.walk_simple rfl (by rfl) (by rfl) (fun K hK => ?_); go_big_quiet_op; first | (refine hK _ ?_; clear hK K) | (refine ⟨_, fun _ _ => rfl, hK _ ?_⟩; clear hK K)
              refine Wild.walk_simple rfl (by rfl) (by rfl) (fun K hK => ?_); go_big_quiet_op; first | (refine hK _ ?_; clear hK K) | (refine ⟨_, fun _ _ => rfl, hK _ ?_⟩; clear hK K)
              refine Wild.walk_skip rfl (by rfl) ?_
              simp only [Act.put, List.setIfInBounds_toArray, List.set_cons_zero, List.set_cons_succ]
              refine Wild.walk_skip rfl (by rfl) ?_
              simp only [Act.put, List.setIfInBounds_toArray, List.set_cons_zero, List.set_cons_succ]
              refine Wild.walk_skip rfl (by rfl) ?_
              simp only [Act.put, List.setIfInBounds_toArray, List.set_cons_zero, List.set_cons_succ]
              refine Wild.walk_skip rfl (by rfl) ?_
              simp only [Act.put, List.setIfInBounds_toArray, List.set_cons_zero, List.set_cons_succ]
              refine Wild.walk_skip rfl (by rfl) ?_
              simp only [Act.put, List.setIfInBounds_toArray, List.set_cons_zero, List.set_cons_succ]
              refine Wild.walk_skip rfl (by rfl) ?_
              simp only [Act.put, List.setIfInBounds_toArray, List.set_cons_zero, List.set_cons_succ]
              refine Wild.walk_skip rfl (by rfl) ?_
              simp only [Act.put, List.setIfInBounds_toArray, List.set_cons_zero, List.set_cons_succ]
              refine Wild.walk_skip rfl (by rfl) ?_
              simp only [Act.put, List.setIfInBounds_toArray, List.set_cons_zero, List.set_cons_succ]
              refine Wild.walk_simple rfl (by rfl) (by rfl) (fun K hK => ?_); go_big_quiet_op; first | (refine hK _ ?_; clear hK K) | (refine ⟨_, fun _ _ => rfl, hK _ ?_⟩; clear hK K)
              refine Wild.walk_simple rfl (by rfl) (by rfl) (fun K hK => ?_); go_big_quiet_op; first | (refine hK _ ?_; clear hK K) | (refine ⟨_, fun _ _ => rfl, hK _ ?_⟩; clear hK K)
              refine Wild.walk_nil ?_
              intro w8 hw8 hf8
              have HB8 := Lib.hid (HC100.out.trans (Below.mono hw8 HC100.out.size))
              clear hw8 hf8 hvs
              go_wp2_with fail
              go_meet
              exact ⟨rfl, HB8.out⟩
            · have g1 : (vo != 0) = true := bne_iff_ne.2 hvo
              have g2 : decide (zo < zn) = true := by rw [decide_eq_true_iff, Hzo.out, Hzn.out]; exact HSP.out.o1.1 hvo
              have g3 : (vo != zn) = false := by rw [Hzn.out, ← HSP.out.o2 hvo]; simp
              clear hvo
              refine Wild.region_b (fun _ => none) (fun _ => []) rfl (by kernel_rfl) (fun vs hvs => ?_)
              refine Wild.walk_simple rfl (by rfl) (by rfl) (fun K hK => ?_); go_big_quiet_op; first | (refine hK _ ?_; clear hK K) | (refine ⟨_, fun _ _ => rfl, hK _ ?_⟩; clear hK K)
              refine Wild.walk_cell 3 _ _ _ (.int .i64 vo) _ rfl (by rfl) rfl rfl (fun w' hw => (HFy.out w' hw.1).2.2.1.cells.1) Try.underlying3 rfl ?_
              simp only [Act.put, List.setIfInBounds_toArray, List.set_cons_zero, List.set_cons_succ]
              refine Wild.walk_simple rfl (by rfl) (by rfl) (fun K hK => ?_); go_big_quiet_op; first | (refine hK _ ?_; clear hK K) | (refine ⟨_, fun _ _ => rfl, hK _ ?_⟩; clear hK K)
              refine Wild.walk_simple rfl (by rfl) (by rfl) (fun K hK => ?_); go_big_quiet_op; first | (refine hK _ ?_; clear hK K) | (refine ⟨_, fun _ _ => rfl, hK _ ?_⟩; clear hK K)
              refine Wild.walk_cell 24 _ _ _ (.slice (some ⟨yb, yo, none⟩) N y2) _ rfl (by rfl) rfl rfl (fun w' hw => (HFy.out w' hw.1).1.cells.2.2.2.2.1) Try.underlying24 rfl ?_
              simp only [Act.put, List.setIfInBounds_toArray, List.set_cons_zero, List.set_cons_succ]
              refine Wild.walk_simple rfl (by rfl) (by rfl) (fun K hK => ?_); go_big_quiet_op; first | (refine hK _ ?_; clear hK K) | (refine ⟨_, fun _ _ => rfl, hK _ ?_⟩; clear hK K)
              refine Wild.walk_simple rfl (by rfl) (by rfl) (fun K hK => ?_); go_big_quiet_op; first | (refine hK _ ?_; clear hK K) | (refine ⟨_, fun _ _ => rfl, hK _ ?_⟩; clear hK K)
              refine Wild.walk_cell 3 _ _ _ (.int .i64 zn) _ rfl (by rfl) rfl rfl (fun w' hw => (HFy.out w' hw.1).2.2.2.2.2.1) Try.underlying3 rfl ?_
              simp only [Act.put, List.setIfInBounds_toArray, List.set_cons_zero, List.set_cons_succ]
              refine Wild.walk_simple rfl (by rfl) (by rfl) (fun K hK => ?_); go_big_quiet_op; first | (refine hK _ ?_; clear hK K) | (refine ⟨_, fun _ _ => rfl, hK _ ?_⟩; clear hK K)
              refine Wild.walk_cell 24 _ _ _ (.slice (some ⟨ab, ao, none⟩) N c') _ rfl (by rfl) rfl rfl (fun w' hw => (HFy.out w' hw.1).2.1.cells.2.2.2.2.1) Try.underlying24 rfl ?_
              simp only [Act.put, List.setIfInBounds_toArray, List.set_cons_zero, List.set_cons_succ]
              refine Wild.walk_simple rfl (by rfl) (by rfl) (fun K hK => ?_); go_big_quiet_op; first | (refine hK _ ?_; clear hK K) | (refine ⟨_, fun _ _ => rfl, hK _ ?_⟩; clear hK K)
              refine Wild.walk_simple rfl (by rfl) (by rfl) (fun K hK => ?_); go_big_quiet_op; first | (refine hK _ ?_; clear hK K) | (refine ⟨_, fun _ _ => rfl, hK _ ?_⟩; clear hK K)
              refine Wild.walk_cell 3 _ _ _ (.int .i64 zo) _ rfl (by rfl) rfl rfl (fun w' hw => (HFy.out w' hw.1).2.2.2.2.2.2.1) Try.underlying3 rfl ?_
              simp only [Act.put, List.setIfInBounds_toArray, List.set_cons_zero, List.set_cons_succ]
              refine Wild.walk_simple rfl (by rfl) (by rfl) (fun K hK => ?_); go_big_quiet_op; first | (refine hK _ ?_; clear hK K) | (refine ⟨_, fun _ _ => rfl, hK _ ?_⟩; clear hK K)
              refine Wild.walk_simple rfl (by rfl) (by rfl) (fun K hK => ?_); go_big_quiet_op; first | (refine hK _ ?_; clear hK K) | (refine ⟨_, fun _ _ => rfl, hK _ ?_⟩; clear hK K)
              refine Wild.walk_simple rfl (by rfl) (by rfl) (fun K hK => ?_); go_big_quiet_op; first | (refine hK _ ?_; clear hK K) | (refine ⟨_, fun _ _ => rfl, hK _ ?_⟩; clear hK K)
              refine Wild.walk_simple rfl (by rfl) (by rfl) (fun K hK => ?_); go_big_quiet_op; first | (refine hK _ ?_; clear hK K) | (refine ⟨_, fun _ _ => rfl, hK _ ?_⟩; clear hK K)
              refine Wild.walk_cell 3 _ _ _ (.int .i64 vo) _ rfl (by rfl) rfl rfl (fun w' hw => (HFy.out w' hw.1).2.2.1.cells.1) Try.underlying3 rfl ?_
              simp only [Act.put, List.setIfInBounds_toArray, List.set_cons_zero, List.set_cons_succ]
              refine Wild.walk_simple rfl (by rfl) (by rfl) (fun K hK => ?_); go_big_quiet_op; first | (refine hK _ ?_; clear hK K) | (refine ⟨_, fun _ _ => rfl, hK _ ?_⟩; clear hK K)
              refine Wild.walk_simple rfl (by rfl) (by rfl) (fun K hK => ?_); go_big_quiet_op; first | (refine hK _ ?_; clear hK K) | (refine ⟨_, fun _ _ => rfl, hK _ ?_⟩; clear hK K)
              refine Wild.walk_simple rfl (by rfl) (by rfl) (fun K hK => ?_); go_big_quiet_op; first | (refine hK _ ?_; clear hK K) | (refine ⟨_, fun _ _ => rfl, hK _ ?_⟩; clear hK K)
              refine Wild.walk_cell 3 _ _ _ (.int .i64 vo) _ rfl (by rfl) rfl rfl (fun w' hw => (HFy.out w' hw.1).2.2.1.cells.1) Try.underlying3 rfl ?_
              simp only [Act.put, List.setIfInBounds_toArray, List.set_cons_zero, List.set_cons_succ]
              refine Wild.walk_simple rfl (by rfl) (by rfl) (fun K hK => ?_); go_big_quiet_op; first | (refine hK _ ?_; clear hK K) | (refine ⟨_, fun _ _ => rfl, hK _ ?_⟩; clear hK K)
              refine Wild.walk_cell 24 _ _ _ (.slice (some ⟨yb, yo, none⟩) N y2) _ rfl (by rfl) rfl rfl (fun w' hw => (HFy.out w' hw.1).1.cells.2.2.2.2.1) Try.underlying24 rfl ?_
              simp only [Act.put, List.setIfInBounds_toArray, List.set_cons_zero, List.set_cons_succ]
              refine Wild.walk_simple rfl (by rfl) (by rfl) (fun K hK => ?_); go_big_quiet_op; first | (refine hK _ ?_; clear hK K) | (refine ⟨_, fun _ _ => rfl, hK _ ?_⟩; clear hK K)
              refine Wild.walk_simple rfl (by rfl) (by rfl) (fun K hK => ?_); go_big_quiet_op; first | (refine hK _ ?_; clear hK K) | (refine ⟨_, fun _ _ => rfl, hK _ ?_⟩; clear hK K)
              refine Wild.walk_cell 3 _ _ _ (.int .i64 zn) _ rfl (by rfl) rfl rfl (fun w' hw => (HFy.out w' hw.1).2.2.2.2.2.1) Try.underlying3 rfl ?_
              simp only [Act.put, List.setIfInBounds_toArray, List.set_cons_zero, List.set_cons_succ]
              refine Wild.walk_simple rfl (by rfl) (by rfl) (fun K hK => ?_); go_big_quiet_op; first | (refine hK _ ?_; clear hK K) | (refine ⟨_, fun _ _ => rfl, hK _ ?_⟩; clear hK K)
              refine Wild.walk_simple rfl (by rfl) (by rfl) (fun K hK => ?_); go_big_quiet_op; first | (refine hK _ ?_; clear hK K) | (refine ⟨_, fun _ _ => rfl, hK _ ?_⟩; clear hK K)
              refine Wild.walk_simple rfl (by rfl) (by rfl) (fun K hK => ?_); go_big_quiet_op; first | (refine hK _ ?_; clear hK K) | (refine ⟨_, fun _ _ => rfl, hK _ ?_⟩; clear hK K)
              refine Wild.walk_nil ?_
              intro w8 hw8 hf8
              have HB8 := Lib.hid (HC100.out.trans (Below.mono hw8 HC100.out.size))
              clear hw8 hf8 hvs
              go_wp2_with fail
              go_meet
              exact ⟨rfl, HB8.out⟩
          obtain ⟨rfl, hcb⟩ := hcut
          have HC130 := Lib.hid hcb
          clear hcb
          obtain ⟨wd130, Hwd⟩ : ∃ W, Hid (W = wc) := ⟨_, Lib.hid rfl⟩
          rw [← Hwd.out] at HC130 ⊢
          clear Hwd wc
          go_upto_region 14 with (fail)
          try simp only [Act.put]
          go_cut [151] from 131 to 151 (fun s wx => s = .bool false ∧ Below w9.heap.size w9 wx)
          case first =>
            have HFy := Lib.hid (fun W' h => HFx.out W' (HC130.out.trans (Below.mono h HC130.out.size)))
            by_cases hvo : vo = 0
            · have g1 : (vo != 0) = false := by rw [hvo]; rfl
              clear hvo
              refine Wild.region_b (fun _ => none) (fun _ => []) rfl (by kernel_rfl) (fun vs hvs => ?_)
              refine Wild.walk_simple rfl (by rfl) (by rfl) (fun K hK => ?_); go_big_quiet_op; first | (refine hK _ ?_; clear hK K) | (refine ⟨_, fun _ _ => rfl, hK _ ?_⟩; clear hK K)
              refine Wild.walk_cell 3 _ _ _ (.int .i64 vo) _ rfl (by rfl) rfl rfl (fun w' hw => (HFy.out w' hw.1).2.2.1.cells.1) Try.underlying3 rfl ?_
              simp only [Act.put, List.setIfInBounds_toArray, List.set_cons_zero, List.set_cons_succ]
              refine Wild.walk_simple rfl (by rfl) (by rfl) (fun K hK => ?_); go_big_quiet_op; first | (refine hK _ ?_; clear hK K) | (refine ⟨_, fun _ _ => rfl, hK _ ?_⟩; clear hK K)
              refine Wild.walk_simple rfl (by rfl) (by rfl) (fun K hK => ?_); go_big_quiet_op; first | (refine hK _ ?_; clear hK K) | (refine ⟨_, fun _ _ => rfl, hK _ ?_⟩; clear hK K)
              refine Wild.walk_skip rfl (by rfl) ?_
              simp only [Act.put, List.setIfInBounds_toArray, List.set_cons_zero, List.set_cons_succ]
              refine Wild.walk_skip rfl (by rfl) ?_
              simp only [Act.put, List.setIfInBounds_toArray, List.set_cons_zero, List.set_cons_succ]
              refine Wild.walk_skip rfl (by rfl) ?_
              simp only [Act.put, List.setIfInBounds_toArray, List.set_cons_zero, List.set_cons_succ]
              refine Wild.walk_skip rfl (by rfl) ?_
              simp only [Act.put, List.setIfInBounds_toArray, List.set_cons_zero, List.set_cons_succ]
              refine Wild.walk_skip rfl (by rfl) ?_
              simp only [Act.put, List.setIfInBounds_toArray, List.set_cons_zero, List.set_cons_succ]
              refine Wild.walk_skip rfl (by rfl) ?_
              simp only [Act.put, List.setIfInBounds_toArray, List.set_cons_zero, List.set_cons_succ]
              refine Wild.walk_simple rfl (by rfl) (by rfl) (fun K hK => ?_); go_big_quiet_op; first | (refine hK _ ?_; clear hK K) | (refine ⟨_, fun _ _ => rfl, hK _ ?_⟩; clear hK K)
              refine Wild.walk_simple rfl (by rfl) (by rfl) (fun K hK => ?_); go_big_quiet_op; first | (refine hK _ ?_; clear hK K) | (refine ⟨_, fun _ _ => rfl, hK _ ?_⟩; clear hK K)
              refine Wild.walk_skip rfl (by rfl) ?_
              simp only [Act.put, List.setIfInBounds_toArray, List.set_cons_zero, List.set_cons_succ]
              refine Wild.walk_skip rfl (by rfl) ?_
              simp only [Act.put, List.setIfInBounds_toArray, List.set_cons_zero, List.set_cons_succ]
              refine Wild.walk_skip rfl (by rfl) ?_
              simp only [Act.put, List.setIfInBounds_toArray, List.set_cons_zero, List.set_cons_succ]
              refine Wild.walk_skip rfl (by rfl) ?_
              simp only [Act.put, List.setIfInBounds_toArray, List.set_cons_zero, List.set_cons_succ]
              refine Wild.walk_skip rfl (by rfl) ?_
              simp only [Act.put, List.setIfInBounds_toArray, List.set_cons_zero, List.set_cons_succ]
              refine Wild.walk_skip rfl (by rfl) ?_
              simp only [Act.put, List.setIfInBounds_toArray, List.set_cons_zero, List.set_cons_succ]
              refine Wild.walk_skip rfl (by rfl) ?_
              simp only [Act.put, List.setIfInBounds_toArray, List.set_cons_zero, List.set_cons_succ]
              refine Wild.walk_skip rfl (by rfl) ?_
              simp only [Act.put, List.setIfInBounds_toArray, List.set_cons_zero, List.set_cons_succ]
              refine Wild.walk_simple rfl (by rfl) (by rfl) (fun K hK => ?_); go_big_quiet_op; first | (refine hK _ ?_; clear hK K) | (refine ⟨_, fun _ _ => rfl, hK _ ?_⟩; clear hK K)
              refine Wild.walk_nil ?_
              intro w8 hw8 hf8
              have HB8 := Lib.hid (HC130.out.trans (Below.mono hw8 HC130.out.size))
              clear hw8 hf8 hvs
              go_wp2_with fail
              go_meet
              exact ⟨rfl, HB8.out⟩
            · have g1 : (vo != 0) = true := bne_iff_ne.2 hvo
              by_cases hk : kind = 1
              · have g2 : (kind == 1) = true := by rw [hk]; rfl
                have q1 := HSK.out hk hvo
                rw [← Hc14.out] at q1
                have g3 : decide ((c14 : Int) < F + 1) = false := by rw [decide_eq_false_iff_not]; omega
                clear hk hvo q1
                refine Wild.region_b (fun k => match k with | 16 => some (.fix (.int .i64 c14)) | 18 => some (.fix (.int .i64 (F + 1))) | _ => none) (fun _ => []) rfl (by kernel_rfl) (fun vs hvs => ?_)
                have v16 : vs 16 = .int .i64 c14 := hvs 16 _ rfl
                have v18 : vs 18 = .int .i64 (F + 1) := hvs 18 _ rfl
                refine Wild.walk_simple rfl (by rfl) (by rfl) (fun K hK => ?_); go_big_quiet_op; first | (refine hK _ ?_; clear hK K) | (refine ⟨_, fun _ _ => rfl, hK _ ?_⟩; clear hK K)
                refine Wild.walk_cell 3 _ _ _ (.int .i64 vo) _ rfl (by rfl) rfl rfl (fun w' hw => (HFy.out w' hw.1).2.2.1.cells.1) Try.underlying3 rfl ?_
                simp only [Act.put, List.setIfInBounds_toArray, List.set_cons_zero, List.set_cons_succ]
                refine Wild.walk_simple rfl (by rfl) (by rfl) (fun K hK => ?_); go_big_quiet_op; first | (refine hK _ ?_; clear hK K) | (refine ⟨_, fun _ _ => rfl, hK _ ?_⟩; clear hK K)
                refine Wild.walk_simple rfl (by rfl) (by rfl) (fun K hK => ?_); go_big_quiet_op; first | (refine hK _ ?_; clear hK K) | (refine ⟨_, fun _ _ => rfl, hK _ ?_⟩; clear hK K)
                refine Wild.walk_simple rfl (by rfl) (by rfl) (fun K hK => ?_); go_big_quiet_op; first | (refine hK _ ?_; clear hK K) | (refine ⟨_, fun _ _ => rfl, hK _ ?_⟩; clear hK K)
                refine Wild.walk_simple rfl (by rfl) (by rfl) (fun K hK => ?_); go_big_quiet_op; first | (refine hK _ ?_; clear hK K) | (refine ⟨_, fun _ _ => rfl, hK _ ?_⟩; clear hK K)
                refine Wild.walk_simple rfl (by rfl) (by rfl) (fun K hK => ?_); go_big_quiet_op; first | (refine hK _ ?_; clear hK K) | (refine ⟨_, fun _ _ => rfl, hK _ ?_⟩; clear hK K)
                refine Wild.walk_simple rfl (by rfl) (by rfl) (fun K hK => ?_); go_big_quiet_op; first | (refine hK _ ?_; clear hK K) | (refine ⟨_, fun _ _ => rfl, hK _ ?_⟩; clear hK K)
                refine Wild.walk_cell 3 _ _ _ (.int .i64 kind) _ rfl (by rfl) rfl rfl (fun w' hw => (HFy.out w' hw.1).2.2.2.2.2.2.2.2 0 _ rfl) Try.underlying3 rfl ?_
                simp only [Act.put, List.setIfInBounds_toArray, List.set_cons_zero, List.set_cons_succ]
                refine Wild.walk_simple rfl (by rfl) (by rfl) (fun K hK => ?_); go_big_quiet_op; first | (refine hK _ ?_; clear hK K) | (refine ⟨_, fun _ _ => rfl, hK _ ?_⟩; clear hK K)
                refine Wild.walk_simple rfl (by rfl) (by rfl) (fun K hK => ?_); go_big_quiet_op; first | (refine hK _ ?_; clear hK K) | (refine ⟨_, fun _ _ => rfl, hK _ ?_⟩; clear hK K)
                refine Wild.walk_simple rfl (by rfl) (by rfl) (fun K hK => ?_); go_big_quiet_op; first | (refine hK _ ?_; clear hK K) | (refine ⟨_, fun _ _ => rfl, hK _ ?_⟩; clear hK K)
                refine Wild.walk_simple rfl (by rfl) (by rfl) (fun K hK => ?_); go_big_quiet_op; first | (refine hK _ ?_; clear hK K) | (refine ⟨_, fun _ _ => rfl, hK _ ?_⟩; clear hK K)
                refine Wild.walk_cell 24 _ _ _ (.slice (some ⟨yb, yo, none⟩) N y2) _ rfl (by rfl) rfl rfl (fun w' hw => (HFy.out w' hw.1).1.cells.2.2.2.2.1) Try.underlying24 rfl ?_
                simp only [Act.put, List.setIfInBounds_toArray, List.set_cons_zero, List.set_cons_succ]
                refine Wild.walk_simple rfl (by rfl) (by rfl) (fun K hK => ?_); go_big_quiet_op; first | (refine hK _ ?_; clear hK K) | (refine ⟨_, fun _ _ => rfl, hK _ ?_⟩; clear hK K)
                refine Wild.walk_cell 3 _ _ _ (.int .i64 vo) _ rfl (by rfl) rfl rfl (fun w' hw => (HFy.out w' hw.1).2.2.1.cells.1) Try.underlying3 rfl ?_
                simp only [Act.put, List.setIfInBounds_toArray, List.set_cons_zero, List.set_cons_succ]
                refine Wild.walk_wild _ rfl (by rfl) (fun w' hw K hK => ?_) ?_
                · go_simp
                  go_at_call 13
                  refine (HA14.out w' (HFy.out w' hw.1).2.2.2.1).mono ?_
                  rintro e w'' ⟨rfl, rfl⟩
                  exact hK.out _ _ hw.1 (Below.refl _ _) rfl trivial
                rw [v16]
                simp only [Act.put, List.setIfInBounds_toArray, List.set_cons_zero, List.set_cons_succ]
                refine Wild.walk_load 23 _ _ _ [.int .i64 F, .int .i64 T] _ rfl (by rfl) rfl rfl (fun w' hw => rangeAt_row (cs := [.int .i64 F, .int .i64 T]) (HFy.out w' hw.1).2.2.2.2.2.2.2.1) Try.underlying23 rfl info_size ?_
                simp only [Act.put, List.setIfInBounds_toArray, List.set_cons_zero, List.set_cons_succ]
                refine Wild.walk_wild _ rfl (by rfl) (fun w' hw K hK => ?_) ?_
                · go_simp
                  go_at_call 14
                  refine (HWE.out w').mono ?_
                  rintro e w'' ⟨rfl, hb⟩
                  exact hK.out _ _ (hw.1.trans (hb.mono hw.1.size)) hb rfl trivial
                rw [v18]
                simp only [Act.put, List.setIfInBounds_toArray, List.set_cons_zero, List.set_cons_succ]
                refine Wild.walk_simple rfl (by rfl) (by rfl) (fun K hK => ?_); go_big_quiet_op; first | (refine hK _ ?_; clear hK K) | (refine ⟨_, fun _ _ => rfl, hK _ ?_⟩; clear hK K)
                refine Wild.walk_simple rfl (by rfl) (by rfl) (fun K hK => ?_); go_big_quiet_op; first | (refine hK _ ?_; clear hK K) | (refine ⟨_, fun _ _ => rfl, hK _ ?_⟩; clear hK K)
                refine Wild.walk_nil ?_
                intro w8 hw8 hf8
                have HB8 := Lib.hid (HC130.out.trans (Below.mono hw8 HC130.out.size))
                clear hw8 hf8 hvs
                go_wp2_with fail
                go_meet
                exact ⟨rfl, HB8.out⟩
              · have g2 : (kind == 1) = false := beq_eq_false_iff_ne.2 hk
                clear hk hvo
                refine Wild.region_b (fun _ => none) (fun _ => []) rfl (by kernel_rfl) (fun vs hvs => ?_)
                refine Wild.walk_simple rfl (by rfl) (by rfl) (fun K hK => ?_); go_big_quiet_op; first | (refine hK _ ?_; clear hK K) | (refine ⟨_, fun _ _ => rfl, hK _ ?_⟩; clear hK K)
                refine Wild.walk_cell 3 _ _ _ (.int .i64 vo) _ rfl (by rfl) rfl rfl (fun w' hw => (HFy.out w' hw.1).2.2.1.cells.1) Try.underlying3 rfl ?_
                simp only [Act.put, List.setIfInBounds_toArray, List.set_cons_zero, List.set_cons_succ]
                refine Wild.walk_simple rfl (by rfl) (by rfl) (fun K hK => ?_); go_big_quiet_op; first | (refine hK _ ?_; clear hK K) | (refine ⟨_, fun _ _ => rfl, hK _ ?_⟩; clear hK K)
                refine Wild.walk_simple rfl (by rfl) (by rfl) (fun K hK => ?_); go_big_quiet_op; first | (refine hK _ ?_; clear hK K) | (refine ⟨_, fun _ _ => rfl, hK _ ?_⟩; clear hK K)
                refine Wild.walk_simple rfl (by rfl) (by rfl) (fun K hK => ?_); go_big_quiet_op; first | (refine hK _ ?_; clear hK K) | (refine ⟨_, fun _ _ => rfl, hK _ ?_⟩; clear hK K)
                refine Wild.walk_simple rfl (by rfl) (by rfl) (fun K hK => ?_); go_big_quiet_op; first | (refine hK _ ?_; clear hK K) | (refine ⟨_, fun _ _ => rfl, hK _ ?_⟩; clear hK K)
                refine Wild.walk_simple rfl (by rfl) (by rfl) (fun K hK => ?_); go_big_quiet_op; first | (refine hK _ ?_; clear hK K) | (refine ⟨_, fun _ _ => rfl, hK _ ?_⟩; clear hK K)
                refine Wild.walk_simple rfl (by rfl) (by rfl) (fun K hK => ?_); go_big_quiet_op; first | (refine hK _ ?_; clear hK K) | (refine ⟨_, fun _ _ => rfl, hK _ ?_⟩; clear hK K)
                refine Wild.walk_cell 3 _ _ _ (.int .i64 kind) _ rfl (by rfl) rfl rfl (fun w' hw => (HFy.out w' hw.1).2.2.2.2.2.2.2.2 0 _ rfl) Try.underlying3 rfl ?_
                simp only [Act.put, List.setIfInBounds_toArray, List.set_cons_zero, List.set_cons_succ]
                refine Wild.walk_simple rfl (by rfl) (by rfl) (fun K hK => ?_); go_big_quiet_op; first | (refine hK _ ?_; clear hK K) | (refine ⟨_, fun _ _ => rfl, hK _ ?_⟩; clear hK K)
                refine Wild.walk_simple rfl (by rfl) (by rfl) (fun K hK => ?_); go_big_quiet_op; first | (refine hK _ ?_; clear hK K) | (refine ⟨_, fun _ _ => rfl, hK _ ?_⟩; clear hK K)
                refine Wild.walk_simple rfl (by rfl) (by rfl) (fun K hK => ?_); go_big_quiet_op; first | (refine hK _ ?_; clear hK K) | (refine ⟨_, fun _ _ => rfl, hK _ ?_⟩; clear hK K)
                refine Wild.walk_skip rfl (by rfl) ?_
                simp only [Act.put, List.setIfInBounds_toArray, List.set_cons_zero, List.set_cons_succ]
                refine Wild.walk_skip rfl (by rfl) ?_
                simp only [Act.put, List.setIfInBounds_toArray, List.set_cons_zero, List.set_cons_succ]
                refine Wild.walk_skip rfl (by rfl) ?_
                simp only [Act.put, List.setIfInBounds_toArray, List.set_cons_zero, List.set_cons_succ]
                refine Wild.walk_skip rfl (by rfl) ?_
                simp only [Act.put, List.setIfInBounds_toArray, List.set_cons_zero, List.set_cons_succ]
                refine Wild.walk_skip rfl (by rfl) ?_
                simp only [Act.put, List.setIfInBounds_toArray, List.set_cons_zero, List.set_cons_succ]
                refine Wild.walk_skip rfl (by rfl) ?_
                simp only [Act.put, List.setIfInBounds_toArray, List.set_cons_zero, List.set_cons_succ]
                refine Wild.walk_skip rfl (by rfl) ?_
                simp only [Act.put, List.setIfInBounds_toArray, List.set_cons_zero, List.set_cons_succ]
                refine Wild.walk_skip rfl (by rfl) ?_
                simp only [Act.put, List.setIfInBounds_toArray, List.set_cons_zero, List.set_cons_succ]
                refine Wild.walk_simple rfl (by rfl) (by rfl) (fun K hK => ?_); go_big_quiet_op; first | (refine hK _ ?_; clear hK K) | (refine ⟨_, fun _ _ => rfl, hK _ ?_⟩; clear hK K)
                refine Wild.walk_nil ?_
                intro w8 hw8 hf8
                have HB8 := Lib.hid (HC130.out.trans (Below.mono hw8 HC130.out.size))
                clear hw8 hf8 hvs
                go_wp2_with fail
                go_meet
                exact ⟨rfl, HB8.out⟩
          obtain ⟨rfl, hcb⟩ := hcut
          have HC151 := Lib.hid hcb
          clear hcb
          obtain ⟨wd151, Hwd⟩ : ∃ W, Hid (W = wc) := ⟨_, Lib.hid rfl⟩
          rw [← Hwd.out] at HC151 ⊢
          clear Hwd wc
          go_upto_region 16 with (fail)
          obtain ⟨WX, HWX⟩ : ∃ W, Hid (W = wd151.setRow nb (ElV F T m E'.view (.slice (some ⟨yb, yo, none⟩) N y2) E'.clock wt')) := ⟨_, Lib.hid rfl⟩
          have HF9 := Lib.hid (HFx.out wd151 HC151.out)
          have HZ9 : Hid (nb < wd151.heap.size) := Lib.hid (by have h1 := H9B.out.size; have h2 := HZj.out; have h3 := HC151.out.size; omega)
          have HBN : Hid (Below nb w1 WX) := Lib.hid (by rw [HWX.out]; exact below_row (HBj.out.trans ((H9B.out.trans (HC151.out.mono H9B.out.size)).mono (Nat.le_of_lt HZj.out))) (Nat.le_refl _) _)
          have HEN : Hid (ElB WX nb 26 F T m E'.view (.slice (some ⟨yb, yo, none⟩) N y2) E'.clock wt') := Lib.hid (by rw [HWX.out]; exact setRow_heap _ _ _ _ _ _ HF9.out.2.1)
          have HON : Hid (OkV nb WX (.slice (some ⟨yb, yo, none⟩) N y2) E'.votes) := Lib.hid (by rw [HWX.out]; exact (H9V.out.later HC151.out).row (Nat.le_refl _) HF9.out.2.1 (by decide) _)
          have HZX : Hid (nb < WX.heap.size) := Lib.hid (by rw [HWX.out]; have := HZ9.out; simpa using this)
          have HCX : Hid (E'.clock ≤ ((j + 1 : Nat) : Int)) := Lib.hid (by have h1 := HSC.out; have h2 := HCE.out; omega)
          have H1E := Lib.hid HF9.out.1
          have H2E := Lib.hid HF9.out.2.1
          clear HF9 HFx
          go_wp2_with (first
            | ((with_reducible refine at_load 26 _ rfl ?_); refine wpList_load_row rfl 26 _ rfl _ rfl _ (ElV F T m E'.view (.slice (some ⟨yb, yo, none⟩) N y2) E'.clock wt') (0, 0) _ H1E.out Try.underlying26 rfl info_el ?_)
            | ((with_reducible refine at_store 26 _ _ rfl ?_); refine wpList_store_row rfl 26 _ _ rfl nb (ElV F T m E'.view (.slice (some ⟨yb, yo, none⟩) N y2) E'.clock wt') rfl rfl 26 _ H2E.out info_el rfl ElV_one ?_; rw [← HWX.out]))
          go_roundw
          case rel => exact ⟨j + 1, E', wt', _, by omega, by go_num, HRN, HCX, HEN, HON, HBN, HZX⟩
          case measure => simp [intOf]; omega
        · obtain rfl : j = n := by omega
          have hnl : ¬ ((j : Int) < j) := by omega
          clear HDO HRT HPL HWE HPR HAB HAj
          go_wp2_with (go_at_call 11; refine (alive24_any _).mono ?_; rintro e w6 ⟨rfl, b6⟩; have H6B : Hid (Below w.heap.size w w6) := Lib.hid (HBX.out.trans ((HBj'.out.trans (b6.mono HBj'.out.size)).mono HBX.out.size)); clear b6)
          go_ret
          exact ⟨rfl, H6B.out⟩
    · have hni : (200 : Int) < n := by omega
      have dn : decide ((200 : Int) < n) = true := decide_eq_true hni
      clear hok h1 h2
      go_enter Try.func6, Try.ntmps6
      go_upto_region 1 with (fail)
      rw [← HV.out]
      go_wp2_with (first
        | ((with_reducible refine at_load 23 _ rfl ?_); refine wpList_load_row rfl 23 _ rfl _ rfl _ (SizeV F T) (0, 0) _ HE.out Try.underlying23 rfl IS ?_)
        | (go_at_call 24; refine HN.out.mono ?_; rintro e w1 ⟨v1, rfl, ⟨s1, p1⟩, b1⟩; obtain ⟨a1, d1, hv1⟩ := s1.shape; rw [List.length_replicate] at hv1; subst hv1; have HB1 : Hid (Below w.heap.size w (w1.alloc (.cells (ElV F T m 0 (.slice a1 N d1) 0 4) 26))) := Lib.hid ((HB.out.trans (b1.mono HB.out.size)).alloc (Nat.le_trans HB.out.size b1.size) _); clear s1 b1 p1)
        | ((with_reducible refine at_store 26 _ _ rfl ?_); refine wpList_store_new rfl 26 _ _ rfl (ElV F T m 0 (.slice a1 N d1) 0 4) rfl rfl 26 _ info_el rfl ElV_one ?_)
        | (go_at_call 11; refine (alive24_any _).mono ?_; rintro e w6 ⟨rfl, b6⟩; have H6B := Lib.hid (HB1.out.trans (b6.mono HB1.out.size)); clear b6))
      go_ret
      exact ⟨rfl, H6B.out⟩
  · have hok' : newOk F T me = false := by simpa using hok
    simp only [hok', Bool.false_eq_true, if_false, false_implies, true_and, exists_const] at HN
    clear hok hok'
    go_enter Try.func6, Try.ntmps6
    go_upto_region 1 with (fail)
    rw [← HV.out]
    go_wp2_with (first
      | ((with_reducible refine at_load 23 _ rfl ?_); refine wpList_load_row rfl 23 _ rfl _ rfl _ (SizeV F T) (0, 0) _ HE.out Try.underlying23 rfl IS ?_)
      | (go_at_call 24; refine HN.out.mono ?_; rintro e w1 ⟨rfl, b1⟩; have HB1 : Hid (Below w.heap.size w (w1.alloc (.cells (ElV 0 0 0 0 (.slice none 0 0) 0 0) 26))) := Lib.hid ((HB.out.trans (b1.mono HB.out.size)).alloc (Nat.le_trans HB.out.size b1.size) _); clear b1)
      | ((with_reducible refine at_store 26 _ _ rfl ?_); refine wpList_store_new rfl 26 _ _ rfl (ElV 0 0 0 0 (.slice none 0 0) 0 0) rfl rfl 26 _ info_el rfl ElV_one ?_)
      | (go_at_call 11; refine (alive24_any _).mono ?_; rintro e w6 ⟨rfl, b6⟩; have H6B := Lib.hid (HB1.out.trans (b6.mono HB1.out.size)); clear b6))
    go_ret
    exact ⟨rfl, H6B.out⟩
end Go.Proofs.Ytgkhgjoggkcklaa

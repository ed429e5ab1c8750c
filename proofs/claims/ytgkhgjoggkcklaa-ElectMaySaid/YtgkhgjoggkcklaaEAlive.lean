/- The walks of the chapter's alive and above. -/
import Derived.Test.YtgkhgjoggkcklaaENew
namespace Go.Proofs.Ytgkhgjoggkcklaa
open Go Go.RowKit
set_option maxRecDepth 100000
set_option maxHeartbeats 2000000

theorem wpList_built {P : Program} {ops : Array Oper} {rest : List Oper} {o : Oper} {a : Act} {w : World} {Q : Exit → Act → World → Prop} (hgd : o.guard = none) (t : TypeId) (parts : List (Nat × Operand)) (ho : o.op = .build t parts.toArray)
    (vals : List (Nat × Value)) (hv : parts.map (fun x => (x.1, a.eval x.2)) = vals) (cells : Array Value) (hc : P.built t vals = some cells)
    (h : wpList P ops Q rest (a.put o.dst (.agg cells)) w) : wpList P ops Q (o :: rest) a w := by
  refine wpList_plain hgd fun _ hK => ?_
  subst hv
  unfold Oper.wp execOp
  have e : (parts.toArray.map fun (i, x) => (i, a.eval x)).toList = parts.map (fun x => (x.1, a.eval x.2)) := by simp
  simp only [ho, Sem.run_bind, run_build w t _ cells (by rw [e]; exact hc), Result.andThen_ok]
  exact hK _ _ h
theorem ordered_eq {l s : List Int} (h : s.Perm l) (hs : s.Pairwise (· ≤ ·)) : ordered l = s := by
  have h1 : (ordered l).Perm s := (List.mergeSort_perm l _).trans h.symm
  have h2 : (ordered l).Pairwise (· ≤ ·) := by
    have := List.pairwise_mergeSort (le := fun x y : Int => decide (x ≤ y)) (by simp; omega) (by simp; omega) l
    rw [ordered]
    simpa using this
  exact h1.eq_of_pairwise (fun a b _ _ hab hba => Int.le_antisymm hab hba) h2 hs
theorem o1 : ordered [0, 3, 0, 0] = [0, 0, 0, 3] := ordered_eq (by decide) (by decide)
theorem o2 : ordered [0, 3, 3, 0] = [0, 0, 3, 3] := ordered_eq (by decide) (by decide)
theorem o3 : ordered [3, 3, 3, 0] = [0, 3, 3, 3] := ordered_eq (by decide) (by decide)
theorem o4 : ordered [1, 5, 3] = [1, 3, 5] := ordered_eq (by decide) (by decide)
theorem h1E : hearE 1 0 0 1 3 ⟨0, [0, 0, 0, 0], 0⟩ = ⟨0, [0, 3, 0, 0], 0⟩ ∧ hearVo 1 0 1 3 ⟨0, [0, 0, 0, 0], 0⟩ = 0 ∧ hearVi 1 0 0 1 3 ⟨0, [0, 0, 0, 0], 0⟩ = 0 := by
  simp [hearE, hearVo, hearVi, hearOk, El.settled, joined, joins, joinO, enterV, enterC, enterO, enters, nthV, o1]
theorem h2E : hearE 1 0 0 2 3 ⟨0, [0, 3, 0, 0], 0⟩ = ⟨3, [3, 3, 3, 0], 0⟩ ∧ hearVo 1 0 2 3 ⟨0, [0, 3, 0, 0], 0⟩ = 3 ∧ hearVi 1 0 0 2 3 ⟨0, [0, 3, 0, 0], 0⟩ = 3 := by
  simp [hearE, hearVo, hearVi, hearOk, El.settled, joined, joins, joinO, enterV, enterC, enterO, enters, nthV, o2, o3]
theorem n4 : nthV [1, 5, 3] 2 = 3 := by simp [nthV, o4]
theorem k4 : newOk 1 0 0 = true := by decide
theorem OutB.later {w w' : World} {b : Nat} {t : TypeId} {x y : Int} (h : OutB w b t x y) (hk : Below w.heap.size w w') : OutB w' b t x y := (hk.block b h.lt).trans h
theorem alive24_any (w : World) : Calls Try.prog 11 #[] w fun e w' => e = .returned (.bool true) ∧ Below w.heap.size w w' := by
  have HN := Lib.hid (New_any 1 0 0 w)
  simp only [k4, if_true, forall_const, show ((3 * 1 + 2 * 0 + 1 : Int)).toNat = 4 from rfl] at HN
  have HH1 := Lib.hid (fun vv w' (h : SlI w' .i64 vv [0, 0, 0, 0]) => Hear_any 1 0 0 vv 4 1 3 ⟨0, [0, 0, 0, 0], 0⟩ w' h (by unfold RightS; omega) (by simp) (by simp))
  have HH2 := Lib.hid (fun vv w' (h : SlI w' .i64 vv [0, 3, 0, 0]) => Hear_any 1 0 0 vv 4 2 3 ⟨0, [0, 3, 0, 0], 0⟩ w' h (by unfold RightS; omega) (by simp) (by simp))
  rw [h1E.1, h1E.2.1, h1E.2.2] at HH1
  rw [h2E.1, h2E.2.1, h2E.2.2] at HH2
  have HNT := Lib.hid (fun v w' (h : SlI w' .i64 v [1, 5, 3]) => Nth_any v [1, 5, 3] 2 w' h (by simp))
  rw [n4] at HNT
  have HS1 : Hid (Try.prog.built 23 [(0, .int .i64 1)] = some (SizeV 1 0)) := Lib.hid (by kernel_rfl)
  go_enter Try.func11, Try.ntmps11
  go_upto_region 2 with (first
    | ((with_reducible refine at_build 23 _ rfl ?_); refine wpList_built rfl 23 [(0, .const (.int .i64 1))] rfl [(0, .int .i64 1)] rfl _ HS1.out ?_)
    | (go_at_call 24; refine HN.out.mono ?_; rintro e w1 ⟨v1, rfl, ⟨s1, p1⟩, b1⟩; obtain ⟨a1, d1, rfl⟩ := s1.shape; have HSx := Lib.hid s1; have HP1 := Lib.hid (fun k h => s1.blt (by simp) k h); have HB1 := Lib.hid b1; clear s1 b1 p1)
    | ((with_reducible refine at_store 26 _ _ rfl ?_); refine wpList_store_new rfl 26 _ _ rfl (ElV 1 0 0 0 (.slice a1 4 d1) 0 4) rfl rfl 26 _ info_el rfl ElV_one ?_))
  obtain ⟨eb, He⟩ : ∃ eb, Hid (eb = w1.heap.size) := ⟨_, Lib.hid rfl⟩
  obtain ⟨W1, HW1, HE1, HBW1, HS1', HP1', HZ1⟩ : ∃ W, Hid (W = w1.alloc (.cells (ElV 1 0 0 0 (.slice a1 4 d1) 0 4) 26)) ∧ Hid (ElB W eb 26 1 0 0 0 (.slice a1 4 d1) 0 4) ∧ Hid (Below w.heap.size w W) ∧ Hid (SlI W .i64 (.slice a1 4 d1) [0, 0, 0, 0]) ∧ Hid (∀ k, (Value.slice a1 4 d1).ownBlock = some k → k < eb) ∧ Hid (W.heap.size = eb + 1) :=
    ⟨_, Lib.hid rfl, Lib.hid (by rw [He.out]; exact heap_alloc_new _ _), Lib.hid (HB1.out.alloc HB1.out.size _), Lib.hid (HSx.out.later ((Below.refl _ _).alloc (Nat.le_refl _) _)), Lib.hid (by rw [He.out]; exact HP1.out), Lib.hid (by rw [He.out]; simp)⟩
  rw [← HW1.out, ← He.out]
  have HEW : Hid (w.heap.size ≤ eb) := Lib.hid (by rw [He.out]; exact HB1.out.size)
  clear HW1 He
  go_upto_region 3 with (first
    | ((with_reducible refine at_load 26 _ rfl ?_); refine wpList_load_row rfl 26 _ rfl _ rfl _ (ElV 1 0 0 0 (.slice a1 4 d1) 0 4) (0, 0) _ HE1.out Try.underlying26 rfl info_el ?_)
    | (go_at_call 12; refine (HH1.out _ W1 HS1'.out).mono ?_; rintro e w2 ⟨v2, rfl, s2, p2, b2⟩; obtain ⟨a2, d2, rfl⟩ := s2.shape; have HS2 := Lib.hid s2; have HB2 := Lib.hid b2; have HE2 : Hid (ElB w2 eb 26 1 0 0 0 (.slice a1 4 d1) 0 4) := Lib.hid (HE1.out.later b2); have HEa : Hid ((w2.alloc (.cells #[.int .i64 0, .int .i64 0] 34)).heap[eb]? = some (.cells (ElV 1 0 0 0 (.slice a1 4 d1) 0 4) 26 (0, 0))) := Lib.hid ((heap_alloc_old _ _ _ HE2.out.lt).trans HE2.out); have HPa : Hid (∀ k, (Value.slice a2 4 d2).ownBlock = some k → k ≠ eb ∧ k < w2.heap.size) := Lib.hid (fun k h => ⟨by rcases p2 k h with h3 | ⟨h3, -⟩ <;> first | (have := HP1'.out k h3; omega) | (have := HZ1.out; omega), s2.blt (by simp) k h⟩); have HOa : Hid (((w2.alloc (.cells #[.int .i64 0, .int .i64 0] 34)).setRow eb (ElV 1 0 0 0 (.slice a2 4 d2) 0 4)).heap[w2.heap.size]? = some (.cells #[.int .i64 0, .int .i64 0] 34 (0, 0))) := Lib.hid ((setRow_other _ _ _ _ (Nat.ne_of_gt HE2.out.lt)).trans (heap_alloc_new _ _)); clear s2 b2 p2)
    | ((with_reducible refine at_store 26 _ _ rfl ?_); refine wpList_store_row rfl 26 _ _ rfl eb (ElV 1 0 0 0 (.slice a2 4 d2) 0 4) rfl rfl 26 _ HEa.out info_el rfl ElV_one ?_)
    | ((with_reducible refine at_store 34 _ _ rfl ?_); refine wpList_store_same rfl 34 _ _ rfl _ #[.int .i64 0, .int .i64 0] rfl rfl 34 HOa.out info_out out_one ?_))
  obtain ⟨ob, Hob⟩ : ∃ ob, Hid (ob = w2.heap.size) := ⟨_, Lib.hid rfl⟩
  rw [← Hob.out] at HOa HPa
  have HNE : Hid (ob ≠ eb) := Lib.hid (by rw [Hob.out]; exact Nat.ne_of_gt HE2.out.lt)
  obtain ⟨W2, HW2, HE3, HO3, HS3, HP3, HB3⟩ : ∃ W, Hid (W = (w2.alloc (.cells #[.int .i64 0, .int .i64 0] 34)).setRow eb (ElV 1 0 0 0 (.slice a2 4 d2) 0 4)) ∧ Hid (ElB W eb 26 1 0 0 0 (.slice a2 4 d2) 0 4) ∧ Hid (OutB W ob 34 0 0) ∧ Hid (SlI W .i64 (.slice a2 4 d2) [0, 3, 0, 0]) ∧ Hid (∀ k, (Value.slice a2 4 d2).ownBlock = some k → k ≠ eb ∧ k ≠ ob ∧ k < W.heap.size) ∧ Hid (Below w.heap.size w W) :=
    ⟨_, Lib.hid rfl, Lib.hid (setRow_heap _ _ _ _ _ _ HEa.out), HOa,
      Lib.hid (HS2.out.kept (S := fun k => k = eb) (((Kept.refl (fun k => k = eb) _).new _).row (show (fun k => k = eb) eb from rfl) _) (fun b h => (HPa.out b h).1)),
      Lib.hid (fun k h => ⟨(HPa.out k h).1, Nat.ne_of_lt (HPa.out k h).2, by have := (HPa.out k h).2; rw [Hob.out] at this; simp; omega⟩),
      Lib.hid ((((Kept.of (HBW1.out.trans (HB2.out.mono HBW1.out.size))).new _).row (S := fun k => w.heap.size ≤ k) HEW.out _).below (Nat.le_refl _) (fun k h => h))⟩
  rw [← HW2.out, ← Hob.out]
  clear HW2 Hob HE1 HBW1 HS1' HP1' HZ1 HE2 HEa HPa HOa HS2 HB2
  go_upto_region 4 with (first
    | ((with_reducible refine at_load 26 _ rfl ?_); refine wpList_load_row rfl 26 _ rfl _ rfl _ (ElV 1 0 0 0 (.slice a2 4 d2) 0 4) (0, 0) _ HE3.out Try.underlying26 rfl info_el ?_)
    | (go_at_call 12; refine (HH2.out _ W2 HS3.out).mono ?_; rintro e w3 ⟨v3, rfl, s3, p3, b3⟩; obtain ⟨a3, d3, rfl⟩ := s3.shape; have HB4 := Lib.hid b3; have HE4 : Hid (ElB w3 eb 26 1 0 0 0 (.slice a2 4 d2) 0 4) := Lib.hid (HE3.out.later b3); have HO4 : Hid (OutB w3 ob 34 0 0) := Lib.hid (HO3.out.later b3); have HEa : Hid ((w3.alloc (.cells #[.int .i64 0, .int .i64 0] 34)).heap[eb]? = some (.cells (ElV 1 0 0 0 (.slice a2 4 d2) 0 4) 26 (0, 0))) := Lib.hid ((heap_alloc_old _ _ _ HE4.out.lt).trans HE4.out); have HOa : Hid (((w3.alloc (.cells #[.int .i64 0, .int .i64 0] 34)).setRow eb (ElV 1 0 0 3 (.slice a3 4 d3) 0 4)).heap[w3.heap.size]? = some (.cells #[.int .i64 0, .int .i64 0] 34 (0, 0))) := Lib.hid ((setRow_other _ _ _ _ (Nat.ne_of_gt HE4.out.lt)).trans (heap_alloc_new _ _)); clear s3 b3 p3)
    | ((with_reducible refine at_store 26 _ _ rfl ?_); refine wpList_store_row rfl 26 _ _ rfl eb (ElV 1 0 0 3 (.slice a3 4 d3) 0 4) rfl rfl 26 _ HEa.out info_el rfl ElV_one ?_)
    | ((with_reducible refine at_store 34 _ _ rfl ?_); refine wpList_store_row rfl 34 _ _ rfl _ #[.int .i64 3, .int .i64 3] rfl rfl 34 _ HOa.out info_out rfl out_one ?_))
  obtain ⟨pb, Hpb⟩ : ∃ pb, Hid (pb = w3.heap.size) := ⟨_, Lib.hid rfl⟩
  rw [← Hpb.out] at HOa
  obtain ⟨W3, HW3, HE5, HO5, HP5, HB5⟩ : ∃ W, Hid (W = ((w3.alloc (.cells #[.int .i64 0, .int .i64 0] 34)).setRow eb (ElV 1 0 0 3 (.slice a3 4 d3) 0 4)).setRow pb #[.int .i64 3, .int .i64 3]) ∧ Hid (ElB W eb 26 1 0 0 3 (.slice a3 4 d3) 0 4) ∧ Hid (OutB W ob 34 0 0) ∧ Hid (OutB W pb 34 3 3) ∧ Hid (Below w.heap.size w W) :=
    ⟨_, Lib.hid rfl, Lib.hid ((setRow_other _ _ _ _ (by rw [Hpb.out]; exact Nat.ne_of_lt HE4.out.lt)).trans (setRow_heap _ _ _ _ _ _ HEa.out)),
      Lib.hid ((setRow_other _ _ _ _ (by rw [Hpb.out]; exact Nat.ne_of_lt HO4.out.lt)).trans ((setRow_other _ _ _ _ HNE.out).trans ((heap_alloc_old _ _ _ HO4.out.lt).trans HO4.out))),
      Lib.hid (setRow_heap _ _ _ _ _ _ HOa.out),
      Lib.hid ((((Kept.of (HB3.out.trans (HB4.out.mono HB3.out.size))).new _).row (S := fun k => w.heap.size ≤ k) HEW.out _).row (S := fun k => w.heap.size ≤ k) (by have h1 := HB3.out.size; have h2 := HB4.out.size; rw [Hpb.out]; exact Nat.le_trans h1 h2) _ |>.below (Nat.le_refl _) (fun k h => h))⟩
  rw [← Hpb.out, ← HW3.out]
  clear HW3 Hpb HE3 HO3 HS3 HP3 HB3 HE4 HO4 HEa HOa HB4
  try simp only [Act.put]
  obtain ⟨c0, c1, c2, c3, c4, c5, c6⟩ := HE5.out.cells
  obtain ⟨e0, e1⟩ := HO5.out.cells
  obtain ⟨f0, f1⟩ := HP5.out.cells
  have HSL : Hid (SlI (W3.alloc (.cells #[.int .i64 1, .int .i64 5, .int .i64 3] 3)) .i64 (.slice (some ⟨W3.heap.size, 0, none⟩) 3 3) [1, 5, 3]) := Lib.hid (RowI.sl (n := 3) (cap := 3) (show RowI (W3.alloc (.cells #[.int .i64 1, .int .i64 5, .int .i64 3] 3)) W3.heap.size 3 .i64 [1, 5, 3] from RowI.made W3 _ .i64 [1, 5, 3] _ rfl) (by decide) (by decide) (by decide))
  have HB6 : Hid (Below w.heap.size w (W3.alloc (.cells #[.int .i64 1, .int .i64 5, .int .i64 3] 3))) := Lib.hid (HB5.out.alloc HB5.out.size _)
  go_wp2_with (go_at_call 17; refine (HNT.out _ _ HSL.out).mono ?_; rintro e w4 ⟨rfl, b4⟩; have HB7 := Lib.hid (HB6.out.trans (b4.mono HB6.out.size)); clear b4)
  go_ret
  exact ⟨rfl, HB7.out⟩
end Go.Proofs.Ytgkhgjoggkcklaa

/- The walk of elect.New. -/
import Derived.Test.YtgkhgjoggkcklaaEHear
import Derived.Test.YtgkhgjoggkcklaaAt
import Derived.Test.YtgkhgjoggkcklaaVar
namespace Go.Proofs.Ytgkhgjoggkcklaa
open Go Go.RowKit
set_option maxRecDepth 100000
set_option maxHeartbeats 2000000

def newOk (F T me : Int) : Bool := rightS F T && decide (0 ≤ me ∧ me < 3 * F + 2 * T + 1)
theorem make64 (w : World) (c : Nat) (b : Int) (hb : b = c) (hc : c ≤ 1000000) :
    (Instr.makeSlice 24 (.int .i64 b) (.int .i64 b)).run Try.prog w = .ok (.slice (some ⟨w.heap.size, 0, none⟩) c c) (w.alloc (.cells (IV .i64 (List.replicate c 0)).toArray 3)) := by
  obtain ⟨i0, hi, hz0, hz1, hz2⟩ := info_parts info_int
  subst hb
  have h := run_make (P := Try.prog) w 24 3 i0 (.int .i64 0) Try.underlying24 hi hz0 .i64 .i64 c c (by omega) (by omega) (by rw [hz2]; omega) (by omega)
  rw [h]
  congr 4
  rw [hz1]
  apply Array.ext
  · simp [madeCells, IV]
  · intro k h1 h2
    simp [madeCells, Value.cells, Nat.mod_one, IV]
theorem made64 (w : World) (c : Nat) (hc : c ≤ 1000000) : SlI (w.alloc (.cells (IV .i64 (List.replicate c 0)).toArray 3)) .i64 (.slice (some ⟨w.heap.size, 0, none⟩) c c) (List.replicate c 0) :=
  RowI.sl (RowI.made w 3 .i64 (List.replicate c 0) _ rfl) (by simp) (Nat.le_refl _) (by simp [maxLen]; omega)
theorem built_el (F T me : Int) (b n c : Nat) : Try.prog.built 26 [(0, .agg (SizeV F T)), (1, .int .i64 me), (3, .slice (some ⟨b, 0, none⟩) n c), (5, .int .i64 4)] = some (ElV F T me 0 (.slice (some ⟨b, 0, none⟩) n c) 0 4) := by kernel_rfl
namespace Wild
def Ent.made (B : Nat) (l : List Int) : Ent := ⟨fun v => ∃ b, B ≤ b ∧ v = .slice (some ⟨b, 0, none⟩) l.length l.length, .slice (some ⟨B, 0, none⟩) l.length l.length, fun v w => SlI w .i64 v l, fun _ _ _ h hb => h.later hb, ⟨B, Nat.le_refl _, rfl⟩⟩
theorem walk_built {P : Program} {ops : Array Oper} {C : World → Prop} {G : World → World → Prop} {S : Wild.Spec} {vs : Nat → Value} {Q : Act → Prop} {rest : List Oper} {o : Oper} {k : Nat} {a : Act}
    (t : TypeId) (parts : List (Nat × Operand)) (hp : S.pure k = none) (hw : Region.wanted o (yielded ops a.tmps) = true) (ho : o.op = .build t parts.toArray)
    (vals : List (Nat × Value)) (hv : parts.map (fun x => (x.1, a.eval x.2)) = vals) (cells : Array Value) (hc : P.built t vals = some cells)
    (h : Wild.walk P ops C G S vs Q rest (k + 1) (a.put o.dst (.agg cells))) : Wild.walk P ops C G S vs Q (o :: rest) k a :=
  Wild.walk_run _ hp hw (fun w' _ => by
    subst hv
    unfold execOp
    have e : (parts.toArray.map fun (i, x) => (i, a.eval x)).toList = parts.map (fun x => (x.1, a.eval x.2)) := by simp
    simp only [ho, Sem.run_bind, run_build w' t _ cells (by rw [e]; exact hc), Result.andThen_ok]
    rfl) h
end Wild
theorem Kept.row {S : Nat → Prop} {a b : World} (h : Kept S a b) {p : Nat} (hp : S p) (cs : Array Value) : Kept S a (b.setRow p cs) :=
  ⟨h.os, h.tape, h.output, by simpa using h.size, fun k hk hs => (setRow_other _ _ _ _ (fun e => hs (by rw [e]; exact hp))).trans (h.block k hk hs)⟩
theorem results_cell_el {P : Program} {fn : Func} {p u : Tmp} {ty : TypeId} (h : fn.results = #[.cell p ty, .tmp u]) (tmps : Array Value) (w : World) (g : Nat) (t : TypeId) (cs : Array Value) (fr : Nat × Nat) (d : TypeDesc)
    (hp : tmps.getD p undef = .pointer (some ⟨g, 0, none⟩)) (hg : w.heap[g]? = some (.cells cs t fr)) (hu : P.underlying ty = some d) (hd : d.isRow = true) (hi : (P.info? ty).map (·.size) = some cs.size) :
    (results fn tmps).run P w = .ok (.tuple #[.agg cs, tmps.getD u undef]) w := by
  have hp' : tmps[p]?.getD undef = .pointer (some ⟨g, 0, none⟩) := by simpa using hp
  simp [results, h, hp', asAddr, run_loadVar_row w g t ty cs fr d hg hu (by cases d <;> simp_all [TypeDesc.isRow]) hi]

theorem New_any (F T me : Int) (w : World) : Calls Try.prog 24 #[.agg (SizeV F T), .int .i64 me] w fun e w' => ∃ vv, e = .returned (.tuple #[.agg (if newOk F T me then ElV F T me 0 vv 0 4 else ElV 0 0 0 0 (.slice none 0 0) 0 0), .int .i64 (if newOk F T me then 0 else 1)]) ∧ (newOk F T me = true → SlI w' .i64 vv (List.replicate (3 * F + 2 * T + 1).toNat 0) ∧ ∀ k, vv.ownBlock = some k → w.heap.size ≤ k) ∧ Below w.heap.size w w' := by
  obtain ⟨W0, HW0, HB0, HS0, HE0⟩ : ∃ V, Hid (V = w.alloc (.cells (SizeV F T) 23)) ∧ Hid (Below w.heap.size w V) ∧ Hid (V.heap.size = w.heap.size + 1) ∧ Hid (V.heap[w.heap.size]? = some (.cells (SizeV F T) 23 (0, 0))) := ⟨_, Lib.hid rfl, Lib.hid ((Below.refl _ _).alloc (Nat.le_refl _) _), Lib.hid (by simp), Lib.hid (heap_alloc_new _ _)⟩
  obtain ⟨V, HV, HB, HS, HE, HR⟩ : ∃ V, Hid (V = W0.alloc (.cells (ElV 0 0 0 0 (.slice none 0 0) 0 0) 26)) ∧ Hid (Below w.heap.size w V) ∧ Hid (V.heap.size = w.heap.size + 2) ∧ Hid (V.heap[w.heap.size]? = some (.cells (SizeV F T) 23 (0, 0))) ∧ Hid (V.heap[w.heap.size + 1]? = some (.cells (ElV 0 0 0 0 (.slice none 0 0) 0 0) 26 (0, 0))) :=
    ⟨_, Lib.hid rfl, Lib.hid (HB0.out.alloc HB0.out.size _), Lib.hid (by simp [HS0.out]), Lib.hid ((heap_alloc_old _ _ _ (by rw [HS0.out]; omega)).trans HE0.out), Lib.hid (by rw [← HS0.out]; exact heap_alloc_new _ _)⟩
  have HRS := Lib.hid (fun w' => Right_size F T w')
  have IS : (Try.prog.info? 23).map (·.size) = some (SizeV F T).size := info_size
  by_cases hok : newOk F T me = true
  · simp only [hok, if_true, forall_const]
    obtain ⟨h1, h2⟩ : rightS F T = true ∧ (0 ≤ me ∧ me < 3 * F + 2 * T + 1) := by simpa [newOk] using hok
    have hR := (rightS_iff F T).1 h1
    have HNN := Lib.hid (fun w' => N_any F T w' hR)
    obtain ⟨N, HN⟩ : ∃ N : Nat, Hid (3 * F + 2 * T + 1 = N) := ⟨(3 * F + 2 * T + 1).toNat, Lib.hid (by obtain ⟨r1, r2, r3, r4⟩ := hR; omega)⟩
    have HNB : Hid (N ≤ 1000) := Lib.hid (by have := HN.out; obtain ⟨r1, r2, r3, r4⟩ := hR; omega)
    rw [h1] at HRS
    rw [HN.out] at HNN h2 ⊢
    obtain ⟨h2, h3⟩ := h2
    have hm1 : decide (me < 0) = false := by rw [decide_eq_false_iff_not]; omega
    have hm2 : decide ((N : Int) ≤ me) = false := by rw [decide_eq_false_iff_not]; omega
    have hNb := HNB.out
    rw [Int.toNat_natCast]
    clear hok h1 hR
    go_enter Try.func24, Try.ntmps24
    go_upto_region 1 with (fail)
    rw [← HW0.out]
    change Code.wp _ _ _ _ (W0.alloc (.cells (ElV 0 0 0 0 (.slice none 0 0) 0 0) 26))
    rw [← HV.out]
    go_upto_region 3 with (first
      | ((with_reducible refine at_load 23 _ rfl ?_); refine wpList_load_row rfl 23 _ rfl _ rfl _ (SizeV F T) (0, 0) _ HE.out Try.underlying23 rfl IS ?_)
      | (go_at_call 41; refine (HRS.out _).mono ?_; rintro e w1 ⟨rfl, b1⟩; have HB1 := Lib.hid b1; have HE1 : Hid (w1.heap[w.heap.size]? = some (.cells (SizeV F T) 23 (0, 0))) := Lib.hid ((b1.block _ (by rw [HS.out]; omega)).trans HE.out); have k0 : w1.cell? ⟨w.heap.size, 0, none⟩ = some (.int .i64 F) := cell_of_row _ _ 0 _ _ (0, 0) HE1.out; have k1 : w1.cell? ⟨w.heap.size, 1, none⟩ = some (.int .i64 T) := cell_of_row _ _ 1 _ _ (0, 0) HE1.out; clear b1)
      | (go_at_call 42; refine (HNN.out _).mono ?_; rintro e w2 ⟨rfl, b2⟩; have HB2 := Lib.hid b2; have HE2 := Lib.hid ((b2.block _ (Array.getElem?_eq_some_iff.1 HE1.out).1).trans HE1.out); clear b2))
    refine Wild.region_tail2_b 6 (fun k => match k with | 3 => some (.fix (.int .i64 N)) | 4 => some (.made w2.heap.size (List.replicate N 0)) | _ => none) (fun _ => []) rfl rfl rfl rfl rfl (by kernel_rfl) (by kernel_rfl) (by kernel_rfl) (by kernel_rfl) (fun vs hvs => ?_)
    have h3' : vs 3 = .int .i64 N := hvs 3 _ rfl
    obtain ⟨gb, hgb, h4'⟩ := hvs 4 _ rfl
    rw [List.length_replicate] at h4'
    simp only [List.take_succ_cons, List.take_zero]
    refine Wild.walk_load 23 _ _ _ [.int .i64 F, .int .i64 T] _ rfl (by rfl) rfl rfl (fun w' hw => rangeAt_row (cs := [.int .i64 F, .int .i64 T]) ((hw.1.block _ (Array.getElem?_eq_some_iff.1 HE2.out).1).trans HE2.out)) Try.underlying23 rfl info_size ?_
    simp only [Act.put, List.setIfInBounds_toArray, List.set_cons_zero, List.set_cons_succ]
    repeat (refine Wild.walk_simple rfl (by rfl) (by rfl) (fun K hK => ?_); go_big_quiet_op; first | (refine hK _ ?_; clear hK K) | (refine ⟨_, fun _ _ => rfl, hK _ ?_⟩; clear hK K))
    refine Wild.walk_load 23 _ _ _ [.int .i64 F, .int .i64 T] _ rfl (by rfl) rfl rfl (fun w' hw => rangeAt_row (cs := [.int .i64 F, .int .i64 T]) ((hw.1.block _ (Array.getElem?_eq_some_iff.1 HE2.out).1).trans HE2.out)) Try.underlying23 rfl info_size ?_
    simp only [Act.put, List.setIfInBounds_toArray, List.set_cons_zero, List.set_cons_succ]
    refine Wild.walk_wild _ rfl (by rfl) (fun w' hw K hK => ?_) ?_
    · go_simp
      go_at_call 42
      refine (HNN.out w').mono ?_
      rintro e w'' ⟨rfl, hb⟩
      exact hK.out _ _ (hw.1.trans (hb.mono hw.1.size)) hb rfl trivial
    rw [h3']
    simp only [Act.put, List.setIfInBounds_toArray, List.set_cons_zero, List.set_cons_succ]
    refine Wild.walk_wild _ rfl (by rfl) (fun w' hw K hK => ?_) ?_
    · have hm := make64 w' N (N : Int) rfl (by omega)
      go_simp
      refine hK.out _ _ (hw.1.alloc hw.1.size _) ((Below.refl _ _).alloc (Nat.le_refl _) _) ⟨w'.heap.size, hw.1.size, by rw [List.length_replicate]⟩ (made64 w' N (by omega))
    rw [h4']
    simp only [Act.put, List.setIfInBounds_toArray, List.set_cons_zero, List.set_cons_succ]
    refine Wild.walk_built 26 [(0, .tmp 20), (1, .tmp 21), (3, .tmp 24), (5, .const (.int .i64 4))] rfl (by rfl) rfl [(0, .agg (SizeV F T)), (1, .int .i64 me), (3, .slice (some ⟨gb, 0, none⟩) N N), (5, .int .i64 4)] rfl _ (built_el F T me gb N N) ?_
    simp only [Act.put, List.setIfInBounds_toArray, List.set_cons_zero, List.set_cons_succ]
    refine Wild.walk_nil ?_
    intro w7 hw7 hf7
    have hs7 : SlI w7 .i64 (.slice (some ⟨gb, 0, none⟩) N N) (List.replicate N 0) := by have := hf7 4 _ rfl (by decide); rw [h4'] at this; exact this
    have hb7 : Below w2.heap.size w2 w7 := hw7
    have HBx := Lib.hid (HB.out.trans (HB1.out.trans (HB2.out.mono HB1.out.size) |>.mono (by rw [HS.out]; omega)))
    have HR2 : Hid (w2.heap[w.heap.size + 1]? = some (.cells (ElV 0 0 0 0 (.slice none 0 0) 0 0) 26 (0, 0))) := Lib.hid (((HB1.out.trans (HB2.out.mono HB1.out.size)).block _ (by rw [HS.out]; omega)).trans HR.out)
    have hlt := (Array.getElem?_eq_some_iff.1 HR2.out).1
    have hr7 := (hb7.block _ hlt).trans HR2.out
    refine wp_store_row 26 _ _ rfl (w.heap.size + 1) (ElV F T me 0 (.slice (some ⟨gb, 0, none⟩) N N) 0 4) rfl rfl 26 _ hr7 info_el rfl ElV_one ?_
    have HX9 := Lib.hid (setRow_heap _ _ _ (ElV F T me 0 (.slice (some ⟨gb, 0, none⟩) N N) 0 4) _ _ hr7)
    have HS9 : Hid (SlI (w7.setRow (w.heap.size + 1) (ElV F T me 0 (.slice (some ⟨gb, 0, none⟩) N N) 0 4)) .i64 (.slice (some ⟨gb, 0, none⟩) N N) (List.replicate N 0)) := Lib.hid (hs7.kept ((Kept.refl (· = w.heap.size + 1) w7).row rfl _) (fun b hb e => by
      have e1 : gb = b := Option.some.inj hb
      omega))
    have HB9 := Lib.hid (below_row (B := w.heap.size) (HBx.out.trans (hb7.mono HBx.out.size)) (b := w.heap.size + 1) (by omega) (ElV F T me 0 (.slice (some ⟨gb, 0, none⟩) N N) 0 4))
    clear hs7 hb7 hw7 hf7 hr7 h3' h4' hvs
    go_simp
    go_wp2_with fail
    exact bodyPost_ret (results_cell_el rfl _ _ (w.heap.size + 1) 26 _ (0, 0) _ rfl HX9.out Try.underlying26 rfl info_el) rfl ⟨_, rfl, ⟨HS9.out, fun b hb => by
      have e1 : gb = b := Option.some.inj hb
      have := HBx.out.size
      omega⟩, HB9.out⟩
  · have hok' : newOk F T me = false := by simpa using hok
    simp only [hok', Bool.false_eq_true, if_false, false_implies, true_and, exists_const]
    have HZB : ∀ w, (Instr.build 26 #[]).run Try.prog w = .ok (.agg (ElV 0 0 0 0 (.slice none 0 0) 0 0)) w := fun w => by kernel_rfl
    obtain ⟨b, Hb⟩ : ∃ b, Hid (b = rightS F T) := ⟨_, Lib.hid rfl⟩
    rw [← Hb.out] at HRS
    have HNN := Lib.hid (fun w' hR => N_any F T w' hR)
    have HIF := Lib.hid (rightS_iff F T)
    have hcond : b = true → ¬ (0 ≤ me ∧ me < 3 * F + 2 * T + 1) := fun hb h => by
      rw [Hb.out] at hb
      rw [newOk, hb, decide_eq_true h] at hok'
      cases hok'
    clear hok hok'
    cases b
    · clear hcond
      go_enter Try.func24, Try.ntmps24
      go_upto_region 1 with (fail)
      rw [← HW0.out]
      change Code.wp _ _ _ _ (W0.alloc (.cells (ElV 0 0 0 0 (.slice none 0 0) 0 0) 26))
      rw [← HV.out]
      go_wp2_with (first
        | ((with_reducible refine at_load 23 _ rfl ?_); refine wpList_load_row rfl 23 _ rfl _ rfl _ (SizeV F T) (0, 0) _ HE.out Try.underlying23 rfl IS ?_)
        | (go_at_call 41; refine (HRS.out _).mono ?_; rintro e w1 ⟨rfl, b1⟩; have HB1 := Lib.hid b1; have HR1 := Lib.hid ((b1.block _ (by rw [HS.out]; omega)).trans HR.out); clear b1)
        | refine wpList_build0 rfl 26 rfl _ HZB ?_
        | refine wpList_store_same rfl 26 _ _ rfl _ (ElV 0 0 0 0 (.slice none 0 0) 0 0) rfl rfl 26 HR1.out info_el ElV_one ?_)
      exact bodyPost_ret (results_cell_el rfl _ _ (w.heap.size + 1) 26 _ (0, 0) _ rfl HR1.out Try.underlying26 rfl info_el) rfl ⟨rfl, HB.out.trans (HB1.out.mono (by rw [HS.out]; omega))⟩
    · have hR := HIF.out.1 Hb.out.symm
      by_cases hm : me < 0
      · clear hcond
        go_enter Try.func24, Try.ntmps24
        go_upto_region 1 with (fail)
        rw [← HW0.out]
        change Code.wp _ _ _ _ (W0.alloc (.cells (ElV 0 0 0 0 (.slice none 0 0) 0 0) 26))
        rw [← HV.out]
        go_wp2_with (first
          | ((with_reducible refine at_load 23 _ rfl ?_); refine wpList_load_row rfl 23 _ rfl _ rfl _ (SizeV F T) (0, 0) _ HE.out Try.underlying23 rfl IS ?_)
          | (go_at_call 41; refine (HRS.out _).mono ?_; rintro e w1 ⟨rfl, b1⟩; have HB1 := Lib.hid (HB.out.trans (b1.mono (by rw [HS.out]; omega))); have HR1 := Lib.hid ((b1.block _ (by rw [HS.out]; omega)).trans HR.out); have HE1 : Hid (w1.heap[w.heap.size]? = some (.cells (SizeV F T) 23 (0, 0))) := Lib.hid ((b1.block _ (by rw [HS.out]; omega)).trans HE.out); have k0 : w1.cell? ⟨w.heap.size, 0, none⟩ = some (.int .i64 F) := cell_of_row _ _ 0 _ _ (0, 0) HE1.out; have k1 : w1.cell? ⟨w.heap.size, 1, none⟩ = some (.int .i64 T) := cell_of_row _ _ 1 _ _ (0, 0) HE1.out; clear b1)
          | refine wpList_build0 rfl 26 rfl _ HZB ?_
          | refine wpList_store_same rfl 26 _ _ rfl _ (ElV 0 0 0 0 (.slice none 0 0) 0 0) rfl rfl 26 HR1.out info_el ElV_one ?_)
        exact bodyPost_ret (results_cell_el rfl _ _ (w.heap.size + 1) 26 _ (0, 0) _ rfl HR1.out Try.underlying26 rfl info_el) rfl ⟨rfl, HB1.out⟩
      · have hm0 : ¬ me < 0 := hm
        have hm1 : decide (me < 0) = false := by rw [decide_eq_false_iff_not]; exact hm
        have hm2 : decide (3 * F + 2 * T + 1 ≤ me) = true := by
          rw [decide_eq_true_iff]
          have := hcond rfl
          omega
        clear hcond
        go_enter Try.func24, Try.ntmps24
        go_upto_region 1 with (fail)
        rw [← HW0.out]
        change Code.wp _ _ _ _ (W0.alloc (.cells (ElV 0 0 0 0 (.slice none 0 0) 0 0) 26))
        rw [← HV.out]
        go_wp2_with (first
          | ((with_reducible refine at_load 23 _ rfl ?_); refine wpList_load_row rfl 23 _ rfl _ rfl _ (SizeV F T) (0, 0) _ HE.out Try.underlying23 rfl IS ?_)
          | (go_at_call 41; refine (HRS.out _).mono ?_; rintro e w1 ⟨rfl, b1⟩; have HB1 := Lib.hid (HB.out.trans (b1.mono (by rw [HS.out]; omega))); have HR1 := Lib.hid ((b1.block _ (by rw [HS.out]; omega)).trans HR.out); have HE1 : Hid (w1.heap[w.heap.size]? = some (.cells (SizeV F T) 23 (0, 0))) := Lib.hid ((b1.block _ (by rw [HS.out]; omega)).trans HE.out); have k0 : w1.cell? ⟨w.heap.size, 0, none⟩ = some (.int .i64 F) := cell_of_row _ _ 0 _ _ (0, 0) HE1.out; have k1 : w1.cell? ⟨w.heap.size, 1, none⟩ = some (.int .i64 T) := cell_of_row _ _ 1 _ _ (0, 0) HE1.out; clear b1)
          | (go_at_call 42; refine (HNN.out _ hR).mono ?_; rintro e w2 ⟨rfl, b2⟩; have HB2 := Lib.hid (HB1.out.trans (b2.mono HB1.out.size)); have HR2 := Lib.hid ((b2.block _ (Array.getElem?_eq_some_iff.1 HR1.out).1).trans HR1.out); clear b2)
          | refine wpList_build0 rfl 26 rfl _ HZB ?_
          | refine wpList_store_same rfl 26 _ _ rfl _ (ElV 0 0 0 0 (.slice none 0 0) 0 0) rfl rfl 26 HR2.out info_el ElV_one ?_)
        exact bodyPost_ret (results_cell_el rfl _ _ (w.heap.size + 1) 26 _ (0, 0) _ rfl HR2.out Try.underlying26 rfl info_el) rfl ⟨rfl, HB2.out⟩
end Go.Proofs.Ytgkhgjoggkcklaa

/- The walk of the document's Right where the first tests go well, and its contract. -/
import Derived.Test.YtgkhgjoggkcklaaERbad
namespace Go.Proofs.Ytgkhgjoggkcklaa
open Go Go.RowKit
set_option maxRecDepth 100000
set_option maxHeartbeats 4000000

def viewsTo (votes : List Int) (j : Nat) : Prop := ∀ i, i < j → 0 ≤ votes.getD i 0 ∧ votes.getD i 0 ≤ 100000
theorem viewsTo_succ {votes : List Int} {j : Nat} (h : viewsTo votes j) (h2 : 0 ≤ votes.getD j 0 ∧ votes.getD j 0 ≤ 100000) : viewsTo votes (j + 1) := fun i hi => by
  rcases Nat.lt_or_ge i j with h3 | h3
  · exact h i h3
  · obtain rfl : i = j := by omega
    exact h2
theorem viewsTo_all {votes : List Int} (h : viewsTo votes votes.length) : ∀ v ∈ votes, 0 ≤ v ∧ v ≤ 100000 := fun v hv => by
  obtain ⟨i, hi, rfl⟩ := List.getElem_of_mem hv
  have := h i hi
  simpa [hi] using this
def waitAt (k : Nat) : Nat := 2 ^ (k + 2)
theorem waitAt_mem : ∀ k, k < 11 → ((waitAt k : Nat) : Int) ∈ waits := by decide
theorem waitAt_le : ∀ k, k < 11 → waitAt k ≤ 4096 := by decide
theorem waitAt_succ (k : Nat) : waitAt (k + 1) = 2 * waitAt k := by rw [waitAt, waitAt, Nat.pow_succ]; omega
theorem waits_at : ∀ v ∈ waits, ∃ k, k < 11 ∧ v = ((waitAt k : Nat) : Int) := by decide
theorem Right_good (F T me view : Int) (va : Option Addr) (vn vc : Nat) (clock wait : Int) (votes : List Int) (w : World) (hv : SlI w .i64 (.slice va vn vc) votes) (h1 : rightS F T = true) (h2 : 0 ≤ me) (h3 : me < 3 * F + 2 * T + 1) (h4 : (vn : Int) = 3 * F + 2 * T + 1) (h5 : 0 ≤ view) (h6 : view ≤ 100000) (h7 : 0 ≤ clock) :
    Calls Try.prog 9 #[.agg (ElV F T me view (.slice va vn vc) clock wait)] w fun e w' => e = .returned (.bool (decide ((∀ v ∈ votes, 0 ≤ v ∧ v ≤ 100000) ∧ wait ∈ waits))) ∧ Below w.heap.size w w' := by
    obtain ⟨V, HV, HB, HE⟩ : ∃ V, Hid (V = w.alloc (.cells (ElV F T me view (.slice va vn vc) clock wait) 30)) ∧ Hid (Below w.heap.size w V) ∧ Hid (ElB V w.heap.size 30 F T me view (.slice va vn vc) clock wait) := ⟨_, Lib.hid rfl, Lib.hid ((Below.refl _ _).alloc (Nat.le_refl _) _), Lib.hid (heap_alloc_new _ _)⟩
    have HRS := Lib.hid (fun w' => Right_rsize F T w')
    rw [h1] at HRS
    have HNN := Lib.hid (fun w' => N_ref F T w' ((rightS_iff F T).1 h1))
    obtain ⟨b1, b2, b3, b4⟩ := (rightS_iff F T).1 h1
    have HL : Hid (vn = votes.length) := Lib.hid (by obtain ⟨a, c, e⟩ := hv.shape; cases e; rfl)
    have HSV := Lib.hid (hv.later HB.out)
    have d2 : decide (me < 0) = false := by rw [decide_eq_false_iff_not]; omega
    have n2 : ¬ (me < 0) := by omega
    have d3 : decide (3 * F + 2 * T + 1 ≤ me) = false := by rw [decide_eq_false_iff_not]; omega
    have n3 : ¬ (3 * F + 2 * T + 1 ≤ me) := by omega
    have d5 : decide (view < 0) = false := by rw [decide_eq_false_iff_not]; omega
    have n5 : ¬ (view < 0) := by omega
    have d6 : decide (100000 < view) = false := by rw [decide_eq_false_iff_not]; omega
    have n6 : ¬ (100000 < view) := by omega
    have d7 : decide (clock < 0) = false := by rw [decide_eq_false_iff_not]; omega
    have n7 : ¬ (clock < 0) := by omega
    have d4 : ((vn : Int) != 3 * F + 2 * T + 1) = false := by rw [h4]; simp
    have hvn : vn ≤ 100 := by omega
    have hvni : (vn : Int) ≤ 100 := by omega
    obtain ⟨R, HR⟩ : ∃ R : Bool, Hid (R = decide ((∀ v ∈ votes, 0 ≤ v ∧ v ≤ 100000) ∧ wait ∈ waits)) := ⟨_, Lib.hid rfl⟩
    rw [← HR.out]
    clear h1 h2 h3 h4 h5 h6 h7 hv
    go_enter Try.func9, Try.ntmps9
    go_upto_region 1 with (fail)
    rw [← HV.out]
    refine Wild.region_b (fun k => match k with | 2 => some (.fix (.bool true)) | 14 => some (.fix (.int .i64 (3 * F + 2 * T + 1))) | 23 => some (.fix (.int .i64 (3 * F + 2 * T + 1))) | _ => none) (fun _ => []) rfl (by kernel_rfl) (fun vs hvs => ?_)
    have v2 : vs 2 = .bool true := hvs 2 _ rfl
    have v14 : vs 14 = .int .i64 (3 * F + 2 * T + 1) := hvs 14 _ rfl
    have v23 : vs 23 = .int .i64 (3 * F + 2 * T + 1) := hvs 23 _ rfl
    refine Wild.walk_simple rfl (by rfl) (by rfl) (fun K hK => ?_); go_big_quiet_op; first | (refine hK _ ?_; clear hK K) | (refine ⟨_, fun _ _ => rfl, hK _ ?_⟩; clear hK K)
    refine Wild.walk_load 28 _ _ _ [.int .i64 F, .int .i64 T] _ rfl (by rfl) rfl rfl (fun w' hw => el_size (HE.out.later hw.1)) Try.underlying28 rfl info_rsize ?_
    simp only [Act.put, List.setIfInBounds_toArray, List.set_cons_zero, List.set_cons_succ]
    refine Wild.walk_wild _ rfl (by rfl) (fun w' hw K hK => ?_) ?_
    · go_simp
      go_at_call 31
      refine (HRS.out w').mono ?_
      rintro e w'' ⟨rfl, hb⟩
      exact hK.out _ _ (hw.1.trans (hb.mono hw.1.size)) hb rfl trivial
    rw [v2]
    simp only [Act.put, List.setIfInBounds_toArray, List.set_cons_zero, List.set_cons_succ]
    refine Wild.walk_simple rfl (by rfl) (by rfl) (fun K hK => ?_); go_big_quiet_op; first | (refine hK _ ?_; clear hK K) | (refine ⟨_, fun _ _ => rfl, hK _ ?_⟩; clear hK K)
    refine Wild.walk_simple rfl (by rfl) (by rfl) (fun K hK => ?_); go_big_quiet_op; first | (refine hK _ ?_; clear hK K) | (refine ⟨_, fun _ _ => rfl, hK _ ?_⟩; clear hK K)
    refine Wild.walk_simple rfl (by rfl) (by rfl) (fun K hK => ?_); go_big_quiet_op; first | (refine hK _ ?_; clear hK K) | (refine ⟨_, fun _ _ => rfl, hK _ ?_⟩; clear hK K)
    refine Wild.walk_cell 3 _ _ _ (.int .i64 me) _ rfl (by rfl) rfl rfl (fun w' hw => (HE.out.later hw.1).cells.2.2.1) Try.underlying3 rfl ?_
    simp only [Act.put, List.setIfInBounds_toArray, List.set_cons_zero, List.set_cons_succ]
    refine Wild.walk_simple rfl (by rfl) (by rfl) (fun K hK => ?_); go_big_quiet_op; first | (refine hK _ ?_; clear hK K) | (refine ⟨_, fun _ _ => rfl, hK _ ?_⟩; clear hK K)
    refine Wild.walk_simple rfl (by rfl) (by rfl) (fun K hK => ?_); go_big_quiet_op; first | (refine hK _ ?_; clear hK K) | (refine ⟨_, fun _ _ => rfl, hK _ ?_⟩; clear hK K)
    refine Wild.walk_simple rfl (by rfl) (by rfl) (fun K hK => ?_); go_big_quiet_op; first | (refine hK _ ?_; clear hK K) | (refine ⟨_, fun _ _ => rfl, hK _ ?_⟩; clear hK K)
    refine Wild.walk_simple rfl (by rfl) (by rfl) (fun K hK => ?_); go_big_quiet_op; first | (refine hK _ ?_; clear hK K) | (refine ⟨_, fun _ _ => rfl, hK _ ?_⟩; clear hK K)
    refine Wild.walk_cell 3 _ _ _ (.int .i64 me) _ rfl (by rfl) rfl rfl (fun w' hw => (HE.out.later hw.1).cells.2.2.1) Try.underlying3 rfl ?_
    simp only [Act.put, List.setIfInBounds_toArray, List.set_cons_zero, List.set_cons_succ]
    refine Wild.walk_simple rfl (by rfl) (by rfl) (fun K hK => ?_); go_big_quiet_op; first | (refine hK _ ?_; clear hK K) | (refine ⟨_, fun _ _ => rfl, hK _ ?_⟩; clear hK K)
    refine Wild.walk_load 28 _ _ _ [.int .i64 F, .int .i64 T] _ rfl (by rfl) rfl rfl (fun w' hw => el_size (HE.out.later hw.1)) Try.underlying28 rfl info_rsize ?_
    simp only [Act.put, List.setIfInBounds_toArray, List.set_cons_zero, List.set_cons_succ]
    refine Wild.walk_wild _ rfl (by rfl) (fun w' hw K hK => ?_) ?_
    · go_simp
      go_at_call 32
      refine (HNN.out w').mono ?_
      rintro e w'' ⟨rfl, hb⟩
      exact hK.out _ _ (hw.1.trans (hb.mono hw.1.size)) hb rfl trivial
    rw [v14]
    simp only [Act.put, List.setIfInBounds_toArray, List.set_cons_zero, List.set_cons_succ]
    refine Wild.walk_simple rfl (by rfl) (by rfl) (fun K hK => ?_); go_big_quiet_op; first | (refine hK _ ?_; clear hK K) | (refine ⟨_, fun _ _ => rfl, hK _ ?_⟩; clear hK K)
    refine Wild.walk_simple rfl (by rfl) (by rfl) (fun K hK => ?_); go_big_quiet_op; first | (refine hK _ ?_; clear hK K) | (refine ⟨_, fun _ _ => rfl, hK _ ?_⟩; clear hK K)
    refine Wild.walk_simple rfl (by rfl) (by rfl) (fun K hK => ?_); go_big_quiet_op; first | (refine hK _ ?_; clear hK K) | (refine ⟨_, fun _ _ => rfl, hK _ ?_⟩; clear hK K)
    refine Wild.walk_simple rfl (by rfl) (by rfl) (fun K hK => ?_); go_big_quiet_op; first | (refine hK _ ?_; clear hK K) | (refine ⟨_, fun _ _ => rfl, hK _ ?_⟩; clear hK K)
    refine Wild.walk_cell 24 _ _ _ (.slice va vn vc) _ rfl (by rfl) rfl rfl (fun w' hw => (HE.out.later hw.1).cells.2.2.2.2.1) Try.underlying24 rfl ?_
    simp only [Act.put, List.setIfInBounds_toArray, List.set_cons_zero, List.set_cons_succ]
    refine Wild.walk_run (.int .i64 vn) rfl (by rfl) (fun w' _ => by unfold execOp; go_simp) ?_
    simp only [Act.put, List.setIfInBounds_toArray, List.set_cons_zero, List.set_cons_succ]
    refine Wild.walk_simple rfl (by rfl) (by rfl) (fun K hK => ?_); go_big_quiet_op; first | (refine hK _ ?_; clear hK K) | (refine ⟨_, fun _ _ => rfl, hK _ ?_⟩; clear hK K)
    refine Wild.walk_load 28 _ _ _ [.int .i64 F, .int .i64 T] _ rfl (by rfl) rfl rfl (fun w' hw => el_size (HE.out.later hw.1)) Try.underlying28 rfl info_rsize ?_
    simp only [Act.put, List.setIfInBounds_toArray, List.set_cons_zero, List.set_cons_succ]
    refine Wild.walk_wild _ rfl (by rfl) (fun w' hw K hK => ?_) ?_
    · go_simp
      go_at_call 32
      refine (HNN.out w').mono ?_
      rintro e w'' ⟨rfl, hb⟩
      exact hK.out _ _ (hw.1.trans (hb.mono hw.1.size)) hb rfl trivial
    rw [v23]
    simp only [Act.put, List.setIfInBounds_toArray, List.set_cons_zero, List.set_cons_succ]
    refine Wild.walk_simple rfl (by rfl) (by rfl) (fun K hK => ?_); go_big_quiet_op; first | (refine hK _ ?_; clear hK K) | (refine ⟨_, fun _ _ => rfl, hK _ ?_⟩; clear hK K)
    refine Wild.walk_simple rfl (by rfl) (by rfl) (fun K hK => ?_); go_big_quiet_op; first | (refine hK _ ?_; clear hK K) | (refine ⟨_, fun _ _ => rfl, hK _ ?_⟩; clear hK K)
    refine Wild.walk_simple rfl (by rfl) (by rfl) (fun K hK => ?_); go_big_quiet_op; first | (refine hK _ ?_; clear hK K) | (refine ⟨_, fun _ _ => rfl, hK _ ?_⟩; clear hK K)
    refine Wild.walk_simple rfl (by rfl) (by rfl) (fun K hK => ?_); go_big_quiet_op; first | (refine hK _ ?_; clear hK K) | (refine ⟨_, fun _ _ => rfl, hK _ ?_⟩; clear hK K)
    refine Wild.walk_cell 3 _ _ _ (.int .i64 view) _ rfl (by rfl) rfl rfl (fun w' hw => (HE.out.later hw.1).cells.2.2.2.1) Try.underlying3 rfl ?_
    simp only [Act.put, List.setIfInBounds_toArray, List.set_cons_zero, List.set_cons_succ]
    refine Wild.walk_simple rfl (by rfl) (by rfl) (fun K hK => ?_); go_big_quiet_op; first | (refine hK _ ?_; clear hK K) | (refine ⟨_, fun _ _ => rfl, hK _ ?_⟩; clear hK K)
    refine Wild.walk_simple rfl (by rfl) (by rfl) (fun K hK => ?_); go_big_quiet_op; first | (refine hK _ ?_; clear hK K) | (refine ⟨_, fun _ _ => rfl, hK _ ?_⟩; clear hK K)
    refine Wild.walk_simple rfl (by rfl) (by rfl) (fun K hK => ?_); go_big_quiet_op; first | (refine hK _ ?_; clear hK K) | (refine ⟨_, fun _ _ => rfl, hK _ ?_⟩; clear hK K)
    refine Wild.walk_simple rfl (by rfl) (by rfl) (fun K hK => ?_); go_big_quiet_op; first | (refine hK _ ?_; clear hK K) | (refine ⟨_, fun _ _ => rfl, hK _ ?_⟩; clear hK K)
    refine Wild.walk_cell 3 _ _ _ (.int .i64 view) _ rfl (by rfl) rfl rfl (fun w' hw => (HE.out.later hw.1).cells.2.2.2.1) Try.underlying3 rfl ?_
    simp only [Act.put, List.setIfInBounds_toArray, List.set_cons_zero, List.set_cons_succ]
    refine Wild.walk_simple rfl (by rfl) (by rfl) (fun K hK => ?_); go_big_quiet_op; first | (refine hK _ ?_; clear hK K) | (refine ⟨_, fun _ _ => rfl, hK _ ?_⟩; clear hK K)
    refine Wild.walk_simple rfl (by rfl) (by rfl) (fun K hK => ?_); go_big_quiet_op; first | (refine hK _ ?_; clear hK K) | (refine ⟨_, fun _ _ => rfl, hK _ ?_⟩; clear hK K)
    refine Wild.walk_simple rfl (by rfl) (by rfl) (fun K hK => ?_); go_big_quiet_op; first | (refine hK _ ?_; clear hK K) | (refine ⟨_, fun _ _ => rfl, hK _ ?_⟩; clear hK K)
    refine Wild.walk_simple rfl (by rfl) (by rfl) (fun K hK => ?_); go_big_quiet_op; first | (refine hK _ ?_; clear hK K) | (refine ⟨_, fun _ _ => rfl, hK _ ?_⟩; clear hK K)
    refine Wild.walk_cell 3 _ _ _ (.int .i64 clock) _ rfl (by rfl) rfl rfl (fun w' hw => (HE.out.later hw.1).cells.2.2.2.2.2.1) Try.underlying3 rfl ?_
    simp only [Act.put, List.setIfInBounds_toArray, List.set_cons_zero, List.set_cons_succ]
    refine Wild.walk_simple rfl (by rfl) (by rfl) (fun K hK => ?_); go_big_quiet_op; first | (refine hK _ ?_; clear hK K) | (refine ⟨_, fun _ _ => rfl, hK _ ?_⟩; clear hK K)
    refine Wild.walk_simple rfl (by rfl) (by rfl) (fun K hK => ?_); go_big_quiet_op; first | (refine hK _ ?_; clear hK K) | (refine ⟨_, fun _ _ => rfl, hK _ ?_⟩; clear hK K)
    refine Wild.walk_nil ?_
    intro w1 hw1 hf1
    have HB1 := Lib.hid (HB.out.trans (Below.mono hw1 HB.out.size))
    have HE1 := Lib.hid (HE.out.later hw1)
    have HBw : Hid (Below V.heap.size V w1) := Lib.hid hw1
    clear hw1 hf1 hvs
    obtain ⟨c0, c1, c2, c3, c4, c5, c6⟩ := HE1.out.cells
    have HV1 := Lib.hid (HSV.out.later HBw.out)
    clear HV HE HSV HBw
    go_upto_region 4 with (fail)
    go_loop [3] (fun i => ∃ j : Nat, j ≤ vn ∧ i = .int .i64 j ∧ Hid (viewsTo votes j)) (fun i => vn - (intOf i).toNat)
    case atStart => exact ⟨0, by omega, rfl, Lib.hid (fun i hi => absurd hi (by omega))⟩
    case round =>
      obtain ⟨j, hj, rfl, HJ⟩ := hrel
      by_cases hlt : j < vn
      · obtain ⟨b, o, rfl, -, q, cl⟩ := HV1.out.cellAt (i := j) (by rw [← HL.out]; exact hlt)
        have d1 := cl j (by rw [← HL.out]; exact hlt)
        rw [← HL.out] at q
        have hlt' : (j : Int) < vn := by omega
        have HJ' := Lib.hid (viewsTo_succ HJ.out)
        have HM : Hid (votes.getD j 0 ∈ votes) := Lib.hid (by have hj2 : j < votes.length := by { rw [← HL.out]; exact hlt }
                                                              simp [hj2])
        have HRR : Hid (¬ (0 ≤ votes.getD j 0 ∧ votes.getD j 0 ≤ 100000) → R = false) := Lib.hid (fun h => by
          rw [HR.out, decide_eq_false_iff_not]
          exact fun h8 => h (h8.1 _ HM.out))
        generalize votes.getD j 0 = z at d1 HJ' HRR
        clear cl HJ HM
        by_cases hz : z < 0
        · obtain rfl := HRR.out (by omega)
          go_wp2_with fail
          go_ret
          exact ⟨rfl, HB1.out⟩
        · have hz1 : decide (z < 0) = false := by rw [decide_eq_false_iff_not]; exact hz
          by_cases hz2 : 100000 < z
          · obtain rfl := HRR.out (by omega)
            go_wp2_with fail
            go_ret
            exact ⟨rfl, HB1.out⟩
          · have HJ2 := Lib.hid (HJ'.out ⟨by omega, by omega⟩)
            go_wp2_with fail
            go_round
            case rel => exact ⟨j + 1, by omega, by go_num, HJ2⟩
            case measure => simp [intOf]; omega
      · obtain rfl : j = vn := by omega
        have HRW : Hid (R = decide (wait ∈ waits)) := Lib.hid (by
          have h8 := viewsTo_all (votes := votes) (by rw [← HL.out]; exact HJ.out)
          rw [HR.out]
          exact decide_eq_decide.2 ⟨fun h => h.2, fun h => ⟨h8, h⟩⟩)
        clear HR HJ HL HV1
        go_upto_region 9 with (fail)
        go_loop [4] (fun i => ∃ (k q : Nat), k ≤ 11 ∧ i = .int .i64 q ∧ Hid (q = waitAt k) ∧ q ≤ 8192 ∧ Hid (∀ m, m < k → wait ≠ ((waitAt m : Nat) : Int))) (fun i => 8193 - (intOf i).toNat)
        case atStart => exact ⟨0, 4, by omega, rfl, Lib.hid rfl, by omega, Lib.hid (fun m hm => absurd hm (by omega))⟩
        case round =>
          obtain ⟨k, q, hk, rfl, HQ, hq, HW⟩ := hrel
          by_cases hlt2 : k < 11
          · have hq2 : q ≤ 4096 := by rw [HQ.out]; exact waitAt_le k hlt2
            have hq3 : 1 ≤ q := by rw [HQ.out, waitAt]; exact Nat.one_le_two_pow
            have HQ2 : Hid (2 * q = waitAt (k + 1)) := Lib.hid (by rw [HQ.out, waitAt_succ])
            by_cases he : (q : Int) = wait
            · have HT : Hid (R = true) := Lib.hid (by rw [HRW.out, decide_eq_true_iff, ← he, HQ.out]; exact waitAt_mem k hlt2)
              obtain rfl := HT.out
              have he2 : ((q : Int) == wait) = true := by rw [he]; simp
              clear HRW HQ HW
              subst he
              go_wp2_with fail
              go_ret
              exact ⟨rfl, HB1.out⟩
            · have he2 : ((q : Int) == wait) = false := beq_eq_false_iff_ne.2 he
              have HW2 : Hid (∀ m, m < k + 1 → wait ≠ ((waitAt m : Nat) : Int)) := Lib.hid (fun m hm e => by
                rcases Nat.lt_or_ge m k with h3 | h3
                · exact HW.out m h3 e
                · obtain rfl : m = k := by omega
                  rw [← HQ.out] at e
                  exact he e.symm)
              go_wp2_with fail
              go_round
              case rel => exact ⟨k + 1, 2 * q, by omega, by go_num, HQ2, by omega, HW2⟩
              case measure => simp [intOf]; omega
          · obtain rfl : k = 11 := by omega
            have hq2 : q = 8192 := HQ.out
            have HF : Hid (R = false) := Lib.hid (by
              rw [HRW.out, decide_eq_false_iff_not]
              intro h
              obtain ⟨m, hm, e⟩ := waits_at _ h
              exact HW.out m hm e)
            obtain rfl := HF.out
            subst hq2
            go_wp2_with fail
            go_ret
            exact ⟨rfl, HB1.out⟩
theorem Right_ref (F T me view : Int) (v : Value) (clock wait : Int) (votes : List Int) (w : World) (hv : SlI w .i64 v votes) :
    Calls Try.prog 9 #[.agg (ElV F T me view v clock wait)] w fun e w' => e = .returned (.bool (decide (RightE F T me view votes clock wait))) ∧ Below w.heap.size w w' := by
  obtain ⟨va, vc, rfl⟩ := hv.shape
  by_cases h1 : rightS F T = true
  · have hS := (rightS_iff F T).1 h1
    by_cases h2 : me < 0
    · rw [decide_eq_false (fun h => by have := h.2.1; omega)]
      exact Right_bad2 F T me view va _ vc clock wait w h1 h2
    · by_cases h3 : 3 * F + 2 * T + 1 ≤ me
      · rw [decide_eq_false (fun h => by have := h.2.2.1; omega)]
        exact Right_bad3 F T me view va _ vc clock wait w h1 (by omega) h3
      · by_cases h4 : (votes.length : Int) = 3 * F + 2 * T + 1
        · by_cases h5 : view < 0
          · rw [decide_eq_false (fun h => by have := h.2.2.2.2.1; omega)]
            exact Right_bad5 F T me view va _ vc clock wait w h1 (by omega) (by omega) h4 h5
          · by_cases h6 : 100000 < view
            · rw [decide_eq_false (fun h => by have := h.2.2.2.2.2.1; omega)]
              exact Right_bad6 F T me view va _ vc clock wait w h1 (by omega) (by omega) h4 h6
            · by_cases h7 : clock < 0
              · rw [decide_eq_false (fun h => by have := h.2.2.2.2.2.2.1; omega)]
                exact Right_bad7 F T me view va _ vc clock wait w h1 (by omega) (by omega) h4 (by omega) (by omega) h7
              · have h := Right_good F T me view va _ vc clock wait votes w hv h1 (by omega) (by omega) h4 (by omega) (by omega) (by omega)
                rw [decide_eq_decide.2 (show (RightE F T me view votes clock wait ↔ ((∀ v ∈ votes, 0 ≤ v ∧ v ≤ 100000) ∧ wait ∈ waits)) from ⟨fun h => h.2.2.2.2.2.2.2, fun h => ⟨hS, by omega, by omega, h4, by omega, by omega, by omega, h⟩⟩)]
                exact h
        · rw [decide_eq_false (fun h => h4 h.2.2.2.1)]
          exact Right_bad4 F T me view va _ vc clock wait w h1 (by omega) (by omega) h4
  · rw [decide_eq_false (fun h => h1 ((rightS_iff F T).2 h.1))]
    exact Right_bad1 F T me view va _ vc clock wait w (by simpa using h1)
end Go.Proofs.Ytgkhgjoggkcklaa

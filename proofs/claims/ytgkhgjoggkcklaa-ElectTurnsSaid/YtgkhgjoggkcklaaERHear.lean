/- The walks of the document's Hear and Good. -/
import Derived.Test.YtgkhgjoggkcklaaERSet
namespace Go.Proofs.Ytgkhgjoggkcklaa
open Go Go.RowKit
set_option maxRecDepth 100000
set_option maxHeartbeats 4000000

theorem Good_ref (F T me view : Int) (va : Option Addr) (vn vc : Nat) (clock wait : Int) (w : World) :
    Calls Try.prog 23 #[.agg (ElV F T me view (.slice va vn vc) clock wait)] w fun e w' => e = .returned (.agg (ElV F T me view (.slice va vn vc) 0 4)) ∧ Below w.heap.size w w' := by
  obtain ⟨W0, HW0, HB0, HS0, HE0⟩ : ∃ V, Hid (V = w.alloc (.cells (ElV F T me view (.slice va vn vc) clock wait) 30)) ∧ Hid (Below w.heap.size w V) ∧ Hid (V.heap.size = w.heap.size + 1) ∧ Hid (ElB V w.heap.size 30 F T me view (.slice va vn vc) clock wait) := ⟨_, Lib.hid rfl, Lib.hid ((Below.refl _ _).alloc (Nat.le_refl _) _), Lib.hid (by simp), Lib.hid (heap_alloc_new _ _)⟩
  obtain ⟨V, HV, HB, HS, HE, HR⟩ : ∃ V, Hid (V = W0.alloc (.cells (ElV 0 0 0 0 (.slice none 0 0) 0 0) 30)) ∧ Hid (Below w.heap.size w V) ∧ Hid (V.heap.size = w.heap.size + 2) ∧ Hid (ElB V w.heap.size 30 F T me view (.slice va vn vc) clock wait) ∧ Hid (V.heap[w.heap.size + 1]? = some (.cells (ElV 0 0 0 0 (.slice none 0 0) 0 0) 30 (0, 0))) :=
    ⟨_, Lib.hid rfl, Lib.hid (HB0.out.alloc HB0.out.size _), Lib.hid (by simp [HS0.out]), Lib.hid ((heap_alloc_old _ _ _ (by rw [HS0.out]; omega)).trans HE0.out), Lib.hid (by rw [← HS0.out]; exact heap_alloc_new _ _)⟩
  have HE5 := Lib.hid (HE.out.setClock 0)
  obtain ⟨X, HX, HXE, HXR, HXB⟩ : ∃ X, Hid (X = (V.setCell ⟨w.heap.size, 5, none⟩ (.int .i64 0)).setCell ⟨w.heap.size, 6, none⟩ (.int .i64 4)) ∧ Hid (ElB X w.heap.size 30 F T me view (.slice va vn vc) 0 4) ∧ Hid (X.heap[w.heap.size + 1]? = some (.cells (ElV 0 0 0 0 (.slice none 0 0) 0 0) 30 (0, 0))) ∧ Hid (Below w.heap.size w X) :=
    ⟨_, Lib.hid rfl, Lib.hid (HE5.out.setWait 4), Lib.hid ((Below.heap_setCell _ _ _ _ (by show w.heap.size + 1 ≠ w.heap.size; omega)).trans ((Below.heap_setCell _ _ _ _ (by show w.heap.size + 1 ≠ w.heap.size; omega)).trans HR.out)),
      Lib.hid ((((Kept.of HB.out).set (S := fun k => w.heap.size ≤ k) (p := ⟨w.heap.size, 5, none⟩) (.inl (Nat.le_refl _)) _).set (p := ⟨w.heap.size, 6, none⟩) (.inl (Nat.le_refl _)) _).below (Nat.le_refl _) (fun k h => h))⟩
  obtain ⟨c0, c1, c2, c3, c4, c5, c6⟩ := HE.out.cells
  have f5 := HE.out.frozen 5
  have k6 := HE5.out.cells.2.2.2.2.2.2
  have f6 := HE5.out.frozen 6
  have HX9 := Lib.hid (setRow_heap _ _ _ (ElV F T me view (.slice va vn vc) 0 4) _ _ HXR.out)
  have HB9 := Lib.hid (below_row (B := w.heap.size) HXB.out (b := w.heap.size + 1) (by omega) (ElV F T me view (.slice va vn vc) 0 4))
  go_enter Try.func23, Try.ntmps23
  go_upto_region 1 with (fail)
  rw [← HW0.out]
  change Code.wp _ _ _ _ (W0.alloc (.cells (ElV 0 0 0 0 (.slice none 0 0) 0 0) 30))
  rw [← HV.out]
  go_upto_region 3 with (fail)
  rw [← HX.out]
  go_wp2_with (first
    | ((with_reducible refine at_load 30 _ rfl ?_); refine wpList_load_row rfl 30 _ rfl _ rfl _ (ElV F T me view (.slice va vn vc) 0 4) (0, 0) _ HXE.out Try.underlying30 rfl info_rel ?_)
    | ((with_reducible refine at_store 30 _ _ rfl ?_); refine wpList_store_row rfl 30 _ _ rfl (w.heap.size + 1) (ElV F T me view (.slice va vn vc) 0 4) rfl rfl 30 _ HXR.out info_rel rfl ElV_one ?_))
  exact bodyPost_ret (results_cell_row rfl _ _ (w.heap.size + 1) 30 _ (0, 0) _ rfl HX9.out Try.underlying30 rfl info_rel) rfl ⟨rfl, HB9.out⟩

theorem Hear_ref (F T : Int) (me : Nat) (vv : Value) (wait by_ x : Int) (E : El) (w : World) (hv : SlI w .i64 vv E.votes) (hr : RightS F T) (hl : E.votes.length ≤ 1000) (hme : me < E.votes.length) (h0 : ∀ i, i < E.votes.length → 0 ≤ E.votes.getD i 0) :
    Calls Try.prog 20 #[.agg (ElV F T me E.view vv E.clock wait), .int .i64 by_, .int .i64 x] w fun e w' => ∃ vv', e = .returned (.tuple #[.agg (ElV F T me (hearE F T me by_ x E).view vv' (hearE F T me by_ x E).clock wait), .agg #[.int .i64 (hearVo F me by_ x E), .int .i64 (hearVi F T me by_ x E)]]) ∧ SlI w' .i64 vv' (hearE F T me by_ x E).votes ∧ (∀ k, vv'.ownBlock = some k → vv.ownBlock = some k ∨ w.heap.size ≤ k) ∧ Below w.heap.size w w' := by
  obtain ⟨view, votes, clock⟩ := E
  simp only at hv hl hme h0 ⊢
  obtain ⟨N, HN⟩ : ∃ N, Hid (N = votes.length) := ⟨_, Lib.hid rfl⟩
  have HAV : Hid (∀ k, vv.ownBlock = some k → k < w.heap.size) := Lib.hid (fun k hk => hv.blt (by omega) k hk)
  obtain ⟨va, vc, rfl⟩ := hv.shape
  have HSW := Lib.hid hv
  have hme' : me < N := by rw [HN.out]; exact hme
  rw [← HN.out] at HSW HAV ⊢
  obtain ⟨W0, HW0, HB0, HS0, HE0⟩ : ∃ V, Hid (V = w.alloc (.cells (ElV F T me view (.slice va N vc) clock wait) 30)) ∧ Hid (Below w.heap.size w V) ∧ Hid (V.heap.size = w.heap.size + 1) ∧ Hid (ElB V w.heap.size 30 F T me view (.slice va N vc) clock wait) := ⟨_, Lib.hid rfl, Lib.hid ((Below.refl _ _).alloc (Nat.le_refl _) _), Lib.hid (by simp), Lib.hid (heap_alloc_new _ _)⟩
  obtain ⟨W1, HW1, HB1, HS1, HE1, HR1⟩ : ∃ V, Hid (V = W0.alloc (.cells (ElV 0 0 0 0 (.slice none 0 0) 0 0) 30)) ∧ Hid (Below w.heap.size w V) ∧ Hid (V.heap.size = w.heap.size + 2) ∧ Hid (ElB V w.heap.size 30 F T me view (.slice va N vc) clock wait) ∧ Hid (V.heap[w.heap.size + 1]? = some (.cells (ElV 0 0 0 0 (.slice none 0 0) 0 0) 30 (0, 0))) :=
    ⟨_, Lib.hid rfl, Lib.hid (HB0.out.alloc HB0.out.size _), Lib.hid (by simp [HS0.out]), Lib.hid ((heap_alloc_old _ _ _ (by rw [HS0.out]; omega)).trans HE0.out), Lib.hid (by rw [← HS0.out]; exact heap_alloc_new _ _)⟩
  obtain ⟨V, HV, HB, HS, HE, HR, HP⟩ : ∃ V, Hid (V = W1.alloc (.cells #[.int .i64 0, .int .i64 0] 42)) ∧ Hid (Below w.heap.size w V) ∧ Hid (V.heap.size = w.heap.size + 3) ∧ Hid (ElB V w.heap.size 30 F T me view (.slice va N vc) clock wait) ∧ Hid (V.heap[w.heap.size + 1]? = some (.cells (ElV 0 0 0 0 (.slice none 0 0) 0 0) 30 (0, 0))) ∧ Hid (OutB V (w.heap.size + 2) 42 0 0) :=
    ⟨_, Lib.hid rfl, Lib.hid (HB1.out.alloc HB1.out.size _), Lib.hid (by simp [HS1.out]), Lib.hid ((heap_alloc_old _ _ _ (by rw [HS1.out]; omega)).trans HE1.out), Lib.hid ((heap_alloc_old _ _ _ (by rw [HS1.out]; omega)).trans HR1.out), Lib.hid (by rw [← HS1.out]; exact heap_alloc_new _ _)⟩
  have HSV := Lib.hid (HSW.out.later HB.out)
  obtain ⟨c0, c1, c2, c3, c4, c5, c6⟩ := HE.out.cells
  have HQ : Hid (∀ h, hearOk me by_ x votes = h → (h = true → hearE F T me by_ x ⟨view, votes, clock⟩ = El.settled F T me ⟨view, votes.set by_.toNat x, clock⟩ ∧ hearVo F me by_ x ⟨view, votes, clock⟩ = joinO F me (votes.set by_.toNat x) 0 ∧ hearVi F T me by_ x ⟨view, votes, clock⟩ = enterO F T me view (votes.set by_.toNat x) 0) ∧
      (h = false → hearE F T me by_ x ⟨view, votes, clock⟩ = ⟨view, votes, clock⟩ ∧ hearVo F me by_ x ⟨view, votes, clock⟩ = 0 ∧ hearVi F T me by_ x ⟨view, votes, clock⟩ = 0)) := Lib.hid (fun h hh => ⟨fun e => by subst e; rw [hearE, if_pos hh, hearVo, if_pos hh, hearVi, if_pos hh]; exact ⟨rfl, rfl, rfl⟩, fun e => by subst e; rw [hearE, hearVo, hearVi]; simp [hh]⟩)
  have HST := Lib.hid (fun (k : Nat) (hk : k < votes.length) vv w' hv => settle_ref F T me view vv clock wait 0 0 (votes.set k x) w' hv hr (by rw [List.length_set]; exact hl) (by rw [List.length_set]; exact hme))
  have HVO := Lib.hid (fun (k : Nat) (hk : k < votes.length) w' h => voted_any F T me view (.slice va N vc) clock wait x k votes w' h (by omega) hk)
  have H0 := Lib.hid h0
  clear hv h0 hl hme
  by_cases h1 : by_ < 0
  · have g1 : decide (by_ < 0) = true := decide_eq_true h1
    have HF := Lib.hid ((HQ.out false (by rw [hearOk, decide_eq_false_iff_not]; intro h; omega)).2 rfl)
    obtain ⟨q1, q2, q3⟩ := HF.out
    rw [q1, q2, q3]
    clear HF HQ q1 q2 q3
    have HPx : Hid ((V.setRow (w.heap.size + 1) (ElV F T me view (.slice va N vc) clock wait)).heap[w.heap.size + 2]? = some (.cells #[.int .i64 0, .int .i64 0] 42 (0, 0))) := Lib.hid ((setRow_other _ _ _ _ (by omega)).trans HP.out)
    have HYa : Hid (((V.setRow (w.heap.size + 1) (ElV F T me view (.slice va N vc) clock wait)).setRow (w.heap.size + 2) #[.int .i64 0, .int .i64 0]).heap[w.heap.size + 1]? = some (.cells (ElV F T me view (.slice va N vc) clock wait) 30 (0, 0))) := Lib.hid ((setRow_other _ _ _ _ (by omega)).trans (setRow_heap _ _ _ _ _ _ HR.out))
    have HYb : Hid (((V.setRow (w.heap.size + 1) (ElV F T me view (.slice va N vc) clock wait)).setRow (w.heap.size + 2) #[.int .i64 0, .int .i64 0]).heap[w.heap.size + 2]? = some (.cells #[.int .i64 0, .int .i64 0] 42 (0, 0))) := Lib.hid (setRow_heap _ _ _ _ _ _ HPx.out)
    have HYk : Hid (Kept (fun k => k = w.heap.size + 1 ∨ k = w.heap.size + 2) V ((V.setRow (w.heap.size + 1) (ElV F T me view (.slice va N vc) clock wait)).setRow (w.heap.size + 2) #[.int .i64 0, .int .i64 0])) := Lib.hid (⟨rfl, rfl, rfl, by simp, fun k _ hk => (setRow_other _ _ _ _ (fun e => hk (.inr e))).trans (setRow_other _ _ _ _ (fun e => hk (.inl e)))⟩)
    have HYs := Lib.hid (HSV.out.kept HYk.out (fun k hk e => by have := HAV.out k hk; omega))
    have HYw : Hid (Below w.heap.size w ((V.setRow (w.heap.size + 1) (ElV F T me view (.slice va N vc) clock wait)).setRow (w.heap.size + 2) #[.int .i64 0, .int .i64 0])) := Lib.hid (below_row (below_row HB.out (by omega) _) (by omega) _)
    go_enter Try.func20, Try.ntmps20
    go_upto_region 1 with (fail)
    change Code.wp _ _ _ _ (((w.alloc (.cells (ElV F T me view (.slice va N vc) clock wait) 30)).alloc (.cells (ElV 0 0 0 0 (.slice none 0 0) 0 0) 30)).alloc (.cells #[.int .i64 0, .int .i64 0] 42))
    rw [← HW0.out, ← HW1.out, ← HV.out]
    go_wp2_with (first
    | ((with_reducible refine at_load 30 _ rfl ?_); refine wpList_load_row rfl 30 _ rfl _ rfl _ (ElV F T me view (.slice va N vc) clock wait) (0, 0) _ HE.out Try.underlying30 rfl info_rel ?_)
    | ((with_reducible refine at_store 30 _ _ rfl ?_); refine wpList_store_row rfl 30 _ _ rfl (w.heap.size + 1) (ElV F T me view (.slice va N vc) clock wait) rfl rfl 30 _ HR.out info_rel rfl ElV_one ?_)
    | ((with_reducible refine at_store 42 _ _ rfl ?_); refine wpList_store_row rfl 42 _ _ rfl (w.heap.size + 2) #[.int .i64 0, .int .i64 0] rfl rfl 42 _ HPx.out info_rout rfl out_one ?_))
    exact bodyPost_ret (results_cell2 rfl _ _ (w.heap.size + 1) (w.heap.size + 2) 30 42 _ _ (0, 0) (0, 0) _ _ rfl HYa.out Try.underlying30 rfl info_rel rfl HYb.out Try.underlying42 rfl info_rout) rfl ⟨_, rfl, HYs.out, fun k hk => .inl hk, HYw.out⟩
  · have g1 : decide (by_ < 0) = false := decide_eq_false h1
    by_cases h2 : (N : Int) ≤ by_
    · have g2 : decide ((N : Int) ≤ by_) = true := decide_eq_true h2
      have HF := Lib.hid ((HQ.out false (by rw [hearOk, decide_eq_false_iff_not]; rw [← HN.out]; intro h; omega)).2 rfl)
      obtain ⟨q1, q2, q3⟩ := HF.out
      rw [q1, q2, q3]
      clear HF HQ q1 q2 q3
      have HPx : Hid ((V.setRow (w.heap.size + 1) (ElV F T me view (.slice va N vc) clock wait)).heap[w.heap.size + 2]? = some (.cells #[.int .i64 0, .int .i64 0] 42 (0, 0))) := Lib.hid ((setRow_other _ _ _ _ (by omega)).trans HP.out)
      have HYa : Hid (((V.setRow (w.heap.size + 1) (ElV F T me view (.slice va N vc) clock wait)).setRow (w.heap.size + 2) #[.int .i64 0, .int .i64 0]).heap[w.heap.size + 1]? = some (.cells (ElV F T me view (.slice va N vc) clock wait) 30 (0, 0))) := Lib.hid ((setRow_other _ _ _ _ (by omega)).trans (setRow_heap _ _ _ _ _ _ HR.out))
      have HYb : Hid (((V.setRow (w.heap.size + 1) (ElV F T me view (.slice va N vc) clock wait)).setRow (w.heap.size + 2) #[.int .i64 0, .int .i64 0]).heap[w.heap.size + 2]? = some (.cells #[.int .i64 0, .int .i64 0] 42 (0, 0))) := Lib.hid (setRow_heap _ _ _ _ _ _ HPx.out)
      have HYk : Hid (Kept (fun k => k = w.heap.size + 1 ∨ k = w.heap.size + 2) V ((V.setRow (w.heap.size + 1) (ElV F T me view (.slice va N vc) clock wait)).setRow (w.heap.size + 2) #[.int .i64 0, .int .i64 0])) := Lib.hid (⟨rfl, rfl, rfl, by simp, fun k _ hk => (setRow_other _ _ _ _ (fun e => hk (.inr e))).trans (setRow_other _ _ _ _ (fun e => hk (.inl e)))⟩)
      have HYs := Lib.hid (HSV.out.kept HYk.out (fun k hk e => by have := HAV.out k hk; omega))
      have HYw : Hid (Below w.heap.size w ((V.setRow (w.heap.size + 1) (ElV F T me view (.slice va N vc) clock wait)).setRow (w.heap.size + 2) #[.int .i64 0, .int .i64 0])) := Lib.hid (below_row (below_row HB.out (by omega) _) (by omega) _)
      go_enter Try.func20, Try.ntmps20
      go_upto_region 1 with (fail)
      change Code.wp _ _ _ _ (((w.alloc (.cells (ElV F T me view (.slice va N vc) clock wait) 30)).alloc (.cells (ElV 0 0 0 0 (.slice none 0 0) 0 0) 30)).alloc (.cells #[.int .i64 0, .int .i64 0] 42))
      rw [← HW0.out, ← HW1.out, ← HV.out]
      go_wp2_with (first
      | ((with_reducible refine at_load 30 _ rfl ?_); refine wpList_load_row rfl 30 _ rfl _ rfl _ (ElV F T me view (.slice va N vc) clock wait) (0, 0) _ HE.out Try.underlying30 rfl info_rel ?_)
      | ((with_reducible refine at_store 30 _ _ rfl ?_); refine wpList_store_row rfl 30 _ _ rfl (w.heap.size + 1) (ElV F T me view (.slice va N vc) clock wait) rfl rfl 30 _ HR.out info_rel rfl ElV_one ?_)
      | ((with_reducible refine at_store 42 _ _ rfl ?_); refine wpList_store_row rfl 42 _ _ rfl (w.heap.size + 2) #[.int .i64 0, .int .i64 0] rfl rfl 42 _ HPx.out info_rout rfl out_one ?_))
      exact bodyPost_ret (results_cell2 rfl _ _ (w.heap.size + 1) (w.heap.size + 2) 30 42 _ _ (0, 0) (0, 0) _ _ rfl HYa.out Try.underlying30 rfl info_rel rfl HYb.out Try.underlying42 rfl info_rout) rfl ⟨_, rfl, HYs.out, fun k hk => .inl hk, HYw.out⟩
    · have g2 : decide ((N : Int) ≤ by_) = false := decide_eq_false h2
      obtain ⟨k, rfl⟩ : ∃ k : Nat, by_ = k := ⟨by_.toNat, by omega⟩
      by_cases h3 : (k : Int) = me
      · have g3 : ((k : Int) == (me : Int)) = true := by rw [h3]; simp
        have HF := Lib.hid ((HQ.out false (by rw [hearOk, decide_eq_false_iff_not]; intro h; omega)).2 rfl)
        obtain ⟨q1, q2, q3⟩ := HF.out
        rw [q1, q2, q3]
        clear HF HQ q1 q2 q3
        clear h3
        have HPx : Hid ((V.setRow (w.heap.size + 1) (ElV F T me view (.slice va N vc) clock wait)).heap[w.heap.size + 2]? = some (.cells #[.int .i64 0, .int .i64 0] 42 (0, 0))) := Lib.hid ((setRow_other _ _ _ _ (by omega)).trans HP.out)
        have HYa : Hid (((V.setRow (w.heap.size + 1) (ElV F T me view (.slice va N vc) clock wait)).setRow (w.heap.size + 2) #[.int .i64 0, .int .i64 0]).heap[w.heap.size + 1]? = some (.cells (ElV F T me view (.slice va N vc) clock wait) 30 (0, 0))) := Lib.hid ((setRow_other _ _ _ _ (by omega)).trans (setRow_heap _ _ _ _ _ _ HR.out))
        have HYb : Hid (((V.setRow (w.heap.size + 1) (ElV F T me view (.slice va N vc) clock wait)).setRow (w.heap.size + 2) #[.int .i64 0, .int .i64 0]).heap[w.heap.size + 2]? = some (.cells #[.int .i64 0, .int .i64 0] 42 (0, 0))) := Lib.hid (setRow_heap _ _ _ _ _ _ HPx.out)
        have HYk : Hid (Kept (fun k => k = w.heap.size + 1 ∨ k = w.heap.size + 2) V ((V.setRow (w.heap.size + 1) (ElV F T me view (.slice va N vc) clock wait)).setRow (w.heap.size + 2) #[.int .i64 0, .int .i64 0])) := Lib.hid (⟨rfl, rfl, rfl, by simp, fun k _ hk => (setRow_other _ _ _ _ (fun e => hk (.inr e))).trans (setRow_other _ _ _ _ (fun e => hk (.inl e)))⟩)
        have HYs := Lib.hid (HSV.out.kept HYk.out (fun k hk e => by have := HAV.out k hk; omega))
        have HYw : Hid (Below w.heap.size w ((V.setRow (w.heap.size + 1) (ElV F T me view (.slice va N vc) clock wait)).setRow (w.heap.size + 2) #[.int .i64 0, .int .i64 0])) := Lib.hid (below_row (below_row HB.out (by omega) _) (by omega) _)
        go_enter Try.func20, Try.ntmps20
        go_upto_region 1 with (fail)
        change Code.wp _ _ _ _ (((w.alloc (.cells (ElV F T me view (.slice va N vc) clock wait) 30)).alloc (.cells (ElV 0 0 0 0 (.slice none 0 0) 0 0) 30)).alloc (.cells #[.int .i64 0, .int .i64 0] 42))
        rw [← HW0.out, ← HW1.out, ← HV.out]
        go_wp2_with (first
        | ((with_reducible refine at_load 30 _ rfl ?_); refine wpList_load_row rfl 30 _ rfl _ rfl _ (ElV F T me view (.slice va N vc) clock wait) (0, 0) _ HE.out Try.underlying30 rfl info_rel ?_)
        | ((with_reducible refine at_store 30 _ _ rfl ?_); refine wpList_store_row rfl 30 _ _ rfl (w.heap.size + 1) (ElV F T me view (.slice va N vc) clock wait) rfl rfl 30 _ HR.out info_rel rfl ElV_one ?_)
        | ((with_reducible refine at_store 42 _ _ rfl ?_); refine wpList_store_row rfl 42 _ _ rfl (w.heap.size + 2) #[.int .i64 0, .int .i64 0] rfl rfl 42 _ HPx.out info_rout rfl out_one ?_))
        exact bodyPost_ret (results_cell2 rfl _ _ (w.heap.size + 1) (w.heap.size + 2) 30 42 _ _ (0, 0) (0, 0) _ _ rfl HYa.out Try.underlying30 rfl info_rel rfl HYb.out Try.underlying42 rfl info_rout) rfl ⟨_, rfl, HYs.out, fun k hk => .inl hk, HYw.out⟩
      · have g3 : ((k : Int) == (me : Int)) = false := beq_eq_false_iff_ne.2 h3
        have hk : k < votes.length := by rw [← HN.out]; omega
        have hki : (k : Int) < N := by omega
        have hz0 := H0.out k hk
        by_cases h4 : x < 1
        · have g4 : decide (x < 1) = true := decide_eq_true h4
          have HF := Lib.hid ((HQ.out false (by rw [hearOk, decide_eq_false_iff_not]; rw [Int.toNat_natCast]; intro h; omega)).2 rfl)
          obtain ⟨q1, q2, q3⟩ := HF.out
          rw [q1, q2, q3]
          clear HF HQ q1 q2 q3
          have HPx : Hid ((V.setRow (w.heap.size + 1) (ElV F T me view (.slice va N vc) clock wait)).heap[w.heap.size + 2]? = some (.cells #[.int .i64 0, .int .i64 0] 42 (0, 0))) := Lib.hid ((setRow_other _ _ _ _ (by omega)).trans HP.out)
          have HYa : Hid (((V.setRow (w.heap.size + 1) (ElV F T me view (.slice va N vc) clock wait)).setRow (w.heap.size + 2) #[.int .i64 0, .int .i64 0]).heap[w.heap.size + 1]? = some (.cells (ElV F T me view (.slice va N vc) clock wait) 30 (0, 0))) := Lib.hid ((setRow_other _ _ _ _ (by omega)).trans (setRow_heap _ _ _ _ _ _ HR.out))
          have HYb : Hid (((V.setRow (w.heap.size + 1) (ElV F T me view (.slice va N vc) clock wait)).setRow (w.heap.size + 2) #[.int .i64 0, .int .i64 0]).heap[w.heap.size + 2]? = some (.cells #[.int .i64 0, .int .i64 0] 42 (0, 0))) := Lib.hid (setRow_heap _ _ _ _ _ _ HPx.out)
          have HYk : Hid (Kept (fun k => k = w.heap.size + 1 ∨ k = w.heap.size + 2) V ((V.setRow (w.heap.size + 1) (ElV F T me view (.slice va N vc) clock wait)).setRow (w.heap.size + 2) #[.int .i64 0, .int .i64 0])) := Lib.hid (⟨rfl, rfl, rfl, by simp, fun k _ hk => (setRow_other _ _ _ _ (fun e => hk (.inr e))).trans (setRow_other _ _ _ _ (fun e => hk (.inl e)))⟩)
          have HYs := Lib.hid (HSV.out.kept HYk.out (fun k hk e => by have := HAV.out k hk; omega))
          have HYw : Hid (Below w.heap.size w ((V.setRow (w.heap.size + 1) (ElV F T me view (.slice va N vc) clock wait)).setRow (w.heap.size + 2) #[.int .i64 0, .int .i64 0])) := Lib.hid (below_row (below_row HB.out (by omega) _) (by omega) _)
          go_enter Try.func20, Try.ntmps20
          go_upto_region 1 with (fail)
          change Code.wp _ _ _ _ (((w.alloc (.cells (ElV F T me view (.slice va N vc) clock wait) 30)).alloc (.cells (ElV 0 0 0 0 (.slice none 0 0) 0 0) 30)).alloc (.cells #[.int .i64 0, .int .i64 0] 42))
          rw [← HW0.out, ← HW1.out, ← HV.out]
          go_wp2_with (first
          | ((with_reducible refine at_load 30 _ rfl ?_); refine wpList_load_row rfl 30 _ rfl _ rfl _ (ElV F T me view (.slice va N vc) clock wait) (0, 0) _ HE.out Try.underlying30 rfl info_rel ?_)
          | ((with_reducible refine at_store 30 _ _ rfl ?_); refine wpList_store_row rfl 30 _ _ rfl (w.heap.size + 1) (ElV F T me view (.slice va N vc) clock wait) rfl rfl 30 _ HR.out info_rel rfl ElV_one ?_)
          | ((with_reducible refine at_store 42 _ _ rfl ?_); refine wpList_store_row rfl 42 _ _ rfl (w.heap.size + 2) #[.int .i64 0, .int .i64 0] rfl rfl 42 _ HPx.out info_rout rfl out_one ?_))
          exact bodyPost_ret (results_cell2 rfl _ _ (w.heap.size + 1) (w.heap.size + 2) 30 42 _ _ (0, 0) (0, 0) _ _ rfl HYa.out Try.underlying30 rfl info_rel rfl HYb.out Try.underlying42 rfl info_rout) rfl ⟨_, rfl, HYs.out, fun k hk => .inl hk, HYw.out⟩
        · have g4 : decide (x < 1) = false := decide_eq_false h4
          by_cases h5 : 100000 < x
          · have g5 : decide (100000 < x) = true := decide_eq_true h5
            have HF := Lib.hid ((HQ.out false (by rw [hearOk, decide_eq_false_iff_not]; intro h; omega)).2 rfl)
            obtain ⟨q1, q2, q3⟩ := HF.out
            rw [q1, q2, q3]
            clear HF HQ q1 q2 q3
            have HPx : Hid ((V.setRow (w.heap.size + 1) (ElV F T me view (.slice va N vc) clock wait)).heap[w.heap.size + 2]? = some (.cells #[.int .i64 0, .int .i64 0] 42 (0, 0))) := Lib.hid ((setRow_other _ _ _ _ (by omega)).trans HP.out)
            have HYa : Hid (((V.setRow (w.heap.size + 1) (ElV F T me view (.slice va N vc) clock wait)).setRow (w.heap.size + 2) #[.int .i64 0, .int .i64 0]).heap[w.heap.size + 1]? = some (.cells (ElV F T me view (.slice va N vc) clock wait) 30 (0, 0))) := Lib.hid ((setRow_other _ _ _ _ (by omega)).trans (setRow_heap _ _ _ _ _ _ HR.out))
            have HYb : Hid (((V.setRow (w.heap.size + 1) (ElV F T me view (.slice va N vc) clock wait)).setRow (w.heap.size + 2) #[.int .i64 0, .int .i64 0]).heap[w.heap.size + 2]? = some (.cells #[.int .i64 0, .int .i64 0] 42 (0, 0))) := Lib.hid (setRow_heap _ _ _ _ _ _ HPx.out)
            have HYk : Hid (Kept (fun k => k = w.heap.size + 1 ∨ k = w.heap.size + 2) V ((V.setRow (w.heap.size + 1) (ElV F T me view (.slice va N vc) clock wait)).setRow (w.heap.size + 2) #[.int .i64 0, .int .i64 0])) := Lib.hid (⟨rfl, rfl, rfl, by simp, fun k _ hk => (setRow_other _ _ _ _ (fun e => hk (.inr e))).trans (setRow_other _ _ _ _ (fun e => hk (.inl e)))⟩)
            have HYs := Lib.hid (HSV.out.kept HYk.out (fun k hk e => by have := HAV.out k hk; omega))
            have HYw : Hid (Below w.heap.size w ((V.setRow (w.heap.size + 1) (ElV F T me view (.slice va N vc) clock wait)).setRow (w.heap.size + 2) #[.int .i64 0, .int .i64 0])) := Lib.hid (below_row (below_row HB.out (by omega) _) (by omega) _)
            go_enter Try.func20, Try.ntmps20
            go_upto_region 1 with (fail)
            change Code.wp _ _ _ _ (((w.alloc (.cells (ElV F T me view (.slice va N vc) clock wait) 30)).alloc (.cells (ElV 0 0 0 0 (.slice none 0 0) 0 0) 30)).alloc (.cells #[.int .i64 0, .int .i64 0] 42))
            rw [← HW0.out, ← HW1.out, ← HV.out]
            go_wp2_with (first
            | ((with_reducible refine at_load 30 _ rfl ?_); refine wpList_load_row rfl 30 _ rfl _ rfl _ (ElV F T me view (.slice va N vc) clock wait) (0, 0) _ HE.out Try.underlying30 rfl info_rel ?_)
            | ((with_reducible refine at_store 30 _ _ rfl ?_); refine wpList_store_row rfl 30 _ _ rfl (w.heap.size + 1) (ElV F T me view (.slice va N vc) clock wait) rfl rfl 30 _ HR.out info_rel rfl ElV_one ?_)
            | ((with_reducible refine at_store 42 _ _ rfl ?_); refine wpList_store_row rfl 42 _ _ rfl (w.heap.size + 2) #[.int .i64 0, .int .i64 0] rfl rfl 42 _ HPx.out info_rout rfl out_one ?_))
            exact bodyPost_ret (results_cell2 rfl _ _ (w.heap.size + 1) (w.heap.size + 2) 30 42 _ _ (0, 0) (0, 0) _ _ rfl HYa.out Try.underlying30 rfl info_rel rfl HYb.out Try.underlying42 rfl info_rout) rfl ⟨_, rfl, HYs.out, fun k hk => .inl hk, HYw.out⟩
          · have g5 : decide (100000 < x) = false := decide_eq_false h5
            obtain ⟨z, Hz⟩ : ∃ z, Hid (z = votes.getD k 0) := ⟨_, Lib.hid rfl⟩
            have HSV' := HSV.out
            obtain ⟨vb, vo, rfl, -, q9, hcv'⟩ := HSV'.cellAt (i := k) hk
            have hcv := hcv' k hk
            rw [← Hz.out] at hcv hz0
            clear hcv' HSV'
            by_cases h6 : x ≤ z
            · have g6 : decide (x ≤ z) = true := decide_eq_true h6
              have HF := Lib.hid ((HQ.out false (by rw [hearOk, decide_eq_false_iff_not]; rw [Int.toNat_natCast, ← Hz.out]; intro h; omega)).2 rfl)
              obtain ⟨q1, q2, q3⟩ := HF.out
              rw [q1, q2, q3]
              clear HF HQ q1 q2 q3
              have HPx : Hid ((V.setRow (w.heap.size + 1) (ElV F T me view (.slice (some ⟨vb, vo, none⟩) N vc) clock wait)).heap[w.heap.size + 2]? = some (.cells #[.int .i64 0, .int .i64 0] 42 (0, 0))) := Lib.hid ((setRow_other _ _ _ _ (by omega)).trans HP.out)
              have HYa : Hid (((V.setRow (w.heap.size + 1) (ElV F T me view (.slice (some ⟨vb, vo, none⟩) N vc) clock wait)).setRow (w.heap.size + 2) #[.int .i64 0, .int .i64 0]).heap[w.heap.size + 1]? = some (.cells (ElV F T me view (.slice (some ⟨vb, vo, none⟩) N vc) clock wait) 30 (0, 0))) := Lib.hid ((setRow_other _ _ _ _ (by omega)).trans (setRow_heap _ _ _ _ _ _ HR.out))
              have HYb : Hid (((V.setRow (w.heap.size + 1) (ElV F T me view (.slice (some ⟨vb, vo, none⟩) N vc) clock wait)).setRow (w.heap.size + 2) #[.int .i64 0, .int .i64 0]).heap[w.heap.size + 2]? = some (.cells #[.int .i64 0, .int .i64 0] 42 (0, 0))) := Lib.hid (setRow_heap _ _ _ _ _ _ HPx.out)
              have HYk : Hid (Kept (fun k => k = w.heap.size + 1 ∨ k = w.heap.size + 2) V ((V.setRow (w.heap.size + 1) (ElV F T me view (.slice (some ⟨vb, vo, none⟩) N vc) clock wait)).setRow (w.heap.size + 2) #[.int .i64 0, .int .i64 0])) := Lib.hid (⟨rfl, rfl, rfl, by simp, fun k _ hk => (setRow_other _ _ _ _ (fun e => hk (.inr e))).trans (setRow_other _ _ _ _ (fun e => hk (.inl e)))⟩)
              have HYs := Lib.hid (HSV.out.kept HYk.out (fun k hk e => by have := HAV.out k hk; omega))
              have HYw : Hid (Below w.heap.size w ((V.setRow (w.heap.size + 1) (ElV F T me view (.slice (some ⟨vb, vo, none⟩) N vc) clock wait)).setRow (w.heap.size + 2) #[.int .i64 0, .int .i64 0])) := Lib.hid (below_row (below_row HB.out (by omega) _) (by omega) _)
              go_enter Try.func20, Try.ntmps20
              go_upto_region 1 with (fail)
              change Code.wp _ _ _ _ (((w.alloc (.cells (ElV F T me view (.slice (some ⟨vb, vo, none⟩) N vc) clock wait) 30)).alloc (.cells (ElV 0 0 0 0 (.slice none 0 0) 0 0) 30)).alloc (.cells #[.int .i64 0, .int .i64 0] 42))
              rw [← HW0.out, ← HW1.out, ← HV.out]
              go_wp2_with (first
              | ((with_reducible refine at_load 30 _ rfl ?_); refine wpList_load_row rfl 30 _ rfl _ rfl _ (ElV F T me view (.slice (some ⟨vb, vo, none⟩) N vc) clock wait) (0, 0) _ HE.out Try.underlying30 rfl info_rel ?_)
              | ((with_reducible refine at_store 30 _ _ rfl ?_); refine wpList_store_row rfl 30 _ _ rfl (w.heap.size + 1) (ElV F T me view (.slice (some ⟨vb, vo, none⟩) N vc) clock wait) rfl rfl 30 _ HR.out info_rel rfl ElV_one ?_)
              | ((with_reducible refine at_store 42 _ _ rfl ?_); refine wpList_store_row rfl 42 _ _ rfl (w.heap.size + 2) #[.int .i64 0, .int .i64 0] rfl rfl 42 _ HPx.out info_rout rfl out_one ?_))
              exact bodyPost_ret (results_cell2 rfl _ _ (w.heap.size + 1) (w.heap.size + 2) 30 42 _ _ (0, 0) (0, 0) _ _ rfl HYa.out Try.underlying30 rfl info_rel rfl HYb.out Try.underlying42 rfl info_rout) rfl ⟨_, rfl, HYs.out, fun k hk => .inl hk, HYw.out⟩
            · have g6 : decide (x ≤ z) = false := decide_eq_false h6
              have HF := Lib.hid ((HQ.out true (by rw [hearOk, decide_eq_true_iff, Int.toNat_natCast, ← Hz.out, ← HN.out]; omega)).1 rfl)
              obtain ⟨q1, q2, q3⟩ := HF.out
              rw [q1, q2, q3, Int.toNat_natCast]
              clear HF HQ q1 q2 q3
              simp only [El.settled]
              go_enter Try.func20, Try.ntmps20
              go_upto_region 1 with (fail)
              change Code.wp _ _ _ _ (((w.alloc (.cells (ElV F T me view (.slice (some ⟨vb, vo, none⟩) N vc) clock wait) 30)).alloc (.cells (ElV 0 0 0 0 (.slice none 0 0) 0 0) 30)).alloc (.cells #[.int .i64 0, .int .i64 0] 42))
              rw [← HW0.out, ← HW1.out, ← HV.out]
              go_upto_region 3 with (fail)
              clear c0 c1 c2 c3 c4 c5 c6 hcv
              go_wp2_with (first
              | ((with_reducible refine at_load 30 _ rfl ?_); refine wpList_load_row rfl 30 _ rfl _ rfl _ (ElV F T me view (.slice (some ⟨vb, vo, none⟩) N vc) clock wait) (0, 0) _ HE.out Try.underlying30 rfl info_rel ?_)
              | (go_at_call 38; refine (HVO.out k hk V HSV.out).mono ?_; rintro e w3 ⟨v3, rfl, s3, a3, b3⟩; have HS3 := Lib.hid s3; have HA3 := Lib.hid a3; have HB3 := Lib.hid b3; obtain ⟨xa, xc, hv3⟩ := s3.shape; rw [List.length_set, ← HN.out] at hv3; subst hv3; clear s3 a3 b3)
              | (go_at_call 39; refine (HST.out k hk _ w3 HS3.out).mono ?_; rintro e w4 ⟨v4, rfl, s4, a4, b4⟩; have HS4 := Lib.hid s4; have HA4 := Lib.hid a4; have HB4 := Lib.hid (HB3.out.trans (b4.mono HB3.out.size)); obtain ⟨ya, yc, hv4⟩ := s4.shape; subst hv4; clear s4 a4 b4; have HR4 : Hid (w4.heap[w.heap.size + 1]? = some (.cells (ElV 0 0 0 0 (.slice none 0 0) 0 0) 30 (0, 0))) := Lib.hid ((HB4.out.block _ (by rw [HS.out]; omega)).trans HR.out); have HP4 : Hid (w4.heap[w.heap.size + 2]? = some (.cells #[.int .i64 0, .int .i64 0] 42 (0, 0))) := Lib.hid ((HB4.out.block _ (by rw [HS.out]; omega)).trans HP.out); have HN4 : Hid (∀ k', (Value.slice ya (joined F me (votes.set k x)).length yc).ownBlock = some k' → w.heap.size + 3 ≤ k') := Lib.hid (fun k' h' => (HA4.out k' h').elim (fun h1 => by have hz4 := HS.out; have h2 := HA3.out k' h1; omega) (fun h1 => by have hz3 := HB3.out.size; have hz4 := HS.out; omega)); have HPx : Hid ((w4.setRow (w.heap.size + 1) (ElV F T me (enterV F T me view (votes.set k x)) (.slice ya (joined F me (votes.set k x)).length yc) (enterC F T me view (votes.set k x) clock) wait)).heap[w.heap.size + 2]? = some (.cells #[.int .i64 0, .int .i64 0] 42 (0, 0))) := Lib.hid ((setRow_other _ _ _ _ (by omega)).trans HP4.out); have HYa : Hid (((w4.setRow (w.heap.size + 1) (ElV F T me (enterV F T me view (votes.set k x)) (.slice ya (joined F me (votes.set k x)).length yc) (enterC F T me view (votes.set k x) clock) wait)).setRow (w.heap.size + 2) #[.int .i64 (joinO F me (votes.set k x) 0), .int .i64 (enterO F T me view (votes.set k x) 0)]).heap[w.heap.size + 1]? = some (.cells (ElV F T me (enterV F T me view (votes.set k x)) (.slice ya (joined F me (votes.set k x)).length yc) (enterC F T me view (votes.set k x) clock) wait) 30 (0, 0))) := Lib.hid ((setRow_other _ _ _ _ (by omega)).trans (setRow_heap _ _ _ _ _ _ HR4.out)); have HYb : Hid (((w4.setRow (w.heap.size + 1) (ElV F T me (enterV F T me view (votes.set k x)) (.slice ya (joined F me (votes.set k x)).length yc) (enterC F T me view (votes.set k x) clock) wait)).setRow (w.heap.size + 2) #[.int .i64 (joinO F me (votes.set k x) 0), .int .i64 (enterO F T me view (votes.set k x) 0)]).heap[w.heap.size + 2]? = some (.cells #[.int .i64 (joinO F me (votes.set k x) 0), .int .i64 (enterO F T me view (votes.set k x) 0)] 42 (0, 0))) := Lib.hid (setRow_heap _ _ _ _ _ _ HPx.out); have HYk : Hid (Kept (fun k => k = w.heap.size + 1 ∨ k = w.heap.size + 2) w4 ((w4.setRow (w.heap.size + 1) (ElV F T me (enterV F T me view (votes.set k x)) (.slice ya (joined F me (votes.set k x)).length yc) (enterC F T me view (votes.set k x) clock) wait)).setRow (w.heap.size + 2) #[.int .i64 (joinO F me (votes.set k x) 0), .int .i64 (enterO F T me view (votes.set k x) 0)])) := Lib.hid (⟨rfl, rfl, rfl, by simp, fun k _ hk => (setRow_other _ _ _ _ (fun e => hk (.inr e))).trans (setRow_other _ _ _ _ (fun e => hk (.inl e)))⟩))
              | ((with_reducible refine at_store 30 _ _ rfl ?_); refine wpList_store_row rfl 30 _ _ rfl (w.heap.size + 1) (ElV F T me (enterV F T me view (votes.set k x)) (.slice ya (joined F me (votes.set k x)).length yc) (enterC F T me view (votes.set k x) clock) wait) rfl rfl 30 _ HR4.out info_rel rfl ElV_one ?_)
              | ((with_reducible refine at_store 42 _ _ rfl ?_); refine wpList_store_row rfl 42 _ _ rfl (w.heap.size + 2) #[.int .i64 (joinO F me (votes.set k x) 0), .int .i64 (enterO F T me view (votes.set k x) 0)] rfl rfl 42 _ HPx.out info_rout rfl out_one ?_))
              have HYs := Lib.hid (HS4.out.kept HYk.out (fun k hk e => by have := HN4.out k hk; omega))
              have HYw : Hid (Below w.heap.size w ((w4.setRow (w.heap.size + 1) (ElV F T me (enterV F T me view (votes.set k x)) (.slice ya (joined F me (votes.set k x)).length yc) (enterC F T me view (votes.set k x) clock) wait)).setRow (w.heap.size + 2) #[.int .i64 (joinO F me (votes.set k x) 0), .int .i64 (enterO F T me view (votes.set k x) 0)])) := Lib.hid (below_row (below_row (HB.out.trans (HB4.out.mono HB.out.size)) (by omega) _) (by omega) _)
              exact bodyPost_ret (results_cell2 rfl _ _ (w.heap.size + 1) (w.heap.size + 2) 30 42 _ _ (0, 0) (0, 0) _ _ rfl HYa.out Try.underlying30 rfl info_rel rfl HYb.out Try.underlying42 rfl info_rout) rfl ⟨_, rfl, HYs.out, fun k hk => .inr (by have := HN4.out k hk; omega), HYw.out⟩
end Go.Proofs.Ytgkhgjoggkcklaa

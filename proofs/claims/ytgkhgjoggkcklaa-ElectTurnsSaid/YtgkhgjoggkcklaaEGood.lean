/- The walk of elect's Good; two new variables, both rows. -/
import Derived.Test.YtgkhgjoggkcklaaEAlive
namespace Go.Proofs.Ytgkhgjoggkcklaa
open Go Go.RowKit
set_option maxRecDepth 100000
set_option maxHeartbeats 2000000

theorem Good_any (F T me view : Int) (va : Option Addr) (vn vc : Nat) (clock wait : Int) (w : World) :
    Calls Try.prog 22 #[.agg (ElV F T me view (.slice va vn vc) clock wait)] w fun e w' => e = .returned (.agg (ElV F T me view (.slice va vn vc) 0 4)) ∧ Below w.heap.size w w' := by
  obtain ⟨W0, HW0, HB0, HS0, HE0⟩ : ∃ V, Hid (V = w.alloc (.cells (ElV F T me view (.slice va vn vc) clock wait) 26)) ∧ Hid (Below w.heap.size w V) ∧ Hid (V.heap.size = w.heap.size + 1) ∧ Hid (ElB V w.heap.size 26 F T me view (.slice va vn vc) clock wait) := ⟨_, Lib.hid rfl, Lib.hid ((Below.refl _ _).alloc (Nat.le_refl _) _), Lib.hid (by simp), Lib.hid (heap_alloc_new _ _)⟩
  obtain ⟨V, HV, HB, HS, HE, HR⟩ : ∃ V, Hid (V = W0.alloc (.cells (ElV 0 0 0 0 (.slice none 0 0) 0 0) 26)) ∧ Hid (Below w.heap.size w V) ∧ Hid (V.heap.size = w.heap.size + 2) ∧ Hid (ElB V w.heap.size 26 F T me view (.slice va vn vc) clock wait) ∧ Hid (V.heap[w.heap.size + 1]? = some (.cells (ElV 0 0 0 0 (.slice none 0 0) 0 0) 26 (0, 0))) :=
    ⟨_, Lib.hid rfl, Lib.hid (HB0.out.alloc HB0.out.size _), Lib.hid (by simp [HS0.out]), Lib.hid ((heap_alloc_old _ _ _ (by rw [HS0.out]; omega)).trans HE0.out), Lib.hid (by rw [← HS0.out]; exact heap_alloc_new _ _)⟩
  have HE5 := Lib.hid (HE.out.setClock 0)
  obtain ⟨X, HX, HXE, HXR, HXB⟩ : ∃ X, Hid (X = (V.setCell ⟨w.heap.size, 5, none⟩ (.int .i64 0)).setCell ⟨w.heap.size, 6, none⟩ (.int .i64 4)) ∧ Hid (ElB X w.heap.size 26 F T me view (.slice va vn vc) 0 4) ∧ Hid (X.heap[w.heap.size + 1]? = some (.cells (ElV 0 0 0 0 (.slice none 0 0) 0 0) 26 (0, 0))) ∧ Hid (Below w.heap.size w X) :=
    ⟨_, Lib.hid rfl, Lib.hid (HE5.out.setWait 4), Lib.hid ((Below.heap_setCell _ _ _ _ (by show w.heap.size + 1 ≠ w.heap.size; omega)).trans ((Below.heap_setCell _ _ _ _ (by show w.heap.size + 1 ≠ w.heap.size; omega)).trans HR.out)),
      Lib.hid ((((Kept.of HB.out).set (S := fun k => w.heap.size ≤ k) (p := ⟨w.heap.size, 5, none⟩) (.inl (Nat.le_refl _)) _).set (p := ⟨w.heap.size, 6, none⟩) (.inl (Nat.le_refl _)) _).below (Nat.le_refl _) (fun k h => h))⟩
  obtain ⟨c0, c1, c2, c3, c4, c5, c6⟩ := HE.out.cells
  have f5 := HE.out.frozen 5
  have k6 := HE5.out.cells.2.2.2.2.2.2
  have f6 := HE5.out.frozen 6
  have HX9 := Lib.hid (setRow_heap _ _ _ (ElV F T me view (.slice va vn vc) 0 4) _ _ HXR.out)
  have HB9 := Lib.hid (below_row (B := w.heap.size) HXB.out (b := w.heap.size + 1) (by omega) (ElV F T me view (.slice va vn vc) 0 4))
  go_enter Try.func22, Try.ntmps22
  go_upto_region 1 with (fail)
  rw [← HW0.out]
  change Code.wp _ _ _ _ (W0.alloc (.cells (ElV 0 0 0 0 (.slice none 0 0) 0 0) 26))
  rw [← HV.out]
  go_upto_region 2 with (fail)
  rw [← HX.out]
  go_wp2_with (first
    | ((with_reducible refine at_load 26 _ rfl ?_); refine wpList_load_row rfl 26 _ rfl _ rfl _ (ElV F T me view (.slice va vn vc) 0 4) (0, 0) _ HXE.out Try.underlying26 rfl info_el ?_)
    | ((with_reducible refine at_store 26 _ _ rfl ?_); refine wpList_store_row rfl 26 _ _ rfl (w.heap.size + 1) (ElV F T me view (.slice va vn vc) 0 4) rfl rfl 26 _ HXR.out info_el rfl ElV_one ?_))
  exact bodyPost_ret (results_cell_row rfl _ _ (w.heap.size + 1) 26 _ (0, 0) _ rfl HX9.out Try.underlying26 rfl info_el) rfl ⟨rfl, HB9.out⟩

/-- two new variables, both rows -/
theorem two_rows (w : World) (t1 t2 : TypeId) (Z1 V1 Z2 V2 : Array Value) :
    ((w.alloc (.cells Z1 t1)).alloc (.cells Z2 t2)).heap[w.heap.size]? = some (.cells Z1 t1 (0, 0)) ∧ (((w.alloc (.cells Z1 t1)).alloc (.cells Z2 t2)).setRow w.heap.size V1).heap[w.heap.size + 1]? = some (.cells Z2 t2 (0, 0)) ∧
    ((((w.alloc (.cells Z1 t1)).alloc (.cells Z2 t2)).setRow w.heap.size V1).setRow (w.heap.size + 1) V2).heap[w.heap.size]? = some (.cells V1 t1 (0, 0)) ∧
    ((((w.alloc (.cells Z1 t1)).alloc (.cells Z2 t2)).setRow w.heap.size V1).setRow (w.heap.size + 1) V2).heap[w.heap.size + 1]? = some (.cells V2 t2 (0, 0)) ∧
    Below w.heap.size w ((((w.alloc (.cells Z1 t1)).alloc (.cells Z2 t2)).setRow w.heap.size V1).setRow (w.heap.size + 1) V2) := by
  have h1 : ((w.alloc (.cells Z1 t1)).alloc (.cells Z2 t2)).heap[w.heap.size]? = some (.cells Z1 t1 (0, 0)) := (heap_alloc_old _ _ _ (by simp)).trans (heap_alloc_new w _)
  have h2 : ((w.alloc (.cells Z1 t1)).alloc (.cells Z2 t2)).heap[w.heap.size + 1]? = some (.cells Z2 t2 (0, 0)) := by
    have := heap_alloc_new (w.alloc (.cells Z1 t1)) (.cells Z2 t2)
    simpa using this
  have h3 := (setRow_other ((w.alloc (.cells Z1 t1)).alloc (.cells Z2 t2)) w.heap.size (w.heap.size + 1) V1 (by omega)).trans h2
  have h4 := setRow_heap _ _ _ V1 _ _ h1
  refine ⟨h1, h3, (setRow_other _ _ _ _ (by omega)).trans h4, setRow_heap _ _ _ V2 _ _ h3, below_row (below_row ((((Below.refl _ _).alloc (Nat.le_refl _) _).alloc (by simp) _)) (Nat.le_refl _) _) (by omega) _⟩
end Go.Proofs.Ytgkhgjoggkcklaa

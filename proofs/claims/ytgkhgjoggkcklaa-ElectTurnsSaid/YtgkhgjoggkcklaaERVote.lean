/- The walk of the document's voted. -/
import Derived.Test.YtgkhgjoggkcklaaESameA
import Derived.Test.YtgkhgjoggkcklaaAt
namespace Go.Proofs.Ytgkhgjoggkcklaa
open Go Go.RowKit
set_option maxRecDepth 100000
set_option maxHeartbeats 2000000

theorem ownI_setSl {w : World} {B g off cap : Nat} {t : TypeId} {k : IntKind} {n : Nat} {l : List Int} (h : OwnI w B t k (.slice (some ⟨g, off, none⟩) n cap) l) (i : Nat) (hi : i < l.length) (x : Int) :
    SlI (w.setCell ⟨g, off + i, none⟩ (.int k x)) k (.slice (some ⟨g, off, none⟩) n cap) (l.set i x) := by
  rcases h.2 with ⟨h1, _⟩ | ⟨g', off', cap', cur, h1, _, hg, hc, hm, hs, hcell⟩
  · cases h1
  · cases h1
    refine .inr ⟨g, off, cap, by rw [List.length_set], by rw [List.length_set]; omega, by rw [List.length_set]; exact hc, hm, fun j hj => ?_⟩
    rw [List.length_set] at hj
    rw [cell_of_row _ g (off + j) _ _ (0, 0) (heap_setCell_same w g (off + i) cur t (.int k x) hg)]
    have h2 := hcell j (by rw [IV_length]; exact hj)
    rw [IV_get k l j hj] at h2
    have h3 := hcell i (by rw [IV_length]; exact hi)
    rw [IV_get k l i hi] at h3
    have h4 : off + i < cur.size := (Array.getElem?_eq_some_iff.1 h3).1
    by_cases e : j = i
    · subst e
      simp [h4, hj]
    · rw [Array.getElem?_setIfInBounds_ne (by omega), h2]
      simp [Ne.symm e]
theorem ownI_parts {w : World} {B : Nat} {t : TypeId} {k : IntKind} {v : Value} {l : List Int} (h : OwnI w B t k v l) (h0 : 0 < l.length) : ∃ g off cap, v = .slice (some ⟨g, off, none⟩) l.length cap ∧ B ≤ g ∧ g < w.heap.size ∧ l.length ≤ cap ∧ cap ≤ maxLen ∧ (∀ i, w.frozen? ⟨g, i, none⟩ = false) ∧ ∀ i, i < l.length → w.cell? ⟨g, off + i, none⟩ = some (.int k (l.getD i 0)) := by
  rcases h.2 with ⟨_, h1⟩ | ⟨g, off, cap, cur, rfl, hB, hg, hc, hm, hs, hcell⟩
  · omega
  · refine ⟨g, off, cap, rfl, hB, (Array.getElem?_eq_some_iff.1 hg).1, hc, hm, fun i => frozen_of_row w g i _ _ hg, fun i hi => ?_⟩
    rw [cell_of_row w g (off + i) _ _ (0, 0) hg, hcell i (by rw [IV_length]; exact hi), IV_get k l i hi]
theorem info_parts4 : ∃ i0, Try.prog.info? 3 = some i0 ∧ i0.zero = some (.int .i64 0) ∧ i0.size = 1 ∧ i0.bytes = 8 := by
  obtain ⟨i0, a, b, c, d⟩ := info_parts info_int
  exact ⟨i0, a, b, c, d⟩
theorem voted_any (F T me view : Int) (v : Value) (clock wait x : Int) (by_ : Nat) (votes : List Int) (w : World) (hv : SlI w .i64 v votes) (hl : votes.length ≤ 1000000) (hb : by_ < votes.length) :
    Calls Try.prog 38 #[.agg (ElV F T me view v clock wait), .int .i64 by_, .int .i64 x] w fun e w' => ∃ v', e = .returned (.agg (ElV F T me view v' clock wait)) ∧ SlI w' .i64 v' (votes.set by_ x) ∧ (∀ k, v'.ownBlock = some k → w.heap.size ≤ k) ∧ Below w.heap.size w w' := by
  obtain ⟨va, vc, rfl⟩ := hv.shape
  obtain ⟨N, HN⟩ : ∃ N, Hid (N = votes.length) := ⟨_, Lib.hid rfl⟩
  rw [← HN.out] at hv ⊢
  obtain ⟨W0, HW0, HB0, HS0, HE0⟩ : ∃ V, Hid (V = w.alloc (.cells (ElV F T me view (.slice va N vc) clock wait) 30)) ∧ Hid (Below w.heap.size w V) ∧ Hid (V.heap.size = w.heap.size + 1) ∧ Hid (ElB V w.heap.size 30 F T me view (.slice va N vc) clock wait) := ⟨_, Lib.hid rfl, Lib.hid ((Below.refl _ _).alloc (Nat.le_refl _) _), Lib.hid (by simp), Lib.hid (heap_alloc_new _ _)⟩
  obtain ⟨V, HV, HB, HS, HE, HR⟩ : ∃ V, Hid (V = W0.alloc (.cells (ElV 0 0 0 0 (.slice none 0 0) 0 0) 30)) ∧ Hid (Below w.heap.size w V) ∧ Hid (V.heap.size = w.heap.size + 2) ∧ Hid (ElB V w.heap.size 30 F T me view (.slice va N vc) clock wait) ∧ Hid (V.heap[w.heap.size + 1]? = some (.cells (ElV 0 0 0 0 (.slice none 0 0) 0 0) 30 (0, 0))) :=
    ⟨_, Lib.hid rfl, Lib.hid (HB0.out.alloc HB0.out.size _), Lib.hid (by simp [HS0.out]), Lib.hid ((heap_alloc_old _ _ _ (by rw [HS0.out]; omega)).trans HE0.out), Lib.hid (by rw [← HS0.out]; exact heap_alloc_new _ _)⟩
  have HO := Lib.hid (OwnI.none V 3 .i64)
  have HB1 : Hid (Below V.heap.size V (V.alloc (.cells #[] 3))) := Lib.hid ((Below.refl _ _).alloc (Nat.le_refl _) _)
  have HSV := Lib.hid ((hv.later HB.out).later HB1.out)
  have HBs : Hid (V.heap.size ≤ (V.alloc (.cells #[] 3)).heap.size) := Lib.hid (by simp)
  have HLL : Hid (([] : List Int).length + votes.length ≤ 1000000000) := Lib.hid (by simp; omega)
  obtain ⟨i0, hi, hz0, hz1, hz2⟩ := info_parts4
  have HI := Lib.hid hi
  have HZ0 := Lib.hid hz0
  have HZ1 := Lib.hid hz1
  have HZ2 := Lib.hid hz2
  have hbi : (by_ : Int) < N := by rw [HN.out]; omega
  have hbn : by_ < N := by omega
  have HBL := Lib.hid hb
  obtain ⟨c0, c1, c2, c3, c4, c5, c6⟩ := (HE.out.later HB1.out).cells
  clear hi hz0 hz1 hz2 hv hl hb
  go_enter Try.func38, Try.ntmps38
  go_upto_region 1 with (fail)
  rw [← HW0.out]
  change Code.wp _ _ _ _ (W0.alloc (.cells (ElV 0 0 0 0 (.slice none 0 0) 0 0) 30))
  rw [← HV.out]
  go_upto_region 2 with (at_builtin; refine wpList_appendI rfl _ _ 24 3 rfl .i64 8 Try.underlying24 HI.out HZ0.out HZ1.out HZ2.out (by decide) V.heap.size _ [] rfl HO.out _ votes rfl HSV.out HLL.out HBs.out ?_; intro v3 w3 hv3 hg3 hor3)
  rw [List.nil_append] at hv3
  have HB3 := Lib.hid (HB1.out.trans ((HO.out.below hg3 HBs.out).mono (Nat.le_refl _)))
  have HE3 := Lib.hid (HE.out.later HB3.out)
  have HR3 := Lib.hid ((HB3.out.block _ (by rw [HS.out]; omega)).trans HR.out)
  have HO3 := Lib.hid hv3
  obtain ⟨g, off, cap, rfl, hBg, hgl, hcp, hmx, hfz, hcl⟩ := ownI_parts hv3 (by have := HBL.out; omega)
  have d1 := hcl by_ HBL.out
  have f1 := hfz (off + by_)
  have HG : Hid (V.heap.size ≤ g ∧ g < w3.heap.size) := Lib.hid ⟨hBg, hgl⟩
  rw [← HN.out] at hcp
  have HX1 := Lib.hid (ownI_setSl HO3.out by_ HBL.out x)
  rw [← HN.out] at HO3 HX1 ⊢
  obtain ⟨X1, HX, HXV, HXE, HXR, HXB⟩ : ∃ X, Hid (X = w3.setCell ⟨g, off + by_, none⟩ (.int .i64 x)) ∧ Hid (SlI X .i64 (.slice (some ⟨g, off, none⟩) N cap) (votes.set by_ x)) ∧ Hid (ElB X w.heap.size 30 F T me view (.slice va N vc) clock wait) ∧ Hid (X.heap[w.heap.size + 1]? = some (.cells (ElV 0 0 0 0 (.slice none 0 0) 0 0) 30 (0, 0))) ∧ Hid (Below w.heap.size w X) :=
    ⟨_, Lib.hid rfl, HX1, Lib.hid (HE3.out.setOther (p := ⟨g, off + by_, none⟩) (by show w.heap.size ≠ g; have := HG.out.1; have := HS.out; omega) _),
      Lib.hid ((Below.heap_setCell _ _ _ _ (by show w.heap.size + 1 ≠ g; have := HG.out.1; have := HS.out; omega)).trans HR3.out),
      Lib.hid (((Kept.of (HB.out.trans (HB3.out.mono HB.out.size))).set (S := fun k => w.heap.size ≤ k) (p := ⟨g, off + by_, none⟩) (.inl (by show w.heap.size ≤ g; have := HG.out.1; have := HS.out; omega)) _).below (Nat.le_refl _) (fun k h => h))⟩
  have HXE2 := Lib.hid (HXE.out.setVotes (.slice (some ⟨g, off, none⟩) N cap))
  clear c0 c1 c2 c3 c4 c5 c6 hcl hfz hv3 hg3 hor3 hBg hgl
  have c4 := HXE.out.cells.2.2.2.2.1
  have f4 := HXE.out.frozen 4
  go_upto_region 3 with (fail)
  rw [← HX.out]
  obtain ⟨X2, HX2, HYV, HYE, HYR, HYB⟩ : ∃ X, Hid (X = X1.setCell ⟨w.heap.size, 4, none⟩ (.slice (some ⟨g, off, none⟩) N cap)) ∧ Hid (SlI X .i64 (.slice (some ⟨g, off, none⟩) N cap) (votes.set by_ x)) ∧ Hid (ElB X w.heap.size 30 F T me view (.slice (some ⟨g, off, none⟩) N cap) clock wait) ∧ Hid (X.heap[w.heap.size + 1]? = some (.cells (ElV 0 0 0 0 (.slice none 0 0) 0 0) 30 (0, 0))) ∧ Hid (Below w.heap.size w X) :=
    ⟨_, Lib.hid rfl, Lib.hid (HXV.out.kept (S := fun k => k = w.heap.size) ((Kept.refl (fun k => k = w.heap.size) X1).set (p := ⟨w.heap.size, 4, none⟩) (.inl rfl) _) (fun b hb e => by have h1 : g = b := Option.some.inj hb; have := HG.out.1; have := HS.out; omega)), HXE2,
      Lib.hid ((Below.heap_setCell _ _ _ _ (by show w.heap.size + 1 ≠ w.heap.size; omega)).trans HXR.out),
      Lib.hid (((Kept.of HXB.out).set (S := fun k => w.heap.size ≤ k) (p := ⟨w.heap.size, 4, none⟩) (.inl (Nat.le_refl _)) _).below (Nat.le_refl _) (fun k h => h))⟩
  go_upto_region 4 with (fail)
  rw [← HX2.out]
  have HX9 := Lib.hid (setRow_heap _ _ _ (ElV F T me view (.slice (some ⟨g, off, none⟩) N cap) clock wait) _ _ HYR.out)
  have HB9 := Lib.hid (below_row (B := w.heap.size) HYB.out (b := w.heap.size + 1) (by omega) (ElV F T me view (.slice (some ⟨g, off, none⟩) N cap) clock wait))
  have HV9 : Hid (SlI (X2.setRow (w.heap.size + 1) (ElV F T me view (.slice (some ⟨g, off, none⟩) N cap) clock wait)) .i64 (.slice (some ⟨g, off, none⟩) N cap) (votes.set by_ x)) := Lib.hid (HYV.out.kept (S := fun k => k = w.heap.size + 1) ⟨rfl, rfl, rfl, by simp, fun k _ hk => setRow_other _ _ _ _ hk⟩ (fun b hb e => by have h1 : g = b := Option.some.inj hb; have := HG.out.1; have := HS.out; omega))
  clear c4 f4 d1 f1
  go_wp2_with (first
    | ((with_reducible refine at_load 30 _ rfl ?_); refine wpList_load_row rfl 30 _ rfl _ rfl _ (ElV F T me view (.slice (some ⟨g, off, none⟩) N cap) clock wait) (0, 0) _ HYE.out Try.underlying30 rfl info_rel ?_)
    | ((with_reducible refine at_store 30 _ _ rfl ?_); refine wpList_store_row rfl 30 _ _ rfl (w.heap.size + 1) (ElV F T me view (.slice (some ⟨g, off, none⟩) N cap) clock wait) rfl rfl 30 _ HYR.out info_rel rfl ElV_one ?_))
  exact bodyPost_ret (results_cell_row rfl _ _ (w.heap.size + 1) 30 _ (0, 0) _ rfl HX9.out Try.underlying30 rfl info_rel) rfl ⟨_, rfl, HV9.out, fun k hk => by have h1 : g = k := Option.some.inj hk; have := HG.out.1; have := HS.out; omega, HB9.out⟩
end Go.Proofs.Ytgkhgjoggkcklaa

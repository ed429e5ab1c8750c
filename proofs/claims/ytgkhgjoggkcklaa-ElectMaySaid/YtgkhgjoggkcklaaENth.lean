/- The walks of slices.Collect, Sorted over slices.Values; of elect.Nth. -/
import Derived.Test.YtgkhgjoggkcklaaEIter
import Derived.Test.YtgkhgjoggkcklaaInts
import Derived.Lib.SlKeysI
import Derived.Sort.OwnSorted
namespace Go.Proofs.Ytgkhgjoggkcklaa
open Go Go.RowKit Go.Shelf Go.Sort
set_option maxRecDepth 100000
set_option maxHeartbeats 1000000

/-- numbers in order -/
def ordered (l : List Int) : List Int := l.mergeSort fun x y => decide (x ≤ y)
theorem ordered_length (l : List Int) : (ordered l).length = l.length := by simp [ordered]
def nthV (l : List Int) (n : Int) : Int := if n < 1 ∨ n > l.length then 0 else (ordered l).getD (l.length - n.toNat) 0

theorem SlI.src_cells {w : World} {v : Value} {l : List Int} (h : SlI w .i64 v l) (h0 : 0 < l.length) : ∃ b off cap, v = .slice (some ⟨b, off, none⟩) l.length cap ∧ b < w.heap.size ∧ l.length ≤ maxLen ∧ ∀ j, j < l.length → w.cell? ⟨b, off + j, none⟩ = some (.int .i64 (l[j]?.getD 0)) := by
  rcases h with ⟨rfl, _⟩ | ⟨b, off, cap, rfl, _, h1, h2, h3⟩
  · simp at h0
  · refine ⟨b, off, cap, rfl, World.block_lt_of_cell? _ _ (h3 0 h0), by omega, fun j hj => ?_⟩
    rw [h3 j hj]
    simp
theorem ownsRow_sl {w : World} {B : Nat} {e : TypeId} {v : Value} {zs : List Int} (h : w.ownsRow B e 1 v zs.length (zs.map (Value.int .i64))) : SlI w .i64 v zs := by
  rcases h.2 with ⟨rfl, h0⟩ | ⟨g, cap, cur, rfl, _, hg, hc, hm, hs, ht⟩
  · exact .inl ⟨List.eq_nil_of_length_eq_zero h0, _, _, rfl⟩
  · by_cases h0 : 0 < zs.length
    · refine .inr ⟨g, 0, cap, rfl, h0, hc, hm, fun i hi => ?_⟩
      rw [cell_of_row w g (0 + i) _ _ (0, 0) hg, Nat.zero_add]
      have := congrArg (fun l : List Value => l[i]?) ht
      simp only [Nat.mul_one, List.getElem?_take, hi, if_true, Array.getElem?_toList] at this
      rw [this]
      simp [hi]
    · obtain rfl : zs = [] := List.eq_nil_of_length_eq_zero (by omega)
      exact .inl ⟨rfl, _, _, rfl⟩
/-- slices.Sorted, over the value that slices.Values has handed back -/
theorem sorted_any (Bs : Nat) (v : Value) (l : List Int) (w : World) (hBs : Bs < w.heap.size) (hc : w.cell? ⟨Bs, 0, none⟩ = some v) (hv : SlI w .i64 v l) (h0 : 0 < l.length) (hl : l.length ≤ 1000000) :
    Calls Try.prog 36 #[.func (.func 52) #[] #[.pointer (some ⟨Bs, 0, none⟩)]] w fun e w' => ∃ v', e = .returned v' ∧ SlI w' .i64 v' (ordered l) ∧ Below w.heap.size w w' := by
  obtain ⟨b, off, cap, rfl, hb, hm, hI⟩ := hv.src_cells h0
  have HA := Lib.hid (callsIn_wide.1 (appendSeq_in Fence.wide 4 trivial trivial rfl (by omega) Bs b off cap l hm (by omega) w hBs hc hb hI))
  have HS := Lib.hid (fun blk off cap zs w' h1 h2 h3 => Try.slices_Sort_int blk off cap zs w' h1 h2 h3)
  have HL := Lib.hid hl
  have H0 := Lib.hid h0
  have HC : Hid (Calls Try.prog 50 #[.func (.func 52) #[] #[.pointer (some ⟨Bs, 0, none⟩)]] w fun e W' => ∃ v, e = .returned v ∧ W'.ownsRow w.heap.size 3 1 v l.length (l.map (Value.int .i64)) ∧ Below w.heap.size w W') := Lib.hid (by
    clear hv hb hm hI hc hl h0 HS
    go_enter Try.func50, Try.ntmps50
    go_wp2_with (go_at_call 58; refine HA.out.mono ?_; rintro e w1 ⟨v1, rfl, o1, b1⟩; have HO := Lib.hid o1; have HB := Lib.hid b1; clear o1 b1)
    go_ret
    exact ⟨_, rfl, HO.out, HB.out⟩)
  clear hv hb hm hI hc hl h0 HA
  go_enter Try.func36, Try.ntmps36
  go_upto_region 2 with (go_at_call 50; refine HC.out.mono ?_; rintro e w1 ⟨v1, rfl, o1, b1⟩; have HO := Lib.hid o1; have HB := Lib.hid b1; clear o1 b1)
  rcases HO.out.2 with ⟨rfl, hz⟩ | ⟨gb, cap1, cur, rfl, hbase, hgb, r1, r2, r3, r4⟩
  · exfalso; have := H0.out; omega
  · have hH : Holds (Value.int .i64) w1 gb 0 l.toArray := holds_of_block_i hgb (by simpa using r4)
    have cS := Lib.hid (HS.out gb 0 cap1 l w1 hH (Array.getElem?_eq_some_iff.1 hgb).1 (by have := HL.out; omega))
    have HR := Lib.hid (show ∀ (nn : Nat) (os : Array Obj), _ from fun nn os => ownsRow_sorted_i (os := os) (n := nn) (ts := ordered l) (ordered_length l) hbase hgb r1 r2 r3)
    have HG := Lib.hid (show ∀ (nn : Nat) (os : Array Obj), _ from fun nn os => HB.out.grown (grownBy_sorted_i (w := w1) (g := gb) (n := nn) (os := os) (ordered l).toArray) HB.out.size (fun j hj => by cases hj; exact hbase))
    clear hH hbase hgb r1 r2 r3 r4
    go_wp2_with (go_at_call 51; refine cS.out.mono ?_; rintro e w2 ⟨rfl, nn, os, rfl⟩)
    go_ret
    refine ⟨_, rfl, ?_, HG.out nn os⟩
    have h2 := HR.out nn os
    exact ownsRow_sl (e := 3) (B := w.heap.size) (v := .slice (some ⟨gb, 0, none⟩) l.length cap1) (by rw [ordered_length]; exact h2)

theorem Nth_any (v : Value) (l : List Int) (n : Int) (w : World) (hv : SlI w .i64 v l) (hl : l.length ≤ 1000000) :
    Calls Try.prog 17 #[v, .int .i64 n] w fun e w' => e = .returned (.int .i64 (nthV l n)) ∧ Below w.heap.size w w' := by
  obtain ⟨va, vc, rfl⟩ := hv.shape
  by_cases h1 : n < 1
  · rw [nthV, if_pos (.inl h1)]
    clear hv
    go_enter Try.func17, Try.ntmps17
    go_wp2_with fail
    go_ret
    exact ⟨rfl, Below.refl _ _⟩
  · by_cases h2 : n > l.length
    · rw [nthV, if_pos (.inr h2)]
      clear hv
      go_enter Try.func17, Try.ntmps17
      go_wp2_with fail
      go_ret
      exact ⟨rfl, Below.refl _ _⟩
    · rw [nthV, if_neg (by omega)]
      obtain ⟨k, rfl⟩ : ∃ k : Nat, n = k := ⟨n.toNat, by omega⟩
      rw [Int.toNat_natCast]
      have h1' : 1 ≤ k := by omega
      have h2' : k ≤ l.length := by omega
      have HSO := Lib.hid (fun Bs w' (hBs : Bs < w'.heap.size) hc hv' => sorted_any Bs (.slice va l.length vc) l w' hBs hc hv' (by omega) hl)
      have HV := Lib.hid hv
      have HOL := Lib.hid (ordered_length l)
      have HL := Lib.hid hl
      have e0 : wrap64 ((l.length : Int) - k) = (l.length : Int) - k := (by unfold wrap64; omega)
      have e1 : ((l.length : Int) - k).toNat = l.length - k := by omega
      have e2 : (0 : Int) ≤ (l.length : Int) - k := by omega
      have e3 : (l.length : Int) - k < l.length := by omega
      have HB0 : Hid (Below w.heap.size w (w.alloc (.cells #[.slice va l.length vc] 24))) := Lib.hid ((Below.refl _ _).alloc (Nat.le_refl _) _)
      clear hv hl h1 h2
      go_enter Try.func17, Try.ntmps17
      go_wp2_with (first
        | (go_at_call 37; refine (values_any va l.length vc w).mono ?_; rintro e w1 ⟨rfl, rfl⟩)
        | (go_at_call 36; refine (HSO.out w.heap.size (w.alloc (.cells #[.slice va l.length vc] 24)) (by simp) (by rw [cell_of_row _ _ _ _ _ (0, 0) (heap_alloc_new w _)]; rfl) (HV.out.later HB0.out)).mono ?_; rintro e w2 ⟨v2, rfl, s2, b2⟩; have HB2 := Lib.hid (HB0.out.trans (b2.mono HB0.out.size)); obtain ⟨a2, c2, rfl⟩ := s2.shape; obtain ⟨b, off, rfl, -, p1, c1⟩ := s2.cellAt (i := l.length - k) (by rw [HOL.out]; omega); have d1 := c1 (l.length - k) (by rw [HOL.out]; omega); rw [HOL.out] at p1 ⊢; clear c1 s2 b2))
      go_ret
      exact ⟨rfl, HB2.out⟩
end Go.Proofs.Ytgkhgjoggkcklaa

/- Plain laws of the n-th greatest. -/
import Derived.Test.YtgkhgjoggkcklaaENth
namespace Go.Proofs.Ytgkhgjoggkcklaa
open Go Go.RowKit

def cGe (l : List Int) (x : Int) : Nat := l.countP fun v => decide (x ≤ v)
def cGt (l : List Int) (x : Int) : Nat := l.countP fun v => decide (x < v)
def anyEq (l : List Int) (x : Int) : Bool := l.any fun v => v == x
theorem cGe_le (l : List Int) (x : Int) : cGe l x ≤ l.length := List.countP_le_length
theorem cGt_le (l : List Int) (x : Int) : cGt l x ≤ l.length := List.countP_le_length
theorem take_succ' (l : List Int) (j : Nat) (h : j < l.length) : l.take (j + 1) = l.take j ++ [l.getD j 0] := by
  rw [List.take_add_one, List.getElem?_eq_getElem h]
  simp [h]
theorem cGe_succ (l : List Int) (x : Int) (j : Nat) (h : j < l.length) : cGe (l.take (j + 1)) x = cGe (l.take j) x + (if x ≤ l.getD j 0 then 1 else 0) := by
  rw [take_succ' l j h, cGe, List.countP_append, cGe]
  by_cases hx : x ≤ l.getD j 0 <;> simp [List.countP_cons] <;> simp_all
theorem cGt_succ (l : List Int) (x : Int) (j : Nat) (h : j < l.length) : cGt (l.take (j + 1)) x = cGt (l.take j) x + (if x < l.getD j 0 then 1 else 0) := by
  rw [take_succ' l j h, cGt, List.countP_append, cGt]
  by_cases hx : x < l.getD j 0 <;> simp [List.countP_cons] <;> simp_all
theorem anyEq_succ (l : List Int) (x : Int) (j : Nat) (h : j < l.length) : anyEq (l.take (j + 1)) x = (anyEq (l.take j) x || l.getD j 0 == x) := by
  rw [take_succ' l j h, anyEq, List.any_append, anyEq]
  simp
theorem ordered_perm (l : List Int) : (ordered l).Perm l := List.mergeSort_perm l _
theorem ordered_sorted (l : List Int) : (ordered l).Pairwise (· ≤ ·) := by
  have := List.pairwise_mergeSort (le := fun x y : Int => decide (x ≤ y)) (by simp; omega) (by simp; omega) l
  rw [ordered]
  simpa using this
theorem sorted_counts (s : List Int) (hs : s.Pairwise (· ≤ ·)) (k : Nat) (hk : k < s.length) : s.length - k ≤ cGe s s[k] ∧ cGt s s[k] ≤ s.length - (k + 1) := by
  rw [List.pairwise_iff_getElem] at hs
  constructor
  · have e : s.take k ++ s.drop k = s := List.take_append_drop _ _
    generalize hx : s[k] = x
    rw [cGe, ← e, List.countP_append]
    have h : (s.drop k).countP (fun v => decide (x ≤ v)) = (s.drop k).length := by
      rw [List.countP_eq_length]
      intro a ha
      obtain ⟨i, hi, rfl⟩ := List.getElem_of_mem ha
      simp only [List.getElem_drop, decide_eq_true_eq]
      simp at hi
      rcases Nat.eq_zero_or_pos i with rfl | h0
      · simp [hx]
      · have := hs k (k + i) hk (by omega) (by omega)
        omega
    rw [h, e]
    simp
  · have e : s.take (k + 1) ++ s.drop (k + 1) = s := List.take_append_drop _ _
    generalize hx : s[k] = x
    rw [cGt, ← e, List.countP_append]
    have h : (s.take (k + 1)).countP (fun v => decide (x < v)) = 0 := by
      rw [List.countP_eq_zero]
      intro a ha
      obtain ⟨i, hi, rfl⟩ := List.getElem_of_mem ha
      simp only [List.getElem_take, decide_eq_true_eq]
      simp at hi
      rcases Nat.lt_or_ge i k with h0 | h0
      · have := hs i k (by omega) hk h0
        omega
      · obtain rfl : i = k := by omega
        omega
    rw [h, e]
    have := List.countP_le_length (p := fun v => decide (x < v)) (l := s.drop (k + 1))
    simp at this
    omega
theorem nth_law (l : List Int) (n : Nat) (h1 : 1 ≤ n) (h2 : n ≤ l.length) : n ≤ cGe l (nthV l n) ∧ cGt l (nthV l n) < n ∧ nthV l n ∈ l := by
  have hp := ordered_perm l
  have hs := ordered_sorted l
  have hl := ordered_length l
  have hk : l.length - n < (ordered l).length := by omega
  have e : nthV l n = (ordered l)[l.length - n] := by
    rw [nthV, if_neg (by omega), Int.toNat_natCast, List.getD_eq_getElem?_getD, List.getElem?_eq_getElem hk]
    rfl
  obtain ⟨c1, c2⟩ := sorted_counts _ hs _ hk
  rw [← e] at c1 c2
  have g1 : cGe (ordered l) (nthV l n) = cGe l (nthV l n) := hp.countP_eq _
  have g2 : cGt (ordered l) (nthV l n) = cGt l (nthV l n) := hp.countP_eq _
  refine ⟨by omega, by omega, ?_⟩
  rw [e]
  exact hp.mem_iff.1 (List.getElem_mem _)
theorem cGe_cGt (l : List Int) (x y : Int) (h : x < y) : cGe l y ≤ cGt l x := by
  refine List.countP_mono_left ?_
  intro a _ h2
  simp only [decide_eq_true_eq] at *
  omega
theorem cGe_mono (l : List Int) (x y : Int) (h : x ≤ y) : cGe l y ≤ cGe l x := by
  refine List.countP_mono_left ?_
  intro a _ h2
  simp only [decide_eq_true_eq] at *
  omega
/-- x is at most the n-th greatest just where at least n are x or above -/
theorem le_nth (l : List Int) (n : Nat) (h1 : 1 ≤ n) (h2 : n ≤ l.length) (x : Int) : x ≤ nthV l n ↔ n ≤ cGe l x := by
  obtain ⟨a, b, c⟩ := nth_law l n h1 h2
  constructor
  · intro h
    have := cGe_mono l _ _ h
    omega
  · intro h
    by_cases hx : x ≤ nthV l n
    · exact hx
    · have := cGe_cGt l _ _ (Int.not_le.1 hx)
      omega
theorem anyEq_mem (l : List Int) (x : Int) : anyEq l x = true ↔ x ∈ l := by
  simp [anyEq]
end Go.Proofs.Ytgkhgjoggkcklaa

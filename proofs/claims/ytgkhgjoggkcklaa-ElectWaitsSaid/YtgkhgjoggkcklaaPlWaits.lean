/- Plain laws of a voter that hears nothing. -/
import Derived.Test.YtgkhgjoggkcklaaETick
import Derived.Test.YtgkhgjoggkcklaaPlMoves
namespace Go.Proofs.Ytgkhgjoggkcklaa
open Go Go.RowKit
set_option maxRecDepth 100000

def vts (N me : Nat) (i : Int) : List Int := (List.replicate N 0).set me i
def wt (i : Nat) : Nat := min (4 * 2 ^ i) 4096
theorem wt_bd (i : Nat) : 4 ≤ wt i ∧ wt i ≤ 4096 := by
  have : 1 ≤ 2 ^ i := Nat.one_le_two_pow
  rw [wt]
  omega
theorem wt_succ (i : Nat) : min (2 * (wt i : Int)) 4096 = (wt (i + 1) : Int) := by
  have h : 2 ^ (i + 1) = 2 * 2 ^ i := by rw [Nat.pow_succ]; omega
  rw [wt, wt, h]
  omega
theorem vts_length (N me : Nat) (i : Int) : (vts N me i).length = N := by simp [vts]
theorem vts_me (N me : Nat) (i : Int) (h : me < N) : (vts N me i).getD me 0 = i := getD_set_self _ _ _ (by simpa using h)
theorem vts_set (N me : Nat) (i j : Int) : (vts N me i).set me j = vts N me j := by simp [vts]
theorem vts_zero (N me : Nat) : vts N me 0 = List.replicate N 0 := by
  apply List.ext_getElem?
  intro j
  rw [vts, List.getElem?_set]
  split
  · rename_i h
    subst h
    split
    · rename_i h2; simp at h2; simp [h2]
    · rename_i h2; simp at h2; simp [h2]
  · rfl
theorem vts_ge0 (N me : Nat) (i : Int) (hi : 0 ≤ i) : cGe (vts N me i) 0 = N := by
  have h : cGe (vts N me i) 0 = (vts N me i).length → cGe (vts N me i) 0 = N := fun h => h.trans (vts_length N me i)
  refine h ?_
  rw [cGe, List.countP_eq_length]
  intro v hv
  simp only [decide_eq_true_eq]
  rcases List.mem_or_eq_of_mem_set hv with h | h
  · rw [(List.mem_replicate.1 h).2]; exact Int.le_refl _
  · omega
theorem vts_ge1 (N me : Nat) (i : Int) (h : me < N) : cGe (vts N me i) 1 ≤ 1 := by
  have h1 := cGe_set (List.replicate N 0) me i 1 (by simpa using h)
  have h2 : cGe (List.replicate N (0 : Int)) 1 = 0 := by
    rw [cGe, List.countP_eq_zero]
    intro v hv
    rw [(List.mem_replicate.1 hv).2]
    simp
  rw [h2] at h1
  rw [vts]
  split at h1 <;> split at h1 <;> omega
theorem vts_nth (N me : Nat) (i n : Int) (h : me < N) (hi : 0 ≤ i) (h1 : 2 ≤ n) (h2 : n ≤ N) : nthV (vts N me i) n = 0 := by
  have a := (le_nthI (vts N me i) n (by omega) (by rw [vts_length]; omega) 0).2 (by rw [vts_ge0 N me i hi]; omega)
  have b := mt (le_nthI (vts N me i) n (by omega) (by rw [vts_length]; omega) 1).1 (by have := vts_ge1 N me i h; omega)
  omega
/-- the voter at the k-th tick of the i-th turn -/
def st (N me i k : Nat) : El := if k ≤ wt i then ⟨0, vts N me i, (k : Int) - 1⟩ else ⟨0, vts N me ((i : Int) + 1), 0⟩
def stW (i k : Nat) : Int := if k ≤ wt i then wt i else wt (i + 1)
theorem st_tick (F T : Int) (N me i k : Nat) (hs : SizeOk F T me N) (hi : i ≤ 11) (h2 : k ≤ wt i) :
    tickE F T me (stW i k) (st N me i k) = st N me i (k + 1) ∧ tickW (stW i k) (st N me i k) = stW i (k + 1) ∧ tickVo F me (stW i k) (st N me i k) = (if k = wt i then (i : Int) + 1 else 0) ∧ tickVi F T me (stW i k) (st N me i k) = 0 := by
  obtain ⟨⟨r1, r2, r3, r4⟩, hn, hme⟩ := hs
  have e1 : st N me i k = ⟨0, vts N me i, (k : Int) - 1⟩ := by rw [st, if_pos h2]
  have e2 : stW i k = wt i := by rw [stW, if_pos h2]
  rw [e1, e2]
  by_cases hk : k = wt i
  · have he : early (wt i : Int) ⟨0, vts N me i, (k : Int) - 1⟩ = false := by rw [early, decide_eq_false_iff_not]; simp only; omega
    have hm : mineV me ⟨0, vts N me i, (k : Int) - 1⟩ = (i : Int) + 1 := by rw [mineV]; simp only [vts_me N me i hme]; omega
    have hv : tickVotes me ⟨0, vts N me i, (k : Int) - 1⟩ = vts N me ((i : Int) + 1) := by
      rw [tickVotes, hm]
      simp only [vts_me N me i hme, vts_set]
      rw [if_pos (by omega)]
    have ho : tickO me ⟨0, vts N me i, (k : Int) - 1⟩ = (i : Int) + 1 := by
      rw [tickO, hm]
      simp only [vts_me N me i hme]
      rw [if_pos (by omega)]
    have hj : joins F me (vts N me ((i : Int) + 1)) = false := by
      rw [joins, vts_nth N me _ _ hme (by omega) (by omega) (by omega), vts_me N me _ hme, decide_eq_false_iff_not]
      omega
    have hjd : joined F me (vts N me ((i : Int) + 1)) = vts N me ((i : Int) + 1) := by rw [joined, hj]; rfl
    have hen : enters F T me 0 (vts N me ((i : Int) + 1)) = false := by
      rw [enters, hjd, vts_nth N me _ _ hme (by omega) (by omega) (by omega), decide_eq_false_iff_not]
      omega
    have e3 : st N me i (k + 1) = ⟨0, vts N me ((i : Int) + 1), 0⟩ := by rw [st, if_neg (show ¬ k + 1 ≤ wt i by omega)]
    have e4 : stW i (k + 1) = min (2 * (wt i : Int)) 4096 := by rw [stW, if_neg (show ¬ k + 1 ≤ wt i by omega), wt_succ]
    refine ⟨?_, ?_, ?_, ?_⟩
    · rw [tickE, he, hv, e3]
      simp [El.settled, hjd, enterV, enterC, hen]
    · rw [tickW, he, e4]
      rfl
    · rw [tickVo, he, hv, ho, joinO, hj, if_pos hk]
      rfl
    · rw [tickVi, he, hv, enterO, hen]
      rfl
  · have he : early (wt i : Int) ⟨0, vts N me i, (k : Int) - 1⟩ = true := by rw [early, decide_eq_true_iff]; simp only; omega
    have e3 : st N me i (k + 1) = ⟨0, vts N me i, ((k + 1 : Nat) : Int) - 1⟩ := by rw [st, if_pos (show k + 1 ≤ wt i by omega)]
    have e4 : stW i (k + 1) = (wt i : Int) := by rw [stW, if_pos (show k + 1 ≤ wt i by omega)]
    refine ⟨?_, ?_, ?_, ?_⟩
    · rw [tickE, he, e3, if_pos rfl]
      simp only [El.mk.injEq, true_and]
      omega
    · rw [tickW, he, e4, if_pos rfl]
    · rw [tickVo, he, if_neg hk, if_pos rfl]
    · rw [tickVi, he, if_pos rfl]
theorem st_next (N me i : Nat) : st N me i (wt i + 1) = st N me (i + 1) 1 ∧ stW i (wt i + 1) = stW (i + 1) 1 := by
  have := wt_bd (i + 1)
  have a : ¬ wt i + 1 ≤ wt i := by omega
  have b : 1 ≤ wt (i + 1) := by omega
  rw [st, st, stW, stW, if_neg a, if_neg a, if_pos b, if_pos b]
  exact ⟨by simp, rfl⟩
theorem st_bd (N me i k : Nat) (hme : me < N) (hi : i ≤ 12) (hk : k ≤ 5000) : (st N me i k).view = 0 ∧ (st N me i k).votes.length = N ∧ -1 ≤ (st N me i k).clock ∧ (st N me i k).clock ≤ 5000 ∧ 0 ≤ (st N me i k).votes.getD me 0 ∧ (st N me i k).votes.getD me 0 ≤ 100000 := by
  rw [st]
  split
  · refine ⟨rfl, vts_length _ _ _, ?_, ?_, ?_, ?_⟩ <;> simp only [vts_me N me _ hme] <;> omega
  · refine ⟨rfl, vts_length _ _ _, ?_, ?_, ?_, ?_⟩ <;> simp only [vts_me N me _ hme] <;> omega
end Go.Proofs.Ytgkhgjoggkcklaa

/- Plain laws of what is heard: who votes above, what is joined and entered. -/
import Derived.Test.YtgkhgjoggkcklaaEHear
import Derived.Test.YtgkhgjoggkcklaaPlNth
namespace Go.Proofs.Ytgkhgjoggkcklaa
open Go Go.RowKit

theorem cGe_set : ∀ (l : List Int) (i : Nat) (y z : Int), i < l.length → cGe (l.set i y) z + (if z ≤ l.getD i 0 then 1 else 0) = cGe l z + (if z ≤ y then 1 else 0)
  | a :: l, 0, y, z, _ => by
    simp only [List.set_cons_zero, cGe, List.countP_cons, List.getD_cons_zero, decide_eq_true_eq]
    omega
  | a :: l, i + 1, y, z, h => by
    have := cGe_set l i y z (by simpa using h)
    simp only [List.set_cons_succ, cGe, List.countP_cons, List.getD_cons_succ, decide_eq_true_eq] at *
    omega
theorem cGe_up (l : List Int) (i : Nat) (y z : Int) (hi : i < l.length) (h : l.getD i 0 ≤ y) : cGe l z ≤ cGe (l.set i y) z := by
  have := cGe_set l i y z hi
  split at this <;> split at this <;> omega
theorem cGe_same (l : List Int) (i : Nat) (y z : Int) (hi : i < l.length) (h1 : l.getD i 0 < z) (h2 : y < z) : cGe (l.set i y) z = cGe l z := by
  have := cGe_set l i y z hi
  rw [if_neg (by omega), if_neg (by omega)] at this
  omega
theorem getD_set_self (l : List Int) (i : Nat) (y : Int) (h : i < l.length) : (l.set i y).getD i 0 = y := by simp [h]
theorem getD_set_ne (l : List Int) (i j : Nat) (y : Int) (h : i ≠ j) : (l.set i y).getD j 0 = l.getD j 0 := by
  simp [List.getD_eq_getElem?_getD, h]
theorem joined_length (F : Int) (me : Nat) (V : List Int) : (joined F me V).length = V.length := by rw [joined]; split <;> simp
theorem hearE_length (F T : Int) (me : Nat) (by_ x : Int) (E : El) : (hearE F T me by_ x E).votes.length = E.votes.length := by
  rw [hearE]
  split
  · rw [El.settled, joined_length, List.length_set]
  · rfl
/-- a voter is settled for a view -/
def Settled (F T : Int) (me : Nat) (x : Int) (E : El) : Prop :=
  (F + 1 ≤ (cGe E.votes x : Int) → x ≤ E.votes.getD me 0) ∧ (2 * F + T + 1 ≤ (cGe E.votes x : Int) → x ≤ E.view)
structure SizeOk (F T : Int) (me n : Nat) : Prop where
  r : RightS F T
  hn : (n : Int) = 3 * F + 2 * T + 1
  hme : me < n
theorem le_nthI (l : List Int) (k : Int) (h1 : 1 ≤ k) (h2 : k ≤ l.length) (x : Int) : x ≤ nthV l k ↔ k ≤ (cGe l x : Int) := by
  obtain ⟨n, rfl⟩ : ∃ n : Nat, k = n := ⟨k.toNat, by omega⟩
  rw [le_nth l n (by omega) (by omega)]
  omega
theorem joined_getD_me (F : Int) (me : Nat) (V : List Int) (hme : me < V.length) : V.getD me 0 ≤ (joined F me V).getD me 0 ∧ nthV V (F + 1) ≤ (joined F me V).getD me 0 := by
  rw [joined, joins]
  split
  · rename_i h
    rw [decide_eq_true_iff] at h
    rw [getD_set_self _ _ _ hme]
    omega
  · rename_i h
    rw [decide_eq_true_iff] at h
    omega
theorem cGe_joined (F : Int) (me : Nat) (V : List Int) (hme : me < V.length) (z : Int) : cGe V z ≤ cGe (joined F me V) z := by
  rw [joined, joins]
  split
  · rename_i h
    rw [decide_eq_true_iff] at h
    exact cGe_up _ _ _ _ hme (by omega)
  · exact Nat.le_refl _
theorem settled_settled (F T : Int) (me : Nat) (x view clock : Int) (V : List Int) (h : SizeOk F T me V.length) : Settled F T me x (El.settled F T me ⟨view, V, clock⟩) := by
  obtain ⟨⟨r1, r2, r3, r4⟩, hn, hme⟩ := h
  constructor
  · intro hc
    simp only [El.settled] at hc ⊢
    have hj := joined_getD_me F me V hme
    rcases Int.lt_or_le ((joined F me V).getD me 0) x with hlt | hle
    · exfalso
      have e : cGe (joined F me V) x = cGe V x := by
        rw [joined]
        split
        · refine cGe_same _ _ _ _ hme ?_ ?_ <;> omega
        · rfl
      rw [e] at hc
      have := (le_nthI V (F + 1) (by omega) (by omega) x).2 hc
      omega
    · exact hle
  · intro hc
    simp only [El.settled] at hc ⊢
    have hx := (le_nthI (joined F me V) (2 * F + T + 1) (by omega) (by rw [joined_length]; omega) x).2 hc
    rw [enterV, enters]
    split
    · exact hx
    · rename_i h
      rw [decide_eq_true_iff] at h
      omega
theorem settled_hear (F T : Int) (me : Nat) (by_ x : Int) (E : El) (h : SizeOk F T me E.votes.length) (hs : Settled F T me x E) : Settled F T me x (hearE F T me by_ x E) := by
  rw [hearE]
  split
  · exact settled_settled F T me x _ _ _ (by rw [List.length_set]; exact h)
  · exact hs
/-- all are heard, one behind the other -/
def hearAll (F T : Int) (me : Nat) (x : Int) : List Int → El → El
  | [], E0 => E0
  | b :: bs, E => hearAll F T me x bs (hearE F T me b x E)
theorem hearAll_append (F T : Int) (me : Nat) (x : Int) : ∀ (a b : List Int) (E : El), hearAll F T me x (a ++ b) E = hearAll F T me x b (hearAll F T me x a E)
  | [], _, _ => rfl
  | _ :: a, b, _ => hearAll_append F T me x a b _
theorem hearAll_length (F T : Int) (me : Nat) (x : Int) : ∀ (bs : List Int) (E : El), (hearAll F T me x bs E).votes.length = E.votes.length
  | [], _ => rfl
  | b :: bs, _ => by rw [hearAll, hearAll_length F T me x bs, hearE_length]
def heardB (who : List Int) (me : Nat) (x : Int) (votes : List Int) : Bool := who.any fun b => decide (0 ≤ b ∧ b < votes.length ∧ b ≠ me ∧ votes.getD b.toNat 0 < x)
theorem settled_all (F T : Int) (me : Nat) (x : Int) : ∀ (bs : List Int) (E : El), SizeOk F T me E.votes.length → Settled F T me x E → Settled F T me x (hearAll F T me x bs E)
  | [], _, _, h => h
  | b :: bs, E, h1, h => settled_all F T me x bs _ (by rw [hearE_length]; exact h1) (settled_hear F T me b x E h1 h)
theorem heard_settled (F T : Int) (me : Nat) (x : Int) (hx : x ≤ 100000) : ∀ (bs : List Int) (E : El), SizeOk F T me E.votes.length → heardB bs me x E.votes = true → Settled F T me x (hearAll F T me x bs E)
  | [], _, _, h => by simp [heardB] at h
  | b :: bs, E, h1, h => by
    rw [hearAll]
    by_cases hok : hearOk me b x E.votes = true
    · refine settled_all F T me x bs _ (by rw [hearE_length]; exact h1) ?_
      rw [hearE, if_pos hok]
      exact settled_settled F T me x _ _ _ (by rw [List.length_set]; exact h1)
    · have e : hearE F T me b x E = E := by rw [hearE, if_neg hok]
      rw [e]
      refine heard_settled F T me x hx bs E h1 ?_
      simp only [heardB, List.any_cons, Bool.or_eq_true, decide_eq_true_eq] at h
      rcases h with h | h
      · exfalso
        apply hok
        rw [hearOk, decide_eq_true_iff]
        exact ⟨h.1, h.2.1, h.2.2.1, hx, h.2.2.2⟩
      · exact h
/-- the view stays, or Proof many vote above -/
def Moved (F T : Int) (v0 : Int) (E : El) : Prop := v0 ≤ E.view ∧ (E.view = v0 ∨ 2 * F + T + 1 ≤ (cGe E.votes (v0 + 1) : Int))
theorem moved_hear (F T : Int) (me : Nat) (by_ x v0 : Int) (E : El) (h : SizeOk F T me E.votes.length) (hm : Moved F T v0 E) : Moved F T v0 (hearE F T me by_ x E) := by
  rw [hearE]
  split
  · rename_i hok
    rw [hearOk, decide_eq_true_iff] at hok
    obtain ⟨g0, g1, g2, g3, g4⟩ := hok
    obtain ⟨⟨r1, r2, r3, r4⟩, hn, hme⟩ := h
    have hb : by_.toNat < E.votes.length := by omega
    have c1 := cGe_up E.votes by_.toNat x (v0 + 1) hb (by omega)
    have hl : (E.votes.set by_.toNat x).length = E.votes.length := List.length_set
    have c2 := cGe_joined F me (E.votes.set by_.toNat x) (by rw [hl]; exact hme) (v0 + 1)
    obtain ⟨m1, m2⟩ := hm
    by_cases hlt : E.view < nthV (joined F me (E.votes.set by_.toNat x)) (2 * F + T + 1)
    · simp only [Moved, El.settled, enterV, enters, decide_eq_true hlt, if_true]
      have h3 := (le_nthI (joined F me (E.votes.set by_.toNat x)) (2 * F + T + 1) (by omega) (by rw [joined_length, hl]; omega) (v0 + 1)).1 (by omega)
      exact ⟨by omega, .inr h3⟩
    · simp only [Moved, El.settled, enterV, enters, decide_eq_false hlt, Bool.false_eq_true, if_false]
      rcases m2 with m2 | m2
      · exact ⟨m1, .inl m2⟩
      · exact ⟨m1, .inr (by omega)⟩
  · exact hm
theorem moved_all (F T : Int) (me : Nat) (x v0 : Int) : ∀ (bs : List Int) (E : El), SizeOk F T me E.votes.length → Moved F T v0 E → Moved F T v0 (hearAll F T me x bs E)
  | [], _, _, h => h
  | b :: bs, E, h1, h => moved_all F T me x v0 bs _ (by rw [hearE_length]; exact h1) (moved_hear F T me b x v0 E h1 h)
end Go.Proofs.Ytgkhgjoggkcklaa

/- Plain laws of what any act does to a voter. -/
import Derived.Test.YtgkhgjoggkcklaaEDone
import Derived.Test.YtgkhgjoggkcklaaERok
import Derived.Test.YtgkhgjoggkcklaaPlMoves
namespace Go.Proofs.Ytgkhgjoggkcklaa
open Go Go.RowKit
set_option maxRecDepth 100000

theorem nthI_mem (l : List Int) (k : Int) (h1 : 1 ≤ k) (h2 : k ≤ l.length) : nthV l k ∈ l := by
  obtain ⟨n, rfl⟩ : ∃ n : Nat, k = n := ⟨k.toNat, by omega⟩
  exact (nth_law l n (by omega) (by omega)).2.2
def OkVotes (N : Nat) (V : List Int) : Prop := V.length = N ∧ ∀ v ∈ V, 0 ≤ v ∧ v ≤ 100000
theorem OkVotes.set {N : Nat} {V : List Int} (h : OkVotes N V) (i : Nat) {x : Int} (hx : 0 ≤ x ∧ x ≤ 100000) : OkVotes N (V.set i x) := by
  refine ⟨by rw [List.length_set]; exact h.1, fun v hv => ?_⟩
  rcases List.mem_or_eq_of_mem_set hv with h1 | h1
  · exact h.2 v h1
  · rw [h1]; exact hx
theorem OkVotes.getD {N : Nat} {V : List Int} (h : OkVotes N V) {i : Nat} (hi : i < N) : 0 ≤ V.getD i 0 ∧ V.getD i 0 ≤ 100000 := by
  have hi' : i < V.length := by rw [h.1]; exact hi
  refine h.2 _ ?_
  simp [hi']
/-- a step from votes V, view v, to E' that says vo, vi -/
structure Step (F T : Int) (me N : Nat) (view vme : Int) (E' : El) (vo vi : Int) : Prop where
  votes : OkVotes N E'.votes
  v0 : view ≤ E'.view
  v1 : E'.view ≤ 100000
  m0 : vme ≤ E'.votes.getD me 0
  i1 : vi ≠ 0 ↔ view < E'.view
  i2 : vi ≠ 0 → vi = E'.view ∧ 2 * F + T + 1 ≤ (cGe E'.votes E'.view : Int) ∧ E'.clock = 0
  o1 : vo ≠ 0 ↔ vme < E'.votes.getD me 0
  o2 : vo ≠ 0 → vo = E'.votes.getD me 0
theorem settled_step (F T : Int) (me N : Nat) (hs : SizeOk F T me N) (view clock vme o : Int) (V : List Int) (hV : OkVotes N V) (hv : 0 ≤ view ∧ view ≤ 100000) (hc : 0 ≤ clock)
    (hm : 0 ≤ vme ∧ vme ≤ V.getD me 0) (ho1 : o ≠ 0 ↔ vme < V.getD me 0) (ho2 : o ≠ 0 → o = V.getD me 0) :
    Step F T me N view vme (El.settled F T me ⟨view, V, clock⟩) (joinO F me V o) (enterO F T me view V 0) ∧ 0 ≤ (El.settled F T me ⟨view, V, clock⟩).clock ∧ (El.settled F T me ⟨view, V, clock⟩).clock ≤ clock ∧
    (o = 0 → joinO F me V o ≠ 0 → F + 1 ≤ (cGe (El.settled F T me ⟨view, V, clock⟩).votes (joinO F me V o) : Int)) := by
  obtain ⟨⟨r1, r2, r3, r4⟩, hn, hme⟩ := hs
  have hl := hV.1
  have hme' : me < V.length := by omega
  have hJ := hV.2 _ (nthI_mem V (F + 1) (by omega) (by omega))
  have hjv : OkVotes N (joined F me V) := by
    rw [joined]
    split
    · exact hV.set me hJ
    · exact hV
  have hU := hjv.2 _ (nthI_mem (joined F me V) (2 * F + T + 1) (by omega) (by rw [hjv.1]; omega))
  have hUc := (le_nthI (joined F me V) (2 * F + T + 1) (by omega) (by rw [hjv.1]; omega) (nthV (joined F me V) (2 * F + T + 1))).1 (Int.le_refl _)
  have hJc := (le_nthI V (F + 1) (by omega) (by omega) (nthV V (F + 1))).1 (Int.le_refl _)
  have hup := cGe_joined F me V hme' (nthV V (F + 1))
  have hjo : (joins F me V = true ∧ V.getD me 0 < nthV V (F + 1) ∧ (joined F me V).getD me 0 = nthV V (F + 1) ∧ joinO F me V o = nthV V (F + 1)) ∨ (joins F me V = false ∧ (joined F me V).getD me 0 = V.getD me 0 ∧ joinO F me V o = o) := by
    cases hj : joins F me V
    · exact .inr ⟨rfl, by rw [joined, hj]; rfl, by rw [joinO, hj]; rfl⟩
    · refine .inl ⟨rfl, by rw [joins, decide_eq_true_iff] at hj; exact hj, by rw [joined, hj, if_pos rfl, getD_set_self _ _ _ hme'], by rw [joinO, hj, if_pos rfl]⟩
  have hen : (enters F T me view V = true ∧ view < nthV (joined F me V) (2 * F + T + 1) ∧ enterV F T me view V = nthV (joined F me V) (2 * F + T + 1) ∧ enterO F T me view V 0 = nthV (joined F me V) (2 * F + T + 1) ∧ enterC F T me view V clock = 0) ∨ (enters F T me view V = false ∧ enterV F T me view V = view ∧ enterO F T me view V 0 = 0 ∧ enterC F T me view V clock = clock) := by
    cases he : enters F T me view V
    · exact .inr ⟨rfl, by rw [enterV, he]; rfl, by rw [enterO, he]; rfl, by rw [enterC, he]; rfl⟩
    · refine .inl ⟨rfl, by rw [enters, decide_eq_true_iff] at he; exact he, by rw [enterV, he, if_pos rfl], by rw [enterO, he, if_pos rfl], by rw [enterC, he, if_pos rfl]⟩
  simp only [El.settled]
  refine ⟨⟨hjv, ?_, ?_, ?_, ?_, ?_, ?_, ?_⟩, ?_, ?_, ?_⟩ <;> try simp only
  · rcases hen with ⟨_, h1, h2, _⟩ | ⟨_, h2, _⟩ <;> omega
  · rcases hen with ⟨_, h1, h2, _⟩ | ⟨_, h2, _⟩ <;> omega
  · rcases hjo with ⟨_, h1, h2, _⟩ | ⟨_, h2, _⟩ <;> omega
  · rcases hen with ⟨_, h1, h2, h3, _⟩ | ⟨_, h2, h3, _⟩ <;> omega
  · intro h
    rcases hen with ⟨_, h1, h2, h3, h4⟩ | ⟨_, h2, h3, h4⟩
    · rw [h2, h3, h4]
      exact ⟨rfl, hUc, rfl⟩
    · exact absurd h3 h
  · rcases hjo with ⟨_, h1, h2, h3⟩ | ⟨_, h2, h3⟩
    · rw [h2, h3]; omega
    · rw [h2, h3]; exact ho1
  · rcases hjo with ⟨_, h1, h2, h3⟩ | ⟨_, h2, h3⟩
    · rw [h2, h3]; exact fun _ => rfl
    · rw [h2, h3]; exact ho2
  · rcases hen with ⟨_, _, _, _, h4⟩ | ⟨_, _, _, h4⟩ <;> omega
  · rcases hen with ⟨_, _, _, _, h4⟩ | ⟨_, _, _, h4⟩ <;> omega
  · intro h0 h
    rcases hjo with ⟨_, h1, h2, h3⟩ | ⟨_, h2, h3⟩
    · rw [h3]; omega
    · rw [h3] at h; exact absurd h0 h
theorem waits_double : ∀ v ∈ waits, min (2 * v) 4096 ∈ waits := by decide
theorem waits_bd : ∀ v ∈ waits, 4 ≤ v ∧ v ≤ 4096 := by decide
theorem same_step (F T : Int) (me N : Nat) (E : El) (hV : OkVotes N E.votes) (hv : E.view ≤ 100000) (c : Int) : Step F T me N E.view (E.votes.getD me 0) ⟨E.view, E.votes, c⟩ 0 0 :=
  ⟨hV, Int.le_refl _, hv, Int.le_refl _, ⟨fun h => absurd rfl h, fun h => absurd h (Int.lt_irrefl _)⟩, fun h => absurd rfl h, ⟨fun h => absurd rfl h, fun h => absurd h (Int.lt_irrefl _)⟩, fun h => absurd rfl h⟩
theorem done_step (F T : Int) (me : Nat) (wait kind by_ x : Int) (E : El) (h : RightE F T me E.view E.votes E.clock wait) :
    Step F T me E.votes.length E.view (E.votes.getD me 0) (doneE F T me wait kind by_ x E) (doneVo F me wait kind by_ x E) (doneVi F T me wait kind by_ x E) ∧
    0 ≤ (doneE F T me wait kind by_ x E).clock ∧ (doneE F T me wait kind by_ x E).clock ≤ E.clock + 1 ∧ doneW wait kind E ∈ waits ∧
    (kind = 1 → doneVo F me wait kind by_ x E ≠ 0 → F + 1 ≤ (cGe (doneE F T me wait kind by_ x E).votes (doneVo F me wait kind by_ x E) : Int)) := by
  obtain ⟨hR, hm0, hm1, hn, hv0, hv1, hc, hall, hw⟩ := h
  have hs : SizeOk F T me E.votes.length := ⟨hR, hn, by omega⟩
  have hV : OkVotes E.votes.length E.votes := ⟨rfl, hall⟩
  have hme := hV.getD hs.hme
  have same := fun c => same_step F T me E.votes.length E hV hv1 c
  by_cases k0 : kind = 0
  · subst k0
    simp only [doneE, doneW, doneVo, doneVi, if_true]
    cases he : early wait E
    · have hmv : mineV me E = min (max (E.votes.getD me 0) E.view + 1) 100000 := rfl
      have hmb : 0 ≤ mineV me E ∧ mineV me E ≤ 100000 := by rw [hmv]; omega
      have htv : OkVotes E.votes.length (tickVotes me E) := by
        rw [tickVotes]
        split
        · exact hV.set me hmb
        · exact hV
      have hto : (E.votes.getD me 0 < mineV me E ∧ (tickVotes me E).getD me 0 = mineV me E ∧ tickO me E = mineV me E) ∨ ((tickVotes me E).getD me 0 = E.votes.getD me 0 ∧ tickO me E = 0) := by
        by_cases hlt : E.votes.getD me 0 < mineV me E
        · exact .inl ⟨hlt, by rw [tickVotes, if_pos hlt, getD_set_self _ _ _ hs.hme], by rw [tickO, if_pos hlt]⟩
        · exact .inr ⟨by rw [tickVotes, if_neg hlt], by rw [tickO, if_neg hlt]⟩
      have key := settled_step F T me E.votes.length hs E.view 0 (E.votes.getD me 0) (tickO me E) (tickVotes me E) htv ⟨hv0, hv1⟩ (by omega) ⟨hme.1, by rcases hto with ⟨a, b, _⟩ | ⟨b, _⟩ <;> omega⟩
        (by rcases hto with ⟨a, b, c⟩ | ⟨b, c⟩ <;> rw [b, c] <;> omega) (by rcases hto with ⟨a, b, c⟩ | ⟨b, c⟩ <;> rw [b, c] <;> omega)
      have e1 : tickE F T me wait E = El.settled F T me ⟨E.view, tickVotes me E, 0⟩ := by rw [tickE, he]; rfl
      have e2 : tickVo F me wait E = joinO F me (tickVotes me E) (tickO me E) := by rw [tickVo, he]; rfl
      have e3 : tickVi F T me wait E = enterO F T me E.view (tickVotes me E) 0 := by rw [tickVi, he]; rfl
      have e4 : tickW wait E = min (2 * wait) 4096 := by rw [tickW, he]; rfl
      rw [e1, e2, e3, e4]
      exact ⟨key.1, key.2.1, by have := key.2.2.1; omega, waits_double _ hw, fun h => absurd h (by decide)⟩
    · have e1 : tickE F T me wait E = ⟨E.view, E.votes, E.clock + 1⟩ := by rw [tickE, he]; rfl
      have e2 : tickVo F me wait E = 0 := by rw [tickVo, he]; rfl
      have e3 : tickVi F T me wait E = 0 := by rw [tickVi, he]; rfl
      have e4 : tickW wait E = wait := by rw [tickW, he]; rfl
      rw [e1, e2, e3, e4]
      exact ⟨same _, by simp only; omega, by simp only; omega, hw, fun h => absurd h (by decide)⟩
  · by_cases k1 : kind = 1
    · subst k1
      simp only [doneE, doneW, doneVo, doneVi, if_true, if_neg k0]
      cases hok : hearOk me by_ x E.votes
      · have e1 : hearE F T me by_ x E = ⟨E.view, E.votes, E.clock⟩ := by rw [hearE, hok]; rfl
        have e2 : hearVo F me by_ x E = 0 := by rw [hearVo, hok]; rfl
        have e3 : hearVi F T me by_ x E = 0 := by rw [hearVi, hok]; rfl
        rw [e1, e2, e3]
        exact ⟨same _, hc, by simp only; omega, hw, fun _ h => absurd rfl h⟩
      · have e1 : hearE F T me by_ x E = El.settled F T me ⟨E.view, E.votes.set by_.toNat x, E.clock⟩ := by rw [hearE, hok]; rfl
        have e2 : hearVo F me by_ x E = joinO F me (E.votes.set by_.toNat x) 0 := by rw [hearVo, hok]; rfl
        have e3 : hearVi F T me by_ x E = enterO F T me E.view (E.votes.set by_.toNat x) 0 := by rw [hearVi, hok]; rfl
        rw [hearOk, decide_eq_true_iff] at hok
        obtain ⟨g0, g1, g2, g3, g4⟩ := hok
        have hb := hV.getD (i := by_.toNat) (by omega)
        have hse : (E.votes.set by_.toNat x).getD me 0 = E.votes.getD me 0 := getD_set_ne _ _ _ _ (by omega)
        have key := settled_step F T me E.votes.length hs E.view E.clock (E.votes.getD me 0) 0 (E.votes.set by_.toNat x) (hV.set _ ⟨by omega, g3⟩) ⟨hv0, hv1⟩ hc ⟨hme.1, by rw [hse]; exact Int.le_refl _⟩ (by rw [hse]; omega) (fun h => absurd rfl h)
        rw [e1, e2, e3]
        exact ⟨key.1, key.2.1, by have := key.2.2.1; omega, hw, fun _ h => key.2.2.2 rfl h⟩
    · by_cases k2 : kind = 2
      · subst k2
        simp only [doneE, doneW, doneVo, doneVi, if_true, if_neg k0, if_neg k1]
        exact ⟨same _, by omega, by omega, by decide, fun h => absurd h (by decide)⟩
      · simp only [doneE, doneW, doneVo, doneVi, if_neg k0, if_neg k1, if_neg k2]
        exact ⟨same E.clock, hc, by omega, hw, fun h => absurd h k1⟩
theorem done_right (F T : Int) (me : Nat) (wait kind by_ x : Int) (E : El) (h : RightE F T me E.view E.votes E.clock wait) :
    RightE F T me (doneE F T me wait kind by_ x E).view (doneE F T me wait kind by_ x E).votes (doneE F T me wait kind by_ x E).clock (doneW wait kind E) := by
  obtain ⟨a, b, _, c, _⟩ := done_step F T me wait kind by_ x E h
  obtain ⟨hR, hm0, hm1, hn, hv0, hv1, hc, hall, hw⟩ := h
  exact ⟨hR, hm0, hm1, by rw [a.votes.1]; exact hn, by have := a.v0; omega, a.v1, b, a.votes.2, c⟩
end Go.Proofs.Ytgkhgjoggkcklaa

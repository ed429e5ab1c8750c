/- A region that draws its order and whose last operation waits for all the others: the others first, by a law of their own, then the last. No condition. -/
import Derived.Test.YtcnelahmbfggcaaWild
namespace Go.Proofs.Ytcnelahmbfggcaa
open Go Go.RowKit
set_option maxRecDepth 100000
namespace Wild

def backB (ops : Array Oper) : Bool := (List.range ops.size).all fun k => match ops[k]? with | some o => o.after.all fun e => !Region.binds .any e || decide (e.on < k) | none => true
def lastB (l : List Oper) (o : Oper) : Bool :=
  backB (l ++ [o]).toArray &&
  ((List.range l.length).all fun k => (List.range (l.length + 1)).any fun m => decide (k < m) && waits (l ++ [o]).toArray m k) &&
  l.all fun o' => match o'.guard with | some (g, _) => decide (g < l.length) | none => true

section
variable {P : Program} {l : List Oper} {o : Oper}
theorem full_lt {k : Nat} (hk : k < l.length) : (l ++ [o]).toArray[k]? = l.toArray[k]? := by simp [List.getElem?_append_left hk]
theorem full_last : (l ++ [o]).toArray[l.length]? = some o := by simp
theorem waits_lt {k m : Nat} (hk : k < l.length) : waits (l ++ [o]).toArray k m = waits l.toArray k m := by unfold waits; rw [full_lt hk]
theorem back_of {ops : Array Oper} (h : backB ops = true) (k : Nat) (p : Oper) (hp : ops[k]? = some p) : ∀ e ∈ p.after, Region.binds .any e = true → e.on < k := by
  intro e he hb
  have hk : k < ops.size := (Array.getElem?_eq_some_iff.1 hp).1
  have h1 := List.all_eq_true.1 h k (List.mem_range.2 hk)
  rw [hp] at h1
  have h2 := Array.all_eq_true_iff_forall_mem.1 h1 e he
  simp only [hb, Bool.not_true, Bool.false_or, decide_eq_true_eq] at h2
  exact h2
theorem waits_of {ops : Array Oper} {k : Nat} {p : Oper} (hp : ops[k]? = some p) : ∀ e ∈ p.after, Region.binds .any e = true → waits ops k e.on = true := by
  intro e he hb
  unfold waits
  rw [hp]
  exact Array.any_eq_true'.2 ⟨e, he, by simp [hb]⟩

theorem none_left {ops : Array Oper} (hb : backB ops = true) {listed : Array Bool} (hs : listed.size = ops.size) (hr : Region.ready .any ops listed = []) : ∀ k, k < ops.size → listed.getD k false = true := by
  intro k
  induction k using Nat.strongRecOn with
  | _ k ih =>
    intro hk
    by_cases hl : listed.getD k false = true
    · exact hl
    · have : k ∈ Region.ready .any ops listed := mem_ready.2 ⟨(unlisted (by rw [hs]; exact hk)).2 hl, ops[k], by simp [hk], fun e he hb' => by
        have hlt := back_of hb k ops[k] (by simp [hk]) e he hb'
        exact ih e.on hlt (by omega)⟩
      rw [hr] at this
      cases this
theorem push_getD {listed : Array Bool} {k : Nat} (hk : k < listed.size) (d : Bool) : (listed.push false).getD k d = listed.getD k d := by
  simp [Array.getElem?_push, Nat.ne_of_lt hk]
theorem push_last {listed : Array Bool} (d : Bool) : (listed.push false).getD listed.size d = false := by simp
theorem set_push {listed : Array Bool} {k : Nat} (hk : k < listed.size) : (listed.push false).setIfInBounds k true = (listed.setIfInBounds k true).push false := by
  apply Array.ext_getElem?
  intro i
  by_cases e : k = i
  · subst e
    rw [Array.getElem?_push, Array.getElem?_setIfInBounds_self_of_lt (by simp; omega)]
    simp [Nat.ne_of_lt hk, hk]
  · rw [Array.getElem?_setIfInBounds_ne e, Array.getElem?_push, Array.getElem?_push, Array.getElem?_setIfInBounds_ne e, Array.size_setIfInBounds]

theorem backB_left (h : backB (l ++ [o]).toArray = true) : backB l.toArray = true := by
  unfold backB at *
  refine List.all_eq_true.2 fun k hk => ?_
  have hk' : k < l.length := by simpa using hk
  have := List.all_eq_true.1 h k (List.mem_range.2 (by simp; omega))
  rwa [full_lt hk'] at this

/-- all are listed as soon as the last is ready -/
theorem all_of_last (h : lastB l o = true) {listed : Array Bool} (hcl : ∀ k m, listed.getD k false = true → waits l.toArray k m = true → listed.getD m false = true)
    (hready : ∀ m, waits (l ++ [o]).toArray l.length m = true → listed.getD m false = true) : ∀ d k, k < l.length → l.length - k ≤ d → listed.getD k false = true
  | 0, k, hk, hd => by omega
  | d + 1, k, hk, hd => by
    unfold lastB at h
    simp only [Bool.and_eq_true] at h
    obtain ⟨m, hm, hw⟩ := List.any_eq_true.1 (List.all_eq_true.1 h.1.2 k (List.mem_range.2 hk))
    simp only [Bool.and_eq_true, decide_eq_true_eq] at hw
    have hm' := List.mem_range.1 hm
    by_cases e : m = l.length
    · subst e; exact hready k hw.2
    · have h1 := all_of_last (by unfold lastB; simp only [Bool.and_eq_true]; exact h) hcl hready d m (by omega) (by omega)
      have h2 := hw.2
      rw [waits_lt (by omega)] at h2
      exact hcl m k h1 h2

theorem upto_Q {p : Oper} {a : Act} {w : World} {K K' : Act → World → Prop} {R : Act → World → Prop} {Q : Exit → Act → World → Prop} (hK : ∀ a w, K a w → K' a w)
    (hh : p.wp P a w K (fun e a w => e = .normal ∧ R a w)) : p.wp P a w K' Q := by
  unfold Oper.wp at *
  generalize (execOp a.eval p).run P w = r at *
  cases r with
  | ok n w' =>
    cases n <;> simp only [Oper.upon] at hh ⊢
    case value u => exact hK _ _ hh
    case skip => exact hK _ _ hh
    case defer d => exact hK _ _ hh
    case enter f args =>
      refine Calls.mono hh fun e w'' he => ?_
      cases e with
      | returned v => exact hK _ _ he
      | panicked c => exact absurd he.1 (by simp)
      | outgrown => obtain ⟨_, _, h1, _⟩ := he; exact absurd h1 (by simp)
    case row row args => exact Rows.mono hh fun _ _ he => hK _ _ he
  | halt x w' => cases x <;> simp only [Oper.upon] at hh ⊢; exact absurd hh.1 (by simp)

theorem peel {Q : Exit → Act → World → Prop} (R : Act → World → Prop) (h : lastB l o = true) (hR : ∀ a w, R a w → wpOp P (l ++ [o]).toArray Q l.length (Q .normal) a w) :
    ∀ (fuel : Nat) (listed : Array Bool) (a : Act) (w : World), listed.size = l.length → (∀ k m, listed.getD k false = true → waits l.toArray k m = true → listed.getD m false = true) →
    wpAny P .any l.toArray (fun e a w => e = .normal ∧ R a w) fuel listed a w → wpAny P .any (l ++ [o]).toArray Q (fuel + 1) (listed.push false) a w := by
  have hb : backB (l ++ [o]).toArray = true := by unfold lastB at h; simp only [Bool.and_eq_true] at h; exact h.1.1
  have hguard : ∀ p ∈ l, ∀ g b, p.guard = some (g, b) → g < l.length := by
    intro p hp g b hg
    unfold lastB at h
    simp only [Bool.and_eq_true] at h
    have := List.all_eq_true.1 h.2 p hp
    rw [hg] at this
    simpa using this
  have hready_lt : ∀ (listed : Array Bool) (j : Nat), listed.size = l.length → j < l.length → (j ∈ Region.ready .any (l ++ [o]).toArray (listed.push false) ↔ j ∈ Region.ready .any l.toArray listed) := by
    intro listed j hs hj
    rw [mem_ready, mem_ready, full_lt hj, push_getD (by omega)]
    constructor
    · rintro ⟨h1, p, hp, h2⟩
      refine ⟨h1, p, hp, fun e he hbd => ?_⟩
      have := h2 e he hbd
      rwa [push_getD (by rw [hs]; have := back_of (backB_left hb) j p hp e he hbd; omega)] at this
    · rintro ⟨h1, p, hp, h2⟩
      refine ⟨h1, p, hp, fun e he hbd => ?_⟩
      rw [push_getD (by rw [hs]; have := back_of (backB_left hb) j p hp e he hbd; omega)]
      exact h2 e he hbd
  have hready_last : ∀ (listed : Array Bool), listed.size = l.length → (l.length ∈ Region.ready .any (l ++ [o]).toArray (listed.push false) ↔ ∀ m, waits (l ++ [o]).toArray l.length m = true → listed.getD m false = true) := by
    intro listed hs
    rw [mem_ready]
    constructor
    · rintro ⟨_, p, hp, h2⟩ m hm
      rw [full_last] at hp
      cases hp
      obtain ⟨p', hp', e, he, hbd, hon⟩ := waits_spec hm
      rw [full_last] at hp'
      cases hp'
      have := h2 e he hbd
      rw [push_getD (by rw [hs]; exact back_of hb l.length _ full_last e he hbd)] at this
      rw [← hon]
      exact this
    · intro h2
      refine ⟨by rw [← hs]; exact push_last true, o, full_last, fun e he hbd => ?_⟩
      rw [push_getD (by rw [hs]; exact back_of hb l.length _ full_last e he hbd)]
      exact h2 e.on (waits_of full_last e he hbd)
  have hlt : ∀ (listed : Array Bool) (j : Nat), j ∈ Region.ready .any (l ++ [o]).toArray (listed.push false) → j < l.length ∨ j = l.length := by
    intro listed j hj
    obtain ⟨_, p, hp, _⟩ := mem_ready.1 hj
    have := (Array.getElem?_eq_some_iff.1 hp).1
    simp at this
    omega
  -- the last one: the others are all listed
  have last : ∀ (fuel : Nat) (listed : Array Bool) (a : Act) (w : World), listed.size = l.length → (∀ k, k < l.length → listed.getD k false = true) → R a w → wpOp P (l ++ [o]).toArray Q l.length (wpAny P .any (l ++ [o]).toArray Q fuel ((listed.push false).setIfInBounds l.length true)) a w := by
    intro fuel listed a w hs hall hr
    have hnil : Region.ready .any (l ++ [o]).toArray ((listed.push false).setIfInBounds l.length true) = [] := by
      cases hr : Region.ready .any (l ++ [o]).toArray ((listed.push false).setIfInBounds l.length true) with
      | nil => rfl
      | cons x xs =>
        have hx : x ∈ Region.ready .any (l ++ [o]).toArray ((listed.push false).setIfInBounds l.length true) := by rw [hr]; exact List.mem_cons_self
        obtain ⟨h1, p, hp, _⟩ := mem_ready.1 hx
        have hxn := (Array.getElem?_eq_some_iff.1 hp).1
        simp only [List.size_toArray, List.length_append, List.length_singleton] at hxn
        by_cases e : x = l.length
        · subst e
          simp [hs] at h1
        · rw [getD_set_ne true (fun e' => e e'.symm), push_getD (by omega)] at h1
          exact absurd (hall x (by omega)) ((unlisted (by omega)).1 h1)
    refine wpOp_mono (fun a' w' hq => ?_) (hR a w hr)
    cases fuel with
    | zero => exact ⟨hnil, hq⟩
    | succ f => exact ⟨fun _ => hq, fun i hi => by rw [hnil] at hi; cases hi⟩
  have notnil : ∀ (listed : Array Bool), listed.size = l.length → Region.ready .any (l ++ [o]).toArray (listed.push false) ≠ [] := by
    intro listed hs hnil
    have hall := none_left (backB_left hb) (by simpa using hs) (by
      cases hr : Region.ready .any l.toArray listed with
      | nil => rfl
      | cons x xs =>
        have hx : x ∈ Region.ready .any l.toArray listed := by rw [hr]; exact List.mem_cons_self
        obtain ⟨_, p, hp, _⟩ := mem_ready.1 hx
        have := (hready_lt listed x hs (by simpa using (Array.getElem?_eq_some_iff.1 hp).1)).2 hx
        rw [hnil] at this
        cases this)
    have := (hready_last listed hs).2 fun m hm => by
      obtain ⟨p', hp', e, he, hbd, hon⟩ := waits_spec hm
      rw [full_last] at hp'
      cases hp'
      exact hall m (by have := back_of hb l.length _ full_last e he hbd; simpa [← hon] using this)
    rw [hnil] at this
    cases this
  intro fuel
  induction fuel with
  | zero =>
    intro listed a w hs hcl hw
    refine ⟨fun hn => absurd hn (notnil listed hs), fun i hi => ?_⟩
    rcases hlt listed i hi with hlt' | rfl
    · have := (hready_lt listed i hs hlt').1 hi
      rw [hw.1] at this
      cases this
    · exact last 0 listed a w hs (fun k hk => all_of_last h hcl ((hready_last listed hs).1 hi) _ k hk (Nat.le_refl _)) hw.2.2
  | succ fuel ih =>
    intro listed a w hs hcl hw
    refine ⟨fun hn => absurd hn (notnil listed hs), fun i hi => ?_⟩
    rcases hlt listed i hi with hlt' | rfl
    · have hi' := (hready_lt listed i hs hlt').1 hi
      have hop := hw.2 i hi'
      obtain ⟨hun, p, hp, haft⟩ := mem_ready.1 hi'
      have hK : ∀ a' w', wpAny P .any l.toArray (fun e a w => e = .normal ∧ R a w) fuel (listed.setIfInBounds i true) a' w' → wpAny P .any (l ++ [o]).toArray Q (fuel + 1) ((listed.push false).setIfInBounds i true) a' w' := by
        intro a' w' hk
        rw [set_push (by omega)]
        refine ih _ a' w' (by simpa using hs) (fun k m hk' hwt => ?_) hk
        rw [getD_set_iff (by omega)] at hk' ⊢
        rcases hk' with rfl | hk'
        · obtain ⟨p', hp', e, he, hbd, hon⟩ := waits_spec hwt
          rw [hp] at hp'
          cases hp'
          rw [← hon]
          exact .inr (haft e he hbd)
        · exact .inr (hcl k m hk' hwt)
      unfold wpOp at hop ⊢
      rw [full_lt hlt', hp]
      simp only [hp] at hop
      have hyd : Region.wanted p (yielded (l ++ [o]).toArray a.tmps) = Region.wanted p (yielded l.toArray a.tmps) := by
        unfold Region.wanted
        cases hg : p.guard with
        | none => rfl
        | some gb =>
          obtain ⟨g, b⟩ := gb
          have hgl := hguard p (by
            have := (Array.getElem?_eq_some_iff.1 hp)
            obtain ⟨h1, h2⟩ := this
            rw [← h2]
            simp) g b hg
          simp only [yielded, full_lt hgl]
      simp only [hyd]
      split
      · rename_i hwa
        rw [if_pos hwa] at hop
        rcases hop with hop | ⟨_, _, _, h1, _⟩
        · exact .inl (upto_Q hK hop)
        · exact absurd h1 (by simp)
      · rename_i hwa
        rw [if_neg hwa] at hop
        exact hK _ _ hop
    · have hall := fun k hk => all_of_last h hcl ((hready_last listed hs).1 hi) _ k hk (Nat.le_refl _)
      refine last (fuel + 1) listed a w hs hall (hw.1 ?_).2
      cases hr : Region.ready .any l.toArray listed with
      | nil => rfl
      | cons x xs =>
        have hx : x ∈ Region.ready .any l.toArray listed := by rw [hr]; exact List.mem_cons_self
        obtain ⟨h1, p, hp, _⟩ := mem_ready.1 hx
        have hxn : x < l.length := by simpa using (Array.getElem?_eq_some_iff.1 hp).1
        exact absurd (hall x hxn) ((unlisted (by omega)).1 h1)
/-- THE LAW, with a last operation behind all the others. -/
theorem region_tail {id : Nat} {Q : Exit → Act → World → Prop} {a : Act} {w : World} {m : List Oper} (n : Nat) (S : Spec) (C : World → Prop) (G : World → World → Prop) (hn : m.length = n + 1) (ho : m[n]? = some o) (hg : o.guard = none) (hm : P.follows .mixedOrders = true) (hB : okB (m.take n).toArray S.use = true) (hL : lastB (m.take n) o = true)
    (hC : C w.drew) (hG : ∀ k vs w w', S.fact k vs w → G w w' → S.fact k vs w')
    (hloc : ∀ k (vs vs' : Nat → Value) w, vs k = vs' k → (∀ m ∈ S.use k, (S.pure m).isSome = true → vs m = vs' m) → S.fact k vs w → S.fact k vs' w)
    (hd : ∀ k p, S.pure k = some p → p (S.dflt k))
    (h : ∀ vs : Nat → Value, (∀ k p, S.pure k = some p → p (vs k)) → walk P (m.take n).toArray C G S vs (fun a' => ∀ w', C w' → (∀ j, (S.pure j).isSome = true → j < n → S.fact j vs w') → o.wp P a' w' (Q .normal) Q) (m.take n) 0 a) : (Code.region id m.toArray true).wp P Q a w := by
  have hlen : (m.take n).length = n := by rw [List.length_take, hn]; omega
  have e : m = m.take n ++ [o] := by
    obtain ⟨h1, h2⟩ := List.getElem?_eq_some_iff.1 ho
    conv => lhs; rw [← List.take_append_drop n m]
    congr 1
    rw [List.drop_eq_getElem_cons h1, h2, List.drop_eq_nil_of_le (by omega)]
  generalize m.take n = l at *
  subst e
  have hok := ok_of hB
  have hw : ∀ p : Act, Region.wanted o (yielded (l ++ [o]).toArray p.tmps) = true := fun p => by simp [Region.wanted, hg]
  refine wp_region_any hm ?_
  have := peel (P := P) (Q := Q) (fun a' w' => o.wp P a' w' (Q .normal) Q) hL (fun a' w' hq => by
    unfold wpOp
    rw [full_last]
    simp only [hw, if_true]
    exact .inl hq) l.length (Array.replicate l.length false) a w.drew (by simp) (fun k m hk => absurd hk (by rw [getD_replicate_false]; exact Bool.false_ne_true))
    (any_of_inv (a0 := a) hok hG hloc hd (fun vs hvs => by
      obtain ⟨u', _, h2, h3⟩ := walk_steps P l.toArray C G S vs _ a l 0 (fun _ => undef) (fun j => by simp) (h vs hvs)
      refine ⟨u', fun j o ho => h2 j (Nat.zero_le _) o ho, fun w' hc hf => ⟨rfl, ?_⟩⟩
      have := h3 w' hc (fun j hp hj => hf j hp (by simpa [hlen] using hj))
      simpa using this) _ _ (fun _ => undef) _ _ (by simpa using left_le l.toArray.size (Array.replicate l.length false)) ⟨hC, by simp, fun k m hk => absurd hk (by rw [getD_replicate_false]; exact Bool.false_ne_true), fun k hk => absurd hk (by rw [getD_replicate_false]; exact Bool.false_ne_true), fun k p hk => absurd hk (by rw [getD_replicate_false]; exact Bool.false_ne_true), fun vs u' _ _ _ k hk => absurd hk (by rw [getD_replicate_false]; exact Bool.false_ne_true), ⟨rfl, rfl, fun k t hk => absurd hk (by rw [getD_replicate_false]; exact Bool.false_ne_true), fun _ _ => rfl⟩⟩)
  rw [show (l ++ [o]).toArray.size = l.length + 1 by simp, Array.replicate_succ]
  exact this
theorem wp_never {p : Oper} {a : Act} {w : World} {K : Act → World → Prop} {Q : Exit → Act → World → Prop} (h : p.wp P a w K (fun _ _ _ => False)) : p.wp P a w (fun a w => True ∧ K a w) Q := by
  have h' : p.wp P a w K (fun e a w => e = .normal ∧ (fun _ _ => False) a w) := by
    unfold Oper.wp at *
    generalize (execOp a.eval p).run P w = r at *
    cases r with
    | ok n w' =>
      cases n <;> simp only [Oper.upon] at h ⊢ <;> try exact h
      case enter f args =>
        refine Calls.mono h fun e w'' he => ?_
        cases e with
        | returned v => exact he
        | panicked c => exact he.elim
        | outgrown => obtain ⟨_, _, h1⟩ := he; exact h1.elim
    | halt x w' => cases x <;> simp only [Oper.upon] at h ⊢
  exact upto_Q (fun a w hk => ⟨trivial, hk⟩) h'
/-- .. and two last operations, one behind the other -/
theorem region_tail2 {id : Nat} {Q : Exit → Act → World → Prop} {a : Act} {w : World} {m : List Oper} {o2 : Oper} (n : Nat) (S : Spec) (C : World → Prop) (G : World → World → Prop) (hn : m.length = n + 2) (ho : m[n]? = some o) (ho2 : m[n + 1]? = some o2) (hg : o.guard = none) (hg2 : o2.guard = none) (hm : P.follows .mixedOrders = true)
    (hB : okB (m.take n).toArray S.use = true) (hL : lastB (m.take n) o = true) (hL2 : lastB (m.take n ++ [o]) o2 = true)
    (hC : C w.drew) (hG : ∀ k vs w w', S.fact k vs w → G w w' → S.fact k vs w')
    (hloc : ∀ k (vs vs' : Nat → Value) w, vs k = vs' k → (∀ m ∈ S.use k, (S.pure m).isSome = true → vs m = vs' m) → S.fact k vs w → S.fact k vs' w)
    (hd : ∀ k p, S.pure k = some p → p (S.dflt k))
    (h : ∀ vs : Nat → Value, (∀ k p, S.pure k = some p → p (vs k)) → walk P (m.take n).toArray C G S vs (fun a' => ∀ w', C w' → (∀ j, (S.pure j).isSome = true → j < n → S.fact j vs w') → o.wp P a' w' (fun a2 w2 => o2.wp P a2 w2 (Q .normal) Q) (fun _ _ _ => False)) (m.take n) 0 a) : (Code.region id m.toArray true).wp P Q a w := by
  have hlen : (m.take n).length = n := by rw [List.length_take, hn]; omega
  have e : m = (m.take n ++ [o]) ++ [o2] := by
    obtain ⟨h1, h2⟩ := List.getElem?_eq_some_iff.1 ho
    obtain ⟨h3, h4⟩ := List.getElem?_eq_some_iff.1 ho2
    conv => lhs; rw [← List.take_append_drop n m]
    rw [List.append_assoc]
    congr 1
    rw [List.drop_eq_getElem_cons h1, h2, List.drop_eq_getElem_cons h3, h4, List.drop_eq_nil_of_le (by omega)]
    rfl
  generalize m.take n = l at *
  subst e
  have hok := ok_of hB
  have hw : ∀ p : Act, Region.wanted o (yielded (l ++ [o]).toArray p.tmps) = true := fun p => by simp [Region.wanted, hg]
  have hw2 : ∀ p : Act, Region.wanted o2 (yielded ((l ++ [o]) ++ [o2]).toArray p.tmps) = true := fun p => by simp [Region.wanted, hg2]
  refine wp_region_any hm ?_
  have no : ∀ k m, (Array.replicate l.length false).getD k false = true → waits l.toArray k m = true → (Array.replicate l.length false).getD m false = true := fun k m hk => absurd hk (by rw [getD_replicate_false]; exact Bool.false_ne_true)
  have h1 := peel (P := P) (Q := fun e a2 w2 => e = .normal ∧ o2.wp P a2 w2 (Q .normal) Q) (fun a' w' => o.wp P a' w' (fun a2 w2 => o2.wp P a2 w2 (Q .normal) Q) (fun _ _ _ => False)) hL (fun a' w' hq => by
    unfold wpOp
    rw [full_last]
    simp only [hw, if_true]
    exact .inl (wp_never hq)) l.length (Array.replicate l.length false) a w.drew (by simp) no
    (any_of_inv (a0 := a) hok hG hloc hd (fun vs hvs => by
      obtain ⟨u', _, h2, h3⟩ := walk_steps P l.toArray C G S vs _ a l 0 (fun _ => undef) (fun j => by simp) (h vs hvs)
      refine ⟨u', fun j o ho => h2 j (Nat.zero_le _) o ho, fun w' hc hf => ⟨rfl, ?_⟩⟩
      have := h3 w' hc (fun j hp hj => hf j hp (by simpa [hlen] using hj))
      simpa using this) _ _ (fun _ => undef) _ _ (by simpa using left_le l.toArray.size (Array.replicate l.length false)) ⟨hC, by simp, no, fun k hk => absurd hk (by rw [getD_replicate_false]; exact Bool.false_ne_true), fun k p hk => absurd hk (by rw [getD_replicate_false]; exact Bool.false_ne_true), fun vs u' _ _ _ k hk => absurd hk (by rw [getD_replicate_false]; exact Bool.false_ne_true), ⟨rfl, rfl, fun k t hk => absurd hk (by rw [getD_replicate_false]; exact Bool.false_ne_true), fun _ _ => rfl⟩⟩)
  rw [← Array.replicate_succ] at h1
  have h2 := peel (P := P) (Q := Q) (fun a' w' => o2.wp P a' w' (Q .normal) Q) hL2 (fun a' w' hq => by
    unfold wpOp
    rw [full_last]
    simp only [hw2, if_true]
    exact .inl hq) (l.length + 1) (Array.replicate (l.length + 1) false) a w.drew (by simp) (fun k m hk => absurd hk (by rw [getD_replicate_false]; exact Bool.false_ne_true)) h1
  rw [show ((l ++ [o]) ++ [o2]).toArray.size = l.length + 1 + 1 by simp, Array.replicate_succ]
  exact h2
end
end Wild
end Go.Proofs.Ytcnelahmbfggcaa

/- A region that draws its order and whose operations only read or make memory, some of them (calls, allocations) leaving a value that hangs on the world: one walk of the text's order serves every order. No condition beyond those stated. -/
import Derived.Test.YtcnelahmbfggcaaKit
namespace Go.Proofs.Ytcnelahmbfggcaa
open Go Go.RowKit
set_option maxRecDepth 100000
namespace Wild

/-- what is asked of a region, of the facts' reach ('use': of which operations' facts a step may make use) -/
def waits (ops : Array Oper) (k m : Nat) : Bool := match ops[k]? with
  | some o => o.after.any fun e => Region.binds .any e && e.on == m
  | none => false
def dstOf (ops : Array Oper) (k : Nat) : Option Tmp := (ops[k]?).bind (·.dst)
def looks (ops : Array Oper) (k : Nat) : List Tmp := match ops[k]? with
  | some o => o.looksAt ops
  | none => []
def okB (ops : Array Oper) (use : Nat → List Nat) : Bool :=
  Region.noSelect ops && (List.range ops.size).all fun k =>
    (match ops[k]? with | some o => o.after.all fun e => !Region.binds .any e || decide (e.on < k) | none => true) &&
    ((use k).all fun m => decide (m < k) && (waits ops k m || (List.range k).any fun e => waits ops k e && (use e).contains m)) &&
    (List.range ops.size).all fun m => m == k ||
      (((dstOf ops m).isNone || dstOf ops m != dstOf ops k) &&
      ((looks ops k).all fun t => dstOf ops m != some t || (decide (m < k) && waits ops k m) || (decide (k < m) && waits ops m k)))

theorem waits_spec {ops : Array Oper} {k m : Nat} (h : waits ops k m = true) : ∃ o, ops[k]? = some o ∧ ∃ e ∈ o.after, Region.binds .any e = true ∧ e.on = m := by
  unfold waits at h
  split at h
  · rename_i o ho
    obtain ⟨e, he, hb⟩ := Array.any_eq_true'.1 h
    simp only [Bool.and_eq_true, beq_iff_eq] at hb
    exact ⟨o, ho, e, he, hb.1, hb.2⟩
  · cases h

structure Ok (ops : Array Oper) (use : Nat → List Nat) : Prop where
  sel : Region.noSelect ops = true
  back : ∀ k o, ops[k]? = some o → ∀ e ∈ o.after, Region.binds .any e = true → e.on < k
  lt : ∀ k, k < ops.size → ∀ m ∈ use k, m < k
  reach : ∀ k, k < ops.size → ∀ m ∈ use k, waits ops k m = true ∨ ∃ e, e < k ∧ waits ops k e = true ∧ m ∈ use e
  one : ∀ k m, k < ops.size → m < ops.size → m ≠ k → ∀ t, dstOf ops m = some t → dstOf ops k ≠ some t
  hazard : ∀ k m, k < ops.size → m < ops.size → m ≠ k → ∀ t ∈ looks ops k, dstOf ops m = some t → (m < k ∧ waits ops k m = true) ∨ (k < m ∧ waits ops m k = true)

theorem ok_of {ops : Array Oper} {use : Nat → List Nat} (h : okB ops use = true) : Ok ops use := by
  unfold okB at h
  simp only [Bool.and_eq_true] at h
  obtain ⟨hs, ha⟩ := h
  have H : ∀ k, k < ops.size → _ := fun k hk => List.all_eq_true.1 ha k (List.mem_range.2 hk)
  simp only [Bool.and_eq_true] at H
  refine ⟨hs, fun k o ho e he hb => ?_, fun k hk m hm => ?_, fun k hk m hm => ?_, fun k m hk hm hne t ht hkt => ?_, fun k m hk hm hne t ht hd => ?_⟩
  · have hk : k < ops.size := (Array.getElem?_eq_some_iff.1 ho).1
    have h1 := (H k hk).1.1
    rw [ho] at h1
    have h2 := Array.all_eq_true_iff_forall_mem.1 h1 e he
    simp only [hb, Bool.not_true, Bool.false_or, decide_eq_true_eq] at h2
    exact h2
  · have h1 := List.all_eq_true.1 (H k hk).1.2 m hm
    simp only [Bool.and_eq_true, decide_eq_true_eq] at h1
    exact h1.1
  · have h1 := List.all_eq_true.1 (H k hk).1.2 m hm
    simp only [Bool.and_eq_true, Bool.or_eq_true] at h1
    rcases h1.2 with h2 | h2
    · exact .inl h2
    · obtain ⟨e, he, h3⟩ := List.any_eq_true.1 h2
      simp only [Bool.and_eq_true, List.contains_iff_mem] at h3
      exact .inr ⟨e, List.mem_range.1 he, h3.1, h3.2⟩
  · have h1 := List.all_eq_true.1 (H k hk).2 m (List.mem_range.2 hm)
    simp only [Bool.or_eq_true, Bool.and_eq_true, beq_iff_eq, hne, false_or] at h1
    have h2 := h1.1
    rw [ht, hkt] at h2
    simp at h2
  · have h1 := List.all_eq_true.1 (H k hk).2 m (List.mem_range.2 hm)
    simp only [Bool.or_eq_true, Bool.and_eq_true, beq_iff_eq, hne, false_or] at h1
    have h2 := List.all_eq_true.1 h1.2 t ht
    rw [hd] at h2
    simp only [Bool.or_eq_true, Bool.and_eq_true, decide_eq_true_eq] at h2
    rcases h2 with (h2 | h2) | h2
    · simp at h2
    · exact .inl h2
    · exact .inr h2

section
variable (P : Program) (ops : Array Oper) (C : World → Prop) (G : World → World → Prop)
/-- the operations whose values hang on the world: what their values are in any world, a value that is so, and what holds of the value in the world -/
structure Spec where
  pure : Nat → Option (Value → Prop)
  dflt : Nat → Value
  fact : Nat → (Nat → Value) → World → Prop
  use : Nat → List Nat
variable (S : Spec)

/-- in every world of the class the operation yields v and leaves the world as it is -/
def Yields0 (o : Oper) (a : Act) (C' : World → Prop) (v : Value) : Prop :=
  ∀ w, C' w → (execOp a.eval o).run P w = .ok (.value v) w ∨ ((execOp a.eval o).run P w = .ok .skip w ∧ v = undef)
/-- the class at a step -/
def At (vs : Nat → Value) (k : Nat) (w : World) : Prop := C w ∧ ∀ m ∈ S.use k, (S.pure m).isSome = true → S.fact m vs w
/-- the step of an operation whose value hangs on the world -/
def Wilds (o : Oper) (a : Act) (vs : Nat → Value) (k : Nat) (p : Value → Prop) : Prop :=
  Region.wanted o (yielded ops a.tmps) = true ∧ ∀ w, At C S vs k w → o.wp P a w (fun a' w' => ∃ v, a' = a.put o.dst v ∧ C w' ∧ G w w' ∧ p v ∧ S.fact k (fun m => if m = k then v else vs m) w') (fun _ _ _ => False)

/-- the walk in the text's order -/
def walk (vs : Nat → Value) (Q : Act → Prop) : List Oper → Nat → Act → Prop
  | [], _, a => Q a
  | o :: rest, k, a =>
    match S.pure k with
    | some p => Wilds P ops C G S o a vs k p ∧ walk vs Q rest (k + 1) (a.put o.dst (vs k))
    | none => if Region.wanted o (yielded ops a.tmps) = true then ∃ v, Yields0 P o a (At C S vs k) v ∧ walk vs Q rest (k + 1) (a.put o.dst v) else walk vs Q rest (k + 1) (a.put o.dst undef)

/-- one step of it, with its value told -/
def Step (vs : Nat → Value) (o : Oper) (k : Nat) (a : Act) (v : Value) : Prop :=
  match S.pure k with
  | some p => Wilds P ops C G S o a vs k p ∧ v = vs k
  | none => (Region.wanted o (yielded ops a.tmps) = true ∧ Yields0 P o a (At C S vs k) v) ∨ (Region.wanted o (yielded ops a.tmps) = false ∧ v = undef)

/-- the frame ahead of operation k -/
def lay (u : Nat → Value) (a : Act) : Nat → Act
  | 0 => a
  | k + 1 => (lay u a k).put (dstOf ops k) (u k)

theorem walk_steps (vs : Nat → Value) (Q : Act → Prop) (a0 : Act) : ∀ (l : List Oper) (k : Nat) (u : Nat → Value), (∀ j, l[j]? = ops[k + j]?) → walk P ops C G S vs Q l k (lay ops u a0 k) →
    ∃ u' : Nat → Value, (∀ j, j < k → u' j = u j) ∧ (∀ j, k ≤ j → ∀ o, ops[j]? = some o → Step P ops C G S vs o j (lay ops u' a0 j) (u' j)) ∧ Q (lay ops u' a0 (k + l.length))
  | [], k, u, hl, h => ⟨u, fun _ _ => rfl, fun j hj o ho => by
      have := hl (j - k); rw [show k + (j - k) = j by omega, ho] at this; simp at this, by rw [List.length_nil, Nat.add_zero]; exact h⟩
  | o :: rest, k, u, hl, h => by
    have h0 : ops[k]? = some o := by simpa using (hl 0).symm
    have hd : dstOf ops k = o.dst := by simp [dstOf, h0]
    have hrest : ∀ j, rest[j]? = ops[k + 1 + j]? := fun j => by have := hl (j + 1); simpa [Nat.add_assoc, Nat.add_comm 1 j] using this
    obtain ⟨v, hv, hw⟩ : ∃ v, Step P ops C G S vs o k (lay ops u a0 k) v ∧ walk P ops C G S vs Q rest (k + 1) ((lay ops u a0 k).put o.dst v) := by
      unfold walk at h
      unfold Step
      cases hp : S.pure k with
      | some p => simp only [hp] at h ⊢; exact ⟨_, ⟨h.1, rfl⟩, h.2⟩
      | none =>
        simp only [hp] at h ⊢
        by_cases hw : Region.wanted o (yielded ops (lay ops u a0 k).tmps) = true
        · rw [if_pos hw] at h; obtain ⟨v, h1, h2⟩ := h; exact ⟨v, .inl ⟨hw, h1⟩, h2⟩
        · rw [if_neg hw] at h; exact ⟨undef, .inr ⟨by simpa using hw, rfl⟩, h⟩
    have agree : ∀ (u1 u2 : Nat → Value) n, (∀ j, j < n → u1 j = u2 j) → lay ops u1 a0 n = lay ops u2 a0 n := by
      intro u1 u2 n
      induction n with
      | zero => intro _; rfl
      | succ n ih => intro hh; simp only [lay]; rw [ih fun j hj => hh j (by omega), hh n (by omega)]
    let u1 : Nat → Value := fun j => if j = k then v else u j
    have e1 : lay ops u1 a0 k = lay ops u a0 k := agree _ _ _ fun j hj => by simp only [u1]; rw [if_neg (by omega)]
    have e2 : lay ops u1 a0 (k + 1) = (lay ops u a0 k).put o.dst v := by simp only [lay]; rw [e1, hd]; simp [u1]
    obtain ⟨u', h1, h2, h3⟩ := walk_steps vs Q a0 rest (k + 1) u1 hrest (by rw [e2]; exact hw)
    have e3 : lay ops u' a0 k = lay ops u a0 k := agree _ _ _ fun j hj => by rw [h1 j (by omega)]; simp only [u1]; rw [if_neg (by omega)]
    refine ⟨u', fun j hj => by rw [h1 j (by omega)]; simp only [u1]; rw [if_neg (by omega)], fun j hj o' ho' => ?_, by rw [List.length_cons, show k + (rest.length + 1) = k + 1 + rest.length by omega]; exact h3⟩
    by_cases hjk : j = k
    · subst hjk
      rw [h0] at ho'
      cases ho'
      rw [e3, h1 j (by omega)]
      simpa [u1] using hv
    · exact h2 j (by omega) o' ho'
end

/-! ### The frames -/
theorem eval_same {ops : Array Oper} {a a' : Act} {o : Oper} (hs : ∀ cs b, o.op ≠ .select cs b) (h : ∀ t ∈ o.looksAt ops, a.tmps[t]? = a'.tmps[t]?) : execOp a.eval o = execOp a'.eval o :=
  execOp_congr o hs fun x hx => by
    cases x with
    | tmp t =>
      simp only [Act.eval, Array.getD_eq_getD_getElem?]
      rw [h t (List.mem_append_left _ (List.mem_filterMap.2 ⟨.tmp t, by simpa using hx, rfl⟩))]
    | _ => rfl
theorem wanted_same {ops : Array Oper} {a a' : Act} {o : Oper} (h : ∀ t ∈ o.looksAt ops, a.tmps[t]? = a'.tmps[t]?) : Region.wanted o (yielded ops a.tmps) = Region.wanted o (yielded ops a'.tmps) := by
  unfold Region.wanted
  cases hg : o.guard with
  | none => rfl
  | some gw =>
    obtain ⟨g, want⟩ := gw
    have : yielded ops a.tmps g = yielded ops a'.tmps g := by
      unfold yielded
      cases ht : (ops[g]?).bind (·.dst) with
      | none => rfl
      | some t =>
        simp only [Option.bind_some]
        rw [h t (List.mem_append_right _ (by simp [hg, ht]))]
    simp only [this]

structure Laid (ops : Array Oper) (a0 : Act) (D : Nat → Prop) (u : Nat → Value) (a : Act) : Prop where
  defers : a.defers = a0.defers
  size : a.tmps.size = a0.tmps.size
  on : ∀ k t, D k → dstOf ops k = some t → a.tmps[t]? = (a0.tmps[t]?).map fun _ => u k
  off : ∀ t, (∀ k, D k → dstOf ops k ≠ some t) → a.tmps[t]? = a0.tmps[t]?

theorem Laid.put {ops : Array Oper} {use : Nat → List Nat} (hok : Ok ops use) {a0 a : Act} {D D' : Nat → Prop} {u u' : Nat → Value} {k : Nat} (h : Laid ops a0 D u a) (hD : ∀ m, D m → m < ops.size) (hk : k < ops.size) (hkD : ¬ D k)
    (hu : ∀ m, D m → u' m = u m) (hD' : ∀ m, D' m ↔ m = k ∨ D m) : Laid ops a0 D' u' (a.put (dstOf ops k) (u' k)) := by
  cases hd : dstOf ops k with
  | none =>
    simp only [Act.put]
    refine ⟨h.defers, h.size, fun m t hm ht => ?_, fun t ht => h.off t fun m hm => ht m ((hD' m).2 (.inr hm))⟩
    rcases (hD' m).1 hm with rfl | hm'
    · rw [hd] at ht; cases ht
    · rw [hu m hm']; exact h.on m t hm' ht
  | some d =>
    simp only [Act.put]
    refine ⟨h.defers, by simp [h.size], fun m t hm ht => ?_, fun t ht => ?_⟩
    · rcases (hD' m).1 hm with rfl | hm'
      · rw [hd] at ht
        cases ht
        have hsz := h.size
        by_cases hlt : d < a0.tmps.size
        · have hlt' : d < a.tmps.size := by rw [hsz]; exact hlt
          simp [hlt, hlt']
        · have hlt' : ¬ d < a.tmps.size := by rw [hsz]; exact hlt
          simp [hlt, hlt']
      · have hne : m ≠ k := fun e => hkD (e ▸ hm')
        have hdt : d ≠ t := fun e => hok.one k m hk (hD m hm') hne t ht (by rw [hd, e])
        rw [Array.getElem?_setIfInBounds_ne hdt, hu m hm']
        exact h.on m t hm' ht
    · have hdt : d ≠ t := fun e => ht k ((hD' k).2 (.inl rfl)) (by rw [hd, e])
      rw [Array.getElem?_setIfInBounds_ne hdt]
      exact h.off t fun m hm => ht m ((hD' m).2 (.inr hm))

theorem lay_laid {ops : Array Oper} {use : Nat → List Nat} (hok : Ok ops use) (u : Nat → Value) (a0 : Act) : ∀ k, k ≤ ops.size → Laid ops a0 (fun m => m < k) u (lay ops u a0 k)
  | 0, _ => ⟨rfl, rfl, fun _ _ h => absurd h (Nat.not_lt_zero _), fun _ _ => rfl⟩
  | k + 1, hk => (lay_laid hok u a0 k (by omega)).put hok (fun m (hm : m < k) => by omega) (by omega) (Nat.lt_irrefl _) (fun _ _ => rfl) (fun m => (by omega : m < k + 1 ↔ m = k ∨ m < k))

theorem Laid.same {ops : Array Oper} {use : Nat → List Nat} (hok : Ok ops use) {a0 a a' : Act} {D D' : Nat → Prop} {u u' : Nat → Value} {k : Nat} (h : Laid ops a0 D u a) (h' : Laid ops a0 D' u' a') (hk : k < ops.size) (hD : ∀ m, D m → m < ops.size) (hD' : ∀ m, D' m → m < ops.size)
    (hon : ∀ m, m < k → waits ops k m = true → D m ∧ D' m ∧ u m = u' m) (hoff : ∀ m, k < m → waits ops m k = true → ¬ D m ∧ ¬ D' m) (hkk : ¬ D k ∧ ¬ D' k) : ∀ t ∈ looks ops k, a.tmps[t]? = a'.tmps[t]? := by
  intro t ht
  by_cases hex : ∃ m, m < ops.size ∧ dstOf ops m = some t ∧ D m
  · obtain ⟨m, hm, hmt, hDm⟩ := hex
    have hne : m ≠ k := fun e => hkk.1 (e ▸ hDm)
    rcases hok.hazard k m hk hm hne t ht hmt with hz | hz
    · obtain ⟨_, hd', hu⟩ := hon m hz.1 hz.2
      rw [h.on m t hDm hmt, h'.on m t hd' hmt, hu]
    · exact absurd hDm (hoff m hz.1 hz.2).1
  · rw [h.off t (fun m hm e => hex ⟨m, hD m hm, e, hm⟩)]
    refine (h'.off t fun m hm e => ?_).symm
    have hne : m ≠ k := fun e' => hkk.2 (e' ▸ hm)
    rcases hok.hazard k m hk (hD' m hm) hne t ht e with hz | hz
    · exact hex ⟨m, hD' m hm, e, (hon m hz.1 hz.2).1⟩
    · exact (hoff m hz.1 hz.2).2 hm

theorem Laid.eq {ops : Array Oper} {a0 a a' : Act} {D D' : Nat → Prop} {u u' : Nat → Value} (h : Laid ops a0 D u a) (h' : Laid ops a0 D' u' a') (hD : ∀ m, D m ↔ D' m) (hu : ∀ m, D m → u m = u' m) : a = a' := by
  have ht : a.tmps = a'.tmps := by
    refine Array.ext_getElem? fun t => ?_
    by_cases hex : ∃ m, D m ∧ dstOf ops m = some t
    · obtain ⟨m, hm, hmt⟩ := hex
      rw [h.on m t hm hmt, h'.on m t ((hD m).1 hm) hmt, hu m hm]
    · rw [h.off t fun m hm e => hex ⟨m, hm, e⟩, h'.off t fun m hm e => hex ⟨m, (hD m).2 hm, e⟩]
  have hd : a.defers = a'.defers := h.defers.trans h'.defers.symm
  cases a
  cases a'
  simp only at ht hd
  subst ht
  subst hd
  rfl

theorem put_same {a a' : Act} {d : Option Tmp} {u v : Value} (hs : a.tmps.size = a'.tmps.size) (h : a'.put d u = a'.put d v) : a.put d u = a.put d v := by
  cases d with
  | none => rfl
  | some d =>
    by_cases hlt : d < a'.tmps.size
    · have := congrArg (fun b : Act => b.tmps[d]?) h
      simp [Act.put, hlt] at this
      rw [this]
    · simp only [Act.put]
      have h1 : a.tmps.size ≤ d := by rw [hs]; exact Nat.le_of_not_lt hlt
      rw [Array.setIfInBounds_eq_of_size_le h1, Array.setIfInBounds_eq_of_size_le h1]

theorem put_defers' (a : Act) (d : Option Tmp) (v : Value) : (a.put d v).defers = a.defers := by cases d <;> rfl
theorem wp_transfer {P : Program} {o : Oper} {a a' : Act} {w : World} {R : Value → World → Prop} {K : Act → World → Prop} {Q : Exit → Act → World → Prop} (hs : a.tmps.size = a'.tmps.size) (he : execOp a.eval o = execOp a'.eval o)
    (h : o.wp P a' w (fun b w' => ∃ v, b = a'.put o.dst v ∧ R v w') (fun _ _ _ => False)) (hK : ∀ v w', R v w' → K (a.put o.dst v) w') : o.wp P a w K Q := by
  unfold Oper.wp at *
  rw [he]
  generalize (execOp a'.eval o).run P w = r at *
  cases r with
  | ok n w' =>
    cases n <;> simp only [Oper.upon] at h ⊢
    case value u => obtain ⟨v, hv, hR⟩ := h; rw [put_same hs hv]; exact hK v w' hR
    case skip => obtain ⟨v, hv, hR⟩ := h; rw [put_same hs hv]; exact hK v w' hR
    case defer d =>
      obtain ⟨v, hv, _⟩ := h
      have := congrArg (fun b : Act => b.defers.length) hv
      simp only [put_defers'] at this
      simp at this
    case enter f args =>
      refine Calls.mono h fun e w'' he' => ?_
      cases e with
      | returned u => obtain ⟨v, hv, hR⟩ := he'; simp only; rw [put_same hs hv]; exact hK v w'' hR
      | panicked c => exact he'.elim
      | outgrown => obtain ⟨_, _, hf⟩ := he'; exact hf.elim
    case row row args => exact Rows.mono h fun u w'' ⟨v, hv, hR⟩ => by rw [put_same hs hv]; exact hK v w'' hR
  | halt x w' => cases x <;> simp only [Oper.upon] at h

/-! ### How many are left -/
theorem filter_less {p q : Nat → Bool} : ∀ (l : List Nat) (j : Nat), j ∈ l → p j = true → q j = false → (∀ k, q k = true → p k = true) → (l.filter q).length + 1 ≤ (l.filter p).length
  | x :: l, j, hj, hp, hq, hpq => by
    have mono : (l.filter q).length ≤ (l.filter p).length := by
      clear hj
      induction l with
      | nil => simp
      | cons y l ih =>
        simp only [List.filter_cons]
        cases hy : q y with
        | true => simp [hpq y hy]; exact ih
        | false => simp only [Bool.false_eq_true, if_false]; split <;> (try simp only [List.length_cons]) <;> omega
    simp only [List.filter_cons]
    by_cases hx : j = x
    · subst hx; simp [hp, hq]; omega
    · have := filter_less l j (by simpa [hx] using hj) hp hq hpq
      cases hy : q x with
      | true => simp [hpq x hy]; exact this
      | false => simp only [Bool.false_eq_true, if_false]; split <;> (try simp only [List.length_cons]) <;> omega
def left (n : Nat) (listed : Array Bool) : Nat := ((List.range n).filter fun k => !listed.getD k true).length

theorem left_le (n : Nat) (listed : Array Bool) : left n listed ≤ n := by
  unfold left
  have := List.length_filter_le (fun k => !listed.getD k true) (List.range n)
  simpa using this

section
variable {P : Program} {ops : Array Oper} {C : World → Prop} {G : World → World → Prop} {S : Spec} {a0 : Act}

structure Inv (P : Program) (ops : Array Oper) (C : World → Prop) (G : World → World → Prop) (S : Spec) (a0 : Act) (listed : Array Bool) (u : Nat → Value) (a : Act) (w : World) : Prop where
  c : C w
  size : listed.size = ops.size
  closed : ∀ k m, listed.getD k false = true → waits ops k m = true → listed.getD m false = true
  uses : ∀ k, listed.getD k false = true → ∀ m ∈ S.use k, listed.getD m false = true
  fact : ∀ k p, listed.getD k false = true → S.pure k = some p → p (u k) ∧ S.fact k u w
  lex : ∀ vs u' : Nat → Value, (∀ k p, S.pure k = some p → p (vs k)) → (∀ k, listed.getD k false = true → (S.pure k).isSome = true → vs k = u k) →
    (∀ j o, ops[j]? = some o → Step P ops C G S vs o j (lay ops u' a0 j) (u' j)) → ∀ k, listed.getD k false = true → u' k = u k
  laid : Laid ops a0 (fun k => listed.getD k false = true) u a

theorem listed_lt {listed : Array Bool} {n k : Nat} (hs : listed.size = n) (h : listed.getD k false = true) : k < n := by
  rcases Nat.lt_or_ge k listed.size with h' | h'
  · omega
  · simp [Array.getElem?_eq_none h'] at h
theorem getD_set_iff {listed : Array Bool} {j k : Nat} (hj : j < listed.size) : (listed.setIfInBounds j true).getD k false = true ↔ k = j ∨ listed.getD k false = true := by
  by_cases h : j = k
  · subst h; simp [hj]
  · rw [getD_set_ne false h]
    exact ⟨.inr, fun h' => h'.resolve_left (fun e => h e.symm)⟩
theorem unlisted {listed : Array Bool} {j : Nat} (hj : j < listed.size) : listed.getD j true = false ↔ ¬ listed.getD j false = true := by
  simp [hj]

variable (hok : Ok ops S.use) (hG : ∀ k vs w w', S.fact k vs w → G w w' → S.fact k vs w')
  (hloc : ∀ k (vs vs' : Nat → Value) w, vs k = vs' k → (∀ m ∈ S.use k, (S.pure m).isSome = true → vs m = vs' m) → S.fact k vs w → S.fact k vs' w)
  (hd : ∀ k p, S.pure k = some p → p (S.dflt k))
include hok hG hloc hd

omit hG hd in
/-- what the text's walk says of the operation that comes up, in the frame and the world at hand -/
theorem Inv.here {listed : Array Bool} {u : Nat → Value} {a : Act} {w : World} {j : Nat} {o : Oper} (inv : Inv P ops C G S a0 listed u a w) (ho : ops[j]? = some o) (hun : ¬ listed.getD j false = true) (hall : ∀ m, waits ops j m = true → listed.getD m false = true)
    {vs u' : Nat → Value} (hvs : ∀ k p, S.pure k = some p → p (vs k)) (hag : ∀ k, listed.getD k false = true → (S.pure k).isSome = true → vs k = u k)
    (hst : ∀ j o, ops[j]? = some o → Step P ops C G S vs o j (lay ops u' a0 j) (u' j)) :
    (∀ t ∈ o.looksAt ops, a.tmps[t]? = (lay ops u' a0 j).tmps[t]?) ∧ At C S vs j w ∧ (∀ m ∈ S.use j, listed.getD m false = true) := by
  have hj : j < ops.size := (Array.getElem?_eq_some_iff.1 ho).1
  have hlk : looks ops j = o.looksAt ops := by simp [looks, ho]
  have huse : ∀ m ∈ S.use j, listed.getD m false = true := fun m hm => by
    rcases hok.reach j hj m hm with h | ⟨e, _, he, hme⟩
    · exact hall m h
    · exact inv.uses e (hall e he) m hme
  refine ⟨fun t ht => ?_, ⟨inv.c, fun m hm hp => ?_⟩, huse⟩
  · refine inv.laid.same hok (lay_laid hok u' a0 j (by omega)) hj (fun m hm => listed_lt inv.size hm) (fun m hm => by omega) (fun m hm hw => ⟨hall m hw, hm, (inv.lex vs u' hvs hag hst m (hall m hw)).symm⟩) (fun m hm hw => ⟨fun hl => hun (inv.closed m j hl hw), by omega⟩) ⟨hun, by omega⟩ t (by rw [hlk]; exact ht)
  · obtain ⟨p, hp'⟩ := Option.isSome_iff_exists.1 hp
    exact hloc m u vs w (hag m (huse m hm) hp).symm (fun m' hm' hp'' => (hag m' (inv.uses m (huse m hm) m' hm') hp'').symm) (inv.fact m p (huse m hm) hp').2

theorem any_of_inv {Q : Exit → Act → World → Prop}
    (H : ∀ vs : Nat → Value, (∀ k p, S.pure k = some p → p (vs k)) → ∃ u' : Nat → Value, (∀ j o, ops[j]? = some o → Step P ops C G S vs o j (lay ops u' a0 j) (u' j)) ∧
      ∀ w, C w → (∀ m, (S.pure m).isSome = true → m < ops.size → S.fact m vs w) → Q .normal (lay ops u' a0 ops.size) w) :
    ∀ (fuel : Nat) (listed : Array Bool) (u : Nat → Value) (a : Act) (w : World), left ops.size listed ≤ fuel → Inv P ops C G S a0 listed u a w → wpAny P .any ops Q fuel listed a w := by
  have fin : ∀ (listed : Array Bool) (u : Nat → Value) (a : Act) (w : World), Inv P ops C G S a0 listed u a w → Region.ready .any ops listed = [] → Q .normal a w := by
    intro listed u a w inv hr
    have hall : ∀ k, k < ops.size → listed.getD k false = true := by
      intro k
      induction k using Nat.strongRecOn with
      | _ k ih =>
        intro hk
        by_cases hl : listed.getD k false = true
        · exact hl
        · have : k ∈ Region.ready .any ops listed := mem_ready.2 ⟨(unlisted (by rw [inv.size]; exact hk)).2 hl, ops[k], by simp [hk], fun e he hb => by
            have hlt := hok.back k ops[k] (by simp [hk]) e he hb
            exact ih e.on hlt (by omega)⟩
          rw [hr] at this
          cases this
    let vs : Nat → Value := fun k => if listed.getD k false = true then u k else S.dflt k
    have hvs : ∀ k p, S.pure k = some p → p (vs k) := fun k p hp => by
      simp only [vs]
      split
      · rename_i hl; exact (inv.fact k p hl hp).1
      · exact hd k p hp
    have hag : ∀ k, listed.getD k false = true → (S.pure k).isSome = true → vs k = u k := fun k hl _ => by simp only [vs]; rw [if_pos hl]
    obtain ⟨u', hst, hQ⟩ := H vs hvs
    have hu := inv.lex vs u' hvs hag hst
    have := inv.laid.eq (lay_laid hok u' a0 ops.size (Nat.le_refl _)) (fun m => ⟨fun h => listed_lt inv.size h, hall m⟩) (fun m hm => (hu m hm).symm)
    rw [this]
    refine hQ w inv.c fun m hp hm => ?_
    obtain ⟨p, hp'⟩ := Option.isSome_iff_exists.1 hp
    exact hloc m u vs w (hag m (hall m hm) hp).symm (fun m' hm' hp'' => (hag m' (hall m' (by have := hok.lt m hm m' hm'; omega)) hp'').symm) (inv.fact m p (hall m hm) hp').2
  have main : ∀ (fuel : Nat) (listed : Array Bool) (u : Nat → Value) (a : Act) (w : World), Inv P ops C G S a0 listed u a w →
      (∀ (j : Nat) (u2 : Nat → Value) (a2 : Act) (w2 : World), j < ops.size → ¬ listed.getD j false = true → Inv P ops C G S a0 (listed.setIfInBounds j true) u2 a2 w2 → wpAny P .any ops Q fuel (listed.setIfInBounds j true) a2 w2) →
      ∀ j ∈ Region.ready .any ops listed, wpOp P ops Q j (wpAny P .any ops Q fuel (listed.setIfInBounds j true)) a w := by
    intro fuel listed u a w inv ih j hj
    obtain ⟨hjun, o, ho, hafter⟩ := mem_ready.1 hj
    have hjn : j < ops.size := (Array.getElem?_eq_some_iff.1 ho).1
    have hjs : j < listed.size := by rw [inv.size]; exact hjn
    have hun := (unlisted hjs).1 hjun
    have hall : ∀ m, waits ops j m = true → listed.getD m false = true := fun m hm => by
      obtain ⟨o', ho', e, he, hb, hon⟩ := waits_spec hm
      rw [ho] at ho'
      cases ho'
      rw [← hon]
      exact hafter e he hb
    have hdst : dstOf ops j = o.dst := by simp [dstOf, ho]
    let vs : Nat → Value := fun k => if listed.getD k false = true then u k else S.dflt k
    have hvs : ∀ k p, S.pure k = some p → p (vs k) := fun k p hp => by
      simp only [vs]
      split
      · rename_i hl; exact (inv.fact k p hl hp).1
      · exact hd k p hp
    have hag : ∀ k, listed.getD k false = true → (S.pure k).isSome = true → vs k = u k := fun k hl _ => by simp only [vs]; rw [if_pos hl]
    obtain ⟨u', hst, _⟩ := H vs hvs
    obtain ⟨hsame, hat, huse⟩ := inv.here hok hloc ho hun hall hvs hag hst
    have hsel : ∀ cs b, o.op ≠ .select cs b := fun cs b => Region.noSelect_spec hok.sel j o cs b ho
    have hex := eval_same hsel hsame
    have hwa := wanted_same hsame
    have hstep := hst j o ho
    -- the invariant behind it
    have next : ∀ (v : Value) (w' : World), C w' → (∀ k p, listed.getD k false = true → S.pure k = some p → S.fact k u w') →
        (∀ p, S.pure j = some p → p v ∧ S.fact j (fun m => if m = j then v else vs m) w') →
        (∀ vs2 u2 : Nat → Value, (∀ k p, S.pure k = some p → p (vs2 k)) → (∀ k, listed.getD k false = true → (S.pure k).isSome = true → vs2 k = u k) → ((S.pure j).isSome = true → vs2 j = v) →
          (∀ j o, ops[j]? = some o → Step P ops C G S vs2 o j (lay ops u2 a0 j) (u2 j)) → u2 j = v) →
        Inv P ops C G S a0 (listed.setIfInBounds j true) (fun k => if k = j then v else u k) (a.put o.dst v) w' := by
      intro v w' hc hold hnew hlex
      have hne : ∀ k, listed.getD k false = true → k ≠ j := fun k hk e => hun (e ▸ hk)
      refine ⟨hc, by simp [inv.size], fun k m hk hw => ?_, fun k hk m hm => ?_, fun k p hk hp => ?_, fun vs2 u2 h1 h2 h3 k hk => ?_, ?_⟩
      · rw [getD_set_iff hjs] at hk ⊢
        rcases hk with rfl | hk
        · exact .inr (hall m hw)
        · exact .inr (inv.closed k m hk hw)
      · rw [getD_set_iff hjs] at hk ⊢
        rcases hk with rfl | hk
        · exact .inr (huse m hm)
        · exact .inr (inv.uses k hk m hm)
      · rw [getD_set_iff hjs] at hk
        rcases hk with rfl | hk
        · obtain ⟨h1, h2⟩ := hnew p hp
          refine ⟨by simpa using h1, hloc k _ _ w' (by simp) (fun m hm hpm => ?_) h2⟩
          have hml := huse m hm
          simp only [if_neg (hne m hml)]
          exact hag m hml hpm
        · refine ⟨by simp only [if_neg (hne k hk)]; exact (inv.fact k p hk hp).1, hloc k u _ w' (by simp only [if_neg (hne k hk)]) (fun m hm _ => by simp only [if_neg (hne m (inv.uses k hk m hm))]) (hold k p hk hp)⟩
      · have h2' : ∀ k, listed.getD k false = true → (S.pure k).isSome = true → vs2 k = u k := fun k hk hp => by
          have := h2 k ((getD_set_iff hjs).2 (.inr hk)) hp
          rwa [if_neg (hne k hk)] at this
        rw [getD_set_iff hjs] at hk
        rcases hk with rfl | hk
        · simp only [if_true]
          exact hlex vs2 u2 h1 h2' (fun hp => by have := h2 k ((getD_set_iff hjs).2 (.inl rfl)) hp; rwa [if_pos rfl] at this) h3
        · simp only [if_neg (hne k hk)]
          exact inv.lex vs2 u2 h1 h2' h3 k hk
      · have := inv.laid.put (u' := fun k => if k = j then v else u k) (k := j) (D' := fun k => (listed.setIfInBounds j true).getD k false = true) hok (fun m hm => listed_lt inv.size hm) hjn hun (fun m hm => by simp only [if_neg (hne m hm)]) (fun m => getD_set_iff hjs)
        simpa [hdst] using this
    unfold wpOp
    simp only [ho]
    unfold Step at hstep
    cases hp : S.pure j with
    | some p =>
      simp only [hp] at hstep
      obtain ⟨⟨hw, hwp⟩, _⟩ := hstep
      rw [if_pos (by rw [hwa]; exact hw)]
      refine .inl (wp_transfer (R := fun v w' => C w' ∧ G w w' ∧ p v ∧ S.fact j (fun m => if m = j then v else vs m) w') (inv.laid.size.trans (lay_laid hok u' a0 j (by omega)).size.symm) hex (hwp w hat) fun v w' ⟨h1, h2, h3, h4⟩ => ?_)
      refine ih j _ _ w' hjn hun (next v w' h1 (fun k q hk hq => hG k u w w' (inv.fact k q hk hq).2 h2) (fun q hq => ?_) (fun vs2 u2 k1 k2 k3 k4 => ?_))
      · rw [hp] at hq
        cases hq
        exact ⟨h3, h4⟩
      · have := k4 j o ho
        unfold Step at this
        simp only [hp] at this
        rw [this.2]
        exact k3 (by rw [hp]; rfl)
    | none =>
      simp only [hp] at hstep
      have other : ∀ vs2 u2 : Nat → Value, (∀ k p, S.pure k = some p → p (vs2 k)) → (∀ k, listed.getD k false = true → (S.pure k).isSome = true → vs2 k = u k) →
          (∀ j o, ops[j]? = some o → Step P ops C G S vs2 o j (lay ops u2 a0 j) (u2 j)) →
          (Region.wanted o (yielded ops a.tmps) = true ∧ ((execOp a.eval o).run P w = .ok (.value (u2 j)) w ∨ ((execOp a.eval o).run P w = .ok .skip w ∧ u2 j = undef))) ∨ (Region.wanted o (yielded ops a.tmps) = false ∧ u2 j = undef) := by
        intro vs2 u2 k1 k2 k3
        obtain ⟨hs2, hat2, _⟩ := inv.here hok hloc ho hun hall k1 k2 k3
        have := k3 j o ho
        unfold Step at this
        simp only [hp] at this
        rw [wanted_same hs2, eval_same hsel hs2]
        rcases this with ⟨h1, h2⟩ | h1
        · exact .inl ⟨h1, h2 w hat2⟩
        · exact .inr h1
      have uniq : ∀ vs2 u2 : Nat → Value, (∀ k p, S.pure k = some p → p (vs2 k)) → (∀ k, listed.getD k false = true → (S.pure k).isSome = true → vs2 k = u k) → ((S.pure j).isSome = true → vs2 j = u' j) →
          (∀ j o, ops[j]? = some o → Step P ops C G S vs2 o j (lay ops u2 a0 j) (u2 j)) → u2 j = u' j := by
        intro vs2 u2 k1 k2 _ k3
        rcases other vs2 u2 k1 k2 k3 with ⟨h1, h2⟩ | ⟨h1, h2⟩ <;> rcases other vs u' hvs hag hst with ⟨g1, g2⟩ | ⟨g1, g2⟩
        · rcases h2 with h2 | ⟨h2, h3⟩ <;> rcases g2 with g2 | ⟨g2, g3⟩
          · rw [h2] at g2; simp only [Result.ok.injEq, Next.value.injEq, and_true] at g2; exact g2
          · rw [h2] at g2; cases g2
          · rw [h2] at g2; cases g2
          · rw [h3, g3]
        · rw [h1] at g1; cases g1
        · rw [h1] at g1; cases g1
        · rw [h2, g2]
      have hinv := next (u' j) w inv.c (fun k p hk hp => (inv.fact k p hk hp).2) (fun q hq => by rw [hp] at hq; cases hq) uniq
      rcases other vs u' hvs hag hst with ⟨h1, h2⟩ | ⟨h1, h2⟩
      · rw [if_pos h1]
        refine .inl ?_
        unfold Oper.wp
        rcases h2 with h2 | ⟨h2, h3⟩
        · rw [h2]
          exact ih j _ _ w hjn hun hinv
        · rw [h2]
          rw [h3] at hinv
          exact ih j _ _ w hjn hun hinv
      · rw [if_neg (by rw [h1]; exact Bool.false_ne_true)]
        rw [h2] at hinv
        exact ih j _ _ w hjn hun hinv
  intro fuel
  induction fuel with
  | zero =>
    intro listed u a w hl inv
    have hr : Region.ready .any ops listed = [] := by
      cases hr : Region.ready .any ops listed with
      | nil => rfl
      | cons x xs =>
        have hx : x ∈ Region.ready .any ops listed := by rw [hr]; exact List.mem_cons_self
        obtain ⟨h1, o, ho, _⟩ := mem_ready.1 hx
        have hxn : x < ops.size := (Array.getElem?_eq_some_iff.1 ho).1
        have : x ∈ (List.range ops.size).filter fun k => !listed.getD k true := List.mem_filter.2 ⟨List.mem_range.2 hxn, by simp [h1]⟩
        unfold left at hl
        have hnil : ((List.range ops.size).filter fun k => !listed.getD k true) = [] := List.eq_nil_of_length_eq_zero (by omega)
        rw [hnil] at this
        cases this
    exact ⟨hr, fin listed u a w inv hr⟩
  | succ fuel ih =>
    intro listed u a w hl inv
    refine ⟨fin listed u a w inv, main fuel listed u a w inv fun j u2 a2 w2 hjn hun inv2 => ih _ u2 a2 w2 ?_ inv2⟩
    have hjs : j < listed.size := by rw [inv.size]; exact hjn
    have := filter_less (p := fun k => !listed.getD k true) (q := fun k => !(listed.setIfInBounds j true).getD k true) (List.range ops.size) j (List.mem_range.2 hjn) (by simp [(unlisted hjs).2 hun]) (by simp [hjs]) (fun k hk => by
      by_cases hjk : j = k
      · subst hjk; simp [hjs] at hk
      · rw [getD_set_ne true hjk] at hk; exact hk)
    unfold left at hl ⊢
    omega
end

/-- THE LAW. -/
theorem region {P : Program} {id : Nat} {Q : Exit → Act → World → Prop} {a : Act} {w : World} {l : List Oper} (S : Spec) (C : World → Prop) (G : World → World → Prop) (hm : P.follows .mixedOrders = true) (hB : okB l.toArray S.use = true)
    (hC : C w.drew) (hG : ∀ k vs w w', S.fact k vs w → G w w' → S.fact k vs w')
    (hloc : ∀ k (vs vs' : Nat → Value) w, vs k = vs' k → (∀ m ∈ S.use k, (S.pure m).isSome = true → vs m = vs' m) → S.fact k vs w → S.fact k vs' w)
    (hd : ∀ k p, S.pure k = some p → p (S.dflt k))
    (h : ∀ vs : Nat → Value, (∀ k p, S.pure k = some p → p (vs k)) → walk P l.toArray C G S vs (fun a' => ∀ w', C w' → (∀ m, (S.pure m).isSome = true → m < l.length → S.fact m vs w') → Q .normal a' w') l 0 a) : (Code.region id l.toArray true).wp P Q a w := by
  have hok := ok_of hB
  refine wp_region_any hm (any_of_inv (a0 := a) hok hG hloc hd (fun vs hvs => ?_) _ _ (fun _ => undef) _ _ (left_le _ _) ⟨hC, by simp, fun k m hk => ?_, fun k hk => ?_, fun k p hk => ?_, fun vs u' _ _ _ k hk => ?_, ⟨rfl, rfl, fun k t hk => ?_, fun _ _ => rfl⟩⟩)
  · obtain ⟨u', _, h2, h3⟩ := walk_steps P l.toArray C G S vs _ a l 0 (fun _ => undef) (fun j => by simp) (h vs hvs)
    refine ⟨u', fun j o ho => h2 j (Nat.zero_le _) o ho, fun w' hc hf => ?_⟩
    have := h3 w' hc (fun m hp hm => hf m hp (by simpa using hm))
    simpa using this
  all_goals exact absurd hk (by rw [getD_replicate_false]; exact Bool.false_ne_true)

/-! ### The steps of a walk -/
section
variable {P : Program} {ops : Array Oper} {C : World → Prop} {G : World → World → Prop} {S : Spec} {vs : Nat → Value} {Q : Act → Prop} {o : Oper} {rest : List Oper} {k : Nat} {a : Act}
theorem walk_nil (h : Q a) : walk P ops C G S vs Q [] k a := h
theorem walk_skip (hp : S.pure k = none) (hw : Region.wanted o (yielded ops a.tmps) = false) (h : walk P ops C G S vs Q rest (k + 1) (a.put o.dst undef)) : walk P ops C G S vs Q (o :: rest) k a := by
  unfold walk
  simp only [hp, hw, Bool.false_eq_true, if_false]
  exact h
theorem walk_run (v : Value) (hp : S.pure k = none) (hw : Region.wanted o (yielded ops a.tmps) = true) (hr : ∀ w, At C S vs k w → (execOp a.eval o).run P w = .ok (.value v) w) (h : walk P ops C G S vs Q rest (k + 1) (a.put o.dst v)) : walk P ops C G S vs Q (o :: rest) k a := by
  unfold walk
  simp only [hp, hw, if_true]
  exact ⟨v, fun w hw' => .inl (hr w hw'), h⟩
theorem walk_load (ty : TypeId) (x : Operand) (b off : Nat) (cs : List Value) (d : TypeDesc) (hp : S.pure k = none) (hw : Region.wanted o (yielded ops a.tmps) = true) (ho : o.op = .load ty x) (hx : a.eval x = .pointer (some ⟨b, off, none⟩))
    (hS : ∀ w, At C S vs k w → w.rangeAt b off cs) (hu : P.underlying ty = some d) (hd : d.isRow = true) (hi : (P.info? ty).map (·.size) = some cs.length)
    (h : walk P ops C G S vs Q rest (k + 1) (a.put o.dst (.agg cs.toArray))) : walk P ops C G S vs Q (o :: rest) k a :=
  walk_run _ hp hw (fun w hw' => by
    unfold execOp
    simp only [ho, hx, Instr.loadAt, Instr.sureAddr, Sem.run_bind, Sem.run_pure, Result.andThen_ok, run_loadVar_mid w b off ty cs d (hS w hw') hu hd hi]) h
theorem walk_wild (p : Value → Prop) (hp : S.pure k = some p) (hw : Region.wanted o (yielded ops a.tmps) = true)
    (hs : ∀ w, At C S vs k w → ∀ K : Act → World → Prop, Hid (∀ v w', C w' → G w w' → p v → S.fact k (fun m => if m = k then v else vs m) w' → K (a.put o.dst v) w') → o.wp P a w K (fun _ _ _ => False))
    (h : walk P ops C G S vs Q rest (k + 1) (a.put o.dst (vs k))) : walk P ops C G S vs Q (o :: rest) k a := by
  unfold walk
  simp only [hp]
  exact ⟨⟨hw, fun w hw' => hs w hw' _ (Lib.hid fun v w' h1 h2 h3 h4 => ⟨v, rfl, h1, h2, h3, h4⟩)⟩, h⟩

/-- no call -/
def plain (o : Oper) : Bool := match o.op with | .call _ => false | _ => true
theorem v_enter {P : Program} {s : Sem Value} {w w' : World} {f : FuncId} {args : Array Value} : (do pure (Next.value (← s)) : Sem Next).run P w ≠ .ok (.enter f args) w' := by
  rw [Sem.run_bind]
  cases s.run P w <;> simp [Result.andThen]
theorem u_enter {P : Program} {s : Sem Unit} {w w' : World} {f : FuncId} {args : Array Value} : (do s; pure Next.skip : Sem Next).run P w ≠ .ok (.enter f args) w' := by
  rw [Sem.run_bind]
  cases s.run P w <;> simp [Result.andThen]
/-- the operations that the walk's own step takes -/
def simple (o : Oper) : Bool := match o.op with
  | .move _ | .assign _ | .binOp .. | .unOp .. | .convert .. | .slice .. | .fieldAddr .. | .field .. | .indexAddr .. | .index .. | .extract .. | .build .. => true
  | .pick .. => true
  | _ => false
theorem simple_enter {P : Program} {o : Oper} {ρ : Operand → Value} {w w' : World} {f : FuncId} {args : Array Value} (h : simple o = true) : (execOp ρ o).run P w ≠ .ok (.enter f args) w' := by
  obtain ⟨dst, op, type, pos, after, guard⟩ := o
  cases op <;> simp only [simple, Bool.false_eq_true] at h <;> simp only [execOp]
  case move => simp
  case assign => simp
  case pick c x y =>
    rw [Sem.run_bind]
    cases (asBool (ρ c)).run P w <;> simp [Result.andThen]
  all_goals exact v_enter
theorem walk_simple (hp : S.pure k = none) (hw : Region.wanted o (yielded ops a.tmps) = true) (hs : simple o = true) (h : ∀ K : Act → Prop, (∀ a, walk P ops C G S vs Q rest (k + 1) a → K a) → o.quiet P a (At C S vs k) K) : walk P ops C G S vs Q (o :: rest) k a := by
  obtain ⟨v, h1, h2⟩ := h _ fun _ h => h
  unfold walk
  simp only [hp, hw, if_true]
  refine ⟨v, fun w hw' => ?_, h2⟩
  have := h1 w hw'
  unfold Oper.quietAt at this
  have hne := fun (f : FuncId) (args : Array Value) (w' : World) => simple_enter (P := P) (o := o) (ρ := a.eval) (w := w) (w' := w') (f := f) (args := args) hs
  generalize (execOp a.eval o).run P w = r at *
  cases r with
  | ok n w' =>
    cases n <;> simp only [Oper.quietUpon] at this
    case value u => obtain ⟨rfl, rfl⟩ := this; exact .inl rfl
    case skip => obtain ⟨rfl, rfl⟩ := this; exact .inr ⟨rfl, rfl⟩
    case enter f args => exact absurd rfl (hne f args w')
  | halt x w' => simp only [Oper.quietUpon] at this
end
end Wild
end Go.Proofs.Ytcnelahmbfggcaa

/- `x, o := f(..)` in a region that draws its order, both variables rows: the call's value may hang on the world. No condition. -/
import Derived.Test.YtgkhgjoggkcklaaTabB
import Derived.Test.YtgkhgjoggkcklaaETwo
namespace Go.Proofs.Ytgkhgjoggkcklaa
open Go Go.RowKit
set_option maxRecDepth 100000
namespace Wild

abbrev rowOf (w : World) (b : Nat) (t : TypeId) (cs : Array Value) : Prop := w.heap[b]? = some (.cells cs t (0, 0))
section
variable (B : Nat) (p : Value → World → Prop) (t1 t2 : TypeId) (Z1 : Array Value) (V1 : Value → Array Value) (Z2 V2 : Array Value) (ci a1 a2 s1 s2 : Nat) (path : List Nat)
def spc : Spec where
  pure := fun k => if k = ci then some fun v => ∃ vv, v = .tuple #[.agg (V1 vv), .agg V2] else if k = a1 then some fun _ => True else if k = a2 then some fun _ => True else if k = s1 then some fun _ => True else if k = s2 then some fun _ => True else none
  dflt := fun k => if k = ci then .tuple #[.agg (V1 undef), .agg V2] else undef
  fact := fun k vs w => if k = ci then ∃ vv, vs ci = .tuple #[.agg (V1 vv), .agg V2] ∧ p vv w
    else if k = a1 then ∃ b : Nat, vs a1 = .pointer (some ⟨b, 0, none⟩) ∧ B ≤ b ∧ (rowOf w b t1 Z1 ∨ ∃ vv, p vv w ∧ rowOf w b t1 (V1 vv))
    else if k = a2 then ∃ b : Nat, vs a2 = .pointer (some ⟨b, 0, none⟩) ∧ B ≤ b ∧ (rowOf w b t2 Z2 ∨ rowOf w b t2 V2)
    else if k = s1 then ∃ b : Nat, vs a1 = .pointer (some ⟨b, 0, none⟩) ∧ B ≤ b ∧ ∃ vv, p vv w ∧ rowOf w b t1 (V1 vv)
    else if k = s2 then ∃ b : Nat, vs a2 = .pointer (some ⟨b, 0, none⟩) ∧ B ≤ b ∧ rowOf w b t2 V2
    else True
  use := fun k => if k = s1 then [a1, ci] else if k = s2 then [a2] else if path.contains k then [ci] else []
def Gc (w w' : World) : Prop := (∀ vv, p vv w → p vv w') ∧ (∀ b, B ≤ b → rowOf w b t1 Z1 → rowOf w' b t1 Z1 ∨ ∃ vv, p vv w' ∧ rowOf w' b t1 (V1 vv)) ∧
  (∀ b vv, B ≤ b → p vv w → rowOf w b t1 (V1 vv) → ∃ vv', p vv' w' ∧ rowOf w' b t1 (V1 vv')) ∧
  (∀ b, B ≤ b → rowOf w b t2 Z2 → rowOf w' b t2 Z2 ∨ rowOf w' b t2 V2) ∧ (∀ b, B ≤ b → rowOf w b t2 V2 → rowOf w' b t2 V2)
end
variable {B : Nat} {p : Value → World → Prop} {t1 t2 : TypeId} {Z1 : Array Value} {V1 : Value → Array Value} {Z2 V2 : Array Value} {ci a1 a2 s1 s2 : Nat} {path : List Nat}
/-- the places are unlike -/
structure Five (ci a1 a2 s1 s2 : Nat) : Prop where
  c1 : a1 ≠ ci
  c2 : a2 ≠ ci
  c3 : s1 ≠ ci
  c4 : s2 ≠ ci
  d1 : a2 ≠ a1
  d2 : s1 ≠ a1
  d3 : s2 ≠ a1
  e1 : s1 ≠ a2
  e2 : s2 ≠ a2
  f1 : s2 ≠ s1
theorem Gc.of_below (hp : ∀ vv w w', p vv w → Below w.heap.size w w' → p vv w') {w w' : World} (h : Below w.heap.size w w') : Gc B p t1 t2 Z1 V1 Z2 V2 w w' := by
  have hr : ∀ b t cs, rowOf w b t cs → rowOf w' b t cs := fun b t cs hb => (h.block b (Array.getElem?_eq_some_iff.1 hb).1).trans hb
  exact ⟨fun vv hv => hp vv w w' hv h, fun b _ hb => .inl (hr _ _ _ hb), fun b vv _ hv hb => ⟨vv, hp vv w w' hv h, hr _ _ _ hb⟩, fun b _ hb => .inl (hr _ _ _ hb), fun b _ hb => hr _ _ _ hb⟩
theorem Gc.set1 (hp2 : ∀ vv w b t cs cs', p vv w → B ≤ b → rowOf w b t cs → (t = t1 ∨ t = t2) → p vv (w.setRow b cs')) (ht : t1 ≠ t2) {w : World} {b : Nat} {vv : Value} {cs : Array Value} (hB : B ≤ b) (hb : rowOf w b t1 cs) (hv : p vv w) : Gc B p t1 t2 Z1 V1 Z2 V2 w (w.setRow b (V1 vv)) ∧ rowOf (w.setRow b (V1 vv)) b t1 (V1 vv) ∧ p vv (w.setRow b (V1 vv)) := by
  have h1 : rowOf (w.setRow b (V1 vv)) b t1 (V1 vv) := setRow_heap _ _ _ _ _ _ hb
  have h2 : ∀ k t cs', k ≠ b → rowOf w k t cs' → rowOf (w.setRow b (V1 vv)) k t cs' := fun k t cs' hk h => (setRow_other _ _ _ _ hk).trans h
  have h3 : ∀ x, p x w → p x (w.setRow b (V1 vv)) := fun x hx => hp2 x w b t1 cs _ hx hB hb (.inl rfl)
  have hne : ∀ k cs', rowOf w k t2 cs' → k ≠ b := fun k cs' h e => by
    subst e
    rw [rowOf] at h hb
    rw [hb] at h
    exact ht (by injection h with h; injection h)
  refine ⟨⟨h3, fun k _ hk => ?_, fun k x hB' hx hk => ?_, fun k _ hk => .inl (h2 _ _ _ (hne _ _ hk) hk), fun k _ hk => h2 _ _ _ (hne _ _ hk) hk⟩, h1, h3 _ hv⟩
  · by_cases e : k = b
    · subst e; exact .inr ⟨vv, h3 _ hv, h1⟩
    · exact .inl (h2 _ _ _ e hk)
  · by_cases e : k = b
    · subst e; exact ⟨vv, h3 _ hv, h1⟩
    · exact ⟨x, h3 _ hx, h2 _ _ _ e hk⟩
theorem Gc.set2 (hp2 : ∀ vv w b t cs cs', p vv w → B ≤ b → rowOf w b t cs → (t = t1 ∨ t = t2) → p vv (w.setRow b cs')) (ht : t1 ≠ t2) {w : World} {b : Nat} {cs : Array Value} (hB : B ≤ b) (hb : rowOf w b t2 cs) : Gc B p t1 t2 Z1 V1 Z2 V2 w (w.setRow b V2) ∧ rowOf (w.setRow b V2) b t2 V2 := by
  have h1 : rowOf (w.setRow b V2) b t2 V2 := setRow_heap _ _ _ _ _ _ hb
  have h2 : ∀ k t cs', k ≠ b → rowOf w k t cs' → rowOf (w.setRow b V2) k t cs' := fun k t cs' hk h => (setRow_other _ _ _ _ hk).trans h
  have h3 : ∀ x, p x w → p x (w.setRow b V2) := fun x hx => hp2 x w b t2 cs _ hx hB hb (.inr rfl)
  have hne : ∀ k cs', rowOf w k t1 cs' → k ≠ b := fun k cs' h e => by
    subst e
    rw [rowOf] at h hb
    rw [hb] at h
    exact ht (by injection h with h; injection h with _ h; exact h.symm)
  refine ⟨⟨h3, fun k _ hk => .inl (h2 _ _ _ (hne _ _ hk) hk), fun k x _ hx hk => ⟨x, h3 _ hx, h2 _ _ _ (hne _ _ hk) hk⟩, fun k _ hk => ?_, fun k _ hk => ?_⟩, h1⟩
  · by_cases e : k = b
    · subst e; exact .inr h1
    · exact .inl (h2 _ _ _ e hk)
  · by_cases e : k = b
    · subst e; exact h1
    · exact h2 _ _ _ e hk
theorem spc_later : ∀ k vs w w', (spc B p t1 t2 Z1 V1 Z2 V2 ci a1 a2 s1 s2 path).fact k vs w → Gc B p t1 t2 Z1 V1 Z2 V2 w w' → (spc B p t1 t2 Z1 V1 Z2 V2 ci a1 a2 s1 s2 path).fact k vs w' := by
  intro k vs w w' h hg
  obtain ⟨g1, g2, g3, g4, g5⟩ := hg
  simp only [spc] at *
  split
  · rename_i e
    rw [if_pos e] at h
    obtain ⟨vv, h1, h2⟩ := h
    exact ⟨vv, h1, g1 _ h2⟩
  rename_i e; rw [if_neg e] at h
  split
  · rename_i e
    rw [if_pos e] at h
    obtain ⟨b, h1, h2, h3 | ⟨vv, h3, h4⟩⟩ := h
    · exact ⟨b, h1, h2, g2 b h2 h3⟩
    · exact ⟨b, h1, h2, .inr (g3 b vv h2 h3 h4)⟩
  rename_i e; rw [if_neg e] at h
  split
  · rename_i e
    rw [if_pos e] at h
    obtain ⟨b, h1, h2, h3 | h3⟩ := h
    · exact ⟨b, h1, h2, g4 b h2 h3⟩
    · exact ⟨b, h1, h2, .inr (g5 b h2 h3)⟩
  rename_i e; rw [if_neg e] at h
  split
  · rename_i e
    rw [if_pos e] at h
    obtain ⟨b, h1, h2, vv, h3, h4⟩ := h
    exact ⟨b, h1, h2, g3 b vv h2 h3 h4⟩
  rename_i e; rw [if_neg e] at h
  split
  · rename_i e
    rw [if_pos e] at h
    obtain ⟨b, h1, h2, h3⟩ := h
    exact ⟨b, h1, h2, g5 b h2 h3⟩
  · trivial
theorem spc_pure (h5 : Five ci a1 a2 s1 s2) (k : Nat) (hk : k = ci ∨ k = a1 ∨ k = a2 ∨ k = s1 ∨ k = s2) : ((spc B p t1 t2 Z1 V1 Z2 V2 ci a1 a2 s1 s2 path).pure k).isSome = true := by
  simp only [spc]
  rcases hk with rfl | rfl | rfl | rfl | rfl <;> simp [h5.c1, h5.c2, h5.c3, h5.c4, h5.d1, h5.d2, h5.d3, h5.e1, h5.e2, h5.f1]
theorem spc_loc (h5 : Five ci a1 a2 s1 s2) : ∀ k (vs vs' : Nat → Value) w, vs k = vs' k → (∀ m ∈ (spc B p t1 t2 Z1 V1 Z2 V2 ci a1 a2 s1 s2 path).use k, ((spc B p t1 t2 Z1 V1 Z2 V2 ci a1 a2 s1 s2 path).pure m).isSome = true → vs m = vs' m) → (spc B p t1 t2 Z1 V1 Z2 V2 ci a1 a2 s1 s2 path).fact k vs w → (spc B p t1 t2 Z1 V1 Z2 V2 ci a1 a2 s1 s2 path).fact k vs' w := by
  intro k vs vs' w he hu h
  have p1 := spc_pure (B := B) (p := p) (t1 := t1) (t2 := t2) (Z1 := Z1) (V1 := V1) (Z2 := Z2) (V2 := V2) (path := path) h5 a1 (.inr (.inl rfl))
  have p2 := spc_pure (B := B) (p := p) (t1 := t1) (t2 := t2) (Z1 := Z1) (V1 := V1) (Z2 := Z2) (V2 := V2) (path := path) h5 a2 (.inr (.inr (.inl rfl)))
  simp only [spc] at h hu ⊢
  split
  · rename_i e; rw [if_pos e] at h; subst e; rw [← he]; exact h
  rename_i e; rw [if_neg e] at h
  split
  · rename_i e; rw [if_pos e] at h; subst e; rw [← he]; exact h
  rename_i e; rw [if_neg e] at h
  split
  · rename_i e; rw [if_pos e] at h; subst e; rw [← he]; exact h
  rename_i e; rw [if_neg e] at h
  split
  · rename_i e
    rw [if_pos e] at h hu
    rw [← hu a1 (by simp) p1]
    exact h
  rename_i e; rw [if_neg e] at h hu
  split
  · rename_i e
    rw [if_pos e] at h hu
    rw [← hu a2 (by simp) p2]
    exact h
  · trivial
theorem spc_dflt : ∀ k q, (spc B p t1 t2 Z1 V1 Z2 V2 ci a1 a2 s1 s2 path).pure k = some q → q ((spc B p t1 t2 Z1 V1 Z2 V2 ci a1 a2 s1 s2 path).dflt k) := by
  intro k q h
  simp only [spc] at *
  split at h
  · rename_i e; cases h; rw [if_pos e]; exact ⟨_, rfl⟩
  all_goals (repeat (split at h; · cases h; trivial))
  cases h
theorem region_call2 {P : Program} {id : Nat} {Q : Exit → Act → World → Prop} {a : Act} {w : World} {l : List Oper} (p : Value → World → Prop) (t1 t2 : TypeId) (Z1 : Array Value) (V1 : Value → Array Value) (Z2 V2 : Array Value) (ci a1 a2 s1 s2 : Nat) (path : List Nat) (h5 : Five ci a1 a2 s1 s2)
    (hm : P.follows .mixedOrders = true) (hB : okB l.toArray (fun k => if k = s1 then [a1, ci] else if k = s2 then [a2] else if path.contains k then [ci] else []) = true)
    (h : ∀ vs : Nat → Value, (∃ vv, vs ci = .tuple #[.agg (V1 vv), .agg V2]) → walk P l.toArray (CB w) (Gc w.heap.size p t1 t2 Z1 V1 Z2 V2) (spc w.heap.size p t1 t2 Z1 V1 Z2 V2 ci a1 a2 s1 s2 path) vs
      (fun a' => ∀ w', CB w w' → (∀ m, ((spc w.heap.size p t1 t2 Z1 V1 Z2 V2 ci a1 a2 s1 s2 path).pure m).isSome = true → m < l.length → (spc w.heap.size p t1 t2 Z1 V1 Z2 V2 ci a1 a2 s1 s2 path).fact m vs w') → Q .normal a' w') l 0 a) : (Code.region id l.toArray true).wp P Q a w :=
  region (spc w.heap.size p t1 t2 Z1 V1 Z2 V2 ci a1 a2 s1 s2 path) (CB w) (Gc w.heap.size p t1 t2 Z1 V1 Z2 V2) hm hB ((Below.refl _ _).drew) spc_later (spc_loc h5) spc_dflt fun vs hvs => h vs (hvs ci (fun v => ∃ vv, v = .tuple #[.agg (V1 vv), .agg V2]) (by simp [spc]))
/-- what is known behind it -/
theorem spc_end {n : Nat} {vs : Nat → Value} {w' : World} (h5 : Five ci a1 a2 s1 s2) (hl1 : s1 < n) (hl2 : s2 < n) (hf : ∀ m, ((spc B p t1 t2 Z1 V1 Z2 V2 ci a1 a2 s1 s2 path).pure m).isSome = true → m < n → (spc B p t1 t2 Z1 V1 Z2 V2 ci a1 a2 s1 s2 path).fact m vs w') :
    (∃ b : Nat, ∃ vv, vs a1 = .pointer (some ⟨b, 0, none⟩) ∧ B ≤ b ∧ p vv w' ∧ rowOf w' b t1 (V1 vv)) ∧ ∃ b : Nat, vs a2 = .pointer (some ⟨b, 0, none⟩) ∧ B ≤ b ∧ rowOf w' b t2 V2 := by
  have f1 := hf s1 (spc_pure h5 s1 (.inr (.inr (.inr (.inl rfl))))) hl1
  have f2 := hf s2 (spc_pure h5 s2 (.inr (.inr (.inr (.inr rfl))))) hl2
  simp only [spc, if_neg h5.c3, if_neg h5.d2, if_neg h5.e1, if_true] at f1
  simp only [spc, if_neg h5.c4, if_neg h5.d3, if_neg h5.e2, if_neg h5.f1, if_true] at f2
  obtain ⟨b, g1, g2, vv, g3, g4⟩ := f1
  exact ⟨⟨b, vv, g1, g2, g3, g4⟩, f2⟩
/-- at the call, at an allocation, at a store -/
theorem spc_ci {vs : Nat → Value} {w' : World} {vv : Value} (h : p vv w') : (spc B p t1 t2 Z1 V1 Z2 V2 ci a1 a2 s1 s2 path).fact ci (fun m => if m = ci then .tuple #[.agg (V1 vv), .agg V2] else vs m) w' := by
  simp only [spc, if_true]
  exact ⟨vv, rfl, h⟩
theorem spc_a1 {vs : Nat → Value} {w' : World} {b : Nat} (h5 : Five ci a1 a2 s1 s2) (hB : B ≤ b) (h : rowOf w' b t1 Z1) : (spc B p t1 t2 Z1 V1 Z2 V2 ci a1 a2 s1 s2 path).fact a1 (fun m => if m = a1 then .pointer (some ⟨b, 0, none⟩) else vs m) w' := by
  simp only [spc, if_neg h5.c1, if_true]
  exact ⟨b, rfl, hB, .inl h⟩
theorem spc_a2 {vs : Nat → Value} {w' : World} {b : Nat} (h5 : Five ci a1 a2 s1 s2) (hB : B ≤ b) (h : rowOf w' b t2 Z2) : (spc B p t1 t2 Z1 V1 Z2 V2 ci a1 a2 s1 s2 path).fact a2 (fun m => if m = a2 then .pointer (some ⟨b, 0, none⟩) else vs m) w' := by
  simp only [spc, if_neg h5.c2, if_neg h5.d1, if_true]
  exact ⟨b, rfl, hB, .inl h⟩
theorem step_s1 {P : Program} {o : Oper} {a : Act} {w w0 : World} {vs : Nat → Value} {K : Act → World → Prop} {Q : Exit → Act → World → Prop} (h5 : Five ci a1 a2 s1 s2) (hp2 : ∀ vv w b t cs cs', p vv w → B ≤ b → rowOf w b t cs → (t = t1 ∨ t = t2) → p vv (w.setRow b cs')) (ht : t1 ≠ t2) (hB0 : B = w0.heap.size)
    (ty : TypeId) (x y : Operand) (ho : o.op = .store ty x y) (hx : a.eval x = vs a1) (vv : Value) (hci : vs ci = .tuple #[.agg (V1 vv), .agg V2]) (hinj : ∀ v v', V1 v = V1 v' → v = v') (hy : a.eval y = .agg (V1 vv)) (hi : (P.info? ty).map (·.size) = some (V1 vv).size) (hZ : ∀ v, Z1.size = (V1 v).size) (hone : p vv w → (V1 vv).all (·.oneCell') = true)
    (hw : At (CB w0) (spc B p t1 t2 Z1 V1 Z2 V2 ci a1 a2 s1 s2 path) vs s1 w)
    (hK : Hid (∀ v w', CB w0 w' → Gc B p t1 t2 Z1 V1 Z2 V2 w w' → (fun _ => True) v → (spc B p t1 t2 Z1 V1 Z2 V2 ci a1 a2 s1 s2 path).fact s1 (fun m => if m = s1 then v else vs m) w' → K (a.put o.dst v) w')) : o.wp P a w K Q := by
  have u1 := hw.2 a1 (by simp [spc]) (spc_pure h5 a1 (.inr (.inl rfl)))
  have u2 := hw.2 ci (by simp [spc]) (spc_pure h5 ci (.inl rfl))
  simp only [spc, if_neg h5.c1, if_true] at u1
  simp only [spc, if_true] at u2
  obtain ⟨b, q1, q2, q3⟩ := u1
  obtain ⟨v', q4, q5⟩ := u2
  have hvv : v' = vv := by
    rw [hci] at q4
    have h6 : V1 vv = V1 v' := by
      injection q4 with q4
      have := congrArg (fun x => x[0]?) q4
      simp at this
      exact this
    exact (hinj _ _ h6).symm
  subst hvv
  obtain ⟨cs, hcs, hsz⟩ : ∃ cs, rowOf w b t1 cs ∧ cs.size = (V1 v').size := by
    rcases q3 with h | ⟨v2, _, h⟩
    · exact ⟨_, h, hZ _⟩
    · exact ⟨_, h, by rw [← hZ v2, hZ v']⟩
  obtain ⟨g1, g2, g3⟩ := Gc.set1 (Z1 := Z1) (V1 := V1) (Z2 := Z2) (V2 := V2) (cs := cs) hp2 ht q2 hcs q5
  refine wp_store_row ty x y ho b (V1 v') (hx.trans q1) hy t1 cs hcs hi hsz (hone q5) (hK.out undef _ ?_ g1 trivial ?_)
  · exact below_row (B := w0.heap.size) hw.1 (by rw [← hB0]; exact q2) _
  · simp only [spc, if_neg h5.c3, if_neg h5.d2, if_neg h5.e1, if_true]
    rw [if_neg (Ne.symm h5.d2)]
    exact ⟨b, q1, q2, v', g3, g2⟩
theorem step_s2 {P : Program} {o : Oper} {a : Act} {w w0 : World} {vs : Nat → Value} {K : Act → World → Prop} {Q : Exit → Act → World → Prop} (h5 : Five ci a1 a2 s1 s2) (hp2 : ∀ vv w b t cs cs', p vv w → B ≤ b → rowOf w b t cs → (t = t1 ∨ t = t2) → p vv (w.setRow b cs')) (ht : t1 ≠ t2) (hB0 : B = w0.heap.size)
    (ty : TypeId) (x y : Operand) (ho : o.op = .store ty x y) (hx : a.eval x = vs a2) (hy : a.eval y = .agg V2) (hi : (P.info? ty).map (·.size) = some V2.size) (hZ : Z2.size = V2.size) (hone : V2.all (·.oneCell') = true)
    (hw : At (CB w0) (spc B p t1 t2 Z1 V1 Z2 V2 ci a1 a2 s1 s2 path) vs s2 w)
    (hK : Hid (∀ v w', CB w0 w' → Gc B p t1 t2 Z1 V1 Z2 V2 w w' → (fun _ => True) v → (spc B p t1 t2 Z1 V1 Z2 V2 ci a1 a2 s1 s2 path).fact s2 (fun m => if m = s2 then v else vs m) w' → K (a.put o.dst v) w')) : o.wp P a w K Q := by
  have u1 := hw.2 a2 (by simp [spc, h5.f1]) (spc_pure h5 a2 (.inr (.inr (.inl rfl))))
  simp only [spc, if_neg h5.c2, if_neg h5.d1, if_true] at u1
  obtain ⟨b, q1, q2, q3⟩ := u1
  obtain ⟨cs, hcs, hsz⟩ : ∃ cs, rowOf w b t2 cs ∧ cs.size = V2.size := by
    rcases q3 with h | h
    · exact ⟨_, h, hZ⟩
    · exact ⟨_, h, rfl⟩
  obtain ⟨g1, g2⟩ := Gc.set2 (Z1 := Z1) (V1 := V1) (Z2 := Z2) (V2 := V2) (cs := cs) hp2 ht q2 hcs
  refine wp_store_row ty x y ho b V2 (hx.trans q1) hy t2 cs hcs hi hsz hone (hK.out undef _ ?_ g1 trivial ?_)
  · exact below_row (B := w0.heap.size) hw.1 (by rw [← hB0]; exact q2) _
  · simp only [spc, if_neg h5.c4, if_neg h5.d3, if_neg h5.e2, if_neg h5.f1, if_true]
    rw [if_neg (Ne.symm h5.e2)]
    exact ⟨b, q1, q2, g2⟩
end Wild
end Go.Proofs.Ytgkhgjoggkcklaa

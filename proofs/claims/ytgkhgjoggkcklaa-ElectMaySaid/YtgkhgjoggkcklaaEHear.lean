/- The walk of elect.Hear. -/
import Derived.Test.YtgkhgjoggkcklaaESettle
import Derived.Test.YtgkhgjoggkcklaaETwo
namespace Go.Proofs.Ytgkhgjoggkcklaa
open Go Go.RowKit
set_option maxRecDepth 100000
set_option maxHeartbeats 2000000

theorem info_el : (Try.prog.info? 26).map (·.size) = some 7 := by kernel_rfl
theorem info_out : (Try.prog.info? 34).map (·.size) = some 2 := by kernel_rfl
def hearOk (me : Nat) (by_ x : Int) (votes : List Int) : Bool := decide (0 ≤ by_ ∧ by_ < votes.length ∧ by_ ≠ me ∧ x ≤ 100000 ∧ votes.getD by_.toNat 0 < x)
theorem ElV_one {F T me view : Int} {a : Option Addr} {n c : Nat} {clock wait : Int} : (ElV F T me view (.slice a n c) clock wait).all (·.oneCell') = true := by simp [ElV, Value.oneCell']

theorem SlI.blt {w : World} {k : IntKind} {v : Value} {l : List Int} (h : SlI w k v l) (h0 : 0 < l.length) (b : Nat) (hb : v.ownBlock = some b) : b < w.heap.size := by
  rcases h with ⟨rfl, _⟩ | ⟨b', off, cap, rfl, _, _, _, h3⟩
  · simp at h0
  · cases hb
    exact World.block_lt_of_cell? _ _ (h3 0 h0)
theorem out_one {x y : Int} : (#[Value.int .i64 x, Value.int .i64 y]).all (·.oneCell') = true := by simp [Value.oneCell']
def elL (F T me view : Int) (vv : Value) (clock wait : Int) : List Value := [.int .i64 F, .int .i64 T, .int .i64 me, .int .i64 view, vv, .int .i64 clock, .int .i64 wait]
/-- what a voter is: its numbers and its votes -/
structure El where
  view : Int
  votes : List Int
  clock : Int
def El.settled (F T : Int) (me : Nat) (e : El) : El := ⟨enterV F T me e.view e.votes, joined F me e.votes, enterC F T me e.view e.votes e.clock⟩
def hearE (F T : Int) (me : Nat) (by_ x : Int) (e : El) : El := if hearOk me by_ x e.votes then El.settled F T me ⟨e.view, e.votes.set by_.toNat x, e.clock⟩ else e
def hearVo (F : Int) (me : Nat) (by_ x : Int) (e : El) : Int := if hearOk me by_ x e.votes then joinO F me (e.votes.set by_.toNat x) 0 else 0
def hearVi (F T : Int) (me : Nat) (by_ x : Int) (e : El) : Int := if hearOk me by_ x e.votes then enterO F T me e.view (e.votes.set by_.toNat x) 0 else 0

theorem Hear_any (F T : Int) (me : Nat) (vv : Value) (wait by_ x : Int) (E : El) (w : World) (hv : SlI w .i64 vv E.votes) (hr : RightS F T) (hl : E.votes.length ≤ 1000) (hme : me < E.votes.length) :
    Calls Try.prog 12 #[.agg (ElV F T me E.view vv E.clock wait), .int .i64 by_, .int .i64 x] w fun e w' => ∃ vv', e = .returned (.tuple #[.agg (ElV F T me (hearE F T me by_ x E).view vv' (hearE F T me by_ x E).clock wait), .agg #[.int .i64 (hearVo F me by_ x E), .int .i64 (hearVi F T me by_ x E)]]) ∧ SlI w' .i64 vv' (hearE F T me by_ x E).votes ∧ (∀ k, vv'.ownBlock = some k → vv.ownBlock = some k ∨ (w.heap.size ≤ k ∧ IntRow w' k)) ∧ Below w.heap.size w w' := by
  obtain ⟨view, votes, clock⟩ := E
  simp only at hv hl hme ⊢
  obtain ⟨W0, HW0, HB0, HS0, HE0⟩ : ∃ V, Hid (V = w.alloc (.cells (ElV F T me view vv clock wait) 26)) ∧ Hid (Below w.heap.size w V) ∧ Hid (V.heap.size = w.heap.size + 1) ∧ Hid (ElB V w.heap.size 26 F T me view vv clock wait) := ⟨_, Lib.hid rfl, Lib.hid ((Below.refl _ _).alloc (Nat.le_refl _) _), Lib.hid (by simp), Lib.hid (heap_alloc_new _ _)⟩
  obtain ⟨W1, HW1, HB1, HS1, HE1, HR1⟩ : ∃ V, Hid (V = W0.alloc (.cells (ElV 0 0 0 0 (.slice none 0 0) 0 0) 26)) ∧ Hid (Below w.heap.size w V) ∧ Hid (V.heap.size = w.heap.size + 2) ∧ Hid (ElB V w.heap.size 26 F T me view vv clock wait) ∧ Hid (V.heap[w.heap.size + 1]? = some (.cells (ElV 0 0 0 0 (.slice none 0 0) 0 0) 26 (0, 0))) :=
    ⟨_, Lib.hid rfl, Lib.hid (HB0.out.alloc HB0.out.size _), Lib.hid (by simp [HS0.out]), Lib.hid ((heap_alloc_old _ _ _ (by rw [HS0.out]; omega)).trans HE0.out), Lib.hid (by rw [← HS0.out]; exact heap_alloc_new _ _)⟩
  obtain ⟨W2, HW2, HB2, HS2, HE2, HR2, HP2⟩ : ∃ V, Hid (V = W1.alloc (.cells #[.int .i64 0, .int .i64 0] 34)) ∧ Hid (Below w.heap.size w V) ∧ Hid (V.heap.size = w.heap.size + 3) ∧ Hid (ElB V w.heap.size 26 F T me view vv clock wait) ∧ Hid (V.heap[w.heap.size + 1]? = some (.cells (ElV 0 0 0 0 (.slice none 0 0) 0 0) 26 (0, 0))) ∧ Hid (OutB V (w.heap.size + 2) 34 0 0) :=
    ⟨_, Lib.hid rfl, Lib.hid (HB1.out.alloc HB1.out.size _), Lib.hid (by simp [HS1.out]), Lib.hid ((heap_alloc_old _ _ _ (by rw [HS1.out]; omega)).trans HE1.out), Lib.hid ((heap_alloc_old _ _ _ (by rw [HS1.out]; omega)).trans HR1.out), Lib.hid (by rw [← HS1.out]; exact heap_alloc_new _ _)⟩
  obtain ⟨V, HV, HB, HS, HE, HR, HP, HO⟩ : ∃ V, Hid (V = W2.alloc (.cells #[.int .i64 0, .int .i64 0] 34)) ∧ Hid (Below w.heap.size w V) ∧ Hid (V.heap.size = w.heap.size + 4) ∧ Hid (ElB V w.heap.size 26 F T me view vv clock wait) ∧ Hid (V.heap[w.heap.size + 1]? = some (.cells (ElV 0 0 0 0 (.slice none 0 0) 0 0) 26 (0, 0))) ∧ Hid (OutB V (w.heap.size + 2) 34 0 0) ∧ Hid (OutB V (w.heap.size + 3) 34 0 0) :=
    ⟨_, Lib.hid rfl, Lib.hid (HB2.out.alloc HB2.out.size _), Lib.hid (by simp [HS2.out]), Lib.hid ((heap_alloc_old _ _ _ (by rw [HS2.out]; omega)).trans HE2.out), Lib.hid ((heap_alloc_old _ _ _ (by rw [HS2.out]; omega)).trans HR2.out), Lib.hid ((heap_alloc_old _ _ _ (by rw [HS2.out]; omega)).trans HP2.out), Lib.hid (by rw [← HS2.out]; exact heap_alloc_new _ _)⟩
  have HSV := Lib.hid (hv.later HB.out)
  have HAV : Hid (∀ k, vv.ownBlock = some k → k < w.heap.size) := Lib.hid (fun k hk => hv.blt (by omega) k hk)
  obtain ⟨va, vc, rfl⟩ := hv.shape
  have IE : ∀ (a b c : Int) (d : Value), (Try.prog.info? 26).map (·.size) = some (ElV F T me a d b c).size := fun _ _ _ _ => info_el
  clear hv
  by_cases hok : hearOk me by_ x votes = true
  · have HE' : Hid (hearE F T me by_ x ⟨view, votes, clock⟩ = El.settled F T me ⟨view, votes.set by_.toNat x, clock⟩ ∧ hearVo F me by_ x ⟨view, votes, clock⟩ = joinO F me (votes.set by_.toNat x) 0 ∧ hearVi F T me by_ x ⟨view, votes, clock⟩ = enterO F T me view (votes.set by_.toNat x) 0) := Lib.hid ⟨by rw [hearE, if_pos hok], by rw [hearVo, if_pos hok], by rw [hearVi, if_pos hok]⟩
    rw [hearOk, decide_eq_true_iff] at hok
    obtain ⟨g0, g1, g2, g3, g4⟩ := hok
    obtain ⟨k, rfl⟩ : ∃ k : Nat, by_ = k := ⟨by_.toNat, by omega⟩
    rw [Int.toNat_natCast] at g4 HE'
    have hk : k < votes.length := by omega
    have n3 : ¬ ((k : Int) = (me : Int)) := by omega
    obtain ⟨c0, c1, c2, c3, c4, c5, c6⟩ := HE.out.cells
    obtain ⟨vb, vo, rfl, -, q1, hcv'⟩ := HSV.out.cellAt (i := k) hk
    have hcv := hcv' k hk
    clear hcv'
    have HVT := Lib.hid (fun w' hE hv => vote_any w.heap.size k F T me view (.slice (some ⟨vb, vo, none⟩) votes.length vc) clock wait x votes w' hE hv (by omega) hk)
    have HST := Lib.hid (fun vv w' hE hO hv hap => settle_any w.heap.size (w.heap.size + 3) F T me view vv clock wait 0 0 (votes.set k x) w' hE hO (by omega) hv hap hr (by rw [List.length_set]; exact hl) (by rw [List.length_set]; exact hme))
    generalize votes.getD k 0 = z at hcv g4
    have g5 : ¬ (x ≤ z) := by omega
    have g6 : ¬ (100000 < x) := by omega
    have g7 : (k : Int) < votes.length := by omega
    have g8 : ((k : Int) == (me : Int)) = false := by simpa using n3
    have g9 : ¬ votes.length ≤ k := by omega
    have g10 : ¬ (k : Int) < 0 := by omega
    go_enter Try.func12, Try.ntmps12
    go_upto_region 2 with (fail)
    change Code.wp _ _ _ _ ((((w.alloc (.cells (ElV F T me view (.slice (some ⟨vb, vo, none⟩) votes.length vc) clock wait) 26)).alloc (.cells (ElV 0 0 0 0 (.slice none 0 0) 0 0) 26)).alloc (.cells #[.int .i64 0, .int .i64 0] 34)).alloc (.cells #[.int .i64 0, .int .i64 0] 34))
    rw [← HW0.out, ← HW1.out, ← HW2.out, ← HV.out]
    go_upto_region 6 with (first
      | (go_at_call 33; refine (HVT.out V HE.out HSV.out).mono ?_; rintro e w3 ⟨rfl, gb, cap, e3, hg, r3, hc1, hc2, k3⟩; have HE3 := Lib.hid e3; have HG3 := Lib.hid hg; have HI3 : Hid (IntRow w3 gb) := Lib.hid (by obtain ⟨cur, r4, -⟩ := r3; exact ⟨cur, r4⟩); have HS3 := Lib.hid (RowI.sl r3 (n := votes.length) (cap := cap) (by simp) hc1 hc2); have HK3 := Lib.hid k3; have HO3 := Lib.hid (HO.out.kept k3 (by omega)); have HR3 := Lib.hid ((k3.block (w.heap.size + 1) (by rw [HS.out]; omega) (by omega)).trans HR.out); have HP3 := Lib.hid (HP.out.kept k3 (by omega)); clear e3 hg r3 k3 c0 c1 c2 c3 c4 c5 c6 hcv)
      | (go_at_call 34; refine (HST.out (.slice (some ⟨gb, 0, none⟩) votes.length cap) w3 HE3.out HO3.out HS3.out (fun k' h => by have e1 : gb = k' := Option.some.inj h; have h1 := HG3.out; have h2 := HS.out; exact ⟨by omega, by omega⟩)).mono ?_; rintro e w4 ⟨rfl, v4, e4, o4, s4, a4, k4⟩; have HE4 := Lib.hid e4; have HO4 := Lib.hid o4; have HS4 := Lib.hid s4; have HA4 := Lib.hid a4; have HK4 := Lib.hid k4; clear e4 o4 s4 a4 k4))
    have HZ3 : Hid (V.heap.size ≤ w3.heap.size) := Lib.hid HK3.out.size
    have HR4 : Hid (w4.heap[w.heap.size + 1]? = some (.cells (ElV 0 0 0 0 (.slice none 0 0) 0 0) 26 (0, 0))) := Lib.hid ((HK4.out.block _ (by have := HZ3.out; have := HS.out; omega) (by omega)).trans HR3.out)
    have HP4 : Hid (OutB w4 (w.heap.size + 2) 34 0 0) := Lib.hid (HP3.out.kept HK4.out (by omega))
    obtain ⟨v5, c5, rfl⟩ := HS4.out.shape
    refine Wild.region_two (w.heap.size + 1) (w.heap.size + 2) 26 34 (ElV 0 0 0 0 (.slice none 0 0) 0 0) (ElV F T me (enterV F T me view (votes.set k x)) (.slice v5 (joined F me (votes.set k x)).length c5) (enterC F T me view (votes.set k x) clock) wait) #[.int .i64 0, .int .i64 0] #[.int .i64 (joinO F me (votes.set k x) 0), .int .i64 (enterO F T me view (votes.set k x) 0)] 2 3 (by decide) (by decide) (by decide) HR4.out HP4.out (by kernel_rfl) (by kernel_rfl) (fun vs => ?_)
    refine Wild.walk_load 26 _ _ _ (elL F T me (enterV F T me view (votes.set k x)) (.slice v5 (joined F me (votes.set k x)).length c5) (enterC F T me view (votes.set k x) clock) wait) _ rfl (by rfl) rfl rfl (fun w' hw => rangeAt_row (cs := (elL F T me (enterV F T me view (votes.set k x)) (.slice v5 (joined F me (votes.set k x)).length c5) (enterC F T me view (votes.set k x) clock) wait)) ((hw.1.block w.heap.size (by omega) (by omega)).trans HE4.out)) Try.underlying26 rfl info_el ?_
    simp only [Act.put, List.setIfInBounds_toArray, List.set_cons_zero, List.set_cons_succ]
    refine Wild.walk_load 34 _ _ _ [.int .i64 (joinO F me (votes.set k x) 0), .int .i64 (enterO F T me view (votes.set k x) 0)] _ rfl (by rfl) rfl rfl (fun w' hw => rangeAt_row (cs := [.int .i64 (joinO F me (votes.set k x) 0), .int .i64 (enterO F T me view (votes.set k x) 0)]) ((hw.1.block (w.heap.size + 3) (by omega) (by omega)).trans HO4.out)) Try.underlying34 rfl info_out ?_
    simp only [Act.put, List.setIfInBounds_toArray, List.set_cons_zero, List.set_cons_succ]
    refine Wild.walk_wild _ rfl (by rfl) (fun w' hw K hK => ?_) ?_
    · obtain ⟨s1, s2, s3⟩ := hw.1.set1 (by omega)
      rcases hw.1.one with e | e <;> exact wp_store_row 26 _ _ rfl _ (ElV F T me (enterV F T me view (votes.set k x)) (.slice v5 (joined F me (votes.set k x)).length c5) (enterC F T me view (votes.set k x) clock) wait) rfl rfl 26 _ e info_el rfl ElV_one (hK.out undef _ s1 s2 trivial s3)
    simp only [Act.put]
    refine Wild.walk_wild _ rfl (by rfl) (fun w' hw K hK => ?_) ?_
    · obtain ⟨s1, s2, s3⟩ := hw.1.set2 (by omega)
      rcases hw.1.two with e | e <;> exact wp_store_row 34 _ _ rfl _ #[.int .i64 (joinO F me (votes.set k x) 0), .int .i64 (enterO F T me view (votes.set k x) 0)] rfl rfl 34 _ e info_out rfl out_one (hK.out undef _ s1 s2 trivial s3)
    simp only [Act.put]
    refine Wild.walk_nil ?_
    intro w9 hw9 hr9 hp9
    go_wp2_with fail
    refine bodyPost_ret (results_cell2 rfl _ _ (w.heap.size + 1) (w.heap.size + 2) 26 34 _ _ (0, 0) (0, 0) _ _ rfl hr9 Try.underlying26 rfl info_el rfl hp9 Try.underlying34 rfl info_out) rfl ?_
    refine ⟨.slice v5 (joined F me (votes.set k x)).length c5, by rw [HE'.out.1, HE'.out.2.1, HE'.out.2.2]; rfl, ?_, fun k' hk => ?_, ?_⟩
    · rw [HE'.out.1]
      refine HS4.out.kept (S := fun k => k = w.heap.size + 1 ∨ k = w.heap.size + 2) ⟨hw9.os, hw9.tape, hw9.output, Nat.le_of_eq hw9.size.symm, fun k _ hk => hw9.block k (fun e => hk (.inl e)) (fun e => hk (.inr e))⟩ (fun k' hk e => ?_)
      have h1 := HA4.out k' hk
      have h2 := HS.out
      rcases h1.2.2 with h3 | ⟨h3, -⟩
      · have e1 : gb = k' := Option.some.inj h3
        have h4 := HG3.out
        rcases e with e | e <;> omega
      · have h4 := HZ3.out
        rcases e with e | e <;> omega
    · have h1 := HA4.out k' hk
      have h2 := HS.out
      have h5 := HZ3.out
      have hk9 : Kept (fun k => k = w.heap.size + 1 ∨ k = w.heap.size + 2) w4 w9 := ⟨hw9.os, hw9.tape, hw9.output, Nat.le_of_eq hw9.size.symm, fun k _ hk => hw9.block k (fun e => hk (.inl e)) (fun e => hk (.inr e))⟩
      rcases h1.2.2 with h3 | ⟨h3, h6⟩
      · have e1 : gb = k' := Option.some.inj h3
        have h4 := HG3.out
        subst e1
        exact .inr ⟨by omega, (HI3.out.kept HK4.out (by omega)).kept hk9 (by omega)⟩
      · exact .inr ⟨by omega, h6.kept hk9 (by omega)⟩
    · have hb4 : Below w.heap.size V w4 := (HK3.out.below (B := w.heap.size) (by rw [HS.out]; omega) (fun k h => Nat.le_of_eq h.symm)).trans (HK4.out.below (by have := HZ3.out; have := HS.out; omega) (fun k h => by rcases h with rfl | rfl <;> omega))
      exact (HB.out.trans hb4).trans ⟨hw9.os, hw9.tape, hw9.output, Nat.le_of_eq hw9.size.symm, fun k hk => hw9.block k (by omega) (by omega)⟩
  · have hok' : hearOk me by_ x votes = false := by simpa using hok
    have HE' : Hid (hearE F T me by_ x ⟨view, votes, clock⟩ = ⟨view, votes, clock⟩ ∧ hearVo F me by_ x ⟨view, votes, clock⟩ = 0 ∧ hearVi F T me by_ x ⟨view, votes, clock⟩ = 0) := Lib.hid ⟨by rw [hearE, if_neg hok], by rw [hearVo, if_neg hok], by rw [hearVi, if_neg hok]⟩
    rw [hearOk, decide_eq_false_iff_not] at hok'
    obtain ⟨c0, c1, c2, c3, c4, c5, c6⟩ := HE.out.cells
    have hno : by_ < 0 ∨ (0 ≤ by_ ∧ (votes.length : Int) ≤ by_) ∨ (∃ k : Nat, by_ = k ∧ k < votes.length ∧ (k = me ∨ (k ≠ me ∧ (100000 < x ∨ (x ≤ 100000 ∧ x ≤ votes.getD k 0))))) := by
      by_cases h1 : by_ < 0
      · exact .inl h1
      · by_cases h2 : (votes.length : Int) ≤ by_
        · exact .inr (.inl ⟨by omega, h2⟩)
        · refine .inr (.inr ⟨by_.toNat, by omega, by omega, ?_⟩)
          by_cases h3 : by_.toNat = me
          · exact .inl h3
          · refine .inr ⟨h3, ?_⟩
            by_cases h4 : 100000 < x
            · exact .inl h4
            · exact .inr ⟨by omega, by
                by_cases h5 : votes.getD by_.toNat 0 < x
                · exact absurd ⟨by omega, by omega, by omega, by omega, h5⟩ hok'
                · omega⟩
    clear hok hok'
    rcases hno with h1 | ⟨h0, h1⟩ | ⟨k, rfl, hk, h1 | ⟨h0, h1 | ⟨h2, h1⟩⟩⟩
    · skip
      go_enter Try.func12, Try.ntmps12
      go_upto_region 2 with (fail)
      change Code.wp _ _ _ _ ((((w.alloc (.cells (ElV F T me view (.slice va votes.length vc) clock wait) 26)).alloc (.cells (ElV 0 0 0 0 (.slice none 0 0) 0 0) 26)).alloc (.cells #[.int .i64 0, .int .i64 0] 34)).alloc (.cells #[.int .i64 0, .int .i64 0] 34))
      rw [← HW0.out, ← HW1.out, ← HW2.out, ← HV.out]
      go_upto_region 3 with (fail)
      refine Wild.region_two (w.heap.size + 1) (w.heap.size + 2) 26 34 (ElV 0 0 0 0 (.slice none 0 0) 0 0) (ElV F T me view (.slice va votes.length vc) clock wait) #[.int .i64 0, .int .i64 0] #[.int .i64 0, .int .i64 0] 2 3 (by decide) (by decide) (by decide) HR.out HP.out (by kernel_rfl) (by kernel_rfl) (fun vs => ?_)
      refine Wild.walk_load 26 _ _ _ (elL F T me view (.slice va votes.length vc) clock wait) _ rfl (by rfl) rfl rfl (fun w' hw => rangeAt_row (cs := (elL F T me view (.slice va votes.length vc) clock wait)) ((hw.1.block w.heap.size (by omega) (by omega)).trans HE.out)) Try.underlying26 rfl info_el ?_
      simp only [Act.put, List.setIfInBounds_toArray, List.set_cons_zero, List.set_cons_succ]
      refine Wild.walk_load 34 _ _ _ [.int .i64 0, .int .i64 0] _ rfl (by rfl) rfl rfl (fun w' hw => rangeAt_row (cs := [.int .i64 0, .int .i64 0]) ((hw.1.block (w.heap.size + 3) (by omega) (by omega)).trans HO.out)) Try.underlying34 rfl info_out ?_
      simp only [Act.put, List.setIfInBounds_toArray, List.set_cons_zero, List.set_cons_succ]
      refine Wild.walk_wild _ rfl (by rfl) (fun w' hw K hK => ?_) ?_
      · obtain ⟨s1, s2, s3⟩ := hw.1.set1 (by omega)
        rcases hw.1.one with e | e <;> exact wp_store_row 26 _ _ rfl _ (ElV F T me view (.slice va votes.length vc) clock wait) rfl rfl 26 _ e info_el rfl ElV_one (hK.out undef _ s1 s2 trivial s3)
      simp only [Act.put]
      refine Wild.walk_wild _ rfl (by rfl) (fun w' hw K hK => ?_) ?_
      · obtain ⟨s1, s2, s3⟩ := hw.1.set2 (by omega)
        rcases hw.1.two with e | e <;> exact wp_store_row 34 _ _ rfl _ #[.int .i64 0, .int .i64 0] rfl rfl 34 _ e info_out rfl out_one (hK.out undef _ s1 s2 trivial s3)
      simp only [Act.put]
      refine Wild.walk_nil ?_
      intro w9 hw9 hr9 hp9
      go_wp2_with fail
      refine bodyPost_ret (results_cell2 rfl _ _ (w.heap.size + 1) (w.heap.size + 2) 26 34 _ _ (0, 0) (0, 0) _ _ rfl hr9 Try.underlying26 rfl info_el rfl hp9 Try.underlying34 rfl info_out) rfl ?_
      refine ⟨.slice va votes.length vc, by rw [HE'.out.1, HE'.out.2.1, HE'.out.2.2], ?_, fun k h => .inl h, ?_⟩
      · rw [HE'.out.1]; exact HSV.out.kept (S := fun k => k = w.heap.size + 1 ∨ k = w.heap.size + 2) ⟨hw9.os, hw9.tape, hw9.output, Nat.le_of_eq hw9.size.symm, fun k _ hk => hw9.block k (fun e => hk (.inl e)) (fun e => hk (.inr e))⟩ (fun k hk e => by have := HAV.out k hk; omega)
      · exact HB.out.trans ⟨hw9.os, hw9.tape, hw9.output, Nat.le_of_eq hw9.size.symm, fun k hk => hw9.block k (by omega) (by omega)⟩
    · have n1 : ¬ by_ < 0 := by omega
      go_enter Try.func12, Try.ntmps12
      go_upto_region 2 with (fail)
      change Code.wp _ _ _ _ ((((w.alloc (.cells (ElV F T me view (.slice va votes.length vc) clock wait) 26)).alloc (.cells (ElV 0 0 0 0 (.slice none 0 0) 0 0) 26)).alloc (.cells #[.int .i64 0, .int .i64 0] 34)).alloc (.cells #[.int .i64 0, .int .i64 0] 34))
      rw [← HW0.out, ← HW1.out, ← HW2.out, ← HV.out]
      go_upto_region 3 with (fail)
      refine Wild.region_two (w.heap.size + 1) (w.heap.size + 2) 26 34 (ElV 0 0 0 0 (.slice none 0 0) 0 0) (ElV F T me view (.slice va votes.length vc) clock wait) #[.int .i64 0, .int .i64 0] #[.int .i64 0, .int .i64 0] 2 3 (by decide) (by decide) (by decide) HR.out HP.out (by kernel_rfl) (by kernel_rfl) (fun vs => ?_)
      refine Wild.walk_load 26 _ _ _ (elL F T me view (.slice va votes.length vc) clock wait) _ rfl (by rfl) rfl rfl (fun w' hw => rangeAt_row (cs := (elL F T me view (.slice va votes.length vc) clock wait)) ((hw.1.block w.heap.size (by omega) (by omega)).trans HE.out)) Try.underlying26 rfl info_el ?_
      simp only [Act.put, List.setIfInBounds_toArray, List.set_cons_zero, List.set_cons_succ]
      refine Wild.walk_load 34 _ _ _ [.int .i64 0, .int .i64 0] _ rfl (by rfl) rfl rfl (fun w' hw => rangeAt_row (cs := [.int .i64 0, .int .i64 0]) ((hw.1.block (w.heap.size + 3) (by omega) (by omega)).trans HO.out)) Try.underlying34 rfl info_out ?_
      simp only [Act.put, List.setIfInBounds_toArray, List.set_cons_zero, List.set_cons_succ]
      refine Wild.walk_wild _ rfl (by rfl) (fun w' hw K hK => ?_) ?_
      · obtain ⟨s1, s2, s3⟩ := hw.1.set1 (by omega)
        rcases hw.1.one with e | e <;> exact wp_store_row 26 _ _ rfl _ (ElV F T me view (.slice va votes.length vc) clock wait) rfl rfl 26 _ e info_el rfl ElV_one (hK.out undef _ s1 s2 trivial s3)
      simp only [Act.put]
      refine Wild.walk_wild _ rfl (by rfl) (fun w' hw K hK => ?_) ?_
      · obtain ⟨s1, s2, s3⟩ := hw.1.set2 (by omega)
        rcases hw.1.two with e | e <;> exact wp_store_row 34 _ _ rfl _ #[.int .i64 0, .int .i64 0] rfl rfl 34 _ e info_out rfl out_one (hK.out undef _ s1 s2 trivial s3)
      simp only [Act.put]
      refine Wild.walk_nil ?_
      intro w9 hw9 hr9 hp9
      go_wp2_with fail
      refine bodyPost_ret (results_cell2 rfl _ _ (w.heap.size + 1) (w.heap.size + 2) 26 34 _ _ (0, 0) (0, 0) _ _ rfl hr9 Try.underlying26 rfl info_el rfl hp9 Try.underlying34 rfl info_out) rfl ?_
      refine ⟨.slice va votes.length vc, by rw [HE'.out.1, HE'.out.2.1, HE'.out.2.2], ?_, fun k h => .inl h, ?_⟩
      · rw [HE'.out.1]; exact HSV.out.kept (S := fun k => k = w.heap.size + 1 ∨ k = w.heap.size + 2) ⟨hw9.os, hw9.tape, hw9.output, Nat.le_of_eq hw9.size.symm, fun k _ hk => hw9.block k (fun e => hk (.inl e)) (fun e => hk (.inr e))⟩ (fun k hk e => by have := HAV.out k hk; omega)
      · exact HB.out.trans ⟨hw9.os, hw9.tape, hw9.output, Nat.le_of_eq hw9.size.symm, fun k hk => hw9.block k (by omega) (by omega)⟩
    · have n2 : (k : Int) < votes.length := by omega
      have n3 : (k : Int) = (me : Int) := by omega
      go_enter Try.func12, Try.ntmps12
      go_upto_region 2 with (fail)
      change Code.wp _ _ _ _ ((((w.alloc (.cells (ElV F T me view (.slice va votes.length vc) clock wait) 26)).alloc (.cells (ElV 0 0 0 0 (.slice none 0 0) 0 0) 26)).alloc (.cells #[.int .i64 0, .int .i64 0] 34)).alloc (.cells #[.int .i64 0, .int .i64 0] 34))
      rw [← HW0.out, ← HW1.out, ← HW2.out, ← HV.out]
      go_upto_region 3 with (fail)
      refine Wild.region_two (w.heap.size + 1) (w.heap.size + 2) 26 34 (ElV 0 0 0 0 (.slice none 0 0) 0 0) (ElV F T me view (.slice va votes.length vc) clock wait) #[.int .i64 0, .int .i64 0] #[.int .i64 0, .int .i64 0] 2 3 (by decide) (by decide) (by decide) HR.out HP.out (by kernel_rfl) (by kernel_rfl) (fun vs => ?_)
      refine Wild.walk_load 26 _ _ _ (elL F T me view (.slice va votes.length vc) clock wait) _ rfl (by rfl) rfl rfl (fun w' hw => rangeAt_row (cs := (elL F T me view (.slice va votes.length vc) clock wait)) ((hw.1.block w.heap.size (by omega) (by omega)).trans HE.out)) Try.underlying26 rfl info_el ?_
      simp only [Act.put, List.setIfInBounds_toArray, List.set_cons_zero, List.set_cons_succ]
      refine Wild.walk_load 34 _ _ _ [.int .i64 0, .int .i64 0] _ rfl (by rfl) rfl rfl (fun w' hw => rangeAt_row (cs := [.int .i64 0, .int .i64 0]) ((hw.1.block (w.heap.size + 3) (by omega) (by omega)).trans HO.out)) Try.underlying34 rfl info_out ?_
      simp only [Act.put, List.setIfInBounds_toArray, List.set_cons_zero, List.set_cons_succ]
      refine Wild.walk_wild _ rfl (by rfl) (fun w' hw K hK => ?_) ?_
      · obtain ⟨s1, s2, s3⟩ := hw.1.set1 (by omega)
        rcases hw.1.one with e | e <;> exact wp_store_row 26 _ _ rfl _ (ElV F T me view (.slice va votes.length vc) clock wait) rfl rfl 26 _ e info_el rfl ElV_one (hK.out undef _ s1 s2 trivial s3)
      simp only [Act.put]
      refine Wild.walk_wild _ rfl (by rfl) (fun w' hw K hK => ?_) ?_
      · obtain ⟨s1, s2, s3⟩ := hw.1.set2 (by omega)
        rcases hw.1.two with e | e <;> exact wp_store_row 34 _ _ rfl _ #[.int .i64 0, .int .i64 0] rfl rfl 34 _ e info_out rfl out_one (hK.out undef _ s1 s2 trivial s3)
      simp only [Act.put]
      refine Wild.walk_nil ?_
      intro w9 hw9 hr9 hp9
      go_wp2_with fail
      refine bodyPost_ret (results_cell2 rfl _ _ (w.heap.size + 1) (w.heap.size + 2) 26 34 _ _ (0, 0) (0, 0) _ _ rfl hr9 Try.underlying26 rfl info_el rfl hp9 Try.underlying34 rfl info_out) rfl ?_
      refine ⟨.slice va votes.length vc, by rw [HE'.out.1, HE'.out.2.1, HE'.out.2.2], ?_, fun k h => .inl h, ?_⟩
      · rw [HE'.out.1]; exact HSV.out.kept (S := fun k => k = w.heap.size + 1 ∨ k = w.heap.size + 2) ⟨hw9.os, hw9.tape, hw9.output, Nat.le_of_eq hw9.size.symm, fun k _ hk => hw9.block k (fun e => hk (.inl e)) (fun e => hk (.inr e))⟩ (fun k hk e => by have := HAV.out k hk; omega)
      · exact HB.out.trans ⟨hw9.os, hw9.tape, hw9.output, Nat.le_of_eq hw9.size.symm, fun k hk => hw9.block k (by omega) (by omega)⟩
    · have n2 : (k : Int) < votes.length := by omega
      have n3 : ¬ ((k : Int) = (me : Int)) := by omega
      go_enter Try.func12, Try.ntmps12
      go_upto_region 2 with (fail)
      change Code.wp _ _ _ _ ((((w.alloc (.cells (ElV F T me view (.slice va votes.length vc) clock wait) 26)).alloc (.cells (ElV 0 0 0 0 (.slice none 0 0) 0 0) 26)).alloc (.cells #[.int .i64 0, .int .i64 0] 34)).alloc (.cells #[.int .i64 0, .int .i64 0] 34))
      rw [← HW0.out, ← HW1.out, ← HW2.out, ← HV.out]
      go_upto_region 3 with (fail)
      refine Wild.region_two (w.heap.size + 1) (w.heap.size + 2) 26 34 (ElV 0 0 0 0 (.slice none 0 0) 0 0) (ElV F T me view (.slice va votes.length vc) clock wait) #[.int .i64 0, .int .i64 0] #[.int .i64 0, .int .i64 0] 2 3 (by decide) (by decide) (by decide) HR.out HP.out (by kernel_rfl) (by kernel_rfl) (fun vs => ?_)
      refine Wild.walk_load 26 _ _ _ (elL F T me view (.slice va votes.length vc) clock wait) _ rfl (by rfl) rfl rfl (fun w' hw => rangeAt_row (cs := (elL F T me view (.slice va votes.length vc) clock wait)) ((hw.1.block w.heap.size (by omega) (by omega)).trans HE.out)) Try.underlying26 rfl info_el ?_
      simp only [Act.put, List.setIfInBounds_toArray, List.set_cons_zero, List.set_cons_succ]
      refine Wild.walk_load 34 _ _ _ [.int .i64 0, .int .i64 0] _ rfl (by rfl) rfl rfl (fun w' hw => rangeAt_row (cs := [.int .i64 0, .int .i64 0]) ((hw.1.block (w.heap.size + 3) (by omega) (by omega)).trans HO.out)) Try.underlying34 rfl info_out ?_
      simp only [Act.put, List.setIfInBounds_toArray, List.set_cons_zero, List.set_cons_succ]
      refine Wild.walk_wild _ rfl (by rfl) (fun w' hw K hK => ?_) ?_
      · obtain ⟨s1, s2, s3⟩ := hw.1.set1 (by omega)
        rcases hw.1.one with e | e <;> exact wp_store_row 26 _ _ rfl _ (ElV F T me view (.slice va votes.length vc) clock wait) rfl rfl 26 _ e info_el rfl ElV_one (hK.out undef _ s1 s2 trivial s3)
      simp only [Act.put]
      refine Wild.walk_wild _ rfl (by rfl) (fun w' hw K hK => ?_) ?_
      · obtain ⟨s1, s2, s3⟩ := hw.1.set2 (by omega)
        rcases hw.1.two with e | e <;> exact wp_store_row 34 _ _ rfl _ #[.int .i64 0, .int .i64 0] rfl rfl 34 _ e info_out rfl out_one (hK.out undef _ s1 s2 trivial s3)
      simp only [Act.put]
      refine Wild.walk_nil ?_
      intro w9 hw9 hr9 hp9
      go_wp2_with fail
      refine bodyPost_ret (results_cell2 rfl _ _ (w.heap.size + 1) (w.heap.size + 2) 26 34 _ _ (0, 0) (0, 0) _ _ rfl hr9 Try.underlying26 rfl info_el rfl hp9 Try.underlying34 rfl info_out) rfl ?_
      refine ⟨.slice va votes.length vc, by rw [HE'.out.1, HE'.out.2.1, HE'.out.2.2], ?_, fun k h => .inl h, ?_⟩
      · rw [HE'.out.1]; exact HSV.out.kept (S := fun k => k = w.heap.size + 1 ∨ k = w.heap.size + 2) ⟨hw9.os, hw9.tape, hw9.output, Nat.le_of_eq hw9.size.symm, fun k _ hk => hw9.block k (fun e => hk (.inl e)) (fun e => hk (.inr e))⟩ (fun k hk e => by have := HAV.out k hk; omega)
      · exact HB.out.trans ⟨hw9.os, hw9.tape, hw9.output, Nat.le_of_eq hw9.size.symm, fun k hk => hw9.block k (by omega) (by omega)⟩
    · have n2 : (k : Int) < votes.length := by omega
      have n3 : ¬ ((k : Int) = (me : Int)) := by omega
      obtain ⟨vb, vo, rfl, -, q1, hcv'⟩ := HSV.out.cellAt (i := k) hk
      have hcv := hcv' k hk
      generalize votes.getD k 0 = z at hcv h1
      clear hcv'
      go_enter Try.func12, Try.ntmps12
      go_upto_region 2 with (fail)
      change Code.wp _ _ _ _ ((((w.alloc (.cells (ElV F T me view (.slice (some ⟨vb, vo, none⟩) votes.length vc) clock wait) 26)).alloc (.cells (ElV 0 0 0 0 (.slice none 0 0) 0 0) 26)).alloc (.cells #[.int .i64 0, .int .i64 0] 34)).alloc (.cells #[.int .i64 0, .int .i64 0] 34))
      rw [← HW0.out, ← HW1.out, ← HW2.out, ← HV.out]
      go_upto_region 3 with (fail)
      refine Wild.region_two (w.heap.size + 1) (w.heap.size + 2) 26 34 (ElV 0 0 0 0 (.slice none 0 0) 0 0) (ElV F T me view (.slice (some ⟨vb, vo, none⟩) votes.length vc) clock wait) #[.int .i64 0, .int .i64 0] #[.int .i64 0, .int .i64 0] 2 3 (by decide) (by decide) (by decide) HR.out HP.out (by kernel_rfl) (by kernel_rfl) (fun vs => ?_)
      refine Wild.walk_load 26 _ _ _ (elL F T me view (.slice (some ⟨vb, vo, none⟩) votes.length vc) clock wait) _ rfl (by rfl) rfl rfl (fun w' hw => rangeAt_row (cs := (elL F T me view (.slice (some ⟨vb, vo, none⟩) votes.length vc) clock wait)) ((hw.1.block w.heap.size (by omega) (by omega)).trans HE.out)) Try.underlying26 rfl info_el ?_
      simp only [Act.put, List.setIfInBounds_toArray, List.set_cons_zero, List.set_cons_succ]
      refine Wild.walk_load 34 _ _ _ [.int .i64 0, .int .i64 0] _ rfl (by rfl) rfl rfl (fun w' hw => rangeAt_row (cs := [.int .i64 0, .int .i64 0]) ((hw.1.block (w.heap.size + 3) (by omega) (by omega)).trans HO.out)) Try.underlying34 rfl info_out ?_
      simp only [Act.put, List.setIfInBounds_toArray, List.set_cons_zero, List.set_cons_succ]
      refine Wild.walk_wild _ rfl (by rfl) (fun w' hw K hK => ?_) ?_
      · obtain ⟨s1, s2, s3⟩ := hw.1.set1 (by omega)
        rcases hw.1.one with e | e <;> exact wp_store_row 26 _ _ rfl _ (ElV F T me view (.slice (some ⟨vb, vo, none⟩) votes.length vc) clock wait) rfl rfl 26 _ e info_el rfl ElV_one (hK.out undef _ s1 s2 trivial s3)
      simp only [Act.put]
      refine Wild.walk_wild _ rfl (by rfl) (fun w' hw K hK => ?_) ?_
      · obtain ⟨s1, s2, s3⟩ := hw.1.set2 (by omega)
        rcases hw.1.two with e | e <;> exact wp_store_row 34 _ _ rfl _ #[.int .i64 0, .int .i64 0] rfl rfl 34 _ e info_out rfl out_one (hK.out undef _ s1 s2 trivial s3)
      simp only [Act.put]
      refine Wild.walk_nil ?_
      intro w9 hw9 hr9 hp9
      go_wp2_with fail
      refine bodyPost_ret (results_cell2 rfl _ _ (w.heap.size + 1) (w.heap.size + 2) 26 34 _ _ (0, 0) (0, 0) _ _ rfl hr9 Try.underlying26 rfl info_el rfl hp9 Try.underlying34 rfl info_out) rfl ?_
      refine ⟨.slice (some ⟨vb, vo, none⟩) votes.length vc, by rw [HE'.out.1, HE'.out.2.1, HE'.out.2.2], ?_, fun k h => .inl h, ?_⟩
      · rw [HE'.out.1]; exact HSV.out.kept (S := fun k => k = w.heap.size + 1 ∨ k = w.heap.size + 2) ⟨hw9.os, hw9.tape, hw9.output, Nat.le_of_eq hw9.size.symm, fun k _ hk => hw9.block k (fun e => hk (.inl e)) (fun e => hk (.inr e))⟩ (fun k hk e => by have := HAV.out k hk; omega)
      · exact HB.out.trans ⟨hw9.os, hw9.tape, hw9.output, Nat.le_of_eq hw9.size.symm, fun k hk => hw9.block k (by omega) (by omega)⟩
end Go.Proofs.Ytgkhgjoggkcklaa

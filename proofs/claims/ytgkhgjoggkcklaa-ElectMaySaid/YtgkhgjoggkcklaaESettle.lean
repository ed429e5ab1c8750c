/- The walk of elect's settle. -/
import Derived.Test.YtgkhgjoggkcklaaEVote
import Derived.Test.YtgkhgjoggkcklaaTabB
namespace Go.Proofs.Ytgkhgjoggkcklaa
open Go Go.RowKit
set_option maxRecDepth 100000
set_option maxHeartbeats 2000000

def OutB (w : World) (b : Nat) (t : TypeId) (x y : Int) : Prop := w.heap[b]? = some (.cells #[.int .i64 x, .int .i64 y] t (0, 0))
section
variable {w : World} {b : Nat} {t : TypeId} {x y : Int}
theorem OutB.lt (h : OutB w b t x y) : b < w.heap.size := (Array.getElem?_eq_some_iff.1 h).1
theorem OutB.cells (h : OutB w b t x y) : w.cell? ⟨b, 0, none⟩ = some (.int .i64 x) ∧ w.cell? ⟨b, 1, none⟩ = some (.int .i64 y) := ⟨cell_of_row w b 0 _ t (0, 0) h, cell_of_row w b 1 _ t (0, 0) h⟩
theorem OutB.frozen (h : OutB w b t x y) (i : Nat) : w.frozen? ⟨b, i, none⟩ = false := frozen_of_row w b i _ _ h
theorem OutB.kept {S : Nat → Prop} {w' : World} (h : OutB w b t x y) (hk : Kept S w w') (hS : ¬ S b) : OutB w' b t x y := (hk.block b h.lt hS).trans h
theorem OutB.set0 (h : OutB w b t x y) (z : Int) : OutB (w.setCell ⟨b, 0, none⟩ (.int .i64 z)) b t z y := heap_setCell_same w b 0 _ t _ h
theorem OutB.set1 (h : OutB w b t x y) (z : Int) : OutB (w.setCell ⟨b, 1, none⟩ (.int .i64 z)) b t x z := heap_setCell_same w b 1 _ t _ h
theorem OutB.setOther (h : OutB w b t x y) {p : Addr} (hp : b ≠ p.block) (u : Value) : OutB (w.setCell p u) b t x y := (Below.heap_setCell _ _ _ _ hp).trans h
end
/-- whether it joins; the votes behind it -/
def joins (F : Int) (me : Nat) (votes : List Int) : Bool := decide (votes.getD me 0 < nthV votes (F + 1))
def joined (F : Int) (me : Nat) (votes : List Int) : List Int := if joins F me votes then votes.set me (nthV votes (F + 1)) else votes
def joinO (F : Int) (me : Nat) (votes : List Int) (o : Int) : Int := if joins F me votes then nthV votes (F + 1) else o
def enters (F T : Int) (me : Nat) (view : Int) (votes : List Int) : Bool := decide (view < nthV (joined F me votes) (2 * F + T + 1))
def enterV (F T : Int) (me : Nat) (view : Int) (votes : List Int) : Int := if enters F T me view votes then nthV (joined F me votes) (2 * F + T + 1) else view
def enterC (F T : Int) (me : Nat) (view : Int) (votes : List Int) (clock : Int) : Int := if enters F T me view votes then 0 else clock
def enterO (F T : Int) (me : Nat) (view : Int) (votes : List Int) (o : Int) : Int := if enters F T me view votes then nthV (joined F me votes) (2 * F + T + 1) else o

theorem el_size {w : World} {eb : Nat} {t : TypeId} {F T me view : Int} {vv : Value} {clock wait : Int} (h : ElB w eb t F T me view vv clock wait) : w.rangeAt eb 0 [.int .i64 F, .int .i64 T] := fun j v hj => by
  rw [cell_of_row w eb (0 + j) _ t (0, 0) h]
  match j, hj with
  | 0, hj => exact hj
  | 1, hj => exact hj
theorem info_size : (Try.prog.info? 23).map (·.size) = some 2 := by kernel_rfl

/-- a block of numbers -/
def IntRow (w : World) (k : Nat) : Prop := ∃ cs, w.heap[k]? = some (.cells cs 3 (0, 0))
theorem IntRow.kept {S : Nat → Prop} {w w' : World} {k : Nat} (h : IntRow w k) (hk : Kept S w w') (hS : ¬ S k) : IntRow w' k := by
  obtain ⟨cs, h⟩ := h
  exact ⟨cs, (hk.block k (Array.getElem?_eq_some_iff.1 h).1 hS).trans h⟩
theorem IntRow.later {w w' : World} {k : Nat} (h : IntRow w k) (hk : Below w.heap.size w w') : IntRow w' k := by
  obtain ⟨cs, h⟩ := h
  exact ⟨cs, (hk.block k (Array.getElem?_eq_some_iff.1 h).1).trans h⟩
theorem ap_later {eb ob k B : Nat} {X : Prop} {w w' : World} (h : k ≠ eb ∧ k ≠ ob ∧ (X ∨ (B ≤ k ∧ IntRow w k))) (hk : Kept (fun k => k = eb ∨ k = ob) w w') : k ≠ eb ∧ k ≠ ob ∧ (X ∨ (B ≤ k ∧ IntRow w' k)) :=
  ⟨h.1, h.2.1, h.2.2.imp id fun h2 => ⟨h2.1, h2.2.kept hk (fun e => by rcases e with e | e; exact h.1 e; exact h.2.1 e)⟩⟩
theorem settle_any (eb ob : Nat) (F T : Int) (me : Nat) (view : Int) (vv : Value) (clock wait a b : Int) (votes : List Int) (w : World) (hE : ElB w eb 26 F T me view vv clock wait) (hO : OutB w ob 34 a b) (hne : eb ≠ ob) (hv : SlI w .i64 vv votes)
    (hap : ∀ k, vv.ownBlock = some k → k ≠ eb ∧ k ≠ ob) (hr : RightS F T) (hl : votes.length ≤ 1000) (hme : me < votes.length) :
    Calls Try.prog 34 #[.pointer (some ⟨eb, 0, none⟩), .pointer (some ⟨ob, 0, none⟩)] w fun e w' => e = .returned (.tuple #[]) ∧ ∃ vv', ElB w' eb 26 F T me (enterV F T me view votes) vv' (enterC F T me view votes clock) wait ∧
      OutB w' ob 34 (joinO F me votes a) (enterO F T me view votes b) ∧ SlI w' .i64 vv' (joined F me votes) ∧ (∀ k, vv'.ownBlock = some k → k ≠ eb ∧ k ≠ ob ∧ (vv.ownBlock = some k ∨ (w.heap.size ≤ k ∧ IntRow w' k))) ∧ Kept (fun k => k = eb ∨ k = ob) w w' := by
  have HWE := Lib.hid (fun w' => Weak_any F T w' hr)
  have HPR := Lib.hid (fun w' => Proof_any F T w' hr)
  have HNT := Lib.hid (fun v l n w' (h : SlI w' .i64 v l) (hl : l.length ≤ 1000000) => Nth_any v l n w' h hl)
  obtain ⟨jn, Hjn⟩ : ∃ jn, Hid (jn = joins F me votes) := ⟨_, Lib.hid rfl⟩
  obtain ⟨en, Hen⟩ : ∃ en, Hid (en = enters F T me view votes) := ⟨_, Lib.hid rfl⟩
  obtain ⟨J, HJ⟩ : ∃ J, Hid (J = nthV votes (F + 1)) := ⟨_, Lib.hid rfl⟩
  obtain ⟨U, HU⟩ : ∃ U, Hid (U = nthV (joined F me votes) (2 * F + T + 1)) := ⟨_, Lib.hid rfl⟩
  have HJL : Hid ((joined F me votes).length = votes.length) := Lib.hid (by rw [joined]; split <;> simp)
  obtain ⟨z, Hz⟩ : ∃ z, Hid (z = votes.getD me 0) := ⟨_, Lib.hid rfl⟩
  have d1 : decide (z < J) = jn := by rw [Hjn.out, joins, HJ.out, Hz.out]
  have d2 : decide (view < U) = en := by rw [Hen.out, enters, HU.out]
  have HE := Lib.hid hE
  have HO := Lib.hid hO
  have HS := Lib.hid hv
  have HAP := Lib.hid hap
  obtain ⟨va, vc, rfl⟩ := hv.shape
  obtain ⟨vb, vo, rfl, -, q1, hcv⟩ := hv.cellAt (i := me) hme
  have HCV := Lib.hid (hcv me hme)
  rw [← Hz.out] at HCV
  have HEL := Lib.hid hE.lt
  have hmi : (me : Int) < votes.length := by omega
  clear hE hO hv hap hcv
  go_enter Try.func34, Try.ntmps34
  go_upto_region 0 with (fail)
  refine Wild.region_b (fun k => match k with | 8 => some (.fix (.int .i64 (F + 1))) | 9 => some (.fix (.int .i64 J)) | _ => none) (fun _ => []) rfl (by kernel_rfl) (fun vs hvs => ?_)
  have h8 : vs 8 = .int .i64 (F + 1) := hvs 8 _ rfl
  have h9 : vs 9 = .int .i64 J := hvs 9 _ rfl
  repeat (refine Wild.walk_simple rfl (by rfl) (by rfl) (fun K hK => ?_); go_big_quiet_op; first | (refine hK _ ?_; clear hK K) | (refine ⟨_, fun _ _ => rfl, hK _ ?_⟩; clear hK K))
  refine Wild.walk_run (.pointer (some ⟨eb, 0, none⟩)) rfl (by rfl) (fun w' _ => ?_) ?_
  · unfold execOp
    go_simp
  simp only [Act.put, List.setIfInBounds_toArray, List.set_cons_zero, List.set_cons_succ]
  repeat (refine Wild.walk_simple rfl (by rfl) (by rfl) (fun K hK => ?_); go_big_quiet_op; first | (refine hK _ ?_; clear hK K) | (refine ⟨_, fun _ _ => rfl, hK _ ?_⟩; clear hK K))
  refine Wild.walk_cell 24 _ _ _ (.slice (some ⟨vb, vo, none⟩) votes.length vc) _ rfl (by rfl) rfl rfl (fun w hw => (HE.out.later hw.1).cells.2.2.2.2.1) Try.underlying24 rfl ?_
  simp only [Act.put, List.setIfInBounds_toArray, List.set_cons_zero, List.set_cons_succ]
  repeat (refine Wild.walk_simple rfl (by rfl) (by rfl) (fun K hK => ?_); go_big_quiet_op; first | (refine hK _ ?_; clear hK K) | (refine ⟨_, fun _ _ => rfl, hK _ ?_⟩; clear hK K))
  refine Wild.walk_run (.pointer (some ⟨eb, 0, none⟩)) rfl (by rfl) (fun w' _ => ?_) ?_
  · unfold execOp
    go_simp
  simp only [Act.put, List.setIfInBounds_toArray, List.set_cons_zero, List.set_cons_succ]
  repeat (refine Wild.walk_simple rfl (by rfl) (by rfl) (fun K hK => ?_); go_big_quiet_op; first | (refine hK _ ?_; clear hK K) | (refine ⟨_, fun _ _ => rfl, hK _ ?_⟩; clear hK K))
  refine Wild.walk_load 23 _ _ _ [.int .i64 F, .int .i64 T] _ rfl (by rfl) rfl rfl (fun w hw => el_size (HE.out.later hw.1)) Try.underlying23 rfl info_size ?_
  simp only [Act.put, List.setIfInBounds_toArray, List.set_cons_zero, List.set_cons_succ]
  refine Wild.walk_wild _ rfl (by rfl) (fun w' hw K hK => ?_) ?_
  · go_simp
    go_at_call 14
    refine (HWE.out w').mono ?_
    rintro e w'' ⟨rfl, hb⟩
    exact hK.out _ _ (hw.1.trans (hb.mono hw.1.size)) hb rfl trivial
  rw [h8]
  simp only [Act.put, List.setIfInBounds_toArray, List.set_cons_zero, List.set_cons_succ]
  refine Wild.walk_wild _ rfl (by rfl) (fun w' hw K hK => ?_) ?_
  · go_simp
    go_at_call 17
    refine (HNT.out _ votes (F + 1) w' (HS.out.later hw.1) (by omega)).mono ?_
    rintro e w'' ⟨rfl, hb⟩
    rw [← HJ.out]
    exact hK.out _ _ (hw.1.trans (hb.mono hw.1.size)) hb rfl trivial
  rw [h9]
  simp only [Act.put, List.setIfInBounds_toArray, List.set_cons_zero, List.set_cons_succ]
  repeat (refine Wild.walk_simple rfl (by rfl) (by rfl) (fun K hK => ?_); go_big_quiet_op; first | (refine hK _ ?_; clear hK K) | (refine ⟨_, fun _ _ => rfl, hK _ ?_⟩; clear hK K))
  refine Wild.walk_nil ?_
  intro w1 hw1 hf1
  have HB1 : Hid (Below w.heap.size w w1) := Lib.hid hw1
  have HE1 := Lib.hid (HE.out.later HB1.out)
  have HO1 : Hid (OutB w1 ob 34 a b) := Lib.hid ((HB1.out.block ob HO.out.lt).trans HO.out)
  have HS1 := Lib.hid (HS.out.later HB1.out)
  have HC1 : Hid (w1.cell? ⟨vb, vo + me, none⟩ = some (.int .i64 z)) := Lib.hid (by rw [HB1.out.cell (World.block_lt_of_cell? _ _ HCV.out)]; exact HCV.out)
  clear hw1 hf1 h8 h9 hvs
  obtain ⟨c0, c1, c2, c3, c4, c5, c6⟩ := HE1.out.cells
  have hc1 := HC1.out
  go_upto_region 1 with (fail)
  go_quiet (fail)
  clear c0 c1 c2 c3 c4 c5 c6 hc1
  obtain ⟨W2, HW2, HB12⟩ : ∃ W, Hid (W = w1.drewN nq) ∧ Hid (Below w1.heap.size w1 W) := ⟨_, Lib.hid rfl, Lib.hid ⟨rfl, rfl, rfl, Nat.le_refl _, fun _ _ => rfl⟩⟩
  rw [← HW2.out]
  have HB2 := Lib.hid (HB1.out.trans (HB12.out.mono HB1.out.size))
  have HE2 := Lib.hid (HE1.out.later HB12.out)
  have HO2 : Hid (OutB W2 ob 34 a b) := Lib.hid ((HB12.out.block ob HO1.out.lt).trans HO1.out)
  have HS2 := Lib.hid (HS1.out.later HB12.out)
  clear HW2
  have HVO := Lib.hid (fun w' hE hv => vote_any eb me F T me view (.slice (some ⟨vb, vo, none⟩) votes.length vc) clock wait J votes w' hE hv (by omega) hme)
  obtain ⟨c0, c1, c2, c3, c4, c5, c6⟩ := HE2.out.cells
  cases jn
  case' false =>
    go_upto_region 4 with (fail)
    obtain ⟨W4, HW4, HE4, HO4, HS4, HK4⟩ : ∃ W, Hid (W = W2) ∧ Hid (ElB W eb 26 F T me view (.slice (some ⟨vb, vo, none⟩) votes.length vc) clock wait) ∧ Hid (OutB W ob 34 (joinO F me votes a) b) ∧ Hid (SlI W .i64 (.slice (some ⟨vb, vo, none⟩) votes.length vc) (joined F me votes)) ∧ Hid (Kept (fun k => k = eb ∨ k = ob) w W) :=
      ⟨_, Lib.hid rfl, HE2, Lib.hid (by rw [joinO, ← Hjn.out]; exact HO2.out), Lib.hid (by rw [joined, ← Hjn.out]; exact HS2.out), Lib.hid (Kept.of HB2.out)⟩
    have HAP4 : Hid (∀ k, (Value.slice (some ⟨vb, vo, none⟩) votes.length vc).ownBlock = some k → k ≠ eb ∧ k ≠ ob ∧ ((Value.slice (some ⟨vb, vo, none⟩) votes.length vc).ownBlock = some k ∨ (w.heap.size ≤ k ∧ IntRow W4 k))) := Lib.hid (fun k h => ⟨(HAP.out k h).1, (HAP.out k h).2, .inl h⟩)
    rw [← HW4.out]
    obtain ⟨vx, Hvx⟩ : ∃ vx : Value, Hid (vx = .slice (some ⟨vb, vo, none⟩) votes.length vc) := ⟨_, Lib.hid rfl⟩
    rw [← Hvx.out] at HE4 HS4
    clear HW4
  case' true =>
    go_upto_region 4 with (go_at_call 33; refine (HVO.out W2 HE2.out HS2.out).mono ?_; rintro e w3 ⟨rfl, g, cap, e3, hg, r3, hc1, hc2, k3⟩; have HE3 := Lib.hid e3; have HG3 := Lib.hid hg; have HR3 := Lib.hid r3; have HK3 := Lib.hid k3; have HO3 := Lib.hid (HO2.out.kept k3 (Ne.symm hne)); have ho := HO3.out.cells.1; have hf := HO3.out.frozen 0; clear e3 hg r3 k3)
    have HGE : Hid (g ≠ eb ∧ g ≠ ob) := Lib.hid (by have h1 := HE2.out.lt; have h2 := HO2.out.lt; have h3 := HG3.out; omega)
    obtain ⟨W4, HW4, HE4, HO4, HS4, HK4⟩ : ∃ W, Hid (W = w3.setCell ⟨ob, 0, none⟩ (.int .i64 J)) ∧ Hid (ElB W eb 26 F T me view (.slice (some ⟨g, 0, none⟩) votes.length cap) clock wait) ∧ Hid (OutB W ob 34 (joinO F me votes a) b) ∧ Hid (SlI W .i64 (.slice (some ⟨g, 0, none⟩) votes.length cap) (joined F me votes)) ∧ Hid (Kept (fun k => k = eb ∨ k = ob) w W) :=
      ⟨_, Lib.hid rfl, Lib.hid (HE3.out.setOther (p := ⟨ob, 0, none⟩) hne _), Lib.hid (by rw [joinO, ← Hjn.out, if_pos rfl, ← HJ.out]; exact HO3.out.set0 J), Lib.hid (by
        rw [joined, ← Hjn.out, if_pos rfl, ← HJ.out]
        have h := RowI.sl (HR3.out.same (w' := w3.setCell ⟨ob, 0, none⟩ (.int .i64 J)) (Below.heap_setCell _ _ _ _ HGE.out.2)) (n := votes.length) (cap := cap) (by simp) hc1 hc2
        exact h), Lib.hid (((Kept.of HB2.out).trans (HK3.out.mono (fun k h => .inl h))).set (p := ⟨ob, 0, none⟩) (.inl (.inr rfl)) _)⟩
    rw [← HW4.out]
    have HI4 : Hid (IntRow W4 g) := Lib.hid (by rw [HW4.out]; obtain ⟨cur, h3, -⟩ := HR3.out; exact ⟨cur, (Below.heap_setCell _ _ _ _ HGE.out.2).trans h3⟩)
    have HAP4 : Hid (∀ k, (Value.slice (some ⟨g, 0, none⟩) votes.length cap).ownBlock = some k → k ≠ eb ∧ k ≠ ob ∧ ((Value.slice (some ⟨vb, vo, none⟩) votes.length vc).ownBlock = some k ∨ (w.heap.size ≤ k ∧ IntRow W4 k))) := Lib.hid (fun k h => by
      obtain rfl : g = k := Option.some.inj h
      exact ⟨HGE.out.1, HGE.out.2, .inr ⟨Nat.le_trans HB2.out.size HG3.out, HI4.out⟩⟩)
    obtain ⟨vx, Hvx⟩ : ∃ vx : Value, Hid (vx = .slice (some ⟨g, 0, none⟩) votes.length cap) := ⟨_, Lib.hid rfl⟩
    rw [← Hvx.out] at HE4 HS4
    clear HW4 ho hf hc1 hc2
  all_goals (clear c0 c1 c2 c3 c4 c5 c6)
  · try simp only [Act.put]
    refine Wild.region_b (fun k => match k with | 8 => some (.fix (.int .i64 (2 * F + T + 1))) | 9 => some (.fix (.int .i64 U)) | _ => none) (fun _ => []) rfl (by kernel_rfl) (fun us hus => ?_)
    have g8 : us 8 = .int .i64 (2 * F + T + 1) := hus 8 _ rfl
    have g9 : us 9 = .int .i64 U := hus 9 _ rfl
    repeat (refine Wild.walk_simple rfl (by rfl) (by rfl) (fun K hK => ?_); go_big_quiet_op; first | (refine hK _ ?_; clear hK K) | (refine ⟨_, fun _ _ => rfl, hK _ ?_⟩; clear hK K))
    refine Wild.walk_run (.pointer (some ⟨eb, 0, none⟩)) rfl (by rfl) (fun w' _ => ?_) ?_
    · unfold execOp
      go_simp
    simp only [Act.put, List.setIfInBounds_toArray, List.set_cons_zero, List.set_cons_succ]
    repeat (refine Wild.walk_simple rfl (by rfl) (by rfl) (fun K hK => ?_); go_big_quiet_op; first | (refine hK _ ?_; clear hK K) | (refine ⟨_, fun _ _ => rfl, hK _ ?_⟩; clear hK K))
    refine Wild.walk_cell 24 _ _ _ vx _ rfl (by rfl) rfl rfl (fun w hw => (HE4.out.later hw.1).cells.2.2.2.2.1) Try.underlying24 rfl ?_
    simp only [Act.put, List.setIfInBounds_toArray, List.set_cons_zero, List.set_cons_succ]
    repeat (refine Wild.walk_simple rfl (by rfl) (by rfl) (fun K hK => ?_); go_big_quiet_op; first | (refine hK _ ?_; clear hK K) | (refine ⟨_, fun _ _ => rfl, hK _ ?_⟩; clear hK K))
    refine Wild.walk_run (.pointer (some ⟨eb, 0, none⟩)) rfl (by rfl) (fun w' _ => ?_) ?_
    · unfold execOp
      go_simp
    simp only [Act.put, List.setIfInBounds_toArray, List.set_cons_zero, List.set_cons_succ]
    repeat (refine Wild.walk_simple rfl (by rfl) (by rfl) (fun K hK => ?_); go_big_quiet_op; first | (refine hK _ ?_; clear hK K) | (refine ⟨_, fun _ _ => rfl, hK _ ?_⟩; clear hK K))
    refine Wild.walk_load 23 _ _ _ [.int .i64 F, .int .i64 T] _ rfl (by rfl) rfl rfl (fun w hw => el_size (HE4.out.later hw.1)) Try.underlying23 rfl info_size ?_
    simp only [Act.put, List.setIfInBounds_toArray, List.set_cons_zero, List.set_cons_succ]
    refine Wild.walk_wild _ rfl (by rfl) (fun w' hw K hK => ?_) ?_
    · go_simp
      go_at_call 16
      refine (HPR.out w').mono ?_
      rintro e w'' ⟨rfl, hb⟩
      exact hK.out _ _ (hw.1.trans (hb.mono hw.1.size)) hb rfl trivial
    rw [g8]
    simp only [Act.put, List.setIfInBounds_toArray, List.set_cons_zero, List.set_cons_succ]
    refine Wild.walk_wild _ rfl (by rfl) (fun w' hw K hK => ?_) ?_
    · go_simp
      go_at_call 17
      refine (HNT.out _ (joined F me votes) (2 * F + T + 1) w' (HS4.out.later hw.1) (by rw [HJL.out]; omega)).mono ?_
      rintro e w'' ⟨rfl, hb⟩
      rw [← HU.out]
      exact hK.out _ _ (hw.1.trans (hb.mono hw.1.size)) hb rfl trivial
    rw [g9]
    simp only [Act.put, List.setIfInBounds_toArray, List.set_cons_zero, List.set_cons_succ]
    repeat (refine Wild.walk_simple rfl (by rfl) (by rfl) (fun K hK => ?_); go_big_quiet_op; first | (refine hK _ ?_; clear hK K) | (refine ⟨_, fun _ _ => rfl, hK _ ?_⟩; clear hK K))
    refine Wild.walk_nil ?_
    intro w5 hw5 hf5
    have HB5 : Hid (Below W4.heap.size W4 w5) := Lib.hid hw5
    have HE5 := Lib.hid (HE4.out.later HB5.out)
    have HO5 : Hid (OutB w5 ob 34 (joinO F me votes a) b) := Lib.hid ((HB5.out.block ob HO4.out.lt).trans HO4.out)
    have HS5 := Lib.hid (HS4.out.later HB5.out)
    have HK5 := Lib.hid (HK4.out.trans (Kept.of HB5.out))
    clear hw5 hf5 g8 g9 hus
    obtain ⟨c0, c1, c2, c3, c4, c5, c6⟩ := HE5.out.cells
    have f3 := HE5.out.frozen 3
    cases en
    · go_wp2_with fail
      go_end0
      exact ⟨rfl, vx, by rw [enterV, enterC, ← Hen.out]; exact HE5.out, by rw [enterO, ← Hen.out]; exact HO5.out, HS5.out, (by rw [Hvx.out]; exact fun k h => ap_later (HAP4.out k h) (Kept.of HB5.out)), HK5.out⟩
    · have HE6 := Lib.hid (HE5.out.setView U)
      have k5 := HE6.out.cells.2.2.2.2.2.1
      have f5 := HE6.out.frozen 5
      have HE7 := Lib.hid (HE6.out.setClock 0)
      have HO7 : Hid (OutB ((w5.setCell ⟨eb, 3, none⟩ (.int .i64 U)).setCell ⟨eb, 5, none⟩ (.int .i64 0)) ob 34 (joinO F me votes a) b) := Lib.hid ((HO5.out.setOther (p := ⟨eb, 3, none⟩) (Ne.symm hne) _).setOther (p := ⟨eb, 5, none⟩) (Ne.symm hne) _)
      have k7 := HO7.out.cells.2
      have f7 := HO7.out.frozen 1
      go_wp2_with fail
      go_end0
      refine ⟨rfl, vx, ?_, ?_, ?_, (by rw [Hvx.out]; exact fun k h => ap_later (HAP4.out k h) ((((Kept.of HB5.out).set (p := ⟨eb, 3, none⟩) (.inl (.inl rfl)) _).set (p := ⟨eb, 5, none⟩) (.inl (.inl rfl)) _).set (p := ⟨ob, 1, none⟩) (.inl (.inr rfl)) _)), ?_⟩
      · rw [enterV, enterC, ← Hen.out, if_pos rfl, if_pos rfl, ← HU.out]
        exact HE7.out.setOther (p := ⟨ob, 1, none⟩) hne _
      · rw [enterO, ← Hen.out, if_pos rfl, ← HU.out]
        exact HO7.out.set1 U
      · refine HS5.out.kept (S := fun k => k = eb ∨ k = ob) ?_ (fun k h e => by have h1 := (HAP4.out k (by rw [← Hvx.out]; exact h)).1; have h2 := (HAP4.out k (by rw [← Hvx.out]; exact h)).2.1; omega)
        exact (((Kept.refl _ _).set (p := ⟨eb, 3, none⟩) (.inl (.inl rfl)) _).set (p := ⟨eb, 5, none⟩) (.inl (.inl rfl)) _).set (p := ⟨ob, 1, none⟩) (.inl (.inr rfl)) _
      · exact (((HK5.out.set (p := ⟨eb, 3, none⟩) (.inl (.inl rfl)) _).set (p := ⟨eb, 5, none⟩) (.inl (.inl rfl)) _).set (p := ⟨ob, 1, none⟩) (.inl (.inr rfl)) _)
  · try simp only [Act.put]
    refine Wild.region_b (fun k => match k with | 8 => some (.fix (.int .i64 (2 * F + T + 1))) | 9 => some (.fix (.int .i64 U)) | _ => none) (fun _ => []) rfl (by kernel_rfl) (fun us hus => ?_)
    have g8 : us 8 = .int .i64 (2 * F + T + 1) := hus 8 _ rfl
    have g9 : us 9 = .int .i64 U := hus 9 _ rfl
    repeat (refine Wild.walk_simple rfl (by rfl) (by rfl) (fun K hK => ?_); go_big_quiet_op; first | (refine hK _ ?_; clear hK K) | (refine ⟨_, fun _ _ => rfl, hK _ ?_⟩; clear hK K))
    refine Wild.walk_run (.pointer (some ⟨eb, 0, none⟩)) rfl (by rfl) (fun w' _ => ?_) ?_
    · unfold execOp
      go_simp
    simp only [Act.put, List.setIfInBounds_toArray, List.set_cons_zero, List.set_cons_succ]
    repeat (refine Wild.walk_simple rfl (by rfl) (by rfl) (fun K hK => ?_); go_big_quiet_op; first | (refine hK _ ?_; clear hK K) | (refine ⟨_, fun _ _ => rfl, hK _ ?_⟩; clear hK K))
    refine Wild.walk_cell 24 _ _ _ vx _ rfl (by rfl) rfl rfl (fun w hw => (HE4.out.later hw.1).cells.2.2.2.2.1) Try.underlying24 rfl ?_
    simp only [Act.put, List.setIfInBounds_toArray, List.set_cons_zero, List.set_cons_succ]
    repeat (refine Wild.walk_simple rfl (by rfl) (by rfl) (fun K hK => ?_); go_big_quiet_op; first | (refine hK _ ?_; clear hK K) | (refine ⟨_, fun _ _ => rfl, hK _ ?_⟩; clear hK K))
    refine Wild.walk_run (.pointer (some ⟨eb, 0, none⟩)) rfl (by rfl) (fun w' _ => ?_) ?_
    · unfold execOp
      go_simp
    simp only [Act.put, List.setIfInBounds_toArray, List.set_cons_zero, List.set_cons_succ]
    repeat (refine Wild.walk_simple rfl (by rfl) (by rfl) (fun K hK => ?_); go_big_quiet_op; first | (refine hK _ ?_; clear hK K) | (refine ⟨_, fun _ _ => rfl, hK _ ?_⟩; clear hK K))
    refine Wild.walk_load 23 _ _ _ [.int .i64 F, .int .i64 T] _ rfl (by rfl) rfl rfl (fun w hw => el_size (HE4.out.later hw.1)) Try.underlying23 rfl info_size ?_
    simp only [Act.put, List.setIfInBounds_toArray, List.set_cons_zero, List.set_cons_succ]
    refine Wild.walk_wild _ rfl (by rfl) (fun w' hw K hK => ?_) ?_
    · go_simp
      go_at_call 16
      refine (HPR.out w').mono ?_
      rintro e w'' ⟨rfl, hb⟩
      exact hK.out _ _ (hw.1.trans (hb.mono hw.1.size)) hb rfl trivial
    rw [g8]
    simp only [Act.put, List.setIfInBounds_toArray, List.set_cons_zero, List.set_cons_succ]
    refine Wild.walk_wild _ rfl (by rfl) (fun w' hw K hK => ?_) ?_
    · go_simp
      go_at_call 17
      refine (HNT.out _ (joined F me votes) (2 * F + T + 1) w' (HS4.out.later hw.1) (by rw [HJL.out]; omega)).mono ?_
      rintro e w'' ⟨rfl, hb⟩
      rw [← HU.out]
      exact hK.out _ _ (hw.1.trans (hb.mono hw.1.size)) hb rfl trivial
    rw [g9]
    simp only [Act.put, List.setIfInBounds_toArray, List.set_cons_zero, List.set_cons_succ]
    repeat (refine Wild.walk_simple rfl (by rfl) (by rfl) (fun K hK => ?_); go_big_quiet_op; first | (refine hK _ ?_; clear hK K) | (refine ⟨_, fun _ _ => rfl, hK _ ?_⟩; clear hK K))
    refine Wild.walk_nil ?_
    intro w5 hw5 hf5
    have HB5 : Hid (Below W4.heap.size W4 w5) := Lib.hid hw5
    have HE5 := Lib.hid (HE4.out.later HB5.out)
    have HO5 : Hid (OutB w5 ob 34 (joinO F me votes a) b) := Lib.hid ((HB5.out.block ob HO4.out.lt).trans HO4.out)
    have HS5 := Lib.hid (HS4.out.later HB5.out)
    have HK5 := Lib.hid (HK4.out.trans (Kept.of HB5.out))
    clear hw5 hf5 g8 g9 hus
    obtain ⟨c0, c1, c2, c3, c4, c5, c6⟩ := HE5.out.cells
    have f3 := HE5.out.frozen 3
    cases en
    · go_wp2_with fail
      go_end0
      exact ⟨rfl, vx, by rw [enterV, enterC, ← Hen.out]; exact HE5.out, by rw [enterO, ← Hen.out]; exact HO5.out, HS5.out, (by rw [Hvx.out]; exact fun k h => ap_later (HAP4.out k h) (Kept.of HB5.out)), HK5.out⟩
    · have HE6 := Lib.hid (HE5.out.setView U)
      have k5 := HE6.out.cells.2.2.2.2.2.1
      have f5 := HE6.out.frozen 5
      have HE7 := Lib.hid (HE6.out.setClock 0)
      have HO7 : Hid (OutB ((w5.setCell ⟨eb, 3, none⟩ (.int .i64 U)).setCell ⟨eb, 5, none⟩ (.int .i64 0)) ob 34 (joinO F me votes a) b) := Lib.hid ((HO5.out.setOther (p := ⟨eb, 3, none⟩) (Ne.symm hne) _).setOther (p := ⟨eb, 5, none⟩) (Ne.symm hne) _)
      have k7 := HO7.out.cells.2
      have f7 := HO7.out.frozen 1
      go_wp2_with fail
      go_end0
      refine ⟨rfl, vx, ?_, ?_, ?_, (by rw [Hvx.out]; exact fun k h => ap_later (HAP4.out k h) ((((Kept.of HB5.out).set (p := ⟨eb, 3, none⟩) (.inl (.inl rfl)) _).set (p := ⟨eb, 5, none⟩) (.inl (.inl rfl)) _).set (p := ⟨ob, 1, none⟩) (.inl (.inr rfl)) _)), ?_⟩
      · rw [enterV, enterC, ← Hen.out, if_pos rfl, if_pos rfl, ← HU.out]
        exact HE7.out.setOther (p := ⟨ob, 1, none⟩) hne _
      · rw [enterO, ← Hen.out, if_pos rfl, ← HU.out]
        exact HO7.out.set1 U
      · refine HS5.out.kept (S := fun k => k = eb ∨ k = ob) ?_ (fun k h e => by have h1 := (HAP4.out k (by rw [← Hvx.out]; exact h)).1; have h2 := (HAP4.out k (by rw [← Hvx.out]; exact h)).2.1; omega)
        exact (((Kept.refl _ _).set (p := ⟨eb, 3, none⟩) (.inl (.inl rfl)) _).set (p := ⟨eb, 5, none⟩) (.inl (.inl rfl)) _).set (p := ⟨ob, 1, none⟩) (.inl (.inr rfl)) _
      · exact (((HK5.out.set (p := ⟨eb, 3, none⟩) (.inl (.inl rfl)) _).set (p := ⟨eb, 5, none⟩) (.inl (.inl rfl)) _).set (p := ⟨ob, 1, none⟩) (.inl (.inr rfl)) _)
end Go.Proofs.Ytgkhgjoggkcklaa

/- The walk of the law ElectMoves. -/
import Derived.Test.YtgkhgjoggkcklaaEMovA
import Derived.Deep.CutRange
namespace Go.Proofs.Ytgkhgjoggkcklaa
open Go Go.RowKit
set_option maxRecDepth 100000
set_option maxHeartbeats 4000000

theorem moves_law (F T : Int) (me : Nat) (x : Int) (who : List Int) (E : El) (h : SizeOk F T me E.votes.length) (hx : x ≤ 100000) :
    (F + 1 ≤ (cGe (hearAll F T me x who E).votes x : Int) → (hearAll F T me x who E).votes.getD me 0 < x → heardB who me x E.votes = false) ∧
    (2 * F + T + 1 ≤ (cGe (hearAll F T me x who E).votes x : Int) → (hearAll F T me x who E).view < x → heardB who me x E.votes = false) ∧
    ((hearAll F T me x who E).view = E.view ∨ 2 * F + T + 1 ≤ (cGe (hearAll F T me x who E).votes (E.view + 1) : Int)) := by
  refine ⟨fun h1 h2 => ?_, fun h1 h2 => ?_, (moved_all F T me x E.view who E h ⟨Int.le_refl _, .inl rfl⟩).2⟩
  · by_cases hb : heardB who me x E.votes = true
    · have := (heard_settled F T me x hx who E h hb).1 h1
      omega
    · simpa using hb
  · by_cases hb : heardB who me x E.votes = true
    · have := (heard_settled F T me x hx who E h hb).2 h1
      omega
    · simpa using hb
theorem ElectMoves_good (F T : Int) (me : Nat) (view : Int) (v vw : Value) (clock wait x : Int) (votes who : List Int) (w : World) (hv : SlI w .i64 v votes) (hw : SlI w .i64 vw who)
    (h : RightE F T me view votes clock wait) (hx1 : 1 ≤ x) (hx2 : x ≤ 100000) (hn : who.length ≤ 60) :
    Calls Try.prog 3 #[.agg (ElV F T me view v clock wait), vw, .int .i64 x] w fun e w' => e = .returned (.bool true) ∧ Below w.heap.size w w' := by
  obtain ⟨va, vc, rfl⟩ := hv.shape
  obtain ⟨wa, wc, rfl⟩ := hw.shape
  obtain ⟨V, HV, HB, HE⟩ : ∃ V, Hid (V = w.alloc (.cells (ElV F T me view (.slice va votes.length vc) clock wait) 26)) ∧ Hid (Below w.heap.size w V) ∧ Hid (ElB V w.heap.size 26 F T me view (.slice va votes.length vc) clock wait) := ⟨_, Lib.hid rfl, Lib.hid ((Below.refl _ _).alloc (Nat.le_refl _) _), Lib.hid (heap_alloc_new _ _)⟩
  have HS := Lib.hid (hv.later HB.out)
  have HW := Lib.hid (hw.later HB.out)
  obtain ⟨N, HN⟩ : ∃ N, Hid (N = who.length) := ⟨_, Lib.hid rfl⟩
  rw [← HN.out] at hn HW ⊢
  have HPL := Lib.hid (fun w' => plain_any F T me view va votes.length vc clock wait w')
  have HRT := Lib.hid (fun w' h => Right_ref F T me view (.slice va votes.length vc) clock wait votes w' h)
  rw [decide_eq_true h] at HRT
  have hR : RightS F T := h.1
  have HSZ : Hid (SizeOk F T me votes.length) := Lib.hid ⟨hR, h.2.2.2.1, by have := h.2.2.1; have := h.2.2.2.1; omega⟩
  have HLN : Hid (votes.length ≤ 1000 ∧ me < votes.length ∧ 0 < votes.length) := Lib.hid (by have h1 := HSZ.out.hn; have h2 := HSZ.out.hme; obtain ⟨r1, r2, r3, r4⟩ := hR; omega)
  have HVW : Hid (0 ≤ view ∧ view ≤ 100000) := Lib.hid ⟨h.2.2.2.2.1, h.2.2.2.2.2.1⟩
  have HML := Lib.hid (moves_law F T me x who ⟨view, votes, clock⟩ HSZ.out hx2)
  have HH := Lib.hid (fun vv b (E : El) w' (h1 : SlI w' .i64 vv E.votes) (h2 : E.votes.length = votes.length) => Hear_any F T me vv wait b x E w' h1 hR (by rw [h2]; exact HLN.out.1) (by rw [h2]; exact HLN.out.2.1))
  have HWE := Lib.hid (fun w' => Weak_any F T w' hR)
  have HPR := Lib.hid (fun w' => Proof_any F T w' hR)
  have HHB := Lib.hid (fun w' h1 h2 => heard_any F T me view (.slice va votes.length vc) (.slice wa who.length wc) clock wait x votes who w' h1 h2 (by rw [← HN.out]; omega))
  rw [← HN.out] at HHB
  have HAB := Lib.hid (fun v l y w' h1 h2 => above_any v l y w' h1 h2)
  have HAL := Lib.hid (fun k h => hv.blt HLN.out.2.2 k h)
  have d2 : decide (x < 1) = false := decide_eq_false (by omega)
  have d3 : decide (100000 < x) = false := decide_eq_false (by omega)
  have d4 : decide ((60 : Int) < N) = false := decide_eq_false (by omega)
  have hni : (N : Int) ≤ 60 := by omega
  clear hv hw h
  go_enter Try.func3, Try.ntmps3
  go_upto_region 1 with (fail)
  rw [← HV.out]
  go_upto_region 3 with (first
    | ((with_reducible refine at_load 26 _ rfl ?_); refine wpList_load_row rfl 26 _ rfl _ rfl _ (ElV F T me view (.slice va votes.length vc) clock wait) (0, 0) _ HE.out Try.underlying26 rfl info_el ?_)
    | (go_at_call 10; refine (HPL.out _).mono ?_; rintro e w1 ⟨rfl, b1⟩; have HB1 := Lib.hid b1; clear b1)
    | (go_at_call 9; refine (HRT.out _ (HS.out.later HB1.out)).mono ?_; rintro e w2 ⟨rfl, b2⟩; have HB2 := Lib.hid (HB1.out.trans (b2.mono HB1.out.size)); clear b2))
  have HE2 := Lib.hid (HE.out.later HB2.out)
  have HS2 := Lib.hid (HS.out.later HB2.out)
  have HW2 := Lib.hid (HW.out.later HB2.out)
  have HBw2 := Lib.hid (HB.out.trans (HB2.out.mono HB.out.size))
  clear HB1 HB2 HV HE HS HW HB HRT HPL d2 d3 d4
  go_upto_region 4 with (first
    | ((with_reducible refine at_load 26 _ rfl ?_); refine wpList_load_row rfl 26 _ rfl _ rfl _ (ElV F T me view (.slice va votes.length vc) clock wait) (0, 0) _ HE2.out Try.underlying26 rfl info_el ?_)
    | ((with_reducible refine at_store 26 _ _ rfl ?_); refine wpList_store_new rfl 26 _ _ rfl (ElV F T me view (.slice va votes.length vc) clock wait) rfl rfl 26 _ info_el rfl ElV_one ?_))
  obtain ⟨nb, Hnb⟩ : ∃ nb, Hid (nb = w2.heap.size) := ⟨_, Lib.hid rfl⟩
  obtain ⟨W3, HW3, HB23, HN3, HZ3⟩ : ∃ W, Hid (W = w2.alloc (.cells (ElV F T me view (.slice va votes.length vc) clock wait) 26)) ∧ Hid (Below w2.heap.size w2 W) ∧ Hid (ElB W nb 26 F T me view (.slice va votes.length vc) clock wait) ∧ Hid (nb < W.heap.size) :=
    ⟨_, Lib.hid rfl, Lib.hid ((Below.refl _ _).alloc (Nat.le_refl _) _), Lib.hid (by rw [Hnb.out]; exact heap_alloc_new _ _), Lib.hid (by rw [Hnb.out]; simp)⟩
  rw [← HW3.out, ← Hnb.out]
  rw [← Hnb.out] at HB23
  have HEN : Hid (w.heap.size < nb) := Lib.hid (by rw [Hnb.out]; exact HE2.out.lt)
  have HWN : Hid (w.heap.size ≤ w2.heap.size) := Lib.hid HBw2.out.size
  have HO3 : Hid (OkV nb W3 (.slice va votes.length vc) votes) := Lib.hid ⟨HS2.out.later (by rw [Hnb.out] at HB23; exact HB23.out), fun k hk => .inl (by have h1 := HAL.out k hk; have h2 := HEN.out; omega)⟩
  have HNE : Hid (Below nb w2 W3) := Lib.hid HB23.out
  clear HW3 HB23
  try simp only [Act.put]
  go_upto_region 5 with (fail)
  go_loopw [8] (fun i wr => ∃ (j : Nat) (E : El) (v' : Value), j ≤ N ∧ i = .int .i64 j ∧ Hid (E = hearAll F T me x (who.take j) ⟨view, votes, clock⟩) ∧ Hid (ElB wr nb 26 F T me E.view v' E.clock wait) ∧ Hid (OkV nb wr v' E.votes) ∧ Hid (Below nb w2 wr) ∧ Hid (nb < wr.heap.size)) (fun i _ => N - (intOf i).toNat)
  case atStart => exact ⟨0, ⟨view, votes, clock⟩, .slice va votes.length vc, by omega, rfl, Lib.hid rfl, HN3, HO3, HNE, HZ3⟩
  case round =>
    obtain ⟨j, E, v', hj, rfl, HEJ, HNJ, HOJ, HBJ, HZJ⟩ := hrel
    have HLJ : Hid (E.votes.length = votes.length) := Lib.hid (by rw [HEJ.out, hearAll_length])
    have HWJ := Lib.hid (HW2.out.later (by rw [Hnb.out] at HBJ; exact HBJ.out))
    by_cases hlt : j < N
    · obtain ⟨b, o, rfl, -, q, cl⟩ := HWJ.out.cellAt (i := j) (by rw [← HN.out]; exact hlt)
      have d1 := cl j (by rw [← HN.out]; exact hlt)
      rw [← HN.out] at q
      have HEJ' : Hid (hearE F T me (who.getD j 0) x E = hearAll F T me x (who.take (j + 1)) ⟨view, votes, clock⟩) := Lib.hid (by rw [take_succ' who j (by rw [← HN.out]; exact hlt), hearAll_append, ← HEJ.out]; rfl)
      obtain ⟨z, Hz⟩ : ∃ z, Hid (z = who.getD j 0) := ⟨_, Lib.hid rfl⟩
      rw [← Hz.out] at d1 HEJ'
      have hlt' : (j : Int) < N := by omega
      have HD1 := Lib.hid d1
      obtain ⟨a', c', rfl⟩ := HOJ.out.1.shape
      have HHJ := Lib.hid (fun w' h1 => HH.out (.slice a' E.votes.length c') z E w' h1 HLJ.out)
      have HL2 : Hid ((hearE F T me z x E).votes.length = votes.length) := Lib.hid (by rw [hearE_length]; exact HLJ.out)
      generalize hearE F T me z x E = E' at *
      generalize hearVo F me z x E = vo at *
      generalize hearVi F T me z x E = vi at *
      clear cl Hz
      go_upto_region 7 with (fail)
      clear d1
      have hp : ∀ vv w w', OkV nb w vv E'.votes → Below w.heap.size w w' → OkV nb w' vv E'.votes := fun _ _ _ h hb => h.later hb
      have hp2 : ∀ vv w b t cs cs', OkV nb w vv E'.votes → wr.heap.size ≤ b → Wild.rowOf w b t cs → (t = 26 ∨ t = 34) → OkV nb (w.setRow b cs') vv E'.votes := fun vv w b t cs cs' h hb hr ht => h.row (by have := HZJ.out; omega) hr (by rcases ht with rfl | rfl <;> decide) cs'
      have h5 : Wild.Five 6 10 11 12 13 := by constructor <;> decide
      refine Wild.region_call2 (fun vv w => OkV nb w vv E'.votes) 26 34 (ElV 0 0 0 0 (.slice none 0 0) 0 0) (fun vv => ElV F T me E'.view vv E'.clock wait) #[.int .i64 0, .int .i64 0] #[.int .i64 vo, .int .i64 vi] 6 10 11 12 13 [7, 8, 9] h5 rfl (by kernel_rfl) (fun vs hvs => ?_)
      obtain ⟨vx, hvx⟩ := hvs
      refine Wild.walk_load 26 _ _ _ (elL F T me E.view (.slice a' E.votes.length c') E.clock wait) _ rfl (by rfl) rfl rfl (fun w' hw => rangeAt_row (cs := elL F T me E.view (.slice a' E.votes.length c') E.clock wait) (HNJ.out.later hw.1)) Try.underlying26 rfl info_el ?_
      simp only [Act.put, List.setIfInBounds_toArray, List.set_cons_zero, List.set_cons_succ]
      refine Wild.walk_simple rfl (by rfl) (by rfl) (fun K hK => ?_); go_big_quiet_op; first | (refine hK _ ?_; clear hK K) | (refine ⟨_, fun _ _ => rfl, hK _ ?_⟩; clear hK K)
      refine Wild.walk_simple rfl (by rfl) (by rfl) (fun K hK => ?_); go_big_quiet_op; first | (refine hK _ ?_; clear hK K) | (refine ⟨_, fun _ _ => rfl, hK _ ?_⟩; clear hK K)
      refine Wild.walk_simple rfl (by rfl) (by rfl) (fun K hK => ?_); go_big_quiet_op; first | (refine hK _ ?_; clear hK K) | (refine ⟨_, fun _ _ => rfl, hK _ ?_⟩; clear hK K)
      refine Wild.walk_cell 3 _ _ _ (.int .i64 z) _ rfl (by rfl) rfl rfl (fun w' hw => (hw.1.cell (World.block_lt_of_cell? _ _ HD1.out)).trans HD1.out) Try.underlying3 rfl ?_
      simp only [Act.put, List.setIfInBounds_toArray, List.set_cons_zero, List.set_cons_succ]
      refine Wild.walk_simple rfl (by rfl) (by rfl) (fun K hK => ?_); go_big_quiet_op; first | (refine hK _ ?_; clear hK K) | (refine ⟨_, fun _ _ => rfl, hK _ ?_⟩; clear hK K)
      refine Wild.walk_wild _ rfl (by rfl) (fun w' hw K hK => ?_) ?_
      · go_simp
        go_at_call 12
        refine (HHJ.out w' (HOJ.out.later hw.1).1).mono ?_
        rintro e w'' ⟨vv', rfl, s9, p9, hb⟩
        refine hK.out _ _ (hw.1.trans (hb.mono hw.1.size)) (Wild.Gc.of_below hp hb) ⟨vv', rfl⟩ (Wild.spc_ci ⟨s9, fun k hk => ?_⟩)
        rcases p9 k hk with h9 | h9
        · exact ((HOJ.out.later hw.1).2 k h9).imp id fun h2 => h2.later hb
        · exact .inr h9.2
      rw [hvx]
      simp only [Act.put, List.setIfInBounds_toArray, List.set_cons_zero, List.set_cons_succ]
      refine Wild.walk_simple rfl (by rfl) (by rfl) (fun K hK => ?_); go_big_quiet_op; first | (refine hK _ ?_; clear hK K) | (refine ⟨_, fun _ _ => rfl, hK _ ?_⟩; clear hK K)
      refine Wild.walk_simple rfl (by rfl) (by rfl) (fun K hK => ?_); go_big_quiet_op; first | (refine hK _ ?_; clear hK K) | (refine ⟨_, fun _ _ => rfl, hK _ ?_⟩; clear hK K)
      refine Wild.walk_simple rfl (by rfl) (by rfl) (fun K hK => ?_); go_big_quiet_op; first | (refine hK _ ?_; clear hK K) | (refine ⟨_, fun _ _ => rfl, hK _ ?_⟩; clear hK K)
      refine Wild.walk_wild _ rfl (by rfl) (fun w' hw K hK => ?_) ?_
      · go_simp
        exact hK.out _ _ (hw.1.alloc hw.1.size _) (Wild.Gc.of_below hp ((Below.refl _ _).alloc (Nat.le_refl _) _)) trivial (Wild.spc_a1 h5 hw.1.size (heap_alloc_new _ _))
      simp only [Act.put, List.setIfInBounds_toArray, List.set_cons_zero, List.set_cons_succ]
      refine Wild.walk_wild _ rfl (by rfl) (fun w' hw K hK => ?_) ?_
      · go_simp
        exact hK.out _ _ (hw.1.alloc hw.1.size _) (Wild.Gc.of_below hp ((Below.refl _ _).alloc (Nat.le_refl _) _)) trivial (Wild.spc_a2 h5 hw.1.size (heap_alloc_new _ _))
      simp only [Act.put, List.setIfInBounds_toArray, List.set_cons_zero, List.set_cons_succ]
      refine Wild.walk_wild _ rfl (by rfl) (fun w' hw K hK => ?_) ?_
      · exact Wild.step_s1 h5 hp2 (by decide) rfl 26 _ _ rfl rfl vx hvx ElV_inj rfl info_el (fun _ => rfl) (fun h => by obtain ⟨x1, x2, rfl⟩ := h.1.shape; exact ElV_one) hw hK
      simp only [Act.put]
      refine Wild.walk_wild _ rfl (by rfl) (fun w' hw K hK => ?_) ?_
      · exact Wild.step_s2 (Z2 := #[.int .i64 0, .int .i64 0]) h5 hp2 (by decide) rfl 34 _ _ rfl rfl rfl info_out rfl out_one hw hK
      simp only [Act.put]
      refine Wild.walk_nil ?_
      intro w9 hw9 hf9
      obtain ⟨⟨b1, vy, e1, hb1, o1, r1⟩, b2, e2, -, -⟩ := Wild.spc_end h5 (by decide) (by decide) hf9
      rw [e1, e2]
      obtain ⟨y1, y2, rfl⟩ := o1.1.shape
      have HR1 := Lib.hid r1
      have HB9 : Hid (Below wr.heap.size wr w9) := Lib.hid hw9
      have HN9 := Lib.hid (HNJ.out.later hw9)
      have HBN : Hid (Below nb w2 (w9.setRow nb (ElV F T me E'.view (.slice y1 E'.votes.length y2) E'.clock wait))) := Lib.hid (below_row (HBJ.out.trans (HB9.out.mono (Nat.le_of_lt HZJ.out))) (Nat.le_refl _) _)
      have HNN : Hid (ElB (w9.setRow nb (ElV F T me E'.view (.slice y1 E'.votes.length y2) E'.clock wait)) nb 26 F T me E'.view (.slice y1 E'.votes.length y2) E'.clock wait) := Lib.hid (setRow_heap _ _ _ _ _ _ HN9.out)
      have HON : Hid (OkV nb (w9.setRow nb (ElV F T me E'.view (.slice y1 E'.votes.length y2) E'.clock wait)) (.slice y1 E'.votes.length y2) E'.votes) := Lib.hid (o1.row (Nat.le_refl _) HN9.out (by decide) _)
      have HZN : Hid (nb < (w9.setRow nb (ElV F T me E'.view (.slice y1 E'.votes.length y2) E'.clock wait)).heap.size) := Lib.hid (by have h1 := HB9.out.size; have h2 := HZJ.out; simp; omega)
      clear hf9 hw9 e1 e2 r1 o1 hvx hp hp2
      go_wp2_with (first
        | ((with_reducible refine at_load 26 _ rfl ?_); refine wpList_load_row rfl 26 _ rfl _ rfl _ (ElV F T me E'.view (.slice y1 E'.votes.length y2) E'.clock wait) (0, 0) _ HR1.out Try.underlying26 rfl info_el ?_)
        | ((with_reducible refine at_store 26 _ _ rfl ?_); refine wpList_store_row rfl 26 _ _ rfl nb (ElV F T me E'.view (.slice y1 E'.votes.length y2) E'.clock wait) rfl rfl 26 _ HN9.out info_el rfl ElV_one ?_))
      go_roundw
      case rel => exact ⟨j + 1, E', _, by omega, by go_num, HEJ', HNN, HON, HBN, HZN⟩
      case measure => simp [intOf]; omega
    · obtain rfl : j = N := by omega
      rw [HN.out, List.take_length] at HEJ
      rw [← HEJ.out] at HML
      obtain ⟨u, l, ck⟩ := E
      simp only at HML HNJ HOJ HLJ
      obtain ⟨a', c', rfl⟩ := HOJ.out.1.shape
      obtain ⟨b, o, rfl, -, q, cl⟩ := HOJ.out.1.cellAt (i := me) (by rw [HLJ.out]; exact HLN.out.2.1)
      have HD1 := Lib.hid (cl me (by rw [HLJ.out]; exact HLN.out.2.1))
      obtain ⟨c, Hc⟩ : ∃ c : Nat, Hid (c = cGe l x) := ⟨_, Lib.hid rfl⟩
      obtain ⟨c2, Hc2⟩ : ∃ c : Nat, Hid (c = cGe l (view + 1)) := ⟨_, Lib.hid rfl⟩
      rw [← Hc.out, ← Hc2.out] at HML
      obtain ⟨bH, HbH⟩ : ∃ b : Bool, Hid (b = heardB who me x votes) := ⟨_, Lib.hid rfl⟩
      rw [← HbH.out] at HML HHB
      have HLL : Hid (l.length ≤ 1000000 ∧ me < l.length) := Lib.hid (by have h1 := HLJ.out; have h2 := HLN.out; omega)
      have HA1 := Lib.hid (fun w' h1 => HAB.out (.slice (some ⟨b, o, none⟩) l.length c') l x w' h1 HLL.out.1)
      have HA2 := Lib.hid (fun w' h1 => HAB.out (.slice (some ⟨b, o, none⟩) l.length c') l (view + 1) w' h1 HLL.out.1)
      rw [← Hc.out] at HA1
      rw [← Hc2.out] at HA2
      generalize l.getD me 0 = z at HD1 HML
      have HFx : Hid (∀ W, Below wr.heap.size wr W → ElB W w.heap.size 26 F T me view (.slice va votes.length vc) clock wait ∧ ElB W nb 26 F T me u (.slice (some ⟨b, o, none⟩) l.length c') ck wait ∧
          SlI W .i64 (.slice (some ⟨b, o, none⟩) l.length c') l ∧ SlI W .i64 (.slice va votes.length vc) votes ∧ SlI W .i64 (.slice wa j wc) who ∧ W.cell? ⟨b, o + me, none⟩ = some (.int .i64 z)) := Lib.hid (fun W hW => by
        have h2 : Below w2.heap.size w2 wr := by have h3 := HBJ.out; rw [Hnb.out] at h3; exact h3
        exact ⟨(HE2.out.later h2).later hW, HNJ.out.later hW, HOJ.out.1.later hW, (HS2.out.later h2).later hW, HWJ.out.later hW, (hW.cell (World.block_lt_of_cell? _ _ HD1.out)).trans HD1.out⟩)
      have HBr : Hid (Below w.heap.size w wr) := Lib.hid (HBw2.out.trans (HBJ.out.mono (Nat.le_of_lt HEN.out)))
      have hml : me < l.length := HLL.out.2
      have hmli : (me : Int) < l.length := by omega
      have hvw1 := HVW.out.1
      have hvw2 := HVW.out.2
      obtain ⟨r1, r2, r3, r4⟩ := hR
      clear HE2 HS2 HW2 HBw2 HN3 HO3 HNE HZ3 HNJ HOJ HBJ HZJ HWJ HD1 cl HH HEJ HSZ HLN HVW Hc Hc2 HbH HAB HAL HLJ Hnb HEN HWN HLL
      obtain ⟨x1, x2, x3, x4, x5, x6⟩ := HFx.out wr (Below.refl _ _)
      obtain ⟨c0, c1, k2, c3, c4, c5, c6⟩ := x2.cells
      go_upto_region 10 with (go_at_call 13; refine (HA1.out _ x3).mono ?_; rintro e w5 ⟨rfl, rfl⟩)
      clear x1 x2 x3 x4 x5 x6 c0 c1 k2 c3 c4 c5 c6
      try simp only [Act.put]
      have HB0 : Hid (Below w5.heap.size w5 w5) := Lib.hid (Below.refl _ w5)
      have HL1 := Lib.hid HML.out.1
      have HL2 := Lib.hid HML.out.2.1
      have HL3 := Lib.hid HML.out.2.2
      clear HML
      go_cut [77] from 52 to 77 (fun s wx => s = .bool false ∧ Below w5.heap.size w5 wx)
      case first =>
        by_cases hA : F + 1 ≤ (c : Int)
        · have dA : decide (F + 1 ≤ (c : Int)) = true := decide_eq_true hA
          by_cases hB : z < x
          · have dB : decide (z < x) = true := decide_eq_true hB
            have HF := Lib.hid (HL1.out hA hB)
            obtain rfl := HF.out
            by_cases hN : (0 : Int) < j
            · have dN : decide ((0 : Int) < j) = true := decide_eq_true hN
              clear HF
              obtain ⟨y1, y2, y3, y4, y5, y6⟩ := HFx.out _ HB0.out
              go_wp2_with (first
                      | ((with_reducible refine at_load 23 _ rfl ?_); refine wpList_load_mid rfl 23 _ rfl w.heap.size 0 (by rfl) [.int .i64 F, .int .i64 T] _ (el_size y1) Try.underlying23 rfl info_size ?_)
                      | (go_at_call 14; refine (HWE.out _).mono ?_; rintro e w6A ⟨rfl, b6⟩; have HBaA : Hid _ := Lib.hid (HB0.out.trans (b6.mono HB0.out.size)); obtain ⟨z1, z2, z3, z4, z5, z6⟩ := HFx.out _ HBaA.out; obtain ⟨c0, c1, k2, c3, c4, c5, c6⟩ := z2.cells; obtain ⟨m0, m1, m2, m3, m4, m5, m6⟩ := z1.cells)
                      | ((with_reducible refine at_load 26 _ rfl ?_); refine wpList_load_want (by rfl) 26 _ rfl _ rfl _ (ElV F T me view (.slice va votes.length vc) clock wait) (0, 0) _ z1 Try.underlying26 rfl info_el ?_)
                      | (go_at_call 15; refine (HHB.out _ z4 z5).mono ?_; rintro e w7A ⟨rfl, b7⟩; have HBbA : Hid _ := Lib.hid (HBaA.out.trans (b7.mono HBaA.out.size))))
              go_meet
              exact ⟨rfl, HBbA.out⟩
            · have dN : decide ((0 : Int) < j) = false := decide_eq_false hN
              clear HF
              obtain ⟨y1, y2, y3, y4, y5, y6⟩ := HFx.out _ HB0.out
              go_wp2_with (first
                      | ((with_reducible refine at_load 23 _ rfl ?_); refine wpList_load_mid rfl 23 _ rfl w.heap.size 0 (by rfl) [.int .i64 F, .int .i64 T] _ (el_size y1) Try.underlying23 rfl info_size ?_)
                      | (go_at_call 14; refine (HWE.out _).mono ?_; rintro e w6A ⟨rfl, b6⟩; have HBaA : Hid _ := Lib.hid (HB0.out.trans (b6.mono HB0.out.size)); obtain ⟨z1, z2, z3, z4, z5, z6⟩ := HFx.out _ HBaA.out; obtain ⟨c0, c1, k2, c3, c4, c5, c6⟩ := z2.cells; obtain ⟨m0, m1, m2, m3, m4, m5, m6⟩ := z1.cells)
                      | ((with_reducible refine at_load 26 _ rfl ?_); refine wpList_load_want (by rfl) 26 _ rfl _ rfl _ (ElV F T me view (.slice va votes.length vc) clock wait) (0, 0) _ z1 Try.underlying26 rfl info_el ?_)
                      | (go_at_call 15; refine (HHB.out _ z4 z5).mono ?_; rintro e w7A ⟨rfl, b7⟩; have HBbA : Hid _ := Lib.hid (HBaA.out.trans (b7.mono HBaA.out.size))))
              go_meet
              exact ⟨rfl, HBaA.out⟩
          · have dB : decide (z < x) = false := decide_eq_false hB
            obtain ⟨y1, y2, y3, y4, y5, y6⟩ := HFx.out _ HB0.out
            go_wp2_with (first
                    | ((with_reducible refine at_load 23 _ rfl ?_); refine wpList_load_mid rfl 23 _ rfl w.heap.size 0 (by rfl) [.int .i64 F, .int .i64 T] _ (el_size y1) Try.underlying23 rfl info_size ?_)
                    | (go_at_call 14; refine (HWE.out _).mono ?_; rintro e w6A ⟨rfl, b6⟩; have HBaA : Hid _ := Lib.hid (HB0.out.trans (b6.mono HB0.out.size)); obtain ⟨z1, z2, z3, z4, z5, z6⟩ := HFx.out _ HBaA.out; obtain ⟨c0, c1, k2, c3, c4, c5, c6⟩ := z2.cells; obtain ⟨m0, m1, m2, m3, m4, m5, m6⟩ := z1.cells)
                    | ((with_reducible refine at_load 26 _ rfl ?_); refine wpList_load_want (by rfl) 26 _ rfl _ rfl _ (ElV F T me view (.slice va votes.length vc) clock wait) (0, 0) _ z1 Try.underlying26 rfl info_el ?_)
                    | (go_at_call 15; refine (HHB.out _ z4 z5).mono ?_; rintro e w7A ⟨rfl, b7⟩; have HBbA : Hid _ := Lib.hid (HBaA.out.trans (b7.mono HBaA.out.size))))
            go_meet
            exact ⟨rfl, HBaA.out⟩
        · have dA : decide (F + 1 ≤ (c : Int)) = false := decide_eq_false hA
          obtain ⟨y1, y2, y3, y4, y5, y6⟩ := HFx.out _ HB0.out
          go_wp2_with (first
                  | ((with_reducible refine at_load 23 _ rfl ?_); refine wpList_load_mid rfl 23 _ rfl w.heap.size 0 (by rfl) [.int .i64 F, .int .i64 T] _ (el_size y1) Try.underlying23 rfl info_size ?_)
                  | (go_at_call 14; refine (HWE.out _).mono ?_; rintro e w6A ⟨rfl, b6⟩; have HBaA : Hid _ := Lib.hid (HB0.out.trans (b6.mono HB0.out.size)); obtain ⟨z1, z2, z3, z4, z5, z6⟩ := HFx.out _ HBaA.out; obtain ⟨c0, c1, k2, c3, c4, c5, c6⟩ := z2.cells; obtain ⟨m0, m1, m2, m3, m4, m5, m6⟩ := z1.cells)
                  | ((with_reducible refine at_load 26 _ rfl ?_); refine wpList_load_want (by rfl) 26 _ rfl _ rfl _ (ElV F T me view (.slice va votes.length vc) clock wait) (0, 0) _ z1 Try.underlying26 rfl info_el ?_)
                  | (go_at_call 15; refine (HHB.out _ z4 z5).mono ?_; rintro e w7A ⟨rfl, b7⟩; have HBbA : Hid _ := Lib.hid (HBaA.out.trans (b7.mono HBaA.out.size))))
          go_meet
          exact ⟨rfl, HBaA.out⟩
      obtain ⟨rfl, hcb⟩ := hcut
      have HC77 := Lib.hid hcb
      clear hcb
      go_upto_region 12 with (fail)
      try simp only [Act.put]
      obtain ⟨wd, Hwd⟩ : ∃ W, Hid (W = wc) := ⟨_, Lib.hid rfl⟩
      rw [← Hwd.out] at HC77 ⊢
      clear Hwd wc
      go_cut [94] from 78 to 94 (fun s wx => s = .bool false ∧ Below w5.heap.size w5 wx)
      case first =>
        by_cases hA : 2 * F + T + 1 ≤ (c : Int)
        · have dA : decide (2 * F + T + 1 ≤ (c : Int)) = true := decide_eq_true hA
          by_cases hB : u < x
          · have dB : decide (u < x) = true := decide_eq_true hB
            have HF := Lib.hid (HL2.out hA hB)
            obtain rfl := HF.out
            clear HF
            obtain ⟨y1, y2, y3, y4, y5, y6⟩ := HFx.out _ HC77.out
            go_wp2_with (first
                    | ((with_reducible refine at_load 23 _ rfl ?_); refine wpList_load_mid rfl 23 _ rfl w.heap.size 0 (by rfl) [.int .i64 F, .int .i64 T] _ (el_size y1) Try.underlying23 rfl info_size ?_)
                    | (go_at_call 16; refine (HPR.out _).mono ?_; rintro e w6A ⟨rfl, b6⟩; have HBaA : Hid _ := Lib.hid (HC77.out.trans (b6.mono HC77.out.size)); obtain ⟨z1, z2, z3, z4, z5, z6⟩ := HFx.out _ HBaA.out; obtain ⟨c0, c1, k2, c3, c4, c5, c6⟩ := z2.cells; obtain ⟨m0, m1, m2, m3, m4, m5, m6⟩ := z1.cells)
                    | ((with_reducible refine at_load 26 _ rfl ?_); refine wpList_load_want (by rfl) 26 _ rfl _ rfl _ (ElV F T me view (.slice va votes.length vc) clock wait) (0, 0) _ z1 Try.underlying26 rfl info_el ?_)
                    | (go_at_call 15; refine (HHB.out _ z4 z5).mono ?_; rintro e w7A ⟨rfl, b7⟩; have HBbA : Hid _ := Lib.hid (HBaA.out.trans (b7.mono HBaA.out.size))))
            go_meet
            exact ⟨rfl, HBbA.out⟩
          · have dB : decide (u < x) = false := decide_eq_false hB
            obtain ⟨y1, y2, y3, y4, y5, y6⟩ := HFx.out _ HC77.out
            go_wp2_with (first
                    | ((with_reducible refine at_load 23 _ rfl ?_); refine wpList_load_mid rfl 23 _ rfl w.heap.size 0 (by rfl) [.int .i64 F, .int .i64 T] _ (el_size y1) Try.underlying23 rfl info_size ?_)
                    | (go_at_call 16; refine (HPR.out _).mono ?_; rintro e w6A ⟨rfl, b6⟩; have HBaA : Hid _ := Lib.hid (HC77.out.trans (b6.mono HC77.out.size)); obtain ⟨z1, z2, z3, z4, z5, z6⟩ := HFx.out _ HBaA.out; obtain ⟨c0, c1, k2, c3, c4, c5, c6⟩ := z2.cells; obtain ⟨m0, m1, m2, m3, m4, m5, m6⟩ := z1.cells)
                    | ((with_reducible refine at_load 26 _ rfl ?_); refine wpList_load_want (by rfl) 26 _ rfl _ rfl _ (ElV F T me view (.slice va votes.length vc) clock wait) (0, 0) _ z1 Try.underlying26 rfl info_el ?_)
                    | (go_at_call 15; refine (HHB.out _ z4 z5).mono ?_; rintro e w7A ⟨rfl, b7⟩; have HBbA : Hid _ := Lib.hid (HBaA.out.trans (b7.mono HBaA.out.size))))
            go_meet
            exact ⟨rfl, HBaA.out⟩
        · have dA : decide (2 * F + T + 1 ≤ (c : Int)) = false := decide_eq_false hA
          obtain ⟨y1, y2, y3, y4, y5, y6⟩ := HFx.out _ HC77.out
          go_wp2_with (first
                  | ((with_reducible refine at_load 23 _ rfl ?_); refine wpList_load_mid rfl 23 _ rfl w.heap.size 0 (by rfl) [.int .i64 F, .int .i64 T] _ (el_size y1) Try.underlying23 rfl info_size ?_)
                  | (go_at_call 16; refine (HPR.out _).mono ?_; rintro e w6A ⟨rfl, b6⟩; have HBaA : Hid _ := Lib.hid (HC77.out.trans (b6.mono HC77.out.size)); obtain ⟨z1, z2, z3, z4, z5, z6⟩ := HFx.out _ HBaA.out; obtain ⟨c0, c1, k2, c3, c4, c5, c6⟩ := z2.cells; obtain ⟨m0, m1, m2, m3, m4, m5, m6⟩ := z1.cells)
                  | ((with_reducible refine at_load 26 _ rfl ?_); refine wpList_load_want (by rfl) 26 _ rfl _ rfl _ (ElV F T me view (.slice va votes.length vc) clock wait) (0, 0) _ z1 Try.underlying26 rfl info_el ?_)
                  | (go_at_call 15; refine (HHB.out _ z4 z5).mono ?_; rintro e w7A ⟨rfl, b7⟩; have HBbA : Hid _ := Lib.hid (HBaA.out.trans (b7.mono HBaA.out.size))))
          go_meet
          exact ⟨rfl, HBaA.out⟩
      obtain ⟨rfl, hcb⟩ := hcut
      have HC94 := Lib.hid hcb
      clear hcb
      go_upto_region 14 with (fail)
      try simp only [Act.put]
      have HFy := Lib.hid (fun W' h => HFx.out W' (HC94.out.trans (Below.mono h HC94.out.size)))
      try simp only [Act.put]
      have ew : IntKind.i64.wrap (view + 1) = view + 1 := by rw [IntKind.wrap_i64]; omega
      by_cases hM : 2 * F + T + 1 ≤ (c2 : Int)
      · have dM : decide (2 * F + T + 1 ≤ (c2 : Int)) = true := decide_eq_true hM
        refine Wild.region_b (fun k => match k with | 0 => some (.fix (.bool true)) | 7 => some (.fix (.int .i64 c2)) | 10 => some (.fix (.int .i64 (2 * F + T + 1))) | _ => none) (fun _ => []) rfl (by kernel_rfl) (fun vs hvs => ?_)
        have v0 : vs 0 = .bool true := hvs 0 _ rfl
        have v7 : vs 7 = .int .i64 c2 := hvs 7 _ rfl
        have v10 : vs 10 = .int .i64 (2 * F + T + 1) := hvs 10 _ rfl
        refine Wild.walk_wild _ rfl (by rfl) (fun w' hw K hK => ?_) ?_
        · go_simp
          go_at_call 11
          refine (alive24_any w').mono ?_
          rintro e w'' ⟨rfl, hb⟩
          exact hK.out _ _ (hw.1.trans (hb.mono hw.1.size)) hb rfl trivial
        rw [v0]
        simp only [Act.put, List.setIfInBounds_toArray, List.set_cons_zero, List.set_cons_succ]
        refine Wild.walk_simple rfl (by rfl) (by rfl) (fun K hK => ?_); go_big_quiet_op; first | (refine hK _ ?_; clear hK K) | (refine ⟨_, fun _ _ => rfl, hK _ ?_⟩; clear hK K)
        refine Wild.walk_simple rfl (by rfl) (by rfl) (fun K hK => ?_); go_big_quiet_op; first | (refine hK _ ?_; clear hK K) | (refine ⟨_, fun _ _ => rfl, hK _ ?_⟩; clear hK K)
        refine Wild.walk_cell 24 _ _ _ (.slice (some ⟨b, o, none⟩) l.length c') _ rfl (by rfl) rfl rfl (fun w' hw => (HFy.out w' hw.1).2.1.cells.2.2.2.2.1) Try.underlying24 rfl ?_
        simp only [Act.put, List.setIfInBounds_toArray, List.set_cons_zero, List.set_cons_succ]
        refine Wild.walk_simple rfl (by rfl) (by rfl) (fun K hK => ?_); go_big_quiet_op; first | (refine hK _ ?_; clear hK K) | (refine ⟨_, fun _ _ => rfl, hK _ ?_⟩; clear hK K)
        refine Wild.walk_cell 3 _ _ _ (.int .i64 view) _ rfl (by rfl) rfl rfl (fun w' hw => (HFy.out w' hw.1).1.cells.2.2.2.1) Try.underlying3 rfl ?_
        simp only [Act.put, List.setIfInBounds_toArray, List.set_cons_zero, List.set_cons_succ]
        refine Wild.walk_simple rfl (by rfl) (by rfl) (fun K hK => ?_); go_big_quiet_op; first | (refine hK _ ?_; clear hK K) | (refine ⟨_, fun _ _ => rfl, hK _ ?_⟩; clear hK K)
        refine Wild.walk_wild _ rfl (by rfl) (fun w' hw K hK => ?_) ?_
        · go_simp
          go_at_call 13
          refine (HA2.out w' (HFy.out w' hw.1).2.2.1).mono ?_
          rintro e w'' ⟨rfl, rfl⟩
          exact hK.out _ _ hw.1 (Below.refl _ _) rfl trivial
        rw [v7]
        simp only [Act.put, List.setIfInBounds_toArray, List.set_cons_zero, List.set_cons_succ]
        refine Wild.walk_simple rfl (by rfl) (by rfl) (fun K hK => ?_); go_big_quiet_op; first | (refine hK _ ?_; clear hK K) | (refine ⟨_, fun _ _ => rfl, hK _ ?_⟩; clear hK K)
        refine Wild.walk_load 23 _ _ _ [.int .i64 F, .int .i64 T] _ rfl (by rfl) rfl rfl (fun w' hw => el_size (HFy.out w' hw.1).1) Try.underlying23 rfl info_size ?_
        simp only [Act.put, List.setIfInBounds_toArray, List.set_cons_zero, List.set_cons_succ]
        refine Wild.walk_wild _ rfl (by rfl) (fun w' hw K hK => ?_) ?_
        · go_simp
          go_at_call 16
          refine (HPR.out w').mono ?_
          rintro e w'' ⟨rfl, hb⟩
          exact hK.out _ _ (hw.1.trans (hb.mono hw.1.size)) hb rfl trivial
        rw [v10]
        simp only [Act.put, List.setIfInBounds_toArray, List.set_cons_zero, List.set_cons_succ]
        refine Wild.walk_simple rfl (by rfl) (by rfl) (fun K hK => ?_); go_big_quiet_op; first | (refine hK _ ?_; clear hK K) | (refine ⟨_, fun _ _ => rfl, hK _ ?_⟩; clear hK K)
        refine Wild.walk_simple rfl (by rfl) (by rfl) (fun K hK => ?_); go_big_quiet_op; first | (refine hK _ ?_; clear hK K) | (refine ⟨_, fun _ _ => rfl, hK _ ?_⟩; clear hK K)
        refine Wild.walk_skip rfl (by rfl) ?_
        simp only [Act.put, List.setIfInBounds_toArray, List.set_cons_zero, List.set_cons_succ]
        refine Wild.walk_skip rfl (by rfl) ?_
        simp only [Act.put, List.setIfInBounds_toArray, List.set_cons_zero, List.set_cons_succ]
        refine Wild.walk_skip rfl (by rfl) ?_
        simp only [Act.put, List.setIfInBounds_toArray, List.set_cons_zero, List.set_cons_succ]
        refine Wild.walk_skip rfl (by rfl) ?_
        simp only [Act.put, List.setIfInBounds_toArray, List.set_cons_zero, List.set_cons_succ]
        refine Wild.walk_skip rfl (by rfl) ?_
        simp only [Act.put, List.setIfInBounds_toArray, List.set_cons_zero, List.set_cons_succ]
        refine Wild.walk_simple rfl (by rfl) (by rfl) (fun K hK => ?_); go_big_quiet_op; first | (refine hK _ ?_; clear hK K) | (refine ⟨_, fun _ _ => rfl, hK _ ?_⟩; clear hK K)
        refine Wild.walk_simple rfl (by rfl) (by rfl) (fun K hK => ?_); go_big_quiet_op; first | (refine hK _ ?_; clear hK K) | (refine ⟨_, fun _ _ => rfl, hK _ ?_⟩; clear hK K)
        refine Wild.walk_simple rfl (by rfl) (by rfl) (fun K hK => ?_); go_big_quiet_op; first | (refine hK _ ?_; clear hK K) | (refine ⟨_, fun _ _ => rfl, hK _ ?_⟩; clear hK K)
        refine Wild.walk_nil ?_
        intro w9 hw9 hf9
        have HB9 : Hid (Below w.heap.size w w9) := Lib.hid (HBr.out.trans ((HC94.out.trans (Below.mono hw9 HC94.out.size)).mono HBr.out.size))
        clear hw9 hf9 hvs
        go_wp2_with fail
        go_ret
        exact ⟨rfl, HB9.out⟩
      · have dM : decide (2 * F + T + 1 ≤ (c2 : Int)) = false := decide_eq_false hM
        have HU : Hid (view = u) := Lib.hid (by rcases HL3.out with h9 | h9; exact h9.symm; exact absurd h9 hM)
        have eu : (u == view) = true := by rw [HU.out]; simp
        refine Wild.region_b (fun k => match k with | 0 => some (.fix (.bool true)) | 7 => some (.fix (.int .i64 c2)) | 10 => some (.fix (.int .i64 (2 * F + T + 1))) | _ => none) (fun _ => []) rfl (by kernel_rfl) (fun vs hvs => ?_)
        have v0 : vs 0 = .bool true := hvs 0 _ rfl
        have v7 : vs 7 = .int .i64 c2 := hvs 7 _ rfl
        have v10 : vs 10 = .int .i64 (2 * F + T + 1) := hvs 10 _ rfl
        refine Wild.walk_wild _ rfl (by rfl) (fun w' hw K hK => ?_) ?_
        · go_simp
          go_at_call 11
          refine (alive24_any w').mono ?_
          rintro e w'' ⟨rfl, hb⟩
          exact hK.out _ _ (hw.1.trans (hb.mono hw.1.size)) hb rfl trivial
        rw [v0]
        simp only [Act.put, List.setIfInBounds_toArray, List.set_cons_zero, List.set_cons_succ]
        refine Wild.walk_simple rfl (by rfl) (by rfl) (fun K hK => ?_); go_big_quiet_op; first | (refine hK _ ?_; clear hK K) | (refine ⟨_, fun _ _ => rfl, hK _ ?_⟩; clear hK K)
        refine Wild.walk_simple rfl (by rfl) (by rfl) (fun K hK => ?_); go_big_quiet_op; first | (refine hK _ ?_; clear hK K) | (refine ⟨_, fun _ _ => rfl, hK _ ?_⟩; clear hK K)
        refine Wild.walk_cell 24 _ _ _ (.slice (some ⟨b, o, none⟩) l.length c') _ rfl (by rfl) rfl rfl (fun w' hw => (HFy.out w' hw.1).2.1.cells.2.2.2.2.1) Try.underlying24 rfl ?_
        simp only [Act.put, List.setIfInBounds_toArray, List.set_cons_zero, List.set_cons_succ]
        refine Wild.walk_simple rfl (by rfl) (by rfl) (fun K hK => ?_); go_big_quiet_op; first | (refine hK _ ?_; clear hK K) | (refine ⟨_, fun _ _ => rfl, hK _ ?_⟩; clear hK K)
        refine Wild.walk_cell 3 _ _ _ (.int .i64 view) _ rfl (by rfl) rfl rfl (fun w' hw => (HFy.out w' hw.1).1.cells.2.2.2.1) Try.underlying3 rfl ?_
        simp only [Act.put, List.setIfInBounds_toArray, List.set_cons_zero, List.set_cons_succ]
        refine Wild.walk_simple rfl (by rfl) (by rfl) (fun K hK => ?_); go_big_quiet_op; first | (refine hK _ ?_; clear hK K) | (refine ⟨_, fun _ _ => rfl, hK _ ?_⟩; clear hK K)
        refine Wild.walk_wild _ rfl (by rfl) (fun w' hw K hK => ?_) ?_
        · go_simp
          go_at_call 13
          refine (HA2.out w' (HFy.out w' hw.1).2.2.1).mono ?_
          rintro e w'' ⟨rfl, rfl⟩
          exact hK.out _ _ hw.1 (Below.refl _ _) rfl trivial
        rw [v7]
        simp only [Act.put, List.setIfInBounds_toArray, List.set_cons_zero, List.set_cons_succ]
        refine Wild.walk_simple rfl (by rfl) (by rfl) (fun K hK => ?_); go_big_quiet_op; first | (refine hK _ ?_; clear hK K) | (refine ⟨_, fun _ _ => rfl, hK _ ?_⟩; clear hK K)
        refine Wild.walk_load 23 _ _ _ [.int .i64 F, .int .i64 T] _ rfl (by rfl) rfl rfl (fun w' hw => el_size (HFy.out w' hw.1).1) Try.underlying23 rfl info_size ?_
        simp only [Act.put, List.setIfInBounds_toArray, List.set_cons_zero, List.set_cons_succ]
        refine Wild.walk_wild _ rfl (by rfl) (fun w' hw K hK => ?_) ?_
        · go_simp
          go_at_call 16
          refine (HPR.out w').mono ?_
          rintro e w'' ⟨rfl, hb⟩
          exact hK.out _ _ (hw.1.trans (hb.mono hw.1.size)) hb rfl trivial
        rw [v10]
        simp only [Act.put, List.setIfInBounds_toArray, List.set_cons_zero, List.set_cons_succ]
        refine Wild.walk_simple rfl (by rfl) (by rfl) (fun K hK => ?_); go_big_quiet_op; first | (refine hK _ ?_; clear hK K) | (refine ⟨_, fun _ _ => rfl, hK _ ?_⟩; clear hK K)
        refine Wild.walk_simple rfl (by rfl) (by rfl) (fun K hK => ?_); go_big_quiet_op; first | (refine hK _ ?_; clear hK K) | (refine ⟨_, fun _ _ => rfl, hK _ ?_⟩; clear hK K)
        refine Wild.walk_simple rfl (by rfl) (by rfl) (fun K hK => ?_); go_big_quiet_op; first | (refine hK _ ?_; clear hK K) | (refine ⟨_, fun _ _ => rfl, hK _ ?_⟩; clear hK K)
        refine Wild.walk_cell 3 _ _ _ (.int .i64 u) _ rfl (by rfl) rfl rfl (fun w' hw => (HFy.out w' hw.1).2.1.cells.2.2.2.1) Try.underlying3 rfl ?_
        simp only [Act.put, List.setIfInBounds_toArray, List.set_cons_zero, List.set_cons_succ]
        refine Wild.walk_simple rfl (by rfl) (by rfl) (fun K hK => ?_); go_big_quiet_op; first | (refine hK _ ?_; clear hK K) | (refine ⟨_, fun _ _ => rfl, hK _ ?_⟩; clear hK K)
        refine Wild.walk_cell 3 _ _ _ (.int .i64 view) _ rfl (by rfl) rfl rfl (fun w' hw => (HFy.out w' hw.1).1.cells.2.2.2.1) Try.underlying3 rfl ?_
        simp only [Act.put, List.setIfInBounds_toArray, List.set_cons_zero, List.set_cons_succ]
        refine Wild.walk_simple rfl (by rfl) (by rfl) (fun K hK => ?_); go_big_quiet_op; first | (refine hK _ ?_; clear hK K) | (refine ⟨_, fun _ _ => rfl, hK _ ?_⟩; clear hK K)
        refine Wild.walk_simple rfl (by rfl) (by rfl) (fun K hK => ?_); go_big_quiet_op; first | (refine hK _ ?_; clear hK K) | (refine ⟨_, fun _ _ => rfl, hK _ ?_⟩; clear hK K)
        refine Wild.walk_simple rfl (by rfl) (by rfl) (fun K hK => ?_); go_big_quiet_op; first | (refine hK _ ?_; clear hK K) | (refine ⟨_, fun _ _ => rfl, hK _ ?_⟩; clear hK K)
        refine Wild.walk_simple rfl (by rfl) (by rfl) (fun K hK => ?_); go_big_quiet_op; first | (refine hK _ ?_; clear hK K) | (refine ⟨_, fun _ _ => rfl, hK _ ?_⟩; clear hK K)
        refine Wild.walk_nil ?_
        intro w9 hw9 hf9
        have HB9 : Hid (Below w.heap.size w w9) := Lib.hid (HBr.out.trans ((HC94.out.trans (Below.mono hw9 HC94.out.size)).mono HBr.out.size))
        clear hw9 hf9 hvs
        go_wp2_with fail
        go_ret
        exact ⟨rfl, HB9.out⟩
end Go.Proofs.Ytgkhgjoggkcklaa

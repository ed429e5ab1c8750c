/- The walk of the function that tells the sums of knots. -/
import Derived.Test.YtcnelahmbfggcaaG8
import Derived.Test.YtcnelahmbfggcaaG3
import Derived.Test.YtcnelahmbfggcaaG5
import Derived.Test.YtcnelahmbfggcaaG2
namespace Go.Proofs.Ytcnelahmbfggcaa
open Go Go.RowKit
set_option maxRecDepth 100000
set_option maxHeartbeats 400000
attribute [local irreducible] Wild.walk WildF.walk

theorem WildF.walk_cell {P : Program} {ops : Array Oper} {C : World → Prop} {G : World → World → Prop} {S : WildF.Spec} {vs : Nat → Value} {Q : Act → Prop} {rest : List Oper} {o : Oper} {k : Nat} {a : Act}
    (ty : TypeId) (x : Operand) (b off : Nat) (u : Value) (d : TypeDesc) (hp : S.pure k = none) (hw : Region.wanted o (yielded ops a.tmps) = true) (ho : o.op = .load ty x) (hx : a.eval x = .pointer (some ⟨b, off, none⟩))
    (hS : ∀ w, WildF.At C S vs k w → w.cell? ⟨b, off, none⟩ = some u) (hu : P.underlying ty = some d) (hd : d.isRow = false)
    (h : WildF.walk P ops C G S vs Q rest (k + 1) (a.put o.dst u)) : WildF.walk P ops C G S vs Q (o :: rest) k a :=
  WildF.walk_run _ hp hw (fun w hw' => by
    unfold execOp
    simp only [ho, hx, Instr.loadAt, Instr.sureAddr, Sem.run_bind, Sem.run_pure, Result.andThen_ok, run_loadVar_one w b off ty u d (hS w hw') hu hd]) h
theorem pow5 (H : Nat) (hH : H ≤ 5) : 2 ^ H ≤ 32 ∧ 1 ≤ 2 ^ H := by
  have : H = 0 ∨ H = 1 ∨ H = 2 ∨ H = 3 ∨ H = 4 ∨ H = 5 := by omega
  rcases this with rfl | rfl | rfl | rfl | rfl | rfl <;> decide
theorem wrap_pow (H P : Nat) (h : P = 2 ^ H) (hP : P ≤ 64) : wrap64 ((2 : Int) ^ H) = (P : Int) := by
  have : ((2 : Int) ^ H) = ((2 ^ H : Nat) : Int) := by simp
  rw [this, ← h]
  unfold wrap64
  omega
theorem arr32 {l : List UInt8} (h : l.length = 32) : (Try.prog.info? 23).map (·.size) = some (B8 l).toArray.size ∧ (Array.replicate 32 (Value.int .u8 0)).size = (B8 l).toArray.size := ⟨by rw [info_32]; simp [B8_length, h], by simp [B8_length, h]⟩
theorem knots1_leaf (I S : List UInt8) (k : Int) (H : Nat) (b0 b1 r : Nat) (w : World) (hI : I.length = 16) (hS : S.length = 32) (hk : -9223372036854775808 ≤ k ∧ k ≤ 9223372036854775807) (hH : H ≤ 5) (hr1 : 2 ^ H ≤ r) (hr2 : r < 2 ^ (H + 1)) (hK : KN w b0 b1 I S k H) :
    Calls Try.prog 44 #[.int .i64 r, .pointer (some ⟨b0, 0, none⟩), .pointer (some ⟨b1, 0, none⟩)] w fun e w' => e = .returned (.agg (B8 (knotL I S k H 0 r)).toArray) ∧ Below w.heap.size w w' := by
  obtain ⟨W0, HW0, HB0, HS0, HT0⟩ : ∃ V, Hid (V = w.alloc (.cells (Array.replicate 32 (.int .u8 0)) 23)) ∧ Hid (Below w.heap.size w V) ∧ Hid (V.heap.size = w.heap.size + 1) ∧ Hid (KN V b0 b1 I S k H) := ⟨_, Lib.hid rfl, Lib.hid ((Below.refl _ _).alloc (Nat.le_refl _) _), Lib.hid (by simp), Lib.hid (hK.later ((Below.refl _ _).alloc (Nat.le_refl _) _))⟩
  have hh := tree_H HT0.out.tree hI hS
  obtain ⟨p5, p1⟩ := pow5 H hH
  obtain ⟨P, HP⟩ : ∃ P, Hid (P = 2 ^ H) := ⟨_, Lib.hid rfl⟩
  rw [← HP.out] at p5 p1 hr1
  have hr3 : r < 2 * P := by rw [HP.out, Nat.mul_comm, ← Nat.pow_succ]; exact hr2
  obtain ⟨q, hq⟩ : ∃ q, r = P + q := ⟨r - P, by omega⟩
  have HQ := Lib.hid hq
  have ew := wrap_pow H P HP.out (by omega)
  have ew2 : (r : Int) - (P : Int) = (q : Int) := by omega
  have IT : Hid ((Try.prog.info? 25).map (·.size) = some (TreeV I S k H).toArray.size) := Lib.hid (by rw [info_tree, List.size_toArray, TreeV_length _ _ _ _ hI hS])
  have ITL : Hid ((Try.prog.info? 25).map (·.size) = some (TreeV I S k H).length) := Lib.hid (by rw [info_tree, TreeV_length _ _ _ _ hI hS])
  have HKY := Lib.hid (fun w' => key_any I S k H q w' hI hS (by omega))
  have HPU := Lib.hid (fun w' => Public_any I S q k w' hI hS (by omega) hk)
  obtain ⟨X, HX⟩ : ∃ X, Hid (X = pubV I S q k) := ⟨_, Lib.hid rfl⟩
  have HXL : Hid (X.length = 32) := Lib.hid (by rw [HX.out, pubV]; split; exact sha_length _; rfl)
  obtain ⟨R, HR⟩ : ∃ R, Hid (R = hashN I r 33410 [X]) := ⟨_, Lib.hid rfl⟩
  have HRL : Hid (R.length = 32) := Lib.hid (by rw [HR.out]; exact sha_length _)
  have HKL : Hid (knotL I S k H 0 r = R) := Lib.hid (by rw [HR.out, HX.out, knotL, ← HP.out, HQ.out, Nat.add_sub_cancel_left])
  have HHA : Hid (∀ mv w', Rows w' mv [X] → Calls Try.prog 35 #[.agg (TreeV I S k H).toArray, .int .i64 r, .int .i64 33410, mv] w' fun e w'' => e = .returned (.agg (B8 R).toArray) ∧ Below w'.heap.size w' w'') := Lib.hid (fun mv w' h => by
    rw [HR.out]; exact lhash_any I S k H r 33410 mv [X] w' hI (by omega) (by decide) h (by simp [HXL.out]))
  simp only [← HX.out] at HPU
  rw [HKL.out]
  clear hI hS hk hr2 hK HX HR hq
  go_enter Try.func44, Try.ntmps44
  go_upto_region 1 with (fail)
  change Code.wp _ _ _ _ (w.alloc (.cells (Array.replicate 32 (.int .u8 0)) 23))
  rw [← HW0.out]
  go_upto_region 4 with (first
    | ((with_reducible refine at_load 25 _ rfl ?_); refine wpList_load_row rfl 25 _ rfl _ rfl _ (TreeV I S k H).toArray (0, 0) _ HT0.out.tree Try.underlying25 rfl IT.out ?_)
    | (go_at_call 25; refine (HKY.out W0).mono ?_; rintro e w1 ⟨rfl, b1⟩; have HB1 := Lib.hid b1; clear b1)
    | (go_at_call 45; refine (HPU.out w1).mono ?_; rintro e w2 ⟨rfl, b2⟩; have HB2 := Lib.hid (HB1.out.trans (b2.mono HB1.out.size)); clear b2)
    | ((with_reducible refine at_store 23 _ _ rfl ?_); refine wpList_store_new rfl 23 _ _ rfl (B8 X).toArray rfl rfl 23 _ (arr32 HXL.out).1 (arr32 HXL.out).2 (B8_oneA X) ?_))
  obtain ⟨b6, Hb6⟩ : ∃ b, Hid (b = w2.heap.size) := ⟨_, Lib.hid rfl⟩
  obtain ⟨W3, HW3, HB3, HR6⟩ : ∃ W, Hid (W = w2.alloc (.cells (B8 X).toArray 23)) ∧ Hid (Below W0.heap.size W0 W) ∧ Hid (W.heap[b6]? = some (.cells (B8 X).toArray 23 (0, 0))) := ⟨_, Lib.hid rfl, Lib.hid (HB2.out.alloc HB2.out.size _), Lib.hid (by rw [Hb6.out]; exact heap_alloc_new _ _)⟩
  rw [← HW3.out, ← Hb6.out]
  have HT3 := Lib.hid (HT0.out.later HB3.out)
  clear HW3 Hb6 HB1 HB2 hh
  try simp only [Act.put]
  refine Wild.region_tail_b 5 (fun k => match k with | 3 => some (.rows [X]) | 4 => some (.fix (.agg (B8 R).toArray)) | _ => none) (fun k => match k with | 4 => [3] | _ => []) rfl rfl rfl (by kernel_rfl) (by kernel_rfl) (by kernel_rfl) (fun vs hvs => ?_)
  have h4 : vs 4 = .agg (B8 R).toArray := hvs 4 _ rfl
  simp only [List.take_succ_cons, List.take_zero]
  refine Wild.walk_load 25 _ _ _ (TreeV I S k H) _ rfl (by rfl) rfl rfl (fun w' hw => rangeAt_blw (rangeAt_row HT3.out.tree) hw.1) Try.underlying25 rfl ITL.out ?_
  simp only [Act.put, List.setIfInBounds_toArray, List.set_cons_zero, List.set_cons_succ]
  repeat (refine Wild.walk_simple rfl (by rfl) (by rfl) (fun K hK => ?_); go_big_quiet_op; first | (refine hK _ ?_; clear hK K) | (refine ⟨_, fun _ _ => rfl, hK _ ?_⟩; clear hK K))
  refine Wild.walk_wild _ rfl (by rfl) (fun w' hw K hK => ?_) ?_
  · have s1 : Sl w' (.slice (some ⟨b6, 0, none⟩) 32 32) X := Sl.ofBlock ((hw.1.block _ (Array.getElem?_eq_some_iff.1 HR6.out).1).trans HR6.out) HXL.out.symm (Nat.le_refl _) (by simp [maxLen]) fun i hi => by rw [Nat.zero_add, List.getElem?_toArray]
    go_simp
    exact hK.out (.slice (some ⟨w'.heap.size, 0, none⟩) 1 1) _ (hw.1.alloc hw.1.size _) ((Below.refl _ _).alloc (Nat.le_refl _) _) trivial (Rows.one _ s1)
  simp only [Act.put, List.setIfInBounds_toArray, List.set_cons_zero, List.set_cons_succ]
  refine Wild.walk_wild _ rfl (by rfl) (fun w' hw K hK => ?_) ?_
  · go_simp
    go_at_call 35
    refine (HHA.out _ w' (hw.2 3 (by simp [Wild.tab]) rfl)).mono ?_
    rintro e w'' ⟨rfl, hb⟩
    exact hK.out _ _ (hw.1.trans (hb.mono hw.1.size)) hb rfl trivial
  rw [h4]
  simp only [Act.put, List.setIfInBounds_toArray, List.set_cons_zero, List.set_cons_succ]
  refine Wild.walk_nil ?_
  intro w7 hw7 _
  have hb7 : Below W0.heap.size W0 w7 := HB3.out.trans (Below.mono hw7 HB3.out.size)
  have h5 := hash_store (w := w) R HRL.out (by rw [← HW0.out]; rw [HS0.out] at hb7; exact hb7)
  obtain ⟨h1, h2, h3, h4, h5, h6⟩ := h5
  refine wp_store_row 23 _ _ rfl _ (B8 R).toArray rfl rfl 23 _ h1 h2 h3 h4 ?_
  go_wp2_with fail
  exact bodyPost_ret (results_cell_row rfl _ _ w.heap.size 23 _ (0, 0) _ rfl h6 Try.underlying23 rfl h2) rfl ⟨rfl, h5⟩
end Go.Proofs.Ytcnelahmbfggcaa

/- The walk of the function that tells the sums of knots, above the leaves. -/
namespace Go.Proofs.Ytcnelahmbfggcaa
open Go Go.RowKit
set_option maxRecDepth 100000
set_option maxHeartbeats 1000000
attribute [local irreducible] Wild.walk WildF.walk

theorem knots1_step (I S : List UInt8) (k : Int) (H d : Nat) (b0 b1 r : Nat) (w : World) (hI : I.length = 16) (hS : S.length = 32) (hH : H ≤ 5) (hr1 : 1 ≤ r) (hr2 : r < 2 ^ H) (hK : KN w b0 b1 I S k H)
    (ih : ∀ (r' : Nat) (w' : World), r' = 2 * r ∨ r' = 2 * r + 1 → KN w' b0 b1 I S k H → Calls Try.prog 44 #[.int .i64 r', .pointer (some ⟨b0, 0, none⟩), .pointer (some ⟨b1, 0, none⟩)] w' fun e w'' => e = .returned (.agg (B8 (knotL I S k H d r')).toArray) ∧ Below w'.heap.size w' w'') :
    Calls Try.prog 44 #[.int .i64 r, .pointer (some ⟨b0, 0, none⟩), .pointer (some ⟨b1, 0, none⟩)] w fun e w' => e = .returned (.agg (B8 (knotL I S k H (d + 1) r)).toArray) ∧ Below w.heap.size w w' := by
  obtain ⟨W0, HW0, HB0, HS0, HT0⟩ : ∃ V, Hid (V = w.alloc (.cells (Array.replicate 32 (.int .u8 0)) 23)) ∧ Hid (Below w.heap.size w V) ∧ Hid (V.heap.size = w.heap.size + 1) ∧ Hid (KN V b0 b1 I S k H) := ⟨_, Lib.hid rfl, Lib.hid ((Below.refl _ _).alloc (Nat.le_refl _) _), Lib.hid (by simp), Lib.hid (hK.later ((Below.refl _ _).alloc (Nat.le_refl _) _))⟩
  have hh := tree_H HT0.out.tree hI hS
  obtain ⟨p5, p1⟩ := pow5 H hH
  obtain ⟨P, HP⟩ : ∃ P, Hid (P = 2 ^ H) := ⟨_, Lib.hid rfl⟩
  rw [← HP.out] at p5 p1 hr2
  have ew := wrap_pow H P HP.out (by omega)
  have ew2 : wrap64 ((r : Int) - (P : Int)) = (r : Int) - P := by unfold wrap64; omega
  have hneg : ¬ (0 ≤ (r : Int) - P) := by omega
  have hneg2 : decide (0 ≤ (r : Int) - P) = false := decide_eq_false hneg
  have ITL : Hid ((Try.prog.info? 25).map (·.size) = some (TreeV I S k H).length) := Lib.hid (by rw [info_tree, TreeV_length _ _ _ _ hI hS])
  obtain ⟨X, HX⟩ : ∃ X, Hid (X = knotL I S k H d (2 * r)) := ⟨_, Lib.hid rfl⟩
  obtain ⟨Y, HY⟩ : ∃ Y, Hid (Y = knotL I S k H d (2 * r + 1)) := ⟨_, Lib.hid rfl⟩
  have HXL : Hid (X.length = 32) := Lib.hid (by rw [HX.out]; exact knotL_length _ _ _ _ _ _)
  have HYL : Hid (Y.length = 32) := Lib.hid (by rw [HY.out]; exact knotL_length _ _ _ _ _ _)
  have HIX := Lib.hid (fun w' h => ih (2 * r) w' (.inl rfl) h)
  have HIY := Lib.hid (fun w' h => ih (2 * r + 1) w' (.inr rfl) h)
  simp only [← HX.out] at HIX
  simp only [← HY.out] at HIY
  obtain ⟨R, HR⟩ : ∃ R, Hid (R = hashN I r 33667 [X, Y]) := ⟨_, Lib.hid rfl⟩
  have HRL : Hid (R.length = 32) := Lib.hid (by rw [HR.out]; exact sha_length _)
  have HKL : Hid (knotL I S k H (d + 1) r = R) := Lib.hid (by rw [HR.out, HX.out, HY.out, knotL])
  have HHA : Hid (∀ mv w', Rows w' mv [X, Y] → Calls Try.prog 35 #[.agg (TreeV I S k H).toArray, .int .i64 r, .int .i64 33667, mv] w' fun e w'' => e = .returned (.agg (B8 R).toArray) ∧ Below w'.heap.size w' w'') := Lib.hid (fun mv w' h => by
    rw [HR.out]; exact lhash_any I S k H r 33667 mv [X, Y] w' hI (by omega) (by decide) h (by simp [HXL.out, HYL.out]))
  have em : wrap64 (2 * (r : Int)) = ((2 * r : Nat) : Int) := by unfold wrap64; omega
  have em2 : wrap64 (((2 * r : Nat) : Int) + 1) = ((2 * r + 1 : Nat) : Int) := by unfold wrap64; omega
  rw [HKL.out]
  clear hI hS hK HX HY HR
  go_enter Try.func44, Try.ntmps44
  go_upto_region 1 with (fail)
  change Code.wp _ _ _ _ (w.alloc (.cells (Array.replicate 32 (.int .u8 0)) 23))
  rw [← HW0.out]
  go_upto_region 5 with (fail)
  clear hh
  try simp only [Act.put]
  have hdn : decide (P ≤ r) = false := decide_eq_false (by omega)
  simp only [ew, hdn]
  refine WildF.region_tail2_b 11 (fun k => match k with | 3 => some (.fix (.agg (B8 X).toArray)) | 8 => some (.fix (.agg (B8 Y).toArray)) | 9 => some (.var 23 (Array.replicate 32 (.int .u8 0)) W0.heap.size) | 10 => some (.var 23 (Array.replicate 32 (.int .u8 0)) W0.heap.size) | _ => none) (fun _ => []) (fun k => k == 9 || k == 10) rfl rfl rfl rfl rfl rfl (by kernel_rfl) (by kernel_rfl) (by kernel_rfl) (fun k hk => ?_) (fun vs hvs => ?_)
  · simp only [Bool.or_eq_true, beq_iff_eq] at hk
    rcases hk with rfl | rfl <;> exact ⟨_, _, _, rfl⟩
  have h3 : vs 3 = .agg (B8 X).toArray := hvs 3 _ rfl
  have h8 : vs 8 = .agg (B8 Y).toArray := hvs 8 _ rfl
  simp only [List.take_succ_cons, List.take_zero]
  refine WildF.walk_cell 68 _ _ _ (.func (.func 44) #[] #[.pointer (some ⟨b0, 0, none⟩), .pointer (some ⟨b1, 0, none⟩)]) _ rfl (by rfl) rfl rfl (fun w' hw => cell_of_row w' b1 0 _ _ (0, 0) (HT0.out.later hw.1).self) Try.underlying68 rfl ?_
  simp only [Act.put, List.setIfInBounds_toArray, List.set_cons_zero, List.set_cons_succ]
  refine WildF.walk_simple rfl (by rfl) (by rfl) (fun K hK => ?_); go_big_quiet_op; first | (refine hK _ ?_; clear hK K) | (refine ⟨_, fun _ _ => rfl, hK _ ?_⟩; clear hK K)
  refine WildF.walk_simple rfl (by rfl) (by rfl) (fun K hK => ?_); go_big_quiet_op; first | (refine hK _ ?_; clear hK K) | (refine ⟨_, fun _ _ => rfl, hK _ ?_⟩; clear hK K)
  refine WildF.walk_wild rfl _ rfl (by rfl) (fun w' hw K hK => ?_) ?_
  · have hk := HT0.out.later hw.1
    go_simp
    go_at_call 44
    refine (HIX.out w' hk).mono ?_
    rintro e w'' ⟨rfl, hb⟩
    exact hK.out _ _ (hw.1.trans (hb.mono hw.1.size)) hb rfl trivial
  rw [h3]
  simp only [Act.put, List.setIfInBounds_toArray, List.set_cons_zero, List.set_cons_succ]
  refine WildF.walk_cell 68 _ _ _ (.func (.func 44) #[] #[.pointer (some ⟨b0, 0, none⟩), .pointer (some ⟨b1, 0, none⟩)]) _ rfl (by rfl) rfl rfl (fun w' hw => cell_of_row w' b1 0 _ _ (0, 0) (HT0.out.later hw.1).self) Try.underlying68 rfl ?_
  simp only [Act.put, List.setIfInBounds_toArray, List.set_cons_zero, List.set_cons_succ]
  refine WildF.walk_simple rfl (by rfl) (by rfl) (fun K hK => ?_); go_big_quiet_op; first | (refine hK _ ?_; clear hK K) | (refine ⟨_, fun _ _ => rfl, hK _ ?_⟩; clear hK K)
  refine WildF.walk_simple rfl (by rfl) (by rfl) (fun K hK => ?_); go_big_quiet_op; first | (refine hK _ ?_; clear hK K) | (refine ⟨_, fun _ _ => rfl, hK _ ?_⟩; clear hK K)
  refine WildF.walk_simple rfl (by rfl) (by rfl) (fun K hK => ?_); go_big_quiet_op; first | (refine hK _ ?_; clear hK K) | (refine ⟨_, fun _ _ => rfl, hK _ ?_⟩; clear hK K)
  refine WildF.walk_wild rfl _ rfl (by rfl) (fun w' hw K hK => ?_) ?_
  · have hk := HT0.out.later hw.1
    go_simp
    go_at_call 44
    refine (HIY.out w' hk).mono ?_
    rintro e w'' ⟨rfl, hb⟩
    exact hK.out _ _ (hw.1.trans (hb.mono hw.1.size)) hb rfl trivial
  rw [h8]
  simp only [Act.put, List.setIfInBounds_toArray, List.set_cons_zero, List.set_cons_succ]
  refine WildF.walk_fresh _ rfl (by rfl) (fun w' hw K hK => ?_) ?_
  · go_simp
    exact hK.out w'.heap.size _ (hw.1.alloc hw.1.size _) ((Below.refl _ _).alloc (Nat.le_refl _) _) (Nat.le_refl _) trivial ⟨w'.heap.size, rfl, hw.1.size, heap_alloc_new _ _⟩
  simp only [Act.put, List.setIfInBounds_toArray, List.set_cons_zero, List.set_cons_succ]
  refine WildF.walk_fresh _ rfl (by rfl) (fun w' hw K hK => ?_) ?_
  · go_simp
    exact hK.out w'.heap.size _ (hw.1.alloc hw.1.size _) ((Below.refl _ _).alloc (Nat.le_refl _) _) (Nat.le_refl _) trivial ⟨w'.heap.size, rfl, hw.1.size, heap_alloc_new _ _⟩
  simp only [Act.put, List.setIfInBounds_toArray, List.set_cons_zero, List.set_cons_succ]
  refine WildF.walk_nil ?_
  intro w1 hw1 hf1 hfd
  obtain ⟨g9, e9, l9, r9⟩ := hf1 9 _ rfl (by decide)
  obtain ⟨g10, e10, l10, r10⟩ := hf1 10 _ rfl (by decide)
  have hne : g9 ≠ g10 := fun h => hfd 9 10 rfl rfl (by decide) (by decide) (by decide) (by rw [e9, e10, h])
  have e9' : vs (0 + 1 + 1 + 1 + 1 + 1 + 1 + 1 + 1 + 1) = .pointer (some ⟨g9, 0, none⟩) := e9
  have e10' : vs (0 + 1 + 1 + 1 + 1 + 1 + 1 + 1 + 1 + 1 + 1) = .pointer (some ⟨g10, 0, none⟩) := e10
  rw [e9', e10']
  refine wp_store_row 23 _ _ rfl _ (B8 X).toArray rfl rfl 23 _ r9 (arr32 HXL.out).1 (arr32 HXL.out).2 (B8_oneA X) ?_
  have r10' := (setRow_other w1 g9 g10 (B8 X).toArray (Ne.symm hne)).trans r10
  refine wp_store_row 23 _ _ rfl _ (B8 Y).toArray rfl rfl 23 _ r10' (arr32 HYL.out).1 (arr32 HYL.out).2 (B8_oneA Y) ?_
  have hw1' : Below W0.heap.size W0 w1 := hw1
  obtain ⟨W2, HW2, HB2, HRX, HRY⟩ : ∃ W, Hid (W = (w1.setRow g9 (B8 X).toArray).setRow g10 (B8 Y).toArray) ∧ Hid (Below W0.heap.size W0 W) ∧ Hid (W.heap[g9]? = some (.cells (B8 X).toArray 23 (0, 0))) ∧ Hid (W.heap[g10]? = some (.cells (B8 Y).toArray 23 (0, 0))) :=
    ⟨_, Lib.hid rfl, Lib.hid (below_row (below_row hw1' l9 _) l10 _), Lib.hid ((setRow_other _ _ _ _ hne).trans (setRow_heap _ _ _ _ _ _ r9)), Lib.hid (setRow_heap _ _ _ _ _ _ r10')⟩
  rw [← HW2.out]
  have HT2 := Lib.hid (HT0.out.later HB2.out)
  clear HW2 e9 e10 e9' e10' l9 l10 r9 r10 r10' hne hw1 hw1' hf1 hfd h3 h8 hvs
  go_upto_region 6 with (fail)
  try simp only [Act.put]
  refine Wild.region_tail_b 6 (fun k => match k with | 4 => some (.rows [X, Y]) | 5 => some (.fix (.agg (B8 R).toArray)) | _ => none) (fun k => match k with | 5 => [4] | _ => []) rfl rfl rfl (by kernel_rfl) (by kernel_rfl) (by kernel_rfl) (fun vs hvs => ?_)
  have h5 : vs 5 = .agg (B8 R).toArray := hvs 5 _ rfl
  simp only [List.take_succ_cons, List.take_zero]
  refine Wild.walk_load 25 _ _ _ (TreeV I S k H) _ rfl (by rfl) rfl rfl (fun w' hw => rangeAt_blw (rangeAt_row HT2.out.tree) hw.1) Try.underlying25 rfl ITL.out ?_
  simp only [Act.put, List.setIfInBounds_toArray, List.set_cons_zero, List.set_cons_succ]
  repeat (refine Wild.walk_simple rfl (by rfl) (by rfl) (fun K hK => ?_); go_big_quiet_op; first | (refine hK _ ?_; clear hK K) | (refine ⟨_, fun _ _ => rfl, hK _ ?_⟩; clear hK K))
  refine Wild.walk_wild _ rfl (by rfl) (fun w' hw K hK => ?_) ?_
  · have s1 : Sl w' (.slice (some ⟨g9, 0, none⟩) 32 32) X := Sl.ofBlock ((hw.1.block _ (Array.getElem?_eq_some_iff.1 HRX.out).1).trans HRX.out) HXL.out.symm (Nat.le_refl _) (by simp [maxLen]) fun i hi => by rw [Nat.zero_add, List.getElem?_toArray]
    have s2 : Sl w' (.slice (some ⟨g10, 0, none⟩) 32 32) Y := Sl.ofBlock ((hw.1.block _ (Array.getElem?_eq_some_iff.1 HRY.out).1).trans HRY.out) HYL.out.symm (Nat.le_refl _) (by simp [maxLen]) fun i hi => by rw [Nat.zero_add, List.getElem?_toArray]
    go_simp
    exact hK.out (.slice (some ⟨w'.heap.size, 0, none⟩) 2 2) _ (hw.1.alloc hw.1.size _) ((Below.refl _ _).alloc (Nat.le_refl _) _) trivial (Rows.two _ s1 s2)
  simp only [Act.put, List.setIfInBounds_toArray, List.set_cons_zero, List.set_cons_succ]
  refine Wild.walk_wild _ rfl (by rfl) (fun w' hw K hK => ?_) ?_
  · go_simp
    go_at_call 35
    refine (HHA.out _ w' (hw.2 4 (by simp [Wild.tab]) rfl)).mono ?_
    rintro e w'' ⟨rfl, hb⟩
    exact hK.out _ _ (hw.1.trans (hb.mono hw.1.size)) hb rfl trivial
  rw [h5]
  simp only [Act.put, List.setIfInBounds_toArray, List.set_cons_zero, List.set_cons_succ]
  refine Wild.walk_nil ?_
  intro w7 hw7 _
  have hb7 : Below W0.heap.size W0 w7 := HB2.out.trans (Below.mono hw7 HB2.out.size)
  have h5 := hash_store (w := w) R HRL.out (by rw [← HW0.out]; rw [HS0.out] at hb7; exact hb7)
  obtain ⟨h1, h2, h3, h4, h5, h6⟩ := h5
  refine wp_store_row 23 _ _ rfl _ (B8 R).toArray rfl rfl 23 _ h1 h2 h3 h4 ?_
  go_wp2_with fail
  exact bodyPost_ret (results_cell_row rfl _ _ w.heap.size 23 _ (0, 0) _ rfl h6 Try.underlying23 rfl h2) rfl ⟨rfl, h5⟩
/-- the sum of any knot, by the function value -/
theorem sum_any (I S : List UInt8) (k : Int) (H : Nat) (b0 b1 : Nat) (hI : I.length = 16) (hS : S.length = 32) (hk : -9223372036854775808 ≤ k ∧ k ≤ 9223372036854775807) (hH : H ≤ 5) : ∀ (d r : Nat) (w : World), d ≤ H → 2 ^ (H - d) ≤ r → r < 2 ^ (H - d + 1) → KN w b0 b1 I S k H →
    Calls Try.prog 44 #[.int .i64 r, .pointer (some ⟨b0, 0, none⟩), .pointer (some ⟨b1, 0, none⟩)] w fun e w' => e = .returned (.agg (B8 (knotL I S k H d r)).toArray) ∧ Below w.heap.size w w'
  | 0, r, w, _, h1, h2, hK => knots1_leaf I S k H b0 b1 r w hI hS hk hH h1 h2 hK
  | d + 1, r, w, hd, h1, h2, hK => by
    have e : H - d = H - (d + 1) + 1 := by omega
    have p : 2 ^ (H - d) = 2 * 2 ^ (H - (d + 1)) := by rw [e, Nat.pow_succ]; omega
    have p2 : 2 ^ (H - d + 1) = 2 * 2 ^ (H - d) := by rw [Nat.pow_succ]; omega
    have p3 : 2 ^ (H - (d + 1) + 1) = 2 ^ (H - d) := by rw [← e]
    have p4 : 2 ^ (H - d) ≤ 2 ^ H := Nat.pow_le_pow_right (by decide) (by omega)
    have p5 : 1 ≤ 2 ^ (H - (d + 1)) := Nat.one_le_two_pow
    refine knots1_step I S k H d b0 b1 r w hI hS hH (by omega) (by omega) hK fun r' w' hr hK' => sum_any I S k H b0 b1 hI hS hk hH d r' w' (by omega) (by omega) (by omega) hK'
end Go.Proofs.Ytcnelahmbfggcaa

/- The walks of lms's Long, Knot, Public. -/
namespace Go.Proofs.Ytcnelahmbfggcaa
open Go Go.RowKit
set_option maxRecDepth 100000
set_option maxHeartbeats 2000000
attribute [local irreducible] Wild.walk WildF.walk

def longL (k h : Int) : Int := if mayT k h then 44 + 32 * manyW k + 32 * h else 0
def errL (k h : Int) : Int := if mayT k h then 0 else 1
theorem mayT_iff (k h : Int) : mayT k h = true ↔ isW k = true ∧ 1 ≤ h ∧ h ≤ 5 := by simp [mayT]
theorem Long_lms (I S : List UInt8) (k h : Int) (w : World) (hI : I.length = 16) (hS : S.length = 32) (hk : -9223372036854775808 ≤ k ∧ k ≤ 9223372036854775807) :
    Calls Try.prog 22 #[.agg (TreeV I S k h).toArray] w fun e w' => e = .returned (.tuple #[.int .i64 (longL k h), .int .i64 (errL k h)]) ∧ Below w.heap.size w w' := by
  obtain ⟨V, HV, HB, HR⟩ : ∃ V, Hid (V = w.alloc (.cells (TreeV I S k h).toArray 25)) ∧ Hid (Below w.heap.size w V) ∧ Hid (V.heap[w.heap.size]? = some (.cells (TreeV I S k h).toArray 25 (0, 0))) := ⟨_, Lib.hid rfl, Lib.hid ((Below.refl _ _).alloc (Nat.le_refl _) _), Lib.hid (heap_alloc_new _ _)⟩
  have IT : Hid ((Try.prog.info? 25).map (·.size) = some (TreeV I S k h).toArray.size) := Lib.hid (by rw [info_tree, List.size_toArray, TreeV_length _ _ _ _ hI hS])
  have HMA := Lib.hid (may_any I S k h V hI hS hk)
  have HLO := Lib.hid (fun w' => Long_any' k w' hk)
  have HHI := Lib.hid hI
  have HHS := Lib.hid hS
  by_cases hm : mayT k h = true
  · obtain ⟨h1, h2, h3⟩ := (mayT_iff k h).1 hm
    have he : errW k = 0 := by rw [errW, if_pos h1]
    have hmb := manyW_bd k
    simp only [hm] at HMA
    simp only [h1, if_true, he] at HLO
    have HL : Hid (longL k h = 44 + 32 * manyW k + 32 * h ∧ errL k h = 0) := Lib.hid ⟨by rw [longL, if_pos hm], by rw [errL, if_pos hm]⟩
    rw [HL.out.1, HL.out.2]
    obtain ⟨M, HM⟩ : ∃ M, Hid (M = manyW k) := ⟨_, Lib.hid rfl⟩
    rw [← HM.out] at hmb ⊢
    simp only [← HM.out] at HLO
    obtain ⟨m1, m2⟩ := hmb
    have HE : Hid (4 + (36 + 32 * M) + 4 + 32 * h = 44 + 32 * M + 32 * h) := Lib.hid (by omega)
    clear hm h1 he hI hS hk
    go_enter Try.func22, Try.ntmps22
    go_upto_region 1 with (fail)
    rw [← HV.out]
    go_wp2_with (first
      | ((with_reducible refine at_load 25 _ rfl ?_); refine wpList_load_row rfl 25 _ rfl _ rfl _ (TreeV I S k h).toArray (0, 0) _ HR.out Try.underlying25 rfl IT.out ?_)
      | (go_at_call 23; refine HMA.out.mono ?_; rintro e w1 ⟨rfl, b1⟩; have HB1 := Lib.hid b1; have HR1 := Lib.hid ((b1.block _ (Array.getElem?_eq_some_iff.1 HR.out).1).trans HR.out); have kw := tree_W HR1.out HHI.out HHS.out; clear b1)
      | (go_at_call 32; refine (HLO.out w1).mono ?_; rintro e w2 ⟨rfl, b2⟩; have HB2 := Lib.hid (HB1.out.trans (b2.mono HB1.out.size)); have HR2 := Lib.hid ((b2.block _ (Array.getElem?_eq_some_iff.1 HR1.out).1).trans HR1.out); have kh := tree_H HR2.out HHI.out HHS.out; clear b2))
    go_ret2
    exact ⟨by rw [← HE.out]; rfl, HB.out.trans (HB2.out.mono HB.out.size)⟩
  · have hmf : mayT k h = false := by simpa using hm
    rw [hmf] at HMA
    have HL : Hid (longL k h = 0 ∧ errL k h = 1) := Lib.hid ⟨by rw [longL, if_neg hm], by rw [errL, if_neg hm]⟩
    rw [HL.out.1, HL.out.2]
    clear hm hmf hI hS hk
    go_enter Try.func22, Try.ntmps22
    go_upto_region 1 with (fail)
    rw [← HV.out]
    go_wp2_with (first
      | ((with_reducible refine at_load 25 _ rfl ?_); refine wpList_load_row rfl 25 _ rfl _ rfl _ (TreeV I S k h).toArray (0, 0) _ HR.out Try.underlying25 rfl IT.out ?_)
      | (go_at_call 23; refine HMA.out.mono ?_; rintro e w1 ⟨rfl, b1⟩; have HB1 := Lib.hid b1; clear b1))
    go_ret2
    exact ⟨rfl, HB.out.trans (HB1.out.mono HB.out.size)⟩

def knotV (I S : List UInt8) (k : Int) (H r : Nat) : List UInt8 := knotL I S k H (H - Nat.log2 r) r
theorem log2_le (r H : Nat) (hr : r < 2 ^ (H + 1)) : Nat.log2 r ≤ H := by
  by_cases h0 : r = 0
  · subst h0; simp
  · have := (Nat.log2_lt h0).2 hr
    omega
/-- any knot of a tree, by the function value -/
theorem sum_knot (I S : List UInt8) (k : Int) (H : Nat) (b0 b1 : Nat) (hI : I.length = 16) (hS : S.length = 32) (hk : -9223372036854775808 ≤ k ∧ k ≤ 9223372036854775807) (hH : H ≤ 5) (r : Nat) (w : World) (h1 : 1 ≤ r) (h2 : r < 2 ^ (H + 1)) (hK : KN w b0 b1 I S k H) :
    Calls Try.prog 44 #[.int .i64 r, .pointer (some ⟨b0, 0, none⟩), .pointer (some ⟨b1, 0, none⟩)] w fun e w' => e = .returned (.agg (B8 (knotV I S k H r)).toArray) ∧ Below w.heap.size w w' := by
  have hl := log2_le r H h2
  have e : H - (H - Nat.log2 r) = Nat.log2 r := by omega
  exact sum_any I S k H b0 b1 hI hS hk hH (H - Nat.log2 r) r w (by omega) (by rw [e]; exact Nat.log2_self_le (by omega)) (by rw [e]; exact Nat.lt_log2_self) hK
theorem knotV_length (I S : List UInt8) (k : Int) (H r : Nat) : (knotV I S k H r).length = 32 := knotL_length _ _ _ _ _ _
def knotOk (k h r : Int) : Bool := mayT k h && decide (1 ≤ r ∧ r < ((2 ^ (h.toNat + 1) : Nat) : Int))
theorem wrap_pow2 (H P : Nat) (h : P = 2 ^ H) (hP : P ≤ 32) : wrap64 (2 * (2 : Int) ^ H) = 2 * (P : Int) := by
  have : ((2 : Int) ^ H) = ((2 ^ H : Nat) : Int) := by simp
  rw [this, ← h]
  unfold wrap64
  omega
theorem zero32_one : (B8 zero32).toArray = Array.replicate 32 (Value.int .u8 0) := rfl
end Go.Proofs.Ytcnelahmbfggcaa


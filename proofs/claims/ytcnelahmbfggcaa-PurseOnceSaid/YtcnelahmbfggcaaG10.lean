/- The walk of lms's Public. -/
import Derived.Test.YtcnelahmbfggcaaG9
import Derived.Test.YtcnelahmbfggcaaG6
import Derived.Test.YtcnelahmbfggcaaG7
namespace Go.Proofs.Ytcnelahmbfggcaa
open Go Go.RowKit
set_option maxRecDepth 100000
set_option maxHeartbeats 4000000
attribute [local irreducible] Wild.walk WildF.walk

theorem Rows.four {w : World} {u1 u2 u3 u4 : Value} {l1 l2 l3 l4 : List UInt8} (t : TypeId) (h1 : Sl w u1 l1) (h2 : Sl w u2 l2) (h3 : Sl w u3 l3) (h4 : Sl w u4 l4) : Rows (w.alloc (.cells #[u1, u2, u3, u4] t)) (.slice (some ⟨w.heap.size, 0, none⟩) 4 4) [l1, l2, l3, l4] := by
  have hb : Below w.heap.size w (w.alloc (.cells #[u1, u2, u3, u4] t)) := (Below.refl _ _).alloc (Nat.le_refl _) _
  refine ⟨w.heap.size, 0, 4, rfl, Nat.le_refl _, by simp [maxLen], fun i hi => ?_⟩
  match i, hi with
  | 0, _ => exact ⟨u1, by rw [cell_of_row _ _ _ _ _ (0, 0) (heap_alloc_new w _)]; rfl, h1.later hb⟩
  | 1, _ => exact ⟨u2, by rw [cell_of_row _ _ _ _ _ (0, 0) (heap_alloc_new w _)]; rfl, h2.later hb⟩
  | 2, _ => exact ⟨u3, by rw [cell_of_row _ _ _ _ _ (0, 0) (heap_alloc_new w _)]; rfl, h3.later hb⟩
  | 3, _ => exact ⟨u4, by rw [cell_of_row _ _ _ _ _ (0, 0) (heap_alloc_new w _)]; rfl, h4.later hb⟩
/-- a tree's public key -/
def pubP (I S : List UInt8) (k : Int) (H : Nat) : List UInt8 := [fourN (typedN H).toNat, fourN (typeN k).toNat, I, knotV I S k H 1].flatten
def pubL (I S : List UInt8) (k h : Int) : List UInt8 := if mayT k h then pubP I S k h.toNat else []
theorem Public_lms (I S : List UInt8) (k h : Int) (w : World) (hI : I.length = 16) (hS : S.length = 32) (hk : -9223372036854775808 ≤ k ∧ k ≤ 9223372036854775807) :
    Calls Try.prog 19 #[.agg (TreeV I S k h).toArray] w fun e w' => ∃ v, e = .returned (.tuple #[v, .int .i64 (errL k h)]) ∧ Sl w' v (pubL I S k h) ∧ Below w.heap.size w w' := by
  obtain ⟨V, HV, HB, HR⟩ : ∃ V, Hid (V = w.alloc (.cells (TreeV I S k h).toArray 25)) ∧ Hid (Below w.heap.size w V) ∧ Hid (V.heap[w.heap.size]? = some (.cells (TreeV I S k h).toArray 25 (0, 0))) := ⟨_, Lib.hid rfl, Lib.hid ((Below.refl _ _).alloc (Nat.le_refl _) _), Lib.hid (heap_alloc_new _ _)⟩
  have IT : Hid ((Try.prog.info? 25).map (·.size) = some (TreeV I S k h).toArray.size) := Lib.hid (by rw [info_tree, List.size_toArray, TreeV_length _ _ _ _ hI hS])
  have HMA := Lib.hid (may_any I S k h V hI hS hk)
  have HTY := Lib.hid (fun w' => Type_any k w' (wf_i64 hk))
  have HHI := Lib.hid hI
  have HHS := Lib.hid hS
  by_cases hm : mayT k h = true
  · obtain ⟨h1, h2, h3⟩ := (mayT_iff k h).1 hm
    have he : errW k = 0 := by rw [errW, if_pos h1]
    rw [hm] at HMA
    simp only [he] at HTY
    obtain ⟨H, rfl⟩ : ∃ H : Nat, h = H := ⟨h.toNat, by omega⟩
    have HL : Hid (pubL I S k H = pubP I S k H ∧ errL k H = 0) := Lib.hid ⟨by rw [pubL, if_pos hm, Int.toNat_natCast], by rw [errL, if_pos hm]⟩
    rw [HL.out.1, HL.out.2]
    obtain ⟨kn, hkk⟩ : ∃ kn : Nat, k = kn := ⟨k.toNat, by rcases (isW_iff k).1 h1 with h | h | h | h <;> omega⟩
    obtain ⟨ty, ty1, ty2, ty3⟩ := typeN_nat kn (by rw [hkk] at h1; rcases (isW_iff _).1 h1 with h | h | h | h <;> omega)
    rw [← hkk] at ty1 ty3
    have htd0 : 0 ≤ typedN H ∧ typedN H ≤ 105 := by rw [typedN]; split <;> omega
    obtain ⟨td, htd⟩ : ∃ td : Nat, typedN H = td := ⟨(typedN H).toNat, by omega⟩
    have HP : Hid (pubP I S k H = [fourN td, fourN ty, I, knotV I S k H 1].flatten) := Lib.hid (by rw [pubP, htd, ty3, Int.toNat_natCast])
    have HTD := Lib.hid (fun w' => typed_any H w' (by omega))
    have HF1 := Lib.hid (fun w' => four_lms td w' (by omega))
    have HF2 := Lib.hid (fun w' => four_lms ty w' ty2)
    have HKO := Lib.hid (fun w' => knots_any I S k H w')
    have HSU := Lib.hid (fun b0 b1 w' hK => sum_knot I S k H b0 b1 hI hS hk (by omega) 1 w' (Nat.le_refl _) (Nat.one_lt_two_pow (by omega)) hK)
    have HCO := Lib.hid (fun mv ls w' h hl => Concat_any mv ls w' h hl)
    obtain ⟨X, HX⟩ : ∃ X, Hid (X = knotV I S k H 1) := ⟨_, Lib.hid rfl⟩
    have HXL : Hid (X.length = 32) := Lib.hid (by rw [HX.out]; exact knotV_length _ _ _ _ _)
    simp only [← HX.out] at HSU
    simp only [htd] at HTD
    simp only [ty1] at HTY
    rw [← HX.out] at HP
    obtain ⟨R, HRR⟩ : ∃ R, Hid (R = [fourN td, fourN ty, I, X].flatten) := ⟨_, Lib.hid rfl⟩
    have HRL : Hid (R.length = 56) := Lib.hid (by rw [HRR.out]; simp [fourN, HHI.out, HXL.out])
    rw [HP.out, ← HRR.out]
    have hty2 : (ty : Int) < 4294967296 := by omega
    clear hm h1 he hI hS hk hkk ty1 ty3 htd HX HP HL htd0
    go_enter Try.func19, Try.ntmps19
    go_upto_region 1 with (fail)
    rw [← HV.out]
    go_upto_region 5 with (first
      | ((with_reducible refine at_load 25 _ rfl ?_); first | refine wpList_load_row rfl 25 _ rfl _ rfl _ (TreeV I S k H).toArray (0, 0) _ HR.out Try.underlying25 rfl IT.out ?_ | refine wpList_load_row rfl 25 _ rfl _ rfl _ (TreeV I S k H).toArray (0, 0) _ HR2.out Try.underlying25 rfl IT.out ?_)
      | (go_at_call 23; refine HMA.out.mono ?_; rintro e w1 ⟨rfl, b1⟩; have HB1 := Lib.hid b1; have HR1 := Lib.hid ((b1.block _ (Array.getElem?_eq_some_iff.1 HR.out).1).trans HR.out); have kw := tree_W HR1.out HHI.out HHS.out; clear b1)
      | (go_at_call 30; refine (HTY.out w1).mono ?_; rintro e w2 ⟨rfl, b2⟩; have HB2 := Lib.hid (HB1.out.trans (b2.mono HB1.out.size)); have HR2 := Lib.hid ((b2.block _ (Array.getElem?_eq_some_iff.1 HR1.out).1).trans HR1.out); clear b2)
      | (go_at_call 29; refine (HKO.out w2).mono ?_; rintro e w3 ⟨c0, c1, rfl, kn, b3⟩; have HKN := Lib.hid kn; have HB3 := Lib.hid (HB2.out.trans (b3.mono HB2.out.size)); clear b3 kn; simp only [FV])
      | (go_at_call 44; refine (HSU.out c0 c1 w3 HKN.out).mono ?_; rintro e w4 ⟨rfl, b4⟩; have HB4 := Lib.hid (HB3.out.trans (b4.mono HB3.out.size)); clear b4)
      | ((with_reducible refine at_store 23 _ _ rfl ?_); refine wpList_store_new rfl 23 _ _ rfl (B8 X).toArray rfl rfl 23 _ (arr32 HXL.out).1 (arr32 HXL.out).2 (B8_oneA X) ?_))
    obtain ⟨b6, Hb6⟩ : ∃ b, Hid (b = w4.heap.size) := ⟨_, Lib.hid rfl⟩
    obtain ⟨W5, HW5, HB5, HR6⟩ : ∃ W, Hid (W = w4.alloc (.cells (B8 X).toArray 23)) ∧ Hid (Below V.heap.size V W) ∧ Hid (W.heap[b6]? = some (.cells (B8 X).toArray 23 (0, 0))) := ⟨_, Lib.hid rfl, Lib.hid (HB4.out.alloc HB4.out.size _), Lib.hid (by rw [Hb6.out]; exact heap_alloc_new _ _)⟩
    rw [← HW5.out, ← Hb6.out]
    have HR5 := Lib.hid ((HB5.out.block _ (Array.getElem?_eq_some_iff.1 HR.out).1).trans HR.out)
    clear HW5 Hb6 kw
    try simp only [Act.put]
    refine Wild.region_b (fun k => match k with | 2 => some (.fix (.int .i64 td)) | 3 => some (.shut (fourN td)) | 6 => some (.shut (fourN ty)) | 10 => some (.rows [fourN td, fourN ty, I, X]) | 11 => some (.own W5.heap.size R) | _ => none) (fun k => match k with | 10 => [3, 6] | 11 => [10] | _ => []) rfl (by kernel_rfl) (fun vs hvs => ?_)
    have h2 : vs 2 = .int .i64 td := hvs 2 _ rfl
    obtain ⟨a3, h3⟩ := hvs 3 _ rfl
    obtain ⟨a6, h6⟩ := hvs 6 _ rfl
    obtain ⟨a11, c11, h11⟩ := hvs 11 _ rfl
    refine Wild.walk_simple rfl (by rfl) (by rfl) (fun K hK => ?_); go_big_quiet_op; first | (refine hK _ ?_; clear hK K) | (refine ⟨_, fun _ _ => rfl, hK _ ?_⟩; clear hK K)
    refine Wild.walk_cell 3 _ _ _ (.int .i64 H) _ rfl (by rfl) rfl rfl (fun w' hw => tree_H ((hw.1.block _ (Array.getElem?_eq_some_iff.1 HR5.out).1).trans HR5.out) HHI.out HHS.out) Try.underlying3 rfl ?_
    simp only [Act.put, List.setIfInBounds_toArray, List.set_cons_zero, List.set_cons_succ]
    refine Wild.walk_wild _ rfl (by rfl) (fun w' hw K hK => ?_) ?_
    · go_simp
      go_at_call 28
      refine (HTD.out w').mono ?_
      rintro e w'' ⟨rfl, rfl⟩
      exact hK.out _ _ hw.1 (Below.refl _ _) rfl trivial
    rw [h2]
    simp only [Act.put, List.setIfInBounds_toArray, List.set_cons_zero, List.set_cons_succ]
    refine Wild.walk_wild _ rfl (by rfl) (fun w' hw K hK => ?_) ?_
    · go_simp
      go_at_call 27
      refine (HF1.out w').mono ?_
      rintro e w'' ⟨a, rfl, s, hb⟩
      exact hK.out _ _ (hw.1.trans (hb.mono hw.1.size)) hb ⟨a, rfl⟩ s
    rw [h3]
    simp only [Act.put, List.setIfInBounds_toArray, List.set_cons_zero, List.set_cons_succ]
    refine Wild.walk_simple rfl (by rfl) (by rfl) (fun K hK => ?_); go_big_quiet_op; first | (refine hK _ ?_; clear hK K) | (refine ⟨_, fun _ _ => rfl, hK _ ?_⟩; clear hK K)
    refine Wild.walk_simple rfl (by rfl) (by rfl) (fun K hK => ?_); go_big_quiet_op; first | (refine hK _ ?_; clear hK K) | (refine ⟨_, fun _ _ => rfl, hK _ ?_⟩; clear hK K)
    refine Wild.walk_wild _ rfl (by rfl) (fun w' hw K hK => ?_) ?_
    · go_simp
      go_at_call 27
      refine (HF2.out w').mono ?_
      rintro e w'' ⟨a, rfl, s, hb⟩
      exact hK.out _ _ (hw.1.trans (hb.mono hw.1.size)) hb ⟨a, rfl⟩ s
    rw [h6]
    simp only [Act.put, List.setIfInBounds_toArray, List.set_cons_zero, List.set_cons_succ]
    refine Wild.walk_simple rfl (by rfl) (by rfl) (fun K hK => ?_); go_big_quiet_op; first | (refine hK _ ?_; clear hK K) | (refine ⟨_, fun _ _ => rfl, hK _ ?_⟩; clear hK K)
    refine Wild.walk_simple rfl (by rfl) (by rfl) (fun K hK => ?_); go_big_quiet_op; first | (refine hK _ ?_; clear hK K) | (refine ⟨_, fun _ _ => rfl, hK _ ?_⟩; clear hK K)
    refine Wild.walk_simple rfl (by rfl) (by rfl) (fun K hK => ?_); go_big_quiet_op; first | (refine hK _ ?_; clear hK K) | (refine ⟨_, fun _ _ => rfl, hK _ ?_⟩; clear hK K)
    refine Wild.walk_wild _ rfl (by rfl) (fun w' hw K hK => ?_) ?_
    · have s3 : Sl w' (vs 3) (fourN td) := hw.2 3 (by simp [Wild.tab]) rfl
      have s6 : Sl w' (vs 6) (fourN ty) := hw.2 6 (by simp [Wild.tab]) rfl
      rw [h3] at s3
      rw [h6] at s6
      have s0 : Sl w' (.slice (some ⟨w.heap.size, 0, none⟩) 16 16) I := tree_I ((hw.1.block _ (Array.getElem?_eq_some_iff.1 HR5.out).1).trans HR5.out) HHI.out
      have s1 : Sl w' (.slice (some ⟨b6, 0, none⟩) 32 32) X := Sl.ofBlock ((hw.1.block _ (Array.getElem?_eq_some_iff.1 HR6.out).1).trans HR6.out) HXL.out.symm (Nat.le_refl _) (by simp [maxLen]) fun i hi => by rw [Nat.zero_add, List.getElem?_toArray]
      go_simp
      exact hK.out (.slice (some ⟨w'.heap.size, 0, none⟩) 4 4) _ (hw.1.alloc hw.1.size _) ((Below.refl _ _).alloc (Nat.le_refl _) _) trivial (Rows.four _ s3 s6 s0 s1)
    simp only [Act.put, List.setIfInBounds_toArray, List.set_cons_zero, List.set_cons_succ]
    refine Wild.walk_wild _ rfl (by rfl) (fun w' hw K hK => ?_) ?_
    · have s10 : Rows w' (vs 10) [fourN td, fourN ty, I, X] := hw.2 10 (by simp [Wild.tab]) rfl
      go_simp
      go_at_call 26
      refine (HCO.out _ _ w' s10 (by rw [← HRR.out, HRL.out]; decide)).mono ?_
      rintro e w'' ⟨v, rfl, o, hb⟩
      rw [← HRR.out] at o
      obtain ⟨oa, oc, ov⟩ := o.shape
      exact hK.out _ _ (hw.1.trans (hb.mono hw.1.size)) hb ⟨oa, oc, ov⟩ (OwnC.down o hw.1.size)
    rw [h11]
    simp only [Act.put, List.setIfInBounds_toArray, List.set_cons_zero, List.set_cons_succ]
    refine Wild.walk_simple rfl (by rfl) (by rfl) (fun K hK => ?_); go_big_quiet_op; first | (refine hK _ ?_; clear hK K) | (refine ⟨_, fun _ _ => rfl, hK _ ?_⟩; clear hK K)
    refine Wild.walk_simple rfl (by rfl) (by rfl) (fun K hK => ?_); go_big_quiet_op; first | (refine hK _ ?_; clear hK K) | (refine ⟨_, fun _ _ => rfl, hK _ ?_⟩; clear hK K)
    refine Wild.walk_nil ?_
    intro w7 hw7 hf7
    have o7 : Own8 w7 W5.heap.size (vs 11) R := hf7 11 rfl (by decide)
    rw [h11] at o7
    have HS7 := Lib.hid o7.sl
    have HB7 : Hid (Below w.heap.size w w7) := Lib.hid (HB.out.trans ((HB5.out.trans (Below.mono hw7 HB5.out.size)).mono HB.out.size))
    generalize vs (0 + 1 + 1 + 1 + 1 + 1 + 1 + 1 + 1 + 1 + 1) = x10
    clear hw7 hf7 h2 h3 h6 h11 o7 hvs
    go_wp2_with fail
    go_ret2
    exact ⟨_, rfl, HS7.out, HB7.out⟩
  · have hmf : mayT k h = false := by simpa using hm
    rw [hmf] at HMA
    have HL : Hid (pubL I S k h = [] ∧ errL k h = 1) := Lib.hid ⟨by rw [pubL, if_neg hm], by rw [errL, if_neg hm]⟩
    rw [HL.out.1, HL.out.2]
    clear hm hmf hI hS hk
    go_enter Try.func19, Try.ntmps19
    go_upto_region 1 with (fail)
    rw [← HV.out]
    go_wp2_with (first
      | ((with_reducible refine at_load 25 _ rfl ?_); refine wpList_load_row rfl 25 _ rfl _ rfl _ (TreeV I S k h).toArray (0, 0) _ HR.out Try.underlying25 rfl IT.out ?_)
      | (go_at_call 23; refine HMA.out.mono ?_; rintro e w1 ⟨rfl, b1⟩; have HB1 := Lib.hid b1; clear b1))
    go_ret2
    exact ⟨_, rfl, .inl ⟨rfl, _, _, rfl⟩, HB.out.trans (HB1.out.mono HB.out.size)⟩
end Go.Proofs.Ytcnelahmbfggcaa

/- The walk of lms's Sign. -/
namespace Go.Proofs.Ytcnelahmbfggcaa
open Go Go.RowKit
set_option maxRecDepth 100000
set_option maxHeartbeats 4000000
attribute [local irreducible] Wild.walk WildF.walk

/-- the sums beside the way from place n on, j of them -/
def besideN (I S : List UInt8) (k : Int) (H n : Nat) : Nat → List UInt8
  | 0 => []
  | j + 1 => besideN I S k H n j ++ knotV I S k H ((n / 2 ^ j) ^^^ 1)
theorem besideN_length (I S : List UInt8) (k : Int) (H n j : Nat) : (besideN I S k H n j).length = 32 * j := by
  induction j with
  | zero => rfl
  | succ j ih => rw [besideN, List.length_append, ih, knotV_length]; omega
def lsigN (I S : List UInt8) (k : Int) (H q : Nat) (text : List UInt8) : List UInt8 :=
  [fourN q, signV I S q k text, fourN (typedN H).toNat].flatten ++ besideN I S k H (2 ^ H + q) H
def leafOk (h q : Int) : Bool := decide (0 ≤ q ∧ q < ((2 ^ h.toNat : Nat) : Int))
def lsigV (I S : List UInt8) (k h q : Int) (text : List UInt8) : List UInt8 := if mayT k h && leafOk h q then lsigN I S k h.toNat q.toNat text else []
def lsigE (k h q : Int) : Int := if mayT k h then (if leafOk h q then 0 else 12) else 1
theorem xor_one : ∀ r : Nat, r < 64 → bits .xor .i64 (r : Int) 1 = ((r ^^^ 1 : Nat) : Int) := by decide +kernel
theorem xor_bd : ∀ H : Nat, H < 6 → ∀ r : Nat, r < 64 → 2 ≤ r → r < 2 ^ (H + 1) → 1 ≤ r ^^^ 1 ∧ r ^^^ 1 < 2 ^ (H + 1) := by decide +kernel
theorem signV_le (I S : List UInt8) (q : Nat) (k : Int) (text : List UInt8) : (signV I S q k text).length ≤ 10000 := by
  rw [signV]
  split
  · rename_i h
    have hb : 256 / k.toNat + chkN k.toNat ≤ 265 := (manyW_w k.toNat (by rcases (isW_iff k).1 h with h | h | h | h <;> subst h <;> decide)).2
    rw [sigN, List.length_append, List.length_append, sigP_length, grainN, hashN_length]
    show 4 + 32 + _ ≤ _
    omega
  · simp
theorem div_two (n j : Nat) : n / 2 ^ j / 2 = n / 2 ^ (j + 1) := by rw [Nat.div_div_eq_div_mul, Nat.pow_succ]
/-- a growth of bytes of one's own leaves the knots' function -/
theorem KN_grown {w w9 : World} {c0 c1 B : Nat} {v : Value} {L : List UInt8} {I S : List UInt8} {k h : Int} (hK : KN w c0 c1 I S k h) (hO : Own8 w B v L) (hg : w.grownBy w9 v.ownBlock) : KN w9 c0 c1 I S k h := by
  have blk : ∀ (b : Nat) (cur : Array Value) (t : TypeId), w.heap[b]? = some (.cells cur t (0, 0)) → t ≠ 5 → w9.heap[b]? = w.heap[b]? := fun b cur t hb ht => by
    refine hg.block b (Array.getElem?_eq_some_iff.1 hb).1 fun e => ?_
    rcases hO.2 with ⟨rfl, _⟩ | ⟨g, off, cap, cur', rfl, _, hg', _⟩
    · simp [Value.ownBlock] at e
    · simp only [Value.ownBlock, Option.some.injEq] at e
      subst e
      rw [hb] at hg'
      simp only [Option.some.injEq, Obj.cells.injEq] at hg'
      exact ht hg'.2.1
  exact ⟨(blk _ _ _ hK.tree (by decide)).trans hK.tree, (blk _ _ _ hK.self (by decide)).trans hK.self⟩
theorem Sign_lms (I S : List UInt8) (k h q : Int) (tv : Value) (text : List UInt8) (w : World) (hI : I.length = 16) (hS : S.length = 32) (hk : -9223372036854775808 ≤ k ∧ k ≤ 9223372036854775807) (ht : Sl w tv text) (htl : text.length ≤ 1000000) :
    Calls Try.prog 18 #[.agg (TreeV I S k h).toArray, .int .i64 q, tv] w fun e w' => ∃ v, e = .returned (.tuple #[v, .int .i64 (lsigE k h q)]) ∧ Sl w' v (lsigV I S k h q text) ∧ Below w.heap.size w w' := by
  obtain ⟨V, HV, HB, HR⟩ : ∃ V, Hid (V = w.alloc (.cells (TreeV I S k h).toArray 25)) ∧ Hid (Below w.heap.size w V) ∧ Hid (V.heap[w.heap.size]? = some (.cells (TreeV I S k h).toArray 25 (0, 0))) := ⟨_, Lib.hid rfl, Lib.hid ((Below.refl _ _).alloc (Nat.le_refl _) _), Lib.hid (heap_alloc_new _ _)⟩
  have IT : Hid ((Try.prog.info? 25).map (·.size) = some (TreeV I S k h).toArray.size) := Lib.hid (by rw [info_tree, List.size_toArray, TreeV_length _ _ _ _ hI hS])
  have HMA := Lib.hid (may_any I S k h V hI hS hk)
  have HTX := Lib.hid (ht.later HB.out)
  have HHI := Lib.hid hI
  have HHS := Lib.hid hS
  obtain ⟨ta, tc, rfl⟩ := ht.shape
  by_cases hm : mayT k h = true
  · obtain ⟨h1, h2, h3⟩ := (mayT_iff k h).1 hm
    have he : errW k = 0 := by rw [errW, if_pos h1]
    rw [hm] at HMA
    obtain ⟨H, rfl⟩ : ∃ H : Nat, h = H := ⟨h.toNat, by omega⟩
    have hH : H ≤ 5 := by omega
    obtain ⟨p5, p1⟩ := pow5 H hH
    obtain ⟨P, HP⟩ : ∃ P, Hid (P = 2 ^ H) := ⟨_, Lib.hid rfl⟩
    rw [← HP.out] at p5 p1
    have ew := wrap_pow H P HP.out (by omega)
    by_cases hq0 : q < 0
    · have g0 : decide (q < 0) = true := decide_eq_true hq0
      have HL : Hid (lsigV I S k H q text = [] ∧ lsigE k H q = 12) := Lib.hid (by
        have e : leafOk H q = false := by rw [leafOk, decide_eq_false_iff_not]; omega
        rw [lsigV, lsigE, hm, e]; exact ⟨rfl, rfl⟩)
      rw [HL.out.1, HL.out.2]
      clear hm h1 he hI hS hk ht
      go_enter Try.func18, Try.ntmps18
      go_upto_region 1 with (fail)
      rw [← HV.out]
      go_wp2_with (first
        | ((with_reducible refine at_load 25 _ rfl ?_); refine wpList_load_row rfl 25 _ rfl _ rfl _ (TreeV I S k H).toArray (0, 0) _ HR.out Try.underlying25 rfl IT.out ?_)
        | (go_at_call 23; refine HMA.out.mono ?_; rintro e w1 ⟨rfl, b1⟩; have HB1 := Lib.hid b1; clear b1))
      go_ret2
      exact ⟨_, rfl, .inl ⟨rfl, _, _, rfl⟩, HB.out.trans (HB1.out.mono HB.out.size)⟩
    · have g0 : decide (q < 0) = false := decide_eq_false hq0
      by_cases hq1 : (P : Int) ≤ q
      · have g1 : decide ((P : Int) ≤ q) = true := decide_eq_true hq1
        have HL : Hid (lsigV I S k H q text = [] ∧ lsigE k H q = 12) := Lib.hid (by
          have e : leafOk H q = false := by rw [leafOk, decide_eq_false_iff_not, Int.toNat_natCast, ← HP.out]; omega
          rw [lsigV, lsigE, hm, e]; exact ⟨rfl, rfl⟩)
        rw [HL.out.1, HL.out.2]
        clear hm h1 he hI hS hk ht
        go_enter Try.func18, Try.ntmps18
        go_upto_region 1 with (fail)
        rw [← HV.out]
        go_wp2_with (first
          | ((with_reducible refine at_load 25 _ rfl ?_); refine wpList_load_row rfl 25 _ rfl _ rfl _ (TreeV I S k H).toArray (0, 0) _ HR.out Try.underlying25 rfl IT.out ?_)
          | (go_at_call 23; refine HMA.out.mono ?_; rintro e w1 ⟨rfl, b1⟩; have HB1 := Lib.hid b1; have HR1 := Lib.hid ((b1.block _ (Array.getElem?_eq_some_iff.1 HR.out).1).trans HR.out); have kh := tree_H HR1.out HHI.out HHS.out; clear b1))
        go_ret2
        exact ⟨_, rfl, .inl ⟨rfl, _, _, rfl⟩, HB.out.trans (HB1.out.mono HB.out.size)⟩
      · have g1 : decide ((P : Int) ≤ q) = false := decide_eq_false hq1
        obtain ⟨Q, rfl⟩ : ∃ Q : Nat, q = Q := ⟨q.toNat, by omega⟩
        have hQ : Q < P := by omega
        have HL : Hid (lsigV I S k H Q text = lsigN I S k H Q text ∧ lsigE k H Q = 0) := Lib.hid (by
          have e : leafOk H Q = true := by rw [leafOk, decide_eq_true_iff, Int.toNat_natCast, ← HP.out]; omega
          rw [lsigV, lsigE, hm, e]; exact ⟨rfl, rfl⟩)
        rw [HL.out.1, HL.out.2]
        have htd0 : 0 ≤ typedN H ∧ typedN H ≤ 105 := by rw [typedN]; split <;> omega
        obtain ⟨td, htd⟩ : ∃ td : Nat, typedN H = td := ⟨(typedN H).toNat, by omega⟩
        have HKY := Lib.hid (fun w' => key_any I S k H Q w' hI hS (by omega))
        have HSI := Lib.hid (fun w' h => Sign_any I S Q k (.slice ta text.length tc) text w' hI hS (by omega) hk (wf_i64 hk) h htl)
        have HTD := Lib.hid (fun w' => typed_any H w' (by omega))
        have HF1 := Lib.hid (fun w' => four_lms td w' (by omega))
        have HFQ := Lib.hid (fun w' => four_lms Q w' (by omega))
        have HKO := Lib.hid (fun w' => knots_any I S k H w')
        have HSU := Lib.hid (fun b0 b1 r w' h1 h2 hK => sum_knot I S k H b0 b1 hI hS hk hH r w' h1 h2 hK)
        have HCO := Lib.hid (fun mv ls w' h hl => Concat_any mv ls w' h hl)
        obtain ⟨O, HO⟩ : ∃ O, Hid (O = signV I S Q k text) := ⟨_, Lib.hid rfl⟩
        have HOL : Hid (O.length ≤ 10000) := Lib.hid (by rw [HO.out]; exact signV_le _ _ _ _ _)
        obtain ⟨R, HRR⟩ : ∃ R, Hid (R = [fourN Q, O, fourN td].flatten) := ⟨_, Lib.hid rfl⟩
        have HRL : Hid (R.length ≤ 10008) := Lib.hid (by rw [HRR.out]; simp [fourN]; have := HOL.out; omega)
        have HFIN : Hid (lsigN I S k H Q text = R ++ besideN I S k H (P + Q) H) := Lib.hid (by rw [lsigN, htd, Int.toNat_natCast, ← HO.out, ← HRR.out, ← HP.out])
        simp only [he, ← HO.out] at HSI
        simp only [htd] at HTD
        rw [HFIN.out]
        clear hm h1 he hI hS hk ht htd htd0
        go_enter Try.func18, Try.ntmps18
        go_upto_region 1 with (fail)
        rw [← HV.out]
        go_upto_region 6 with (first
          | ((with_reducible refine at_load 25 _ rfl ?_); first | refine wpList_load_row rfl 25 _ rfl _ rfl _ (TreeV I S k H).toArray (0, 0) _ HR.out Try.underlying25 rfl IT.out ?_ | refine wpList_load_row rfl 25 _ rfl _ rfl _ (TreeV I S k H).toArray (0, 0) _ HR1.out Try.underlying25 rfl IT.out ?_)
          | (go_at_call 23; refine HMA.out.mono ?_; rintro e w1 ⟨rfl, b1⟩; have HB1 := Lib.hid b1; have HR1 := Lib.hid ((b1.block _ (Array.getElem?_eq_some_iff.1 HR.out).1).trans HR.out); have HT1 := Lib.hid (HTX.out.later b1); have kh := tree_H HR1.out HHI.out HHS.out; clear b1)
          | (go_at_call 25; refine (HKY.out w1).mono ?_; rintro e w2 ⟨rfl, b2⟩; have HB2 := Lib.hid (HB1.out.trans (b2.mono HB1.out.size)); have HT2 := Lib.hid (HT1.out.later b2); clear b2)
          | (go_at_call 24; refine (HSI.out w2 HT2.out).mono ?_; rintro e w3 ⟨sv, rfl, s3, b3⟩; have HB3 := Lib.hid (HB2.out.trans (b3.mono HB2.out.size)); have HS3 := Lib.hid s3; obtain ⟨sa, sc, rfl⟩ := Sl.shape s3; clear s3 b3))
        have HR3 := Lib.hid ((HB3.out.block _ (Array.getElem?_eq_some_iff.1 HR.out).1).trans HR.out)
        clear kh
        try simp only [Act.put]
        refine Wild.region_b (fun k => match k with | 1 => some (.shut (fourN Q)) | 5 => some (.fix (.int .i64 td)) | 6 => some (.shut (fourN td)) | 7 => some (.rows [fourN Q, O, fourN td]) | 8 => some (.own w3.heap.size R) | _ => none) (fun k => match k with | 7 => [1, 6] | 8 => [7] | _ => []) rfl (by kernel_rfl) (fun vs hvs => ?_)
        obtain ⟨a1, h1⟩ := hvs 1 _ rfl
        have h5 : vs 5 = .int .i64 td := hvs 5 _ rfl
        obtain ⟨a6, h6⟩ := hvs 6 _ rfl
        obtain ⟨a8, c8, h8⟩ := hvs 8 _ rfl
        refine Wild.walk_simple rfl (by rfl) (by rfl) (fun K hK => ?_); go_big_quiet_op; first | (refine hK _ ?_; clear hK K) | (refine ⟨_, fun _ _ => rfl, hK _ ?_⟩; clear hK K)
        refine Wild.walk_wild _ rfl (by rfl) (fun w' hw K hK => ?_) ?_
        · go_simp
          go_at_call 27
          refine (HFQ.out w').mono ?_
          rintro e w'' ⟨a, rfl, s, hb⟩
          exact hK.out _ _ (hw.1.trans (hb.mono hw.1.size)) hb ⟨a, rfl⟩ s
        rw [h1]
        simp only [Act.put, List.setIfInBounds_toArray, List.set_cons_zero, List.set_cons_succ]
        refine Wild.walk_simple rfl (by rfl) (by rfl) (fun K hK => ?_); go_big_quiet_op; first | (refine hK _ ?_; clear hK K) | (refine ⟨_, fun _ _ => rfl, hK _ ?_⟩; clear hK K)
        refine Wild.walk_simple rfl (by rfl) (by rfl) (fun K hK => ?_); go_big_quiet_op; first | (refine hK _ ?_; clear hK K) | (refine ⟨_, fun _ _ => rfl, hK _ ?_⟩; clear hK K)
        refine Wild.walk_cell 3 _ _ _ (.int .i64 H) _ rfl (by rfl) rfl rfl (fun w' hw => tree_H ((hw.1.block _ (Array.getElem?_eq_some_iff.1 HR3.out).1).trans HR3.out) HHI.out HHS.out) Try.underlying3 rfl ?_
        simp only [Act.put, List.setIfInBounds_toArray, List.set_cons_zero, List.set_cons_succ]
        refine Wild.walk_wild _ rfl (by rfl) (fun w' hw K hK => ?_) ?_
        · go_simp
          go_at_call 28
          refine (HTD.out w').mono ?_
          rintro e w'' ⟨rfl, rfl⟩
          exact hK.out _ _ hw.1 (Below.refl _ _) rfl trivial
        rw [h5]
        simp only [Act.put, List.setIfInBounds_toArray, List.set_cons_zero, List.set_cons_succ]
        refine Wild.walk_wild _ rfl (by rfl) (fun w' hw K hK => ?_) ?_
        · go_simp
          go_at_call 27
          refine (HF1.out w').mono ?_
          rintro e w'' ⟨a, rfl, s, hb⟩
          exact hK.out _ _ (hw.1.trans (hb.mono hw.1.size)) hb ⟨a, rfl⟩ s
        rw [h6]
        simp only [Act.put, List.setIfInBounds_toArray, List.set_cons_zero, List.set_cons_succ]
        refine Wild.walk_wild _ rfl (by rfl) (fun w' hw K hK => ?_) ?_
        · have s1 : Sl w' (vs 1) (fourN Q) := hw.2 1 (by simp [Wild.tab]) rfl
          have s6 : Sl w' (vs 6) (fourN td) := hw.2 6 (by simp [Wild.tab]) rfl
          rw [h1] at s1
          rw [h6] at s6
          have s0 := HS3.out.later hw.1
          go_simp
          exact hK.out (.slice (some ⟨w'.heap.size, 0, none⟩) 3 3) _ (hw.1.alloc hw.1.size _) ((Below.refl _ _).alloc (Nat.le_refl _) _) trivial (Rows.three _ s1 s0 s6)
        simp only [Act.put, List.setIfInBounds_toArray, List.set_cons_zero, List.set_cons_succ]
        refine Wild.walk_wild _ rfl (by rfl) (fun w' hw K hK => ?_) ?_
        · have s7 : Rows w' (vs 7) [fourN Q, O, fourN td] := hw.2 7 (by simp [Wild.tab]) rfl
          go_simp
          go_at_call 26
          refine (HCO.out _ _ w' s7 (by rw [← HRR.out]; have := HRL.out; omega)).mono ?_
          rintro e w'' ⟨v, rfl, o, hb⟩
          rw [← HRR.out] at o
          obtain ⟨oa, oc, ov⟩ := o.shape
          exact hK.out _ _ (hw.1.trans (hb.mono hw.1.size)) hb ⟨oa, oc, ov⟩ (OwnC.down o hw.1.size)
        rw [h8]
        simp only [Act.put, List.setIfInBounds_toArray, List.set_cons_zero, List.set_cons_succ]
        refine Wild.walk_simple rfl (by rfl) (by rfl) (fun K hK => ?_); go_big_quiet_op; first | (refine hK _ ?_; clear hK K) | (refine ⟨_, fun _ _ => rfl, hK _ ?_⟩; clear hK K)
        refine Wild.walk_nil ?_
        intro w4 hw4 hf4
        have o4 : Own8 w4 w3.heap.size (vs 8) R := hf4 8 rfl (by decide)
        rw [h8] at o4
        have HO4 := Lib.hid o4
        have HB4 : Hid (Below w3.heap.size w3 w4) := Lib.hid hw4
        have HR4 := Lib.hid ((HB4.out.block _ (Array.getElem?_eq_some_iff.1 HR3.out).1).trans HR3.out)
        have HBW : Hid (Below w.heap.size w w3) := Lib.hid (HB.out.trans (HB3.out.mono HB.out.size))
        generalize vs (0 + 1 + 1 + 1 + 1 + 1 + 1 + 1) = x7
        clear hw4 hf4 h1 h5 h6 h8 o4 hvs
        go_upto_region 8 with (first
          | ((with_reducible refine at_load 25 _ rfl ?_); refine wpList_load_row rfl 25 _ rfl _ rfl _ (TreeV I S k H).toArray (0, 0) _ HR4.out Try.underlying25 rfl IT.out ?_)
          | (go_at_call 29; refine (HKO.out w4).mono ?_; rintro e w5 ⟨c0, c1, rfl, kn, b5⟩; have HKN := Lib.hid kn; have HB5 := Lib.hid (HB4.out.trans (b5.mono HB4.out.size)); have HO5 := Lib.hid (HO4.out.later b5); have HR5 := Lib.hid ((b5.block _ (Array.getElem?_eq_some_iff.1 HR4.out).1).trans HR4.out); have kh := tree_H HR5.out HHI.out HHS.out; clear b5 kn; simp only [FV]))
        have HBX : Hid (Below w3.heap.size w3 w5) := HB5
        go_upto_region 9 with (fail)
        clear kh
        try simp only [ew]
        go_loopw [10, 12] (fun out rv wr => ∃ j : Nat, j ≤ H ∧ rv = .int .i64 ((P + Q) / 2 ^ j : Nat) ∧ Hid (Own8 wr w3.heap.size out (R ++ besideN I S k H (P + Q) j)) ∧ Hid (KN wr c0 c1 I S k H) ∧ Hid (Below w3.heap.size w3 wr)) (fun _ rv _ => (intOf rv).toNat)
        case atStart => exact ⟨0, by omega, by simp, Lib.hid (by simpa [besideN] using HO5.out), HKN, HBX⟩
        case round =>
          obtain ⟨j, hj, rfl, HOj, HKj, HBj⟩ := hrel
          obtain ⟨n, Hn⟩ : ∃ n, Hid (n = (P + Q) / 2 ^ j) := ⟨_, Lib.hid rfl⟩
          have Hn2 : Hid (n / 2 = (P + Q) / 2 ^ (j + 1)) := Lib.hid (by rw [Hn.out, div_two])
          rw [← Hn.out]
          have hnle : n ≤ P + Q := by rw [Hn.out]; exact Nat.div_le_self _ _
          obtain ⟨oa, oc, hov⟩ := HOj.out.shape
          subst hov
          by_cases hlt : j < H
          · have hge : 2 ≤ n := by
              rw [Hn.out, HP.out, Nat.le_div_iff_mul_le (Nat.pow_pos (by decide))]
              have h8 : 2 * 2 ^ j ≤ 2 ^ H := by rw [Nat.mul_comm, ← Nat.pow_succ]; exact Nat.pow_le_pow_right (by decide) (by omega)
              omega
            have hgi : (1 : Int) < n := by omega
            have ex := xor_one n (by omega)
            obtain ⟨m, Hm⟩ : ∃ m, Hid (m = n ^^^ 1) := ⟨_, Lib.hid rfl⟩
            rw [← Hm.out] at ex
            have HMB : Hid (1 ≤ m ∧ m < 2 ^ (H + 1)) := Lib.hid (by rw [Hm.out]; exact xor_bd H (by omega) n (by omega) hge (by rw [Nat.pow_succ, ← HP.out]; omega))
            obtain ⟨X, HX⟩ : ∃ X, Hid (X = knotV I S k H m) := ⟨_, Lib.hid rfl⟩
            have HXL : Hid (X.length = 32) := Lib.hid (by rw [HX.out]; exact knotV_length _ _ _ _ _)
            have HS1 := Lib.hid (HSU.out c0 c1 m wr HMB.out.1 HMB.out.2 HKj.out)
            have HNX : Hid ((R ++ besideN I S k H (P + Q) j) ++ X = R ++ besideN I S k H (P + Q) (j + 1)) := Lib.hid (by rw [besideN, ← Hn.out, ← Hm.out, ← HX.out, List.append_assoc])
            have HLL : Hid ((R ++ besideN I S k H (P + Q) j).length + X.length ≤ 1000000000) := Lib.hid (by rw [List.length_append, besideN_length, HXL.out]; have := HRL.out; omega)
            rw [← HX.out] at HS1
            generalize R ++ besideN I S k H (P + Q) j = L at HOj HNX HLL
            go_upto_region 12 with (first
              | (go_at_call 44; refine HS1.out.mono ?_; rintro e w6 ⟨rfl, b6⟩; have HB6 := Lib.hid b6; clear b6)
              | ((with_reducible refine at_store 23 _ _ rfl ?_); refine wpList_store_new rfl 23 _ _ rfl (B8 X).toArray rfl rfl 23 _ (arr32 HXL.out).1 (arr32 HXL.out).2 (B8_oneA X) ?_))
            obtain ⟨b7, Hb7⟩ : ∃ b, Hid (b = w6.heap.size) := ⟨_, Lib.hid rfl⟩
            obtain ⟨W7, HW7, HB7, HX7⟩ : ∃ W, Hid (W = w6.alloc (.cells (B8 X).toArray 23)) ∧ Hid (Below wr.heap.size wr W) ∧ Hid (Sl W (.slice (some ⟨b7, 0, none⟩) 32 32) X) := ⟨_, Lib.hid rfl, Lib.hid (HB6.out.alloc HB6.out.size _), Lib.hid (Sl.made w6 X _ _ 32 b7 rfl HXL.out.symm (by decide) Hb7.out)⟩
            rw [← HW7.out, ← Hb7.out]
            have HO7 := Lib.hid (HOj.out.later HB7.out)
            have HK7 := Lib.hid (HKj.out.later HB7.out)
            have HB8 : Hid (Below w3.heap.size w3 W7) := Lib.hid (HBj.out.trans (HB7.out.mono HBj.out.size))
            clear HW7 Hb7 HB6
            try simp only [Act.put]
            go_wp2_with (at_builtin; refine wpList_append8 rfl _ _ rfl w3.heap.size _ L rfl HO7.out _ X rfl HX7.out HLL.out HB8.out.size ?_; intro v9 w9 hv9 hg9 ho9; have HB9 := Lib.hid (HB8.out.trans (HO7.out.below hg9 HB8.out.size)); have HO9 := Lib.hid hv9; have HK9 : Hid (KN w9 c0 c1 I S k H) := Lib.hid (KN_grown HK7.out HO7.out hg9); clear hv9 hg9 ho9)
            go_roundw
            case rel =>
              exact ⟨j + 1, by omega, by rw [← Hn2.out]; go_num, Lib.hid (by rw [← HNX.out]; exact HO9.out), HK9, HB9⟩
            case measure => simp [intOf]; omega
          · obtain rfl : j = H := by omega
            have hn1 : n = 1 := by
              rw [Hn.out, ← HP.out]
              exact Nat.div_eq_of_lt_le (by omega) (by omega)
            subst hn1
            have HFS := Lib.hid HOj.out.sl
            have HBF : Hid (Below w.heap.size w wr) := Lib.hid (HBW.out.trans (HBj.out.mono HBW.out.size))
            go_wp2_with fail
            go_ret2
            exact ⟨_, rfl, HFS.out, HBF.out⟩
  · have hmf : mayT k h = false := by simpa using hm
    rw [hmf] at HMA
    have HL : Hid (lsigV I S k h q text = [] ∧ lsigE k h q = 1) := Lib.hid ⟨by rw [lsigV, hmf]; rfl, by rw [lsigE, if_neg hm]⟩
    rw [HL.out.1, HL.out.2]
    clear hm hmf hI hS hk ht
    go_enter Try.func18, Try.ntmps18
    go_upto_region 1 with (fail)
    rw [← HV.out]
    go_wp2_with (first
      | ((with_reducible refine at_load 25 _ rfl ?_); refine wpList_load_row rfl 25 _ rfl _ rfl _ (TreeV I S k h).toArray (0, 0) _ HR.out Try.underlying25 rfl IT.out ?_)
      | (go_at_call 23; refine HMA.out.mono ?_; rintro e w1 ⟨rfl, b1⟩; have HB1 := Lib.hid b1; clear b1))
    go_ret2
    exact ⟨_, rfl, .inl ⟨rfl, _, _, rfl⟩, HB.out.trans (HB1.out.mono HB.out.size)⟩
end Go.Proofs.Ytcnelahmbfggcaa

/- The walk of lms's Leaf. -/
namespace Go.Proofs.Ytcnelahmbfggcaa
open Go Go.RowKit
set_option maxRecDepth 100000
set_option maxHeartbeats 2000000

/-- by which leaf a signature is, as its first bytes say -/
def leafN (l : List UInt8) : Nat := if l.length < 4 then 0 else (l.getD 0 0).toNat * 16777216 + (l.getD 1 0).toNat * 65536 + (l.getD 2 0).toNat * 256 + (l.getD 3 0).toNat
theorem leafN_lt (l : List UInt8) : leafN l < 4294967296 := by
  rw [leafN]
  have h0 := (l.getD 0 0).toNat_lt
  have h1 := (l.getD 1 0).toNat_lt
  have h2 := (l.getD 2 0).toNat_lt
  have h3 := (l.getD 3 0).toNat_lt
  split <;> omega
def leafE (l : List UInt8) : Int := if l.length < 4 then 2 else 0
theorem wr_in (n : Int) (h : -9223372036854775808 ≤ n ∧ n ≤ 9223372036854775807) : wrap64 n = n := by unfold wrap64; omega
theorem or_i64 (x y : Nat) (hx : x < 4611686018427387904) (hy : y < 4611686018427387904) : bits .or .i64 (x : Int) (y : Int) = ((x ||| y : Nat) : Int) := by
  show IntKind.i64.wrap ((BitVec.ofInt 64 (x : Int) ||| BitVec.ofInt 64 (y : Int)).toNat : Int) = _
  have e : ∀ n : Nat, n < 4611686018427387904 → (BitVec.ofInt 64 (n : Int)).toNat = n := fun n hn => by simp; omega
  have := Nat.or_lt_two_pow (n := 62) (x := x) (y := y) hx hy
  have e2 : (BitVec.ofInt 64 (x : Int) ||| BitVec.ofInt 64 (y : Int)).toNat = x ||| y := by rw [BitVec.toNat_or, e _ hx, e _ hy]
  refine (congrArg (fun n : Nat => IntKind.i64.wrap (n : Int)) e2).trans ?_
  generalize (x ||| y) = z at *
  rw [IntKind.wrap_i64]
  omega
theorem or_add (a b i : Nat) (h : b < 2 ^ i) : a * 2 ^ i ||| b = a * 2 ^ i + b := by
  rw [← Nat.shiftLeft_eq]; exact (Nat.shiftLeft_add_eq_or_of_lt h a).symm
theorem i_leaf (x0 x1 x2 x3 : UInt8) : bits .or .i64 (bits .or .i64 (bits .or .i64 (wrap64 (wrap64 (bn x0) * 16777216)) (wrap64 (wrap64 (bn x1) * 65536))) (wrap64 (wrap64 (bn x2) * 256))) (wrap64 (bn x3)) =
    ((x0.toNat * 16777216 + x1.toNat * 65536 + x2.toNat * 256 + x3.toNat : Nat) : Int) := by
  have h0 := bn_lt x0
  have h1 := bn_lt x1
  have h2 := bn_lt x2
  have h3 := bn_lt x3
  show _ = ((bn x0 * 16777216 + bn x1 * 65536 + bn x2 * 256 + bn x3 : Nat) : Int)
  generalize bn x0 = a at *
  generalize bn x1 = b at *
  generalize bn x2 = c at *
  generalize bn x3 = d at *
  rw [wr_in (a : Int) (by omega), wr_in (b : Int) (by omega), wr_in (c : Int) (by omega), wr_in (d : Int) (by omega)]
  rw [show (a : Int) * 16777216 = ((a * 16777216 : Nat) : Int) by omega, show (b : Int) * 65536 = ((b * 65536 : Nat) : Int) by omega, show (c : Int) * 256 = ((c * 256 : Nat) : Int) by omega]
  rw [wr_in _ (by omega), wr_in _ (by omega), wr_in _ (by omega)]
  have e1 : a * 16777216 ||| b * 65536 = a * 16777216 + b * 65536 := or_add a (b * 65536) 24 (by omega)
  have e2 : (a * 16777216 + b * 65536) ||| c * 256 = a * 16777216 + b * 65536 + c * 256 := by
    have h := or_add (a * 256 + b) (c * 256) 16 (by omega)
    rw [show (a * 256 + b) * 2 ^ 16 = a * 16777216 + b * 65536 by omega] at h
    exact h
  have e3 : (a * 16777216 + b * 65536 + c * 256) ||| d = a * 16777216 + b * 65536 + c * 256 + d := by
    have h := or_add (a * 65536 + b * 256 + c) d 8 (by omega)
    rw [show (a * 65536 + b * 256 + c) * 2 ^ 8 = a * 16777216 + b * 65536 + c * 256 by omega] at h
    exact h
  rw [or_i64 _ _ (by omega) (by omega), e1, or_i64 _ _ (by omega) (by omega), e2, or_i64 _ _ (by omega) (by omega), e3]
theorem Leaf_any (v : Value) (l : List UInt8) (w : World) (hv : Sl w v l) (hm : l.length ≤ 1000000) :
    Calls Try.prog 13 #[v] w fun e w' => e = .returned (.tuple #[.int .i64 (leafN l), .int .i64 (leafE l)]) ∧ Below w.heap.size w w' := by
  obtain ⟨a, cap, rfl⟩ := hv.shape
  by_cases h4 : l.length < 4
  · rw [leafN, leafE, if_pos h4, if_pos h4]
    have g : (l.length : Int) < 4 := by omega
    clear hv
    generalize l.length = len at *
    go_enter Try.func13, Try.ntmps13
    go_wp2_with fail
    go_ret2
    exact ⟨rfl, Below.refl _ _⟩
  · obtain ⟨b, off, rfl, -, -, -, hc⟩ := Sl.cells hv (by omega)
    have h0 := hc 0 (by omega)
    have h1 := hc 1 (by omega)
    have h2 := hc 2 (by omega)
    have h3 := hc 3 (by omega)
    have g0 : (0 : Int) < l.length := by omega
    have g1 : (1 : Int) < l.length := by omega
    have g2 : (2 : Int) < l.length := by omega
    have g3 : (3 : Int) < l.length := by omega
    have g4 : ¬ (l.length : Int) < 4 := by omega
    rw [leafN, leafE, if_neg h4, if_neg h4]
    clear hc hv h4
    generalize l.length = len at *
    rw [Nat.add_zero] at h0
    generalize l.getD 0 0 = x0 at *
    generalize l.getD 1 0 = x1 at *
    generalize l.getD 2 0 = x2 at *
    generalize l.getD 3 0 = x3 at *
    go_enter Try.func13, Try.ntmps13
    go_wp2_with fail
    go_quiet (fail)
    go_wp2
    go_ret2
    exact ⟨by rw [← i_leaf]; rfl, ⟨rfl, rfl, rfl, Nat.le_refl _, fun _ _ => rfl⟩⟩
end Go.Proofs.Ytcnelahmbfggcaa


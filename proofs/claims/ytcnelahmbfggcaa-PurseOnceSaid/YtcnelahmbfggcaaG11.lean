/- The walk of lms's root. -/
import Derived.Test.YtcnelahmbfggcaaG10
import Derived.Test.YtcnelahmbfggcaaG7
import Derived.Laws.Cover3
import Derived.Test.YtcnelahmbfggcaaG2
namespace Go.Proofs.Ytcnelahmbfggcaa
open Go Go.RowKit
set_option maxRecDepth 100000
set_option maxHeartbeats 2000000
attribute [local irreducible] Wild.walk WildF.walk

/-- the sum of the knot 1, d steps up from the knot r with the sum x, by the sums beside the way -/
def climb (I : List UInt8) : Nat → Nat → List UInt8 → List UInt8 → List UInt8
  | 0, _, x, _ => x
  | d + 1, r, x, b => climb I d (r / 2) (hashN I (r / 2) 33667 (if r % 2 = 0 then [x, b.take 32] else [b.take 32, x])) (b.drop 32)
theorem climb_length (I : List UInt8) : ∀ (d r : Nat) (x b : List UInt8), x.length = 32 → (climb I d r x b).length = 32
  | 0, _, _, _, h => h
  | d + 1, r, _, _, _ => climb_length I d (r / 2) _ _ (sha_length _)
theorem root_any (I S : List UInt8) (k : Int) (H Q : Nat) (x : List UInt8) (bv : Value) (b : List UInt8) (w : World) (hI : I.length = 16) (hS : S.length = 32) (hH : H ≤ 5) (hQ : Q < 2 ^ H) (hx : x.length = 32) (hb : Sl w bv b) (hbl : b.length = 32 * H) :
    Calls Try.prog 34 #[.agg (TreeV I S k H).toArray, .int .i64 Q, .agg (B8 x).toArray, bv] w fun e w' => e = .returned (.agg (B8 (climb I H (2 ^ H + Q) x b)).toArray) ∧ Below w.heap.size w w' := by
  obtain ⟨p5, p1⟩ := pow5 H hH
  obtain ⟨P, HP⟩ : ∃ P, Hid (P = 2 ^ H) := ⟨_, Lib.hid rfl⟩
  rw [← HP.out] at p5 p1 hQ
  have ew := wrap_pow H P HP.out (by omega)
  obtain ⟨W0, HW0, HB0, HS0, HT0⟩ : ∃ V, Hid (V = w.alloc (.cells (TreeV I S k H).toArray 25)) ∧ Hid (Below w.heap.size w V) ∧ Hid (V.heap.size = w.heap.size + 1) ∧ Hid (V.heap[w.heap.size]? = some (.cells (TreeV I S k H).toArray 25 (0, 0))) :=
    ⟨_, Lib.hid rfl, Lib.hid ((Below.refl _ _).alloc (Nat.le_refl _) _), Lib.hid (by simp), Lib.hid (heap_alloc_new _ _)⟩
  obtain ⟨W1, HW1, HB1, HS1, HT1, HX1⟩ : ∃ V, Hid (V = W0.alloc (.cells (B8 x).toArray 23)) ∧ Hid (Below w.heap.size w V) ∧ Hid (V.heap.size = w.heap.size + 2) ∧ Hid (V.heap[w.heap.size]? = some (.cells (TreeV I S k H).toArray 25 (0, 0))) ∧ Hid (V.heap[w.heap.size + 1]? = some (.cells (B8 x).toArray 23 (0, 0))) :=
    ⟨_, Lib.hid rfl, Lib.hid (HB0.out.alloc HB0.out.size _), Lib.hid (by simp [HS0.out]), Lib.hid ((heap_alloc_old _ _ (by rw [HS0.out]; omega)).trans HT0.out), Lib.hid (by rw [← HS0.out]; exact heap_alloc_new _ _)⟩
  obtain ⟨V, HV, HB, HS2, HT, HX, HZ⟩ : ∃ V, Hid (V = W1.alloc (.cells (Array.replicate 32 (.int .u8 0)) 23)) ∧ Hid (Below w.heap.size w V) ∧ Hid (V.heap.size = w.heap.size + 3) ∧ Hid (V.heap[w.heap.size]? = some (.cells (TreeV I S k H).toArray 25 (0, 0))) ∧ Hid (V.heap[w.heap.size + 1]? = some (.cells (B8 x).toArray 23 (0, 0))) ∧ Hid (V.heap[w.heap.size + 2]? = some (.cells (Array.replicate 32 (.int .u8 0)) 23 (0, 0))) :=
    ⟨_, Lib.hid rfl, Lib.hid (HB1.out.alloc HB1.out.size _), Lib.hid (by simp [HS1.out]), Lib.hid ((heap_alloc_old _ _ (by rw [HS1.out]; omega)).trans HT1.out), Lib.hid ((heap_alloc_old _ _ (by rw [HS1.out]; omega)).trans HX1.out), Lib.hid (by rw [← HS1.out]; exact heap_alloc_new _ _)⟩
  have ITL : Hid ((Try.prog.info? 25).map (·.size) = some (TreeV I S k H).length) := Lib.hid (by rw [info_tree, TreeV_length _ _ _ _ hI hS])
  have hh := tree_H HT.out hI hS
  have HHI := Lib.hid hI
  have HHS := Lib.hid hS
  have HBV := Lib.hid hb
  have HXL := Lib.hid hx
  have HA : Hid (∀ r mv ls w', r < 4294967296 → ls.flatten.length ≤ 1000 → Rows w' mv ls → Calls Try.prog 35 #[.agg (TreeV I S k H).toArray, .int .i64 (r : Nat), .int .i64 33667, mv] w' fun e w'' => e = .returned (.agg (B8 (hashN I r 33667 ls)).toArray) ∧ Below w'.heap.size w' w'') := Lib.hid (fun r mv ls w' hr hl h => lhash_any I S k H r 33667 mv ls w' hI hr (by decide) h (by omega))
  obtain ⟨F, HF⟩ : ∃ F, Hid (F = climb I H (P + Q) x b) := ⟨_, Lib.hid rfl⟩
  have HFL : Hid (F.length = 32) := Lib.hid (by rw [HF.out]; exact climb_length _ _ _ _ _ hx)
  rw [← HP.out, ← HF.out]
  have AX : Hid (Array.size (B8 x).toArray = 32) := Lib.hid (by simp [B8_length, hx])
  clear hI hS hb hx
  go_enter Try.func34, Try.ntmps34
  go_upto_region 1 with (fail)
  rw [← HW0.out, ← HW1.out]
  change Code.wp _ _ _ _ (W1.alloc (.cells (Array.replicate 32 (.int .u8 0)) 23))
  rw [← HV.out]
  go_upto_region 2 with (fail)
  simp only [ew]
  clear hh HW0 HW1 HV HB0 HS0 HB1 HS1 HX1 HT0 HT1 HS2
  go_loopw [3, 9] (fun bv' rv wr => ∃ (j : Nat) (x' b' : List UInt8), j ≤ H ∧ rv = .int .i64 ((P + Q) / 2 ^ j : Nat) ∧ Hid (Sl w bv' b') ∧ Hid (b'.length = 32 * (H - j)) ∧ Hid (x'.length = 32) ∧ Hid (wr.heap[w.heap.size + 1]? = some (.cells (B8 x').toArray 23 (0, 0))) ∧ Hid (climb I (H - j) ((P + Q) / 2 ^ j) x' b' = F) ∧ Hid (wr.heap[w.heap.size]? = some (.cells (TreeV I S k H).toArray 25 (0, 0))) ∧ Hid (wr.heap[w.heap.size + 2]? = some (.cells (Array.replicate 32 (.int .u8 0)) 23 (0, 0))) ∧ Hid (Below w.heap.size w wr)) (fun _ rv _ => (intOf rv).toNat)
  case atStart => exact ⟨0, x, b, by omega, by simp, HBV, Lib.hid (by simpa using hbl), HXL, HX, Lib.hid (by simpa using HF.out.symm), HT, HZ, HB⟩
  case round =>
    obtain ⟨j, x', b', hj, rfl, HBv, HBl, HXl, HXc, HFj, HTj, HZj, HBj⟩ := hrel
    obtain ⟨n, Hn⟩ : ∃ n, Hid (n = (P + Q) / 2 ^ j) := ⟨_, Lib.hid rfl⟩
    have Hn2 : Hid (n / 2 = (P + Q) / 2 ^ (j + 1)) := Lib.hid (by rw [Hn.out, div_two])
    rw [← Hn.out] at HFj ⊢
    have hnle : n ≤ P + Q := by rw [Hn.out]; exact Nat.div_le_self _ _
    by_cases hlt : j < H
    · have hge : 2 ≤ n := by
        rw [Hn.out, HP.out, Nat.le_div_iff_mul_le (Nat.pow_pos (by decide))]
        have h8 : 2 * 2 ^ j ≤ 2 ^ H := by rw [Nat.mul_comm, ← Nat.pow_succ]; exact Nat.pow_le_pow_right (by decide) (by omega)
        omega
      have hgi : (1 : Int) < n := by omega
      obtain ⟨d, hd⟩ : ∃ d, H - j = d + 1 := ⟨H - j - 1, by omega⟩
      have hbl' : b'.length = 32 * d + 32 := by rw [HBl.out, hd]; omega
      obtain ⟨ba, bc, rfl⟩ := HBv.out.shape
      have hsl := HBv.out.later HBj.out
      obtain ⟨bb, bo, rfl, -, q1, q2, hcs⟩ := Sl.cells hsl (by omega)
      have HCS := Lib.hid hcs
      obtain ⟨Y, HY⟩ : ∃ Y, Hid (Y = b'.take 32) := ⟨_, Lib.hid rfl⟩
      have HYL : Hid (Y.length = 32) := Lib.hid (by rw [HY.out, List.length_take]; omega)
      have HYR : Hid (wr.rangeAt bb bo (B8 Y)) := Lib.hid (by have h := range_part hcs 0 32 (by omega); rw [HY.out]; simpa using h)
      obtain ⟨DA, HDA⟩ : ∃ D, Hid (D = if bc = 32 then some (⟨bb, bo, none⟩ : Addr) else some ⟨bb, bo + 32, none⟩) := ⟨_, Lib.hid rfl⟩
      have HDR : Hid (Sl w (.slice DA (32 * d) (bc - 32)) (b'.drop 32)) := Lib.hid (by
        obtain ⟨bb', bo', e, -, -, -, hcs'⟩ := Sl.cells HBv.out (by omega)
        injection e with e
        injection e with e1 e2
        subst e1
        subst e2
        rw [HDA.out]
        split
        · exact .inl ⟨List.eq_nil_of_length_eq_zero (by rw [List.length_drop]; omega), _, _, by rw [show 32 * d = 0 by omega]⟩
        · have h := Sl.part hcs' 32 (32 * d) (bc - 32) (by omega) (by omega) (by omega)
          rwa [List.take_of_length_le (by rw [List.length_drop]; omega)] at h)
      rw [hbl'] at q1 ⊢
      have IYL : Hid ((Try.prog.info? 23).map (·.size) = some (B8 Y).length) := Lib.hid (by rw [info_32]; simp [B8_length, HYL.out])
      have IY : Hid ((Try.prog.info? 23).map (·.size) = some (B8 Y).toArray.size) := Lib.hid (by rw [info_32]; simp [B8_length, HYL.out])
      have AY : Hid (Array.size (B8 Y).toArray = 32) := Lib.hid (by simp [B8_length, HYL.out])
      clear hsl hcs
      go_upto_region 5 with (first
        | (rw [run_arrayAt wr 23 5 32 _ _ _ Try.underlying23 (by omega)])
        | ((with_reducible refine at_load 23 _ rfl ?_); refine wpList_load_mid rfl 23 _ rfl bb bo rfl (B8 Y) _ HYR.out Try.underlying23 rfl IYL.out ?_)
        | ((with_reducible refine at_store 23 _ _ rfl ?_); refine wpList_store_new rfl 23 _ _ rfl (B8 Y).toArray rfl rfl 23 _ (arr32 HYL.out).1 (arr32 HYL.out).2 (B8_oneA Y) ?_))
      obtain ⟨yb, Hyb⟩ : ∃ b, Hid (b = wr.heap.size) := ⟨_, Lib.hid rfl⟩
      obtain ⟨W4, HW4, HB4, HY4, HX4, HT4, HZ4, HR4⟩ : ∃ W, Hid (W = wr.alloc (.cells (B8 Y).toArray 23)) ∧ Hid (Below wr.heap.size wr W) ∧ Hid (W.heap[yb]? = some (.cells (B8 Y).toArray 23 (0, 0))) ∧ Hid (W.heap[w.heap.size + 1]? = some (.cells (B8 x').toArray 23 (0, 0))) ∧ Hid (W.heap[w.heap.size]? = some (.cells (TreeV I S k H).toArray 25 (0, 0))) ∧ Hid (W.heap[w.heap.size + 2]? = some (.cells (Array.replicate 32 (.int .u8 0)) 23 (0, 0))) ∧ Hid (Below w.heap.size w W) :=
        ⟨_, Lib.hid rfl, Lib.hid ((Below.refl _ _).alloc (Nat.le_refl _) _), Lib.hid (by rw [Hyb.out]; exact heap_alloc_new _ _), Lib.hid ((heap_alloc_old _ _ (Array.getElem?_eq_some_iff.1 HXc.out).1).trans HXc.out), Lib.hid ((heap_alloc_old _ _ (Array.getElem?_eq_some_iff.1 HTj.out).1).trans HTj.out), Lib.hid ((heap_alloc_old _ _ (Array.getElem?_eq_some_iff.1 HZj.out).1).trans HZj.out), Lib.hid (HBj.out.alloc HBj.out.size _)⟩
      rw [← HW4.out, ← Hyb.out]
      obtain ⟨X, hX⟩ : ∃ X, X = x' := ⟨_, rfl⟩
      subst hX
      have HDL : Hid ((b'.drop 32).length = 32 * (H - (j + 1))) := Lib.hid (by rw [List.length_drop]; omega)
      have HROWS : Hid (∀ (R : List UInt8) (w7 : World), Below W4.heap.size W4 w7 → Hid (w7.heap[w.heap.size + 1]? = some (.cells (B8 X).toArray 23 (0, 0))) ∧ Hid ((w7.setRow (w.heap.size + 1) (B8 R).toArray).heap[w.heap.size]? = some (.cells (TreeV I S k H).toArray 25 (0, 0))) ∧ Hid ((w7.setRow (w.heap.size + 1) (B8 R).toArray).heap[w.heap.size + 2]? = some (.cells (Array.replicate 32 (.int .u8 0)) 23 (0, 0))) ∧ Hid (Below w.heap.size w (w7.setRow (w.heap.size + 1) (B8 R).toArray))) := Lib.hid (fun R w7 h7 => ⟨Lib.hid ((h7.block _ (Array.getElem?_eq_some_iff.1 HX4.out).1).trans HX4.out), Lib.hid ((setRow_other _ _ _ _ (by omega)).trans ((h7.block _ (Array.getElem?_eq_some_iff.1 HT4.out).1).trans HT4.out)), Lib.hid ((setRow_other _ _ _ _ (by omega)).trans ((h7.block _ (Array.getElem?_eq_some_iff.1 HZ4.out).1).trans HZ4.out)), Lib.hid (below_row (HR4.out.trans (Below.mono h7 HR4.out.size)) (by omega) _)⟩)
      clear HBl HXc HTj HZj HBj HBv HW4 HYR IYL IY AY HB4
      go_upto_region 6 with (fail)
      rw [← HDA.out]
      by_cases hpar : n % 2 = 0
      · obtain ⟨R, HR⟩ : ∃ R, Hid (R = hashN I (n / 2) 33667 [X, Y]) := ⟨_, Lib.hid rfl⟩
        have HRL : Hid (R.length = 32) := Lib.hid (by rw [HR.out]; exact sha_length _)
        have HF2 : Hid (climb I (H - (j + 1)) ((P + Q) / 2 ^ (j + 1)) R (b'.drop 32) = F) := Lib.hid (by
          rw [← Hn2.out, HR.out, HY.out, show H - (j + 1) = d by omega, ← HFj.out, hd, climb, if_pos hpar])
        have HH : Hid (∀ mv w', Rows w' mv [X, Y] → Calls Try.prog 35 #[.agg (TreeV I S k H).toArray, .int .i64 (n / 2 : Nat), .int .i64 33667, mv] w' fun e w'' => e = .returned (.agg (B8 R).toArray) ∧ Below w'.heap.size w' w'') := Lib.hid (fun mv w' h => by
          rw [HR.out]; exact HA.out (n / 2) mv [X, Y] w' (by omega) (by simp [HXl.out, HYL.out]) h)
        have IR : Hid ((Try.prog.info? 23).map (·.size) = some (B8 R).toArray.size) := Lib.hid (by rw [info_32]; simp [B8_length, HRL.out])
        have AR : Hid (Array.size (B8 R).toArray = 32) := Lib.hid (by simp [B8_length, HRL.out])
        have HROW := Lib.hid (HROWS.out R)
        have hpi : (n : Int) % 2 = 0 := by omega
        clear HR HY HCS HA HFj HROWS HDA
        go_upto_region 7 with (fail)
        clear hpi hpar
        try simp only [Act.put]
        refine Wild.region_tail_b 7 (fun k => match k with | 5 => some (.rows [X, Y]) | 6 => some (.fix (.agg (B8 R).toArray)) | _ => none) (fun k => match k with | 6 => [5] | _ => []) rfl rfl rfl (by kernel_rfl) (by kernel_rfl) (by kernel_rfl) (fun vs hvs => ?_)
        have h6 : vs 6 = .agg (B8 R).toArray := hvs 6 _ rfl
        simp only [List.take_succ_cons, List.take_zero]
        refine Wild.walk_load 25 _ _ _ (TreeV I S k H) _ rfl (by rfl) rfl rfl (fun w' hw => rangeAt_blw (rangeAt_row HT4.out) hw.1) Try.underlying25 rfl ITL.out ?_
        simp only [Act.put, List.setIfInBounds_toArray, List.set_cons_zero, List.set_cons_succ]
        repeat (refine Wild.walk_simple rfl (by rfl) (by rfl) (fun K hK => ?_); go_big_quiet_op; first | (refine hK _ ?_; clear hK K) | (refine ⟨_, fun _ _ => rfl, hK _ ?_⟩; clear hK K))
        refine Wild.walk_wild _ rfl (by rfl) (fun w' hw K hK => ?_) ?_
        · have s1 : Sl w' (.slice (some ⟨w.heap.size + 1, 0, none⟩) 32 32) X := Sl.ofBlock ((hw.1.block _ (Array.getElem?_eq_some_iff.1 HX4.out).1).trans HX4.out) HXl.out.symm (Nat.le_refl _) (by simp [maxLen]) fun i hi => by rw [Nat.zero_add, List.getElem?_toArray]
          have s2 : Sl w' (.slice (some ⟨yb, 0, none⟩) 32 32) Y := Sl.ofBlock ((hw.1.block _ (Array.getElem?_eq_some_iff.1 HY4.out).1).trans HY4.out) HYL.out.symm (Nat.le_refl _) (by simp [maxLen]) fun i hi => by rw [Nat.zero_add, List.getElem?_toArray]
          go_simp
          exact hK.out (.slice (some ⟨w'.heap.size, 0, none⟩) 2 2) _ (hw.1.alloc hw.1.size _) ((Below.refl _ _).alloc (Nat.le_refl _) _) trivial (Rows.two _ s1 s2)
        simp only [Act.put, List.setIfInBounds_toArray, List.set_cons_zero, List.set_cons_succ]
        refine Wild.walk_wild _ rfl (by rfl) (fun w' hw K hK => ?_) ?_
        · go_simp
          go_at_call 35
          refine (HH.out _ w' (hw.2 5 (by simp [Wild.tab]) rfl)).mono ?_
          rintro e w'' ⟨rfl, hb⟩
          exact hK.out _ _ (hw.1.trans (hb.mono hw.1.size)) hb rfl trivial
        rw [h6]
        simp only [Act.put, List.setIfInBounds_toArray, List.set_cons_zero, List.set_cons_succ]
        refine Wild.walk_nil ?_
        intro w7 hw7 _
        obtain ⟨HX7, HT7, HZ7, HB7⟩ := HROW.out w7 hw7
        refine wp_store_row 23 _ _ rfl _ (B8 R).toArray rfl rfl 23 _ HX7.out (arr32 HRL.out).1 (by simp [B8_length, HRL.out, HXl.out]) (B8_oneA R) ?_
        have HX8 := Lib.hid (setRow_heap w7 (w.heap.size + 1) _ (B8 R).toArray _ _ HX7.out)
        generalize w7.setRow (w.heap.size + 1) (B8 R).toArray = w8 at *
        clear h6 hvs hw7
        go_wp2_with fail
        go_roundw
        case rel => exact ⟨j + 1, R, b'.drop 32, by omega, by rw [← Hn2.out]; go_num, HDR, HDL, HRL, HX8, HF2, HT7, HZ7, HB7⟩
        case measure => simp [intOf]; omega
      · obtain ⟨R, HR⟩ : ∃ R, Hid (R = hashN I (n / 2) 33667 [Y, X]) := ⟨_, Lib.hid rfl⟩
        have HRL : Hid (R.length = 32) := Lib.hid (by rw [HR.out]; exact sha_length _)
        have HF2 : Hid (climb I (H - (j + 1)) ((P + Q) / 2 ^ (j + 1)) R (b'.drop 32) = F) := Lib.hid (by
          rw [← Hn2.out, HR.out, HY.out, show H - (j + 1) = d by omega, ← HFj.out, hd, climb, if_neg hpar])
        have HH : Hid (∀ mv w', Rows w' mv [Y, X] → Calls Try.prog 35 #[.agg (TreeV I S k H).toArray, .int .i64 (n / 2 : Nat), .int .i64 33667, mv] w' fun e w'' => e = .returned (.agg (B8 R).toArray) ∧ Below w'.heap.size w' w'') := Lib.hid (fun mv w' h => by
          rw [HR.out]; exact HA.out (n / 2) mv [Y, X] w' (by omega) (by simp [HXl.out, HYL.out]) h)
        have IR : Hid ((Try.prog.info? 23).map (·.size) = some (B8 R).toArray.size) := Lib.hid (by rw [info_32]; simp [B8_length, HRL.out])
        have AR : Hid (Array.size (B8 R).toArray = 32) := Lib.hid (by simp [B8_length, HRL.out])
        have HROW := Lib.hid (HROWS.out R)
        have hpi : (n : Int) % 2 = 1 := by omega
        clear HR HY HCS HA HFj HROWS HDA
        go_upto_region 8 with (fail)
        clear hpi hpar
        try simp only [Act.put]
        refine Wild.region_tail_b 7 (fun k => match k with | 5 => some (.rows [Y, X]) | 6 => some (.fix (.agg (B8 R).toArray)) | _ => none) (fun k => match k with | 6 => [5] | _ => []) rfl rfl rfl (by kernel_rfl) (by kernel_rfl) (by kernel_rfl) (fun vs hvs => ?_)
        have h6 : vs 6 = .agg (B8 R).toArray := hvs 6 _ rfl
        simp only [List.take_succ_cons, List.take_zero]
        refine Wild.walk_load 25 _ _ _ (TreeV I S k H) _ rfl (by rfl) rfl rfl (fun w' hw => rangeAt_blw (rangeAt_row HT4.out) hw.1) Try.underlying25 rfl ITL.out ?_
        simp only [Act.put, List.setIfInBounds_toArray, List.set_cons_zero, List.set_cons_succ]
        repeat (refine Wild.walk_simple rfl (by rfl) (by rfl) (fun K hK => ?_); go_big_quiet_op; first | (refine hK _ ?_; clear hK K) | (refine ⟨_, fun _ _ => rfl, hK _ ?_⟩; clear hK K))
        refine Wild.walk_wild _ rfl (by rfl) (fun w' hw K hK => ?_) ?_
        · have s1 : Sl w' (.slice (some ⟨w.heap.size + 1, 0, none⟩) 32 32) X := Sl.ofBlock ((hw.1.block _ (Array.getElem?_eq_some_iff.1 HX4.out).1).trans HX4.out) HXl.out.symm (Nat.le_refl _) (by simp [maxLen]) fun i hi => by rw [Nat.zero_add, List.getElem?_toArray]
          have s2 : Sl w' (.slice (some ⟨yb, 0, none⟩) 32 32) Y := Sl.ofBlock ((hw.1.block _ (Array.getElem?_eq_some_iff.1 HY4.out).1).trans HY4.out) HYL.out.symm (Nat.le_refl _) (by simp [maxLen]) fun i hi => by rw [Nat.zero_add, List.getElem?_toArray]
          go_simp
          exact hK.out (.slice (some ⟨w'.heap.size, 0, none⟩) 2 2) _ (hw.1.alloc hw.1.size _) ((Below.refl _ _).alloc (Nat.le_refl _) _) trivial (Rows.two _ s2 s1)
        simp only [Act.put, List.setIfInBounds_toArray, List.set_cons_zero, List.set_cons_succ]
        refine Wild.walk_wild _ rfl (by rfl) (fun w' hw K hK => ?_) ?_
        · go_simp
          go_at_call 35
          refine (HH.out _ w' (hw.2 5 (by simp [Wild.tab]) rfl)).mono ?_
          rintro e w'' ⟨rfl, hb⟩
          exact hK.out _ _ (hw.1.trans (hb.mono hw.1.size)) hb rfl trivial
        rw [h6]
        simp only [Act.put, List.setIfInBounds_toArray, List.set_cons_zero, List.set_cons_succ]
        refine Wild.walk_nil ?_
        intro w7 hw7 _
        obtain ⟨HX7, HT7, HZ7, HB7⟩ := HROW.out w7 hw7
        refine wp_store_row 23 _ _ rfl _ (B8 R).toArray rfl rfl 23 _ HX7.out (arr32 HRL.out).1 (by simp [B8_length, HRL.out, HXl.out]) (B8_oneA R) ?_
        have HX8 := Lib.hid (setRow_heap w7 (w.heap.size + 1) _ (B8 R).toArray _ _ HX7.out)
        generalize w7.setRow (w.heap.size + 1) (B8 R).toArray = w8 at *
        clear h6 hvs hw7
        go_wp2_with fail
        go_roundw
        case rel => exact ⟨j + 1, R, b'.drop 32, by omega, by rw [← Hn2.out]; go_num, HDR, HDL, HRL, HX8, HF2, HT7, HZ7, HB7⟩
        case measure => simp [intOf]; omega
    · obtain rfl : j = H := by omega
      have hn1 : n = 1 := by
        rw [Hn.out, ← HP.out]
        exact Nat.div_eq_of_lt_le (by omega) (by omega)
      subst hn1
      rw [Nat.sub_self, climb] at HFj
      have HXF : Hid (wr.heap[w.heap.size + 1]? = some (.cells (B8 F).toArray 23 (0, 0))) := Lib.hid (by rw [← HFj.out]; exact HXc.out)
      have HZF := Lib.hid (setRow_heap wr (w.heap.size + 2) _ (B8 F).toArray _ _ HZj.out)
      have HBF := Lib.hid (below_row HBj.out (show w.heap.size ≤ w.heap.size + 2 by omega) (B8 F).toArray)
      have IF : Hid ((Try.prog.info? 23).map (·.size) = some (B8 F).toArray.size) := Lib.hid (arr32 HFL.out).1
      go_wp2_with (first
        | ((with_reducible refine at_load 23 _ rfl ?_); refine wpList_load_row rfl 23 _ rfl _ rfl _ (B8 F).toArray (0, 0) _ HXF.out Try.underlying23 rfl IF.out ?_)
        | ((with_reducible refine at_store 23 _ _ rfl ?_); refine wpList_store_row rfl 23 _ _ rfl _ (B8 F).toArray rfl rfl 23 _ HZj.out IF.out (arr32 HFL.out).2 (B8_oneA F) ?_))
      exact bodyPost_ret (results_cell_row rfl _ _ (w.heap.size + 2) 23 _ (0, 0) _ rfl HZF.out Try.underlying23 rfl IF.out) rfl ⟨rfl, HBF.out⟩
end Go.Proofs.Ytcnelahmbfggcaa

/- The walk of lms's open. -/
namespace Go.Proofs.Ytcnelahmbfggcaa
open Go Go.RowKit
set_option maxRecDepth 100000
set_option maxHeartbeats 2000000
attribute [local irreducible] Wild.walk WildF.walk

theorem built_tree (parts : List (Nat × Value)) : Try.prog.built 25 parts = Instr.fill ([(0, 16), (16, 32), (48, 1), (49, 1)].toArray[·]?) (TreeV zero16 zero32 0 0).toArray parts := by kernel_rfl
theorem tree_built0 : Try.prog.built 25 [] = some (TreeV zero16 zero32 0 0).toArray := by rw [built_tree]; rfl
theorem tree_built (I : List UInt8) (hI : I.length = 16) : Try.prog.built 25 [(0, .agg (B8 I).toArray)] = some (TreeV I zero32 0 0).toArray := by
  rw [built_tree]
  exact fill_step ([(0, 16), (16, 32), (48, 1), (49, 1)].toArray[·]?) [] (B8 zero16) (B8 I) (B8 zero32 ++ [.int .i64 0, .int .i64 0]) 0 (.agg (B8 I).toArray) [] (by rw [B8_length, hI]; rfl) rfl (by rw [B8_length, B8_length, hI]; rfl)
theorem TreeV_setH (I S : List UInt8) (k h h' : Int) (hI : I.length = 16) (hS : S.length = 32) : (TreeV I S k h).toArray.setIfInBounds 49 (.int .i64 h') = (TreeV I S k h').toArray := by
  rw [List.setIfInBounds_toArray]
  congr 1
  rw [TreeV, TreeV, List.set_append_right _ _ (by rw [B8_length]; omega), B8_length, hI, List.set_append_right _ _ (by rw [B8_length]; omega), B8_length, hS]
  rfl
theorem TreeV_setW (I S : List UInt8) (k h k' : Int) (hI : I.length = 16) (hS : S.length = 32) : (TreeV I S k h).toArray.setIfInBounds 48 (.int .i64 k') = (TreeV I S k' h).toArray := by
  rw [List.setIfInBounds_toArray]
  congr 1
  rw [TreeV, TreeV, List.set_append_right _ _ (by rw [B8_length]; omega), B8_length, hI, List.set_append_right _ _ (by rw [B8_length]; omega), B8_length, hS]
  rfl
theorem tree_setH {t : TypeId} {w : World} {b : Nat} {I S : List UInt8} {k h : Int} (hr : w.heap[b]? = some (.cells (TreeV I S k h).toArray t (0, 0))) (hI : I.length = 16) (hS : S.length = 32) (h' : Int) :
    (w.setCell ⟨b, 49, none⟩ (.int .i64 h')).heap[b]? = some (.cells (TreeV I S k h').toArray t (0, 0)) := by
  rw [heap_setCell_same w b 49 _ _ _ hr, TreeV_setH _ _ _ _ _ hI hS]
theorem tree_setW {t : TypeId} {w : World} {b : Nat} {I S : List UInt8} {k h : Int} (hr : w.heap[b]? = some (.cells (TreeV I S k h).toArray t (0, 0))) (hI : I.length = 16) (hS : S.length = 32) (k' : Int) :
    (w.setCell ⟨b, 48, none⟩ (.int .i64 k')).heap[b]? = some (.cells (TreeV I S k' h).toArray t (0, 0)) := by
  rw [heap_setCell_same w b 48 _ _ _ hr, TreeV_setW _ _ _ _ _ hI hS]

theorem typeN_bd (z : Int) : 0 ≤ typeN z ∧ typeN z ≤ 4 := by
  rw [typeN]
  repeat' split
  all_goals exact ⟨by decide, by decide⟩

/-- a public key's parts -/
def p4 (p : List UInt8) : List UInt8 := p.take 4
def p8 (p : List UInt8) : List UInt8 := (p.drop 4).take 4
def pI (p : List UInt8) : List UInt8 := (p.drop 8).take 16
/-- the height among the first n that a public key's type tells; the width so -/
def oHn (p : List UInt8) : Nat → Nat
  | 0 => 0
  | n + 1 => if fourN (typedN (n + 1 : Nat)).toNat = p4 p then n + 1 else oHn p n
def oWn (p : List UInt8) : Nat → Nat
  | 0 => 0
  | n + 1 => if fourN (typeN (2 ^ n : Nat)).toNat = p8 p then 2 ^ n else oWn p n
theorem oHn_le (p : List UInt8) : ∀ n, oHn p n ≤ n
  | 0 => Nat.le_refl _
  | n + 1 => by rw [oHn]; have := oHn_le p n; split <;> omega
theorem oWn_le (p : List UInt8) : ∀ n, oWn p n ≤ 2 ^ n
  | 0 => Nat.zero_le _
  | n + 1 => by rw [oWn, Nat.pow_succ]; have := oWn_le p n; split <;> omega
def openI (p : List UInt8) : List UInt8 := if p.length = 56 then pI p else zero16
def openH (p : List UInt8) : Nat := if p.length = 56 then oHn p 5 else 0
def openW (p : List UInt8) : Nat := if p.length = 56 then oWn p 4 else 0
def openOk (p : List UInt8) : Bool := decide (p.length = 56) && mayT (openW p) (openH p)
theorem openI_length (p : List UInt8) : (openI p).length = 16 := by
  rw [openI]
  split
  · rw [pI, List.length_take, List.length_drop]; omega
  · rfl
theorem open_any (pv : Value) (p : List UInt8) (w : World) (hp : Sl w pv p) :
    Calls Try.prog 31 #[pv] w fun e w' => e = .returned (.tuple #[.agg (TreeV (openI p) zero32 (openW p) (openH p)).toArray, .bool (openOk p)]) ∧ Below w.heap.size w w' := by
  obtain ⟨V, HV, HB, HS1, HZ⟩ : ∃ V, Hid (V = w.alloc (.cells (TreeV zero16 zero32 0 0).toArray 25)) ∧ Hid (Below w.heap.size w V) ∧ Hid (V.heap.size = w.heap.size + 1) ∧ Hid (V.heap[w.heap.size]? = some (.cells (TreeV zero16 zero32 0 0).toArray 25 (0, 0))) :=
    ⟨_, Lib.hid rfl, Lib.hid ((Below.refl _ _).alloc (Nat.le_refl _) _), Lib.hid (by simp), Lib.hid (heap_alloc_new _ _)⟩
  obtain ⟨Z, HZe⟩ : ∃ Z, Hid (Z = (TreeV zero16 zero32 0 0).toArray) := ⟨_, Lib.hid rfl⟩
  have HB0 : Hid (Try.prog.built 25 [] = some Z) := Lib.hid (by rw [HZe.out]; exact tree_built0)
  have HIZ : Hid ((Try.prog.info? 25).map (·.size) = some Z.size) := Lib.hid (by rw [HZe.out, info_tree]; rfl)
  have HOZ : Hid (Z.all (·.oneCell') = true) := Lib.hid (by rw [HZe.out]; exact TreeV_one _ _ _ _)
  have HSZ : Hid (Z.size = 50) := Lib.hid (by rw [HZe.out]; rfl)
  rw [← HZe.out] at HZ HV
  obtain ⟨pa, pc, rfl⟩ := hp.shape
  have HP := Lib.hid (hp.later HB.out)
  have HPW := Lib.hid hp
  by_cases h56 : p.length = 56
  · have HL : Hid (openI p = pI p ∧ openW p = oWn p 4 ∧ openH p = oHn p 5 ∧ openOk p = mayT (openW p) (openH p)) := Lib.hid ⟨by rw [openI, if_pos h56], by rw [openW, if_pos h56], by rw [openH, if_pos h56], by rw [openOk, decide_eq_true h56, Bool.true_and]⟩
    rw [HL.out.2.2.2, HL.out.1, HL.out.2.1, HL.out.2.2.1]
    obtain ⟨pb, po, rfl, -, q1, q2, hcs⟩ := Sl.cells HP.out (by omega)
    have HCS := Lib.hid hcs
    obtain ⟨I, HI⟩ : ∃ I, Hid (I = pI p) := ⟨_, Lib.hid rfl⟩
    have HIL : Hid (I.length = 16) := Lib.hid (by rw [HI.out, pI, List.length_take, List.length_drop]; omega)
    have HIR : Hid (V.rangeAt pb (po + 8) (B8 I)) := Lib.hid (by have h := range_part hcs 8 16 (by omega); rw [HI.out]; exact h)
    have HI16 : Hid ((Try.prog.info? 22).map (·.size) = some (B8 I).length) := Lib.hid (by rw [info_16]; simp [B8_length, HIL.out])
    have HBT := Lib.hid (tree_built I HIL.out)
    have HIT : ∀ k h, Hid ((Try.prog.info? 25).map (·.size) = some (TreeV I zero32 k h).toArray.size) := fun k h => Lib.hid (by rw [info_tree, List.size_toArray, TreeV_length _ _ _ _ HIL.out rfl])
    have HIT0 := HIT 0 0
    have HITL' : ∀ k h, Hid ((Try.prog.info? 25).map (·.size) = some (TreeV I zero32 k h).length) := fun k h => Lib.hid (by rw [info_tree, TreeV_length _ _ _ _ HIL.out rfl])
    have HST : ∀ k h, Hid ((TreeV I zero32 k h).toArray.size = 50) := fun k h => Lib.hid (by rw [List.size_toArray, TreeV_length _ _ _ _ HIL.out rfl])
    obtain ⟨h, Hh⟩ : ∃ h : Nat, Hid (h = oHn p 5) := ⟨_, Lib.hid rfl⟩
    have Hh5 : Hid (h ≤ 5) := Lib.hid (by rw [Hh.out]; exact oHn_le p 5)
    obtain ⟨k, Hk⟩ : ∃ k : Nat, Hid (k = oWn p 4) := ⟨_, Lib.hid rfl⟩
    have Hk5 : Hid (k ≤ 16) := Lib.hid (by rw [Hk.out]; exact oWn_le p 4)
    have HMA := Lib.hid (fun w' => may_any I zero32 k h w' HIL.out rfl (by have := Hk5.out; omega))
    have HITL := HITL' k h
    clear HITL'
    rw [← HI.out, ← Hh.out, ← Hk.out]
    obtain ⟨ok, Hok⟩ : ∃ ok, Hid (ok = mayT k h) := ⟨_, Lib.hid rfl⟩
    rw [← Hok.out] at HMA ⊢
    rw [h56] at q1 HPW ⊢
    clear hcs HI hp HB0
    go_enter Try.func31, Try.ntmps31
    go_upto_region 1 with (fail)
    change Code.wp _ _ _ _ (w.alloc (.cells (TreeV zero16 zero32 0 0).toArray 25))
    rw [← HZe.out, ← HV.out]
    go_upto_region 4 with (first
      | (rw [run_arrayAt V 22 5 16 _ _ _ Try.underlying22 (by omega)])
      | ((with_reducible refine at_load 22 _ rfl ?_); refine wpList_load_mid rfl 22 _ rfl pb (po + 8) rfl (B8 I) _ HIR.out Try.underlying22 rfl HI16.out ?_)
      | (with_reducible refine at_build 25 _ rfl ?_; refine wpList_built rfl 25 [(0, .tmp 16)] rfl [(0, .agg (B8 I).toArray)] rfl _ HBT.out ?_)
      | ((with_reducible refine at_store 25 _ _ rfl ?_); refine wpList_store_new rfl 25 _ _ rfl (TreeV I zero32 0 0).toArray rfl rfl 25 _ HIT0.out (by rw [(HST 0 0).out]; rfl) (TreeV_one _ _ _ _) ?_))
    obtain ⟨V2, HV2, HB2, HR2, HZ2⟩ : ∃ W, Hid (W = V.alloc (.cells (TreeV I zero32 0 0).toArray 25)) ∧ Hid (Below w.heap.size w W) ∧ Hid (W.heap[w.heap.size + 1]? = some (.cells (TreeV I zero32 0 0).toArray 25 (0, 0))) ∧ Hid (W.heap[w.heap.size]? = some (.cells Z 25 (0, 0))) :=
      ⟨_, Lib.hid rfl, Lib.hid (HB.out.alloc HB.out.size _), Lib.hid (by rw [← HS1.out]; exact heap_alloc_new _ _), Lib.hid ((heap_alloc_old _ _ (by rw [HS1.out]; omega)).trans HZ.out)⟩
    rw [← HV2.out, HS1.out]
    have HG1 : Hid (Sl w (.slice (some ⟨pb, po, none⟩) 4 pc) (p4 p)) := Lib.hid (by
      obtain ⟨pb', po', e, -, -, -, hcs'⟩ := Sl.cells HPW.out (by omega)
      injection e with e
      injection e with e1 e2
      subst e1
      subst e2
      have h := Sl.part hcs' 0 4 pc (by omega) (by omega) (by omega)
      rw [p4]; simpa using h)
    have HG2 : Hid (Sl w (.slice (some ⟨pb, po + 4, none⟩) 4 (pc - 4)) (p8 p)) := Lib.hid (by
      obtain ⟨pb', po', e, -, -, -, hcs'⟩ := Sl.cells HPW.out (by omega)
      injection e with e
      injection e with e1 e2
      subst e1
      subst e2
      have h := Sl.part hcs' 4 4 (pc - 4) (by omega) (by omega) (by omega)
      rw [p8]; exact h)
    obtain ⟨G, HG⟩ : ∃ G, Hid (G = p4 p) := ⟨_, Lib.hid rfl⟩
    obtain ⟨G8, HG8⟩ : ∃ G, Hid (G = p8 p) := ⟨_, Lib.hid rfl⟩
    rw [← HG.out] at HG1
    rw [← HG8.out] at HG2
    clear HV2 HV HIR HCS HP HIT0 HBT
    go_upto_region 5 with (fail)
    go_loopw [5] (fun rv wr => ∃ j J : Nat, j ≤ 5 ∧ rv = .int .i64 J ∧ Hid (J = j + 1) ∧ Hid (wr.heap[w.heap.size + 1]? = some (.cells (TreeV I zero32 0 (oHn p j)).toArray 25 (0, 0))) ∧ Hid (wr.heap[w.heap.size]? = some (.cells Z 25 (0, 0))) ∧ Hid (Below w.heap.size w wr)) (fun rv _ => 7 - (intOf rv).toNat)
    case atStart => exact ⟨0, 1, by omega, rfl, Lib.hid rfl, HR2, HZ2, HB2⟩
    case round =>
      obtain ⟨j, J, hj, rfl, HJ, HTj, HZj, HBj⟩ := hrel
      have hJ := HJ.out
      by_cases hlt : j < 5
      · have hlt5 : decide ((J : Int) ≤ 5) = true := decide_eq_true (by omega)
        have htd0 : 0 ≤ typedN J ∧ typedN J ≤ 105 := by rw [typedN]; split <;> omega
        obtain ⟨td, htd⟩ : ∃ td : Nat, typedN J = td := ⟨(typedN J).toNat, by omega⟩
        have HTD := Lib.hid (fun w' => typed_any J w' (by omega))
        have HF1 := Lib.hid (fun w' => four_lms td w' (by omega))
        rw [htd] at HTD
        obtain ⟨T4, HT4⟩ : ∃ T, Hid (T = fourN td) := ⟨_, Lib.hid rfl⟩
        have HT4L : Hid (T4.length = 4) := Lib.hid (by rw [HT4.out]; rfl)
        simp only [← HT4.out] at HF1
        have HON : Hid (oHn p (j + 1) = if T4 = G then J else oHn p j) := Lib.hid (by rw [oHn, ← hJ, htd, Int.toNat_natCast, ← HT4.out, ← HG.out])
        have hJ5 : J ≤ 5 := by omega
        clear htd htd0 hlt hJ hj
        go_upto_region 7 with (fail)
        try simp only [hlt5]
        clear hlt5
        try simp only [Act.put]
        refine Wild.region_b (fun k => match k with | 1 => some (.fix (.int .i64 td)) | 2 => some (.shut T4) | _ => none) (fun k => match k with | 3 => [2] | _ => []) rfl (by kernel_rfl) (fun vs hvs => ?_)
        have h1 : vs 1 = .int .i64 td := hvs 1 _ rfl
        obtain ⟨a2, h2⟩ := hvs 2 _ rfl
        refine Wild.walk_simple rfl (by rfl) (by rfl) (fun K hK => ?_); go_big_quiet_op; first | (refine hK _ ?_; clear hK K) | (refine ⟨_, fun _ _ => rfl, hK _ ?_⟩; clear hK K)
        refine Wild.walk_wild _ rfl (by rfl) (fun w' hw K hK => ?_) ?_
        · go_simp
          go_at_call 28
          refine (HTD.out w').mono ?_
          rintro e w'' ⟨rfl, rfl⟩
          exact hK.out _ _ hw.1 (Below.refl _ _) rfl trivial
        rw [h1]
        simp only [Act.put, List.setIfInBounds_toArray, List.set_cons_zero, List.set_cons_succ]
        refine Wild.walk_wild _ rfl (by rfl) (fun w' hw K hK => ?_) ?_
        · go_simp
          go_at_call 27
          refine (HF1.out w').mono ?_
          rintro e w'' ⟨a, rfl, s, hb⟩
          rw [← HT4L.out] at s
          rw [← HT4L.out]
          exact hK.out _ _ (hw.1.trans (hb.mono hw.1.size)) hb ⟨a, rfl⟩ s
        rw [h2]
        simp only [Act.put, List.setIfInBounds_toArray, List.set_cons_zero, List.set_cons_succ]
        refine Wild.walk_run (.string ⟨T4.toArray⟩) rfl (by rfl) (fun w' hw => ?_) ?_
        · have h : Sl w' (vs 2) T4 := hw.2 2 (by simp [Wild.tab]) rfl
          rw [h2] at h
          have := h.conv
          go_simp
        simp only [Act.put, List.setIfInBounds_toArray, List.set_cons_zero, List.set_cons_succ]
        refine Wild.walk_simple rfl (by rfl) (by rfl) (fun K hK => ?_); go_big_quiet_op; first | (refine hK _ ?_; clear hK K) | (refine ⟨_, fun _ _ => rfl, hK _ ?_⟩; clear hK K)
        refine Wild.walk_simple rfl (by rfl) (by rfl) (fun K hK => ?_); go_big_quiet_op; first | (refine hK _ ?_; clear hK K) | (refine ⟨_, fun _ _ => rfl, hK _ ?_⟩; clear hK K)
        refine Wild.walk_run (.string ⟨G.toArray⟩) rfl (by rfl) (fun w' hw => ?_) ?_
        · have h : Sl w' (.slice (some ⟨pb, po, none⟩) 4 pc) G := HG1.out.later (HBj.out.trans (Below.mono hw.1 HBj.out.size))
          have := h.conv
          go_simp
        simp only [Act.put, List.setIfInBounds_toArray, List.set_cons_zero, List.set_cons_succ]
        refine Wild.walk_simple rfl (by rfl) (by rfl) (fun K hK => ?_); go_big_quiet_op; first | (refine hK _ ?_; clear hK K) | (refine ⟨_, fun _ _ => rfl, hK _ ?_⟩; clear hK K)
        refine Wild.walk_nil ?_
        intro w5 hw5 _
        have HB5 : Hid (Below wr.heap.size wr w5) := Lib.hid hw5
        have HB6 : Hid (Below w.heap.size w w5) := Lib.hid (HBj.out.trans (Below.mono hw5 HBj.out.size))
        have HT5 := Lib.hid ((HB5.out.block _ (Array.getElem?_eq_some_iff.1 HTj.out).1).trans HTj.out)
        have HZ5 := Lib.hid ((HB5.out.block _ (Array.getElem?_eq_some_iff.1 HZj.out).1).trans HZj.out)
        generalize vs (0 + 1 + 1) = y2
        clear hw5 h1 h2 hvs
        cases hq : (T4 == G)
        · have HON' : Hid (oHn p (j + 1) = oHn p j) := Lib.hid (by rw [HON.out, if_neg (by simpa using hq)])
          clear hq
          go_upto_region 5 with (fail)
          refine ⟨⟨j + 1, J + 1, by have := HJ.out; omega, rfl, Lib.hid (by rw [HJ.out]), Lib.hid (by rw [HON'.out]; exact HT5.out), HZ5, HB6⟩, ?_⟩
          simp [intOf]; omega
        · have HON' : Hid (oHn p (j + 1) = J) := Lib.hid (by rw [HON.out, if_pos (by simpa using hq)])
          clear hq
          have kc := tree_H HT5.out HIL.out rfl
          have kf := frozen_of_row w5 (w.heap.size + 1) 49 _ _ HT5.out
          have HT6 := Lib.hid (tree_setH HT5.out HIL.out rfl (J : Int))
          have HZ6 : Hid ((w5.setCell ⟨w.heap.size + 1, 49, none⟩ (.int .i64 J)).heap[w.heap.size]? = some (.cells Z 25 (0, 0))) := Lib.hid ((heap_setCell_other _ _ _ _ (by simp)).trans HZ5.out)
          have HB7 : Hid (Below w.heap.size w (w5.setCell ⟨w.heap.size + 1, 49, none⟩ (.int .i64 J))) := Lib.hid (HB6.out.setCell (by simp) _)
          go_upto_region 5 with (fail)
          refine ⟨⟨j + 1, J + 1, by have := HJ.out; omega, rfl, Lib.hid (by rw [HJ.out]), Lib.hid (by rw [HON'.out]; exact HT6.out), HZ6, HB7⟩, ?_⟩
          simp [intOf]; omega
      · obtain rfl : j = 5 := by omega
        obtain rfl : J = 6 := hJ
        clear hlt hj HJ HB HS1 HB2 HZ2 HR2
        go_upto_region 10 with (fail)
        rw [← Hh.out] at HTj
        try simp only [show ((6 : Nat) : Int) = 6 from rfl]
        go_loopw [6] (fun rv wr => ∃ j J : Nat, j ≤ 4 ∧ rv = .int .i64 J ∧ Hid (J = 2 ^ j) ∧ Hid (wr.heap[w.heap.size + 1]? = some (.cells (TreeV I zero32 (oWn p j) h).toArray 25 (0, 0))) ∧ Hid (wr.heap[w.heap.size]? = some (.cells Z 25 (0, 0))) ∧ Hid (Below w.heap.size w wr)) (fun rv _ => 32 - (intOf rv).toNat)
        case atStart => exact ⟨0, 1, by omega, rfl, Lib.hid rfl, HTj, HZj, HBj⟩
        case round =>
          clear HTj HZj HBj
          obtain ⟨j, J, hj, rfl, HJ, HTj, HZj, HBj⟩ := hrel
          have hJ := HJ.out
          by_cases hlt : j < 4
          · have hJ8 : J ≤ 8 := by rw [hJ]; exact Nat.pow_le_pow_right (n := 2) (by decide) (show j ≤ 3 by omega)
            have hlt5 : decide ((J : Int) ≤ 8) = true := decide_eq_true (by omega)
            have htd0 := typeN_bd J
            obtain ⟨td, htd⟩ : ∃ td : Nat, typeN J = td := ⟨(typeN J).toNat, by omega⟩
            have htd4 : td ≤ 4 := by omega
            have HTY := Lib.hid (fun w' => Type_any J w' (wf_i64 (by omega)))
            have HF1 := Lib.hid (fun w' => four_lms td w' (by omega))
            rw [htd] at HTY
            obtain ⟨er, her⟩ : ∃ er, er = errW J := ⟨_, rfl⟩
            rw [← her] at HTY
            obtain ⟨T4, HT4⟩ : ∃ T, Hid (T = fourN td) := ⟨_, Lib.hid rfl⟩
            have HT4L : Hid (T4.length = 4) := Lib.hid (by rw [HT4.out]; rfl)
            simp only [← HT4.out] at HF1
            have HON : Hid (oWn p (j + 1) = if T4 = G8 then J else oWn p j) := Lib.hid (by rw [oWn, ← hJ, htd, Int.toNat_natCast, ← HT4.out, ← HG8.out])
            have hj4 : j + 1 ≤ 4 := hlt
            have hJ1 : 1 ≤ J := by rw [hJ]; exact Nat.pow_pos (by decide)
            have ewt : wrap64 (td : Int) = td := by unfold wrap64; omega
            clear htd htd0 hlt hJ hj her htd4
            go_upto_region 13 with (first
              | (go_at_call 30; refine (HTY.out wr).mono ?_; rintro e w3 ⟨rfl, b3⟩; have HB3 := Lib.hid b3; clear b3))
            try simp only [hlt5]
            clear hlt5
            try simp only [Act.put]
            refine Wild.region_b (fun k => match k with | 2 => some (.shut T4) | _ => none) (fun k => match k with | 3 => [2] | _ => []) rfl (by kernel_rfl) (fun vs hvs => ?_)
            obtain ⟨a2, h2⟩ := hvs 2 _ rfl
            refine Wild.walk_simple rfl (by rfl) (by rfl) (fun K hK => ?_); go_big_quiet_op; first | (refine hK _ ?_; clear hK K) | (refine ⟨_, fun _ _ => rfl, hK _ ?_⟩; clear hK K)
            refine Wild.walk_simple rfl (by rfl) (by rfl) (fun K hK => ?_); go_big_quiet_op; first | (refine hK _ ?_; clear hK K) | (refine ⟨_, fun _ _ => rfl, hK _ ?_⟩; clear hK K)
            try simp only [ewt]
            refine Wild.walk_wild _ rfl (by rfl) (fun w' hw K hK => ?_) ?_
            · go_simp
              go_at_call 27
              refine (HF1.out w').mono ?_
              rintro e w'' ⟨a, rfl, s, hb⟩
              rw [← HT4L.out] at s
              rw [← HT4L.out]
              exact hK.out _ _ (hw.1.trans (hb.mono hw.1.size)) hb ⟨a, rfl⟩ s
            rw [h2]
            simp only [Act.put, List.setIfInBounds_toArray, List.set_cons_zero, List.set_cons_succ]
            refine Wild.walk_run (.string ⟨T4.toArray⟩) rfl (by rfl) (fun w' hw => ?_) ?_
            · have h : Sl w' (vs 2) T4 := hw.2 2 (by simp [Wild.tab]) rfl
              rw [h2] at h
              have := h.conv
              go_simp
            simp only [Act.put, List.setIfInBounds_toArray, List.set_cons_zero, List.set_cons_succ]
            refine Wild.walk_simple rfl (by rfl) (by rfl) (fun K hK => ?_); go_big_quiet_op; first | (refine hK _ ?_; clear hK K) | (refine ⟨_, fun _ _ => rfl, hK _ ?_⟩; clear hK K)
            refine Wild.walk_simple rfl (by rfl) (by rfl) (fun K hK => ?_); go_big_quiet_op; first | (refine hK _ ?_; clear hK K) | (refine ⟨_, fun _ _ => rfl, hK _ ?_⟩; clear hK K)
            refine Wild.walk_run (.string ⟨G8.toArray⟩) rfl (by rfl) (fun w' hw => ?_) ?_
            · have h : Sl w' (.slice (some ⟨pb, po + 4, none⟩) 4 (pc - 4)) G8 := HG2.out.later ((HBj.out.trans (HB3.out.mono HBj.out.size)).trans (Below.mono hw.1 (HBj.out.trans (HB3.out.mono HBj.out.size)).size))
              have := h.conv
              go_simp
            simp only [Act.put, List.setIfInBounds_toArray, List.set_cons_zero, List.set_cons_succ]
            refine Wild.walk_simple rfl (by rfl) (by rfl) (fun K hK => ?_); go_big_quiet_op; first | (refine hK _ ?_; clear hK K) | (refine ⟨_, fun _ _ => rfl, hK _ ?_⟩; clear hK K)
            refine Wild.walk_nil ?_
            intro w5 hw5 _
            have HB5 : Hid (Below wr.heap.size wr w5) := Lib.hid (HB3.out.trans (Below.mono hw5 HB3.out.size))
            have HB6 : Hid (Below w.heap.size w w5) := Lib.hid (HBj.out.trans (HB5.out.mono HBj.out.size))
            have HT5 := Lib.hid ((HB5.out.block _ (Array.getElem?_eq_some_iff.1 HTj.out).1).trans HTj.out)
            have HZ5 := Lib.hid ((HB5.out.block _ (Array.getElem?_eq_some_iff.1 HZj.out).1).trans HZj.out)
            generalize vs (0 + 1 + 1) = y2
            clear hw5 h2 hvs
            cases hq : (T4 == G8)
            · have HON' : Hid (oWn p (j + 1) = oWn p j) := Lib.hid (by rw [HON.out, if_neg (by simpa using hq)])
              clear hq
              go_wp2_with fail
              go_roundw
              case rel => exact ⟨j + 1, J * 2, hj4, by go_num, Lib.hid (by rw [HJ.out, Nat.pow_succ]), Lib.hid (by rw [HON'.out]; exact HT5.out), HZ5, HB6⟩
              case measure => simp [intOf]; omega
            · have HON' : Hid (oWn p (j + 1) = J) := Lib.hid (by rw [HON.out, if_pos (by simpa using hq)])
              clear hq
              have kc := tree_W HT5.out HIL.out rfl
              have kf := frozen_of_row w5 (w.heap.size + 1) 48 _ _ HT5.out
              have HT6 := Lib.hid (tree_setW HT5.out HIL.out rfl (J : Int))
              have HZ6 : Hid ((w5.setCell ⟨w.heap.size + 1, 48, none⟩ (.int .i64 J)).heap[w.heap.size]? = some (.cells Z 25 (0, 0))) := Lib.hid ((heap_setCell_other _ _ _ _ (by simp)).trans HZ5.out)
              have HB7 : Hid (Below w.heap.size w (w5.setCell ⟨w.heap.size + 1, 48, none⟩ (.int .i64 J))) := Lib.hid (HB6.out.setCell (by simp) _)
              go_wp2_with fail
              go_roundw
              case rel => exact ⟨j + 1, J * 2, hj4, by go_num, Lib.hid (by rw [HJ.out, Nat.pow_succ]), Lib.hid (by rw [HON'.out]; exact HT6.out), HZ6, HB7⟩
              case measure => simp [intOf]; omega
          · obtain rfl : j = 4 := by omega
            obtain rfl : J = 16 := hJ
            rw [← Hk.out] at HTj
            have hd : decide ((16 : Int) ≤ 8) = false := by decide
            clear hlt hj HJ hd
            go_upto_region 15 with (fail)
            try simp only [Act.put]
            refine Wild.region_tail2_b 3 (fun n => match n with | 2 => some (.fix (.bool ok)) | _ => none) (fun _ => []) rfl rfl rfl rfl rfl (by kernel_rfl) (by kernel_rfl) (by kernel_rfl) (by kernel_rfl) (fun vs hvs => ?_)
            have h2 : vs 2 = .bool ok := hvs 2 _ rfl
            simp only [List.take_succ_cons, List.take_zero]
            refine Wild.walk_load 25 _ _ _ (TreeV I zero32 k h) _ rfl (by rfl) rfl rfl (fun w' hw => rangeAt_blw (rangeAt_row HTj.out) hw.1) Try.underlying25 rfl HITL.out ?_
            simp only [Act.put, List.setIfInBounds_toArray, List.set_cons_zero, List.set_cons_succ]
            refine Wild.walk_load 25 _ _ _ (TreeV I zero32 k h) _ rfl (by rfl) rfl rfl (fun w' hw => rangeAt_blw (rangeAt_row HTj.out) hw.1) Try.underlying25 rfl HITL.out ?_
            simp only [Act.put, List.setIfInBounds_toArray, List.set_cons_zero, List.set_cons_succ]
            refine Wild.walk_wild _ rfl (by rfl) (fun w' hw K hK => ?_) ?_
            · go_simp
              go_at_call 23
              refine (HMA.out w').mono ?_
              rintro e w'' ⟨rfl, hb⟩
              exact hK.out _ _ (hw.1.trans (hb.mono hw.1.size)) hb rfl trivial
            rw [h2]
            simp only [Act.put, List.setIfInBounds_toArray, List.set_cons_zero, List.set_cons_succ]
            refine Wild.walk_nil ?_
            intro w7 hw7 _
            have HZ7 := Lib.hid ((Below.block hw7 _ (Array.getElem?_eq_some_iff.1 HZj.out).1).trans HZj.out)
            have HB7 : Hid (Below w.heap.size w w7) := Lib.hid (HBj.out.trans (Below.mono hw7 HBj.out.size))
            have HZ8 := Lib.hid (setRow_heap w7 w.heap.size _ (TreeV I zero32 k h).toArray _ _ HZ7.out)
            have HB8 := Lib.hid (below_row HB7.out (Nat.le_refl _) (TreeV I zero32 k h).toArray)
            clear hw7 h2 hvs
            refine wp_store_row 25 _ _ rfl _ (TreeV I zero32 k h).toArray rfl rfl 25 _ HZ7.out (HIT k h).out (by rw [HSZ.out, (HST k h).out]) (TreeV_one _ _ _ _) ?_
            go_wp2_with fail
            exact bodyPost_ret (results_cell_row_tmp rfl _ _ w.heap.size 25 _ (0, 0) _ rfl HZ8.out Try.underlying25 rfl (HIT k h).out) rfl ⟨rfl, HB8.out⟩
  · have HL : Hid (openI p = zero16 ∧ openW p = 0 ∧ openH p = 0 ∧ openOk p = false) := Lib.hid ⟨by rw [openI, if_neg h56], by rw [openW, if_neg h56], by rw [openH, if_neg h56], by rw [openOk, decide_eq_false h56]; rfl⟩
    rw [HL.out.2.2.2, HL.out.1, HL.out.2.1, HL.out.2.2.1]
    have hne : ¬ (p.length : Int) = 56 := by omega
    clear hp
    go_enter Try.func31, Try.ntmps31
    go_upto_region 1 with (fail)
    change Code.wp _ _ _ _ (w.alloc (.cells (TreeV zero16 zero32 0 0).toArray 25))
    rw [← HZe.out, ← HV.out]
    go_wp2_with (first
      | (with_reducible refine at_build 25 _ rfl ?_; refine wpList_built rfl 25 [] rfl [] rfl _ HB0.out ?_)
      | (with_reducible refine at_store 25 _ _ rfl ?_; refine wpList_store_same rfl 25 _ _ rfl _ Z rfl rfl 25 HZ.out HIZ.out HOZ.out ?_))
    exact bodyPost_ret (results_cell_row_tmp rfl _ _ w.heap.size 25 _ (0, 0) _ rfl HZ.out Try.underlying25 rfl HIZ.out) rfl ⟨by rw [HZe.out]; rfl, HB.out⟩
end Go.Proofs.Ytcnelahmbfggcaa

/- A region that draws its order: calls whose values do not hang on the world, and one store of a whole known row. No condition. -/
namespace Go.Proofs.Ytcnelahmbfggcaa
open Go Go.RowKit
set_option maxRecDepth 100000
namespace Wild

structure Ck (b : Nat) (t : TypeId) (Z V : Array Value) (w w' : World) : Prop where
  os : w'.os = w.os
  tape : w'.tape = w.tape
  output : w'.output = w.output
  size : w.heap.size ≤ w'.heap.size
  block : ∀ k, k < w.heap.size → k ≠ b → w'.heap[k]? = w.heap[k]?
  one : w'.heap[b]? = some (.cells Z t (0, 0)) ∨ w'.heap[b]? = some (.cells V t (0, 0))
def Gk (b : Nat) (t : TypeId) (V : Array Value) (w w' : World) : Prop := w.heap[b]? = some (.cells V t (0, 0)) → w'.heap[b]? = some (.cells V t (0, 0))
def spk (F : Nat → Option Value) (b : Nat) (t : TypeId) (V : Array Value) (si : Nat) : Spec where
  pure := fun k => match F k with | some v => some (· = v) | none => if k = si then some fun _ => True else none
  dflt := fun k => (F k).getD undef
  fact := fun k _ w => if k = si then w.heap[b]? = some (.cells V t (0, 0)) else True
  use := fun _ => []
variable {b : Nat} {t : TypeId} {Z V : Array Value} {w w' : World} {F : Nat → Option Value} {si : Nat}
theorem Ck.below (h : Ck b t Z V w w') (hb : b ≤ w.heap.size) : Below b w w' := ⟨h.os, h.tape, h.output, h.size, fun k hk => h.block k (by omega) (by omega)⟩
theorem Ck.set (h : Ck b t Z V w w') : Ck b t Z V w (w'.setRow b V) ∧ Gk b t V w' (w'.setRow b V) ∧ (w'.setRow b V).heap[b]? = some (.cells V t (0, 0)) := by
  have h1 : (w'.setRow b V).heap[b]? = some (.cells V t (0, 0)) := by
    rcases h.one with e | e <;> exact setRow_heap _ _ _ _ _ _ e
  exact ⟨⟨h.os, h.tape, h.output, by simpa using h.size, fun k hk k1 => (setRow_other _ _ _ _ k1).trans (h.block k hk k1), .inr h1⟩, fun _ => h1, h1⟩
theorem Ck.more {w2 : World} (h : Ck b t Z V w w') (hb : Below w'.heap.size w' w2) : Ck b t Z V w w2 ∧ Gk b t V w' w2 := by
  have key : ∀ c, w'.heap[b]? = some (.cells c t (0, 0)) → w2.heap[b]? = some (.cells c t (0, 0)) := fun c e => (hb.block b (Array.getElem?_eq_some_iff.1 e).1).trans e
  refine ⟨⟨hb.os.trans h.os, hb.tape.trans h.tape, hb.output.trans h.output, Nat.le_trans h.size hb.size, fun k hk k1 => (hb.block k (Nat.lt_of_lt_of_le hk h.size)).trans (h.block k hk k1), ?_⟩, key V⟩
  rcases h.one with e | e
  · exact .inl (key Z e)
  · exact .inr (key V e)
theorem spk_dflt : ∀ k p, (spk F b t V si).pure k = some p → p ((spk F b t V si).dflt k) := by
  intro k p h
  simp only [spk] at *
  cases e : F k with
  | some v => rw [e] at h; cases h; rfl
  | none =>
    rw [e] at h
    simp only at h
    split at h
    · cases h; trivial
    · cases h
theorem region_k {P : Program} {id : Nat} {Q : Exit → Act → World → Prop} {a : Act} {l : List Oper} (F : Nat → Option Value) (b : Nat) (t : TypeId) (Z V : Array Value) (si : Nat) (hsi : F si = none) (hl : si < l.length)
    (hz : w.heap[b]? = some (.cells Z t (0, 0))) (hm : P.follows .mixedOrders = true) (hB : okB l.toArray (fun _ => []) = true)
    (h : ∀ vs : Nat → Value, (∀ k v, F k = some v → vs k = v) → walk P l.toArray (Ck b t Z V w) (Gk b t V) (spk F b t V si) vs (fun a' => ∀ w', Ck b t Z V w w' → w'.heap[b]? = some (.cells V t (0, 0)) → Q .normal a' w') l 0 a) : (Code.region id l.toArray true).wp P Q a w :=
  region (spk F b t V si) (Ck b t Z V w) (Gk b t V) hm hB ⟨rfl, rfl, rfl, Nat.le_refl _, fun _ _ _ => rfl, .inl hz⟩
    (by
      intro k vs w w' hf hg
      simp only [spk] at *
      split
      · rename_i e; rw [if_pos e] at hf; exact hg hf
      · trivial)
    (fun k vs vs' w _ _ hf => hf)
    spk_dflt
    (fun vs hvs => by
      have h1 := h vs fun k v e => hvs k (· = v) (by simp [spk, e])
      have e : (fun a' : Act => ∀ w', Ck b t Z V w w' → (∀ m, ((spk F b t V si).pure m).isSome = true → m < l.length → (spk F b t V si).fact m vs w') → Q .normal a' w') = (fun a' : Act => ∀ w', Ck b t Z V w w' → w'.heap[b]? = some (.cells V t (0, 0)) → Q .normal a' w') := by
        funext a'
        apply propext
        constructor
        · intro h2 w' hc f1
          refine h2 w' hc fun m _ _ => ?_
          simp only [spk]
          split
          · exact f1
          · trivial
        · intro h2 w' hc hf
          have f1 := hf si (by simp [spk, hsi]) hl
          simp only [spk, if_true] at f1
          exact h2 w' hc f1
      rw [e]
      exact h1)
end Wild
end Go.Proofs.Ytcnelahmbfggcaa

/- That a tree's signature is right for its public key: plain, no program. -/
namespace Go.Proofs.Ytcnelahmbfggcaa
open Go
set_option maxRecDepth 100000
set_option maxHeartbeats 1000000

theorem xor_par : ∀ r : Nat, r < 64 → r ^^^ 1 = if r % 2 = 0 then r + 1 else r - 1 := by decide +kernel
theorem log2_eq (r d : Nat) (h1 : 2 ^ d ≤ r) (h2 : r < 2 ^ (d + 1)) : Nat.log2 r = d := by
  have h0 : r ≠ 0 := by have := Nat.pow_pos (n := d) (show 0 < 2 by decide); omega
  have a := (Nat.le_log2 h0).2 h1
  have b := (Nat.log2_lt h0).2 h2
  omega
theorem beside_head (I S : List UInt8) (k : Int) (H n : Nat) : ∀ j, besideN I S k H n (j + 1) = knotV I S k H (n ^^^ 1) ++ besideN I S k H (n / 2) j
  | 0 => by rw [besideN, besideN, besideN, Nat.pow_zero, Nat.div_one, List.nil_append, List.append_nil]
  | j + 1 => by
    rw [besideN, beside_head I S k H n j, besideN, List.append_assoc, Nat.div_div_eq_div_mul, Nat.pow_succ, Nat.mul_comm (2 ^ j) 2]
theorem knot_pair (I S : List UInt8) (k : Int) (H r d : Nat) (h1 : 2 ^ (d + 1) ≤ r) (h2 : r < 2 ^ (d + 1 + 1)) (hd : d + 1 ≤ H) (hr : r < 64) :
    hashN I (r / 2) 33667 (if r % 2 = 0 then [knotV I S k H r, knotV I S k H (r ^^^ 1)] else [knotV I S k H (r ^^^ 1), knotV I S k H r]) = knotV I S k H (r / 2) := by
  have p1 : 2 ^ (d + 1) = 2 ^ d * 2 := Nat.pow_succ ..
  have p2 : 2 ^ (d + 1 + 1) = 2 ^ d * 2 * 2 := by rw [Nat.pow_succ, p1]
  have hl := log2_eq (r / 2) d (by omega) (by omega)
  have hk : ∀ x, 2 ^ (d + 1) ≤ x → x < 2 ^ (d + 1 + 1) → knotV I S k H x = knotL I S k H (H - (d + 1)) x := fun x a b => by rw [knotV, log2_eq x (d + 1) a b]
  have hx := xor_par r hr
  have hg : knotV I S k H (r / 2) = hashN I (r / 2) 33667 [knotL I S k H (H - (d + 1)) (2 * (r / 2)), knotL I S k H (H - (d + 1)) (2 * (r / 2) + 1)] := by
    rw [knotV, hl, show H - d = (H - (d + 1)) + 1 by omega, knotL]
  rw [hg]
  by_cases hp : r % 2 = 0
  · rw [if_pos hp] at hx ⊢
    rw [hx, hk r h1 h2, hk (r + 1) (by omega) (by omega), show 2 * (r / 2) = r by omega]
  · rw [if_neg hp] at hx ⊢
    rw [hx, hk r h1 h2, hk (r - 1) (by omega) (by omega), show 2 * (r / 2) = r - 1 by omega, show r - 1 + 1 = r by omega]
theorem climb_up (I S : List UInt8) (k : Int) (H : Nat) (hH : H ≤ 5) : ∀ (d r : Nat), d ≤ H → 2 ^ d ≤ r → r < 2 ^ (d + 1) → climb I d r (knotV I S k H r) (besideN I S k H r d) = knotV I S k H 1
  | 0, r, _, h1, h2 => by rw [climb, show r = 1 by omega]
  | d + 1, r, hd, h1, h2 => by
    have p1 : 2 ^ (d + 1) = 2 ^ d * 2 := Nat.pow_succ ..
    have p2 : 2 ^ (d + 1 + 1) = 2 ^ d * 2 * 2 := by rw [Nat.pow_succ, p1]
    have p3 : 2 ^ (d + 1 + 1) ≤ 2 ^ 6 := Nat.pow_le_pow_right (by decide) (by omega)
    have hl := knotV_length I S k H (r ^^^ 1)
    rw [climb, beside_head, List.take_append_of_le_length (by omega), List.take_of_length_le (by omega), List.drop_append, List.drop_of_length_le (by omega), List.nil_append, hl, Nat.sub_self, List.drop_zero,
      knot_pair I S k H r d h1 h2 hd (by omega)]
    exact climb_up I S k H hH d (r / 2) (by omega) (by omega) (by omega)

/-- what opening a tree's public key tells -/
theorem open_pub (I S : List UInt8) (k H : Nat) (hI : I.length = 16) (hm : mayT k H = true) :
    (pubP I S k H).length = 56 ∧ openI (pubP I S k H) = I ∧ openW (pubP I S k H) = k ∧ openH (pubP I S k H) = H ∧ openOk (pubP I S k H) = true ∧ p4 (pubP I S k H) = fourN (typedN H).toNat ∧ p8 (pubP I S k H) = fourN (typeN k).toNat ∧ (pubP I S k H).drop 24 = knotV I S k H 1 := by
  obtain ⟨P, hP⟩ : ∃ P, P = pubP I S k H := ⟨_, rfl⟩
  obtain ⟨R, hR⟩ : ∃ R, R = knotV I S k H 1 := ⟨_, rfl⟩
  have hRl : R.length = 32 := by rw [hR]; exact knotV_length _ _ _ _ _
  have hE : P = fourN (typedN H).toNat ++ (fourN (typeN k).toNat ++ (I ++ R)) := by rw [hP, pubP, ← hR]; simp
  rw [← hP, ← hR]
  have hlen : P.length = 56 := by rw [hE]; simp only [List.length_append, fourN_length, hI, hRl]
  have h4 : p4 P = fourN (typedN H).toNat := by rw [hE]; rfl
  have h8 : p8 P = fourN (typeN k).toNat := by rw [hE]; rfl
  have hI' : pI P = I := by
    have e : P.drop 8 = I ++ R := by rw [hE]; rfl
    rw [pI, e, List.take_append_of_le_length (by omega), List.take_of_length_le (by omega)]
  have h24 : P.drop 24 = R := by
    have e : P.drop 8 = I ++ R := by rw [hE]; rfl
    have e2 : P.drop 24 = (P.drop 8).drop 16 := by rw [List.drop_drop]
    rw [e2, e, List.drop_append, List.drop_of_length_le (by omega), List.nil_append, hI, Nat.sub_self, List.drop_zero]
  obtain ⟨m1, m2, m3⟩ := (mayT_iff _ _).1 hm
  have hk := (isW_iff _).1 m1
  have oh : openH P = H := by
    rw [openH, if_pos hlen]
    simp only [oHn, h4]
    obtain h | h | h | h | h : H = 1 ∨ H = 2 ∨ H = 3 ∨ H = 4 ∨ H = 5 := by omega
    all_goals subst h; decide +kernel
  have ow : openW P = k := by
    rw [openW, if_pos hlen]
    simp only [oWn, h8]
    obtain h | h | h | h : k = 1 ∨ k = 2 ∨ k = 4 ∨ k = 8 := by omega
    all_goals subst h; decide +kernel
  exact ⟨hlen, by rw [openI, if_pos hlen, hI'], ow, oh, by rw [openOk, ow, oh, hm, decide_eq_true hlen]; rfl, h4, h8, h24⟩
theorem leaf_four (q : Nat) (r : List UInt8) (hq : q < 4294967296) : leafN (fourN q ++ r) = q := by
  have e : ∀ n : Nat, (UInt8.ofNat n).toNat = n % 256 := fun n => by simp
  rw [leafN, if_neg (by rw [List.length_append, fourN_length]; omega), fourN]
  simp only [List.cons_append, List.getD_cons_zero, List.getD_cons_succ, e]
  omega
/-- how long the one-time part of a signature is, by a public key -/
def verL (p : List UInt8) : Nat := 36 + 32 * (manyW (openW p)).toNat
def verR (p text s : List UInt8) : List UInt8 :=
  climb (openI p) (openH p) (2 ^ openH p + leafN s) (hashN (openI p) (2 ^ openH p + leafN s) 33410 [candV (openI p) (leafN s) text ((s.drop 4).take (verL p))]) (s.drop (verL p + 8))
/-- is it of the public key's form? -/
def verOk (p s : List UInt8) : Bool :=
  openOk p && (decide (s.length = verL p + 8 + 32 * openH p) && (decide (leafN s < 2 ^ openH p) && (((s.drop (4 + verL p)).take 4 == p4 p) && ((s.drop 4).take 4 == p8 p))))
def verV (p text s : List UInt8) : Int := if verOk p s then (if verR p text s = p.drop 24 then 0 else 16) else 3
/-- the parts of a tree's signature -/
theorem lsig_facts (I S : List UInt8) (k H q : Nat) (text : List UInt8) (hm : mayT k H = true) (hq : q < 4294967296) :
    (lsigN I S k H q text).length = 36 + 32 * (manyW k).toNat + 8 + 32 * H ∧ ((lsigN I S k H q text).drop 4).take (36 + 32 * (manyW k).toNat) = sigN I S q k text ∧ (lsigN I S k H q text).drop (36 + 32 * (manyW k).toNat + 8) = besideN I S k H (2 ^ H + q) H ∧
      ((lsigN I S k H q text).drop (4 + (36 + 32 * (manyW k).toNat))).take 4 = fourN (typedN H).toNat ∧ ((lsigN I S k H q text).drop 4).take 4 = fourN (typeN k).toNat ∧ leafN (lsigN I S k H q text) = q := by
  obtain ⟨m1, m2, m3⟩ := (mayT_iff _ _).1 hm
  have hk : k = 1 ∨ k = 2 ∨ k = 4 ∨ k = 8 := by have := (isW_iff _).1 m1; omega
  obtain ⟨X, hX⟩ : ∃ X, X = sigN I S q k text := ⟨_, rfl⟩
  obtain ⟨B, hB⟩ : ∃ B, B = besideN I S k H (2 ^ H + q) H := ⟨_, rfl⟩
  obtain ⟨T, hT⟩ : ∃ T, T = fourN (typedN H).toNat := ⟨_, rfl⟩
  have hTl : T.length = 4 := by rw [hT]; exact fourN_length _
  have hBl : B.length = 32 * H := by rw [hB]; exact besideN_length _ _ _ _ _ _
  obtain ⟨f1, -, f3, -, -⟩ := sign_facts I S q k text hk
  have hN : (manyW k).toNat = numK k := by rw [(manyW_w k hk).1, numK]; rfl
  rw [hN]
  rw [← hX] at f1 f3 ⊢
  have hs : lsigN I S k H q text = fourN q ++ (X ++ (T ++ B)) := by
    rw [lsigN, signV, if_pos m1, Int.toNat_natCast, ← hX, ← hT, ← hB]
    simp
  rw [hs, ← hB, ← hT]
  have hF := fourN_length q
  have d4 : (fourN q ++ (X ++ (T ++ B))).drop 4 = X ++ (T ++ B) := List.drop_left' hF
  have dX : (fourN q ++ (X ++ (T ++ B))).drop (4 + (36 + 32 * numK k)) = T ++ B := by rw [← List.drop_drop, d4]; exact List.drop_left' f1
  have dT : (fourN q ++ (X ++ (T ++ B))).drop (36 + 32 * numK k + 8) = B := by
    rw [show 36 + 32 * numK k + 8 = (4 + (36 + 32 * numK k)) + 4 by omega, ← List.drop_drop, dX]; exact List.drop_left' hTl
  refine ⟨?_, ?_, dT, ?_, ?_, leaf_four q _ hq⟩
  · simp only [List.length_append, hF, f1, hTl, hBl]; omega
  · rw [d4]; exact List.take_left' f1
  · rw [dX]; exact List.take_left' hTl
  · rw [d4, List.take_append_of_le_length (by omega)]; exact f3
/-- the leaf's knot -/
theorem knot_leaf (I S : List UInt8) (k H q : Nat) (hm : mayT k H = true) (hq : q < 2 ^ H) : knotV I S k H (2 ^ H + q) = hashN I (2 ^ H + q) 33410 [pubN I S q k] := by
  obtain ⟨m1, m2, m3⟩ := (mayT_iff _ _).1 hm
  rw [knotV, log2_eq (2 ^ H + q) H (by omega) (by rw [Nat.pow_succ]; omega), Nat.sub_self, knotL, pubV, if_pos m1, Int.toNat_natCast, Nat.add_sub_cancel_left]
theorem ver_parts (I S : List UInt8) (k H q : Nat) (text text2 : List UInt8) (hI : I.length = 16) (hm : mayT k H = true) (hq : q < 2 ^ H) :
    verOk (pubP I S k H) (lsigN I S k H q text) = true ∧ verR (pubP I S k H) text2 (lsigN I S k H q text) = climb I H (2 ^ H + q) (hashN I (2 ^ H + q) 33410 [candV I q text2 (sigN I S q k text)]) (besideN I S k H (2 ^ H + q) H) ∧ (pubP I S k H).drop 24 = knotV I S k H 1 := by
  obtain ⟨m1, m2, m3⟩ := (mayT_iff _ _).1 hm
  have hp : 2 ^ H ≤ 2 ^ 5 := Nat.pow_le_pow_right (by decide) (by omega)
  obtain ⟨-, o2, o3, o4, o5, o6, o7, o8⟩ := open_pub I S k H hI hm
  obtain ⟨s1, s2, s3, s4, s5, s6⟩ := lsig_facts I S k H q text hm (by omega)
  have hv : verL (pubP I S k H) = 36 + 32 * (manyW k).toNat := by rw [verL, o3]
  refine ⟨?_, ?_, o8⟩
  · rw [verOk, o5, hv, o4, o6, o7, s1, s4, s5, s6, decide_eq_true rfl, decide_eq_true hq]; simp
  · rw [verR, hv, o2, o4, s2, s3, s6]
theorem ver_right (I S : List UInt8) (k H q : Nat) (text : List UInt8) (hI : I.length = 16) (hm : mayT k H = true) (hq : q < 2 ^ H) : verV (pubP I S k H) text (lsigN I S k H q text) = 0 := by
  obtain ⟨m1, m2, m3⟩ := (mayT_iff _ _).1 hm
  have hk : k = 1 ∨ k = 2 ∨ k = 4 ∨ k = 8 := by have := (isW_iff _).1 m1; omega
  obtain ⟨v1, v2, v3⟩ := ver_parts I S k H q text text hI hm hq
  have hc := climb_up I S k H (by omega) H (2 ^ H + q) (Nat.le_refl _) (by omega) (by rw [Nat.pow_succ]; omega)
  rw [knot_leaf I S k H q hm hq] at hc
  rw [verV, v1, v2, v3, cand_sign I S q k text hk, hc, if_pos rfl, if_pos rfl]
end Go.Proofs.Ytcnelahmbfggcaa


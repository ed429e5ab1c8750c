/- The walk of the law ShaBlocks (under way). -/
import Derived.Test.YtabgnahjejhnkaaRefB
import Derived.Test.YtabgnahjejhnkaaRefN
import Derived.Test.YtabgnahjejhnkaaLawSums
import Derived.Test.YtabgnahjejhnkaaWild
import Derived.Deep.DrawnRows
namespace Go.Proofs.Ytabgnahjejhnkaa
open Go Go.RowKit
set_option maxHeartbeats 1000000
attribute [local go_sem ↓] Go.wp_at_zero Go.wp_at_succ

theorem cells_u32 : Try.prog.cellsOf 32 = 1 := by kernel_rfl
theorem info_u32 : (Try.prog.info? 32).map (fun i => (i.zero, i.size, i.bytes)) = some (some (.int .u32 0), 1, 4) := by kernel_rfl
theorem map_wn_inj {l l' : List UInt32} : (l.map fun b => ((wn b : Nat) : Int)) = (l'.map fun b => ((wn b : Nat) : Int)) ↔ l = l' :=
  ⟨fun h => (List.map_inj_right (fun a b h => UInt32.toNat_inj.1 (Int.ofNat.inj h))).1 h, fun h => by rw [h]⟩
theorem eq_w64 (l l' : List UInt32) (h : l.length = 64) (h' : l'.length = 64) (w : World) : (Op.equalIn 10000 45 (.agg (W32 l).toArray) (.agg (W32 l').toArray)).run Try.prog w = .ok (decide (l = l')) w := by
  obtain ⟨i0, hi, _⟩ := info_parts info_u32
  have e (l : List UInt32) : (W32 l) = (l.map fun b => ((wn b : Nat) : Int)).map (Value.int .u32) := by simp [W32]
  rw [e l, e l', run_eq_ints (P := Try.prog) 9998 Try.underlying45 hi cells_u32 Try.underlying32 _ _ (by simp [h]) (by simp [h'])]
  simp only [map_wn_inj]
theorem eq_w8 (l l' : List UInt32) (h : l.length = 8) (h' : l'.length = 8) (w : World) : (Op.equalIn 10000 44 (.agg (W32 l).toArray) (.agg (W32 l').toArray)).run Try.prog w = .ok (decide (l = l')) w := by
  obtain ⟨i0, hi, _⟩ := info_parts info_u32
  have e (l : List UInt32) : (W32 l) = (l.map fun b => ((wn b : Nat) : Int)).map (Value.int .u32) := by simp [W32]
  rw [e l, e l', run_eq_ints (P := Try.prog) 9998 Try.underlying44 hi cells_u32 Try.underlying32 _ _ (by simp [h]) (by simp [h'])]
  simp only [map_wn_inj]

theorem rangeAt_of_row {w : World} {b : Nat} {t : TypeId} {l : List UInt32} (h : w.heap[b]? = some (.cells (W32 l).toArray t (0, 0))) : w.rangeAt b 0 (W32 l) := fun j v hj => by
  rw [cell_of_row w b (0 + j) _ t (0, 0) h, Nat.zero_add, List.getElem?_toArray]; exact hj
theorem rangeAt_below {w w' : World} {b o : Nat} {cs : List Value} (h : w.rangeAt b o cs) (hb : Below w.heap.size w w') : w'.rangeAt b o cs := fun j v hj => by
  have := h j v hj
  rw [hb.cell (World.block_lt_of_cell? _ _ this)]; exact this
/-- what is known of the values that hang on the world -/
def sp9 (n : Int) : Wild.Spec where
  pure := fun k => match k with | 0 => some (· = .bool true) | 23 => some fun _ => True | 26 => some fun _ => True | _ => none
  dflt := fun k => match k with | 0 => .bool true | _ => undef
  fact := fun k vs w => match k with | 23 => Sl w (vs 23) (pad n.toNat) | 26 => Sl w (vs 26) (pad n.toNat) | _ => True
  use := fun k => match k with | 24 => [23] | 27 => [26] | _ => []
theorem sp9_later (n : Int) : ∀ k vs w w', (sp9 n).fact k vs w → Below w.heap.size w w' → (sp9 n).fact k vs w' := by
  intro k vs w w' h hb
  unfold sp9 at *
  dsimp only at *
  split at h
  · exact Sl.later h hb
  · exact Sl.later h hb
  · trivial
theorem sp9_loc (n : Int) : ∀ k (vs vs' : Nat → Value) w, vs k = vs' k → (∀ m ∈ (sp9 n).use k, ((sp9 n).pure m).isSome = true → vs m = vs' m) → (sp9 n).fact k vs w → (sp9 n).fact k vs' w := by
  intro k vs vs' w he _ h
  unfold sp9 at *
  dsimp only at *
  split at h
  · rw [← he]; exact h
  · rw [← he]; exact h
  · trivial
theorem sp9_dflt (n : Int) : ∀ k p, (sp9 n).pure k = some p → p ((sp9 n).dflt k) := by
  intro k p h
  unfold sp9 at *
  dsimp only at *
  split at h <;> cases h <;> trivial
/-- the pads as strings -/
theorem Pad_str (n : Int) (w : World) (hn : n ≤ 1152921504606846976) (hn0 : -9223372036854775808 ≤ n) : Calls Try.prog 30 #[.int .i64 n] w fun e w' => ∃ v, e = .returned v ∧ Sl w' v (pad n.toNat) ∧ Below w.heap.size w w' :=
  (Pad_any n w hn hn0).mono fun _ _ ⟨v, h1, h2, h3⟩ => ⟨v, h1, h2.sl, h3⟩

set_option maxRecDepth 100000 in
theorem ShaBlocks_main (v : Value) (s : St) (l : List UInt8) (n : Int) (w : World) (hv : Sl w v l) (hl : l.length ≤ 2000) (hn : n ≤ 1099511627776) (hn0 : -9223372036854775808 ≤ n) :
    Calls Try.prog 9 #[.agg (W32 s.list).toArray, v, .int .i64 n] w fun e w' => e = .returned (.bool true) ∧ Below w.heap.size w w' := by
  obtain ⟨av, cv, rfl⟩ : ∃ a cap, v = .slice a l.length cap := by
    rcases hv with ⟨rfl, a, c, rfl⟩ | ⟨b, off, cap, rfl, _⟩
    · exact ⟨a, c, rfl⟩
    · exact ⟨_, cap, rfl⟩
  have hli : (l.length : Int) ≤ 2000 := by omega
  obtain ⟨SV, HSV⟩ : ∃ SV, Hid (SV = schedV l) := ⟨_, Lib.hid rfl⟩
  obtain ⟨BV, HBV⟩ : ∃ BV, Hid (BV = blockV s l) := ⟨_, Lib.hid rfl⟩
  obtain ⟨E, HEE⟩ : ∃ E, Hid (E = err64 l) := ⟨_, Lib.hid rfl⟩
  have LSV : Hid (SV.length = 64) := Lib.hid (by rw [HSV.out, schedV]; split <;> simp [sched, schedTo_length])
  have LBV : Hid (BV.length = 8) := Lib.hid (by rw [HBV.out, blockV]; split <;> simp [St.list])
  have I64 := Lib.hid (size_64 (l := SV) LSV.out)
  have O64 : Hid (64 = (W32 SV).toArray.size) := Lib.hid (by rw [List.size_toArray, W32_length, LSV.out])
  have I8 := Lib.hid (size_8 (l := BV) LBV.out)
  have O8 : Hid (8 = (W32 BV).toArray.size) := Lib.hid (by rw [List.size_toArray, W32_length, LBV.out])
  have IS := Lib.hid (size_8 (l := s.list) rfl)
  obtain ⟨W0, HW0, HB0, HA0⟩ : ∃ W0, Hid (W0 = w.alloc (.cells (W32 s.list).toArray 44)) ∧ Hid (Below w.heap.size w W0) ∧ Hid (W0.heap[w.heap.size]? = some (.cells (W32 s.list).toArray 44 (0, 0))) := ⟨_, Lib.hid rfl, Lib.hid ((Below.refl _ _).alloc (Nat.le_refl _) _), Lib.hid (heap_alloc_new _ _)⟩
  have HV := Lib.hid (hv.later HB0.out)
  clear hv
  go_enter Try.func9, Try.ntmps9
  go_upto_region 1 with (fail)
  rw [← HW0.out]
  go_upto_region 3 with (fail)
  have HV0 := HV
  go_wp2_with fail
  refine (Schedule_any _ l W0 HV0.out).mono ?_
  rintro e x1 ⟨rfl, hb1⟩
  rw [← HSV.out, ← HEE.out]
  have HX1 : Hid (Below W0.heap.size W0 x1) := Lib.hid hb1
  clear hb1
  go_upto_region 4 with (first
    | refine wpList_load_row rfl 44 _ rfl _ rfl _ (W32 s.list).toArray (0, 0) _ HA0.out Try.underlying44 rfl IS.out ?_
    | refine wpList_store_new rfl 45 _ _ rfl (W32 SV).toArray rfl rfl 45 _ I64.out O64.out (W32_one _) ?_)
  obtain ⟨W1, HW1, HC1, HD1⟩ : ∃ W1, Hid (W1 = x1.alloc (.cells (W32 SV).toArray 45)) ∧ Hid (Below W0.heap.size W0 W1) ∧ Hid (W1.heap[x1.heap.size]? = some (.cells (W32 SV).toArray 45 (0, 0))) := ⟨_, Lib.hid rfl, Lib.hid (HX1.out.alloc HX1.out.size _), Lib.hid (heap_alloc_new _ _)⟩
  rw [← HW1.out]
  have HV1 := Lib.hid (HV0.out.later HC1.out)
  have HA1 := Lib.hid ((HC1.out.block _ (Array.getElem?_eq_some_iff.1 HA0.out).1).trans HA0.out)
  go_wp2_with fail
  refine (Schedule_ref _ l W1 HV1.out).mono ?_
  rintro e x2 ⟨rfl, hb2⟩
  rw [← HSV.out, ← HEE.out]
  have HX2 : Hid (Below W1.heap.size W1 x2) := Lib.hid hb2
  clear hb2
  go_upto_region 5 with (first
    | refine wpList_load_row rfl 44 _ rfl _ rfl _ (W32 s.list).toArray (0, 0) _ HA1.out Try.underlying44 rfl IS.out ?_
    | refine wpList_store_new rfl 45 _ _ rfl (W32 SV).toArray rfl rfl 45 _ I64.out O64.out (W32_one _) ?_)
  obtain ⟨W2, HW2, HC2, HD2⟩ : ∃ W2, Hid (W2 = x2.alloc (.cells (W32 SV).toArray 45)) ∧ Hid (Below W1.heap.size W1 W2) ∧ Hid (W2.heap[x2.heap.size]? = some (.cells (W32 SV).toArray 45 (0, 0))) := ⟨_, Lib.hid rfl, Lib.hid (HX2.out.alloc HX2.out.size _), Lib.hid (heap_alloc_new _ _)⟩
  rw [← HW2.out]
  have HV2 := Lib.hid (HV1.out.later HC2.out)
  have HA2 := Lib.hid ((HC2.out.block _ (Array.getElem?_eq_some_iff.1 HA1.out).1).trans HA1.out)
  go_wp2_with (refine wpList_load_row rfl 44 _ rfl _ rfl _ (W32 s.list).toArray (0, 0) _ HA2.out Try.underlying44 rfl IS.out ?_)
  refine (Block_any _ s l W2 HV2.out).mono ?_
  rintro e x3 ⟨rfl, hb3⟩
  rw [← HBV.out, ← HEE.out]
  have HX3 : Hid (Below W2.heap.size W2 x3) := Lib.hid hb3
  clear hb3
  go_upto_region 6 with (refine wpList_store_new rfl 44 _ _ rfl (W32 BV).toArray rfl rfl 44 _ I8.out O8.out (W32_one _) ?_)
  obtain ⟨W3, HW3, HC3, HD3⟩ : ∃ W3, Hid (W3 = x3.alloc (.cells (W32 BV).toArray 44)) ∧ Hid (Below W2.heap.size W2 W3) ∧ Hid (W3.heap[x3.heap.size]? = some (.cells (W32 BV).toArray 44 (0, 0))) := ⟨_, Lib.hid rfl, Lib.hid (HX3.out.alloc HX3.out.size _), Lib.hid (heap_alloc_new _ _)⟩
  rw [← HW3.out]
  have HV3 := Lib.hid (HV2.out.later HC3.out)
  have HA3 := Lib.hid ((HC3.out.block _ (Array.getElem?_eq_some_iff.1 HA2.out).1).trans HA2.out)
  go_wp2_with (refine wpList_load_row rfl 44 _ rfl _ rfl _ (W32 s.list).toArray (0, 0) _ HA3.out Try.underlying44 rfl IS.out ?_)
  refine (Block_ref _ s l W3 HV3.out).mono ?_
  rintro e x4 ⟨rfl, hb4⟩
  rw [← HBV.out, ← HEE.out]
  have HX4 : Hid (Below W3.heap.size W3 x4) := Lib.hid hb4
  clear hb4
  go_upto_region 7 with (refine wpList_store_new rfl 44 _ _ rfl (W32 BV).toArray rfl rfl 44 _ I8.out O8.out (W32_one _) ?_)
  obtain ⟨W4, HW4, HC4, HD4⟩ : ∃ W4, Hid (W4 = x4.alloc (.cells (W32 BV).toArray 44)) ∧ Hid (Below W3.heap.size W3 W4) ∧ Hid (W4.heap[x4.heap.size]? = some (.cells (W32 BV).toArray 44 (0, 0))) := ⟨_, Lib.hid rfl, Lib.hid (HX4.out.alloc HX4.out.size _), Lib.hid (heap_alloc_new _ _)⟩
  rw [← HW4.out]
  have HV4 := Lib.hid (HV3.out.later HC4.out)
  have HA4 := Lib.hid ((HC4.out.block _ (Array.getElem?_eq_some_iff.1 HA3.out).1).trans HA3.out)
  have HD14 : Hid (W4.heap[x1.heap.size]? = some (.cells (W32 SV).toArray 45 (0, 0))) := Lib.hid ((((HC2.out.trans (HC3.out.mono HC2.out.size)).trans (HC4.out.mono (Nat.le_trans HC2.out.size HC3.out.size))).block _ (Array.getElem?_eq_some_iff.1 HD1.out).1).trans HD1.out)
  have HD24 : Hid (W4.heap[x2.heap.size]? = some (.cells (W32 SV).toArray 45 (0, 0))) := Lib.hid (((HC3.out.trans (HC4.out.mono HC3.out.size)).block _ (Array.getElem?_eq_some_iff.1 HD2.out).1).trans HD2.out)
  have HD34 : Hid (W4.heap[x3.heap.size]? = some (.cells (W32 BV).toArray 44 (0, 0))) := Lib.hid ((HC4.out.block _ (Array.getElem?_eq_some_iff.1 HD3.out).1).trans HD3.out)
  have HBW : Hid (Below w.heap.size w W4) := Lib.hid ((((HB0.out.trans (HC1.out.mono HB0.out.size)).trans (HC2.out.mono (Nat.le_trans HB0.out.size HC1.out.size))).trans (HC3.out.mono (Nat.le_trans (Nat.le_trans HB0.out.size HC1.out.size) HC2.out.size))).trans (HC4.out.mono (Nat.le_trans (Nat.le_trans (Nat.le_trans HB0.out.size HC1.out.size) HC2.out.size) HC3.out.size)))
  have E8 : ∀ W, (Op.equalIn 10000 44 (.agg (W32 BV).toArray) (.agg (W32 BV).toArray)).run Try.prog W = .ok true W := fun W => by
    have := eq_w8 BV BV LBV.out LBV.out W
    rwa [decide_eq_true rfl] at this
  have E64 : ∀ W, (Op.equalIn 10000 45 (.agg (W32 SV).toArray) (.agg (W32 SV).toArray)).run Try.prog W = .ok true W := fun W => by
    have := eq_w64 SV SV LSV.out LSV.out W
    rwa [decide_eq_true rfl] at this
  have I64L : Hid ((Try.prog.info? 45).map (·.size) = some (W32 SV).length) := Lib.hid (by have := I64.out; rwa [List.size_toArray] at this)
  have I8L : Hid ((Try.prog.info? 44).map (·.size) = some (W32 BV).length) := Lib.hid (by have := I8.out; rwa [List.size_toArray] at this)
  refine Wild.region (sp9 n) (fun w' => Below W4.heap.size W4 w') (fun w w' => Below w.heap.size w w') (by kernel_rfl) (by kernel_rfl) ((Below.refl _ _).drew) (sp9_later n) (sp9_loc n) (sp9_dflt n) (fun vs hvs => ?_)
  have h0 : vs 0 = .bool true := hvs 0 _ rfl
  refine Wild.walk_wild _ rfl (by rfl) (fun w hw K hK => ?_) ?_
  · go_simp
    go_at_call 17
    refine (alive02_any _).mono ?_
    rintro e x5 ⟨rfl, hb5⟩
    exact hK.out _ _ (hw.1.trans (hb5.mono hw.1.size)) hb5 rfl trivial
  rw [h0]
  clear h0 hvs
  simp only [Act.put, List.setIfInBounds_toArray, List.set_cons_zero, List.set_cons_succ]
  repeat (refine Wild.walk_simple rfl (by rfl) (by rfl) (fun K hK => ?_); go_big_quiet_op; first | (refine hK _ ?_; clear hK K) | (refine ⟨_, fun _ _ => rfl, hK _ ?_⟩; clear hK K))
  refine Wild.walk_load 45 _ _ _ (W32 SV) _ rfl (by rfl) rfl rfl (fun w hw => rangeAt_below (rangeAt_of_row HD14.out) hw.1) Try.underlying45 rfl I64L.out ?_
  simp only [Act.put, List.setIfInBounds_toArray, List.set_cons_zero, List.set_cons_succ]
  refine Wild.walk_load 45 _ _ _ (W32 SV) _ rfl (by rfl) rfl rfl (fun w hw => rangeAt_below (rangeAt_of_row HD24.out) hw.1) Try.underlying45 rfl I64L.out ?_
  simp only [Act.put, List.setIfInBounds_toArray, List.set_cons_zero, List.set_cons_succ]
  repeat (refine Wild.walk_simple rfl (by rfl) (by rfl) (fun K hK => ?_); go_big_quiet_op; first | (refine hK _ ?_; clear hK K) | (refine ⟨_, fun _ _ => rfl, hK _ ?_⟩; clear hK K))
  refine Wild.walk_load 44 _ _ _ (W32 BV) _ rfl (by rfl) rfl rfl (fun w hw => rangeAt_below (rangeAt_of_row HD34.out) hw.1) Try.underlying44 rfl I8L.out ?_
  simp only [Act.put, List.setIfInBounds_toArray, List.set_cons_zero, List.set_cons_succ]
  refine Wild.walk_load 44 _ _ _ (W32 BV) _ rfl (by rfl) rfl rfl (fun w hw => rangeAt_below (rangeAt_of_row HD4.out) hw.1) Try.underlying44 rfl I8L.out ?_
  simp only [Act.put, List.setIfInBounds_toArray, List.set_cons_zero, List.set_cons_succ]
  repeat (refine Wild.walk_simple rfl (by rfl) (by rfl) (fun K hK => ?_); go_big_quiet_op; first | (refine hK _ ?_; clear hK K) | (refine ⟨_, fun _ _ => rfl, hK _ ?_⟩; clear hK K))
  refine Wild.walk_wild _ rfl (by rfl) (fun w hw K hK => ?_) ?_
  · go_simp
    go_at_call 30
    refine (Pad_str n _ (by omega) hn0).mono ?_
    rintro e x6 ⟨v6, rfl, h6, hb6⟩
    exact hK.out _ _ (hw.1.trans (hb6.mono hw.1.size)) hb6 trivial (by simpa [sp9] using h6)
  simp only [Act.put, List.setIfInBounds_toArray, List.set_cons_zero, List.set_cons_succ]
  refine Wild.walk_run (.string ⟨(pad n.toNat).toArray⟩) rfl (by rfl) (fun w hw => ?_) ?_
  · have h : Sl w (vs 23) (pad n.toNat) := hw.2 23 (by simp [sp9]) rfl
    have := h.conv
    go_simp
  simp only [Act.put, List.setIfInBounds_toArray, List.set_cons_zero, List.set_cons_succ]
  repeat (refine Wild.walk_simple rfl (by rfl) (by rfl) (fun K hK => ?_); go_big_quiet_op; first | (refine hK _ ?_; clear hK K) | (refine ⟨_, fun _ _ => rfl, hK _ ?_⟩; clear hK K))
  refine Wild.walk_wild _ rfl (by rfl) (fun w hw K hK => ?_) ?_
  · go_simp
    go_at_call 31
    refine (Pad_ref n _ (by omega)).mono ?_
    rintro e x7 ⟨v7, rfl, h7, hb7⟩
    exact hK.out _ _ (hw.1.trans (hb7.mono hw.1.size)) hb7 trivial (by simpa [sp9] using h7.sl)
  simp only [Act.put, List.setIfInBounds_toArray, List.set_cons_zero, List.set_cons_succ]
  refine Wild.walk_run (.string ⟨(pad n.toNat).toArray⟩) rfl (by rfl) (fun w hw => ?_) ?_
  · have h : Sl w (vs 26) (pad n.toNat) := hw.2 26 (by simp [sp9]) rfl
    have := h.conv
    go_simp
  simp only [Act.put, List.setIfInBounds_toArray, List.set_cons_zero, List.set_cons_succ]
  repeat (refine Wild.walk_simple rfl (by rfl) (by rfl) (fun K hK => ?_); go_big_quiet_op; first | (refine hK _ ?_; clear hK K) | (refine ⟨_, fun _ _ => rfl, hK _ ?_⟩; clear hK K))
  refine Wild.walk_nil ?_
  intro w7 hw7 _
  have HB7 := Lib.hid (HBW.out.trans (hw7.mono HBW.out.size))
  clear hw7
  go_wp2_with fail
  go_ret
  exact ⟨rfl, HB7.out⟩
theorem ShaBlocks_any (v : Value) (s : St) (l : List UInt8) (n : Int) (w : World) (hv : Sl w v l) (hn0 : -9223372036854775808 ≤ n) :
    Calls Try.prog 9 #[.agg (W32 s.list).toArray, v, .int .i64 n] w fun e w' => e = .returned (.bool true) ∧ Below w.heap.size w w' := by
  by_cases hc : l.length ≤ 2000 ∧ n ≤ 1099511627776
  · exact ShaBlocks_main v s l n w hv hc.1 hc.2 hn0
  · obtain ⟨av, cv, rfl⟩ : ∃ a cap, v = .slice a l.length cap := by
      rcases hv with ⟨rfl, a, c, rfl⟩ | ⟨b, off, cap, rfl, _⟩
      · exact ⟨a, c, rfl⟩
      · exact ⟨_, cap, rfl⟩
    obtain ⟨W0, HW0, HB0⟩ : ∃ W0, Hid (W0 = w.alloc (.cells (W32 s.list).toArray 44)) ∧ Hid (Below w.heap.size w W0) := ⟨_, Lib.hid rfl, Lib.hid ((Below.refl _ _).alloc (Nat.le_refl _) _)⟩
    clear hv
    have hcs : (l.length : Int) ≤ 2000 ∧ ¬ n ≤ 1099511627776 ∨ ¬ (l.length : Int) ≤ 2000 := by omega
    clear hc
    rcases hcs with ⟨h1, h2⟩ | h1
    all_goals
      go_enter Try.func9, Try.ntmps9
      go_upto_region 1 with (fail)
      rw [← HW0.out]
      go_wp2_with fail
      refine (alive02_any W0).mono ?_
      rintro e w1 ⟨rfl, hb⟩
      have HB := Lib.hid (HB0.out.trans (hb.mono HB0.out.size))
      clear hb
      go_wp2_with fail
      go_ret
      exact ⟨rfl, HB.out⟩
end Go.Proofs.Ytabgnahjejhnkaa

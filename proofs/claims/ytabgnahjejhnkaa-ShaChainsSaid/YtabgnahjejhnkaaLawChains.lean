/- The walk of the law ShaChains. -/
import Derived.Test.YtabgnahjejhnkaaLawBlocks
import Derived.Test.YtabgnahjejhnkaaVar
namespace Go.Proofs.Ytabgnahjejhnkaa
open Go Go.RowKit
set_option maxHeartbeats 1000000

def Z8 : Array Value := #[.int .u32 0, .int .u32 0, .int .u32 0, .int .u32 0, .int .u32 0, .int .u32 0, .int .u32 0, .int .u32 0]
set_option maxRecDepth 100000 in
theorem ShaChains_main (v : Value) (l : List UInt8) (w : World) (hv : Sl w v l) (hl : l.length ≤ 2000) : Calls Try.prog 10 #[v] w fun e w' => e = .returned (.bool true) ∧ Below w.heap.size w w' := by
  obtain ⟨av, cv, rfl⟩ : ∃ a cap, v = .slice a l.length cap := by
    rcases hv with ⟨rfl, a, c, rfl⟩ | ⟨b, off, cap, rfl, _⟩
    · exact ⟨a, c, rfl⟩
    · exact ⟨_, cap, rfl⟩
  have hli : (l.length : Int) ≤ 2000 := by omega
  have HSL := Lib.hid hv
  have HO := Lib.hid (own_none w)
  have HSL2 : Hid (Sl (w.alloc (.cells #[] 5)) (.slice av l.length cv) l) := Lib.hid (HSL.out.later ((Below.refl _ _).alloc (Nat.le_refl _) _))
  have HLN : Hid (([] : List UInt8).length + l.length ≤ 1000000000) := Lib.hid (by simp; omega)
  have HBa : Hid (w.heap.size ≤ (w.alloc (.cells #[] 5)).heap.size) := Lib.hid (by simp)
  clear hv
  go_enter Try.func10, Try.ntmps10
  go_wp2_with (at_builtin; refine wpList_append8 rfl _ _ rfl w.heap.size _ [] rfl HO.out _ l rfl HSL2.out HLN.out HBa.out ?_; intro v' w' hv' hg hor)
  rw [List.nil_append] at hv'
  have HB2 : Hid (Below w.heap.size w w') := Lib.hid (((Below.refl _ _).alloc (Nat.le_refl _) _).trans (HO.out.below hg HBa.out))
  have HO2 := Lib.hid hv'
  clear hv' hg hor
  refine (Pad_str l.length w' (by omega) (by omega)).mono ?_
  rintro e w3 ⟨v3, rfl, hv3, hb3⟩
  rw [Int.toNat_natCast] at hv3
  have HO3 : Hid (Own8 w3 w.heap.size v' l) := Lib.hid (HO2.out.later hb3)
  have HS3 := Lib.hid hv3
  have HB3 : Hid (Below w.heap.size w w3) := Lib.hid (HB2.out.trans (hb3.mono HB2.out.size))
  have HL3 : Hid (l.length + (pad l.length).length ≤ 1000000000) := Lib.hid (by rw [pad_length]; omega)
  clear hv3 hb3
  go_upto_region 4 with (at_builtin; refine wpList_append8 rfl _ _ rfl w.heap.size _ l rfl HO3.out _ (pad l.length) rfl HS3.out HL3.out HB3.out.size ?_; intro v4 w4 hv4 hg4 hor4)
  obtain ⟨T, HT⟩ : ∃ T, Hid (T = l ++ pad l.length) := ⟨_, Lib.hid rfl⟩
  rw [← HT.out] at hv4
  have HO4 := Lib.hid hv4
  have HTL : Hid (T.length % 64 = 0 ∧ l.length + 9 ≤ T.length ∧ T.length ≤ l.length + 72) := Lib.hid (by have := pad_mod l.length; have := pad_length l.length; rw [HT.out, List.length_append]; omega)
  have HB4 : Hid (Below w.heap.size w w4) := Lib.hid (HB3.out.trans (HO3.out.below hg4 HB3.out.size))
  obtain ⟨a4, c4, rfl⟩ := hv4.shape
  clear hv4 hg4 hor4
  obtain ⟨m, HM⟩ : ∃ m, Hid (m = T.length) := ⟨_, Lib.hid rfl⟩
  rw [← HM.out]
  have m1 : (m : Int) % 64 = 0 := by have := HTL.out; have := HM.out; omega
  have m2 : (l.length : Int) + 9 ≤ m := by have := HTL.out; have := HM.out; omega
  have m3 : (m : Int) ≤ l.length + 72 := by have := HTL.out; have := HM.out; omega
  obtain ⟨Z, HZ, hbd⟩ := buildInit
  have HBD := Lib.hid hbd
  have I8 : Hid ((Try.prog.info? 44).map (·.size) = some Z.size) := Lib.hid (by rw [HZ.out]; exact size_8 rfl)
  have O8 : Hid (8 = Z.size) := Lib.hid (by rw [HZ.out]; rfl)
  have Z1 : Hid (Z.all (·.oneCell') = true) := Lib.hid (by rw [HZ.out]; exact W32_one _)
  obtain ⟨W5, HW5, HB5, HR5⟩ : ∃ W5, Hid (W5 = w4.alloc (.cells Z 44)) ∧ Hid (Below w4.heap.size w4 W5) ∧ Hid (W5.heap[w4.heap.size]? = some (.cells (W32 (absorb 0 init T).list).toArray 44 (0, 0))) := ⟨_, Lib.hid rfl, Lib.hid ((Below.refl _ _).alloc (Nat.le_refl _) _), Lib.hid (by rw [HZ.out]; exact heap_alloc_new _ _)⟩
  clear hbd
  go_upto_region 7 with (first
      | refine wpList_build rfl 44 _ rfl (.agg Z) _ (by kernel_rfl) HBD.out ?_
      | refine wpList_store_new rfl 44 _ _ rfl Z rfl rfl 44 _ I8.out O8.out Z1.out ?_)
  rw [← HW5.out]
  clear m1 m2
  go_wp2_with fail
  go_loopw [5] (fun i wr => ∃ j : Nat, 64 * j ≤ m ∧ i = .int .i64 ((64 * j : Nat) : Int) ∧ wr.heap[w4.heap.size]? = some (.cells (W32 (absorb j init T).list).toArray 44 (0, 0)) ∧ Below w4.heap.size W5 wr) (fun i _ => m - (intOf i).toNat)
  case atStart => exact ⟨0, by omega, by rfl, HR5.out, Below.refl _ _⟩
  case round =>
    obtain ⟨j, hj, rfl, hrow, hb⟩ := hrel
    obtain ⟨x, hx⟩ : ∃ x : Nat, x = 64 * j := ⟨_, rfl⟩
    rw [← hx] at hj ⊢
    have HX := Lib.hid hx
    have hmt := HM.out
    have htl := HTL.out
    by_cases hlt : x < m
    · have hlt' : (x : Int) < m := by omega
      have hsl : Sl wr (.slice a4 T.length c4) T := HO4.out.sl.later (HB5.out.trans hb)
      rcases hsl with ⟨h0, _⟩ | ⟨g, off, cap, he, h0, h1, h2, hc⟩
      · rw [h0] at hmt; simp at hmt; omega
      cases he
      have hblk : Hid (((T.drop (64 * j)).take 64).length = 64) := Lib.hid (by simp; omega)
      have HSB : Hid (Sl wr (.slice (some ⟨g, off + x, none⟩) 64 (c4 - x)) ((T.drop (64 * j)).take 64)) := Lib.hid (.inr ⟨g, off + x, c4 - x, by rw [hblk.out], by rw [hblk.out]; omega, by rw [hblk.out]; omega, by omega, fun i hi => by
        rw [hblk.out] at hi
        rw [List.getElem_take, List.getElem_drop, hx, Nat.add_assoc]
        exact hc (64 * j + i) (by omega)⟩)
      have HROW := Lib.hid hrow
      have HB := Lib.hid hb
      have hw : IntKind.i64.wrap ((x : Int) + 64) = x + 64 := by rw [IntKind.wrap_i64]; omega
      have hsl := slice_64 g off m c4 x (by omega)
      obtain ⟨q, HQ⟩ : ∃ q, Hid (q = absorb j init T) := ⟨_, Lib.hid rfl⟩
      rw [← HQ.out] at HROW
      obtain ⟨q2, HQ2⟩ : ∃ q2, Hid (q2 = absorb (j + 1) init T) := ⟨_, Lib.hid rfl⟩
      have HC1 : Hid (blockV q ((T.drop (64 * j)).take 64) = q2.list) := Lib.hid (by rw [blockV, if_pos hblk.out, HQ2.out, absorb_add, ← HQ.out, absorb, absorb])
      have HC2 : Hid (err64 ((T.drop (64 * j)).take 64) = 0) := Lib.hid (by rw [err64, if_pos hblk.out])
      have hs4 : w4.heap.size < wr.heap.size := (Array.getElem?_eq_some_iff.1 HROW.out).1
      have IQ : Hid ((Try.prog.info? 44).map (·.size) = some (W32 q.list).length) := Lib.hid (by have := size_8 (l := q.list) rfl; rwa [List.size_toArray] at this)
      have IQ2 := Lib.hid (size_8 (l := q2.list) rfl)
      clear hc hrow hb hx hmt htl
      go_upto_region 10 with (fail)
      refine Wild.region (Wild.sp1 44 Z8 (W32 q2.list).toArray wr.heap.size (.tuple #[.agg (W32 q2.list).toArray, .int .i64 0]) 6 10 11) (fun w' => Below wr.heap.size wr w') (Wild.G1 44 Z8 (W32 q2.list).toArray) (by kernel_rfl) (by kernel_rfl) ((Below.refl _ _).drew) Wild.sp1_later (Wild.sp1_loc (by decide)) Wild.sp1_dflt (fun vs hvs => ?_)
      have h6 : vs 6 = .tuple #[.agg (W32 q2.list).toArray, .int .i64 0] := hvs 6 _ rfl
      refine Wild.walk_load 44 _ _ _ (W32 q.list) _ rfl (by rfl) rfl rfl (fun w hw => rangeAt_below (rangeAt_of_row HROW.out) hw.1) Try.underlying44 rfl IQ.out ?_
      simp only [Act.put, List.setIfInBounds_toArray, List.set_cons_zero, List.set_cons_succ]
      repeat (refine Wild.walk_simple rfl (by rfl) (by rfl) (fun K hK => ?_); go_big_quiet_op; first | (refine hK _ ?_; clear hK K) | (refine ⟨_, fun _ _ => rfl, hK _ ?_⟩; clear hK K))
      refine Wild.walk_wild _ rfl (by rfl) (fun w hw K hK => ?_) ?_
      · go_simp
        go_at_call 28
        refine (Block_any _ q _ _ (HSB.out.later hw.1)).mono ?_
        rintro e w6 ⟨rfl, hb6⟩
        rw [HC1.out, HC2.out]
        exact hK.out _ _ (hw.1.trans (hb6.mono hw.1.size)) (Wild.G1.of_below hb6) rfl trivial
      rw [h6]
      simp only [Act.put, List.setIfInBounds_toArray, List.set_cons_zero, List.set_cons_succ]
      clear h6 hvs
      repeat (refine Wild.walk_simple rfl (by rfl) (by rfl) (fun K hK => ?_); go_big_quiet_op; first | (refine hK _ ?_; clear hK K) | (refine ⟨_, fun _ _ => rfl, hK _ ?_⟩; clear hK K))
      refine Wild.walk_wild _ rfl (by rfl) (fun w hw K hK => ?_) ?_
      · go_simp
        exact hK.out (.pointer (some ⟨w.heap.size, 0, none⟩)) _ (hw.1.alloc hw.1.size _) (Wild.G1.of_below ((Below.refl _ _).alloc (Nat.le_refl _) _)) trivial ⟨w.heap.size, rfl, hw.1.size, .inl (heap_alloc_new _ _)⟩
      simp only [Act.put, List.setIfInBounds_toArray, List.set_cons_zero, List.set_cons_succ]
      refine Wild.walk_wild _ rfl (by rfl) (fun w hw K hK => ?_) ?_
      · have hf : ∃ b : Nat, vs 10 = .pointer (some ⟨b, 0, none⟩) ∧ wr.heap.size ≤ b ∧ (w.heap[b]? = some (.cells Z8 44 (0, 0)) ∨ w.heap[b]? = some (.cells (W32 q2.list).toArray 44 (0, 0))) := hw.2 10 (by simp [Wild.sp1]) rfl
        refine Wild.step_store (t := 44) (Z := Z8) (V := (W32 q2.list).toArray) (B := wr.heap.size) (v := vs 10) 44 _ _ rfl rfl rfl IQ2.out rfl (W32_one _) hf (fun b h1 h2 h3 h4 => ?_)
        exact hK.out _ _ (below_setRow hw.1 h2 _) h3 trivial ⟨b, h1, h2, h4⟩
      simp only [Act.put]
      repeat (refine Wild.walk_simple rfl (by rfl) (by rfl) (fun K hK => ?_); go_big_quiet_op; first | (refine hK _ ?_; clear hK K) | (refine ⟨_, fun _ _ => rfl, hK _ ?_⟩; clear hK K))
      refine Wild.walk_nil ?_
      intro w7 hw7 hf7
      obtain ⟨b, h1, h2, h3⟩ := hf7 11 rfl (by simp)
      have h1' : vs 10 = .pointer (some ⟨b, 0, none⟩) := h1
      rw [h1']
      have HF1 := Lib.hid h3
      have HF2 : Hid (w7.heap[w4.heap.size]? = some (.cells (W32 q.list).toArray 44 (0, 0))) := Lib.hid ((hw7.block _ hs4).trans HROW.out)
      have HF3 : Hid (Below w4.heap.size W5 w7) := Lib.hid (HB.out.trans (hw7.mono (Nat.le_of_lt hs4)))
      clear h1 h1' h2 h3 hf7 hw7
      go_wp2_with (first
        | refine wpList_load_row rfl 44 _ rfl _ rfl _ (W32 q2.list).toArray (0, 0) _ HF1.out Try.underlying44 rfl IQ2.out ?_
        | refine wpList_store_row rfl 44 _ _ rfl _ (W32 q2.list).toArray rfl rfl 44 _ HF2.out IQ2.out rfl (W32_one _) ?_)
      refine ⟨⟨j + 1, ?_, ?_, ?_, below_setRow HF3.out (Nat.le_refl _) _⟩, ?_⟩
      · have := HX.out; have := HM.out; have := HTL.out; omega
      · have := HX.out; congr 1; omega
      · rw [← HQ2.out]; exact setRow_heap _ _ _ _ _ _ HF2.out
      · simp [intOf]; omega
    · obtain rfl : x = m := by omega
      obtain ⟨H, HH⟩ : ∃ H, Hid (H = sha l) := ⟨_, Lib.hid rfl⟩
      obtain ⟨S, HS⟩ : ∃ S, Hid (S = absorb j init T) := ⟨_, Lib.hid rfl⟩
      have HSB : Hid (S.bytes = H) := Lib.hid (by
        rw [HS.out, HH.out, sha, ← HT.out, show T.length / 64 = j by omega])
      rw [← HS.out] at hrow
      have HHL : Hid (H.length = 32) := Lib.hid (by rw [HH.out, sha_length])
      have HROW := Lib.hid hrow
      have HBV : Hid (Below w.heap.size w wr) := Lib.hid (HB4.out.trans ((HB5.out.trans hb).mono HB4.out.size))
      have HV : Hid (Sl wr (.slice av l.length cv) l) := Lib.hid (HSL.out.later HBV.out)
      have I32 : Hid ((Try.prog.info? 29).map (·.size) = some (B8 H).toArray.size) := Lib.hid (by rw [info_32]; simp [B8_length, HHL.out])
      have O32 : Hid (32 = (B8 H).toArray.size) := Lib.hid (by simp [B8_length, HHL.out])
      clear hrow hb hx hmt htl
      go_wp2_with fail
      refine (Sum_any _ l wr HV.out (by omega)).mono ?_
      rintro e w8 ⟨rfl, hb8⟩
      rw [← HH.out]
      have HR8 : Hid (Arr w8 w4.heap.size 44 S.list) := Lib.hid ((hb8.block _ (Array.getElem?_eq_some_iff.1 HROW.out).1).trans HROW.out)
      have HB8 := Lib.hid (HBV.out.trans (hb8.mono HBV.out.size))
      clear hb8
      obtain ⟨V, HVV, HVB, HVR, HVS⟩ : ∃ V, Hid (V = w8.alloc (.cells (B8 H).toArray 29)) ∧ Hid (Below w8.heap.size w8 V) ∧ Hid (Arr8 V w8.heap.size 29 H) ∧ Hid (Arr V w4.heap.size 44 S.list) :=
        ⟨_, Lib.hid rfl, Lib.hid ((Below.refl _ _).alloc (Nat.le_refl _) _), Lib.hid (heap_alloc_new _ _), Lib.hid ((((Below.refl _ _).alloc (Nat.le_refl _) _).block w4.heap.size (Array.getElem?_eq_some_iff.1 HR8.out).1).trans HR8.out)⟩
      have HBF := Lib.hid (HB8.out.trans (HVB.out.mono HB8.out.size))
      go_upto_region 15 with (refine wpList_store_new rfl 29 _ _ rfl (B8 H).toArray rfl rfl 29 _ I32.out O32.out (B8_oneA _) ?_)
      rw [← HVV.out]
      dsimp only [Act.put]
      generalize w8.heap.size = vb at HVR ⊢
      go_wp2_with fail
      go_loopw [9] (fun i wy => ∃ k n : Nat, k ≤ 32 ∧ i = .int .i64 k ∧ wy = V.drewN n) (fun i _ => 33 - (intOf i).toNat)
      case atStart => exact ⟨0, 0, by omega, rfl, rfl⟩
      case round =>
        obtain ⟨k, n, hk, rfl, rfl⟩ := hrel
        by_cases hlt : k < 32
        · have hlt' : (k : Int) < 32 := by omega
          have cs := HVS.out.cell (i := k / 4) (by simp [St.list]; omega)
          have hcell := HVR.out.cell (i := k) (by rw [HHL.out]; omega)
          have HBY : Hid (H.getD k 0 = UInt8.ofNat (wn (S.list.getD (k / 4) 0) / 2 ^ (24 - 8 * (k % 4)))) := Lib.hid (by rw [← HSB.out]; exact S.byte k hlt)
          obtain ⟨y, hy⟩ : ∃ y, y = S.list.getD (k / 4) 0 := ⟨_, rfl⟩
          rw [← hy] at cs HBY
          obtain ⟨z, hz⟩ : ∃ z, z = H.getD k 0 := ⟨_, rfl⟩
          rw [← hz] at hcell HBY
          clear hy hz
          have e1 : ((k : Int) / 4).toNat = k / 4 := by omega
          have p1 : (0 : Int) ≤ (k : Int) / 4 := by omega
          have p2 : (k : Int) / 4 < 8 := by omega
          have p3 : (0 : Int) ≤ (k : Int) % 4 := by omega
          have p4 : (k : Int) % 4 < 4 := by omega
          have p5 : (0 : Int) ≤ 24 - 8 * ((k : Int) % 4) := by omega
          have e2 : (24 - 8 * ((k : Int) % 4)).toNat = 24 - 8 * (k % 4) := by omega
          have ev : (wn y : Int) / 2 ^ (24 - 8 * (k % 4)) % 256 = ((bn z : Nat) : Int) := by rw [HBY.out]; simp [bn]
          go_wp2_with fail
          go_quiet (fail)
          go_wp2_with fail
          exact ⟨⟨k + 1, n + nq, by omega, by go_num, rfl⟩, by simp [intOf]; omega⟩
        · obtain rfl : k = 32 := by omega
          go_wp2_with fail
          refine (alive02_any _).mono ?_
          rintro e w9 ⟨rfl, b9⟩
          have HB9 : Hid (Below w.heap.size w w9) := Lib.hid (HBF.out.trans ((show Below V.heap.size V w9 from ⟨b9.os, b9.tape, b9.output, b9.size, b9.block⟩).mono HBF.out.size))
          clear b9
          go_wp2_with fail
          go_ret
          exact ⟨rfl, HB9.out⟩
theorem ShaChains_any (v : Value) (l : List UInt8) (w : World) (hv : Sl w v l) : Calls Try.prog 10 #[v] w fun e w' => e = .returned (.bool true) ∧ Below w.heap.size w w' := by
  by_cases hl : l.length ≤ 2000
  · exact ShaChains_main v l w hv hl
  · obtain ⟨av, cv, rfl⟩ : ∃ a cap, v = .slice a l.length cap := by
      rcases hv with ⟨rfl, a, c, rfl⟩ | ⟨b, off, cap, rfl, _⟩
      · exact ⟨a, c, rfl⟩
      · exact ⟨_, cap, rfl⟩
    have hli : ¬ (l.length : Int) ≤ 2000 := by omega
    clear hv
    go_enter Try.func10, Try.ntmps10
    go_wp2_with fail
    refine (alive02_any w).mono ?_
    rintro e w1 ⟨rfl, hb⟩
    have HB := Lib.hid hb
    clear hb
    go_wp2_with fail
    go_ret
    exact ⟨rfl, HB.out⟩
end Go.Proofs.Ytabgnahjejhnkaa

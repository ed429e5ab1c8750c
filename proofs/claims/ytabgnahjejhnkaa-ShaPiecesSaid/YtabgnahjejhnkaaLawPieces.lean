/- The walk of the law ShaPieces. -/
import Derived.Test.YtabgnahjejhnkaaLawSums
import Derived.Test.YtabgnahjejhnkaaOpen
import Derived.Test.YtabgnahjejhnkaaVar
namespace Go.Proofs.Ytabgnahjejhnkaa
open Go Go.RowKit
set_option maxHeartbeats 1000000

/-- the sum so far and all bytes so far, apart from one another -/
structure Pc (wr : World) (p B : Nat) (l : List UInt8) (lo : Option Nat) (va : Value) : Prop where
  s : SumsO wr p B l lo
  a : Own8 wr B va l
  ap : va.ownBlock ≠ some p
  al : ∀ k, va.ownBlock = some k → lo ≠ some k
theorem SumsO.at {w : World} {p B : Nat} {l : List UInt8} {lo : Option Nat} (h : SumsO w p B l lo) : SumsAt w p B l := by
  obtain ⟨lv, h1, h2, h3, h4, _⟩ := h
  exact ⟨lv, h1, h2, h3, h4⟩
theorem SumsO.later {w w' : World} {p B : Nat} {l : List UInt8} {lo : Option Nat} (h : SumsO w p B l lo) (hb : Below w.heap.size w w') : SumsO w' p B l lo := by
  obtain ⟨lv, h1, h2, h3, h4, h5⟩ := h
  exact ⟨lv, (hb.block p (Array.getElem?_eq_some_iff.1 h1).1).trans h1, h2.later hb, h3, h4, h5⟩
theorem SumsO.lo_lt {w : World} {p B : Nat} {l : List UInt8} {lo : Option Nat} (h : SumsO w p B l lo) : ∀ k, lo = some k → k < w.heap.size := by
  obtain ⟨lv, h1, h2, h3, h4, h5⟩ := h
  intro k hk
  exact (h2.lt k (by rw [h5, hk])).2
theorem SumsO.p_lt {w : World} {p B : Nat} {l : List UInt8} {lo : Option Nat} (h : SumsO w p B l lo) : p < w.heap.size := by
  obtain ⟨lv, h1, _⟩ := h
  exact (Array.getElem?_eq_some_iff.1 h1).1
theorem Pc.later {w w' : World} {p B : Nat} {l : List UInt8} {lo : Option Nat} {va : Value} (h : Pc w p B l lo va) (hb : Below w.heap.size w w') : Pc w' p B l lo va := ⟨h.s.later hb, h.a.later hb, h.ap, h.al⟩
/-- behind a Write -/
theorem Pc.wrote {w w' : World} {p B : Nat} {l l' : List UInt8} {lo lo' : Option Nat} {va : Value} (h : Pc w p B l lo va) (hf : Fr w w' p lo lo') (_ : SumsO w' p B l' lo') : Own8 w' B va l ∧ va.ownBlock ≠ some p ∧ ∀ k, va.ownBlock = some k → lo' ≠ some k := by
  obtain ⟨f1, f2, _⟩ := hf
  refine ⟨OwnC.kept h.a fun k hk => f1 k (h.a.lt k hk).2 (fun e => h.ap (by rw [hk, e])) (h.al k hk), h.ap, fun k hk => ?_⟩
  rcases f2 with rfl | ⟨g, rfl, hg⟩
  · exact h.al k hk
  · intro e
    cases e
    have := (h.a.lt k hk).2
    omega
/-- behind an append onto all -/
theorem Pc.grown {w w' : World} {p B : Nat} {l' : List UInt8} {lo : Option Nat} {va va' : Value} (hs : SumsO w p B l' lo) (hap : va.ownBlock ≠ some p) (hal : ∀ k, va.ownBlock = some k → lo ≠ some k)
    (hg : w.grownBy w' va.ownBlock) (ho : Own8 w' B va' l') (hor : va'.ownBlock = va.ownBlock ∨ va'.ownBlock = some w.heap.size) : Pc w' p B l' lo va' := by
  have hpl := hs.p_lt
  have hll := hs.lo_lt
  refine ⟨?_, ho, ?_, fun k hk => ?_⟩
  · obtain ⟨lv, h1, h2, h3, h4, h5⟩ := hs
    refine ⟨lv, (hg.block p hpl (fun e => hap e.symm)).trans h1, OwnC.kept h2 fun k hk => hg.block k (h2.lt k hk).2 (fun e => hal k e.symm (by rw [← h5, hk])), h3, h4, h5⟩
  · rcases hor with h | h <;> rw [h]
    · exact hap
    · intro e; cases e; omega
  · rcases hor with h | h <;> rw [h] at hk
    · exact hal k hk
    · intro e
      cases hk
      have := hll _ e
      omega

theorem two_vars (w : World) (t : TypeId) (Z V : Array Value) :
    ((w.alloc (.cells Z t)).alloc (.cells Z t)).heap[w.heap.size]? = some (.cells Z t (0, 0)) ∧ (((w.alloc (.cells Z t)).alloc (.cells Z t)).setRow w.heap.size V).heap[w.heap.size + 1]? = some (.cells Z t (0, 0)) ∧
    ((((w.alloc (.cells Z t)).alloc (.cells Z t)).setRow w.heap.size V).setRow (w.heap.size + 1) V).heap[w.heap.size]? = some (.cells V t (0, 0)) ∧
    ((((w.alloc (.cells Z t)).alloc (.cells Z t)).setRow w.heap.size V).setRow (w.heap.size + 1) V).heap[w.heap.size + 1]? = some (.cells V t (0, 0)) ∧
    Below w.heap.size w ((((w.alloc (.cells Z t)).alloc (.cells Z t)).setRow w.heap.size V).setRow (w.heap.size + 1) V) := by
  have h1 : ((w.alloc (.cells Z t)).alloc (.cells Z t)).heap[w.heap.size]? = some (.cells Z t (0, 0)) := (heap_alloc_old _ _ (by simp)).trans (heap_alloc_new w _)
  have h2 : ((w.alloc (.cells Z t)).alloc (.cells Z t)).heap[w.heap.size + 1]? = some (.cells Z t (0, 0)) := by
    have := heap_alloc_new (w.alloc (.cells Z t)) (.cells Z t)
    simpa using this
  have h3 := (setRow_other ((w.alloc (.cells Z t)).alloc (.cells Z t)) w.heap.size (w.heap.size + 1) V (by omega)).trans h2
  have h4 := setRow_heap _ _ _ V _ _ h1
  refine ⟨h1, h3, (setRow_other _ _ _ _ (by omega)).trans h4, setRow_heap _ _ _ V _ _ h3, below_setRow (below_setRow ((((Below.refl _ _).alloc (Nat.le_refl _) _).alloc (by simp) _)) (Nat.le_refl _) _) (by omega) _⟩
theorem ShaPieces_main (v : Value) (ls : List (List UInt8)) (w : World)
    (hv : (ls = [] ∧ ∃ a c, v = .slice a 0 c) ∨ ∃ b off cap, v = .slice (some ⟨b, off, none⟩) ls.length cap ∧ ls.length ≤ cap ∧ cap ≤ maxLen ∧ ∀ i, i < ls.length → ∃ a c, w.cell? ⟨b, off + i, none⟩ = some (.slice a (ls.getD i []).length c) ∧ Sl w (.slice a (ls.getD i []).length c) (ls.getD i []) ∧ (ls.getD i []).length ≤ 140737488351232) :
    Calls Try.prog 7 #[v] w fun e w' => e = .returned (.bool true) ∧ Below w.heap.size w w' := by
  obtain ⟨av, cv, rfl⟩ : ∃ a cap, v = .slice a ls.length cap := by
    rcases hv with ⟨rfl, a, c, rfl⟩ | ⟨b, off, cap, rfl, _⟩
    · exact ⟨a, c, rfl⟩
    · exact ⟨_, cap, rfl⟩
  have hlm : ls.length ≤ 9223372036854775807 := by
    rcases hv with ⟨h, _⟩ | ⟨b, off, cap, _, h1, h2, _⟩
    · rw [h]; simp
    · unfold maxLen at h2; omega
  have HC : Hid (∀ i, i < ls.length → ∃ b off a c, av = some ⟨b, off, none⟩ ∧ ls.length ≤ cv ∧ w.cell? ⟨b, off + i, none⟩ = some (.slice a (ls.getD i []).length c) ∧ Sl w (.slice a (ls.getD i []).length c) (ls.getD i []) ∧ (ls.getD i []).length ≤ 140737488351232) := Lib.hid (by
    rcases hv with ⟨h, _⟩ | ⟨b, off, cap, he, h1, h2, h3⟩
    · intro i hi; rw [h] at hi; simp at hi
    · cases he
      intro i hi
      obtain ⟨a, c, k1, k2⟩ := h3 i hi
      exact ⟨b, off, a, c, rfl, h1, k1, k2⟩)
  clear hv
  obtain ⟨m, HM⟩ : ∃ m, Hid (m = ls.length) := ⟨_, Lib.hid rfl⟩
  rw [← HM.out] at hlm ⊢
  go_enter Try.func7, Try.ntmps7
  go_wp2_with fail
  refine (New_any w).mono ?_
  rintro e w1 ⟨p, rfl, hs, hb1⟩
  have HO : Hid (Own8 (w1.alloc (.cells #[] 5)) w1.heap.size (.slice (some ⟨w1.heap.size, 0, none⟩) 0 0) []) := Lib.hid (own_none w1)
  obtain ⟨W, HW, HPC, HB⟩ : ∃ W, Hid (W = w1.alloc (.cells #[] 5)) ∧ Hid (∃ lo, Pc W p w.heap.size [] lo (.slice (some ⟨w1.heap.size, 0, none⟩) 0 0)) ∧ Hid (Below w.heap.size w W) := ⟨_, Lib.hid rfl, Lib.hid (by
    obtain ⟨lv, h1, h2, h3, h4⟩ := hs
    have hba : Below w1.heap.size w1 (w1.alloc (.cells #[] 5)) := (Below.refl _ _).alloc (Nat.le_refl _) _
    have hpl := (Array.getElem?_eq_some_iff.1 h1).1
    refine ⟨lv.ownBlock, ⟨lv, (hba.block p hpl).trans h1, h2.later hba, h3, h4, rfl⟩, OwnC.down HO.out hb1.size, ?_, fun k hk e => ?_⟩
    · intro e
      have : w1.heap.size = p := by simpa [Value.ownBlock] using e
      omega
    · have hk' : w1.heap.size = k := by simpa [Value.ownBlock] using hk
      have := (h2.lt _ e).2
      omega), Lib.hid (hb1.alloc hb1.size _)⟩
  clear hs hb1 HO
  go_upto_region 3 with (fail)
  rw [← HW.out]
  generalize w1.heap.size = ab at HPC ⊢
  go_wp2_with fail
  go_loopw [4, 5] (fun a i wr => ∃ j l lo, j ≤ m ∧ j ≤ 60 ∧ l.length ≤ 2000 ∧ i = .int .i64 (j : Nat) ∧ Hid (Pc wr p w.heap.size l lo a) ∧ Hid (Below w.heap.size w wr)) (fun _ i _ => m - (intOf i).toNat)
  case atStart =>
    obtain ⟨lo, h⟩ := HPC.out
    exact ⟨0, [], lo, by omega, by omega, by simp, rfl, Lib.hid h, HB⟩
  case round =>
    obtain ⟨j, l, lo, hj, h60, hl, rfl, HP, HB2⟩ := hrel
    obtain ⟨aa, ca, rfl⟩ := HP.out.a.shape
    by_cases hlt : j < m
    · obtain ⟨b, off, a, c, rfl, hcv, hcell, hsl, hrl⟩ := HC.out j (by rw [← HM.out]; exact hlt)
      rw [← HM.out] at hcv
      have hcell2 : wr.cell? ⟨b, off + j, none⟩ = some (.slice a (ls.getD j []).length c) := by
        rw [HB2.out.cell (World.block_lt_of_cell? _ _ hcell)]; exact hcell
      have HSL : Hid (Sl w (.slice a (ls.getD j []).length c) (ls.getD j [])) := Lib.hid hsl
      have HC2 := Lib.hid hcell
      clear hcell hsl
      generalize ls.getD j [] = r at HC2 hcell2 HSL hrl
      have HSLW := Lib.hid (HSL.out.later HB2.out)
      by_cases h6 : j = 60
      · have h6i : (j : Int) = 60 := by omega
        go_wp2_with fail
        refine (alive02_any wr).mono ?_
        rintro e w2 ⟨rfl, hb2⟩
        have HF := Lib.hid (HB2.out.trans (hb2.mono HB2.out.size))
        clear hb2
        go_wp2_with fail
        go_ret
        exact ⟨rfl, HF.out⟩
      · have h6i : ¬ (j : Int) = 60 := by omega
        by_cases hbig : l.length + r.length ≤ 2000
        · have hbi : decide (2000 < (l.length : Int) + r.length) = false := by rw [decide_eq_false_iff_not]; omega
          go_wp2_with fail
          refine (Write_fr p w.heap.size l r _ wr lo HP.out.s HSLW.out (by omega) HB2.out.size).mono ?_
          rintro e w2 ⟨rfl, hb2, lo', hs2, hf2⟩
          obtain ⟨k1, k2, k3⟩ := HP.out.wrote hf2 hs2
          have HB3 := Lib.hid (HB2.out.trans hb2)
          have HS2 := Lib.hid hs2
          have K1 := Lib.hid k1
          have K2 := Lib.hid k2
          have K3 := Lib.hid k3
          have HSL3 := Lib.hid (HSL.out.later HB3.out)
          have hcell3 : w2.cell? ⟨b, off + j, none⟩ = some (.slice a r.length c) := by
            rw [HB3.out.cell (World.block_lt_of_cell? _ _ HC2.out)]; exact HC2.out
          have HLL : Hid (l.length + r.length ≤ 1000000000) := Lib.hid (by omega)
          clear hb2 hs2 hf2 k1 k2 k3 hcell2
          go_wp2_with (at_builtin; refine wpList_append8 rfl _ _ rfl w.heap.size _ l rfl K1.out _ r rfl HSL3.out HLL.out HB3.out.size ?_; intro v3 w3 hv3 hg3 hor3)
          have HP3 := Lib.hid (Pc.grown HS2.out K2.out K3.out hg3 hv3 hor3)
          have HB4 := Lib.hid (HB3.out.trans (K1.out.below hg3 HB3.out.size))
          obtain ⟨a3, c3, rfl⟩ := hv3.shape
          clear hv3 hg3 hor3 hcell3
          refine (Long_any p w.heap.size (l ++ r) w3 HP3.out.s.at).mono ?_
          rintro e w4 ⟨rfl, rfl⟩
          have hlen : (l ++ r).length = l.length + r.length := List.length_append
          rw [hlen] at HP3 ⊢
          clear hlen
          go_wp2_with fail
          exact ⟨⟨j + 1, l ++ r, lo', by omega, by omega, by rw [List.length_append]; omega, by go_num, HP3, HB4⟩, by simp [intOf]; omega⟩
        · have hbi : decide (2000 < (l.length : Int) + r.length) = true := by rw [decide_eq_true_iff]; omega
          go_wp2_with fail
          refine (alive02_any wr).mono ?_
          rintro e w2 ⟨rfl, hb2⟩
          have HF := Lib.hid (HB2.out.trans (hb2.mono HB2.out.size))
          clear hb2
          go_wp2_with fail
          go_ret
          exact ⟨rfl, HF.out⟩
    · obtain rfl : j = m := by omega
      have HL : Hid (l.length ≤ 2000) := Lib.hid hl
      go_wp2_with fail
      refine (SSum_any p w.heap.size l wr HP.out.s.at (by omega)).mono ?_
      rintro e w2 ⟨rfl, hb2⟩
      have HP2 := Lib.hid (HP.out.later hb2)
      have HB3 := Lib.hid (HB2.out.trans (hb2.mono HB2.out.size))
      clear hb2
      go_wp2_with fail
      refine (SSum_any p w.heap.size l w2 HP2.out.s.at (by omega)).mono ?_
      rintro e w3 ⟨rfl, hb3⟩
      have HP3 := Lib.hid (HP2.out.later hb3)
      have HB4 := Lib.hid (HB3.out.trans (hb3.mono HB3.out.size))
      clear hb3
      obtain ⟨H, HH⟩ : ∃ H, Hid (H = sha l) := ⟨_, Lib.hid rfl⟩
      have HHL : Hid (H.length = 32) := Lib.hid (by rw [HH.out, sha_length])
      rw [← HH.out]
      have I32 : Hid ((Try.prog.info? 29).map (·.size) = some (B8 H).toArray.size) := Lib.hid (by rw [info_32]; simp [B8_length, HHL.out])
      have O32 : Hid (32 = (B8 H).toArray.size) := Lib.hid (by simp [B8_length, HHL.out])
      have HT := Lib.hid (fun Z => two_vars w3 29 Z (B8 H).toArray)
      go_upto_region 13 with (first
        | refine wpList_store_row rfl 29 _ _ rfl w3.heap.size (B8 H).toArray rfl rfl 29 _ (HT.out _).1 I32.out O32.out (B8_oneA _) ?_
        | refine wpList_store_row rfl 29 _ _ rfl (w3.heap.size + 1) (B8 H).toArray rfl rfl 29 _ (HT.out _).2.1 I32.out O32.out (B8_oneA _) ?_)
      obtain ⟨W4, HW4⟩ : ∃ W4, Hid (W4 = ((((w3.alloc (.cells (Array.replicate 32 (.int .u8 0)) 29)).alloc (.cells (Array.replicate 32 (.int .u8 0)) 29)).setRow w3.heap.size (B8 H).toArray).setRow (w3.heap.size + 1) (B8 H).toArray)) := ⟨_, Lib.hid rfl⟩
      obtain ⟨_, _, t1, t2, t3⟩ := HT.out (Array.replicate 32 (.int .u8 0))
      change Code.wp _ _ _ _ ((((w3.alloc (.cells (Array.replicate 32 (.int .u8 0)) 29)).alloc (.cells (Array.replicate 32 (.int .u8 0)) 29)).setRow w3.heap.size (B8 H).toArray).setRow (w3.heap.size + 1) (B8 H).toArray)
      rw [← HW4.out] at t1 t2 t3 ⊢
      dsimp only [Act.put]
      have HP4 := Lib.hid (HP3.out.later t3)
      have HB5 := Lib.hid (HB4.out.trans (t3.mono HB4.out.size))
      have X6 : Hid (Arr8 W4 w3.heap.size 29 H) := Lib.hid t1
      have X7 : Hid (Arr8 W4 (w3.heap.size + 1) 29 H) := Lib.hid t2
      clear t1 t2 t3 HT HW4
      obtain ⟨b6, hb6⟩ : ∃ b6, b6 = w3.heap.size := ⟨_, rfl⟩
      obtain ⟨b7, hb7⟩ : ∃ b7, b7 = w3.heap.size + 1 := ⟨_, rfl⟩
      rw [← hb7] at X7 ⊢
      rw [← hb6] at X6 ⊢
      have N6 : Hid (p < b6 ∧ p < b7 ∧ (∀ k, lo = some k → k < b6 ∧ k < b7) ∧ ∀ k, (Value.slice aa l.length ca).ownBlock = some k → k < b6 ∧ k < b7) := Lib.hid (by
        have h1 := HP3.out.s.p_lt
        refine ⟨by omega, by omega, fun k hk => ?_, fun k hk => ?_⟩
        · have := HP3.out.s.lo_lt k hk; omega
        · have := (HP3.out.a.lt k hk).2; omega)
      clear hb6 hb7
      obtain ⟨W5, HW5, HB6, HS7⟩ : ∃ W5, Hid (W5 = W4.alloc (.cells #[.int .u8 7] 5)) ∧ Hid (Below W4.heap.size W4 W5) ∧ Hid (Sl W5 (.slice (some ⟨W4.heap.size, 0, none⟩) 1 1) [7]) := ⟨_, Lib.hid rfl, Lib.hid ((Below.refl _ _).alloc (Nat.le_refl _) _), Lib.hid (Sl.made W4 [7] _ _ _ _ (by rfl) rfl (by decide) rfl)⟩
      have HP5 := Lib.hid (HP4.out.later HB6.out)
      have X65 := Lib.hid (X6.out.later (HB6.out.block _ (Array.getElem?_eq_some_iff.1 X6.out).1))
      have X75 := Lib.hid (X7.out.later (HB6.out.block _ (Array.getElem?_eq_some_iff.1 X7.out).1))
      have HB7 := Lib.hid (HB5.out.trans (HB6.out.mono HB5.out.size))
      go_wp2_with fail
      rw [← HW5.out]
      refine (Write_fr p w.heap.size l [7] _ W5 lo HP5.out.s HS7.out (by simp; omega) HB7.out.size).mono ?_
      rintro e w6 ⟨rfl, b6', lo', hs6, hf6⟩
      obtain ⟨k1, k2, k3⟩ := HP5.out.wrote hf6 hs6
      have HB8 := Lib.hid (HB7.out.trans b6')
      have HS6 := Lib.hid hs6
      have K1 := Lib.hid k1
      have K2 := Lib.hid k2
      have K3 := Lib.hid k3
      have X66 := Lib.hid (X65.out.later (hf6.1 b6 (Array.getElem?_eq_some_iff.1 X65.out).1 (fun e => by have := N6.out.1; omega) (fun e => by have := (N6.out.2.2.1 b6 e).1; omega)))
      have X76 := Lib.hid (X75.out.later (hf6.1 b7 (Array.getElem?_eq_some_iff.1 X75.out).1 (fun e => by have := N6.out.2.1; omega) (fun e => by have := (N6.out.2.2.1 b7 e).2; omega)))
      clear b6' hs6 hf6 k1 k2 k3
      go_wp2_with fail
      refine (Sum_any _ l w6 K1.out.sl (by omega)).mono ?_
      rintro e w7 ⟨rfl, hb7⟩
      rw [← HH.out]
      obtain ⟨W8, HW8, HB9, X88⟩ : ∃ W8, Hid (W8 = w7.alloc (.cells (B8 H).toArray 29)) ∧ Hid (Below w6.heap.size w6 W8) ∧ Hid (Arr8 W8 w7.heap.size 29 H) := ⟨_, Lib.hid rfl, Lib.hid (hb7.alloc hb7.size _), Lib.hid (heap_alloc_new _ _)⟩
      have N8 : Hid (w6.heap.size ≤ w7.heap.size) := Lib.hid hb7.size
      clear hb7
      go_upto_region 15 with (refine wpList_store_new rfl 29 _ _ rfl (B8 H).toArray rfl rfl 29 _ I32.out O32.out (B8_oneA _) ?_)
      rw [← HW8.out]
      dsimp only [Act.put]
      obtain ⟨b8, hb8⟩ : ∃ b8, b8 = w7.heap.size := ⟨_, rfl⟩
      rw [← hb8] at X88 N8 ⊢
      clear hb8
      have HS8 := Lib.hid (HS6.out.later HB9.out)
      have K18 : Hid (Own8 W8 w.heap.size (.slice aa l.length ca) l) := Lib.hid (K1.out.later HB9.out)
      have NA : Hid (∀ k, (Value.slice aa l.length ca).ownBlock = some k → k < b6 ∧ k < b7 ∧ k < b8) := Lib.hid fun k hk => ⟨(N6.out.2.2.2 k hk).1, (N6.out.2.2.2 k hk).2, by have := (K1.out.lt k hk).2; have := N8.out; omega⟩
      have X68 := Lib.hid (X66.out.later (HB9.out.block _ (Array.getElem?_eq_some_iff.1 X66.out).1))
      have X78 := Lib.hid (X76.out.later (HB9.out.block _ (Array.getElem?_eq_some_iff.1 X76.out).1))
      have HB10 := Lib.hid (HB8.out.trans (HB9.out.mono HB8.out.size))
      clear HW8
      obtain ⟨W9, HW9, HB11, HS79⟩ : ∃ W9, Hid (W9 = W8.alloc (.cells #[.int .u8 7] 5)) ∧ Hid (Below W8.heap.size W8 W9) ∧ Hid (Sl W9 (.slice (some ⟨W8.heap.size, 0, none⟩) 1 1) [7]) := ⟨_, Lib.hid rfl, Lib.hid ((Below.refl _ _).alloc (Nat.le_refl _) _), Lib.hid (Sl.made W8 [7] _ _ _ _ (by rfl) rfl (by decide) rfl)⟩
      have HS9 := Lib.hid (HS8.out.later HB11.out)
      have K19 : Hid (Own8 W9 w.heap.size (.slice aa l.length ca) l) := Lib.hid (K18.out.later HB11.out)
      have X69 := Lib.hid (X68.out.later (HB11.out.block _ (Array.getElem?_eq_some_iff.1 X68.out).1))
      have X79 := Lib.hid (X78.out.later (HB11.out.block _ (Array.getElem?_eq_some_iff.1 X78.out).1))
      have X89 := Lib.hid (X88.out.later (HB11.out.block _ (Array.getElem?_eq_some_iff.1 X88.out).1))
      have HB12 := Lib.hid (HB10.out.trans (HB11.out.mono HB10.out.size))
      have HLL : Hid (l.length + [(7 : UInt8)].length ≤ 1000000000) := Lib.hid (by simp; omega)
      rw [HW9.out] at K19 HS79 HB12
      go_upto_region 16 with (at_builtin; refine wpList_append8 rfl _ _ rfl w.heap.size _ l rfl K19.out _ [7] rfl HS79.out HLL.out HB12.out.size ?_; intro v10 w10 hv10 hg10 hor10)
      rw [← HW9.out] at K19 HS79 HB12 hg10 hor10
      have HP10 := Lib.hid (Pc.grown HS9.out K2.out K3.out hg10 hv10 hor10)
      have Y6 : Hid (w10.heap[b6]? = some (.cells (B8 H).toArray 29 (0, 0))) := Lib.hid ((hg10.block b6 (Array.getElem?_eq_some_iff.1 X69.out).1 (fun e => by have := (NA.out b6 e.symm).1; omega)).trans X69.out)
      have Y7 : Hid (w10.heap[b7]? = some (.cells (B8 H).toArray 29 (0, 0))) := Lib.hid ((hg10.block b7 (Array.getElem?_eq_some_iff.1 X79.out).1 (fun e => by have := (NA.out b7 e.symm).2.1; omega)).trans X79.out)
      have Y8 : Hid (w10.heap[b8]? = some (.cells (B8 H).toArray 29 (0, 0))) := Lib.hid ((hg10.block b8 (Array.getElem?_eq_some_iff.1 X89.out).1 (fun e => by have := (NA.out b8 e.symm).2.2; omega)).trans X89.out)
      have HB13 := Lib.hid (HB12.out.trans (K19.out.below hg10 HB12.out.size))
      clear hv10 hg10 hor10
      go_wp2_with fail
      refine (alive02_any w10).mono ?_
      rintro e w11 ⟨rfl, b11⟩
      have HP11 := Lib.hid (HP10.out.later b11)
      have Z6 := Lib.hid ((b11.block _ (Array.getElem?_eq_some_iff.1 Y6.out).1).trans Y6.out)
      have Z7 := Lib.hid ((b11.block _ (Array.getElem?_eq_some_iff.1 Y7.out).1).trans Y7.out)
      have Z8 := Lib.hid ((b11.block _ (Array.getElem?_eq_some_iff.1 Y8.out).1).trans Y8.out)
      have HB14 := Lib.hid (HB13.out.trans (b11.mono HB13.out.size))
      clear b11
      have heq := fun W => eq_hash H H HHL.out HHL.out W
      rw [decide_eq_true rfl] at heq
      go_wp2_with (first
        | refine wpList_load_want (by rfl) 29 _ rfl b6 rfl _ (B8 H).toArray (0, 0) _ Z6.out Try.underlying29 rfl I32.out ?_
        | refine wpList_load_want (by rfl) 29 _ rfl b7 rfl _ (B8 H).toArray (0, 0) _ Z7.out Try.underlying29 rfl I32.out ?_
        | refine wpList_load_want (by rfl) 29 _ rfl b8 rfl _ (B8 H).toArray (0, 0) _ Z8.out Try.underlying29 rfl I32.out ?_)
      refine (SSum_any p w.heap.size (l ++ [7]) w11 HP11.out.s.at (by rw [List.length_append]; simp; omega)).mono ?_
      rintro e w12 ⟨rfl, b12⟩
      have HP12 := Lib.hid (HP11.out.later b12)
      have HB15 := Lib.hid (HB14.out.trans (b12.mono HB14.out.size))
      clear b12
      go_wp2_with fail
      refine (Sum_any _ (l ++ [7]) w12 HP12.out.a.sl (by rw [List.length_append]; simp; omega)).mono ?_
      rintro e w13 ⟨rfl, b13⟩
      have HB16 := Lib.hid (HB15.out.trans (b13.mono HB15.out.size))
      clear b13
      have heq2 := fun W => eq_hash (sha (l ++ [7])) (sha (l ++ [7])) (sha_length _) (sha_length _) W
      rw [decide_eq_true rfl] at heq2
      go_wp2_with fail
      go_ret
      exact ⟨rfl, HB16.out⟩
end Go.Proofs.Ytabgnahjejhnkaa

/- The walk of the law DigitsCheck. -/
import Derived.Test.YtabgnahjejhnkaaDigI
import Derived.Test.YtabgnahjejhnkaaPlCheck
import Derived.Test.YtabgnahjejhnkaaEq
import Derived.Test.YtabgnahjejhnkaaVar
namespace Go.Proofs.Ytabgnahjejhnkaa
open Go Go.RowKit
set_option maxHeartbeats 2000000
set_option maxRecDepth 100000

def anyGt (A B : List Int) (j : Nat) : Bool := (List.range j).any fun i => decide (B.getD i 0 < A.getD i 0)
theorem anyGt_succ (A B : List Int) (j : Nat) : anyGt A B (j + 1) = (anyGt A B j || decide (B.getD j 0 < A.getD j 0)) := by
  simp [anyGt, List.range_succ]
theorem anyGt_all (l m : List UInt8) (k : Nat) (hl : l.length = 32) (hm : m.length = 32) (hk : k = 1 ∨ k = 2 ∨ k = 4 ∨ k = 8) (hne : l ≠ m) : anyGt (NI (allN l k)) (NI (allN m k)) (256 / k + chkN k) = true := by
  obtain ⟨i, hi, hlt⟩ := greater l m k hl hm hk hne
  rw [anyGt, List.any_eq_true]
  refine ⟨i, List.mem_range.2 hi, ?_⟩
  rw [decide_eq_true_iff, NI_getD, NI_getD]
  omega

theorem DigitsCheck_any (l m : List UInt8) (n : Int) (w : World) (hl : l.length = 32) (hm : m.length = 32) (hn : -9223372036854775808 ≤ n ∧ n ≤ 9223372036854775807) :
    Calls Try.prog 11 #[.agg (B8 l).toArray, .agg (B8 m).toArray, .int .i64 n] w fun e w' => e = .returned (.bool true) ∧ Below w.heap.size w w' := by
  have I32 : Hid ((Try.prog.info? 29).map (·.size) = some (B8 l).toArray.size) := Lib.hid (by rw [info_h32]; simp [B8_length, hl])
  have J32 : Hid ((Try.prog.info? 29).map (·.size) = some (B8 m).toArray.size) := Lib.hid (by rw [info_h32]; simp [B8_length, hm])
  obtain ⟨U, HU, HUB, HUR, HUS⟩ : ∃ V, Hid (V = w.alloc (.cells (B8 l).toArray 29)) ∧ Hid (Below w.heap.size w V) ∧ Hid (Arr8 V w.heap.size 29 l) ∧ Hid (V.heap.size = w.heap.size + 1) := ⟨_, Lib.hid rfl, Lib.hid ((Below.refl _ _).alloc (Nat.le_refl _) _), Lib.hid (box32 l w), Lib.hid (by simp)⟩
  obtain ⟨V, HV, HVB, HVR, HVT⟩ : ∃ V, Hid (V = U.alloc (.cells (B8 m).toArray 29)) ∧ Hid (Below w.heap.size w V) ∧ Hid (Arr8 V w.heap.size 29 l) ∧ Hid (Arr8 V (w.heap.size + 1) 29 m) := ⟨_, Lib.hid rfl, Lib.hid (HUB.out.alloc HUB.out.size _), Lib.hid (HUR.out.later (heap_alloc_old _ _ (by rw [HUS.out]; omega))), Lib.hid (by rw [← HUS.out]; exact box32 m U)⟩
  have HL := Lib.hid hl
  have HM := Lib.hid hm
  by_cases hw : isW n = true
  · obtain ⟨k, rfl⟩ : ∃ k : Nat, n = k := ⟨n.toNat, by rcases (isW_iff n).1 hw with h | h | h | h <;> omega⟩
    have hk : k = 1 ∨ k = 2 ∨ k = 4 ∨ k = 8 := by rcases (isW_iff _).1 hw with h | h | h | h <;> omega
    have H1 := Lib.hid (fun w' => All_any l k w' hl hn)
    have H2 := Lib.hid (fun w' => All_any m k w' hm hn)
    obtain ⟨e1, e2, e3, e4⟩ := own_of k hk
    have ea : ∀ l, allV l k = NI (allN l k) := fun l => by rw [allV, if_pos hw, Int.toNat_natCast]
    rw [ea, e4] at H1 H2
    have hG1 : l ≠ m → anyGt (NI (allN l k)) (NI (allN m k)) (256 / k + chkN k) = true := anyGt_all l m k hl hm hk
    have hG2 : l ≠ m → anyGt (NI (allN m k)) (NI (allN l k)) (256 / k + chkN k) = true := fun h => anyGt_all m l k hm hl hk (Ne.symm h)
    have hE : l = m → NI (allN l k) = NI (allN m k) := fun h => by rw [h]
    have hN1 : (NI (allN l k)).length = 256 / k + chkN k := by rw [NI_length, allN_length]
    have hN2 : (NI (allN m k)).length = 256 / k + chkN k := by rw [NI_length, allN_length]
    have hNb : 256 / k + chkN k ≤ 265 := by rcases hk with rfl | rfl | rfl | rfl <;> decide
    generalize 256 / k + chkN k = N at hG1 hG2 hN1 hN2 hNb
    generalize NI (allN l k) = A at H1 hG1 hG2 hE hN1
    generalize NI (allN m k) = B at H2 hG1 hG2 hE hN2
    have HN1 := Lib.hid hN1
    have HN2 := Lib.hid hN2
    have HG1 := Lib.hid hG1
    have HG2 := Lib.hid hG2
    have HE := Lib.hid hE
    have HK := Lib.hid hk
    clear hw hn e1 e2 e3 e4 ea hG1 hG2 hE hN1 hN2 hl hm hk
    go_enter Try.func11, Try.ntmps11
    go_upto_region 1 with (fail)
    rw [← HU.out, ← HV.out]
    go_wp2_with (refine wpList_load_row rfl 29 _ rfl w.heap.size rfl _ (B8 l).toArray (0, 0) _ HVR.out Try.underlying29 rfl I32.out ?_)
    refine (H1.out V).mono ?_
    rintro e w1 ⟨v1, rfl, s1, b1⟩
    have HR1 : Hid (Arr8 w1 w.heap.size 29 l) := Lib.hid (HVR.out.later (b1.block _ (Array.getElem?_eq_some_iff.1 HVR.out).1))
    have HT1 : Hid (Arr8 w1 (w.heap.size + 1) 29 m) := Lib.hid (HVT.out.later (b1.block _ (Array.getElem?_eq_some_iff.1 HVT.out).1))
    have HB1 := Lib.hid (HVB.out.trans (b1.mono HVB.out.size))
    have HS1 := Lib.hid s1
    obtain ⟨a1, c1, rfl⟩ := s1.shape
    rw [HN1.out]
    clear s1 b1
    go_wp2_with (refine wpList_load_row rfl 29 _ rfl (w.heap.size + 1) rfl _ (B8 m).toArray (0, 0) _ HT1.out Try.underlying29 rfl J32.out ?_)
    refine (H2.out w1).mono ?_
    rintro e w2 ⟨v2, rfl, s2, b2⟩
    have HR2 : Hid (Arr8 w2 w.heap.size 29 l) := Lib.hid (HR1.out.later (b2.block _ (Array.getElem?_eq_some_iff.1 HR1.out).1))
    have HT2 : Hid (Arr8 w2 (w.heap.size + 1) 29 m) := Lib.hid (HT1.out.later (b2.block _ (Array.getElem?_eq_some_iff.1 HT1.out).1))
    have HB2 := Lib.hid (HB1.out.trans (b2.mono HB1.out.size))
    have HS12 := Lib.hid (HS1.out.later b2)
    have HS2 := Lib.hid s2
    obtain ⟨a2, c2, rfl⟩ := s2.shape
    rw [HN2.out]
    clear s2 b2
    by_cases hlm : l = m
    · have HI := Lib.hid (fun W (h : Below w2.heap.size w2 W) => Ints_any _ _ A B W (HS12.out.later h) (HS2.out.later h) (by rw [HN1.out]; omega) (by rw [HN2.out]; omega))
      rw [decide_eq_true (HE.out hlm), HN1.out, HN2.out] at HI
      have heq := eq_hash l m HL.out HM.out w2
      rw [decide_eq_true hlm] at heq
      clear hlm
      go_wp2_with (first
        | refine wpList_load_want (by rfl) 29 _ rfl w.heap.size rfl _ (B8 l).toArray (0, 0) _ HR2.out Try.underlying29 rfl I32.out ?_
        | refine wpList_load_want (by rfl) 29 _ rfl (w.heap.size + 1) rfl _ (B8 m).toArray (0, 0) _ HT2.out Try.underlying29 rfl J32.out ?_)
      refine (alive03_any _).mono ?_
      rintro e w3 ⟨rfl, b3⟩
      have HB3 : Hid (Below w.heap.size w w3) := Lib.hid (HB2.out.trans (b3.mono HB2.out.size))
      have HC := Lib.hid (HI.out w3 b3)
      clear b3 heq
      go_wp2_with fail
      refine HC.out.mono ?_
      rintro e w4 ⟨rfl, mm, rfl⟩
      go_wp2_with fail
      go_ret
      exact ⟨rfl, HB3.out.os, HB3.out.tape, HB3.out.output, HB3.out.size, HB3.out.block⟩
    · have HP1 := Lib.hid (HG1.out hlm)
      have HP2 := Lib.hid (HG2.out hlm)
      have heq := eq_hash l m HL.out HM.out w2
      rw [decide_eq_false hlm] at heq
      clear hlm
      go_wp2_with (first
        | refine wpList_load_want (by rfl) 29 _ rfl w.heap.size rfl _ (B8 l).toArray (0, 0) _ HR2.out Try.underlying29 rfl I32.out ?_
        | refine wpList_load_want (by rfl) 29 _ rfl (w.heap.size + 1) rfl _ (B8 m).toArray (0, 0) _ HT2.out Try.underlying29 rfl J32.out ?_)
      clear heq
      go_loopw [11, 12, 13] (fun p q i wr => ∃ (j d : Nat) (x y : Bool), j ≤ N ∧ i = .int .i64 j ∧ p = .bool x ∧ q = .bool y ∧ Hid (x = anyGt A B j) ∧ Hid (y = anyGt B A j) ∧ wr = w2.drewN d) (fun _ _ i _ => N - (intOf i).toNat)
      case atStart => exact ⟨0, 0, false, false, by omega, rfl, rfl, rfl, Lib.hid rfl, Lib.hid rfl, rfl⟩
      case round =>
        obtain ⟨j, d, x, y, hj, rfl, rfl, rfl, HX, HY, rfl⟩ := hrel
        by_cases hlt : j < N
        · obtain ⟨b1, o1, rfl, _, q1, c1⟩ := HS12.out.cellAt (i := j) (by rw [HN1.out]; exact hlt)
          have d1 := c1 j (by rw [HN1.out]; exact hlt)
          obtain ⟨b2, o2, rfl, _, q2, c2⟩ := HS2.out.cellAt (i := j) (by rw [HN2.out]; exact hlt)
          have d2 := c2 j (by rw [HN2.out]; exact hlt)
          rw [HN1.out] at q1
          rw [HN2.out] at q2
          have HX' := Lib.hid (anyGt_succ A B j)
          have HY' := Lib.hid (anyGt_succ B A j)
          rw [← HX.out] at HX'
          rw [← HY.out] at HY'
          generalize A.getD j 0 = z1 at d1 HX' HY'
          generalize B.getD j 0 = z2 at d2 HX' HY'
          have hlt' : (j : Int) < N := by omega
          clear c1 c2 HX HY
          go_wp2_with fail
          rcases x with _ | _ <;> rcases y with _ | _
          all_goals
            go_quiet (fail)
            go_wp2_with fail
            go_quiet (fail)
            go_wp2_with fail
            go_roundw
            case rel => exact ⟨j + 1, _, _, _, by omega, by go_num, rfl, rfl, Lib.hid (by rw [HX'.out]; simp), Lib.hid (by rw [HY'.out]; simp), rfl⟩
            case measure => simp [intOf]; omega
        · obtain rfl : j = N := by omega
          rw [HP1.out] at HX
          rw [HP2.out] at HY
          obtain rfl := HX.out
          obtain rfl := HY.out
          go_wp2_with fail
          refine (alive03_any _).mono ?_
          rintro e w3 ⟨rfl, b3⟩
          have HB3 : Hid (Below w.heap.size w w3) := Lib.hid (HB2.out.trans ((show Below w2.heap.size w2 w3 from ⟨b3.os, b3.tape, b3.output, b3.size, b3.block⟩).mono HB2.out.size))
          clear b3
          go_wp2_with fail
          go_ret
          exact ⟨rfl, HB3.out⟩
  · have hw' : isW n = false := by simpa using hw
    have he : errW n = 1 := by simp [errW, hw']
    have H1 := Lib.hid (fun w' => All_any l n w' hl hn)
    have H2 := Lib.hid (fun w' => All_any m n w' hm hn)
    have ea : ∀ l, allV l n = [] := fun l => by rw [allV, if_neg hw]
    rw [ea, he] at H1 H2
    have hf : n ≠ 1 ∧ n ≠ 2 ∧ n ≠ 4 ∧ n ≠ 8 := by
      have := mt (isW_iff n).2 hw
      omega
    have g1 : (n != 1) = true := bne_iff_ne.2 hf.1
    have g2 : (n != 2) = true := bne_iff_ne.2 hf.2.1
    have g3 : (n != 4) = true := bne_iff_ne.2 hf.2.2.1
    have g4 : (n != 8) = true := bne_iff_ne.2 hf.2.2.2
    obtain ⟨f1, f2, f3, f4⟩ := hf
    clear hw hw' he ea hl hm
    go_enter Try.func11, Try.ntmps11
    go_upto_region 1 with (fail)
    rw [← HU.out, ← HV.out]
    go_wp2_with (refine wpList_load_row rfl 29 _ rfl w.heap.size rfl _ (B8 l).toArray (0, 0) _ HVR.out Try.underlying29 rfl I32.out ?_)
    refine (H1.out V).mono ?_
    rintro e w1 ⟨v1, rfl, s1, b1⟩
    have HT1 : Hid (Arr8 w1 (w.heap.size + 1) 29 m) := Lib.hid (HVT.out.later (b1.block _ (Array.getElem?_eq_some_iff.1 HVT.out).1))
    have HB1 := Lib.hid (HVB.out.trans (b1.mono HVB.out.size))
    have HS1 := Lib.hid s1
    obtain ⟨a1, c1, rfl⟩ := s1.shape
    clear s1 b1
    go_wp2_with (refine wpList_load_row rfl 29 _ rfl (w.heap.size + 1) rfl _ (B8 m).toArray (0, 0) _ HT1.out Try.underlying29 rfl J32.out ?_)
    refine (H2.out w1).mono ?_
    rintro e w2 ⟨v2, rfl, s2, b2⟩
    have HB2 := Lib.hid (HB1.out.trans (b2.mono HB1.out.size))
    have HS12 := Lib.hid (HS1.out.later b2)
    have HS2 := Lib.hid s2
    obtain ⟨a2, c2, rfl⟩ := s2.shape
    clear s2 b2
    have HI := Lib.hid (fun W (h : Below w2.heap.size w2 W) => Ints_any _ _ [] [] W (HS12.out.later h) (HS2.out.later h) (by simp) (by simp))
    rw [decide_eq_true rfl] at HI
    go_wp2_with fail
    refine (alive03_any _).mono ?_
    rintro e w3 ⟨rfl, b3⟩
    have HB3 : Hid (Below w.heap.size w w3) := Lib.hid (HB2.out.trans (b3.mono HB2.out.size))
    have HC := Lib.hid (HI.out w3 b3)
    clear b3
    go_wp2_with fail
    refine HC.out.mono ?_
    rintro e w4 ⟨rfl, mm, rfl⟩
    go_wp2_with fail
    go_ret
    exact ⟨rfl, HB3.out.os, HB3.out.tape, HB3.out.output, HB3.out.size, HB3.out.block⟩
end Go.Proofs.Ytabgnahjejhnkaa

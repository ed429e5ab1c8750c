/- The walk of the chapter's heard. -/
import Derived.Test.YtgkhgjoggkcklaaPlMoves
import Derived.Test.YtgkhgjoggkcklaaEAlive
namespace Go.Proofs.Ytgkhgjoggkcklaa
open Go Go.RowKit
set_option maxRecDepth 100000
set_option maxHeartbeats 2000000

def heardOne (me : Nat) (x : Int) (votes : List Int) (b : Int) : Bool := decide (0 ≤ b ∧ b < votes.length ∧ b ≠ me ∧ votes.getD b.toNat 0 < x)
theorem heardB_take (who : List Int) (me : Nat) (x : Int) (votes : List Int) (j : Nat) (h : j < who.length) : heardB (who.take (j + 1)) me x votes = (heardB (who.take j) me x votes || heardOne me x votes (who.getD j 0)) := by
  rw [take_succ' who j h, heardB, List.any_append, heardB]
  simp [heardOne]
theorem heardB_some (who : List Int) (me : Nat) (x : Int) (votes : List Int) (j : Nat) (h : j < who.length) (h1 : heardOne me x votes (who.getD j 0) = true) : heardB who me x votes = true := by
  rw [heardB, List.any_eq_true]
  refine ⟨who.getD j 0, ?_, h1⟩
  simp [h]
theorem heard_any (F T : Int) (me : Nat) (view : Int) (v vw : Value) (clock wait x : Int) (votes who : List Int) (w : World) (hv : SlI w .i64 v votes) (hw : SlI w .i64 vw who) (hl : who.length ≤ 1000000) :
    Calls Try.prog 15 #[.agg (ElV F T me view v clock wait), vw, .int .i64 x] w fun e w' => e = .returned (.bool (heardB who me x votes)) ∧ Below w.heap.size w w' := by
  obtain ⟨va, vc, rfl⟩ := hv.shape
  obtain ⟨wa, wc, rfl⟩ := hw.shape
  obtain ⟨V, HV, HB, HE⟩ : ∃ V, Hid (V = w.alloc (.cells (ElV F T me view (.slice va votes.length vc) clock wait) 26)) ∧ Hid (Below w.heap.size w V) ∧ Hid (ElB V w.heap.size 26 F T me view (.slice va votes.length vc) clock wait) := ⟨_, Lib.hid rfl, Lib.hid ((Below.refl _ _).alloc (Nat.le_refl _) _), Lib.hid (heap_alloc_new _ _)⟩
  obtain ⟨M, HM⟩ : ∃ M, Hid (M = votes.length) := ⟨_, Lib.hid rfl⟩
  obtain ⟨N, HN⟩ : ∃ N, Hid (N = who.length) := ⟨_, Lib.hid rfl⟩
  have HS := Lib.hid (hv.later HB.out)
  have HW := Lib.hid (hw.later HB.out)
  have hN : N ≤ 1000000 := by rw [HN.out]; exact hl
  rw [← HM.out] at HS HE HV
  rw [← HN.out] at HW
  rw [← HM.out, ← HN.out]
  obtain ⟨R, HR⟩ : ∃ R, Hid (R = heardB who me x votes) := ⟨_, Lib.hid rfl⟩
  rw [← HR.out]
  obtain ⟨c0, c1, c2, c3, c4, c5, c6⟩ := HE.out.cells
  clear hv hw hl
  go_enter Try.func15, Try.ntmps15
  go_upto_region 2 with (fail)
  rw [← HV.out]
  go_loopw [7] (fun i wr => ∃ j d : Nat, j ≤ N ∧ i = .int .i64 j ∧ Hid (heardB (who.take j) me x votes = false) ∧ wr = V.drewN d) (fun i _ => N - (intOf i).toNat)
  case atStart => exact ⟨0, 0, by omega, rfl, Lib.hid (by simp [heardB]), rfl⟩
  case round =>
    obtain ⟨j, d, hj, rfl, HJ, rfl⟩ := hrel
    by_cases hlt : j < N
    · obtain ⟨b, o, rfl, -, q, cl⟩ := HW.out.cellAt (i := j) (by rw [← HN.out]; exact hlt)
      have d1 := cl j (by rw [← HN.out]; exact hlt)
      rw [← HN.out] at q
      have HJ' := Lib.hid (heardB_take who me x votes j (by rw [← HN.out]; exact hlt))
      rw [HJ.out, Bool.false_or] at HJ'
      have HT := Lib.hid (heardB_some who me x votes j (by rw [← HN.out]; exact hlt))
      rw [← HR.out] at HT
      generalize who.getD j 0 = z at d1 HJ' HT
      have hlt' : (j : Int) < N := by omega
      clear cl HJ
      by_cases h1 : 0 ≤ z
      · have g1 : decide (0 ≤ z) = true := decide_eq_true h1
        by_cases h2 : z < M
        · have g2 : decide (z < (M : Int)) = true := decide_eq_true h2
          by_cases h3 : z = me
          · have g3 : (z != (me : Int)) = false := by rw [h3]; simp
            have HF : Hid (heardOne me x votes z = false) := Lib.hid (by rw [heardOne, decide_eq_false_iff_not]; exact fun h => h.2.2.1 h3)
            rw [HF.out] at HJ'
            clear h3
            go_wp2_with fail
            go_quiet (fail)
            go_wp2_with fail
            go_roundw
            case rel => exact ⟨j + 1, _, by omega, by go_num, HJ', rfl⟩
            case measure => simp [intOf]; omega
          · have g3 : (z != (me : Int)) = true := bne_iff_ne.2 h3
            obtain ⟨k, rfl⟩ : ∃ k : Nat, z = k := ⟨z.toNat, by omega⟩
            have hk : k < M := by omega
            obtain ⟨b2, o2, rfl, -, q2, cl2⟩ := HS.out.cellAt (i := k) (by rw [← HM.out]; exact hk)
            have d2 := cl2 k (by rw [← HM.out]; exact hk)
            rw [← HM.out] at q2
            have HO : Hid (heardOne me x votes k = decide (votes.getD k 0 < x)) := Lib.hid (by rw [heardOne, Int.toNat_natCast]; exact decide_eq_decide.2 ⟨fun h => h.2.2.2, fun h => ⟨h1, by rw [← HM.out]; exact h2, h3, h⟩⟩)
            rw [HO.out] at HJ' HT
            have hb2 := World.block_lt_of_cell? _ _ d2
            generalize votes.getD k 0 = u at d2 HJ' HT
            clear cl2 HO
            by_cases h4 : u < x
            · have g4 : decide (u < x) = true := decide_eq_true h4
              have HF : Hid (R = true) := Lib.hid (HT.out g4)
              obtain rfl := HF.out
              go_wp2_with fail
              go_quiet (fail)
              go_wp2_with fail
              go_ret
              exact ⟨rfl, HB.out.os, HB.out.tape, HB.out.output, HB.out.size, HB.out.block⟩
            · have g4 : decide (u < x) = false := decide_eq_false h4
              rw [g4] at HJ'
              go_wp2_with fail
              go_quiet (fail)
              go_wp2_with fail
              go_roundw
              case rel => exact ⟨j + 1, _, by omega, by go_num, HJ', rfl⟩
              case measure => simp [intOf]; omega
        · have g2 : decide (z < (M : Int)) = false := decide_eq_false h2
          have HF : Hid (heardOne me x votes z = false) := Lib.hid (by rw [heardOne, decide_eq_false_iff_not, ← HM.out]; exact fun h => h2 h.2.1)
          rw [HF.out] at HJ'
          go_wp2_with fail
          go_quiet (fail)
          go_wp2_with fail
          go_roundw
          case rel => exact ⟨j + 1, _, by omega, by go_num, HJ', rfl⟩
          case measure => simp [intOf]; omega
      · have g1 : decide (0 ≤ z) = false := decide_eq_false h1
        have HF : Hid (heardOne me x votes z = false) := Lib.hid (by rw [heardOne, decide_eq_false_iff_not]; exact fun h => h1 h.1)
        rw [HF.out] at HJ'
        go_wp2_with fail
        go_quiet (fail)
        go_wp2_with fail
        go_roundw
        case rel => exact ⟨j + 1, _, by omega, by go_num, HJ', rfl⟩
        case measure => simp [intOf]; omega
    · obtain rfl : j = N := by omega
      have HF : Hid (R = false) := Lib.hid (by rw [HR.out, ← HJ.out, HN.out, List.take_length])
      obtain rfl := HF.out
      go_wp2_with fail
      go_ret
      exact ⟨rfl, HB.out.os, HB.out.tape, HB.out.output, HB.out.size, HB.out.block⟩
end Go.Proofs.Ytgkhgjoggkcklaa

/- The walk of the document's Nth. -/
import Derived.Test.YtgkhgjoggkcklaaLawENth
import Derived.Test.YtgkhgjoggkcklaaPlMoves
namespace Go.Proofs.Ytgkhgjoggkcklaa
open Go Go.RowKit
set_option maxRecDepth 100000
set_option maxHeartbeats 2000000

/-- what the document's Nth has found among the first j numbers -/
def NthI (l : List Int) (n : Int) (j : Nat) (best : Int) (had : Bool) : Prop :=
  (had = false ∧ best = 0 ∧ ∀ i, i < j → (cGe l (l.getD i 0) : Int) < n) ∨ (had = true ∧ best ∈ l ∧ n ≤ (cGe l best : Int) ∧ ∀ i, i < j → n ≤ (cGe l (l.getD i 0) : Int) → l.getD i 0 ≤ best)
section
variable {l : List Int} {n : Int} {j : Nat} {best : Int} {had : Bool}
theorem NthI.none : NthI l n 0 0 false := .inl ⟨rfl, rfl, fun _ h => absurd h (Nat.not_lt_zero _)⟩
theorem NthI.keep (h : NthI l n j best had) (hx : (cGe l (l.getD j 0) : Int) < n ∨ (had = true ∧ l.getD j 0 ≤ best)) : NthI l n (j + 1) best had := by
  rcases h with ⟨h1, h2, h3⟩ | ⟨h1, h2, h3, h4⟩
  · refine .inl ⟨h1, h2, fun i hi => ?_⟩
    rcases Nat.lt_or_ge i j with h | h
    · exact h3 i h
    · obtain rfl : i = j := by omega
      rcases hx with hx | ⟨hx, _⟩
      · exact hx
      · rw [h1] at hx; cases hx
  · refine .inr ⟨h1, h2, h3, fun i hi hn => ?_⟩
    rcases Nat.lt_or_ge i j with h | h
    · exact h4 i h hn
    · obtain rfl : i = j := by omega
      rcases hx with hx | ⟨_, hx⟩
      · omega
      · exact hx
theorem NthI.take (h : NthI l n j best had) (hj : j < l.length) (hx : n ≤ (cGe l (l.getD j 0) : Int)) (hb : had = false ∨ best < l.getD j 0) : NthI l n (j + 1) (l.getD j 0) true := by
  have hm : l.getD j 0 ∈ l := by simp [hj]
  refine .inr ⟨rfl, hm, hx, fun i hi hn => ?_⟩
  rcases Nat.lt_or_ge i j with h8 | h8
  · rcases h with ⟨h1, h2, h3⟩ | ⟨h1, h2, h3, h4⟩
    · have := h3 i h8; omega
    · rcases hb with hb | hb
      · rw [h1] at hb; cases hb
      · have := h4 i h8 hn; omega
  · obtain rfl : i = j := by omega
    exact Int.le_refl _
theorem NthI.fin (h : NthI l n l.length best had) (h1 : 1 ≤ n) (h2 : n ≤ l.length) : best = nthV l n := by
  obtain ⟨k, rfl⟩ : ∃ k : Nat, n = k := ⟨n.toNat, by omega⟩
  obtain ⟨a, b, c⟩ := nth_law l k (by omega) (by omega)
  obtain ⟨i, hi, e⟩ := List.getElem_of_mem c
  have e2 : l.getD i 0 = nthV l k := by simpa [hi] using e
  rcases h with ⟨_, _, h3⟩ | ⟨_, h4, h5, h6⟩
  · have := h3 i hi
    rw [e2] at this
    omega
  · have h7 := h6 i hi (by rw [e2]; omega)
    rw [e2] at h7
    have h8 := (le_nthI l k h1 h2 best).2 h5
    omega
end
theorem Nth_ref (v : Value) (l : List Int) (n : Int) (w : World) (hv : SlI w .i64 v l) (hl : l.length ≤ 1000000) :
    Calls Try.prog 30 #[v, .int .i64 n] w fun e w' => e = .returned (.int .i64 (nthV l n)) ∧ Below w.heap.size w w' := by
  obtain ⟨va, vc, rfl⟩ := hv.shape
  obtain ⟨N, HN⟩ : ∃ N, Hid (N = l.length) := ⟨_, Lib.hid rfl⟩
  obtain ⟨R, HR⟩ : ∃ R, Hid (R = nthV l n) := ⟨_, Lib.hid rfl⟩
  have HV := Lib.hid hv
  have hN : N ≤ 1000000 := by rw [HN.out]; exact hl
  rw [← HN.out, ← HR.out]
  clear hv hl
  by_cases h1 : n < 1
  · have HZ : Hid (R = 0) := Lib.hid (by rw [HR.out, nthV, if_pos (.inl h1)])
    have g1 : decide (n < 1) = true := decide_eq_true h1
    obtain rfl := HZ.out
    go_enter Try.func30, Try.ntmps30
    go_wp2_with fail
    go_ret
    exact ⟨rfl, Below.refl _ _⟩
  · have g1 : decide (n < 1) = false := decide_eq_false h1
    by_cases h2 : (N : Int) < n
    · have HZ : Hid (R = 0) := Lib.hid (by rw [HR.out, nthV, if_pos (.inr (by rw [← HN.out]; omega))])
      have g2 : decide ((N : Int) < n) = true := decide_eq_true h2
      obtain rfl := HZ.out
      go_enter Try.func30, Try.ntmps30
      go_wp2_with fail
      go_ret
      exact ⟨rfl, Below.refl _ _⟩
    · have g2 : decide ((N : Int) < n) = false := decide_eq_false h2
      go_enter Try.func30, Try.ntmps30
      go_upto_region 5 with (fail)
      go_loopw [5, 6, 7] (fun b h i wr => ∃ (j d : Nat) (best : Int) (had : Bool), j ≤ N ∧ i = .int .i64 j ∧ b = .int .i64 best ∧ h = .bool had ∧ Hid (NthI l n j best had) ∧ wr = w.drewN d) (fun _ _ i _ => N - (intOf i).toNat)
      case atStart => exact ⟨0, 0, 0, false, by omega, rfl, rfl, rfl, Lib.hid NthI.none, rfl⟩
      case round =>
        obtain ⟨j, d, best, had, hj, rfl, rfl, rfl, HI, rfl⟩ := hrel
        by_cases hlt : j < N
        · have hlt' : (j : Int) < N := by omega
          obtain ⟨vb, vo, rfl, -, q, cl⟩ := HV.out.cellAt (i := j) (by rw [← HN.out]; exact hlt)
          have d0 := cl j (by rw [← HN.out]; exact hlt)
          rw [← HN.out] at q
          have HCL := Lib.hid cl
          obtain ⟨x, Hx⟩ : ∃ x, Hid (x = l.getD j 0) := ⟨_, Lib.hid rfl⟩
          rw [← Hx.out] at d0
          have HJL : Hid (j < l.length) := Lib.hid (by rw [← HN.out]; exact hlt)
          clear cl
          go_upto_region 9 with (fail)
          go_loopw [8, 9] (fun m i wr => ∃ (k c e : Nat), k ≤ N ∧ i = .int .i64 k ∧ m = .int .i64 c ∧ c ≤ k ∧ Hid (c = cGe (l.take k) x) ∧ wr = w.drewN e) (fun _ i _ => N - (intOf i).toNat)
          case atStart => exact ⟨0, 0, d, by omega, rfl, rfl, by omega, Lib.hid (by simp [cGe]), rfl⟩
          case round =>
            obtain ⟨k, c, e, hk, rfl, rfl, hc, HC, rfl⟩ := hrel
            by_cases hlt2 : k < N
            · have hlt2' : (k : Int) < N := by omega
              have d1 := HCL.out k (by rw [← HN.out]; exact hlt2)
              have HC' := Lib.hid (cGe_succ l x k (by rw [← HN.out]; exact hlt2))
              rw [← HC.out] at HC'
              generalize l.getD k 0 = z at d1 HC'
              clear HC
              by_cases hx : x ≤ z
              · rw [if_pos hx] at HC'
                have g3 : decide (x ≤ z) = true := decide_eq_true hx
                go_wp2_with fail
                go_quiet (fail)
                go_wp2_with fail
                go_roundw
                case rel => exact ⟨k + 1, c + 1, _, by omega, by go_num, by go_num, by omega, Lib.hid HC'.out.symm, rfl⟩
                case measure => simp [intOf]; omega
              · rw [if_neg hx] at HC'
                have g3 : decide (x ≤ z) = false := decide_eq_false hx
                go_wp2_with fail
                go_quiet (fail)
                go_wp2_with fail
                go_roundw
                case rel => exact ⟨k + 1, c, _, by omega, by go_num, by go_num, by omega, Lib.hid HC'.out.symm, rfl⟩
                case measure => simp [intOf]; omega
            · obtain rfl : k = N := by omega
              have HCC : Hid (c = cGe l x) := Lib.hid (by rw [HC.out, HN.out, List.take_length])
              clear HC
              by_cases hm : n ≤ c
              · have g3 : decide (n ≤ (c : Int)) = true := decide_eq_true hm
                cases had with
                | false =>
                  have HI2 : Hid (NthI l n (j + 1) x true) := Lib.hid (by rw [Hx.out]; exact HI.out.take HJL.out (by rw [← Hx.out, ← HCC.out]; exact hm) (.inl rfl))
                  go_wp2_with fail
                  go_roundw
                  case rel => exact ⟨j + 1, _, x, true, by omega, by go_num, rfl, rfl, HI2, rfl⟩
                  case measure => simp [intOf]; omega
                | true =>
                  by_cases hb : best < x
                  · have HI2 : Hid (NthI l n (j + 1) x true) := Lib.hid (by rw [Hx.out]; exact HI.out.take HJL.out (by rw [← Hx.out, ← HCC.out]; exact hm) (.inr (by rw [← Hx.out]; exact hb)))
                    have g4 : decide (best < x) = true := decide_eq_true hb
                    go_wp2_with fail
                    go_roundw
                    case rel => exact ⟨j + 1, _, x, true, by omega, by go_num, rfl, rfl, HI2, rfl⟩
                    case measure => simp [intOf]; omega
                  · have HI2 : Hid (NthI l n (j + 1) best true) := Lib.hid (HI.out.keep (.inr ⟨rfl, by rw [← Hx.out]; omega⟩))
                    have g4 : decide (best < x) = false := decide_eq_false hb
                    go_wp2_with fail
                    go_roundw
                    case rel => exact ⟨j + 1, _, best, true, by omega, by go_num, rfl, rfl, HI2, rfl⟩
                    case measure => simp [intOf]; omega
              · have g3 : decide (n ≤ (c : Int)) = false := decide_eq_false hm
                have HI2 : Hid (NthI l n (j + 1) best had) := Lib.hid (HI.out.keep (.inl (by rw [← Hx.out, ← HCC.out]; omega)))
                go_wp2_with fail
                go_roundw
                case rel => exact ⟨j + 1, _, best, had, by omega, by go_num, rfl, rfl, HI2, rfl⟩
                case measure => simp [intOf]; omega
        · obtain rfl : j = N := by omega
          have HE : Hid (best = R) := Lib.hid (by rw [HR.out]; rw [HN.out] at HI; exact HI.out.fin (by omega) (by rw [← HN.out]; omega))
          go_wp2_with fail
          go_ret
          exact ⟨by rw [HE.out]; rfl, ⟨rfl, rfl, rfl, Nat.le_refl _, fun _ _ => rfl⟩⟩
end Go.Proofs.Ytgkhgjoggkcklaa

/- The walks of the chapter's above and of the law ElectNth. -/
import Derived.Test.YtgkhgjoggkcklaaEAlive
import Derived.Test.YtgkhgjoggkcklaaPlNth
namespace Go.Proofs.Ytgkhgjoggkcklaa
open Go Go.RowKit
set_option maxRecDepth 100000
set_option maxHeartbeats 1000000

theorem above_any (v : Value) (l : List Int) (x : Int) (w : World) (hv : SlI w .i64 v l) (hl : l.length ≤ 1000000) :
    Calls Try.prog 13 #[v, .int .i64 x] w fun e w' => e = .returned (.int .i64 ((cGe l x : Nat) : Int)) ∧ w' = w := by
  obtain ⟨va, vc, rfl⟩ := hv.shape
  obtain ⟨N, HN⟩ : ∃ N, Hid (N = l.length) := ⟨_, Lib.hid rfl⟩
  have HV := Lib.hid hv
  have hN : N ≤ 1000000 := by rw [HN.out]; exact hl
  rw [← HN.out]
  clear hv hl
  go_enter Try.func13, Try.ntmps13
  go_wp2_with fail
  go_loop [5, 6] (fun n i => ∃ j c : Nat, j ≤ N ∧ i = .int .i64 j ∧ n = .int .i64 c ∧ c ≤ j ∧ Hid (c = cGe (l.take j) x)) (fun _ i => N - (intOf i).toNat)
  case atStart => exact ⟨0, 0, by omega, rfl, rfl, by omega, Lib.hid (by simp [cGe])⟩
  case round =>
    obtain ⟨j, c, hj, rfl, rfl, hc, HC⟩ := hrel
    by_cases hlt : j < N
    · obtain ⟨b, o, rfl, -, q, cl⟩ := HV.out.cellAt (i := j) (by rw [← HN.out]; exact hlt)
      have d := cl j (by rw [← HN.out]; exact hlt)
      rw [← HN.out] at q
      have HC' := Lib.hid (cGe_succ l x j (by rw [← HN.out]; exact hlt))
      rw [← HC.out] at HC'
      generalize l.getD j 0 = z at d HC'
      have hlt' : (j : Int) < N := by omega
      clear cl HC
      by_cases hx : x ≤ z
      · rw [if_pos hx] at HC'
        go_wp2_with fail
        go_round
        case rel => exact ⟨j + 1, c + 1, by omega, by go_num, by go_num, by omega, Lib.hid HC'.out.symm⟩
        case measure => simp [intOf]; omega
      · rw [if_neg hx] at HC'
        go_wp2_with fail
        go_round
        case rel => exact ⟨j + 1, c, by omega, by go_num, by go_num, by omega, Lib.hid HC'.out.symm⟩
        case measure => simp [intOf]; omega
    · obtain rfl : j = N := by omega
      have HE : Hid (cGe l x = c) := Lib.hid (by rw [HC.out, HN.out, List.take_length])
      go_wp2_with fail
      go_ret
      exact ⟨by rw [HE.out]; rfl, rfl⟩
theorem ElectNth_main (v : Value) (l : List Int) (n : Int) (w : World) (hv : SlI w .i64 v l) :
    Calls Try.prog 4 #[v, .int .i64 n] w fun e w' => e = .returned (.bool true) ∧ Below w.heap.size w w' := by
  obtain ⟨va, vc, rfl⟩ := hv.shape
  obtain ⟨N, HN⟩ : ∃ N, Hid (N = l.length) := ⟨_, Lib.hid rfl⟩
  rw [← HN.out] at hv ⊢
  have HV := Lib.hid hv
  clear hv
  by_cases hl : N ≤ 60
  · have hli : (N : Int) ≤ 60 := by omega
    have HNT := Lib.hid (Nth_any _ l n w HV.out (by rw [← HN.out]; omega))
    have HAB := Lib.hid (fun x w' h => above_any (.slice va N vc) l x w' h (by rw [← HN.out]; omega))
    by_cases h1 : n < 1
    · rw [nthV, if_pos (.inl h1)] at HNT
      go_enter Try.func4, Try.ntmps4
      go_wp2_with (first
        | (go_at_call 17; refine HNT.out.mono ?_; rintro e w1 ⟨rfl, b1⟩; have HB1 := Lib.hid b1; clear b1)
        | (go_at_call 11; refine (alive24_any _).mono ?_; rintro e w2 ⟨rfl, b2⟩; have HB2 := Lib.hid (HB1.out.trans (b2.mono HB1.out.size)); clear b2))
      go_ret
      exact ⟨rfl, HB2.out⟩
    · by_cases h2 : n > N
      · rw [nthV, if_pos (.inr (by rw [← HN.out]; exact h2))] at HNT
        go_enter Try.func4, Try.ntmps4
        go_wp2_with (first
          | (go_at_call 17; refine HNT.out.mono ?_; rintro e w1 ⟨rfl, b1⟩; have HB1 := Lib.hid b1; clear b1)
          | (go_at_call 11; refine (alive24_any _).mono ?_; rintro e w2 ⟨rfl, b2⟩; have HB2 := Lib.hid (HB1.out.trans (b2.mono HB1.out.size)); clear b2))
        go_ret
        exact ⟨rfl, HB2.out⟩
      · obtain ⟨k, rfl⟩ : ∃ k : Nat, n = k := ⟨n.toNat, by omega⟩
        obtain ⟨a, b, c⟩ := nth_law l k (by omega) (by rw [← HN.out]; omega)
        rw [← anyEq_mem] at c
        generalize nthV l k = x at *
        have HA := Lib.hid a
        have HC := Lib.hid b
        have HD := Lib.hid c
        have h1' : 1 ≤ k := by omega
        have h2' : k ≤ N := by omega
        clear a b c h1 h2
        go_enter Try.func4, Try.ntmps4
        go_upto_region 8 with (first
          | (go_at_call 17; refine HNT.out.mono ?_; rintro e w1 ⟨rfl, b1⟩; have HB1 := Lib.hid b1; clear b1))
        have HV1 := Lib.hid (HV.out.later HB1.out)
        go_loop [6, 7, 8] (fun m y i => ∃ (j c : Nat) (z : Bool), j ≤ N ∧ i = .int .i64 j ∧ m = .int .i64 c ∧ y = .bool z ∧ c ≤ j ∧ Hid (c = cGt (l.take j) x) ∧ Hid (z = anyEq (l.take j) x)) (fun _ _ i => N - (intOf i).toNat)
        case atStart => exact ⟨0, 0, false, by omega, rfl, rfl, rfl, by omega, Lib.hid (by simp [cGt]), Lib.hid (by simp [anyEq])⟩
        case round =>
          obtain ⟨j, c, z, hj, rfl, rfl, rfl, hc, HC1, HZ⟩ := hrel
          by_cases hlt : j < N
          · obtain ⟨b, o, rfl, -, q, cl⟩ := HV1.out.cellAt (i := j) (by rw [← HN.out]; exact hlt)
            have d1 := cl j (by rw [← HN.out]; exact hlt)
            rw [← HN.out] at q
            have HC' := Lib.hid (cGt_succ l x j (by rw [← HN.out]; exact hlt))
            rw [← HC1.out] at HC'
            have HZ' := Lib.hid (anyEq_succ l x j (by rw [← HN.out]; exact hlt))
            rw [← HZ.out] at HZ'
            generalize l.getD j 0 = t at d1 HC' HZ'
            have hlt' : (j : Int) < N := by omega
            clear cl HC1 HZ
            by_cases hx : x < t
            · rw [if_pos hx] at HC'
              have hx2 : (t == x) = false := beq_eq_false_iff_ne.2 (by omega)
              have hx3 : t ≠ x := by omega
              rcases z with _ | _
              all_goals
                go_wp2_with fail
                go_round
                case rel => exact ⟨j + 1, c + 1, _, by omega, by go_num, by go_num, rfl, by omega, Lib.hid HC'.out.symm, Lib.hid (by rw [HZ'.out]; simp [hx2])⟩
                case measure => simp [intOf]; omega
            · rw [if_neg hx] at HC'
              by_cases hx4 : t = x
              · subst hx4
                rcases z with _ | _
                all_goals
                  go_wp2_with fail
                  go_round
                  case rel => exact ⟨j + 1, c, _, by omega, by go_num, by go_num, rfl, by omega, Lib.hid HC'.out.symm, Lib.hid (by rw [HZ'.out]; simp)⟩
                  case measure => simp [intOf]; omega
              · have hx2 : (t == x) = false := beq_eq_false_iff_ne.2 hx4
                rcases z with _ | _
                all_goals
                  go_wp2_with fail
                  go_round
                  case rel => exact ⟨j + 1, c, _, by omega, by go_num, by go_num, rfl, by omega, Lib.hid HC'.out.symm, Lib.hid (by rw [HZ'.out]; simp [hx2])⟩
                  case measure => simp [intOf]; omega
          · obtain rfl : j = N := by omega
            have HZ2 : Hid (z = true) := Lib.hid (by rw [HZ.out, HN.out, List.take_length]; exact HD.out)
            have HC2 : Hid (c < k) := Lib.hid (by rw [HC1.out, HN.out, List.take_length]; exact HC.out)
            obtain rfl := HZ2.out
            have hck : (c : Int) < k := by have := HC2.out; omega
            have HA2 : ¬ ((cGe l x : Nat) : Int) < k := by have := HA.out; omega
            have HA3 : (k : Int) ≤ ((cGe l x : Nat) : Int) := by have := HA.out; omega
            have HABx := Lib.hid (fun w' h => HAB.out x w' h)
            generalize cGe l x = g at *
            clear HC1 HZ
            go_wp2_with (first
              | (go_at_call 11; refine (alive24_any _).mono ?_; rintro e w2 ⟨rfl, b2⟩; have HB2 := Lib.hid (HB1.out.trans (b2.mono HB1.out.size)); have HV2 := Lib.hid (HV1.out.later b2); clear b2)
              | (go_at_call 13; refine (HABx.out _ HV2.out).mono ?_; rintro e w3 ⟨rfl, rfl⟩))
            go_ret
            exact ⟨rfl, HB2.out⟩
  · have hli : (60 : Int) < N := by omega
    go_enter Try.func4, Try.ntmps4
    go_wp2_with (go_at_call 11; refine (alive24_any _).mono ?_; rintro e w2 ⟨rfl, b2⟩; have HB2 := Lib.hid b2; clear b2)
    go_ret
    exact ⟨rfl, HB2.out⟩
end Go.Proofs.Ytgkhgjoggkcklaa

/- The walks of the document's power, Own, Check, Shift, Number; Ints. -/
import Derived.Test.YtabgnahjejhnkaaDigF
import Derived.Test.YtabgnahjejhnkaaDigC
namespace Go.Proofs.Ytabgnahjejhnkaa
open Go Go.RowKit
set_option maxHeartbeats 1000000

theorem power_any (n : Nat) (w : World) (hn : n ≤ 24) : Calls Try.prog 58 #[.int .i64 n] w fun e w' => e = .returned (.int .i64 ((2 ^ n : Nat) : Int)) ∧ w' = w := by
  obtain ⟨R, HR⟩ : ∃ R, Hid (R = 2 ^ n) := ⟨_, Lib.hid rfl⟩
  rw [← HR.out]
  go_enter Try.func58, Try.ntmps58
  go_wp2_with fail
  go_loop [3, 4] (fun p i => ∃ j q : Nat, j ≤ n ∧ i = .int .i64 j ∧ p = .int .i64 q ∧ q ≤ 16777216 ∧ Hid (q = 2 ^ j)) (fun _ i => n - (intOf i).toNat)
  case atStart => exact ⟨0, 1, by omega, rfl, rfl, by omega, Lib.hid rfl⟩
  case round =>
    obtain ⟨j, q, hj, rfl, rfl, hq, HQ⟩ := hrel
    by_cases hlt : j < n
    · have HQ2 : Hid (2 * q = 2 ^ (j + 1)) := Lib.hid (by rw [HQ.out, Nat.pow_succ]; omega)
      have hq2 : 2 * q ≤ 16777216 := by
        rw [HQ2.out]
        exact Nat.le_trans (Nat.pow_le_pow_right (by omega) (by omega : j + 1 ≤ 24)) (by decide)
      go_wp2_with fail
      go_round
      case rel => exact ⟨j + 1, 2 * q, by omega, by go_num, by go_num, hq2, HQ2⟩
      case measure => simp [intOf]; omega
    · obtain rfl : j = n := by omega
      have HE : Hid (R = q) := Lib.hid (by rw [HR.out, HQ.out])
      go_wp2_with fail
      go_ret
      exact ⟨by rw [HE.out]; rfl, rfl⟩

theorem rOwn_any (n : Int) (w : World) : Calls Try.prog 38 #[.int .i64 n] w fun e w' => e = .returned (.tuple #[.int .i64 (ownW n), .int .i64 (errW n)]) ∧ w' = w := by
  by_cases hw : isW n = true
  · have HC := Lib.hid (rwidth_any n w)
    rw [hw] at HC
    rcases (isW_iff n).1 hw with rfl | rfl | rfl | rfl
    all_goals
      clear hw
      go_enter Try.func38, Try.ntmps38
      go_wp2_with (go_at_call 45; refine HC.out.mono ?_; rintro e w' ⟨rfl, rfl⟩)
      go_ret2
      exact ⟨rfl, rfl⟩
  · have hw' : isW n = false := by simpa using hw
    have HC := Lib.hid (rwidth_any n w)
    rw [hw'] at HC
    have e1 : ownW n = 0 := by simp [ownW, hw']
    have e3 : errW n = 1 := by simp [errW, hw']
    rw [e1, e3]
    clear hw hw' e1 e3
    go_enter Try.func38, Try.ntmps38
    go_wp2_with (go_at_call 45; refine HC.out.mono ?_; rintro e w' ⟨rfl, rfl⟩)
    go_ret2
    exact ⟨rfl, rfl⟩

/-- how often power(n*w) <= most holds -/
theorem chk_test : ∀ k ∈ [1, 2, 4, 8], ∀ j ≤ chkN k, (2 ^ (j * k) ≤ 256 / k * (2 ^ k - 1) ↔ j < chkN k) ∧ j * k ≤ 24 := by decide +kernel
theorem rCheck_any (n : Int) (w : World) : Calls Try.prog 40 #[.int .i64 n] w fun e w' => e = .returned (.tuple #[.int .i64 (chkW n), .int .i64 (errW n)]) ∧ ∃ m, w' = w.drewN m := by
  have HC := Lib.hid (rwidth_any n w)
  by_cases hw : isW n = true
  · rw [hw] at HC
    obtain ⟨k, rfl⟩ : ∃ k : Nat, n = k := ⟨n.toNat, by rcases (isW_iff n).1 hw with h | h | h | h <;> omega⟩
    have hk : k = 1 ∨ k = 2 ∨ k = 4 ∨ k = 8 := by rcases (isW_iff _).1 hw with h | h | h | h <;> omega
    obtain ⟨e1, e2, e3, e4⟩ := own_of k hk
    rw [e2, e4]
    have HT := Lib.hid (chk_test k (by rcases hk with rfl | rfl | rfl | rfl <;> simp))
    obtain ⟨c, hc⟩ : ∃ c, c = chkN k := ⟨_, rfl⟩
    obtain ⟨own, hown⟩ : ∃ own, own = 256 / k := ⟨_, rfl⟩
    obtain ⟨P, hP⟩ : ∃ P, P = 2 ^ k := ⟨_, rfl⟩
    obtain ⟨M, hM⟩ : ∃ M, M = own * (P - 1) := ⟨_, rfl⟩
    have hMb : M ≤ 8160 := by rw [hM, hP, hown]; rcases hk with rfl | rfl | rfl | rfl <;> decide
    have hcb : c ≤ 9 := by rw [hc]; rcases hk with rfl | rfl | rfl | rfl <;> decide
    have hob : own ≤ 256 := by rw [hown]; rcases hk with rfl | rfl | rfl | rfl <;> decide
    have hPb : 2 ≤ P ∧ P ≤ 256 := by rw [hP]; rcases hk with rfl | rfl | rfl | rfl <;> decide
    have hkb : 1 ≤ k ∧ k ≤ 8 := by omega
    rw [← hc, ← hown, ← hP, ← hM] at HT
    rw [← hc]
    have HP := Lib.hid (fun w' => power_any k w' (by omega))
    rw [← hP] at HP
    have hdiv : (256 : Int) / k = own := by rw [hown]; rcases hk with rfl | rfl | rfl | rfl <;> decide
    have hMi : (own : Int) * ((P : Int) - 1) = (M : Int) := by
      rw [hM]
      have : ((P - 1 : Nat) : Int) = (P : Int) - 1 := by omega
      rw [Int.natCast_mul, this]
    have k1 : IntKind.i64.wrap ((P : Int) - 1) = (P : Int) - 1 := by rw [IntKind.wrap_i64]; omega
    have k2 : IntKind.i64.wrap ((own : Int) * ((P : Int) - 1)) = (M : Int) := by rw [hMi, IntKind.wrap_i64]; omega
    clear hw hk e1 e2 e3 e4 hc hown hP hM
    go_enter Try.func40, Try.ntmps40
    go_wp2_with (go_at_call 45; refine HC.out.mono ?_; rintro e w' ⟨rfl, rfl⟩)
    go_quiet ((go_at_call 58; exact Calls.quiet_of_same (HP.out _)))
    clear k1 k2 hMi hdiv
    go_wp2_with fail
    go_loop [5] (fun j => ∃ i : Nat, i ≤ c ∧ j = .int .i64 i) (fun j => c - (intOf j).toNat)
    case atStart => exact ⟨0, by omega, rfl⟩
    case round =>
      obtain ⟨i, hi, rfl⟩ := hrel
      obtain ⟨t1, t2⟩ := HT.out i hi
      obtain ⟨q, hq⟩ : ∃ q, q = i * k := ⟨_, rfl⟩
      have hqi : (i : Int) * k = (q : Int) := by rw [hq]; simp
      have hq0 : (i : Int) * k ≤ 24 := by omega
      have hq1 : (0 : Int) ≤ (i : Int) * k := by omega
      rw [← hq] at t1 t2
      have HP2 := Lib.hid (fun w' => power_any q w' t2)
      obtain ⟨y, hy⟩ : ∃ y, y = 2 ^ q := ⟨_, rfl⟩
      rw [← hy] at t1 HP2
      clear hq hy
      by_cases hlt : i < c
      · have hyM : y ≤ M := t1.2 hlt
        clear t1
        go_wp2_with (go_at_call 58; refine (HP2.out _).mono ?_; rintro e w' ⟨rfl, rfl⟩)
        go_round
        case rel => exact ⟨i + 1, by omega, by go_num⟩
        case measure => simp [intOf]; omega
      · have hyM : ¬ y ≤ M := fun h => hlt (t1.1 h)
        obtain rfl : i = c := by omega
        clear t1
        go_wp2_with (go_at_call 58; refine (HP2.out _).mono ?_; rintro e w' ⟨rfl, rfl⟩)
        go_ret2
        exact ⟨rfl, _, rfl⟩
  · have hw' : isW n = false := by simpa using hw
    rw [hw'] at HC
    have e4 : chkW n = 0 := by
      have : ¬ (n = 1 ∨ n = 2 ∨ n = 4 ∨ n = 8) := fun h => hw ((isW_iff n).2 h)
      unfold chkW; rw [if_neg (by omega), if_neg (by omega), if_neg (by omega), if_neg (by omega)]
    have e3 : errW n = 1 := by simp [errW, hw']
    rw [e4, e3]
    clear hw hw' e4 e3
    go_enter Try.func40, Try.ntmps40
    go_wp2_with (go_at_call 45; refine HC.out.mono ?_; rintro e w' ⟨rfl, rfl⟩)
    go_ret2
    exact ⟨rfl, 0, rfl⟩
end Go.Proofs.Ytabgnahjejhnkaa

/- The walks of the document's answer for one digit: consistoryref03.width, bit, Digit. -/
import Derived.Test.YtcnelahmbfggcaaGreatDigB
namespace Go.Proofs.YtcnelahmbfggcaaGreat
open Go Go.RowKit
set_option maxRecDepth 100000
set_option maxHeartbeats 400000

theorem rwidth_any (x : Int) (w : World) : Calls Tryz.prog 103 #[.int .i64 x] w fun e w' => e = .returned (.bool (isW x)) ∧ w' = w := by
  by_cases h1 : x = 1
  · subst h1
    go_enter Tryz.func103, Tryz.ntmps103
    go_wp2
    go_ret
    exact ⟨rfl, rfl⟩
  have b1 : (x == 1) = false := by simpa using h1
  by_cases h2 : x = 2
  · subst h2
    go_enter Tryz.func103, Tryz.ntmps103
    go_wp2
    go_ret
    exact ⟨rfl, rfl⟩
  have b2 : (x == 2) = false := by simpa using h2
  by_cases h3 : x = 4
  · subst h3
    go_enter Tryz.func103, Tryz.ntmps103
    go_wp2
    go_ret
    exact ⟨rfl, rfl⟩
  have b3 : (x == 4) = false := by simpa using h3
  have e : isW x = (x == 8) := by simp [isW, b1, b2, b3]
  rw [e]
  clear e
  go_enter Tryz.func103, Tryz.ntmps103
  go_wp2
  go_ret
  exact ⟨rfl, rfl⟩

theorem bit_any (b off len cap : Nat) (x : UInt8) (j : Nat) (w : World) (hj : j < len * 8) (hl : len ≤ 1000000)
    (hc : w.cell? ⟨b, off + j / 8, none⟩ = some (.int .u8 (bn x))) :
    Calls Tryz.prog 106 #[.slice (some ⟨b, off, none⟩) len cap, .int .i64 j] w fun e w' => e = .returned (.int .i64 ((bn x / 2 ^ (7 - j % 8) % 2 : Nat) : Int)) ∧ w' = w := by
  have hx := bn_lt x
  have h2 : ((j : Int) / 8) < len := by omega
  have h8 : (j : Int) % 8 < 8 := by omega
  have h9 : (0 : Int) ≤ (j : Int) % 8 := by omega
  go_enter Tryz.func106, Tryz.ntmps106
  go_wp2
  go_loop [5, 6] (fun t k => ∃ n q : Nat, n ≤ 7 - j % 8 ∧ q < 256 ∧ Hid (q = bn x / 2 ^ n) ∧ k = .int .i64 n ∧ t = .int .i64 q) (fun _ k => 8 - (intOf k).toNat)
  case atStart => exact ⟨0, bn x, by omega, hx, Lib.hid (by simp), rfl, rfl⟩
  case round =>
    obtain ⟨n, q, hn, hq, HQ, rfl, rfl⟩ := hrel
    by_cases hlt : n < 7 - j % 8
    · have hlt' : (n : Int) < 7 - (j : Int) % 8 := by omega
      go_wp2
      go_round
      case rel => exact ⟨n + 1, q / 2, by omega, by omega, Lib.hid (by rw [HQ.out, Nat.pow_succ, Nat.div_div_eq_div_mul]), by go_num, by go_num⟩
      case measure => simp [intOf]; omega
    · have hlt' : ¬ (n : Int) < 7 - (j : Int) % 8 := by omega
      obtain rfl : n = 7 - j % 8 := by omega
      go_wp2
      go_ret
      exact ⟨ret_int (by rw [HQ.out]; simp), rfl⟩

theorem rDigit_any (v : Value) (l : List UInt8) (i n : Int) (w : World) (hv : Sl w v l) (hl : l.length ≤ 1000000)
    (hi : -9223372036854775808 ≤ i ∧ i ≤ 9223372036854775807) :
    Calls Tryz.prog 94 #[v, .int .i64 i, .int .i64 n] w fun e w' =>
      e = .returned (.tuple #[.int .i64 (digV l i n), .int .i64 (digE l i n)]) ∧ w' = w := by
  obtain ⟨a, cap, rfl⟩ : ∃ a cap, v = .slice a l.length cap := by
    rcases hv with ⟨rfl, a, c, rfl⟩ | ⟨b, off, cap, rfl, _⟩
    · exact ⟨a, c, rfl⟩
    · exact ⟨_, cap, rfl⟩
  by_cases hw : isW n = true
  · by_cases h0 : 0 ≤ i
    · by_cases h1 : i < l.length * 8 / n
      · have hd : digOk l i n = true := by simp [digOk, hw, h0, h1]
        have ev : digV l i n = dig l i.toNat n.toNat := by simp [digV, hd]
        have ee : digE l i n = 0 := by simp [digE, hd]
        rw [ev, ee]
        clear ev ee
        rcases hv with ⟨rfl, a, c, hh⟩ | ⟨b, off, cap', hh, h00, _, _, hc⟩
        · simp at h1; omega
        cases hh
        obtain ⟨i, rfl⟩ := Int.eq_ofNat_of_zero_le h0
        have hn' := (isW_iff n).1 hw
        obtain ⟨n, rfl⟩ := Int.eq_ofNat_of_zero_le (show 0 ≤ n by omega)
        have hn4 : n = 1 ∨ n = 2 ∨ n = 4 ∨ n = 8 := by omega
        have hb : i * n + n ≤ l.length * 8 := by
          rcases hn4 with rfl | rfl | rfl | rfl <;> simp at h1 <;> omega
        have key : ∀ k, k < n → w.cell? ⟨b, off + (i * n + k) / 8, none⟩ = some (.int .u8 (bn (l.getD ((i * n + k) / 8) 0))) := by
          intro k hk
          have hk' : (i * n + k) / 8 < l.length := by omega
          rw [hc _ hk']; simp [hk']
        clear hc
        have KEY := Lib.hid key
        clear key
        simp only [Int.toNat_natCast]
        have h2 : ¬ ((l.length : Int) * 8 / n ≤ i) := by omega
        have h3 : (1 : Int) ≤ n := by omega
        have h4 : ((n : Int) == 0) = false := by simp; omega
        have h5 : ((i : Int) * n) ≤ 8000000 := by
          have : ((i * n : Nat) : Int) ≤ 8000000 := by omega
          simpa using this
        have h6 : (0 : Int) ≤ i * n := by
          have : (0 : Int) ≤ ((i * n : Nat) : Int) := by omega
          simpa using this
        have h7 : (n : Int) ≤ 8 := by omega
        clear hn'
        go_enter Tryz.func94, Tryz.ntmps94
        go_wp2_with (go_at_call 103; refine (rwidth_any _ _).mono ?_; rintro e w' ⟨rfl, rfl⟩)
        go_loop [8, 9] (fun t k => ∃ c q : Nat, c ≤ n ∧ q < 2 ^ c ∧ Hid (q = bitsTo l i n c) ∧ k = .int .i64 c ∧ t = .int .i64 q) (fun _ k => 9 - (intOf k).toNat)
        case atStart => exact ⟨0, 0, by omega, by omega, Lib.hid rfl, rfl, rfl⟩
        case round =>
          obtain ⟨c, q, hcn, hq, HQ, rfl, rfl⟩ := hrel
          have hp : 2 ^ c ≤ 2 ^ 8 := Nat.pow_le_pow_right (by omega) (by omega)
          by_cases hlt : c < n
          · have hlt' : (c : Int) < n := by omega
            have hq2 : q < 256 := by omega
            have hB : bitAt l (i * n + c) < 2 := by unfold bitAt; omega
            have hB' : 2 * q + bitAt l (i * n + c) < 2 ^ (c + 1) := by rw [Nat.pow_succ]; omega
            have HB' := Lib.hid hB'
            have hBx : bn (l.getD ((i * n + c) / 8) 0) / 2 ^ (7 - (i * n + c) % 8) % 2 = bitAt l (i * n + c) := rfl
            have HBx := Lib.hid hBx
            clear hp hB' hBx
            go_wp2_with (go_at_call 106; rw [show ((i : Int) * n + c) = ((i * n + c : Nat) : Int) from by simp]; refine (bit_any b off l.length _ _ _ _ (by omega) (by omega) (KEY.out c hlt)).mono ?_; rintro e w' ⟨rfl, rfl⟩; rw [HBx.out])
            go_round
            case rel => exact ⟨c + 1, 2 * q + bitAt l (i * n + c), by omega, HB'.out, Lib.hid (by rw [HQ.out]; rfl), by go_num, by go_num⟩
            case measure => simp [intOf]; omega
          · have hlt' : ¬ (c : Int) < n := by omega
            obtain rfl : c = n := by omega
            clear hp
            go_wp2
            go_ret2
            have e : q = dig l i c := by rw [HQ.out, bitsTo_dig l i c hn4]
            subst e
            exact ⟨rfl, rfl⟩
      · have hd : digOk l i n = false := by simp [digOk, h1]
        have ev : digV l i n = 0 := by simp [digV, hd]
        have ee : digE l i n = 1 := by simp [digE, hd]
        rw [ev, ee]
        clear ev ee
        have hn' := (isW_iff n).1 hw
        obtain ⟨n, rfl⟩ := Int.eq_ofNat_of_zero_le (show 0 ≤ n by omega)
        obtain ⟨i, rfl⟩ := Int.eq_ofNat_of_zero_le h0
        have h3 : (1 : Int) ≤ n := by omega
        have h4 : ((n : Int) == 0) = false := by simp; omega
        have h2 : (l.length : Int) * 8 / n ≤ i := by omega
        clear hn' h1 hv
        go_enter Tryz.func94, Tryz.ntmps94
        go_wp2_with (go_at_call 103; refine (rwidth_any _ _).mono ?_; rintro e w' ⟨rfl, rfl⟩)
        go_ret2
        exact ⟨rfl, rfl⟩
    · have hd : digOk l i n = false := by simp [digOk, h0]
      have ev : digV l i n = 0 := by simp [digV, hd]
      have ee : digE l i n = 1 := by simp [digE, hd]
      rw [ev, ee]
      clear ev ee
      have h0' : i < 0 := by omega
      clear hv
      go_enter Tryz.func94, Tryz.ntmps94
      go_wp2_with (go_at_call 103; refine (rwidth_any _ _).mono ?_; rintro e w' ⟨rfl, rfl⟩)
      go_ret2
      exact ⟨rfl, rfl⟩
  · have hw' : isW n = false := by simpa using hw
    have hd : digOk l i n = false := by simp [digOk, hw']
    have ev : digV l i n = 0 := by simp [digV, hd]
    have ee : digE l i n = 1 := by simp [digE, hd]
    rw [ev, ee]
    clear ev ee
    clear hv hw
    go_enter Tryz.func94, Tryz.ntmps94
    go_wp2_with (go_at_call 103; refine (rwidth_any _ _).mono ?_; rintro e w' ⟨rfl, rfl⟩)
    go_ret2
    exact ⟨rfl, rfl⟩
end Go.Proofs.YtcnelahmbfggcaaGreat

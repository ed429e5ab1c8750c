/- The walk of the law DigitsBytes. -/
import Derived.Test.YtabgnahjejhnkaaDigD
namespace Go.Proofs.Ytabgnahjejhnkaa
open Go Go.RowKit
set_option maxHeartbeats 1000000

/-- a width, and how many digits a byte has -/
def WM (W m : Nat) : Prop := W = 1 ∧ m = 8 ∨ W = 2 ∧ m = 4 ∨ W = 4 ∧ m = 2 ∨ W = 8 ∧ m = 1
theorem wm1 : WM 1 8 := by unfold WM; omega
theorem wm2 : WM 2 4 := by unfold WM; omega
theorem wm4 : WM 4 2 := by unfold WM; omega
theorem wm8 : WM 8 1 := by unfold WM; omega
theorem dig_of_byte (l : List UInt8) (W m c k : Nat) (h : WM W m) (hk : k < m) :
    bn (l.getD c 0) / 2 ^ (8 - k * W) * 2 ^ W + dig l (m * c + k) W = bn (l.getD c 0) / 2 ^ (8 - (k + 1) * W) := by
  have e1 : (m * c + k) * W / 8 = c := by rcases h with ⟨rfl, rfl⟩ | ⟨rfl, rfl⟩ | ⟨rfl, rfl⟩ | ⟨rfl, rfl⟩ <;> omega
  have e2 : (m * c + k) * W % 8 = k * W := by rcases h with ⟨rfl, rfl⟩ | ⟨rfl, rfl⟩ | ⟨rfl, rfl⟩ | ⟨rfl, rfl⟩ <;> omega
  unfold dig
  rw [e1, e2]
  have e3 : 8 - k * W = (8 - (k + 1) * W) + W := by rcases h with ⟨rfl, rfl⟩ | ⟨rfl, rfl⟩ | ⟨rfl, rfl⟩ | ⟨rfl, rfl⟩ <;> omega
  have e4 : 8 - W - k * W = 8 - (k + 1) * W := by rcases h with ⟨rfl, rfl⟩ | ⟨rfl, rfl⟩ | ⟨rfl, rfl⟩ | ⟨rfl, rfl⟩ <;> omega
  rw [e4, e3, Nat.pow_add, ← Nat.div_div_eq_div_mul]
  have := Nat.div_add_mod (bn (l.getD c 0) / 2 ^ (8 - (k + 1) * W)) (2 ^ W)
  rw [Nat.mul_comm] at this
  exact this
theorem byte_end (l : List UInt8) (W m c : Nat) (h : WM W m) : bn (l.getD c 0) / 2 ^ (8 - m * W) = bn (l.getD c 0) := by
  have e1 : 8 - m * W = 0 := by rcases h with ⟨rfl, rfl⟩ | ⟨rfl, rfl⟩ | ⟨rfl, rfl⟩ | ⟨rfl, rfl⟩ <;> omega
  rw [e1]; simp
theorem dig_ok (l : List UInt8) (W m c k : Nat) (h : WM W m) (hk : k < m) (hc : c < l.length) : digOk l ((m * c + k : Nat) : Int) W = true := by
  have h1 : isW W = true := by unfold WM at h; rw [isW_iff]; omega
  have h2 : ((m * c + k : Nat) : Int) < l.length * 8 / W := by
    rcases h with ⟨rfl, rfl⟩ | ⟨rfl, rfl⟩ | ⟨rfl, rfl⟩ | ⟨rfl, rfl⟩ <;> omega
  simp only [digOk, h1, Bool.true_and, Bool.and_eq_true, decide_eq_true_eq]
  exact ⟨by omega, h2⟩
theorem dig_off (l : List UInt8) (W m : Nat) (h : WM W m) : digOk l ((m * l.length : Nat) : Int) W = false := by
  have h2 : ¬ ((m * l.length : Nat) : Int) < l.length * 8 / W := by
    rcases h with ⟨rfl, rfl⟩ | ⟨rfl, rfl⟩ | ⟨rfl, rfl⟩ | ⟨rfl, rfl⟩ <;> omega
  simp only [digOk, h2, decide_false, Bool.and_false]

/-- the call of Digit at a place that there is -/
theorem Digit_at (a : Option Addr) (cap : Nat) (l : List UInt8) (W m c k : Nat) (q : Int) (w : World) (hv : Hid (Sl w (.slice a l.length cap) l)) (hl : l.length ≤ 300)
    (h : WM W m) (hk : k < m) (hc : c < l.length) (hq : q ≤ m * c + k ∧ m * c + k ≤ q) :
    Calls Try.prog 15 #[.slice a l.length cap, .int .i64 q, .int .i64 W] w fun e w' =>
      e = .returned (.tuple #[.int .i64 ((dig l (m * c + k) W : Nat) : Int), .int .i64 0]) ∧ w' = w := by
  obtain rfl : q = ((m * c + k : Nat) : Int) := by simp; omega
  have ho := dig_ok l W m c k h hk hc
  have e1 : digV l ((m * c + k : Nat) : Int) W = dig l (m * c + k) W := by unfold digV; rw [if_pos ho, Int.toNat_natCast, Int.toNat_natCast]
  have e2 : digE l ((m * c + k : Nat) : Int) W = 0 := by unfold digE; rw [if_pos ho]
  rw [← e1, ← e2]
  have : m * c + k < 3000 ∧ W ≤ 8 := by rcases h with ⟨rfl, rfl⟩ | ⟨rfl, rfl⟩ | ⟨rfl, rfl⟩ | ⟨rfl, rfl⟩ <;> omega
  exact Digit_any _ l _ _ _ hv.out (by omega) (by omega) (by omega)
/-- .. and behind the last -/
theorem Digit_off (a : Option Addr) (cap : Nat) (l : List UInt8) (W m : Nat) (q : Int) (w : World) (hv : Hid (Sl w (.slice a l.length cap) l)) (hl : l.length ≤ 300)
    (h : WM W m) (hq : q ≤ m * l.length ∧ m * l.length ≤ q) :
    Calls Try.prog 15 #[.slice a l.length cap, .int .i64 q, .int .i64 W] w fun e w' =>
      e = .returned (.tuple #[.int .i64 0, .int .i64 1]) ∧ w' = w := by
  obtain rfl : q = ((m * l.length : Nat) : Int) := by simp; omega
  have ho := dig_off l W m h
  have e1 : digV l ((m * l.length : Nat) : Int) W = 0 := by unfold digV; rw [ho]; rfl
  have e2 : digE l ((m * l.length : Nat) : Int) W = 1 := by unfold digE; rw [ho]; rfl
  rw [← e1, ← e2]
  have : m * l.length < 3000 ∧ W ≤ 8 := by rcases h with ⟨rfl, rfl⟩ | ⟨rfl, rfl⟩ | ⟨rfl, rfl⟩ | ⟨rfl, rfl⟩ <;> omega
  exact Digit_any _ l _ _ _ hv.out (by omega) (by omega) (by omega)

theorem DigitsBytes_any (v : Value) (l : List UInt8) (y : Int) (w : World) (hv : Sl w v l) (hy : 0 ≤ y ∧ y ≤ 255) :
    Calls Try.prog 4 #[v, .int .u8 y] w fun e w' => e = .returned (.bool true) ∧ Below w.heap.size w w' := by
  obtain ⟨a, cap, rfl⟩ : ∃ a cap, v = .slice a l.length cap := by
    rcases hv with ⟨rfl, a, c, rfl⟩ | ⟨b, off, cap, rfl, _⟩
    · exact ⟨a, c, rfl⟩
    · exact ⟨_, cap, rfl⟩
  by_cases hl : l.length ≤ 300
  · have HV := Lib.hid hv
    clear hv
    have hj : y % 4 = 0 ∨ y % 4 = 1 ∨ y % 4 = 2 ∨ y % 4 = 3 := by omega
    rcases hj with hj | hj | hj | hj
    · go_enter Try.func4, Try.ntmps4
      go_wp2_with fail
      go_loop [6, 7] (fun n i => ∃ c q : Nat, c ≤ l.length ∧ q ≤ 8 * c ∧ 8 * c ≤ q ∧ i = .int .i64 c ∧ n = .int .i64 q) (fun _ i => l.length - (intOf i).toNat)
      case atStart => exact ⟨0, 0, by omega, by omega, by omega, rfl, rfl⟩
      case round =>
        obtain ⟨c, q, hc, hq1, hq2, rfl, rfl⟩ := hrel
        by_cases hlt : c < l.length
        · have hlt' : (c : Int) < l.length := by omega
          obtain ⟨b, off, z, rfl, HZ, hxb, hcell⟩ : ∃ b off, ∃ z : Nat, a = some ⟨b, off, none⟩ ∧ Hid (z = bn (l.getD c 0)) ∧ z < 256 ∧ w.cell? ⟨b, off + c, none⟩ = some (.int .u8 z) := by
            obtain ⟨b, off, h1, h2⟩ := Sl.cellAt HV.out hlt
            exact ⟨b, off, _, h1, Lib.hid rfl, bn_lt _, h2⟩
          go_wp2_with fail
          go_loop [6, 8, 9] (fun n x k => ∃ k' q' x' : Nat, k' ≤ 8 ∧ q' ≤ 8 * c + k' ∧ 8 * c + k' ≤ q' ∧ x' < 256 ∧ Hid (x' = z / 2 ^ (8 - k' * 1)) ∧ k = .int .i64 k' ∧ n = .int .i64 q' ∧ x = .int .i64 x') (fun _ _ k => 9 - (intOf k).toNat)
          case atStart => exact ⟨0, q, 0, by omega, by omega, by omega, by omega, Lib.hid (show 0 = z / 256 from (Nat.div_eq_of_lt hxb).symm), rfl, rfl, rfl⟩
          case round =>
            obtain ⟨k, q', x, hk, hq3, hq4, hx, HX, rfl, rfl, rfl⟩ := hrel
            by_cases hkt : k < 8
            · have hkt' : (k : Int) < 8 := by omega
              have hd := dig_lt l (8 * c + k) 1
              have HE : Hid (z / 2 ^ (8 - k * 1) * 2 ^ 1 + dig l (8 * c + k) 1 = z / 2 ^ (8 - (k + 1) * 1)) := by rw [HZ.out]; exact dig_of_byte l 1 8 c k wm1 hkt
              have hsum : x * 2 ^ 1 + dig l (8 * c + k) 1 < 256 := by
                rw [HX.out, HE.out]; exact Nat.lt_of_le_of_lt (Nat.div_le_self _ _) hxb
              go_wp2_with (go_at_call 15; refine (Digit_at _ cap l 1 8 c k _ _ HV hl wm1 hkt hlt (by omega)).mono ?_; rintro e w1 ⟨rfl, rfl⟩; generalize dig l (8 * c + k) 1 = d at *)
              exact ⟨⟨k + 1, q' + 1, x * 2 ^ 1 + d, by omega, by omega, by omega, hsum, Lib.hid (by rw [HX.out]; exact HE.out), by go_num, by go_num, by go_num⟩, by simp [intOf]; omega⟩
            · have hkt' : ¬ (k : Int) < 8 := by omega
              obtain rfl : k = 8 := by omega
              have hx' : x = z := by rw [HX.out, HZ.out]; exact byte_end l 1 8 c wm1
              clear HX
              subst hx'
              go_wp2
              go_round
              case rel => exact ⟨_, .int .i64 q', .int .i64 (c + 1), ⟨c + 1, by omega, q', by omega, by omega, by go_num, rfl⟩, rfl, rfl, rfl⟩
              case measure => simp [intOf]; omega
        · have hlt' : ¬ (c : Int) < l.length := by omega
          obtain rfl : c = l.length := by omega
          go_wp2_with (first | (go_at_call 15; refine (Digit_off a cap l 1 8 _ _ HV hl wm1 (by omega)).mono ?_; rintro e w1 ⟨rfl, rfl⟩) | (go_at_call 14; refine (alive03_any _).mono ?_; rintro e w1 ⟨rfl, hb⟩))
          go_ret
          exact ⟨rfl, hb⟩
    · go_enter Try.func4, Try.ntmps4
      go_wp2_with fail
      go_loop [6, 7] (fun n i => ∃ c q : Nat, c ≤ l.length ∧ q ≤ 4 * c ∧ 4 * c ≤ q ∧ i = .int .i64 c ∧ n = .int .i64 q) (fun _ i => l.length - (intOf i).toNat)
      case atStart => exact ⟨0, 0, by omega, by omega, by omega, rfl, rfl⟩
      case round =>
        obtain ⟨c, q, hc, hq1, hq2, rfl, rfl⟩ := hrel
        by_cases hlt : c < l.length
        · have hlt' : (c : Int) < l.length := by omega
          obtain ⟨b, off, z, rfl, HZ, hxb, hcell⟩ : ∃ b off, ∃ z : Nat, a = some ⟨b, off, none⟩ ∧ Hid (z = bn (l.getD c 0)) ∧ z < 256 ∧ w.cell? ⟨b, off + c, none⟩ = some (.int .u8 z) := by
            obtain ⟨b, off, h1, h2⟩ := Sl.cellAt HV.out hlt
            exact ⟨b, off, _, h1, Lib.hid rfl, bn_lt _, h2⟩
          go_wp2_with fail
          go_loop [6, 8, 9] (fun n x k => ∃ k' q' x' : Nat, k' ≤ 4 ∧ q' ≤ 4 * c + k' ∧ 4 * c + k' ≤ q' ∧ x' < 256 ∧ Hid (x' = z / 2 ^ (8 - k' * 2)) ∧ k = .int .i64 k' ∧ n = .int .i64 q' ∧ x = .int .i64 x') (fun _ _ k => 9 - (intOf k).toNat)
          case atStart => exact ⟨0, q, 0, by omega, by omega, by omega, by omega, Lib.hid (show 0 = z / 256 from (Nat.div_eq_of_lt hxb).symm), rfl, rfl, rfl⟩
          case round =>
            obtain ⟨k, q', x, hk, hq3, hq4, hx, HX, rfl, rfl, rfl⟩ := hrel
            by_cases hkt : k < 4
            · have hkt' : (k : Int) < 4 := by omega
              have hd := dig_lt l (4 * c + k) 2
              have HE : Hid (z / 2 ^ (8 - k * 2) * 2 ^ 2 + dig l (4 * c + k) 2 = z / 2 ^ (8 - (k + 1) * 2)) := by rw [HZ.out]; exact dig_of_byte l 2 4 c k wm2 hkt
              have hsum : x * 2 ^ 2 + dig l (4 * c + k) 2 < 256 := by
                rw [HX.out, HE.out]; exact Nat.lt_of_le_of_lt (Nat.div_le_self _ _) hxb
              go_wp2_with (go_at_call 15; refine (Digit_at _ cap l 2 4 c k _ _ HV hl wm2 hkt hlt (by omega)).mono ?_; rintro e w1 ⟨rfl, rfl⟩; generalize dig l (4 * c + k) 2 = d at *)
              exact ⟨⟨k + 1, q' + 1, x * 2 ^ 2 + d, by omega, by omega, by omega, hsum, Lib.hid (by rw [HX.out]; exact HE.out), by go_num, by go_num, by go_num⟩, by simp [intOf]; omega⟩
            · have hkt' : ¬ (k : Int) < 4 := by omega
              obtain rfl : k = 4 := by omega
              have hx' : x = z := by rw [HX.out, HZ.out]; exact byte_end l 2 4 c wm2
              clear HX
              subst hx'
              go_wp2
              go_round
              case rel => exact ⟨_, .int .i64 q', .int .i64 (c + 1), ⟨c + 1, by omega, q', by omega, by omega, by go_num, rfl⟩, rfl, rfl, rfl⟩
              case measure => simp [intOf]; omega
        · have hlt' : ¬ (c : Int) < l.length := by omega
          obtain rfl : c = l.length := by omega
          go_wp2_with (first | (go_at_call 15; refine (Digit_off a cap l 2 4 _ _ HV hl wm2 (by omega)).mono ?_; rintro e w1 ⟨rfl, rfl⟩) | (go_at_call 14; refine (alive03_any _).mono ?_; rintro e w1 ⟨rfl, hb⟩))
          go_ret
          exact ⟨rfl, hb⟩
    · go_enter Try.func4, Try.ntmps4
      go_wp2_with fail
      go_loop [6, 7] (fun n i => ∃ c q : Nat, c ≤ l.length ∧ q ≤ 2 * c ∧ 2 * c ≤ q ∧ i = .int .i64 c ∧ n = .int .i64 q) (fun _ i => l.length - (intOf i).toNat)
      case atStart => exact ⟨0, 0, by omega, by omega, by omega, rfl, rfl⟩
      case round =>
        obtain ⟨c, q, hc, hq1, hq2, rfl, rfl⟩ := hrel
        by_cases hlt : c < l.length
        · have hlt' : (c : Int) < l.length := by omega
          obtain ⟨b, off, z, rfl, HZ, hxb, hcell⟩ : ∃ b off, ∃ z : Nat, a = some ⟨b, off, none⟩ ∧ Hid (z = bn (l.getD c 0)) ∧ z < 256 ∧ w.cell? ⟨b, off + c, none⟩ = some (.int .u8 z) := by
            obtain ⟨b, off, h1, h2⟩ := Sl.cellAt HV.out hlt
            exact ⟨b, off, _, h1, Lib.hid rfl, bn_lt _, h2⟩
          go_wp2_with fail
          go_loop [6, 8, 9] (fun n x k => ∃ k' q' x' : Nat, k' ≤ 2 ∧ q' ≤ 2 * c + k' ∧ 2 * c + k' ≤ q' ∧ x' < 256 ∧ Hid (x' = z / 2 ^ (8 - k' * 4)) ∧ k = .int .i64 k' ∧ n = .int .i64 q' ∧ x = .int .i64 x') (fun _ _ k => 9 - (intOf k).toNat)
          case atStart => exact ⟨0, q, 0, by omega, by omega, by omega, by omega, Lib.hid (show 0 = z / 256 from (Nat.div_eq_of_lt hxb).symm), rfl, rfl, rfl⟩
          case round =>
            obtain ⟨k, q', x, hk, hq3, hq4, hx, HX, rfl, rfl, rfl⟩ := hrel
            by_cases hkt : k < 2
            · have hkt' : (k : Int) < 2 := by omega
              have hd := dig_lt l (2 * c + k) 4
              have HE : Hid (z / 2 ^ (8 - k * 4) * 2 ^ 4 + dig l (2 * c + k) 4 = z / 2 ^ (8 - (k + 1) * 4)) := by rw [HZ.out]; exact dig_of_byte l 4 2 c k wm4 hkt
              have hsum : x * 2 ^ 4 + dig l (2 * c + k) 4 < 256 := by
                rw [HX.out, HE.out]; exact Nat.lt_of_le_of_lt (Nat.div_le_self _ _) hxb
              go_wp2_with (go_at_call 15; refine (Digit_at _ cap l 4 2 c k _ _ HV hl wm4 hkt hlt (by omega)).mono ?_; rintro e w1 ⟨rfl, rfl⟩; generalize dig l (2 * c + k) 4 = d at *)
              exact ⟨⟨k + 1, q' + 1, x * 2 ^ 4 + d, by omega, by omega, by omega, hsum, Lib.hid (by rw [HX.out]; exact HE.out), by go_num, by go_num, by go_num⟩, by simp [intOf]; omega⟩
            · have hkt' : ¬ (k : Int) < 2 := by omega
              obtain rfl : k = 2 := by omega
              have hx' : x = z := by rw [HX.out, HZ.out]; exact byte_end l 4 2 c wm4
              clear HX
              subst hx'
              go_wp2
              go_round
              case rel => exact ⟨_, .int .i64 q', .int .i64 (c + 1), ⟨c + 1, by omega, q', by omega, by omega, by go_num, rfl⟩, rfl, rfl, rfl⟩
              case measure => simp [intOf]; omega
        · have hlt' : ¬ (c : Int) < l.length := by omega
          obtain rfl : c = l.length := by omega
          go_wp2_with (first | (go_at_call 15; refine (Digit_off a cap l 4 2 _ _ HV hl wm4 (by omega)).mono ?_; rintro e w1 ⟨rfl, rfl⟩) | (go_at_call 14; refine (alive03_any _).mono ?_; rintro e w1 ⟨rfl, hb⟩))
          go_ret
          exact ⟨rfl, hb⟩
    · go_enter Try.func4, Try.ntmps4
      go_wp2_with fail
      go_loop [6, 7] (fun n i => ∃ c q : Nat, c ≤ l.length ∧ q ≤ 1 * c ∧ 1 * c ≤ q ∧ i = .int .i64 c ∧ n = .int .i64 q) (fun _ i => l.length - (intOf i).toNat)
      case atStart => exact ⟨0, 0, by omega, by omega, by omega, rfl, rfl⟩
      case round =>
        obtain ⟨c, q, hc, hq1, hq2, rfl, rfl⟩ := hrel
        by_cases hlt : c < l.length
        · have hlt' : (c : Int) < l.length := by omega
          obtain ⟨b, off, z, rfl, HZ, hxb, hcell⟩ : ∃ b off, ∃ z : Nat, a = some ⟨b, off, none⟩ ∧ Hid (z = bn (l.getD c 0)) ∧ z < 256 ∧ w.cell? ⟨b, off + c, none⟩ = some (.int .u8 z) := by
            obtain ⟨b, off, h1, h2⟩ := Sl.cellAt HV.out hlt
            exact ⟨b, off, _, h1, Lib.hid rfl, bn_lt _, h2⟩
          go_wp2_with fail
          go_loop [6, 8, 9] (fun n x k => ∃ k' q' x' : Nat, k' ≤ 1 ∧ q' ≤ 1 * c + k' ∧ 1 * c + k' ≤ q' ∧ x' < 256 ∧ Hid (x' = z / 2 ^ (8 - k' * 8)) ∧ k = .int .i64 k' ∧ n = .int .i64 q' ∧ x = .int .i64 x') (fun _ _ k => 9 - (intOf k).toNat)
          case atStart => exact ⟨0, q, 0, by omega, by omega, by omega, by omega, Lib.hid (show 0 = z / 256 from (Nat.div_eq_of_lt hxb).symm), rfl, rfl, rfl⟩
          case round =>
            obtain ⟨k, q', x, hk, hq3, hq4, hx, HX, rfl, rfl, rfl⟩ := hrel
            by_cases hkt : k < 1
            · have hkt' : (k : Int) < 1 := by omega
              have hd := dig_lt l (1 * c + k) 8
              have HE : Hid (z / 2 ^ (8 - k * 8) * 2 ^ 8 + dig l (1 * c + k) 8 = z / 2 ^ (8 - (k + 1) * 8)) := by rw [HZ.out]; exact dig_of_byte l 8 1 c k wm8 hkt
              have hsum : x * 2 ^ 8 + dig l (1 * c + k) 8 < 256 := by
                rw [HX.out, HE.out]; exact Nat.lt_of_le_of_lt (Nat.div_le_self _ _) hxb
              go_wp2_with (go_at_call 15; refine (Digit_at _ cap l 8 1 c k _ _ HV hl wm8 hkt hlt (by omega)).mono ?_; rintro e w1 ⟨rfl, rfl⟩; generalize dig l (1 * c + k) 8 = d at *)
              exact ⟨⟨k + 1, q' + 1, x * 2 ^ 8 + d, by omega, by omega, by omega, hsum, Lib.hid (by rw [HX.out]; exact HE.out), by go_num, by go_num, by go_num⟩, by simp [intOf]; omega⟩
            · have hkt' : ¬ (k : Int) < 1 := by omega
              obtain rfl : k = 1 := by omega
              have hx' : x = z := by rw [HX.out, HZ.out]; exact byte_end l 8 1 c wm8
              clear HX
              subst hx'
              go_wp2
              go_round
              case rel => exact ⟨_, .int .i64 q', .int .i64 (c + 1), ⟨c + 1, by omega, q', by omega, by omega, by go_num, rfl⟩, rfl, rfl, rfl⟩
              case measure => simp [intOf]; omega
        · have hlt' : ¬ (c : Int) < l.length := by omega
          obtain rfl : c = l.length := by omega
          go_wp2_with (first | (go_at_call 15; refine (Digit_off a cap l 8 1 _ _ HV hl wm8 (by omega)).mono ?_; rintro e w1 ⟨rfl, rfl⟩) | (go_at_call 14; refine (alive03_any _).mono ?_; rintro e w1 ⟨rfl, hb⟩))
          go_ret
          exact ⟨rfl, hb⟩
  · have hl' : (300 : Int) < l.length := by omega
    clear hv
    go_enter Try.func4, Try.ntmps4
    go_wp2_with (go_at_call 14; refine (alive03_any _).mono ?_; rintro e w1 ⟨rfl, hb⟩)
    go_ret
    exact ⟨rfl, hb⟩
end Go.Proofs.Ytabgnahjejhnkaa

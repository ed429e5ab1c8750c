/- The walks of digits.digit and digits.Digit. -/
import Derived.Test.YtabgnahjejhnkaaDigA
namespace Go.Proofs.Ytabgnahjejhnkaa
open Go Go.RowKit
set_option maxHeartbeats 400000

theorem wraps_i64 (n : Int) (h₀ : 0 ≤ n) (h₁ : n < 2 ^ 63) : IntKind.i64.wrap n = n := by rw [IntKind.wrap_i64]; omega
theorem mask_i64 (x n : Nat) (hx : x < 256) (hn : n = 1 ∨ n = 2 ∨ n = 4 ∨ n = 8) : bits .and .i64 (wrap64 x) (wrap64 (wrap64 (2 ^ n) - 1)) = ((x % 2 ^ n : Nat) : Int) := by
  have e1 : wrap64 (x : Int) = x := by unfold wrap64; omega
  have e2 : wrap64 (wrap64 (2 ^ n) - 1) = 2 ^ n - 1 := by rcases hn with rfl | rfl | rfl | rfl <;> decide +kernel
  rw [e1, e2, bits_mask .i64 63 (by decide) wraps_i64 n (by omega) (x : Int) (by omega) (by omega)]
  simp
theorem digit_any (b off cap : Nat) (l : List UInt8) (i n : Nat) (w : World) (hw : n = 1 ∨ n = 2 ∨ n = 4 ∨ n = 8) (hi : i * n < l.length * 8) (hl : l.length ≤ 1000000)
    (hc : w.cell? ⟨b, off + i * n / 8, none⟩ = some (.int .u8 (bn (l.getD (i * n / 8) 0)))) :
    Calls Try.prog 44 #[.slice (some ⟨b, off, none⟩) l.length cap, .int .i64 i, .int .i64 n] w fun e w' => e = .returned (.int .i64 (dig l i n)) ∧ w' = w := by
  have hx := bn_lt (l.getD (i * n / 8) 0)
  have h0 : (i : Int) ≤ i * n := by rcases hw with rfl | rfl | rfl | rfl <;> omega
  have h1 : (i * n : Int) < 8000000 := by
    have : ((i * n : Nat) : Int) < 8000000 := by omega
    simpa using this
  have h2 : ((i : Int) * n / 8) < l.length := by
    have : ((i * n / 8 : Nat) : Int) < l.length := by omega
    simpa using this
  have h3 : (0:Int) ≤ 8 - n - i * n % 8 := by
    have : (0:Int) ≤ 8 - n - (i * n % 8 : Nat) := by rcases hw with rfl | rfl | rfl | rfl <;> omega
    simpa using this
  have h4 : 8 - (n:Int) - i * n % 8 ≤ 8 := by omega
  have h5 : (0:Int) ≤ n := by omega
  have h6 : (n:Int) ≤ 8 := by omega
  go_enter Try.func44, Try.ntmps44
  go_wp2
  go_ret
  refine ⟨ret_int ?_, rfl⟩
  have := mask_i64 (bn (l.getD (i * n / 8) 0) / 2 ^ (8 - n - i * n % 8)) n (Nat.lt_of_le_of_lt (Nat.div_le_self _ _) hx) hw
  simpa [dig] using this

/-- digits.Digit of bytes: the digit, or that there is none -/
def digOk (l : List UInt8) (i n : Int) : Bool := isW n && decide (0 ≤ i) && decide (i < l.length * 8 / n)
/-- .. its value and its error -/
def digV (l : List UInt8) (i n : Int) : Int := if digOk l i n then dig l i.toNat n.toNat else 0
def digE (l : List UInt8) (i n : Int) : Int := if digOk l i n then 0 else 1
theorem Digit_any (v : Value) (l : List UInt8) (i n : Int) (w : World) (hv : Sl w v l) (hl : l.length ≤ 1000000)
    (hi : -9223372036854775808 ≤ i ∧ i ≤ 9223372036854775807) (hn : -9223372036854775808 ≤ n ∧ n ≤ 9223372036854775807) :
    Calls Try.prog 15 #[v, .int .i64 i, .int .i64 n] w fun e w' =>
      e = .returned (.tuple #[.int .i64 (digV l i n), .int .i64 (digE l i n)]) ∧ w' = w := by
  obtain ⟨a, cap, rfl⟩ : ∃ a cap, v = .slice a l.length cap := by
    rcases hv with ⟨rfl, a, c, rfl⟩ | ⟨b, off, cap, rfl, _⟩
    · exact ⟨a, c, rfl⟩
    · exact ⟨_, cap, rfl⟩
  by_cases hw : isW n = true
  · by_cases h0 : 0 ≤ i
    · by_cases h1 : i < l.length * 8 / n
      · have hd : digOk l i n = true := by simp [digOk, hw, h0, h1]
        have ev : digV l i n = dig l i.toNat n.toNat := by simp [digV, hd]
        have ee : digE l i n = 0 := by simp [digE, hd]
        rw [ev, ee]
        clear ev ee
        rcases hv with ⟨rfl, a, c, hh⟩ | ⟨b, off, cap', hh, h00, _, _, hc⟩
        · simp at h1; omega
        cases hh
        obtain ⟨i, rfl⟩ := Int.eq_ofNat_of_zero_le h0
        have hn' := (isW_iff n).1 hw
        obtain ⟨n, rfl⟩ := Int.eq_ofNat_of_zero_le (show 0 ≤ n by omega)
        have hk : i * n / 8 < l.length := by
          rcases hn' with h | h | h | h <;> (obtain rfl : n = _ := by exact_mod_cast h) <;> simp at h1 <;> omega
        have hck := hc _ hk
        have key : w.cell? ⟨b, off + i * n / 8, none⟩ = some (.int .u8 (bn (l.getD (i * n / 8) 0))) := by
          rw [hck]; simp [hk]
        clear hc hck
        simp only [Int.toNat_natCast]
        have h2 : ¬ ((l.length : Int) * 8 / n ≤ i) := by omega
        have hn4 : n = 1 ∨ n = 2 ∨ n = 4 ∨ n = 8 := by omega
        have hb : i * n < l.length * 8 := by omega
        have h3 : (1 : Int) ≤ n := by omega
        have h4 : ((n : Int) == 0) = false := by simp; omega
        clear hn' hk
        go_enter Try.func15, Try.ntmps15
        go_wp2_with (first | (go_at_call 43; refine (isWidth_any _ _ (by omega)).mono ?_; rintro e w' ⟨rfl, rfl⟩) | (go_at_call 44; refine (digit_any _ _ _ _ _ _ _ hn4 hb hl key).mono ?_; rintro e w' ⟨rfl, rfl⟩))
        go_ret2
        exact ⟨rfl, rfl⟩
      · have hd : digOk l i n = false := by simp [digOk, h1]
        have ev : digV l i n = 0 := by simp [digV, hd]
        have ee : digE l i n = 1 := by simp [digE, hd]
        rw [ev, ee]
        clear ev ee
        have hn' := (isW_iff n).1 hw
        obtain ⟨n, rfl⟩ := Int.eq_ofNat_of_zero_le (show 0 ≤ n by omega)
        obtain ⟨i, rfl⟩ := Int.eq_ofNat_of_zero_le h0
        have h3 : (1 : Int) ≤ n := by omega
        have h4 : ((n : Int) == 0) = false := by simp; omega
        have h2 : (l.length : Int) * 8 / n ≤ i := by omega
        clear hn' h1 hv
        go_enter Try.func15, Try.ntmps15
        go_wp2_with (go_at_call 43; refine (isWidth_any _ _ (by omega)).mono ?_; rintro e w' ⟨rfl, rfl⟩)
        go_ret2
        exact ⟨rfl, rfl⟩
    · have hd : digOk l i n = false := by simp [digOk, h0]
      have ev : digV l i n = 0 := by simp [digV, hd]
      have ee : digE l i n = 1 := by simp [digE, hd]
      rw [ev, ee]
      clear ev ee
      have h0' : i < 0 := by omega
      clear hv
      go_enter Try.func15, Try.ntmps15
      go_wp2_with (go_at_call 43; refine (isWidth_any _ _ (by omega)).mono ?_; rintro e w' ⟨rfl, rfl⟩)
      go_ret2
      exact ⟨rfl, rfl⟩
  · have hw' : isW n = false := by simpa using hw
    have hd : digOk l i n = false := by simp [digOk, hw']
    have ev : digV l i n = 0 := by simp [digV, hd]
    have ee : digE l i n = 1 := by simp [digE, hd]
    rw [ev, ee]
    clear ev ee
    clear hv hw
    go_enter Try.func15, Try.ntmps15
    go_wp2_with (go_at_call 43; refine (isWidth_any _ _ (by omega)).mono ?_; rintro e w' ⟨rfl, rfl⟩)
    go_ret2
    exact ⟨rfl, rfl⟩
end Go.Proofs.Ytabgnahjejhnkaa

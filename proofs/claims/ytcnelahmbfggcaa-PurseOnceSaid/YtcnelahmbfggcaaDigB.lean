/- The walks of digits.digit and digits.Digit. -/
import Derived.Test.YtcnelahmbfggcaaDigA
namespace Go.Proofs.Ytcnelahmbfggcaa
open Go Go.RowKit
set_option maxRecDepth 100000
set_option maxHeartbeats 400000

theorem wraps_i64 (n : Int) (h₀ : 0 ≤ n) (h₁ : n < 2 ^ 63) : IntKind.i64.wrap n = n := by rw [IntKind.wrap_i64]; omega
theorem mask_i64 (x n : Nat) (hx : x < 256) (hn : n = 1 ∨ n = 2 ∨ n = 4 ∨ n = 8) : bits .and .i64 (wrap64 x) (wrap64 (wrap64 (2 ^ n) - 1)) = ((x % 2 ^ n : Nat) : Int) := by
  have e1 : wrap64 (x : Int) = x := by unfold wrap64; omega
  have e2 : wrap64 (wrap64 (2 ^ n) - 1) = 2 ^ n - 1 := by rcases hn with rfl | rfl | rfl | rfl <;> decide +kernel
  rw [e1, e2, bits_mask .i64 63 (by decide) wraps_i64 n (by omega) (x : Int) (by omega) (by omega)]
  simp
theorem digit_any (b off cap : Nat) (l : List UInt8) (i n : Nat) (w : World) (hw : n = 1 ∨ n = 2 ∨ n = 4 ∨ n = 8) (hi : i * n < l.length * 8) (hl : l.length ≤ 1000000)
    (hc : w.cell? ⟨b, off + i * n / 8, none⟩ = some (.int .u8 (bn (l.getD (i * n / 8) 0)))) :
    Calls Try.prog 59 #[.slice (some ⟨b, off, none⟩) l.length cap, .int .i64 i, .int .i64 n] w fun e w' => e = .returned (.int .i64 (dig l i n)) ∧ w' = w := by
  have hx := bn_lt (l.getD (i * n / 8) 0)
  have h0 : (i : Int) ≤ i * n := by rcases hw with rfl | rfl | rfl | rfl <;> omega
  have h1 : (i * n : Int) < 8000000 := by
    have : ((i * n : Nat) : Int) < 8000000 := by omega
    simpa using this
  have h2 : ((i : Int) * n / 8) < l.length := by
    have : ((i * n / 8 : Nat) : Int) < l.length := by omega
    simpa using this
  have h3 : (0:Int) ≤ 8 - n - i * n % 8 := by
    have : (0:Int) ≤ 8 - n - (i * n % 8 : Nat) := by rcases hw with rfl | rfl | rfl | rfl <;> omega
    simpa using this
  have h4 : 8 - (n:Int) - i * n % 8 ≤ 8 := by omega
  have h5 : (0:Int) ≤ n := by omega
  have h6 : (n:Int) ≤ 8 := by omega
  go_enter Try.func59, Try.ntmps59
  go_wp2
  go_ret
  refine ⟨ret_int ?_, rfl⟩
  have := mask_i64 (bn (l.getD (i * n / 8) 0) / 2 ^ (8 - n - i * n % 8)) n (Nat.lt_of_le_of_lt (Nat.div_le_self _ _) hx) hw
  simpa [dig] using this

/-- digits.Digit of bytes: the digit, or that there is none -/
def digOk (l : List UInt8) (i n : Int) : Bool := isW n && decide (0 ≤ i) && decide (i < l.length * 8 / n)
/-- .. its value and its error -/
def digV (l : List UInt8) (i n : Int) : Int := if digOk l i n then dig l i.toNat n.toNat else 0
def digE (l : List UInt8) (i n : Int) : Int := if digOk l i n then 0 else 1
end Go.Proofs.Ytcnelahmbfggcaa

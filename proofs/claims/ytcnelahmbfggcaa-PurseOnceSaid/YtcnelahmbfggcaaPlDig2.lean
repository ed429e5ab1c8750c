/- The check number and all digits, plainly. No condition. -/
import Derived.Test.YtcnelahmbfggcaaPlDig
namespace Go.Proofs.Ytcnelahmbfggcaa
open Go
set_option maxRecDepth 100000

def sumD (l : List UInt8) (n : Nat) : Nat → Nat
  | 0 => 0
  | k + 1 => sumD l n k + dig l k n
theorem sumD_le (l : List UInt8) (n k : Nat) : sumD l n k ≤ k * (2 ^ n - 1) := by
  induction k with
  | zero => simp [sumD]
  | succ k ih =>
    have := dig_lt l k n
    rw [sumD, Nat.succ_mul]
    omega
def chkN (n : Nat) : Nat := if n = 1 then 9 else if n = 2 then 5 else if n = 4 then 3 else 2
/-- the check number -/
def numN (l : List UInt8) (n : Nat) : Nat := (256 / n * (2 ^ n - 1) - sumD l n (256 / n)) * 2 ^ (16 - chkN n * n)
theorem numN_lt (l : List UInt8) (n : Nat) (h : n = 1 ∨ n = 2 ∨ n = 4 ∨ n = 8) : numN l n < 65536 := by
  rcases h with rfl | rfl | rfl | rfl <;> simp [numN, chkN] <;> omega
def tailB (l : List UInt8) (n : Nat) : List UInt8 := [UInt8.ofNat (numN l n / 256), UInt8.ofNat (numN l n % 256)]
/-- all digits -/
def allN (l : List UInt8) (n : Nat) : List Nat := (List.range (256 / n + chkN n)).map fun i => dig (l ++ tailB l n) i n
theorem allN_length (l : List UInt8) (n : Nat) : (allN l n).length = 256 / n + chkN n := by simp [allN]
theorem dig_own (l r : List UInt8) (i n : Nat) (hl : l.length = 32) (h : n = 1 ∨ n = 2 ∨ n = 4 ∨ n = 8) (hi : i < 256 / n) : dig (l ++ r) i n = dig l i n := by
  have e : (l ++ r).getD (i * n / 8) 0 = l.getD (i * n / 8) 0 := by
    have : i * n / 8 < l.length := by rcases h with rfl | rfl | rfl | rfl <;> omega
    simp [List.getD_eq_getElem?_getD, List.getElem?_append_left this]
  rw [dig, dig, e]
theorem dig_tail (l r : List UInt8) (i n : Nat) (hl : l.length = 32) (h : n = 1 ∨ n = 2 ∨ n = 4 ∨ n = 8) : dig (l ++ r) (256 / n + i) n = dig r i n := by
  have e0 : (256 / n + i) * n = 256 + i * n := by rcases h with rfl | rfl | rfl | rfl <;> omega
  have e1 : (256 / n + i) * n / 8 = 32 + i * n / 8 := by omega
  have e2 : (256 / n + i) * n % 8 = i * n % 8 := by omega
  have e : (l ++ r).getD (32 + i * n / 8) 0 = r.getD (i * n / 8) 0 := by
    rw [List.getD_eq_getElem?_getD, List.getElem?_append_right (by omega), hl, Nat.add_sub_cancel_left, ← List.getD_eq_getElem?_getD]
  rw [dig, dig, e1, e2, e]
end Go.Proofs.Ytcnelahmbfggcaa

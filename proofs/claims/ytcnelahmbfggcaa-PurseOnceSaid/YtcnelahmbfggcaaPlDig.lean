/- Plain facts on digits of bytes. -/
import Derived.Test.YtcnelahmbfggcaaMem
namespace Go.Proofs.Ytcnelahmbfggcaa
open Go
set_option maxRecDepth 100000

/-- a width -/
def isW (w : Int) : Bool := w == 1 || w == 2 || w == 4 || w == 8
theorem isW_iff (w : Int) : isW w = true ↔ w = 1 ∨ w = 2 ∨ w = 4 ∨ w = 8 := by
  simp [isW, or_assoc]
/-- digit number i of the bytes l, of width w -/
def dig (l : List UInt8) (i w : Nat) : Nat := bn (l.getD (i * w / 8) 0) / 2 ^ (8 - w - i * w % 8) % 2 ^ w
/-- bit number j -/
def bitAt (l : List UInt8) (j : Nat) : Nat := bn (l.getD (j / 8) 0) / 2 ^ (7 - j % 8) % 2
/-- the first k bits of digit i, as a number -/
def bitsTo (l : List UInt8) (i w : Nat) : Nat → Nat
  | 0 => 0
  | k + 1 => 2 * bitsTo l i w k + bitAt l (i * w + k)

theorem dig_lt (l : List UInt8) (i w : Nat) : dig l i w < 2 ^ w := Nat.mod_lt _ (Nat.two_pow_pos w)
theorem bitsTo_dig (l : List UInt8) (i w : Nat) (hw : w = 1 ∨ w = 2 ∨ w = 4 ∨ w = 8) : bitsTo l i w w = dig l i w := by
  unfold dig
  have e1 : ∀ k, k < w → (i * w + k) / 8 = i * w / 8 := by rcases hw with rfl | rfl | rfl | rfl <;> intro k hk <;> omega
  have e2 : ∀ k, k < w → (i * w + k) % 8 = i * w % 8 + k := by rcases hw with rfl | rfl | rfl | rfl <;> intro k hk <;> omega
  have hm : i * w % 8 % w = 0 ∧ i * w % 8 < 8 := by rcases hw with rfl | rfl | rfl | rfl <;> omega
  generalize i * w % 8 = o at *
  have hx := bn_lt (l.getD (i * w / 8) 0)
  have hb : ∀ k, k < w → bitAt l (i * w + k) = bn (l.getD (i * w / 8) 0) / 2 ^ (7 - (o + k)) % 2 := fun k hk => by
    unfold bitAt; rw [e1 k hk, e2 k hk]
  generalize bn (l.getD (i * w / 8) 0) = x at *
  obtain ⟨hm, ho⟩ := hm
  rcases hw with rfl | rfl | rfl | rfl
  · simp only [bitsTo, hb 0 (by omega)]
    simp only [Nat.add_zero, Nat.mul_zero, Nat.zero_add, Nat.pow_one]
  · simp only [bitsTo, hb 0 (by omega), hb 1 (by omega)]
    have : o = 0 ∨ o = 2 ∨ o = 4 ∨ o = 6 := by omega
    rcases this with rfl | rfl | rfl | rfl <;> simp <;> omega
  · simp only [bitsTo, hb 0 (by omega), hb 1 (by omega), hb 2 (by omega), hb 3 (by omega)]
    have : o = 0 ∨ o = 4 := by omega
    rcases this with rfl | rfl <;> simp <;> omega
  · simp only [bitsTo, hb 0 (by omega), hb 1 (by omega), hb 2 (by omega), hb 3 (by omega), hb 4 (by omega), hb 5 (by omega), hb 6 (by omega), hb 7 (by omega)]
    obtain rfl : o = 0 := by omega
    simp
    omega
theorem bitsTo_lt (l : List UInt8) (i w k : Nat) : bitsTo l i w k < 2 ^ k := by
  induction k with
  | zero => simp [bitsTo]
  | succ k ih => simp only [bitsTo, bitAt, Nat.pow_succ]; omega
end Go.Proofs.Ytcnelahmbfggcaa

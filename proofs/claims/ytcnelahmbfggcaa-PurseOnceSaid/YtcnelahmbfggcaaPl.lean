/- Plain facts on bytes and 32-bit words, as the model's integers: what each bit operation of the model gives on them. No condition. -/
import Derived.Laws.Entries
import Derived.IntWalk
namespace Go.Proofs.Ytcnelahmbfggcaa
open Go
set_option maxRecDepth 100000

/-- a byte's number -/
def bn (b : UInt8) : Nat := b.toNat
/-- a word's number -/
def wn (x : UInt32) : Nat := x.toNat
theorem bn_lt (b : UInt8) : bn b < 256 := b.toNat_lt
theorem wn_lt (x : UInt32) : wn x < 4294967296 := x.toNat_lt

theorem ofInt_nat (n : Nat) (h : n < 2 ^ 32) : (BitVec.ofInt 32 (n : Int)).toNat = n := by
  rw [BitVec.ofInt_natCast, BitVec.toNat_ofNat, Nat.mod_eq_of_lt h]
theorem i_and (x y : UInt32) : bits .and .u32 (wn x) (wn y) = ((wn (x &&& y) : Nat) : Int) := by
  show IntKind.u32.wrap ((BitVec.ofInt 32 (wn x) &&& BitVec.ofInt 32 (wn y)).toNat : Int) = _
  rw [BitVec.toNat_and, ofInt_nat _ (wn_lt x), ofInt_nat _ (wn_lt y), IntKind.wrap_u32]
  have h1 := wn_lt x
  have := Nat.and_le_left (n := wn x) (m := wn y)
  have e : wn (x &&& y) = wn x &&& wn y := by simp [wn]
  rw [e]; omega
theorem i_xor (x y : UInt32) : bits .xor .u32 (wn x) (wn y) = ((wn (x ^^^ y) : Nat) : Int) := by
  show IntKind.u32.wrap ((BitVec.ofInt 32 (wn x) ^^^ BitVec.ofInt 32 (wn y)).toNat : Int) = _
  rw [BitVec.toNat_xor, ofInt_nat _ (wn_lt x), ofInt_nat _ (wn_lt y), IntKind.wrap_u32]
  have := Nat.xor_lt_two_pow (n := 32) (wn_lt x) (wn_lt y)
  have e : wn (x ^^^ y) = wn x ^^^ wn y := by simp [wn]
  rw [e]; omega
theorem i_or (x y : UInt32) : bits .or .u32 (wn x) (wn y) = ((wn (x ||| y) : Nat) : Int) := by
  show IntKind.u32.wrap ((BitVec.ofInt 32 (wn x) ||| BitVec.ofInt 32 (wn y)).toNat : Int) = _
  rw [BitVec.toNat_or, ofInt_nat _ (wn_lt x), ofInt_nat _ (wn_lt y), IntKind.wrap_u32]
  have := Nat.or_lt_two_pow (n := 32) (wn_lt x) (wn_lt y)
  have e : wn (x ||| y) = wn x ||| wn y := by simp [wn]
  rw [e]; omega
theorem i_add (x y : UInt32) : ((wn x : Int) + (wn y : Int)) % 4294967296 = ((wn (x + y) : Nat) : Int) := by
  simp [wn]
theorem i_shl (x : UInt32) (k : UInt32) (hk : k.toNat < 32) : ((wn x : Int) * 2 ^ k.toNat) % 4294967296 = ((wn (x <<< k) : Nat) : Int) := by
  simp [wn, Nat.shiftLeft_eq, Nat.mod_eq_of_lt hk]
theorem i_shr (x : UInt32) (k : UInt32) (hk : k.toNat < 32) : ((wn x : Int) / 2 ^ k.toNat) = ((wn (x >>> k) : Nat) : Int) := by
  simp [wn, Nat.shiftRight_eq_div_pow, Nat.mod_eq_of_lt hk]
end Go.Proofs.Ytcnelahmbfggcaa

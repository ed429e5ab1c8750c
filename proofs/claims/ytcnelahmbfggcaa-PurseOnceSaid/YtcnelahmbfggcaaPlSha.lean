/- SHA-256 in plain Lean, and facts on it. -/
namespace Go.Proofs.Ytcnelahmbfggcaa

/-! SHA-256 in plain Lean -/
def rotr (x : UInt32) (k : Nat) : UInt32 := (x >>> UInt32.ofNat k) ||| (x <<< UInt32.ofNat (32 - k))
def ch (e f g : UInt32) : UInt32 := g ^^^ (e &&& (f ^^^ g))
def maj (a b c : UInt32) : UInt32 := (a &&& b) ^^^ (a &&& c) ^^^ (b &&& c)
def sig0 (x : UInt32) : UInt32 := rotr x 7 ^^^ rotr x 18 ^^^ (x >>> 3)
def sig1 (x : UInt32) : UInt32 := rotr x 17 ^^^ rotr x 19 ^^^ (x >>> 10)
def big1 (x : UInt32) : UInt32 := rotr x 6 ^^^ rotr x 11 ^^^ rotr x 25
def big0 (x : UInt32) : UInt32 := rotr x 2 ^^^ rotr x 13 ^^^ rotr x 22

theorem ch_ref (e f g : UInt32) : (e &&& f) ||| ((e ^^^ 4294967295) &&& g) = ch e f g := by
  apply UInt32.toBitVec_inj.1
  ext i hi
  have h1 : (4294967295#32)[i] = true := by
    have : (4294967295#32) = BitVec.allOnes 32 := by decide
    rw [this, BitVec.getElem_allOnes]
  simp [ch, h1]
  generalize e.toBitVec[i] = a
  generalize f.toBitVec[i] = b
  generalize g.toBitVec[i] = c
  cases a <;> cases b <;> cases c <;> rfl
theorem maj_ref (e f g : UInt32) : (e &&& f) ||| (e &&& g) ||| (f &&& g) = maj e f g := by
  apply UInt32.toBitVec_inj.1
  ext i hi
  simp [maj]
  generalize e.toBitVec[i] = a
  generalize f.toBitVec[i] = b
  generalize g.toBitVec[i] = c
  cases a <;> cases b <;> cases c <;> rfl

/-- the word of four bytes from place i on -/
def wordAt (b : List UInt8) (i : Nat) : UInt32 :=
  ((b.getD i 0).toUInt32 <<< 24) ||| ((b.getD (i+1) 0).toUInt32 <<< 16) ||| ((b.getD (i+2) 0).toUInt32 <<< 8) ||| (b.getD (i+3) 0).toUInt32
def schedNext (w : List UInt32) (t : Nat) : UInt32 :=
  w.getD (t-16) 0 + sig0 (w.getD (t-15) 0) + w.getD (t-7) 0 + sig1 (w.getD (t-2) 0)
/-- the first n words of the schedule -/
def schedTo (b : List UInt8) : Nat → List UInt32
  | 0 => []
  | n+1 => let w := schedTo b n; w ++ [if n < 16 then wordAt b (4*n) else schedNext w n]
def sched (b : List UInt8) : List UInt32 := schedTo b 64
theorem schedTo_length (b : List UInt8) (n : Nat) : (schedTo b n).length = n := by
  induction n with
  | zero => rfl
  | succ n ih => simp [schedTo, ih]

structure St where
  a : UInt32
  b : UInt32
  c : UInt32
  d : UInt32
  e : UInt32
  f : UInt32
  g : UInt32
  h : UInt32

def St.list (s : St) : List UInt32 := [s.a, s.b, s.c, s.d, s.e, s.f, s.g, s.h]
def round (s : St) (k w : UInt32) : St :=
  let t1 := s.h + big1 s.e + ch s.e s.f s.g + k + w
  let t2 := big0 s.a + maj s.a s.b s.c
  ⟨t1 + t2, s.a, s.b, s.c, s.d + t1, s.e, s.f, s.g⟩
def K : List UInt32 := [
    0x428a2f98, 0x71374491, 0xb5c0fbcf, 0xe9b5dba5, 0x3956c25b, 0x59f111f1, 0x923f82a4, 0xab1c5ed5,
    0xd807aa98, 0x12835b01, 0x243185be, 0x550c7dc3, 0x72be5d74, 0x80deb1fe, 0x9bdc06a7, 0xc19bf174,
    0xe49b69c1, 0xefbe4786, 0x0fc19dc6, 0x240ca1cc, 0x2de92c6f, 0x4a7484aa, 0x5cb0a9dc, 0x76f988da,
    0x983e5152, 0xa831c66d, 0xb00327c8, 0xbf597fc7, 0xc6e00bf3, 0xd5a79147, 0x06ca6351, 0x14292967,
    0x27b70a85, 0x2e1b2138, 0x4d2c6dfc, 0x53380d13, 0x650a7354, 0x766a0abb, 0x81c2c92e, 0x92722c85,
    0xa2bfe8a1, 0xa81a664b, 0xc24b8b70, 0xc76c51a3, 0xd192e819, 0xd6990624, 0xf40e3585, 0x106aa070,
    0x19a4c116, 0x1e376c08, 0x2748774c, 0x34b0bcb5, 0x391c0cb3, 0x4ed8aa4a, 0x5b9cca4f, 0x682e6ff3,
    0x748f82ee, 0x78a5636f, 0x84c87814, 0x8cc70208, 0x90befffa, 0xa4506ceb, 0xbef9a3f7, 0xc67178f2]
/-- n rounds -/
def roundsTo (w : List UInt32) (s : St) : Nat → St
  | 0 => s
  | n+1 => round (roundsTo w s n) (K.getD n 0) (w.getD n 0)
def St.add (s t : St) : St := ⟨s.a + t.a, s.b + t.b, s.c + t.c, s.d + t.d, s.e + t.e, s.f + t.f, s.g + t.g, s.h + t.h⟩
/-- what a block does to a state -/
def comp (s : St) (b : List UInt8) : St := s.add (roundsTo (sched b) s 64)
def init : St := ⟨0x6a09e667, 0xbb67ae85, 0x3c6ef372, 0xa54ff53a, 0x510e527f, 0x9b05688c, 0x1f83d9ab, 0x5be0cd19⟩
/-- a number's bytes, the greatest first -/
def be (long : Nat) (n : Nat) : List UInt8 := (List.range long).map fun i => UInt8.ofNat (n / 2 ^ (8 * (long - 1 - i)))
def pad (n : Nat) : List UInt8 := 0x80 :: (List.replicate ((119 - n % 64) % 64) 0 ++ be 8 (n * 8 % 2^64))
/-- n blocks -/
def absorb : Nat → St → List UInt8 → St
  | 0, s, _ => s
  | n+1, s, l => absorb n (comp s (l.take 64)) (l.drop 64)
def St.bytes (s : St) : List UInt8 := s.list.flatMap fun x => be 4 x.toNat
def sha (b : List UInt8) : List UInt8 :=
  let m := b ++ pad b.length
  (absorb (m.length / 64) init m).bytes

theorem pad_length (n : Nat) : (pad n).length = 9 + (119 - n % 64) % 64 := by simp [pad, be]; omega
theorem pad_mod (n : Nat) : (n + (pad n).length) % 64 = 0 := by rw [pad_length]; omega
theorem sha_length (b : List UInt8) : (sha b).length = 32 := by simp [sha, St.bytes, St.list, be]

theorem absorb_snoc (n : Nat) : ∀ (s : St) (l : List UInt8) (r : List UInt8), l.length = 64 * n → r.length = 64 → absorb (n+1) s (l ++ r) = comp (absorb n s l) r := by
  induction n with
  | zero =>
    intro s l r hl hr
    have : l = [] := List.eq_nil_of_length_eq_zero (by simpa using hl)
    subst this
    simp [absorb, List.take_of_length_le (Nat.le_of_eq hr)]
  | succ n ih =>
    intro s l r hl hr
    rw [absorb, absorb]
    rw [List.take_append_of_le_length (by omega), List.drop_append_of_le_length (by omega)]
    exact ih _ _ _ (by simp; omega) hr
theorem absorb_take (n : Nat) : ∀ (s : St) (l : List UInt8), 64 * n ≤ l.length → absorb n s l = absorb n s (l.take (64 * n)) := by
  induction n with
  | zero => intro s l _; rfl
  | succ n ih =>
    intro s l hl
    rw [absorb, absorb, List.take_take, Nat.min_eq_left (by omega), ih _ (l.drop 64) (by simp; omega), List.drop_take]
    congr 2
theorem absorb_add (m n : Nat) : ∀ (s : St) (l : List UInt8), absorb (m + n) s l = absorb n (absorb m s l) (l.drop (64 * m)) := by
  induction m with
  | zero => intro s l; simp [absorb]
  | succ m ih =>
    intro s l
    rw [Nat.add_right_comm, absorb, absorb, ih, List.drop_drop]
    congr 2; omega

end Go.Proofs.Ytcnelahmbfggcaa

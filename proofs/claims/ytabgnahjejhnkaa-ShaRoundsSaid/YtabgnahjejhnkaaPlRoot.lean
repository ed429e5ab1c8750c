/- Plain arithmetic for the document's Root: numbers in pieces of 16 bits, the first 64 primes, the cube roots. No condition. -/
namespace Go.Proofs.Ytabgnahjejhnkaa

def nval : List Nat → Nat
  | [] => 0
  | d :: l => d + 65536 * nval l
theorem nval_append : ∀ (l r : List Nat), nval (l ++ r) = nval l + 65536 ^ l.length * nval r
  | [], r => by simp [nval]
  | d :: l, r => by
    simp only [List.cons_append, nval, nval_append l r, List.length_cons, Nat.pow_succ]
    rw [Nat.mul_add, Nat.add_assoc, ← Nat.mul_assoc, Nat.mul_comm 65536 (65536 ^ l.length)]
theorem nval_zeros (n : Nat) : nval (List.replicate n 0) = 0 := by
  induction n with
  | zero => rfl
  | succ n ih => simp [List.replicate_succ, nval, ih]
theorem nval_set : ∀ (l : List Nat) (i x : Nat), i < l.length → nval (l.set i x) + 65536 ^ i * l.getD i 0 = nval l + 65536 ^ i * x
  | d :: l, 0, x, _ => by simp [nval]; omega
  | d :: l, i + 1, x, h => by
    have ih := nval_set l i x (by simpa using h)
    simp only [List.set_cons_succ, nval, List.getD_cons_succ, Nat.pow_succ]
    have e1 : 65536 ^ i * 65536 * l.getD i 0 = 65536 * (65536 ^ i * l.getD i 0) := by rw [Nat.mul_comm (65536 ^ i) 65536, Nat.mul_assoc]
    have e2 : 65536 ^ i * 65536 * x = 65536 * (65536 ^ i * x) := by rw [Nat.mul_comm (65536 ^ i) 65536, Nat.mul_assoc]
    rw [e1, e2]
    omega
theorem nval_take_succ (l : List Nat) (k : Nat) (h : k < l.length) : nval (l.take (k + 1)) = nval (l.take k) + 65536 ^ k * l.getD k 0 := by
  have e : l.take (k + 1) = l.take k ++ [l.getD k 0] := by
    rw [List.take_succ_eq_append_getElem h]; simp [h]
  rw [e, nval_append]
  simp [nval, Nat.min_eq_left (Nat.le_of_lt h)]
theorem nval_lt : ∀ (l : List Nat), (∀ d ∈ l, d < 65536) → nval l < 65536 ^ l.length
  | [], _ => by simp [nval]
  | d :: l, h => by
    have ih := nval_lt l fun x hx => h x (List.mem_cons_of_mem _ hx)
    have hd := h d List.mem_cons_self
    simp only [nval, List.length_cons, Nat.pow_succ]
    omega

/-- one piece's turn in a product -/
theorem row_step (out : List Nat) (p c x y : Nat) (hp : p < out.length) : nval (out.set p ((c + out.getD p 0 + x * y) % 65536)) + 65536 ^ (p + 1) * ((c + out.getD p 0 + x * y) / 65536) = nval out + 65536 ^ p * c + 65536 ^ p * (x * y) := by
  have h := nval_set out p ((c + out.getD p 0 + x * y) % 65536) hp
  have e : 65536 ^ p * ((c + out.getD p 0 + x * y) % 65536) + 65536 ^ (p + 1) * ((c + out.getD p 0 + x * y) / 65536) = 65536 ^ p * (c + out.getD p 0 + x * y) := by
    rw [Nat.pow_succ, Nat.mul_assoc, ← Nat.mul_add, Nat.mod_add_div]
  have e2 : 65536 ^ p * (c + out.getD p 0 + x * y) = 65536 ^ p * c + 65536 ^ p * out.getD p 0 + 65536 ^ p * (x * y) := by rw [Nat.mul_add, Nat.mul_add]
  omega
theorem carry_lt {c o x y : Nat} (hc : c < 65536) (ho : o < 65536) (hx : x < 65536) (hy : y < 65536) : (c + o + x * y) / 65536 < 65536 ∧ c + o + x * y < 4294967296 := by
  have : x * y ≤ 65535 * 65535 := Nat.mul_le_mul (by omega) (by omega)
  omega

/-- where two numbers of as many pieces first differ, from above -/
theorem nval_split (l : List Nat) (i : Nat) (h : i < l.length) : nval l = nval (l.take i) + 65536 ^ i * (l.getD i 0 + 65536 * nval (l.drop (i + 1))) := by
  have e : l = l.take i ++ (l.getD i 0 :: l.drop (i + 1)) := by
    have : l.getD i 0 = l[i] := by simp [h]
    rw [this, List.getElem_cons_drop, List.take_append_drop]
  have e2 := congrArg nval e
  rw [nval_append, nval] at e2
  simpa [Nat.min_eq_left (Nat.le_of_lt h)] using e2
theorem nval_top (l m : List Nat) (i : Nat) (hl : i < l.length) (hm : i < m.length) (hs : l.drop (i + 1) = m.drop (i + 1)) (hd : ∀ d ∈ l, d < 65536) (h : l.getD i 0 < m.getD i 0) : nval l < nval m := by
  rw [nval_split l i hl, nval_split m i hm, hs]
  have h1 : nval (l.take i) < 65536 ^ i := by
    have := nval_lt (l.take i) fun d hx => hd d (List.mem_of_mem_take hx)
    rwa [List.length_take, Nat.min_eq_left (Nat.le_of_lt hl)] at this
  have h2 : 65536 ^ i * (l.getD i 0 + 65536 * nval (m.drop (i + 1))) + 65536 ^ i ≤ 65536 ^ i * (m.getD i 0 + 65536 * nval (m.drop (i + 1))) := by
    rw [← Nat.mul_succ]
    exact Nat.mul_le_mul (Nat.le_refl _) (by omega)
  omega

/-- the first place from above where they differ decides -/
theorem cmp_at (c m : List Nat) (r : Nat) (hc : r < c.length) (hm : r < m.length) (hs : c.drop (r + 1) = m.drop (r + 1)) (dc : ∀ d ∈ c, d < 65536) (dm : ∀ d ∈ m, d < 65536) (hne : c.getD r 0 ≠ m.getD r 0) :
    decide (nval c ≤ nval m) = decide (c.getD r 0 < m.getD r 0) := by
  rcases Nat.lt_or_gt_of_ne hne with h | h
  · have := nval_top c m r hc hm hs dc h
    rw [decide_eq_true (Nat.le_of_lt this), decide_eq_true h]
  · have := nval_top m c r hm hc hs.symm dm h
    rw [decide_eq_false (Nat.not_le.2 this), decide_eq_false (by omega)]
theorem drop_eq_step (c m : List Nat) (r : Nat) (hc : r < c.length) (hm : r < m.length) (hs : c.drop (r + 1) = m.drop (r + 1)) (h : c.getD r 0 = m.getD r 0) : c.drop r = m.drop r := by
  have e1 : c.getD r 0 = c[r] := by simp [hc]
  have e2 : m.getD r 0 = m[r] := by simp [hm]
  rw [List.drop_eq_getElem_cons hc, List.drop_eq_getElem_cons hm, hs, ← e1, ← e2, h]
/-- what the cube is held against -/
def target (p : Nat) : List Nat := [0, 0, 0, 0, 0, 0, p, 0, 0]
theorem target_nval (p : Nat) : nval (target p) = p * 2 ^ 96 := by simp [target, nval]; omega
theorem target_getD (p r : Nat) (h : r < 9) : (target p).getD r 0 = if r = 6 then p else 0 := by
  match r, h with
  | 0, _ | 1, _ | 2, _ | 3, _ | 4, _ | 5, _ | 6, _ | 7, _ | 8, _ => rfl
theorem three_nval (x : Nat) : nval [x % 65536, x / 65536 % 65536, x / 4294967296] = x := by simp [nval]; omega

def primes : List Nat := [2, 3, 5, 7, 11, 13, 17, 19, 23, 29, 31, 37, 41, 43, 47, 53, 59, 61, 67, 71, 73, 79, 83, 89, 97, 101, 103, 107, 109, 113, 127, 131, 137, 139, 149, 151, 157, 163, 167, 173, 179, 181, 191, 193, 197, 199, 211, 223, 227, 229, 233, 239, 241, 251, 257, 263, 269, 271, 277, 281, 283, 293, 307, 311]
/-- a number is one -/
def isPrime (n : Nat) : Bool := (List.range n).all fun d => !(decide (2 ≤ d) && decide (d * d ≤ n) && n % d == 0)
theorem primes_ok : ∀ k < 63, primes.getD k 0 < primes.getD (k + 1) 0 ∧ isPrime (primes.getD (k + 1) 0) = true ∧ ∀ p < primes.getD (k + 1) 0, primes.getD k 0 < p → isPrime p = false := by decide +kernel
theorem primes_bd : ∀ k < 64, 2 ≤ primes.getD k 0 ∧ primes.getD k 0 ≤ 311 := by decide +kernel

/-- the bits of a cube root, from bit b on down -/
def bits (p : Nat) : Nat → Nat → Nat
  | 0, x => x
  | b + 1, x => bits p b (if (x + 2 ^ b) ^ 3 ≤ p * 2 ^ 96 then x + 2 ^ b else x)
def root (i : Nat) : Nat := bits (primes.getD i 0) 36 0 % 4294967296
end Go.Proofs.Ytabgnahjejhnkaa

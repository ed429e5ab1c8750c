/- Of two unlike sums each has a digit that is greater than the other's. No condition but that they have 32 bytes. -/
import Derived.Test.YtabgnahjejhnkaaPlDig2
namespace Go.Proofs.Ytabgnahjejhnkaa
open Go
set_option maxHeartbeats 1000000

theorem sumD_mono (l m : List UInt8) (k : Nat) : ∀ n, (∀ i, i < n → dig l i k ≤ dig m i k) → sumD l k n ≤ sumD m k n
  | 0, _ => Nat.le_refl _
  | n + 1, h => by
    have := sumD_mono l m k n fun i hi => h i (by omega)
    have := h n (by omega)
    simp only [sumD]; omega
theorem sumD_lt (l m : List UInt8) (k : Nat) : ∀ n, (∀ i, i < n → dig l i k ≤ dig m i k) → (∃ i, i < n ∧ dig l i k ≠ dig m i k) → sumD l k n < sumD m k n
  | 0, _, ⟨i, hi, _⟩ => by omega
  | n + 1, h, ⟨i, hi, hne⟩ => by
    have h1 := h n (by omega)
    simp only [sumD]
    by_cases e : i = n
    · subst e
      have := sumD_mono l m k i fun i hi => h i (by omega)
      omega
    · have := sumD_lt l m k n (fun i hi => h i (by omega)) ⟨i, by omega, hne⟩
      omega
theorem bits8 : ∀ x < 256, x = 128 * (x / 128 % 2) + 64 * (x / 64 % 2) + 32 * (x / 32 % 2) + 16 * (x / 16 % 2) + 8 * (x / 8 % 2) + 4 * (x / 4 % 2) + 2 * (x / 2 % 2) + x / 1 % 2 := by decide +kernel
theorem bits4 : ∀ x < 256, x = 64 * (x / 64 % 4) + 16 * (x / 16 % 4) + 4 * (x / 4 % 4) + x / 1 % 4 := by decide +kernel
theorem bits2 : ∀ x < 256, x = 16 * (x / 16 % 16) + x / 1 % 16 := by decide +kernel
theorem lin8 (a b c d e f g h a' b' c' d' e' f' g' h' : Nat) (h0 : a ≤ a') (h1 : b ≤ b') (h2 : c ≤ c') (h3 : d ≤ d') (h4 : e ≤ e') (h5 : f ≤ f') (h6 : g ≤ g') (h7 : h ≤ h') :
    128 * a + 64 * b + 32 * c + 16 * d + 8 * e + 4 * f + 2 * g + h ≤ 128 * a' + 64 * b' + 32 * c' + 16 * d' + 8 * e' + 4 * f' + 2 * g' + h' := by omega
theorem lin4 (a b c d a' b' c' d' : Nat) (h0 : a ≤ a') (h1 : b ≤ b') (h2 : c ≤ c') (h3 : d ≤ d') : 64 * a + 16 * b + 4 * c + d ≤ 64 * a' + 16 * b' + 4 * c' + d' := by omega
theorem lin2 (a b a' b' : Nat) (h0 : a ≤ a') (h1 : b ≤ b') : 16 * a + b ≤ 16 * a' + b' := by omega
theorem byte_le (x y : Nat) (hx : x < 256) (hy : y < 256) (k : Nat) (hk : k = 1 ∨ k = 2 ∨ k = 4 ∨ k = 8) (h : ∀ r, r < 8 / k → x / 2 ^ (8 - k - r * k) % 2 ^ k ≤ y / 2 ^ (8 - k - r * k) % 2 ^ k) : x ≤ y := by
  rcases hk with rfl | rfl | rfl | rfl
  · exact le_of_le_of_eq (Nat.le_trans (Nat.le_of_eq (bits8 x hx)) (lin8 _ _ _ _ _ _ _ _ _ _ _ _ _ _ _ _ (h 0 (by decide)) (h 1 (by decide)) (h 2 (by decide)) (h 3 (by decide)) (h 4 (by decide)) (h 5 (by decide)) (h 6 (by decide)) (h 7 (by decide)))) (bits8 y hy).symm
  · exact le_of_le_of_eq (Nat.le_trans (Nat.le_of_eq (bits4 x hx)) (lin4 _ _ _ _ _ _ _ _ (h 0 (by decide)) (h 1 (by decide)) (h 2 (by decide)) (h 3 (by decide)))) (bits4 y hy).symm
  · exact le_of_le_of_eq (Nat.le_trans (Nat.le_of_eq (bits2 x hx)) (lin2 _ _ _ _ (h 0 (by decide)) (h 1 (by decide)))) (bits2 y hy).symm
  · have h0 : x / 1 % 256 ≤ y / 1 % 256 := h 0 (by decide)
    rwa [Nat.div_one, Nat.div_one, Nat.mod_eq_of_lt hx, Nat.mod_eq_of_lt hy] at h0
theorem byte_of (x y : Nat) (hx : x < 256) (hy : y < 256) (k : Nat) (hk : k = 1 ∨ k = 2 ∨ k = 4 ∨ k = 8) (h : ∀ r, r < 8 / k → x / 2 ^ (8 - k - r * k) % 2 ^ k = y / 2 ^ (8 - k - r * k) % 2 ^ k) : x = y :=
  Nat.le_antisymm (byte_le x y hx hy k hk fun r hr => Nat.le_of_eq (h r hr)) (byte_le y x hy hx k hk fun r hr => Nat.le_of_eq (h r hr).symm)
theorem own_digits (l m : List UInt8) (k : Nat) (hl : l.length = 32) (hm : m.length = 32) (hk : k = 1 ∨ k = 2 ∨ k = 4 ∨ k = 8) (h : ∀ i, i < 256 / k → dig l i k = dig m i k) : l = m := by
  apply List.ext_getElem?
  intro j
  by_cases hj : j < 32
  · have : bn (l.getD j 0) = bn (m.getD j 0) := by
      refine byte_of _ _ (bn_lt _) (bn_lt _) k hk fun r hr => ?_
      have h1 := h (j * (8 / k) + r) (by rcases hk with rfl | rfl | rfl | rfl <;> omega)
      have e : (j * (8 / k) + r) * k = 8 * j + r * k := by rcases hk with rfl | rfl | rfl | rfl <;> omega
      have e1 : (8 * j + r * k) / 8 = j := by rcases hk with rfl | rfl | rfl | rfl <;> omega
      have e2 : (8 * j + r * k) % 8 = r * k := by rcases hk with rfl | rfl | rfl | rfl <;> omega
      simpa only [dig, e, e1, e2] using h1
    have hb : l.getD j 0 = m.getD j 0 := UInt8.toNat_inj.1 this
    rw [List.getElem?_eq_getElem (by omega), List.getElem?_eq_getElem (by omega)]
    congr 1
    have e1 : l.getD j 0 = l[j] := by simp [hl, hj]
    have e2 : m.getD j 0 = m[j] := by simp [hm, hj]
    rw [← e1, ← e2, hb]
  · rw [List.getElem?_eq_none (by omega), List.getElem?_eq_none (by omega)]

/-- the digits of a number of 16 bits -/
def tl (n : Nat) : List UInt8 := [UInt8.ofNat (n / 256), UInt8.ofNat (n % 256)]
theorem tl_bn (z : Nat) (hz : z < 65536) : bn (UInt8.ofNat (z / 256)) = z / 256 ∧ bn (UInt8.ofNat (z % 256)) = z % 256 := by
  constructor
  · simp only [bn, UInt8.toNat_ofNat']; omega
  · simp only [bn, UInt8.toNat_ofNat']; omega
theorem tl_hi (z i k : Nat) (hz : z < 65536) (hk : k = 1 ∨ k = 2 ∨ k = 4 ∨ k = 8) (hi : i < 8 / k) : dig (tl z) i k = z / 256 / 2 ^ (8 - k - i * k) % 2 ^ k := by
  have e1 : i * k / 8 = 0 := by rcases hk with rfl | rfl | rfl | rfl <;> omega
  have e2 : i * k % 8 = i * k := by rcases hk with rfl | rfl | rfl | rfl <;> omega
  rw [dig, e1, e2, tl, List.getD_cons_zero, (tl_bn z hz).1]
theorem tl_lo (z k : Nat) (hz : z < 65536) (hk : k = 1 ∨ k = 2 ∨ k = 4 ∨ k = 8) : dig (tl z) (8 / k) k = z % 256 / 2 ^ (8 - k) % 2 ^ k := by
  have e1 : 8 / k * k / 8 = 1 := by rcases hk with rfl | rfl | rfl | rfl <;> rfl
  have e2 : 8 / k * k % 8 = 0 := by rcases hk with rfl | rfl | rfl | rfl <;> rfl
  rw [dig, e1, e2, tl, List.getD_cons_succ, List.getD_cons_zero, (tl_bn z hz).2, Nat.sub_zero]
theorem tl_mono (x y k : Nat) (hk : k = 1 ∨ k = 2 ∨ k = 4 ∨ k = 8) (hx : x < 65536) (hy : y < 65536) (mx : x % 2 ^ (16 - chkN k * k) = 0) (my : y % 2 ^ (16 - chkN k * k) = 0)
    (h : ∀ i, i < chkN k → dig (tl x) i k ≤ dig (tl y) i k) : x ≤ y := by
  have hc : chkN k = 8 / k + 1 := by rcases hk with rfl | rfl | rfl | rfl <;> rfl
  have h1 : x / 256 ≤ y / 256 := byte_le _ _ (by omega) (by omega) k hk fun r hr => by
    have := h r (by omega)
    rwa [tl_hi x r k hx hk hr, tl_hi y r k hy hk hr] at this
  have h2 := h (8 / k) (by omega)
  rw [tl_lo x k hx hk, tl_lo y k hy hk] at h2
  clear h hc
  rcases hk with rfl | rfl | rfl | rfl
  · have h2 : x % 256 / 128 % 2 ≤ y % 256 / 128 % 2 := h2
    have mx : x % 128 = 0 := mx
    have my : y % 128 = 0 := my
    omega
  · have h2 : x % 256 / 64 % 4 ≤ y % 256 / 64 % 4 := h2
    have mx : x % 64 = 0 := mx
    have my : y % 64 = 0 := my
    omega
  · have h2 : x % 256 / 16 % 16 ≤ y % 256 / 16 % 16 := h2
    have mx : x % 16 = 0 := mx
    have my : y % 16 = 0 := my
    omega
  · have h2 : x % 256 / 1 % 256 ≤ y % 256 / 1 % 256 := h2
    omega

theorem allN_getD' (l : List UInt8) (n i : Nat) (hi : i < 256 / n + chkN n) : (allN l n).getD i 0 = dig (l ++ tailB l n) i n := by simp [allN, hi]
theorem numN_mod' (l : List UInt8) (k : Nat) : numN l k % 2 ^ (16 - chkN k * k) = 0 := by
  rw [numN]; exact Nat.mul_mod_left _ _
/-- CHECK -/
theorem greater (l m : List UInt8) (k : Nat) (hl : l.length = 32) (hm : m.length = 32) (hk : k = 1 ∨ k = 2 ∨ k = 4 ∨ k = 8) (hne : l ≠ m) :
    ∃ i, i < 256 / k + chkN k ∧ (allN m k).getD i 0 < (allN l k).getD i 0 := by
  apply Classical.byContradiction
  intro hno
  have hall : ∀ i, i < 256 / k + chkN k → (allN l k).getD i 0 ≤ (allN m k).getD i 0 := fun i hi => Nat.le_of_not_lt fun h => hno ⟨i, hi, h⟩
  have h1 : ∀ i, i < 256 / k → dig l i k ≤ dig m i k := fun i hi => by
    have := hall i (by omega)
    rwa [allN_getD' l k i (by omega), allN_getD' m k i (by omega), dig_own l _ i k hl hk hi, dig_own m _ i k hm hk hi] at this
  have h2 : ∀ i, i < chkN k → dig (tl (numN l k)) i k ≤ dig (tl (numN m k)) i k := fun i hi => by
    have := hall (256 / k + i) (by omega)
    rwa [allN_getD' l k _ (by omega), allN_getD' m k _ (by omega), dig_tail l _ i k hl hk, dig_tail m _ i k hm hk] at this
  have h3 : ∃ i, i < 256 / k ∧ dig l i k ≠ dig m i k := by
    apply Classical.byContradiction
    intro hn
    exact hne (own_digits l m k hl hm hk fun i hi => Classical.byContradiction fun h => hn ⟨i, hi, h⟩)
  have h4 := sumD_lt l m k (256 / k) h1 h3
  have h5 := tl_mono _ _ k hk (numN_lt l k hk) (numN_lt m k hk) (numN_mod' l k) (numN_mod' m k) h2
  have h6 := sumD_le m k (256 / k)
  have h7 := sumD_le l k (256 / k)
  have h8 : numN m k < numN l k := by
    unfold numN
    refine Nat.mul_lt_mul_of_pos_right ?_ (Nat.two_pow_pos _)
    omega
  omega
end Go.Proofs.Ytabgnahjejhnkaa

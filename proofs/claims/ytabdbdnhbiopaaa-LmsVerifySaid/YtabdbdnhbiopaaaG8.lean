/- SHA-256 on numbers, for the kernel to reckon with, and that it is the same function. -/
import Derived.Test.YtabdbdnhbiopaaaPlSha
import Derived.Test.YtabdbdnhbiopaaaG7
import Derived.Test.YtabdbdnhbiopaaaG6
import Derived.Test.YtabdbdnhbiopaaaG5
namespace Go.Proofs.Ytabdbdnhbiopaaa
namespace Fast
set_option maxRecDepth 100000
set_option maxHeartbeats 2000000

noncomputable def fN {α : Type} (n : Nat) (k : Nat → α) : α := Nat.rec (motive := fun _ => α) (k (nat_lit 0)) (fun m _ => k (Nat.succ m)) n
def dupN (x : Nat) : Nat := Nat.mul x (nat_lit 4294967297)
def x3 (x y z : Nat) : Nat := Nat.mod (Nat.xor (Nat.xor x y) z) (nat_lit 4294967296)
def sg0 (x : Nat) : Nat := x3 (Nat.shiftRight (dupN x) (nat_lit 7)) (Nat.shiftRight (dupN x) (nat_lit 18)) (Nat.shiftRight x (nat_lit 3))
def sg1 (x : Nat) : Nat := x3 (Nat.shiftRight (dupN x) (nat_lit 17)) (Nat.shiftRight (dupN x) (nat_lit 19)) (Nat.shiftRight x (nat_lit 10))
def bg1 (x : Nat) : Nat := x3 (Nat.shiftRight (dupN x) (nat_lit 6)) (Nat.shiftRight (dupN x) (nat_lit 11)) (Nat.shiftRight (dupN x) (nat_lit 25))
def bg0 (x : Nat) : Nat := x3 (Nat.shiftRight (dupN x) (nat_lit 2)) (Nat.shiftRight (dupN x) (nat_lit 13)) (Nat.shiftRight (dupN x) (nat_lit 22))
def chN (e f g : Nat) : Nat := Nat.xor g (Nat.land e (Nat.xor f g))
def mjN (a b c : Nat) : Nat := Nat.xor (Nat.xor (Nat.land a b) (Nat.land a c)) (Nat.land b c)
def m32 (x : Nat) : Nat := Nat.mod x (nat_lit 4294967296)
def wordN (X i : Nat) : Nat := m32 (Nat.shiftRight X i)
def nextX (X : Nat) : Nat := Nat.add (Nat.mul (Nat.mod X (nat_lit 3121748550315992231381597229793166305748598142664971150859156959625371738819765620120306103063491971159826931121406622895447975679288285306290176)) (nat_lit 4294967296)) (m32 (Nat.add (Nat.add (sg1 (wordN X (nat_lit 32))) (wordN X (nat_lit 192))) (Nat.add (sg0 (wordN X (nat_lit 448))) (Nat.shiftRight X (nat_lit 480)))))
def packN (a b : Nat) : Nat := Nat.add (Nat.mul a (nat_lit 4294967296)) b
def endN (s a b c d e f g h : Nat) : Nat :=
  packN (packN (packN (packN (packN (packN (packN (m32 (Nat.add (wordN s (nat_lit 224)) a)) (m32 (Nat.add (wordN s (nat_lit 192)) b))) (m32 (Nat.add (wordN s (nat_lit 160)) c))) (m32 (Nat.add (wordN s (nat_lit 128)) d))) (m32 (Nat.add (wordN s (nat_lit 96)) e))) (m32 (Nat.add (wordN s (nat_lit 64)) f))) (m32 (Nat.add (wordN s (nat_lit 32)) g))) (m32 (Nat.add s h))
noncomputable def goN (s : Nat) (l : List Nat) : Nat → Nat → Nat → Nat → Nat → Nat → Nat → Nat → Nat → Nat :=
  List.rec (motive := fun _ => Nat → Nat → Nat → Nat → Nat → Nat → Nat → Nat → Nat → Nat) (fun a b c d e f g h _ => endN s a b c d e f g h)
    (fun k _ ih a b c d e f g h X =>
      fN (Nat.add (Nat.add (Nat.add h (bg1 e)) (Nat.add (chN e f g) k)) (Nat.shiftRight X (nat_lit 480))) fun t =>
      fN (m32 (Nat.add t (Nat.add (bg0 a) (mjN a b c)))) fun a' =>
      fN (m32 (Nat.add d t)) fun e' =>
      fN (nextX X) fun X' => ih a' a b c e' e f g X') l
def kN : List Nat := [nat_lit 1116352408, nat_lit 1899447441, nat_lit 3049323471, nat_lit 3921009573, nat_lit 961987163, nat_lit 1508970993, nat_lit 2453635748, nat_lit 2870763221, nat_lit 3624381080, nat_lit 310598401, nat_lit 607225278, nat_lit 1426881987, nat_lit 1925078388, nat_lit 2162078206, nat_lit 2614888103, nat_lit 3248222580, nat_lit 3835390401, nat_lit 4022224774, nat_lit 264347078, nat_lit 604807628, nat_lit 770255983, nat_lit 1249150122, nat_lit 1555081692, nat_lit 1996064986, nat_lit 2554220882, nat_lit 2821834349, nat_lit 2952996808, nat_lit 3210313671, nat_lit 3336571891, nat_lit 3584528711, nat_lit 113926993, nat_lit 338241895, nat_lit 666307205, nat_lit 773529912, nat_lit 1294757372, nat_lit 1396182291, nat_lit 1695183700, nat_lit 1986661051, nat_lit 2177026350, nat_lit 2456956037, nat_lit 2730485921, nat_lit 2820302411, nat_lit 3259730800, nat_lit 3345764771, nat_lit 3516065817, nat_lit 3600352804, nat_lit 4094571909, nat_lit 275423344, nat_lit 430227734, nat_lit 506948616, nat_lit 659060556, nat_lit 883997877, nat_lit 958139571, nat_lit 1322822218, nat_lit 1537002063, nat_lit 1747873779, nat_lit 1955562222, nat_lit 2024104815, nat_lit 2227730452, nat_lit 2361852424, nat_lit 2428436474, nat_lit 2756734187, nat_lit 3204031479, nat_lit 3329325298]
noncomputable def compN (s X : Nat) : Nat := fN (wordN s (nat_lit 224)) fun a => fN (wordN s (nat_lit 192)) fun b => fN (wordN s (nat_lit 160)) fun c => fN (wordN s (nat_lit 128)) fun d => fN (wordN s (nat_lit 96)) fun e => fN (wordN s (nat_lit 64)) fun f => fN (wordN s (nat_lit 32)) fun g => fN (wordN s (nat_lit 0)) fun h => goN s kN a b c d e f g h X
noncomputable def absN (M : Nat) (n : Nat) : Nat → Nat := Nat.rec (motive := fun _ => Nat → Nat) (fun s => s) (fun i ih s => fN (compN s (Nat.mod (Nat.shiftRight M (Nat.mul i (nat_lit 512))) (nat_lit 13407807929942597099574024998205846127479365820592393377723561443721764030073546976801874298166903427690031858186486050853753882811946569946433649006084096))) ih) n

theorem fN_eq {α : Type} (n : Nat) (k : Nat → α) : fN n k = k n := by cases n <;> rfl
theorem m32_eq (x : Nat) : m32 x = x % 4294967296 := rfl
theorem dup_eq (x : Nat) (h : x < 4294967296) (k : Nat) (hk : k ≤ 32) : ((x * 4294967297) >>> k) % 4294967296 = (x >>> k) ||| ((x <<< (32 - k)) % 4294967296) := by
  have e : x * 4294967297 = x <<< 32 ||| x := by
    rw [← Nat.shiftLeft_add_eq_or_of_lt (by simpa using h), Nat.shiftLeft_eq]; omega
  have h2 : x < 2 ^ 32 := by simpa using h
  rw [e, show (4294967296 : Nat) = 2 ^ 32 by decide]
  apply Nat.eq_of_testBit_eq
  intro i
  have hx : ∀ j, 32 ≤ j → x.testBit j = false := fun j hj => Nat.testBit_lt_two_pow (Nat.lt_of_lt_of_le h2 (Nat.pow_le_pow_right (by decide) hj))
  simp only [Nat.testBit_mod_two_pow, Nat.testBit_shiftRight, Nat.testBit_or, Nat.testBit_shiftLeft]
  by_cases hi : i < 32
  · by_cases h3 : 32 ≤ k + i
    · have h4 : 32 - k ≤ i := by omega
      rw [hx _ h3, show k + i - 32 = i - (32 - k) by omega]
      simp [hi, h3, h4]
    · have h4 : ¬ 32 - k ≤ i := by omega
      simp [hi, h3, h4]
  · rw [hx (k + i) (by omega)]
    simp [hi]
theorem rotr_nat (x : UInt32) (k : Nat) (h1 : 1 ≤ k) (h2 : k < 32) : (rotr x k).toNat = ((x.toNat * 4294967297) >>> k) % 4294967296 := by
  rw [dup_eq _ x.toNat_lt k (by omega)]
  have e1 : (UInt32.ofNat k).toNat % 32 = k := by simp; omega
  have e2 : (UInt32.ofNat (32 - k)).toNat % 32 = 32 - k := by simp; omega
  simp only [rotr, UInt32.toNat_or, UInt32.toNat_shiftRight, UInt32.toNat_shiftLeft, e1, e2]
theorem x3_eq (a b c : Nat) : x3 a b c = (a % 4294967296) ^^^ (b % 4294967296) ^^^ (c % 4294967296) := by
  show ((a ^^^ b) ^^^ c) % 4294967296 = _
  rw [show (4294967296 : Nat) = 2 ^ 32 by decide, Nat.xor_mod_two_pow, Nat.xor_mod_two_pow]
theorem shr_small (x : UInt32) (k : Nat) : (x.toNat >>> k) % 4294967296 = x.toNat >>> k := by
  apply Nat.mod_eq_of_lt
  rw [Nat.shiftRight_eq_div_pow]
  exact Nat.lt_of_le_of_lt (Nat.div_le_self _ _) x.toNat_lt
theorem sg0_eq (x : UInt32) : sg0 x.toNat = (sig0 x).toNat := by
  show x3 ((x.toNat * 4294967297) >>> 7) ((x.toNat * 4294967297) >>> 18) (x.toNat >>> 3) = _
  rw [x3_eq, ← rotr_nat x 7 (by decide) (by decide), ← rotr_nat x 18 (by decide) (by decide), shr_small]
  simp [sig0]
theorem sg1_eq (x : UInt32) : sg1 x.toNat = (sig1 x).toNat := by
  show x3 ((x.toNat * 4294967297) >>> 17) ((x.toNat * 4294967297) >>> 19) (x.toNat >>> 10) = _
  rw [x3_eq, ← rotr_nat x 17 (by decide) (by decide), ← rotr_nat x 19 (by decide) (by decide), shr_small]
  simp [sig1]
theorem bg1_eq (x : UInt32) : bg1 x.toNat = (big1 x).toNat := by
  show x3 ((x.toNat * 4294967297) >>> 6) ((x.toNat * 4294967297) >>> 11) ((x.toNat * 4294967297) >>> 25) = _
  rw [x3_eq, ← rotr_nat x 6 (by decide) (by decide), ← rotr_nat x 11 (by decide) (by decide), ← rotr_nat x 25 (by decide) (by decide)]
  simp [big1]
theorem bg0_eq (x : UInt32) : bg0 x.toNat = (big0 x).toNat := by
  show x3 ((x.toNat * 4294967297) >>> 2) ((x.toNat * 4294967297) >>> 13) ((x.toNat * 4294967297) >>> 22) = _
  rw [x3_eq, ← rotr_nat x 2 (by decide) (by decide), ← rotr_nat x 13 (by decide) (by decide), ← rotr_nat x 22 (by decide) (by decide)]
  simp [big0]
theorem chN_eq (e f g : UInt32) : chN e.toNat f.toNat g.toNat = (ch e f g).toNat := by
  show g.toNat ^^^ (e.toNat &&& (f.toNat ^^^ g.toNat)) = _
  simp [ch]
theorem mjN_eq (a b c : UInt32) : mjN a.toNat b.toNat c.toNat = (maj a b c).toNat := by
  show ((a.toNat &&& b.toNat) ^^^ (a.toNat &&& c.toNat)) ^^^ (b.toNat &&& c.toNat) = _
  simp [maj]

/-- sixteen words as a number -/
def Xof (W : Nat → UInt32) (t : Nat) : Nat := packN (packN (packN (packN (packN (packN (packN (packN (packN (packN (packN (packN (packN (packN (packN (W t).toNat (W (t+1)).toNat) (W (t+2)).toNat) (W (t+3)).toNat) (W (t+4)).toNat) (W (t+5)).toNat) (W (t+6)).toNat) (W (t+7)).toNat) (W (t+8)).toNat) (W (t+9)).toNat) (W (t+10)).toNat) (W (t+11)).toNat) (W (t+12)).toNat) (W (t+13)).toNat) (W (t+14)).toNat) (W (t+15)).toNat
theorem packN_eq (a b : Nat) : packN a b = a * 4294967296 + b := rfl
theorem pack_div (a b : Nat) (hb : b < 4294967296) : packN a b / 4294967296 = a := by rw [packN_eq]; omega
theorem pack_mod (a b : Nat) (hb : b < 4294967296) : packN a b % 4294967296 = b := by rw [packN_eq]; omega
theorem shr32 (X k : Nat) : X >>> (k + 32) = (X / 4294967296) >>> k := by
  rw [Nat.shiftRight_eq_div_pow, Nat.shiftRight_eq_div_pow, Nat.pow_add, Nat.mul_comm, ← Nat.div_div_eq_div_mul]
theorem pack_shr (a b k : Nat) (hb : b < 4294967296) : packN a b >>> (k + 32) = a >>> k := by rw [shr32, pack_div a b hb]
theorem Xof_top (W : Nat → UInt32) (t : Nat) : Xof W t >>> 480 = (W t).toNat := by
  have h := fun i => (W i).toNat_lt
  unfold Xof
  simp only [show (480 : Nat) = 0 + 32 + 32 + 32 + 32 + 32 + 32 + 32 + 32 + 32 + 32 + 32 + 32 + 32 + 32 + 32 by decide]
  simp only [pack_shr _ _ _ (h _), Nat.shiftRight_zero]
theorem Xof_1 (W : Nat → UInt32) (t : Nat) : wordN (Xof W t) 448 = (W (t + 1)).toNat := by
  have h := fun i => (W i).toNat_lt
  show (Xof W t >>> 448) % 4294967296 = _
  unfold Xof
  simp only [show (448 : Nat) = 0 + 32 + 32 + 32 + 32 + 32 + 32 + 32 + 32 + 32 + 32 + 32 + 32 + 32 + 32 by decide]
  simp only [pack_shr _ _ _ (h _), Nat.shiftRight_zero, pack_mod _ _ (h _)]
theorem Xof_9 (W : Nat → UInt32) (t : Nat) : wordN (Xof W t) 192 = (W (t + 9)).toNat := by
  have h := fun i => (W i).toNat_lt
  show (Xof W t >>> 192) % 4294967296 = _
  unfold Xof
  simp only [show (192 : Nat) = 0 + 32 + 32 + 32 + 32 + 32 + 32 by decide]
  simp only [pack_shr _ _ _ (h _), Nat.shiftRight_zero, pack_mod _ _ (h _)]
theorem Xof_14 (W : Nat → UInt32) (t : Nat) : wordN (Xof W t) 32 = (W (t + 14)).toNat := by
  have h := fun i => (W i).toNat_lt
  show (Xof W t >>> (0 + 32)) % 4294967296 = _
  unfold Xof
  simp only [pack_shr _ _ _ (h _), Nat.shiftRight_zero, pack_mod _ _ (h _)]
theorem Xof_low (W : Nat → UInt32) (t : Nat) : packN (Xof W t % 3121748550315992231381597229793166305748598142664971150859156959625371738819765620120306103063491971159826931121406622895447975679288285306290176) (W (t + 16)).toNat = Xof W (t + 1) := by
  have h := fun i => (W i).toNat_lt
  have e : Xof W t % 3121748550315992231381597229793166305748598142664971150859156959625371738819765620120306103063491971159826931121406622895447975679288285306290176 = packN (packN (packN (packN (packN (packN (packN (packN (packN (packN (packN (packN (packN (packN (W (t+1)).toNat (W (t+2)).toNat) (W (t+3)).toNat) (W (t+4)).toNat) (W (t+5)).toNat) (W (t+6)).toNat) (W (t+7)).toNat) (W (t+8)).toNat) (W (t+9)).toNat) (W (t+10)).toNat) (W (t+11)).toNat) (W (t+12)).toNat) (W (t+13)).toNat) (W (t+14)).toNat) (W (t+15)).toNat := by
    have h1 := h (t+1); have h2 := h (t+2); have h3 := h (t+3); have h4 := h (t+4); have h5 := h (t+5); have h6 := h (t+6); have h7 := h (t+7); have h8 := h (t+8)
    have h9 := h (t+9); have h10 := h (t+10); have h11 := h (t+11); have h12 := h (t+12); have h13 := h (t+13); have h14 := h (t+14); have h15 := h (t+15)
    unfold Xof
    simp only [packN_eq]
    omega
  rw [e]
  rfl
theorem nextX_eq (W : Nat → UInt32) (hW : ∀ t, W (t + 16) = W t + sig0 (W (t + 1)) + W (t + 9) + sig1 (W (t + 14))) (t : Nat) : nextX (Xof W t) = Xof W (t + 1) := by
  rw [← Xof_low]
  show (Xof W t % 3121748550315992231381597229793166305748598142664971150859156959625371738819765620120306103063491971159826931121406622895447975679288285306290176) * 4294967296 + (sg1 (wordN (Xof W t) 32) + wordN (Xof W t) 192 + (sg0 (wordN (Xof W t) 448) + Xof W t >>> 480)) % 4294967296 = _
  rw [packN_eq, Xof_14, Xof_9, Xof_1, Xof_top, sg1_eq, sg0_eq, hW t]
  simp only [UInt32.toNat_add]
  omega
def runK (W : Nat → UInt32) : List UInt32 → Nat → St → St
  | [], _, S => S
  | k :: ks, t, S => runK W ks (t + 1) (round S k (W t))
theorem goN_cons (s k : Nat) (l : List Nat) (a b c d e f g h X : Nat) : goN s (k :: l) a b c d e f g h X =
    goN s l (m32 (Nat.add (Nat.add (Nat.add (Nat.add h (bg1 e)) (Nat.add (chN e f g) k)) (Nat.shiftRight X 480)) (Nat.add (bg0 a) (mjN a b c)))) a b c (m32 (Nat.add d (Nat.add (Nat.add (Nat.add h (bg1 e)) (Nat.add (chN e f g) k)) (Nat.shiftRight X 480)))) e f g (nextX X) := by
  simp only [goN, fN_eq]
theorem go_run (s : Nat) (W : Nat → UInt32) (hW : ∀ t, W (t + 16) = W t + sig0 (W (t + 1)) + W (t + 9) + sig1 (W (t + 14))) : ∀ (ks : List UInt32) (t : Nat) (S : St),
    goN s (ks.map (·.toNat)) S.a.toNat S.b.toNat S.c.toNat S.d.toNat S.e.toNat S.f.toNat S.g.toNat S.h.toNat (Xof W t) =
      endN s (runK W ks t S).a.toNat (runK W ks t S).b.toNat (runK W ks t S).c.toNat (runK W ks t S).d.toNat (runK W ks t S).e.toNat (runK W ks t S).f.toNat (runK W ks t S).g.toNat (runK W ks t S).h.toNat
  | [], t, S => rfl
  | k :: ks, t, S => by
    have ih := go_run s W hW ks (t + 1) (round S k (W t))
    rw [runK, ← ih]
    rw [List.map_cons, goN_cons, nextX_eq W hW]
    have e0 := Xof_top W t
    have e1 : m32 (Nat.add (Nat.add (Nat.add (Nat.add S.h.toNat (bg1 S.e.toNat)) (Nat.add (chN S.e.toNat S.f.toNat S.g.toNat) k.toNat)) (Nat.shiftRight (Xof W t) 480)) (Nat.add (bg0 S.a.toNat) (mjN S.a.toNat S.b.toNat S.c.toNat))) = (round S k (W t)).a.toNat := by
      show ((S.h.toNat + bg1 S.e.toNat + (chN S.e.toNat S.f.toNat S.g.toNat + k.toNat) + Xof W t >>> 480) + (bg0 S.a.toNat + mjN S.a.toNat S.b.toNat S.c.toNat)) % 4294967296 = _
      rw [e0, bg1_eq, chN_eq, bg0_eq, mjN_eq]
      simp only [round, UInt32.toNat_add]
      omega
    have e2 : m32 (Nat.add S.d.toNat (Nat.add (Nat.add (Nat.add S.h.toNat (bg1 S.e.toNat)) (Nat.add (chN S.e.toNat S.f.toNat S.g.toNat) k.toNat)) (Nat.shiftRight (Xof W t) 480))) = (round S k (W t)).e.toNat := by
      show (S.d.toNat + (S.h.toNat + bg1 S.e.toNat + (chN S.e.toNat S.f.toNat S.g.toNat + k.toNat) + Xof W t >>> 480)) % 4294967296 = _
      rw [e0, bg1_eq, chN_eq]
      simp only [round, UInt32.toNat_add]
      omega
    rw [e1, e2]
    rfl
end Fast
end Go.Proofs.Ytabdbdnhbiopaaa

/- SHA-256 on numbers is SHA-256. -/
namespace Go.Proofs.Ytabdbdnhbiopaaa
namespace Fast
set_option maxRecDepth 100000
set_option maxHeartbeats 2000000

theorem runK_rounds (W : Nat → UInt32) (w : List UInt32) (s : St) (hw : ∀ t, t < 64 → w.getD t 0 = W t) : ∀ n, n ≤ K.length → runK W (K.drop n) n (roundsTo w s n) = runK W K 0 s
  | 0, _ => rfl
  | n + 1, hn => by
    have hK : K.length = 64 := rfl
    rw [← runK_rounds W w s hw n (by omega), List.drop_eq_getElem_cons (by omega : n < K.length), runK, roundsTo, hw n (by omega)]
    rw [show K.getD n 0 = K[n] by rw [List.getD_eq_getElem?_getD, List.getElem?_eq_getElem (by omega)]; rfl]
theorem run_all (W : Nat → UInt32) (w : List UInt32) (s : St) (hw : ∀ t, t < 64 → w.getD t 0 = W t) : runK W K 0 s = roundsTo w s 64 := by
  rw [← runK_rounds W w s hw 64 (Nat.le_refl _)]
  rfl
/-- the schedule, all the way -/
def wAll (b : List UInt8) (t : Nat) : UInt32 := (schedTo b (t + 1)).getD t 0
theorem sched_get (b : List UInt8) (j : Nat) : ∀ n, j < n → (schedTo b n).getD j 0 = wAll b j
  | n + 1, h => by
    by_cases e : j = n
    · subst e; rfl
    · rw [← sched_get b j n (by omega), schedTo]
      have hl := schedTo_length b n
      simp only [List.getD_eq_getElem?_getD]
      rw [List.getElem?_append_left (by omega)]
theorem wAll_low (b : List UInt8) (t : Nat) (h : t < 16) : wAll b t = wordAt b (4 * t) := by
  have hl := schedTo_length b t
  rw [wAll, schedTo]
  simp only [List.getD_eq_getElem?_getD, if_pos h]
  rw [List.getElem?_append_right (by omega), hl]
  simp
theorem wAll_next (b : List UInt8) (t : Nat) : wAll b (t + 16) = wAll b t + sig0 (wAll b (t + 1)) + wAll b (t + 9) + sig1 (wAll b (t + 14)) := by
  have hl := schedTo_length b (t + 16)
  rw [wAll, schedTo]
  simp only [List.getD_eq_getElem?_getD, if_neg (show ¬ t + 16 < 16 by omega)]
  rw [List.getElem?_append_right (by omega), hl]
  simp only [Nat.sub_self, List.getElem?_cons_zero, Option.getD_some, schedNext]
  rw [sched_get b _ _ (by omega), sched_get b _ _ (by omega), sched_get b _ _ (by omega), sched_get b _ _ (by omega)]
  rw [show t + 16 - 16 = t by omega, show t + 16 - 15 = t + 1 by omega, show t + 16 - 7 = t + 9 by omega, show t + 16 - 2 = t + 14 by omega]
/-- bytes as a number -/
def num (l : List UInt8) : Nat := l.foldl (fun n b => n * 256 + b.toNat) 0
theorem num_from (l : List UInt8) : ∀ a : Nat, l.foldl (fun n b => n * 256 + b.toNat) a = a * 256 ^ l.length + num l := by
  induction l with
  | nil => intro a; simp [num]
  | cons x l ih =>
    intro a
    have e : num (x :: l) = l.foldl (fun n b => n * 256 + b.toNat) (0 * 256 + x.toNat) := rfl
    rw [List.foldl_cons, ih, e, ih, List.length_cons, Nat.pow_succ]
    generalize 256 ^ l.length = p
    rw [Nat.zero_mul, Nat.zero_add, Nat.add_mul, Nat.mul_assoc a, Nat.mul_comm 256 p, Nat.add_assoc]
theorem num_cons (x : UInt8) (l : List UInt8) : num (x :: l) = x.toNat * 256 ^ l.length + num l := by
  have e : num (x :: l) = l.foldl (fun n b => n * 256 + b.toNat) (0 * 256 + x.toNat) := rfl
  rw [e, num_from, Nat.zero_mul, Nat.zero_add]
theorem num_append (l r : List UInt8) : num (l ++ r) = num l * 256 ^ r.length + num r := by
  rw [num, List.foldl_append, num_from]; rfl
theorem num_lt (l : List UInt8) : num l < 256 ^ l.length := by
  induction l with
  | nil => simp [num]
  | cons x l ih =>
    rw [num_cons, List.length_cons, Nat.pow_succ]
    have hx := x.toNat_lt
    generalize 256 ^ l.length = p at *
    have h1 : x.toNat * p ≤ 255 * p := Nat.mul_le_mul_right p (by omega)
    omega
theorem word_nat' (x0 x1 x2 x3 : UInt8) : (x0.toUInt32 <<< 24 ||| x1.toUInt32 <<< 16 ||| x2.toUInt32 <<< 8 ||| x3.toUInt32).toNat = x0.toNat * 16777216 + x1.toNat * 65536 + x2.toNat * 256 + x3.toNat := by
  have h0 := x0.toNat_lt; have h1 := x1.toNat_lt; have h2 := x2.toNat_lt; have h3 := x3.toNat_lt
  have a0 : (x0.toUInt32 <<< 24).toNat = x0.toNat <<< 24 := by simp [UInt32.toNat_shiftLeft, Nat.shiftLeft_eq]; omega
  have a1 : (x1.toUInt32 <<< 16).toNat = x1.toNat <<< 16 := by simp [UInt32.toNat_shiftLeft, Nat.shiftLeft_eq]; omega
  have a2 : (x2.toUInt32 <<< 8).toNat = x2.toNat <<< 8 := by simp [UInt32.toNat_shiftLeft, Nat.shiftLeft_eq]; omega
  rw [UInt32.toNat_or, UInt32.toNat_or, UInt32.toNat_or, a0, a1, a2, UInt8.toNat_toUInt32]
  rw [← Nat.shiftLeft_add_eq_or_of_lt (a := x0.toNat) (b := x1.toNat <<< 16) (by rw [Nat.shiftLeft_eq]; omega)]
  rw [show x0.toNat <<< 24 + x1.toNat <<< 16 = (x0.toNat * 256 + x1.toNat) <<< 16 by simp only [Nat.shiftLeft_eq]; omega]
  rw [← Nat.shiftLeft_add_eq_or_of_lt (b := x2.toNat <<< 8) (by rw [Nat.shiftLeft_eq]; omega)]
  rw [show (x0.toNat * 256 + x1.toNat) <<< 16 + x2.toNat <<< 8 = (x0.toNat * 65536 + x1.toNat * 256 + x2.toNat) <<< 8 by simp only [Nat.shiftLeft_eq]; omega]
  rw [← Nat.shiftLeft_add_eq_or_of_lt (b := x3.toNat) (by omega)]
  simp only [Nat.shiftLeft_eq]
  omega
theorem num_word (l : List UInt8) (m : Nat) (h : l.length = m + 4) : num l = (wordAt l 0).toNat * 256 ^ m + num (l.drop 4) := by
  match l, h with
  | x0 :: x1 :: x2 :: x3 :: r, h =>
    have hr : r.length = m := by simpa using h
    have e : num (x0 :: x1 :: x2 :: x3 :: r) = num ([x0, x1, x2, x3] ++ r) := rfl
    rw [e, num_append, hr]
    show num [x0, x1, x2, x3] * _ + _ = (x0.toUInt32 <<< 24 ||| x1.toUInt32 <<< 16 ||| x2.toUInt32 <<< 8 ||| x3.toUInt32).toNat * _ + num r
    rw [word_nat', show num [x0, x1, x2, x3] = x0.toNat * 16777216 + x1.toNat * 65536 + x2.toNat * 256 + x3.toNat by simp only [num, List.foldl_cons, List.foldl_nil]; omega]
theorem word_drop (l : List UInt8) (i : Nat) : wordAt (l.drop (4 * i)) 0 = wordAt l (4 * i) := by
  simp only [wordAt, List.getD_eq_getElem?_getD, List.getElem?_drop]
  rw [Nat.add_zero]
def PW (W : Nat → UInt32) : Nat → Nat
  | 0 => 0
  | i + 1 => packN (PW W i) (W i).toNat
theorem num_PW (b : List UInt8) (h : b.length = 64) : ∀ i, i ≤ 16 → num b = PW (wAll b) i * 256 ^ (64 - 4 * i) + num (b.drop (4 * i))
  | 0, _ => by simp [PW]
  | i + 1, hi => by
    rw [num_PW b h i (by omega), num_word (b.drop (4 * i)) (60 - 4 * i) (by rw [List.length_drop]; omega), word_drop, ← wAll_low b i (by omega), List.drop_drop, PW, packN_eq]
    have e : (256 : Nat) ^ (64 - 4 * i) = 4294967296 * 256 ^ (60 - 4 * i) := by rw [show (4294967296 : Nat) = 256 ^ 4 by decide, ← Nat.pow_add]; congr 1; omega
    rw [e, show 64 - 4 * (i + 1) = 60 - 4 * i by omega, show 4 * (i + 1) = 4 * i + 4 by omega, Nat.add_mul, Nat.mul_assoc, Nat.add_assoc]
theorem num_block (b : List UInt8) (h : b.length = 64) : num b = Xof (wAll b) 0 := by
  rw [num_PW b h 16 (Nat.le_refl _), List.drop_eq_nil_of_le (by omega)]
  have e : PW (wAll b) 1 = (wAll b 0).toNat := by simp [PW, packN_eq]
  have e2 : PW (wAll b) 16 = Xof (wAll b) 0 := by
    unfold Xof
    rw [← e]
    rfl
  rw [e2]
  show _ * 1 + 0 = _
  rw [Nat.mul_one, Nat.add_zero]
/-- a state as a number -/
def stN (s : St) : Nat := packN (packN (packN (packN (packN (packN (packN s.a.toNat s.b.toNat) s.c.toNat) s.d.toNat) s.e.toNat) s.f.toNat) s.g.toNat) s.h.toNat
theorem stN_words (s : St) : wordN (stN s) 224 = s.a.toNat ∧ wordN (stN s) 192 = s.b.toNat ∧ wordN (stN s) 160 = s.c.toNat ∧ wordN (stN s) 128 = s.d.toNat ∧ wordN (stN s) 96 = s.e.toNat ∧ wordN (stN s) 64 = s.f.toNat ∧ wordN (stN s) 32 = s.g.toNat ∧ wordN (stN s) 0 = s.h.toNat := by
  have ha := s.a.toNat_lt; have hb := s.b.toNat_lt; have hc := s.c.toNat_lt; have hd := s.d.toNat_lt; have he := s.e.toNat_lt; have hf := s.f.toNat_lt; have hg := s.g.toNat_lt; have hh := s.h.toNat_lt
  have w : ∀ X i, wordN X i = (X >>> i) % 4294967296 := fun _ _ => rfl
  simp only [w, stN]
  refine ⟨?_, ?_, ?_, ?_, ?_, ?_, ?_, ?_⟩
  · rw [show (224 : Nat) = 0 + 32 + 32 + 32 + 32 + 32 + 32 + 32 by decide, pack_shr _ _ _ hh, pack_shr _ _ _ hg, pack_shr _ _ _ hf, pack_shr _ _ _ he, pack_shr _ _ _ hd, pack_shr _ _ _ hc, pack_shr _ _ _ hb, Nat.shiftRight_zero, Nat.mod_eq_of_lt ha]
  · rw [show (192 : Nat) = 0 + 32 + 32 + 32 + 32 + 32 + 32 by decide, pack_shr _ _ _ hh, pack_shr _ _ _ hg, pack_shr _ _ _ hf, pack_shr _ _ _ he, pack_shr _ _ _ hd, pack_shr _ _ _ hc, Nat.shiftRight_zero, pack_mod _ _ hb]
  · rw [show (160 : Nat) = 0 + 32 + 32 + 32 + 32 + 32 by decide, pack_shr _ _ _ hh, pack_shr _ _ _ hg, pack_shr _ _ _ hf, pack_shr _ _ _ he, pack_shr _ _ _ hd, Nat.shiftRight_zero, pack_mod _ _ hc]
  · rw [show (128 : Nat) = 0 + 32 + 32 + 32 + 32 by decide, pack_shr _ _ _ hh, pack_shr _ _ _ hg, pack_shr _ _ _ hf, pack_shr _ _ _ he, Nat.shiftRight_zero, pack_mod _ _ hd]
  · rw [show (96 : Nat) = 0 + 32 + 32 + 32 by decide, pack_shr _ _ _ hh, pack_shr _ _ _ hg, pack_shr _ _ _ hf, Nat.shiftRight_zero, pack_mod _ _ he]
  · rw [show (64 : Nat) = 0 + 32 + 32 by decide, pack_shr _ _ _ hh, pack_shr _ _ _ hg, Nat.shiftRight_zero, pack_mod _ _ hf]
  · show (packN _ _ >>> (0 + 32)) % 4294967296 = _
    rw [pack_shr _ _ 0 hh, Nat.shiftRight_zero, pack_mod _ _ hg]
  · rw [Nat.shiftRight_zero, pack_mod _ _ hh]
theorem endN_eq (s t : St) : endN (stN s) t.a.toNat t.b.toNat t.c.toNat t.d.toNat t.e.toNat t.f.toNat t.g.toNat t.h.toNat = stN (s.add t) := by
  obtain ⟨e0, e1, e2, e3, e4, e5, e6, e7⟩ := stN_words s
  have e8 : stN s % 4294967296 = s.h.toNat := by rw [← e7]; rfl
  unfold endN
  rw [e0, e1, e2, e3, e4, e5, e6]
  have m : ∀ x y : UInt32, m32 (Nat.add x.toNat y.toNat) = (x + y).toNat := fun x y => by rw [UInt32.toNat_add]; rfl
  have mh : m32 (Nat.add (stN s) t.h.toNat) = (s.h + t.h).toNat := by
    rw [UInt32.toNat_add, ← e8]
    show (stN s + t.h.toNat) % 4294967296 = (stN s % 4294967296 + t.h.toNat) % 4294967296
    omega
  rw [m, m, m, m, m, m, m, mh]
  rfl
theorem kN_eq : kN = K.map (·.toNat) := by decide +kernel
theorem compN_eq (s : St) (b : List UInt8) (h : b.length = 64) : compN (stN s) (num b) = stN (comp s b) := by
  obtain ⟨e0, e1, e2, e3, e4, e5, e6, e7⟩ := stN_words s
  unfold compN
  simp only [fN_eq]
  rw [e0, e1, e2, e3, e4, e5, e6, e7, num_block b h, kN_eq, go_run (stN s) (wAll b) (wAll_next b) K 0 s, endN_eq, run_all (wAll b) (sched b) s (fun t ht => sched_get b t 64 ht)]
  rfl
theorem absN_succ (M i s : Nat) : absN M (i + 1) s = absN M i (compN s ((M >>> (i * 512)) % 13407807929942597099574024998205846127479365820592393377723561443721764030073546976801874298166903427690031858186486050853753882811946569946433649006084096)) := by
  show fN _ _ = _
  rw [fN_eq]
  rfl
theorem absN_zero (M s : Nat) : absN M 0 s = s := rfl
theorem absN_eq (M : Nat) : ∀ (i : Nat) (l : List UInt8) (s : St), l.length = 64 * i → M % 256 ^ (64 * i) = num l → absN M i (stN s) = stN (absorb i s l) := by
  intro i
  induction i with
  | zero => intro l s _ _; rw [absN_zero, absorb]
  | succ i ih =>
    intro l s hl hM
    have hp : (2 : Nat) ^ (i * 512) = 256 ^ (64 * i) := by rw [show (256 : Nat) = 2 ^ 8 by decide, ← Nat.pow_mul]; congr 1; omega
    have h5 : 13407807929942597099574024998205846127479365820592393377723561443721764030073546976801874298166903427690031858186486050853753882811946569946433649006084096 = 256 ^ 64 := by decide
    have hsplit : num l = num (l.take 64) * 256 ^ (64 * i) + num (l.drop 64) := by
      have := num_append (l.take 64) (l.drop 64)
      rw [List.take_append_drop, List.length_drop, show l.length - 64 = 64 * i by omega] at this
      exact this
    have hd : num (l.drop 64) < 256 ^ (64 * i) := by have := num_lt (l.drop 64); rwa [List.length_drop, show l.length - 64 = 64 * i by omega] at this
    have e1 : M % 256 ^ (64 * i) = num (l.drop 64) := by
      have h1 : M % 256 ^ (64 * (i + 1)) % 256 ^ (64 * i) = M % 256 ^ (64 * i) := Nat.mod_mod_of_dvd _ (Nat.pow_dvd_pow _ (by omega))
      rw [← h1, hM, hsplit, Nat.mul_comm, Nat.mul_add_mod, Nat.mod_eq_of_lt hd]
    have e2 : (M >>> (i * 512)) % 13407807929942597099574024998205846127479365820592393377723561443721764030073546976801874298166903427690031858186486050853753882811946569946433649006084096 = num (l.take 64) := by
      rw [Nat.shiftRight_eq_div_pow, hp, h5]
      have h2 := Nat.mod_mul (x := M) (a := 256 ^ (64 * i)) (b := 256 ^ 64)
      rw [← Nat.pow_add, show 64 * i + 64 = 64 * (i + 1) by omega, hM, e1, hsplit] at h2
      have hpos : 0 < 256 ^ (64 * i) := Nat.pow_pos (by decide)
      have h3 : 256 ^ (64 * i) * (M / 256 ^ (64 * i) % 256 ^ 64) = 256 ^ (64 * i) * num (l.take 64) := by rw [Nat.mul_comm (num (l.take 64))] at h2; omega
      exact Nat.eq_of_mul_eq_mul_left hpos h3
    rw [absN_succ, e2, compN_eq s (l.take 64) (by rw [List.length_take]; omega), ih (l.drop 64) _ (by rw [List.length_drop]; omega) e1, absorb]
end Fast
end Go.Proofs.Ytabdbdnhbiopaaa

/- That the candidate of a signature is the key's sum: plain, no program. -/
namespace Go.Proofs.Ytabdbdnhbiopaaa
open Go Go.RowKit
set_option maxRecDepth 100000
set_option maxHeartbeats 1000000


theorem candV_length (I : List UInt8) (q : Nat) (text s : List UInt8) : (candV I q text s).length = 32 := by
  rw [candV]
  split
  · exact sha_length _
  · rfl
theorem chain_more (I : List UInt8) (q i : Nat) (x : List UInt8) (a n m : Nat) : chainN I q i (chainN I q i x a n) (a + n) m = chainN I q i x a (n + m) := by
  induction m with
  | zero => rfl
  | succ m ih => rw [chainN, ih, Nat.add_succ, chainN, Nat.add_assoc]
theorem sigP_piece (I S : List UInt8) (q : Nat) (ds : List Nat) (n : Nat) : ∀ N, n < N → ((sigP I S q ds N).drop (32 * n)).take 32 = chainN I q n (secretN I S q n) 0 (ds.getD n 0)
  | 0, h => by omega
  | N + 1, h => by
    have hl := sigP_length I S q ds N
    rw [sigP]
    by_cases hn : n < N
    · rw [List.drop_append_of_le_length (by omega), List.take_append_of_le_length (by rw [List.length_drop]; omega)]
      exact sigP_piece I S q ds n N hn
    · obtain rfl : n = N := by omega
      rw [List.drop_append, List.drop_of_length_le (by omega), hl, Nat.sub_self, List.drop_zero, List.nil_append, List.take_of_length_le]
      rw [chainN_length _ _ _ _ _ _ (secretN_length _ _ _ _)]
      exact Nat.le_refl _
theorem grain_length (I S : List UInt8) (q : Nat) : (grainN I S q).length = 32 := hashN_length _ _ _ _
/-- what a signature is made of -/
theorem sign_facts (I S : List UInt8) (q k : Nat) (text : List UInt8) (hk : k = 1 ∨ k = 2 ∨ k = 4 ∨ k = 8) :
    (sigN I S q k text).length = 36 + 32 * numK k ∧ candOk (sigN I S q k text) = true ∧ (sigN I S q k text).take 4 = fourN (typeN k).toNat ∧ (∀ n, n < numK k → pieceN (sigN I S q k text) n = chainN I q n (secretN I S q n) 0 ((digN I S q k text).getD n 0)) ∧
      ∀ text2, candV I q text2 (sigN I S q k text) = hashN I q 32896 [candE I q (2 ^ k - 1) (allN (signedN I q (grainN I S q) text2) k) (sigN I S q k text) (numK k)] := by
  obtain ⟨ty, ty1, ty2, ty3⟩ := typeN_nat k hk
  have hkW : isW k = true := (isW_iff _).2 (by omega)
  obtain ⟨hw1, hw2⟩ := width_of k hkW
  have hG := grain_length I S q
  obtain ⟨G, eG⟩ : ∃ G, G = grainN I S q := ⟨_, rfl⟩
  obtain ⟨ds, eds⟩ : ∃ ds, ds = digN I S q k text := ⟨_, rfl⟩
  have hs : sigN I S q k text = (fourN ty ++ G) ++ sigP I S q ds (numK k) := by rw [sigN, ty3, ← eG, ← eds, numK]
  rw [← eG] at hG
  have hP := sigP_length I S q ds (numK k)
  have hlen : (sigN I S q k text).length = 36 + 32 * numK k := by rw [hs, List.length_append, List.length_append, fourN_length, hG, hP]
  have h4 : (sigN I S q k text).take 4 = fourN ty := by
    rw [hs, List.append_assoc, List.take_append_of_le_length (by rw [fourN_length]; exact Nat.le_refl _), List.take_of_length_le (by rw [fourN_length]; exact Nat.le_refl _)]
  have hty : typeS (sigN I S q k text) = typeN k := by
    rw [← typeS_take, h4, ty1]
    exact (four_word _ (fourN_length ty) ty ty2).1 rfl
  have hok : candOk (sigN I S q k text) = true := by
    rw [candOk, hty, hw1, hw2, Int.toNat_natCast, decide_eq_true hlen]; rfl
  have hg : ((sigN I S q k text).drop 4).take 32 = G := by
    rw [hs, List.append_assoc, List.drop_append, List.drop_of_length_le (by rw [fourN_length]; exact Nat.le_refl _), fourN_length, List.nil_append, List.drop_zero, List.take_append_of_le_length (by omega), List.take_of_length_le (by omega)]
  have hpc : ∀ n, n < numK k → pieceN (sigN I S q k text) n = chainN I q n (secretN I S q n) 0 (ds.getD n 0) := fun n hn => by
    rw [pieceN, hs, List.drop_append, List.drop_of_length_le (by rw [List.length_append, fourN_length, hG]; omega), List.nil_append, List.length_append, fourN_length, hG, show 36 + 32 * n - (4 + 32) = 32 * n by omega]
    exact sigP_piece I S q ds n _ hn
  refine ⟨hlen, hok, by rw [h4, ty3], by rw [← eds]; exact hpc, fun text2 => ?_⟩
  rw [candV, if_pos ⟨by omega, hok⟩, hty, hw1, Int.toNat_natCast, candH, hg, eG]
/-- of a width: the candidate of what the key signs is the key's sum -/
theorem cand_sign (I S : List UInt8) (q k : Nat) (text : List UInt8) (hk : k = 1 ∨ k = 2 ∨ k = 4 ∨ k = 8) :
    candV I q text (sigN I S q k text) = pubN I S q k := by
  obtain ⟨-, -, -, hpc, hv⟩ := sign_facts I S q k text hk
  obtain ⟨ds, eds⟩ : ∃ ds, ds = digN I S q k text := ⟨_, rfl⟩
  have hds : allN (signedN I q (grainN I S q) text) k = ds := by rw [eds, digN]
  rw [← eds] at hpc
  have hE : ∀ n, n ≤ numK k → candE I q (2 ^ k - 1) ds (sigN I S q k text) n = endsN I S q (2 ^ k - 1) n := by
    intro n
    induction n with
    | zero => intro _; rfl
    | succ n ih =>
      intro hn
      have hd : ds.getD n 0 ≤ 2 ^ k - 1 := by rw [← hds]; exact allN_lt _ k n (by rw [numK] at hn; omega)
      have hc := chain_more I q n (secretN I S q n) 0 (ds.getD n 0) (2 ^ k - 1 - ds.getD n 0)
      rw [Nat.zero_add, show ds.getD n 0 + (2 ^ k - 1 - ds.getD n 0) = 2 ^ k - 1 by omega] at hc
      rw [candE, ih (by omega), hpc n (by omega), hc, endsN]
  rw [hv, hds, hE _ (Nat.le_refl _), pubN, numK]
end Go.Proofs.Ytabdbdnhbiopaaa

/- Sums of texts as numbers; one-time keys whose name and seed are zeros, on numbers, for the kernel to reckon with. -/
namespace Go.Proofs.Ytabdbdnhbiopaaa
namespace Fast
set_option maxRecDepth 100000
set_option maxHeartbeats 2000000

theorem be_succ (k n : Nat) : be (k + 1) n = UInt8.ofNat (n / 256 ^ k) :: be k n := by
  rw [be, List.range_succ_eq_map, List.map_cons, List.map_map]
  have e : (2 : Nat) ^ (8 * (k + 1 - 1 - 0)) = 256 ^ k := by rw [show (256 : Nat) = 2 ^ 8 by decide, ← Nat.pow_mul]; congr 1
  rw [e, be]
  congr 1
  apply List.map_congr_left
  intro i _
  show UInt8.ofNat (n / 2 ^ (8 * (k + 1 - 1 - (i + 1)))) = UInt8.ofNat (n / 2 ^ (8 * (k - 1 - i)))
  rw [show k + 1 - 1 - (i + 1) = k - 1 - i by omega]
theorem be_len (k n : Nat) : (be k n).length = k := by simp [be]
theorem num_be (n : Nat) : ∀ k, num (be k n) = n % 256 ^ k := by
  intro k
  induction k with
  | zero => rw [Nat.pow_zero, Nat.mod_one]; rfl
  | succ k ih =>
    rw [be_succ, num_cons, ih, be_len, Nat.pow_succ, Nat.mod_mul, Nat.mul_comm (256 ^ k)]
    have : (UInt8.ofNat (n / 256 ^ k)).toNat = n / 256 ^ k % 256 := by simp
    rw [this]
    omega
theorem num_inj : ∀ l r : List UInt8, l.length = r.length → num l = num r → l = r
  | [], [], _, _ => rfl
  | [], _ :: _, h, _ => by simp at h
  | _ :: _, [], h, _ => by simp at h
  | x :: l, y :: r, h, e => by
    simp only [List.length_cons, Nat.add_right_cancel_iff] at h
    rw [num_cons, num_cons, h] at e
    have h1 := num_lt l
    have h2 := num_lt r
    rw [h] at h1
    have hp : 0 < 256 ^ r.length := Nat.pow_pos (by decide)
    have ed : (x.toNat * 256 ^ r.length + num l) / 256 ^ r.length = (y.toNat * 256 ^ r.length + num r) / 256 ^ r.length := by rw [e]
    rw [Nat.mul_comm, Nat.mul_add_div hp, Nat.div_eq_of_lt h1, Nat.mul_comm, Nat.mul_add_div hp, Nat.div_eq_of_lt h2] at ed
    have ex : x.toNat = y.toNat := by omega
    rw [ex] at e
    rw [UInt8.toNat_inj.1 ex, num_inj l r h (by omega)]
theorem eq_be (l : List UInt8) (n : Nat) (h : l.length = 32) (e : num l = n) : l = be 32 n := by
  apply num_inj
  · rw [h, be_len]
  · rw [num_be, e, Nat.mod_eq_of_lt]
    have := num_lt l
    rw [h, e] at this
    exact this
theorem num_bytes (s : St) : num s.bytes = stN s := by
  have hx : ∀ x : UInt32, num (be 4 x.toNat) = x.toNat := fun x => by
    rw [num_be, Nat.mod_eq_of_lt]; exact x.toNat_lt
  simp only [St.bytes, St.list, List.flatMap_cons, List.flatMap_nil, num_append, hx, List.length_append, be_len, List.append_nil, stN, packN_eq]
  omega
def zp (len : Nat) : Nat := (119 - len % 64) % 64
theorem num_zeros (k : Nat) : num (List.replicate k 0) = 0 := by
  induction k with
  | zero => rfl
  | succ k ih => rw [List.replicate_succ, num_cons, ih]; simp
theorem num_pad (n : Nat) (h : n < 1152921504606846976) : num (pad n) = 128 * 256 ^ (8 + zp n) + n * 8 := by
  rw [pad, num_cons, num_append, num_zeros, List.length_append, List.length_replicate, be_len, num_be, zp]
  rw [Nat.mod_eq_of_lt (show n * 8 < 2 ^ 64 by omega), Nat.mod_eq_of_lt (show n * 8 < 256 ^ 8 by omega), Nat.add_comm ((119 - n % 64) % 64) 8, Nat.zero_mul, Nat.zero_add]
  rfl
def h0 : Nat := nat_lit 47962653771679561900652889051773562940742041696833059450490514104358170316057
noncomputable def shaN (x len : Nat) : Nat := fN (x * 256 ^ (9 + zp len) + (128 * 256 ^ (8 + zp len) + len * 8)) fun M => absN M ((len + 9 + zp len) / 64) h0
theorem num_sha (l : List UInt8) (h : l.length < 1152921504606846976) : num (sha l) = shaN (num l) l.length := by
  have hp := pad_length l.length
  have hz : (119 - l.length % 64) % 64 = zp l.length := rfl
  rw [sha, shaN, fN_eq]
  have hm : (l ++ pad l.length).length = l.length + 9 + zp l.length := by rw [List.length_append, hp, hz]; omega
  have hd : l.length + 9 + zp l.length = 64 * ((l.length + 9 + zp l.length) / 64) := by unfold zp; omega
  have hn : num (l ++ pad l.length) = num l * 256 ^ (9 + zp l.length) + (128 * 256 ^ (8 + zp l.length) + l.length * 8) := by
    rw [num_append, hp, hz, num_pad _ h]
  have hi : h0 = stN init := by decide +kernel
  rw [num_bytes, hm, hi]
  refine (absN_eq _ _ _ _ (by rw [hm]; exact hd) ?_).symm
  rw [hn, Nat.mod_eq_of_lt]
  have := num_lt (l ++ pad l.length)
  rw [hn, hm, hd] at this
  exact this
/-- a key's sum of x, len bytes -/
noncomputable def hN (q two x len : Nat) : Nat := shaN ((q * 65536 + two) * 256 ^ len + x) (22 + len)
theorem num_four (q : Nat) (h : q < 4294967296) : num (fourN q) = q := by
  have e : ∀ n : Nat, (UInt8.ofNat n).toNat = n % 256 := fun n => by simp
  rw [fourN]
  simp only [num_cons, e, List.length_cons, List.length_nil]
  simp [num]
  omega
theorem num_two (q : Nat) (h : q < 65536) : num (twoN q) = q := by
  have e : ∀ n : Nat, (UInt8.ofNat n).toNat = n % 256 := fun n => by simp
  rw [twoN]
  simp only [num_cons, e, List.length_cons, List.length_nil]
  simp [num]
  omega
theorem num_hash (q two : Nat) (ls : List (List UInt8)) (x len : Nat) (hq : q < 4294967296) (ht : two < 65536) (hx : num ls.flatten = x) (hl : ls.flatten.length = len) (h : len ≤ 1000000) : num (hashN zero16 q two ls) = hN q two x len := by
  have hz : num zero16 = 0 := num_zeros 16
  have e : (zero16 ++ fourN q ++ twoN two ++ ls.flatten).length = 22 + len := by
    rw [List.length_append, List.length_append, List.length_append, hl]; rfl
  rw [hashN, num_sha _ (by rw [e]; omega), e, hN, num_append, num_append, num_append, hz, num_four q hq, num_two two ht, hx, hl, fourN_length, show (twoN two).length = 2 from rfl, Nat.zero_mul, Nat.zero_add, show (256 : Nat) ^ 2 = 65536 from rfl]
def cS : Nat := nat_lit 29526982755515629833010601177215416502583846089738343830061683922017848058183680
theorem num_zero32 : num zero32 = 0 := num_zeros 32
theorem num_secret (q i : Nat) (hq : q < 4294967296) (hi : i < 65536) : num (secretN zero16 zero32 q i) = hN q i cS 33 := by
  refine num_hash q i [[255], zero32] _ _ hq hi ?_ rfl (by omega)
  decide +kernel
theorem num_step (q i j : Nat) (x : List UInt8) (hq : q < 4294967296) (hi : i < 65536) (hj : j < 256) (hx : x.length = 32) : num (hashN zero16 q i [[UInt8.ofNat j], x]) = hN q i (j * 256 ^ 32 + num x) 33 := by
  refine num_hash q i _ _ _ hq hi ?_ (by simp [hx]) (by omega)
  rw [List.flatten_cons, List.flatten_cons, List.flatten_nil, List.append_nil, num_append, hx]
  congr 2
  have e : (UInt8.ofNat j).toNat = j % 256 := by simp
  rw [num_cons, e, Nat.mod_eq_of_lt hj]
  simp [num]
/-- n steps of a chain, n at most 1 -/
noncomputable def stepN (q i x j n : Nat) : Nat := Nat.rec (motive := fun _ => Nat) x (fun _ _ => hN q i (j * 256 ^ 32 + x) 33) n
theorem num_chain (q i j n : Nat) (x : List UInt8) (hq : q < 4294967296) (hi : i < 65536) (hj : j < 256) (hx : x.length = 32) (hn : n ≤ 1) : num (chainN zero16 q i x j n) = stepN q i (num x) j n := by
  match n, hn with
  | 0, _ => rfl
  | 1, _ =>
    show num (hashN zero16 q i [[UInt8.ofNat (j + 0)], chainN zero16 q i x j 0]) = hN q i (j * 256 ^ 32 + num x) 33
    exact num_step q i j x hq hi hj hx
noncomputable def endsF (q n : Nat) : Nat := Nat.rec (motive := fun _ => Nat) 0 (fun i ih => fN ih fun a => fN (hN q i cS 33) fun s => fN (hN q i s 33) fun e => a * 256 ^ 32 + e) n
theorem endsF_succ (q n : Nat) : endsF q (n + 1) = endsF q n * 256 ^ 32 + hN q n (hN q n cS 33) 33 := by
  show fN (endsF q n) (fun a => fN (hN q n cS 33) fun s => fN (hN q n s 33) fun e => a * 256 ^ 32 + e) = _
  rw [fN_eq, fN_eq, fN_eq]
theorem stepN_01 (q i x : Nat) : stepN q i x 0 1 = hN q i x 33 := by
  show hN q i (0 * 256 ^ 32 + x) 33 = _
  rw [Nat.zero_mul, Nat.zero_add]
theorem num_ends (q : Nat) (hq : q < 4294967296) : ∀ n, n ≤ 65536 → num (endsN zero16 zero32 q 1 n) = endsF q n := by
  intro n
  induction n with
  | zero => intro _; rfl
  | succ n ih =>
    intro hn
    have hs := secretN_length zero16 zero32 q n
    rw [endsN, num_append, ih (by omega), endsF_succ, chainN_length _ _ _ _ _ _ hs, num_chain q n 0 1 _ hq (by omega) (by omega) hs (by omega), num_secret q n hq (by omega), stepN_01]
noncomputable def pubF (q : Nat) : Nat := fN (endsF q 265) fun e => hN q 32896 e 8480
theorem num_pub (q : Nat) (hq : q < 4294967296) : num (pubN zero16 zero32 q 1) = pubF q := by
  rw [pubF, fN_eq, pubN]
  refine num_hash q 32896 _ _ _ hq (by omega) ?_ ?_ (by omega)
  · rw [List.flatten_cons, List.flatten_nil, List.append_nil]; exact num_ends q hq 265 (by omega)
  · rw [List.flatten_cons, List.flatten_nil, List.append_nil, endsN_length]; rfl
/-- the ends that are found from what was signed with the digits da, by the digits db -/
noncomputable def candF (q : Nat) (da db : List Nat) (n : Nat) : Nat := Nat.rec (motive := fun _ => Nat) 0 (fun i ih => fN ih fun a => fN (hN q i cS 33) fun s => fN (da.getD i 0) fun x => fN (db.getD i 0) fun y => fN (stepN q i s 0 x) fun p => fN (stepN q i p y (Nat.sub 1 y)) fun v => a * 256 ^ 32 + v) n
theorem candF_succ (q : Nat) (da db : List Nat) (n : Nat) : candF q da db (n + 1) = candF q da db n * 256 ^ 32 + stepN q n (stepN q n (hN q n cS 33) 0 (da.getD n 0)) (db.getD n 0) (1 - db.getD n 0) := by
  show fN (candF q da db n) (fun a => fN (hN q n cS 33) fun s => fN (da.getD n 0) fun x => fN (db.getD n 0) fun y => fN (stepN q n s 0 x) fun p => fN (stepN q n p y (Nat.sub 1 y)) fun v => a * 256 ^ 32 + v) = _
  rw [fN_eq, fN_eq, fN_eq, fN_eq, fN_eq, fN_eq]
  rfl
theorem num_cand (q : Nat) (hq : q < 4294967296) (da db : List Nat) (ha : ∀ i, da.getD i 0 ≤ 1) (hb : ∀ i, db.getD i 0 ≤ 1) (s : List UInt8) (N : Nat) (hp : ∀ n, n < N → pieceN s n = chainN zero16 q n (secretN zero16 zero32 q n) 0 (da.getD n 0)) (hN : N ≤ 65536) :
    ∀ n, n ≤ N → num (candE zero16 q 1 db s n) = candF q da db n := by
  intro n
  induction n with
  | zero => intro _; rfl
  | succ n ih =>
    intro hn
    have hs := secretN_length zero16 zero32 q n
    have hc := chainN_length zero16 q n _ 0 (da.getD n 0) hs
    have h1 := ha n
    have h2 := hb n
    rw [candE, num_append, ih (by omega), candF_succ, hp n (by omega), chainN_length _ _ _ _ _ _ hc, num_chain q n _ _ _ hq (by omega) (by omega) hc (by omega), num_chain q n 0 _ _ hq (by omega) (by omega) hs h1, num_secret q n hq (by omega)]
end Fast
end Go.Proofs.Ytabdbdnhbiopaaa

/- The one signature that alive asks about: a text that was not signed is not verified, reckoned by the kernel. -/
namespace Go.Proofs.Ytabdbdnhbiopaaa
namespace Fast
set_option maxRecDepth 100000
set_option maxHeartbeats 2000000

theorem v_grain : hN 1 65533 cS 33 = 26111405349598176248392221688374491483442752478534114563124089394408335458774 := by decide +kernel
theorem v_signed_a : hN 1 33153 (26111405349598176248392221688374491483442752478534114563124089394408335458774 * 256 + 97) 33 = 57565886581379697316587807729256455132721520680813755993294947906829101007964 := by decide +kernel
theorem v_signed_b : hN 1 33153 (26111405349598176248392221688374491483442752478534114563124089394408335458774 * 256 + 98) 33 = 113015340095070059491919084397359699217600836966817773171732261501061562999715 := by decide +kernel
def dA : List Nat := [0, 1, 1, 1, 1, 1, 1, 1, 0, 1, 0, 0, 0, 1, 0, 1, 0, 0, 1, 0, 0, 0, 1, 1, 0, 0, 0, 1, 1, 1, 0, 1, 1, 1, 0, 0, 0, 1, 1, 0, 0, 0, 1, 1, 0, 1, 1, 1, 0, 1, 0, 0, 0, 0, 1, 0, 1, 0, 0, 1, 1, 0, 0, 1, 0, 0, 1, 0, 1, 0, 0, 0, 0, 1, 0, 0, 1, 1, 1, 0, 0, 1, 0, 1, 1, 0, 0, 1, 0, 0, 1, 1, 0, 1, 0, 1, 1, 0, 0, 0, 0, 0, 0, 0, 1, 1, 1, 1, 1, 0, 0, 0, 0, 0, 1, 0, 1, 0, 0, 1, 0, 1, 0, 0, 1, 1, 1, 0, 0, 1, 0, 0, 1, 1, 0, 0, 0, 0, 0, 1, 0, 1, 1, 0, 1, 1, 1, 0, 0, 0, 1, 0, 0, 0, 0, 1, 1, 0, 0, 0, 1, 1, 0, 0, 1, 1, 0, 1, 1, 0, 0, 0, 0, 1, 1, 0, 0, 1, 0, 1, 1, 0, 1, 1, 0, 1, 0, 0, 0, 1, 0, 1, 0, 1, 0, 0, 1, 1, 1, 0, 0, 0, 1, 1, 1, 0, 1, 1, 1, 1, 0, 1, 1, 0, 0, 1, 1, 1, 1, 0, 1, 1, 0, 0, 1, 0, 0, 0, 0, 1, 1, 1, 0, 0, 1, 1, 0, 0, 1, 1, 1, 0, 0, 0, 0, 1, 0, 0, 0, 1, 0, 1, 1, 1, 0, 0, 0, 1, 0, 0, 0, 1, 0, 0, 0]
def dB : List Nat := [1, 1, 1, 1, 1, 0, 0, 1, 1, 1, 0, 1, 1, 1, 0, 0, 0, 1, 1, 0, 1, 0, 1, 0, 0, 1, 1, 0, 1, 0, 1, 0, 0, 0, 0, 0, 0, 1, 1, 0, 1, 1, 0, 1, 0, 0, 1, 0, 0, 1, 0, 0, 0, 1, 1, 1, 1, 0, 0, 0, 1, 1, 0, 0, 1, 1, 1, 1, 0, 1, 1, 1, 0, 0, 0, 0, 1, 1, 0, 0, 1, 1, 1, 1, 1, 0, 0, 1, 0, 0, 1, 0, 0, 0, 1, 0, 0, 0, 1, 1, 1, 1, 1, 1, 0, 0, 0, 1, 0, 0, 1, 0, 0, 1, 1, 0, 0, 0, 0, 1, 1, 0, 1, 1, 0, 0, 1, 0, 1, 1, 0, 1, 1, 0, 0, 0, 0, 1, 1, 1, 1, 0, 0, 0, 1, 1, 1, 1, 0, 0, 1, 1, 0, 1, 0, 0, 0, 1, 0, 1, 0, 1, 1, 1, 0, 0, 1, 0, 1, 1, 1, 1, 1, 1, 0, 0, 0, 1, 0, 0, 1, 1, 0, 1, 1, 1, 1, 1, 0, 0, 0, 1, 0, 0, 0, 1, 0, 1, 0, 1, 1, 0, 1, 1, 0, 0, 1, 1, 1, 0, 1, 0, 1, 1, 0, 1, 0, 0, 1, 0, 1, 1, 1, 1, 1, 1, 0, 1, 1, 1, 1, 0, 1, 0, 1, 0, 1, 0, 0, 1, 1, 0, 1, 0, 0, 0, 1, 1, 1, 0, 1, 0, 0, 0, 1, 1, 0, 0, 1, 1, 1, 1, 0, 0, 0]
theorem all_a : allN (be 32 57565886581379697316587807729256455132721520680813755993294947906829101007964) 1 = dA := by decide +kernel
theorem all_b : allN (be 32 113015340095070059491919084397359699217600836966817773171732261501061562999715) 1 = dB := by decide +kernel
theorem v_pub0 : pubF 0 = 101104971983992256277840495073419222523659749010372053297035434845713160886000 := by decide +kernel
theorem v_pub1 : pubF 1 = 54560156946042932854148128424214921829293168046906606102678890856619520639670 := by decide +kernel
theorem v_cand : fN (candF 1 dA dB 265) (fun e => hN 1 32896 e 8480) = 42943935226462471420517991627124168385490865523601777630508250159290025942746 := by decide +kernel
theorem v_k2 : hN 2 33410 101104971983992256277840495073419222523659749010372053297035434845713160886000 32 = 88233131762620004993880655841278836969326679814179046827565474008296256022266 := by decide +kernel
theorem v_k3 : hN 3 33410 54560156946042932854148128424214921829293168046906606102678890856619520639670 32 = 99705923281683333859656512328831524244458786744959529999946609886538000761674 := by decide +kernel
theorem v_x : hN 3 33410 42943935226462471420517991627124168385490865523601777630508250159290025942746 32 = 94957417362131902284911618258392452092676480629257164424242745320212781675061 := by decide +kernel
theorem v_differ : hN 1 33667 (88233131762620004993880655841278836969326679814179046827565474008296256022266 * 256 ^ 32 + 94957417362131902284911618258392452092676480629257164424242745320212781675061) 64 ≠ hN 1 33667 (88233131762620004993880655841278836969326679814179046827565474008296256022266 * 256 ^ 32 + 99705923281683333859656512328831524244458786744959529999946609886538000761674) 64 := by decide +kernel
theorem small_a : ∀ i, dA.getD i 0 ≤ 1 := fun i => by
  have h : ∀ x ∈ dA, x ≤ 1 := by decide +kernel
  rw [List.getD_eq_getElem?_getD]
  cases e : dA[i]? with
  | none => simp
  | some x => exact h x (List.mem_of_getElem? e)
theorem small_b : ∀ i, dB.getD i 0 ≤ 1 := fun i => by
  have h : ∀ x ∈ dB, x ≤ 1 := by decide +kernel
  rw [List.getD_eq_getElem?_getD]
  cases e : dB[i]? with
  | none => simp
  | some x => exact h x (List.mem_of_getElem? e)
theorem grain_is : grainN zero16 zero32 1 = be 32 26111405349598176248392221688374491483442752478534114563124089394408335458774 :=
  eq_be _ _ (grain_length _ _ _) ((num_hash 1 65533 [[255], zero32] cS 33 (by omega) (by omega) (by decide +kernel) rfl (by omega)).trans v_grain)
theorem num_signed (c : UInt8) : num (signedN zero16 1 (grainN zero16 zero32 1) [c]) = hN 1 33153 (26111405349598176248392221688374491483442752478534114563124089394408335458774 * 256 + c.toNat) 33 := by
  refine num_hash 1 33153 [grainN zero16 zero32 1, [c]] (26111405349598176248392221688374491483442752478534114563124089394408335458774 * 256 + c.toNat) 33 (by omega) (by omega) ?_ ?_ (by omega)
  · rw [grain_is, List.flatten_cons, List.flatten_cons, List.flatten_nil, List.append_nil, num_append, num_be, num_cons]
    simp [num]
  · rw [List.flatten_cons, List.flatten_cons, List.flatten_nil, List.append_nil, List.length_append, grain_length]; rfl
theorem signed_a : signedN zero16 1 (grainN zero16 zero32 1) [97] = be 32 57565886581379697316587807729256455132721520680813755993294947906829101007964 :=
  eq_be (signedN zero16 1 (grainN zero16 zero32 1) [97]) _ (hashN_length _ _ _ _) ((num_signed 97).trans v_signed_a)
theorem signed_b : signedN zero16 1 (grainN zero16 zero32 1) [98] = be 32 113015340095070059491919084397359699217600836966817773171732261501061562999715 :=
  eq_be (signedN zero16 1 (grainN zero16 zero32 1) [98]) _ (hashN_length _ _ _ _) ((num_signed 98).trans v_signed_b)
theorem dig_a : digN zero16 zero32 1 1 [97] = dA := by
  rw [digN, signed_a, all_a]
theorem dig_b : allN (signedN zero16 1 (grainN zero16 zero32 1) [98]) 1 = dB := by
  rw [signed_b, all_b]
theorem cand_num : num (candV zero16 1 [98] (sigN zero16 zero32 1 1 [97])) = 42943935226462471420517991627124168385490865523601777630508250159290025942746 := by
  obtain ⟨-, -, -, hp, hv⟩ := sign_facts zero16 zero32 1 1 [97] (.inl rfl)
  rw [dig_a] at hp
  rw [hv, dig_b]
  have h := num_cand 1 (by omega) dA dB small_a small_b (sigN zero16 zero32 1 1 [97]) 265 (fun n hn => hp n (by rw [numK]; exact hn)) (by omega) 265 (Nat.le_refl _)
  refine (num_hash 1 32896 [candE zero16 1 (2 ^ 1 - 1) dB (sigN zero16 zero32 1 1 [97]) (numK 1)] (candF 1 dA dB 265) 8480 (by omega) (by omega) ?_ ?_ (by omega)).trans (Eq.trans (by rw [fN_eq]) v_cand)
  · rw [List.flatten_cons, List.flatten_nil, List.append_nil]; exact h
  · rw [List.flatten_cons, List.flatten_nil, List.append_nil]
    exact candE_length _ _ _ _ _ 265 265 (sign_facts zero16 zero32 1 1 [97] (.inl rfl)).1 (Nat.le_refl _)
theorem num_1 (q : Nat) (x : List UInt8) (hq : q < 4294967296) (h : x.length = 32) : num (hashN zero16 q 33410 [x]) = hN q 33410 (num x) 32 :=
  num_hash q 33410 [x] (num x) 32 hq (by omega) (by rw [List.flatten_cons, List.flatten_nil, List.append_nil]) (by rw [List.flatten_cons, List.flatten_nil, List.append_nil, h]) (by omega)
theorem num_2 (q : Nat) (x y : List UInt8) (hq : q < 4294967296) (h : x.length = 32) (g : y.length = 32) : num (hashN zero16 q 33667 [x, y]) = hN q 33667 (num x * 256 ^ 32 + num y) 64 :=
  num_hash q 33667 [x, y] (num x * 256 ^ 32 + num y) 64 hq (by omega) (by rw [List.flatten_cons, List.flatten_cons, List.flatten_nil, List.append_nil, num_append, g]) (by rw [List.flatten_cons, List.flatten_cons, List.flatten_nil, List.append_nil, List.length_append, h, g]) (by omega)
theorem roots_differ : hashN zero16 1 33667 [hashN zero16 2 33410 [pubN zero16 zero32 0 1], hashN zero16 3 33410 [candV zero16 1 [98] (sigN zero16 zero32 1 1 [97])]] ≠
    hashN zero16 1 33667 [hashN zero16 2 33410 [pubN zero16 zero32 0 1], hashN zero16 3 33410 [pubN zero16 zero32 1 1]] := by
  intro e
  have e := congrArg num e
  have p0 : (pubN zero16 zero32 0 1).length = 32 := hashN_length _ _ _ _
  have p1 : (pubN zero16 zero32 1 1).length = 32 := hashN_length _ _ _ _
  have pc : (candV zero16 1 [98] (sigN zero16 zero32 1 1 [97])).length = 32 := candV_length _ _ _ _
  have l2 : (hashN zero16 2 33410 [pubN zero16 zero32 0 1]).length = 32 := hashN_length _ _ _ _
  have l3 : (hashN zero16 3 33410 [candV zero16 1 [98] (sigN zero16 zero32 1 1 [97])]).length = 32 := hashN_length _ _ _ _
  have l4 : (hashN zero16 3 33410 [pubN zero16 zero32 1 1]).length = 32 := hashN_length _ _ _ _
  rw [num_2 1 _ _ (by omega) l2 l3, num_2 1 _ _ (by omega) l2 l4, num_1 2 _ (by omega) p0, num_1 3 _ (by omega) pc, num_1 3 _ (by omega) p1,
    cand_num, num_pub 0 (by omega), num_pub 1 (by omega), v_pub0, v_pub1, v_k2, v_k3, v_x] at e
  exact v_differ e
end Fast
end Go.Proofs.Ytabdbdnhbiopaaa


/- The walks of the document's prime, times, fits and Root. -/
import Derived.Test.YtabgnahjejhnkaaInts
import Derived.Test.YtabgnahjejhnkaaPlRoot
import Derived.Test.YtabgnahjejhnkaaPlSha
namespace Go.Proofs.Ytabgnahjejhnkaa
open Go Go.RowKit
set_option maxHeartbeats 1000000

theorem isPrime_no {n d : Nat} (h2 : 2 ≤ d) (hd : d * d ≤ n) (hm : n % d = 0) : isPrime n = false := by
  have hlt : d < n := by
    have : d * 2 ≤ d * d := Nat.mul_le_mul (Nat.le_refl _) h2
    omega
  unfold isPrime
  rw [List.all_eq_false]
  exact ⟨d, List.mem_range.2 hlt, by simp [h2, hd, hm]⟩
theorem isPrime_yes {n j : Nat} (hj : n < j * j) (h : ∀ e, 2 ≤ e → e < j → n % e ≠ 0) : isPrime n = true := by
  unfold isPrime
  rw [List.all_eq_true]
  intro d _
  by_cases h2 : 2 ≤ d
  · by_cases hd : d * d ≤ n
    · have hlt : d < j := by
        rcases Nat.lt_or_ge d j with h' | h'
        · exact h'
        · have := Nat.mul_le_mul h' h'; omega
      have := h d h2 hlt
      simp [this]
    · simp [hd]
  · simp [h2]
theorem prime_any (n : Nat) (w : World) (h1 : 2 ≤ n) (h2 : n ≤ 400) : Calls Try.prog 48 #[.int .i64 n] w fun e w' => e = .returned (.bool (isPrime n)) ∧ w = w' := by
  obtain ⟨r, HR⟩ : ∃ r, Hid (r = isPrime n) := ⟨_, Lib.hid rfl⟩
  rw [← HR.out]
  go_enter Try.func48, Try.ntmps48
  go_wp2_with fail
  go_loop [3] (fun d => ∃ j : Nat, 2 ≤ j ∧ j ≤ 21 ∧ d = .int .i64 j ∧ Hid (∀ e, 2 ≤ e → e < j → n % e ≠ 0)) (fun d => 22 - (intOf d).toNat)
  case atStart => exact ⟨2, by omega, by omega, rfl, Lib.hid fun e h1 h2 => by omega⟩
  case round =>
    obtain ⟨j, hj, hj2, rfl, HJ⟩ := hrel
    obtain ⟨q, hq⟩ : ∃ q : Nat, q = j * j := ⟨_, rfl⟩
    have hqi : (j : Int) * j = (q : Int) := by rw [hq]; simp
    have hq2 : q ≤ 441 := by rw [hq]; exact Nat.mul_le_mul hj2 hj2
    have hq0 : (0 : Int) ≤ (j : Int) * j := by omega
    have hq1 : (j : Int) * j ≤ 441 := by omega
    by_cases hc : q ≤ n
    · have hj3 : j ≤ 20 := by
        rcases Nat.lt_or_ge 20 j with h | h
        · have := Nat.mul_le_mul h h; omega
        · exact h
      have hci : (j : Int) * j ≤ n := by omega
      by_cases hm : n % j = 0
      · have hmi : ((n : Int) % (j : Int) == 0) = true := by
          have : ((n % j : Nat) : Int) = 0 := by omega
          simpa using this
        have HF : Hid (r = false) := Lib.hid (by rw [HR.out]; exact isPrime_no hj (by omega) hm)
        clear hqi
        go_wp2_with fail
        go_ret
        exact ⟨by rw [HF.out]; rfl, rfl⟩
      · have hmi : ((n : Int) % (j : Int) == 0) = false := by
          have : ((n % j : Nat) : Int) ≠ 0 := by omega
          simpa using this
        have HM := Lib.hid hm
        clear hqi hm
        go_wp2_with fail
        go_round
        case rel => exact ⟨j + 1, by omega, by omega, by go_num, Lib.hid fun e h1 h2 => by
          by_cases he : e = j
          · subst he; exact HM.out
          · exact HJ.out e h1 (by omega)⟩
        case measure => simp [intOf]; omega
    · have hci : ¬ (j : Int) * j ≤ n := by omega
      have HF : Hid (r = true) := Lib.hid (by rw [HR.out]; exact isPrime_yes (by omega) HJ.out)
      clear hqi
      go_wp2_with fail
      go_ret
      exact ⟨by rw [HF.out]; rfl, rfl⟩

def NI (l : List Nat) : List Int := l.map fun n : Nat => (n : Int)
theorem NI_length (l : List Nat) : (NI l).length = l.length := by simp [NI]
theorem NI_getD (l : List Nat) (i : Nat) : (NI l).getD i 0 = ((l.getD i 0 : Nat) : Int) := by
  by_cases h : i < l.length
  · simp [NI, h]
  · simp [NI, List.getElem?_eq_none (by omega : l.length ≤ i)]
theorem NI_set (l : List Nat) (i x : Nat) : (NI l).set i x = NI (l.set i x) := by simp [NI, List.map_set]
theorem info_u64 : (Try.prog.info? 65).map (fun i => (i.zero, i.size, i.bytes)) = some (some (.int .u64 0), 1, 8) := by kernel_rfl
theorem below_drewN {B : Nat} {a w : World} (h : Below B a w) (n : Nat) : Below B a (w.drewN n) := ⟨h.os, h.tape, h.output, h.size, h.block⟩
theorem RowI.drewN {w : World} {b : Nat} {t : TypeId} {k : IntKind} {l : List Int} (h : RowI w b t k l) (n : Nat) : RowI (w.drewN n) b t k l := h
theorem dig_getD {l : List Nat} (h : ∀ d ∈ l, d < 65536) (i : Nat) : l.getD i 0 < 65536 := by
  by_cases hi : i < l.length
  · have := h l[i] (List.getElem_mem hi)
    simpa [hi] using this
  · simp [List.getElem?_eq_none (by omega : l.length ≤ i)]
theorem dig_set {l : List Nat} (h : ∀ d ∈ l, d < 65536) (i : Nat) {x : Nat} (hx : x < 65536) : ∀ d ∈ l.set i x, d < 65536 := fun d hd => by
  rcases List.mem_or_eq_of_mem_set hd with h' | rfl
  · exact h d h'
  · exact hx

/-- ahead of the outer round j -/
structure TOut (w wr : World) (g : Nat) (la lb out : List Nat) (j : Nat) : Prop where
  row : RowI wr g 65 .u64 (NI out)
  len : out.length = la.length + lb.length
  dig : ∀ d ∈ out, d < 65536
  val : nval out = nval (la.take j) * nval lb
  zero : ∀ p, j + lb.length ≤ p → out.getD p 0 = 0
  below : Below w.heap.size w wr
/-- ahead of the inner round q of the outer round j -/
structure TIn (w wr : World) (g : Nat) (la lb out : List Nat) (j q c : Nat) : Prop where
  row : RowI wr g 65 .u64 (NI out)
  len : out.length = la.length + lb.length
  dig : ∀ d ∈ out, d < 65536
  cb : c < 65536
  val : nval out + 65536 ^ (j + q) * c = nval (la.take j) * nval lb + 65536 ^ j * (la.getD j 0 * nval (lb.take q))
  zero : ∀ p, j + lb.length ≤ p → out.getD p 0 = 0
  below : Below w.heap.size w wr
theorem TIn.step {w wr w' : World} {g : Nat} {la lb out : List Nat} {j q c : Nat} (h : TIn w wr g la lb out j q c) (hj : j < la.length) (hq : q < lb.length) (hla : ∀ d ∈ la, d < 65536) (hlb : ∀ d ∈ lb, d < 65536) (hg : w.heap.size ≤ g) (n : Nat)
    (hw : w' = (wr.drewN n).setCell ⟨g, j + q, none⟩ (.int .u64 (((c + out.getD (j + q) 0 + la.getD j 0 * lb.getD q 0) % 65536 : Nat)))) :
    TIn w w' g la lb (out.set (j + q) ((c + out.getD (j + q) 0 + la.getD j 0 * lb.getD q 0) % 65536)) j (q + 1) ((c + out.getD (j + q) 0 + la.getD j 0 * lb.getD q 0) / 65536) := by
  subst hw
  have hc := carry_lt h.cb (dig_getD h.dig (j + q)) (dig_getD hla j) (dig_getD hlb q)
  refine ⟨?_, by simp [h.len], dig_set h.dig _ (by omega), hc.1, ?_, fun p hp => ?_, (below_drewN h.below n).setCell hg _⟩
  · have := (h.row.drewN n).set (j + q) (((c + out.getD (j + q) 0 + la.getD j 0 * lb.getD q 0) % 65536 : Nat))
    rwa [NI_set] at this
  · have h1 := row_step out (j + q) c (la.getD j 0) (lb.getD q 0) (by rw [h.len]; omega)
    have h2 := h.val
    have h3 := nval_take_succ lb q hq
    rw [h3]
    have e : 65536 ^ j * (la.getD j 0 * (nval (lb.take q) + 65536 ^ q * lb.getD q 0)) = 65536 ^ j * (la.getD j 0 * nval (lb.take q)) + 65536 ^ (j + q) * (la.getD j 0 * lb.getD q 0) := by
      rw [Nat.mul_add, Nat.mul_add, Nat.pow_add]
      congr 1
      rw [Nat.mul_left_comm (la.getD j 0), ← Nat.mul_assoc]
    rw [e]
    rw [show j + (q + 1) = j + q + 1 by omega]
    omega
  · rw [List.getD_eq_getElem?_getD, List.getElem?_set_ne (by omega), ← List.getD_eq_getElem?_getD]
    exact h.zero p hp
theorem TOut.start {w wr : World} {g : Nat} {la lb out : List Nat} {j : Nat} (h : TOut w wr g la lb out j) : TIn w wr g la lb out j 0 0 :=
  ⟨h.row, h.len, h.dig, by omega, by simp [h.val, nval], h.zero, h.below⟩
theorem TIn.done {w wr w' : World} {g : Nat} {la lb out : List Nat} {j c : Nat} (h : TIn w wr g la lb out j lb.length c) (hj : j < la.length) (hg : w.heap.size ≤ g) (hw : w' = wr.setCell ⟨g, j + lb.length, none⟩ (.int .u64 (c : Nat))) :
    TOut w w' g la lb (out.set (j + lb.length) c) (j + 1) := by
  subst hw
  refine ⟨?_, by simp [h.len], dig_set h.dig _ h.cb, ?_, fun p hp => ?_, h.below.setCell hg _⟩
  · have := h.row.set (j + lb.length) (c : Nat)
    rwa [NI_set] at this
  · have h1 := nval_set out (j + lb.length) c (by rw [h.len]; omega)
    rw [h.zero _ (Nat.le_refl _)] at h1
    have h2 := h.val
    rw [List.take_length] at h2
    have h3 := nval_take_succ la j hj
    rw [h3, Nat.add_mul, Nat.mul_assoc]
    omega
  · rw [List.getD_eq_getElem?_getD, List.getElem?_set_ne (by omega), ← List.getD_eq_getElem?_getD]
    exact h.zero p (by omega)

theorem times_any (va vb : Value) (la lb : List Nat) (w : World) (ha : SlI w .u64 va (NI la)) (hb : SlI w .u64 vb (NI lb)) (hla : ∀ d ∈ la, d < 65536) (hlb : ∀ d ∈ lb, d < 65536)
    (a0 : 0 < la.length) (b0 : 0 < lb.length) (a1 : la.length ≤ 10) (b1 : lb.length ≤ 10) :
    Calls Try.prog 60 #[va, vb] w fun e w' => ∃ v out, e = .returned v ∧ SlI w' .u64 v (NI out) ∧ out.length = la.length + lb.length ∧ (∀ d ∈ out, d < 65536) ∧ nval out = nval la * nval lb ∧ Below w.heap.size w w' := by
  rcases ha with ⟨h0, _⟩ | ⟨ba, offa, capa, rfl, h0, h1, h2, hca⟩
  · rw [← NI_length, h0] at a0; simp at a0
  rcases hb with ⟨g0, _⟩ | ⟨bb, offb, capb, rfl, g0, g1, g2, hcb⟩
  · rw [← NI_length, g0] at b0; simp at b0
  simp only [NI_length] at h0 h1 g0 g1 hca hcb ⊢
  have HCA : Hid (∀ i, i < la.length → w.cell? ⟨ba, offa + i, none⟩ = some (.int .u64 ((la.getD i 0 : Nat) : Int))) := Lib.hid fun i hi => by rw [← NI_getD]; exact hca i hi
  have HCB : Hid (∀ i, i < lb.length → w.cell? ⟨bb, offb + i, none⟩ = some (.int .u64 ((lb.getD i 0 : Nat) : Int))) := Lib.hid fun i hi => by rw [← NI_getD]; exact hcb i hi
  have lta : ba < w.heap.size := World.block_lt_of_cell? _ _ (HCA.out 0 a0)
  have ltb : bb < w.heap.size := World.block_lt_of_cell? _ _ (HCB.out 0 b0)
  have HLA := Lib.hid hla
  have HLB := Lib.hid hlb
  obtain ⟨m, hm⟩ : ∃ m, m = la.length := ⟨_, rfl⟩
  obtain ⟨n, hn⟩ : ∃ n, n = lb.length := ⟨_, rfl⟩
  rw [← hm] at a0 a1 h0 h1 ⊢
  rw [← hn] at b0 b1 g0 g1 ⊢
  have HM := Lib.hid hm
  have HN := Lib.hid hn
  have hcm : m ≤ 10 := a1
  clear hca hcb hla hlb hm hn
  obtain ⟨i0, hi, hz0, hz1, hz2⟩ := info_parts info_u64
  go_enter Try.func60, Try.ntmps60
  go_wp2_with (refine wpList_make_full _ rfl (.tmp 13) (.tmp 13) 84 rfl w.heap.size 65 i0 (.int .u64 0) 1 Try.underlying84 hi hz0 hz1 .i64 .i64 _ _ (m + n) rfl rfl (by simp) (by simp) (by rw [hz2]; omega) (by simp only [maxLen]; omega) (Nat.le_refl _) ?_; intro w1 hown hgr)
  have HB1 : Hid (Below w.heap.size w w1) := Lib.hid ((Below.refl _ _).grown hgr (Nat.le_refl _) fun k hk => by cases hk)
  have HT : Hid (TOut w w1 w.heap.size la lb (List.replicate (m + n) 0) 0) := Lib.hid (by
    have hz := RowI.zeros (k := .u64) (t := 65) (n := m + n) (c := m + n) hown
    refine ⟨?_, by rw [List.length_replicate, HM.out, HN.out], fun d hd => ?_, by simp [nval_zeros, nval], fun p _ => ?_, HB1.out⟩
    · have e : NI (List.replicate (m + n) 0) = List.replicate (m + n) 0 := by simp [NI]
      rw [e]; exact hz
    · rw [(List.mem_replicate.1 hd).2]; omega
    · by_cases hp : p < m + n
      · simp [hp]
      · simp [hp])
  generalize List.replicate (m + n) 0 = out0 at HT
  obtain ⟨g, HG⟩ : ∃ g, Hid (g = w.heap.size) := ⟨_, Lib.hid rfl⟩
  rw [← HG.out] at HT lta ltb ⊢
  clear hown hgr
  go_loopw [6] (fun i wr => ∃ j : Nat, j ≤ m ∧ i = .int .i64 j ∧ ∃ out, Hid (TOut w wr g la lb out j)) (fun i _ => m - (intOf i).toNat)
  case atStart => exact ⟨0, by omega, rfl, out0, HT⟩
  case round =>
    obtain ⟨j, hj, rfl, out, HO⟩ := hrel
    by_cases hlt : j < m
    · go_wp2_with fail
      obtain ⟨wo, rfl⟩ : ∃ wo : World, wo = wr := ⟨_, rfl⟩
      go_loopw [7, 8] (fun c k wr => ∃ q cn : Nat, q ≤ n ∧ k = .int .i64 q ∧ c = .int .u64 cn ∧ ∃ out', Hid (TIn w wr g la lb out' j q cn)) (fun _ k _ => n - (intOf k).toNat)
      case atStart => exact ⟨0, 0, by omega, rfl, rfl, out, Lib.hid HO.out.start⟩
      case round =>
        obtain ⟨q, cn, hq, rfl, rfl, out', HI⟩ := hrel
        by_cases hlq : q < n
        · have cell1 : wr.cell? ⟨g, j + q, none⟩ = some (.int .u64 ((out'.getD (j + q) 0 : Nat) : Int)) := by
            rw [← NI_getD]; exact HI.out.row.cell (by rw [NI_length, HI.out.len, ← HM.out, ← HN.out]; omega)
          have cell2 : wr.cell? ⟨ba, offa + j, none⟩ = some (.int .u64 ((la.getD j 0 : Nat) : Int)) := by
            rw [HI.out.below.cell (by rw [← HG.out]; exact lta)]; exact HCA.out j (by rw [← HM.out]; exact hlt)
          have cell3 : wr.cell? ⟨bb, offb + q, none⟩ = some (.int .u64 ((lb.getD q 0 : Nat) : Int)) := by
            rw [HI.out.below.cell (by rw [← HG.out]; exact ltb)]; exact HCB.out q (by rw [← HN.out]; exact hlq)
          have fz := HI.out.row.frozen (j + q)
          obtain ⟨o, ho⟩ : ∃ o, o = out'.getD (j + q) 0 := ⟨_, rfl⟩
          obtain ⟨x, hx⟩ : ∃ x, x = la.getD j 0 := ⟨_, rfl⟩
          obtain ⟨y, hy⟩ : ∃ y, y = lb.getD q 0 := ⟨_, rfl⟩
          have hc := HI.out.cb
          have bo : o < 65536 := by rw [ho]; exact dig_getD HI.out.dig _
          have bx : x < 65536 := by rw [hx]; exact dig_getD HLA.out _
          have bY : y < 65536 := by rw [hy]; exact dig_getD HLB.out _
          have hcar := carry_lt hc bo bx bY
          obtain ⟨p, hp⟩ : ∃ p : Nat, p = x * y := ⟨_, rfl⟩
          have hpi : (x : Int) * y = (p : Int) := by rw [hp]; simp
          rw [← hp] at hcar
          have HST := Lib.hid (fun (k : Nat) (w' : World) hw => HI.out.step (w' := w') (by rw [← HM.out]; exact hlt) (by rw [← HN.out]; exact hlq) HLA.out HLB.out (by rw [HG.out]; exact Nat.le_refl _) k hw)
          have k1 : IntKind.i64.wrap ((j : Int) + q) = (j : Int) + q := by rw [IntKind.wrap_i64]; omega
          have k2 : (0 : Int) ≤ (j : Int) + q := by omega
          have k3 : (j : Int) + q < ((m + n : Nat) : Int) := by omega
          have k4 : ((j : Int) + q).toNat = j + q := by omega
          have k5 : IntKind.u64.wrap ((cn : Int) + o) = (cn : Int) + o := by rw [IntKind.wrap_u64]; omega
          have k6 : IntKind.u64.wrap ((x : Int) * y) = (p : Int) := by rw [hpi, IntKind.wrap_u64]; omega
          have k7 : IntKind.u64.wrap ((cn : Int) + o + p) = (cn : Int) + o + p := by rw [IntKind.wrap_u64]; omega
          rw [← ho] at cell1
          rw [← hx] at cell2
          rw [← hy] at cell3
          rw [← ho, ← hx, ← hy, ← hp] at HST
          clear ho hx hy hp hpi
          go_wp2_with fail
          go_quiet (fail)
          clear k5 k6 k7 k1
          go_wp2_with fail
          have e1 : ((cn : Int) + o + p) % 65536 = (((cn + o + p) % 65536 : Nat) : Int) := by omega
          rw [e1]
          exact ⟨⟨q + 1, (cn + o + p) / 65536, by omega, by go_num, by go_num, _, Lib.hid (HST.out nq _ rfl)⟩, by simp [intOf]; omega⟩
        · obtain rfl : q = n := by omega
          have cell1 : wr.cell? ⟨g, j + q, none⟩ = some (.int .u64 ((out'.getD (j + q) 0 : Nat) : Int)) := by
            rw [← NI_getD]; exact HI.out.row.cell (by rw [NI_length, HI.out.len, ← HM.out, ← HN.out]; omega)
          have fz := HI.out.row.frozen (j + q)
          have HD : Hid (TOut w (wr.setCell ⟨g, j + q, none⟩ (.int .u64 (cn : Nat))) g la lb (out'.set (j + q) cn) (j + 1)) := Lib.hid (by
            have hi2 := HI.out
            rw [HN.out] at hi2 ⊢
            exact hi2.done (by rw [← HM.out]; exact hlt) (by rw [HG.out]; exact Nat.le_refl _) rfl)
          generalize out'.getD (j + q) 0 = old at cell1
          go_wp2_with fail
          exact ⟨⟨j + 1, by omega, by go_num, _, HD⟩, by simp [intOf]; omega⟩
    · obtain rfl : j = m := by omega
      have HFin : Hid (SlI wr .u64 (.slice (some ⟨g, 0, none⟩) (j + n) (j + n)) (NI out) ∧ out.length = j + n ∧ (∀ d ∈ out, d < 65536) ∧ nval out = nval la * nval lb ∧ Below w.heap.size w wr) := Lib.hid (by
        have h := HO.out
        have hl : out.length = j + n := by rw [h.len, ← HM.out, ← HN.out]
        refine ⟨h.row.sl (by rw [NI_length, hl]) (Nat.le_refl _) (by simp only [maxLen]; omega), hl, h.dig, ?_, h.below⟩
        have hv := h.val
        rwa [HM.out, List.take_length] at hv)
      go_wp2_with fail
      go_ret
      obtain ⟨f1, f2, f3, f4, f5⟩ := HFin.out
      exact ⟨_, out, rfl, f1, f2, f3, f4, f5⟩

theorem fits_any (x p : Nat) (w : World) (hx : x < 281474976710656) (hp : p < 65536) :
    Calls Try.prog 49 #[.int .u64 x, .int .i64 p] w fun e w' => e = .returned (.bool (decide (x ^ 3 ≤ p * 2 ^ 96))) ∧ Below w.heap.size w w' := by
  obtain ⟨x0, h0⟩ : ∃ y, y = x % 65536 := ⟨_, rfl⟩
  obtain ⟨x1, h1⟩ : ∃ y, y = x / 65536 % 65536 := ⟨_, rfl⟩
  obtain ⟨x2, h2⟩ : ∃ y, y = x / 4294967296 := ⟨_, rfl⟩
  have HV : Hid (nval [x0, x1, x2] = x) := Lib.hid (by rw [h0, h1, h2]; exact three_nval x)
  have HD : Hid (∀ d ∈ [x0, x1, x2], d < 65536) := Lib.hid (by simp; omega)
  have k0 : (x : Int) % 65536 = (x0 : Int) := by omega
  have k1 : (x : Int) / 65536 % 65536 = (x1 : Int) := by omega
  have k2 : (x : Int) / 4294967296 = (x2 : Int) := by omega
  have HR : Hid (RowI (w.alloc (.cells #[.int .u64 x0, .int .u64 x1, .int .u64 x2] 65)) w.heap.size 65 .u64 (NI [x0, x1, x2])) := Lib.hid (RowI.made w _ _ _ _ rfl)
  obtain ⟨r, HRR⟩ : ∃ r, Hid (r = decide (x ^ 3 ≤ p * 2 ^ 96)) := ⟨_, Lib.hid rfl⟩
  rw [← HRR.out]
  obtain ⟨W, HW, HWB⟩ : ∃ W, Hid (W = w.alloc (.cells #[.int .u64 x0, .int .u64 x1, .int .u64 x2] 65)) ∧ Hid (Below w.heap.size w W) := ⟨_, Lib.hid rfl, Lib.hid ((Below.refl _ _).alloc (Nat.le_refl _) _)⟩
  rw [← HW.out] at HR
  have HS : Hid (SlI W .u64 (.slice (some ⟨w.heap.size, 0, none⟩) 3 3) (NI [x0, x1, x2])) := Lib.hid (HR.out.sl rfl (Nat.le_refl _) (by simp [maxLen]))
  clear h0 h1 h2
  go_enter Try.func49, Try.ntmps49
  go_upto_region 2 with (fail)
  rw [← HW.out]
  clear k0 k1 k2
  go_wp2_with fail
  refine (times_any _ _ [x0, x1, x2] [x0, x1, x2] W HS.out HS.out HD.out HD.out (by simp) (by simp) (by simp) (by simp)).mono ?_
  rintro e w1 ⟨v1, c1, rfl, s1, l1, d1, n1, b1⟩
  have HS1 := Lib.hid s1
  have HL1 := Lib.hid l1
  have HD1 := Lib.hid d1
  have HN1 := Lib.hid n1
  have HB1 := Lib.hid (HWB.out.trans (b1.mono HWB.out.size))
  have HS' := Lib.hid (HS.out.later b1)
  clear s1 l1 d1 n1 b1
  go_wp2_with fail
  refine (times_any _ _ c1 [x0, x1, x2] w1 HS1.out HS'.out HD1.out HD.out (by rw [HL1.out]; simp) (by simp) (by rw [HL1.out]; simp) (by simp)).mono ?_
  rintro e w2 ⟨v2, c, rfl, s2, l2, d2, n2, b2⟩
  have HB2 := Lib.hid (HB1.out.trans (b2.mono HB1.out.size))
  have HL : Hid (c.length = 9) := Lib.hid (by rw [l2, HL1.out]; rfl)
  have HDC := Lib.hid d2
  have HNC : Hid (nval c = x ^ 3) := Lib.hid (by rw [n2, HN1.out, HV.out]; rw [Nat.pow_succ, Nat.pow_succ, Nat.pow_one])
  have HDM : Hid (∀ d ∈ target p, d < 65536) := Lib.hid (by simp [target, hp])
  rcases s2 with ⟨g0, _⟩ | ⟨b, off, cap, rfl, g0, g1, g2, hc⟩
  · have := HL.out; rw [← NI_length, g0] at this; simp at this
  simp only [NI_length] at g0 g1 hc ⊢
  have HC : Hid (∀ i, i < 9 → w2.cell? ⟨b, off + i, none⟩ = some (.int .u64 ((c.getD i 0 : Nat) : Int))) := Lib.hid fun i hi => by rw [← NI_getD]; exact hc i (by rw [HL.out]; exact hi)
  rw [HL.out] at g1 ⊢
  clear hc l2 d2 n2 b2 g0 g2
  go_wp2_with fail
  go_loop [7] (fun i => ∃ q : Nat, q ≤ 9 ∧ i = .int .i64 ((q : Int) - 1) ∧ Hid (c.drop q = (target p).drop q)) (fun i => (intOf i + 1).toNat)
  case atStart => exact ⟨9, by omega, rfl, Lib.hid (by rw [List.drop_eq_nil_of_le (by rw [HL.out]; exact Nat.le_refl _)]; rfl)⟩
  case round =>
    obtain ⟨q, hq, rfl, HQ⟩ := hrel
    by_cases hm : 1 ≤ q
    · obtain ⟨j, rfl⟩ : ∃ j, q = j + 1 := ⟨q - 1, by omega⟩
      have cell := HC.out j (by omega)
      have HT := Lib.hid (target_getD p j (by omega))
      have HCM := Lib.hid (cmp_at c (target p) j (by rw [HL.out]; omega) (by simp [target]; omega) HQ.out HDC.out HDM.out)
      have HST := Lib.hid (drop_eq_step c (target p) j (by rw [HL.out]; omega) (by simp [target]; omega) HQ.out)
      rw [HNC.out, target_nval, ← HRR.out] at HCM
      obtain ⟨y, hy⟩ : ∃ y, y = c.getD j 0 := ⟨_, rfl⟩
      rw [← hy] at cell HCM HST
      clear hy
      by_cases h6 : j = 6
      · subst h6
        rw [if_pos rfl] at HT
        rw [HT.out] at HCM HST
        by_cases he : y = p
        · have HS := Lib.hid (HST.out he)
          subst he
          go_wp2_with fail
          exact ⟨⟨6, by omega, rfl, HS⟩, by simp [intOf]⟩
        · have HF := Lib.hid (HCM.out he)
          have hei : ¬ (y : Int) = p := by omega
          go_wp2_with fail
          go_ret
          exact ⟨by rw [HF.out]; rfl, HB2.out⟩
      · rw [if_neg h6] at HT
        rw [HT.out] at HCM HST
        by_cases he : y = 0
        · have HS := Lib.hid (HST.out he)
          subst he
          go_wp2_with fail
          exact ⟨⟨j, by omega, rfl, HS⟩, by simp [intOf]⟩
        · have HF := Lib.hid (HCM.out he)
          have hei : ¬ (y : Int) = 0 := by omega
          have hlt : ¬ (y : Int) < 0 := by omega
          go_wp2_with fail
          go_ret
          exact ⟨by rw [HF.out]; simp, HB2.out⟩
    · obtain rfl : q = 0 := by omega
      have HF : Hid (r = true) := Lib.hid (by
        have h := HQ.out
        rw [List.drop_zero, List.drop_zero] at h
        have hn := HNC.out
        rw [h, target_nval] at hn
        rw [HRR.out, hn]; simp)
      go_wp2_with fail
      go_ret
      exact ⟨by rw [HF.out]; rfl, HB2.out⟩

theorem bits_step (p b x : Nat) : bits p (b + 1) x = if decide ((x + 2 ^ b) ^ 3 ≤ p * 2 ^ 96) = true then bits p b (x + 2 ^ b) else bits p b x := by
  rw [bits]
  by_cases h : (x + 2 ^ b) ^ 3 ≤ p * 2 ^ 96
  · rw [if_pos h, if_pos (decide_eq_true h)]
  · rw [if_neg h, if_neg (by rw [decide_eq_false h]; exact Bool.false_ne_true)]
theorem Root_any (i : Nat) (w : World) (hi : i < 64) : Calls Try.prog 21 #[.int .i64 i] w fun e w' => e = .returned (.int .u32 (root i)) ∧ Below w.heap.size w w' := by
  obtain ⟨R, HR⟩ : ∃ R, Hid (R = root i) := ⟨_, Lib.hid rfl⟩
  rw [← HR.out]
  go_enter Try.func21, Try.ntmps21
  go_wp2_with fail
  go_loop [3, 4] (fun p k => ∃ j : Nat, j ≤ i ∧ k = .int .i64 j ∧ p = .int .i64 (primes.getD j 0 : Nat)) (fun _ k => i - (intOf k).toNat)
  case atStart => exact ⟨0, by omega, rfl, rfl⟩
  case round =>
    obtain ⟨j, hj, rfl, rfl⟩ := hrel
    obtain ⟨P, hP⟩ : ∃ P, P = primes.getD j 0 := ⟨_, rfl⟩
    have hbd := primes_bd j (by omega)
    rw [← hP] at hbd ⊢
    have HP := Lib.hid hP
    clear hP
    by_cases hlt : j < i
    · obtain ⟨P2, hP2⟩ : ∃ P2, P2 = primes.getD (j + 1) 0 := ⟨_, rfl⟩
      have hbd2 := primes_bd (j + 1) (by omega)
      obtain ⟨s1, s2, s3⟩ := primes_ok j (by omega)
      rw [← HP.out] at s1 s3
      rw [← hP2] at hbd2 s1 s2 s3
      have HP2 := Lib.hid hP2
      have HS2 := Lib.hid s2
      have HS3 := Lib.hid s3
      clear hP2 s2 s3
      go_wp2_with fail
      go_loop [3] (fun p => ∃ q : Nat, P < q ∧ q ≤ P2 ∧ p = .int .i64 q) (fun p => P2 - (intOf p).toNat)
      case atStart => exact ⟨P + 1, by omega, by omega, rfl⟩
      case round =>
        obtain ⟨q, hq1, hq2, rfl⟩ := hrel
        by_cases he : q = P2
        · subst he
          have HC := Lib.hid (prime_any q w (by omega) (by omega))
          rw [HS2.out] at HC
          go_wp2_with (go_at_call 48; refine HC.out.mono ?_; rintro e w' ⟨rfl, rfl⟩)
          exact ⟨⟨j + 1, by omega, by go_num, by rw [HP2.out]⟩, by simp [intOf]; omega⟩
        · have HC := Lib.hid (prime_any q w (by omega) (by omega))
          rw [HS3.out q (by omega) hq1] at HC
          go_wp2_with (go_at_call 48; refine HC.out.mono ?_; rintro e w' ⟨rfl, rfl⟩)
          exact ⟨⟨q + 1, by omega, by omega, by go_num⟩, by simp [intOf]; omega⟩
    · obtain rfl : j = i := by omega
      have HRP : Hid (R = bits P 36 0 % 4294967296) := Lib.hid (by rw [HR.out, HP.out]; rfl)
      go_wp2_with fail
      go_loopw [5, 6] (fun x b wr => ∃ n xn B : Nat, n ≤ 36 ∧ x = .int .u64 xn ∧ b = .int .u64 B ∧ Hid (B = 2 ^ n / 2) ∧ Hid (xn + 2 ^ n ≤ 2 ^ 36) ∧ Hid (R = bits P n xn % 4294967296) ∧ Hid (Below w.heap.size w wr)) (fun _ b _ => (intOf b).toNat)
      case atStart => exact ⟨36, 0, 2 ^ 35, by omega, rfl, rfl, Lib.hid (by decide), Lib.hid (by omega), HRP, Lib.hid (Below.refl _ _)⟩
      case round =>
        obtain ⟨n, xn, B, hn, rfl, rfl, HB, HX, HRR, HBW⟩ := hrel
        cases n with
        | zero =>
          obtain rfl : B = 0 := by have := HB.out; simpa using this
          have HE : Hid (R = xn % 4294967296) := HRR
          have hx : xn ≤ 2 ^ 36 := by have := HX.out; omega
          go_wp2_with fail
          go_ret
          exact ⟨by rw [HE.out]; simp, HBW.out⟩
        | succ n =>
          have hB : B = 2 ^ n := by rw [HB.out, Nat.pow_succ]; omega
          have hx2 : xn + 2 * B ≤ 68719476736 := by have := HX.out; rw [Nat.pow_succ, ← hB] at this; omega
          have hpos : 0 < B := by rw [hB]; exact Nat.two_pow_pos n
          have HC := Lib.hid (fits_any (xn + B) P wr (by omega) (by omega))
          have HST := Lib.hid (bits_step P n xn)
          rw [← hB] at HST
          have HBB : Hid (B / 2 = 2 ^ n / 2) := Lib.hid (by rw [hB])
          have HXX : Hid (xn + B + 2 ^ n ≤ 2 ^ 36 ∧ xn + 2 ^ n ≤ 2 ^ 36) := Lib.hid (by rw [← hB]; omega)
          have HW2 : (((xn + B : Nat)) : Int) = (xn : Int) + B := by omega
          rw [HW2] at HC
          clear hB HW2
          cases hd : decide ((xn + B) ^ 3 ≤ P * 2 ^ 96) with
          | true =>
            rw [hd] at HC
            rw [hd, if_pos rfl] at HST
            clear hd
            go_wp2_with (go_at_call 49; refine HC.out.mono ?_; rintro e w2 ⟨rfl, hb2⟩)
            exact ⟨⟨n, xn + B, B / 2, by omega, by go_num, by go_num, HBB, Lib.hid HXX.out.1, Lib.hid (by rw [HRR.out, HST.out]), Lib.hid (HBW.out.trans (hb2.mono HBW.out.size))⟩, by simp [intOf]; omega⟩
          | false =>
            rw [hd] at HC
            rw [hd, if_neg Bool.false_ne_true] at HST
            clear hd
            go_wp2_with (go_at_call 49; refine HC.out.mono ?_; rintro e w2 ⟨rfl, hb2⟩)
            exact ⟨⟨n, xn, B / 2, by omega, rfl, by go_num, HBB, Lib.hid HXX.out.2, Lib.hid (by rw [HRR.out, HST.out]), Lib.hid (HBW.out.trans (hb2.mono HBW.out.size))⟩, by simp [intOf]; omega⟩
theorem root_K : ∀ i < 64, root i = (K.getD i 0).toNat := by decide +kernel
end Go.Proofs.Ytabgnahjejhnkaa

/- A scope out of which the run jumps forward to one label, for good: the code behind the label follows at each jump. No condition. -/
import Derived.Test.YtcnelahmbfggcaaG5
import Derived.Test.YtcnelahmbfggcaaFresh
import Derived.ScopeJumps
import Derived.WalkMore
import Derived.Test.YtcnelahmbfggcaaG3
import Derived.Test.YtcnelahmbfggcaaG6
import Derived.Laws.Cover3
import Derived.Test.YtcnelahmbfggcaaConv
import Derived.Test.YtcnelahmbfggcaaG4
namespace Go.Proofs.Ytcnelahmbfggcaa
open Go Go.RowKit
set_option maxRecDepth 100000

theorem wp_scope_fwd {P : Program} {a : Act} {w : World} {Q : Exit → Act → World → Prop} {c rest : Code} (l : Nat) (hf : findLabel c l = some rest)
    (first : c.wp P (Exit.jump l (fun a w => rest.wp P (Exit.noGoto Q) a w) Q) a w) : (Code.scope c).wp P Q a w := by
  refine wp_scope_jumps l (fun a w => rest.wp P (Exit.noGoto Q) a w) (fun _ _ => 0) hf first (fun a w hJ => ?_)
  intro b k cs
  obtain ⟨e, a1, w1, hq, harr⟩ := hJ b k cs
  refine ⟨e, a1, w1, ?_, harr⟩
  cases e with
  | goto l' => exact hq.elim
  | normal => exact hq
  | exit id => exact hq
  | ret => exact hq
  | panic ch => exact hq
  | outgrown => exact hq
theorem jump_ret {l : Nat} {J : Act → World → Prop} {Q : Exit → Act → World → Prop} {a : Act} {w : World} : Exit.jump l J Q .ret a w = Q .ret a w := rfl
theorem jump_goto {l : Nat} {J : Act → World → Prop} {Q : Exit → Act → World → Prop} {a : Act} {w : World} (h : J a w) : Exit.jump l J Q (.goto l) a w := ⟨rfl, h⟩

/-- a part of a slice -/
theorem Sl.cells {w : World} {a : Option Addr} {len cap : Nat} {l : List UInt8} (h : Sl w (.slice a len cap) l) (h0 : 0 < l.length) :
    ∃ b off, a = some ⟨b, off, none⟩ ∧ len = l.length ∧ l.length ≤ cap ∧ cap ≤ maxLen ∧ ∀ i, i < l.length → w.cell? ⟨b, off + i, none⟩ = some (.int .u8 (bn (l.getD i 0))) := by
  rcases h with ⟨rfl, _⟩ | ⟨b, off, c, hv, _, h1, h2, hc⟩
  · simp at h0
  · cases hv
    exact ⟨b, off, rfl, rfl, h1, h2, fun i hi => by rw [hc i hi]; simp [hi]⟩
theorem Sl.part {w : World} {b off : Nat} {l : List UInt8} (hc : ∀ i, i < l.length → w.cell? ⟨b, off + i, none⟩ = some (.int .u8 (bn (l.getD i 0)))) (i n cap' : Nat) (hi : i + n ≤ l.length) (h1 : n ≤ cap') (h2 : cap' ≤ maxLen) :
    Sl w (.slice (some ⟨b, off + i, none⟩) n cap') ((l.drop i).take n) := by
  have hl : ((l.drop i).take n).length = n := by rw [List.length_take, List.length_drop]; omega
  by_cases h0 : 0 < n
  · refine .inr ⟨b, off + i, cap', by rw [hl], by omega, by omega, h2, fun j hj => ?_⟩
    rw [hl] at hj
    rw [Nat.add_assoc, hc (i + j) (by omega)]
    simp [List.getElem_take, List.getElem_drop, show i + j < l.length by omega]
  · obtain rfl : n = 0 := by omega
    exact .inl ⟨by simp, _, _, rfl⟩
theorem range_part {w : World} {b off : Nat} {l : List UInt8} (hc : ∀ i, i < l.length → w.cell? ⟨b, off + i, none⟩ = some (.int .u8 (bn (l.getD i 0)))) (i n : Nat) (hi : i + n ≤ l.length) :
    w.rangeAt b (off + i) (B8 ((l.drop i).take n)) := by
  intro j v hj
  have hl : ((l.drop i).take n).length = n := by rw [List.length_take, List.length_drop]; omega
  have hj' : j < n := by have := (List.getElem?_eq_some_iff.1 hj).1; rw [B8_length, hl] at this; exact this
  rw [Nat.add_assoc, hc (i + j) (by omega), ← hj, B8_getElem?]
  simp [List.getElem?_drop, hj', show i + j < l.length by omega]

/-- the key's width is stored -/
theorem KeyV_set (I S : List UInt8) (q : Nat) (d d' : Int) (hI : I.length = 16) (hS : S.length = 32) : (KeyV I S q d).toArray.setIfInBounds 49 (.int .i64 d') = (KeyV I S q d').toArray := by
  rw [List.setIfInBounds_toArray]
  congr 1
  rw [KeyV, KeyV, List.set_append_right _ _ (by rw [B8_length]; omega), B8_length, hI, show 49 - 16 = 32 + 1 by omega, List.set_cons_succ, List.set_append_right _ _ (by rw [B8_length]; omega), B8_length, hS]
  rfl
theorem key_setW {t : TypeId} {w : World} {b : Nat} {I S : List UInt8} {q : Nat} {d : Int} (h : w.heap[b]? = some (.cells (KeyV I S q d).toArray t (0, 0))) (hI : I.length = 16) (hS : S.length = 32) (d' : Int) :
    (w.setCell ⟨b, 49, none⟩ (.int .i64 d')).heap[b]? = some (.cells (KeyV I S q d').toArray t (0, 0)) := by
  rw [heap_setCell_same w b 49 _ _ _ h, KeyV_set _ _ _ _ _ hI hS]
end Go.Proofs.Ytcnelahmbfggcaa

/- The walk of ots.width: a range over the map of types. -/
namespace Go.Proofs.Ytcnelahmbfggcaa
open Go Go.RowKit Go.Maps
set_option maxRecDepth 100000
set_option maxHeartbeats 1000000

def widthN (t : Int) : Int := if t = 1 then 1 else if t = 2 then 2 else if t = 3 then 4 else if t = 4 then 8 else 0
def isT (t : Int) : Bool := decide (1 ≤ t ∧ t ≤ 4)
theorem width_of (x : Int) (hx : isW x = true) : widthN (typeN x) = x ∧ isT (typeN x) = true := by
  rcases (isW_iff x).1 hx with rfl | rfl | rfl | rfl <;> decide
theorem width_none (t : Int) (h : ∀ z, isW z = true → typeN z ≠ t) : widthN t = 0 ∧ isT t = false := by
  have h1 := h 1 (by decide)
  have h2 := h 2 (by decide)
  have h4 := h 4 (by decide)
  have h8 := h 8 (by decide)
  have e1 : t ≠ 1 := fun e => h1 (by rw [e]; rfl)
  have e2 : t ≠ 2 := fun e => h2 (by rw [e]; rfl)
  have e3 : t ≠ 3 := fun e => h4 (by rw [e]; rfl)
  have e4 : t ≠ 4 := fun e => h8 (by rw [e]; rfl)
  refine ⟨by simp [widthN, e1, e2, e3, e4], ?_⟩
  rw [isT, decide_eq_false_iff_not]
  omega
theorem types_at (x c : Int) (h : ∀ zd, typesD.atKey (.int .i64 x) zd = .lit (.int .u32 c)) : isW x = true ∧ c = typeN x := by
  have hc : c = typeN x := by
    have := h (.lit (.int .u32 0))
    rw [typesD_at] at this
    simpa using this.symm
  refine ⟨?_, hc⟩
  by_cases hx : isW x = true
  · exact hx
  · exfalso
    have hz : ∀ zd, typesD.atKey (.int .i64 x) zd = zd := fun zd => by
      have h' := mt (isW_iff x).2 hx
      have e : ∀ a : Int, x ≠ a → decide (a = x) = false := fun a h => by simpa using Ne.symm h
      rw [typesD_eq]
      simp only [DataW.atKey, List.find?_cons, List.find?_nil, same_int, e 1 (by omega), e 2 (by omega), e 4 (by omega), e 8 (by omega)]
    have h1 := h (.lit (.int .u32 (c + 1)))
    rw [hz] at h1
    simp at h1
    omega

theorem width_any (t : Int) (w : World) : Calls Try.prog 48 #[.int .u32 t] w fun e w' => e = .returned (.tuple #[.int .i64 (widthN t), .bool (isT t)]) ∧ Below w.heap.size w w' := by
  go_enter Try.func48, Try.ntmps48
  go_upto_region 2 with (first
    | (go_at_call 46; refine (types_any w).mono ?_; rintro e w1 ⟨rfl, o1, b1⟩; have HO := Lib.hid o1; have HB := Lib.hid b1; clear o1 b1)
    | (refine wpList_range_own _ rfl _ 89 rfl 3 61 lawK Try.underlying89 _ w.heap.size 4 _ rfl HO.out ?_; intro w2 hrg0 hg0 hs0; have HR2 := Lib.hid hrg0; have HG2 := Lib.hid hg0; clear hrg0 hg0 hs0))
  have HB2 : Hid (Below w.heap.size w w2) := Lib.hid (HB.out.trans ⟨HG2.out.os, HG2.out.tape, HG2.out.output, HG2.out.size, fun k hk => HG2.out.block k (Nat.lt_of_lt_of_le hk HB.out.size) (by simp)⟩)
  have HW1 : Hid (w.heap.size ≤ w1.heap.size) := Lib.hid HB.out.size
  go_frame
  go_loopw [4] (fun _ wr => ∃ left cnt, Hid (wr.ranges Try.prog 3 (plainElem (H := Unit) Try.prog 61) w.heap.size w1.heap.size 4 typesD left cnt) ∧ Hid (Below w.heap.size w wr) ∧ Hid (∀ z, isW z = true → typeN z = t → left (.int .i64 z) = true)) (fun _ wr => wr.rangeLeft w.heap.size w1.heap.size)
  case atStart => exact ⟨_, _, HR2, HB2, Lib.hid (fun z hz _ => by rw [typesD_has]; exact hz)⟩
  case round =>
    obtain ⟨left, cnt, HR, HBr, HL⟩ := hrel
    go_wp2_with (at_next; refine wpList_next_ranges_ii _ rfl _ rfl 3 61 .i64 .u32 lawK Try.underlying3 Try.underlying61 w.heap.size w1.heap.size 4 _ _ _ rfl HR.out ?_ ?_)
    · intro _ hl0
      have HE := Lib.hid (width_none t (fun z hz ht => by have := HL.out z hz ht; rw [hl0] at this; cases this))
      go_wp2_with fail
      go_ret2
      exact ⟨by rw [HE.out.1, HE.out.2]; rfl, HBr.out⟩
    · intro x c w3 cnt1 hwx hwc hlx hat hrg1 hlt1 hg1 hs1 hen
      have HX := Lib.hid (types_at x c hat)
      have HBx : Hid (Below w.heap.size w w3) := Lib.hid (HBr.out.trans ⟨hg1.os, hg1.tape, hg1.output, hg1.size, fun k hk => hg1.block k (Nat.lt_of_lt_of_le hk HBr.out.size) (by have := HW1.out; simp; omega)⟩)
      have HR1 := Lib.hid hrg1
      have HLT := Lib.hid hlt1
      clear hat hrg1 hlt1 hg1 hs1 hwx hwc hlx
      by_cases hct : c = t
      · have HE := Lib.hid (width_of x HX.out.1)
        go_wp2_with fail
        go_ret2
        exact ⟨by rw [← hct, HX.out.2, HE.out.1, HE.out.2]; rfl, HBx.out⟩
      · go_wp2_with fail
        go_roundw
        case rel => exact ⟨_, _, HR1, HBx, Lib.hid (fun z hz ht => by
          rw [HL.out z hz ht, same_int]
          have : z ≠ x := fun e => hct (by rw [HX.out.2, ← e, ht])
          simp [this])⟩
        case measure => rw [HR1.out.left_eq, HR.out.left_eq]; exact HLT.out
end Go.Proofs.Ytcnelahmbfggcaa

/- The candidate that a signature tells, in plain Lean; and the walk of ots.number. -/
namespace Go.Proofs.Ytcnelahmbfggcaa
open Go Go.RowKit
set_option maxRecDepth 100000
set_option maxHeartbeats 1000000

def pieceN (s : List UInt8) (n : Nat) : List UInt8 := (s.drop (36 + 32 * n)).take 32
theorem pieceN_length (s : List UInt8) (n N : Nat) (hs : s.length = 36 + 32 * N) (hn : n < N) : (pieceN s n).length = 32 := by
  rw [pieceN, List.length_take, List.length_drop, hs]; omega
/-- the ends of the chains of a signature's pieces -/
def candL (I : List UInt8) (q L : Nat) (ds : List Nat) (s : List UInt8) : Nat → List (List UInt8)
  | 0 => []
  | n + 1 => candL I q L ds s n ++ [chainN I q n (pieceN s n) (ds.getD n 0) (L - ds.getD n 0)]
def candE (I : List UInt8) (q L : Nat) (ds : List Nat) (s : List UInt8) : Nat → List UInt8
  | 0 => []
  | n + 1 => candE I q L ds s n ++ chainN I q n (pieceN s n) (ds.getD n 0) (L - ds.getD n 0)
theorem candL_flat (I : List UInt8) (q L : Nat) (ds : List Nat) (s : List UInt8) (n : Nat) : (candL I q L ds s n).flatten = candE I q L ds s n := by
  induction n with
  | zero => rfl
  | succ n ih => rw [candL, List.flatten_append, ih, candE]; simp
theorem candL_length (I : List UInt8) (q L : Nat) (ds : List Nat) (s : List UInt8) (n : Nat) : (candL I q L ds s n).length = n := by
  induction n with
  | zero => rfl
  | succ n ih => rw [candL, List.length_append, ih]; rfl
theorem candE_length (I : List UInt8) (q L : Nat) (ds : List Nat) (s : List UInt8) (N n : Nat) (hs : s.length = 36 + 32 * N) (hn : n ≤ N) : (candE I q L ds s n).length = 32 * n := by
  induction n with
  | zero => rfl
  | succ n ih => rw [candE, List.length_append, ih (by omega), chainN_length _ _ _ _ _ _ (pieceN_length s n N hs (by omega))]; omega
/-- the type that a signature tells -/
def typeS (s : List UInt8) : Int := (wn (wordAt s 0) : Nat)
def numK (k : Nat) : Nat := 256 / k + chkN k
def candH (I : List UInt8) (q k : Nat) (text s : List UInt8) : List UInt8 :=
  hashN I q 32896 [candE I q (2 ^ k - 1) (allN (signedN I q ((s.drop 4).take 32) text) k) s (numK k)]
def candOk (s : List UInt8) : Bool := isT (typeS s) && decide (s.length = 36 + 32 * numK (widthN (typeS s)).toNat)
def candV (I : List UInt8) (q : Nat) (text s : List UInt8) : List UInt8 := if 4 ≤ s.length ∧ candOk s = true then candH I q (widthN (typeS s)).toNat text s else zero32
def candErr (s : List UInt8) : Int := if s.length < 4 then 2 else if candOk s then 0 else 3
theorem isT_iff (t : Int) : isT t = true ↔ t = 1 ∨ t = 2 ∨ t = 3 ∨ t = 4 := by
  rw [isT, decide_eq_true_iff]; omega
theorem isT_width (t : Int) (h : isT t = true) : ∃ k : Nat, widthN t = k ∧ (k = 1 ∨ k = 2 ∨ k = 4 ∨ k = 8) ∧ isW k = true := by
  rcases (isT_iff t).1 h with rfl | rfl | rfl | rfl
  · exact ⟨1, rfl, by omega, rfl⟩
  · exact ⟨2, rfl, by omega, rfl⟩
  · exact ⟨4, rfl, by omega, rfl⟩
  · exact ⟨8, rfl, by omega, rfl⟩
theorem isT_not (t : Int) (h : isT t = false) : widthN t = 0 := by
  rw [isT, decide_eq_false_iff_not] at h
  rw [widthN, if_neg (by omega), if_neg (by omega), if_neg (by omega), if_neg (by omega)]

theorem onumber_any (v : Value) (l : List UInt8) (w : World) (hv : Sl w v l) (hl : 4 ≤ l.length) (hm : l.length ≤ 1000000) :
    Calls Try.prog 49 #[v] w fun e w' => e = .returned (.int .u32 (typeS l)) ∧ Below w.heap.size w w' := by
  obtain ⟨a, cap, rfl⟩ := hv.shape
  obtain ⟨b, off, rfl, -, -, -, hc⟩ := Sl.cells hv (by omega)
  have h0 := hc 0 (by omega)
  have h1 := hc 1 (by omega)
  have h2 := hc 2 (by omega)
  have h3 := hc 3 (by omega)
  have g0 : (0 : Int) < l.length := by omega
  have g1 : (1 : Int) < l.length := by omega
  have g2 : (2 : Int) < l.length := by omega
  have g3 : (3 : Int) < l.length := by omega
  unfold typeS wordAt
  clear hc hv
  generalize l.length = len at *
  rw [Nat.add_zero] at h0
  simp only [Nat.zero_add]
  generalize l.getD 0 0 = x0 at *
  generalize l.getD 1 0 = x1 at *
  generalize l.getD 2 0 = x2 at *
  generalize l.getD 3 0 = x3 at *
  go_enter Try.func49, Try.ntmps49
  go_wp2_with fail
  go_quiet (fail)
  go_wp2
  go_ret
  exact ⟨ret_int (i_word x0 x1 x2 x3), ⟨rfl, rfl, rfl, Nat.le_refl _, fun _ _ => rfl⟩⟩
end Go.Proofs.Ytcnelahmbfggcaa

/- The walk of ots.Candidate. -/
namespace Go.Proofs.Ytcnelahmbfggcaa
open Go Go.RowKit
set_option maxRecDepth 100000
set_option maxHeartbeats 2000000

theorem key_two (I : List UInt8) (q : Nat) (hI : I.length = 16) :
    Try.prog.built 63 [(0, .agg (B8 I).toArray), (1, .int .u32 q)] = some (KeyV I zero32 q 0).toArray := by
  rw [built_key, KeyV_I _ _ _ _ _ hI rfl, KeyV_q _ _ _ _ _ hI]
  rfl
theorem Candidate_any (I : List UInt8) (q : Nat) (tv sv : Value) (text s : List UInt8) (w : World) (hI : I.length = 16) (hq : q < 4294967296) (ht : Sl w tv text) (hs : Sl w sv s) (htl : text.length ≤ 1000000) (hsl : s.length ≤ 1000000) :
    Calls Try.prog 33 #[.agg (B8 I).toArray, .int .u32 q, tv, sv] w fun e w' => e = .returned (.tuple #[.agg (B8 (candV I q text s)).toArray, .int .i64 (candErr s)]) ∧ Below w.heap.size w w' := by
  obtain ⟨W0, HW0, HB0, HS0, HN0⟩ : ∃ V, Hid (V = w.alloc (.cells (B8 I).toArray 22)) ∧ Hid (Below w.heap.size w V) ∧ Hid (V.heap.size = w.heap.size + 1) ∧ Hid (V.heap[w.heap.size]? = some (.cells (B8 I).toArray 22 (0, 0))) := ⟨_, Lib.hid rfl, Lib.hid ((Below.refl _ _).alloc (Nat.le_refl _) _), Lib.hid (by simp), Lib.hid (heap_alloc_new _ _)⟩
  obtain ⟨W1, HW1, HB1, HS1, HN1, HZ1⟩ : ∃ V, Hid (V = W0.alloc (.cells (Array.replicate 32 (.int .u8 0)) 23)) ∧ Hid (Below w.heap.size w V) ∧ Hid (V.heap.size = w.heap.size + 2) ∧ Hid (V.heap[w.heap.size]? = some (.cells (B8 I).toArray 22 (0, 0))) ∧ Hid (V.heap[w.heap.size + 1]? = some (.cells (Array.replicate 32 (.int .u8 0)) 23 (0, 0))) :=
    ⟨_, Lib.hid rfl, Lib.hid (HB0.out.alloc HB0.out.size _), Lib.hid (by simp [HS0.out]), Lib.hid ((heap_alloc_old _ _ (by rw [HS0.out]; omega)).trans HN0.out), Lib.hid (by rw [← HS0.out]; exact heap_alloc_new _ _)⟩
  obtain ⟨V, HV, HVB, HVS, HVK, HVZ⟩ : ∃ V, Hid (V = W1.alloc (.cells (KeyV I zero32 q 0).toArray 63)) ∧ Hid (Below w.heap.size w V) ∧ Hid (V.heap.size = w.heap.size + 3) ∧ Hid (V.heap[w.heap.size + 2]? = some (.cells (KeyV I zero32 q 0).toArray 63 (0, 0))) ∧ Hid (V.heap[w.heap.size + 1]? = some (.cells (Array.replicate 32 (.int .u8 0)) 23 (0, 0))) :=
    ⟨_, Lib.hid rfl, Lib.hid (HB1.out.alloc HB1.out.size _), Lib.hid (by simp [HS1.out]), Lib.hid (by rw [← HS1.out]; exact heap_alloc_new _ _), Lib.hid ((heap_alloc_old _ _ (by rw [HS1.out]; omega)).trans HZ1.out)⟩
  have I16 : Hid ((Try.prog.info? 22).map (·.size) = some (B8 I).toArray.size) := Lib.hid (by rw [info_16]; simp [B8_length, hI])
  have IK : ∀ d, Hid ((Try.prog.info? 63).map (·.size) = some (KeyV I zero32 q d).toArray.size) := fun d => Lib.hid (by rw [info_key, List.size_toArray, KeyV_length _ _ _ _ hI rfl])
  have IK0 := IK 0
  have HBK := Lib.hid (key_two I q hI)
  obtain ⟨Z, HZ⟩ : ∃ Z, Hid (Z = (B8 zero32).toArray) := ⟨_, Lib.hid rfl⟩
  have HZI : Hid ((Try.prog.info? 23).map (·.size) = some Z.size) := Lib.hid (by rw [HZ.out, info_32]; rfl)
  have HZE : Hid (Array.replicate 32 (Value.int .u8 0) = Z) := Lib.hid (by rw [HZ.out]; rfl)
  have HZO : Hid (Z.all (·.oneCell') = true) := Lib.hid (by rw [HZ.out]; exact B8_oneA _)
  have HVZ' : Hid (V.heap[w.heap.size + 1]? = some (.cells Z 23 (0, 0))) := Lib.hid (by rw [← HZE.out]; exact HVZ.out)
  have HZS : Hid (Z.size = 32) := Lib.hid (by rw [HZ.out]; rfl)
  have HTX := Lib.hid ht
  have HSX := Lib.hid hs
  have HKZ : Hid ((KeyV I zero32 q 0).toArray.size = 50) := Lib.hid (by rw [List.size_toArray, KeyV_length _ _ _ _ hI rfl])
  obtain ⟨ta, tc, rfl⟩ := ht.shape
  obtain ⟨sa, sc, rfl⟩ := hs.shape
  by_cases h4 : s.length < 4
  · rw [candV, if_neg (by omega), candErr, if_pos h4, ← HZ.out]
    have h4' : (s.length : Int) < 4 := by omega
    clear ht hs htl
    go_enter Try.func33, Try.ntmps33
    go_wp2_with fail
    rw [← HW0.out]
    change Code.wp _ _ _ _ (W0.alloc (.cells (Array.replicate 32 (.int .u8 0)) 23))
    rw [← HW1.out]
    apply wp_scope_fwd 0
    · rfl
    go_upto_region 2 with (first
      | (refine wpList_load_row rfl 22 _ rfl _ rfl _ (B8 I).toArray (0, 0) _ HN1.out Try.underlying22 rfl I16.out ?_)
      | (with_reducible refine at_build 63 _ rfl ?_; refine wpList_built rfl 63 [(0, .tmp 19), (1, .tmp 20)] rfl [(0, .agg (B8 I).toArray), (1, .int .u32 q)] rfl _ HBK.out ?_)
      | (refine wpList_store_new rfl 63 _ _ rfl (KeyV I zero32 q 0).toArray rfl rfl 63 _ IK0.out (by rw [HKZ.out]; decide) (KeyV_one _ _ _ _) ?_))
    rw [← HV.out]
    go_wp2_with fail
    apply wp_goto
    refine ⟨rfl, ?_⟩
    rw [HZE.out] at HVZ
    go_wp2_with (first
      | (with_reducible refine at_load 23 _ rfl ?_; refine wpList_load_row rfl 23 _ rfl _ rfl _ Z (0, 0) _ HVZ.out Try.underlying23 rfl HZI.out ?_)
      | (with_reducible refine at_store 23 _ _ rfl ?_; refine wpList_store_same rfl 23 _ _ rfl _ Z rfl rfl 23 HVZ.out HZI.out HZO.out ?_))
    rw [Exit.noGoto_ret]
    exact bodyPost_ret (results_cell_row_tmp rfl _ _ (w.heap.size + 1) 23 _ (0, 0) _ rfl HVZ.out Try.underlying23 rfl HZI.out) rfl ⟨rfl, HVB.out⟩
  · have h4' : ¬ (s.length : Int) < 4 := by omega
    obtain ⟨sb, so, rfl, -, q1, q2, hcs⟩ := Sl.cells hs (by omega)
    have HCS := Lib.hid hcs
    clear hcs
    have HNU := Lib.hid (onumber_any _ s V (hs.later HVB.out) (by omega) hsl)
    have HWD := Lib.hid (fun w' => width_any (typeS s) w')
    have HLO := Lib.hid (fun d w' h => Long_any' d w' h)
    have HIT := Lib.hid (isT_width (typeS s))
    have HIF := Lib.hid (isT_not (typeS s))
    have HSL := Lib.hid hsl
    have HTL := Lib.hid htl
    have HHI := Lib.hid hI
    obtain ⟨d, HD⟩ : ∃ d, Hid (d = widthN (typeS s)) := ⟨_, Lib.hid rfl⟩
    obtain ⟨b, HBo⟩ : ∃ b, Hid (b = isT (typeS s)) := ⟨_, Lib.hid rfl⟩
    rw [← HD.out, ← HBo.out] at HWD
    rw [HZE.out] at HVZ
    clear ht hs htl hsl hI
    go_enter Try.func33, Try.ntmps33
    go_wp2_with fail
    rw [← HW0.out]
    change Code.wp _ _ _ _ (W0.alloc (.cells (Array.replicate 32 (.int .u8 0)) 23))
    rw [← HW1.out]
    apply wp_scope_fwd 0
    · rfl
    go_upto_region 2 with (first
      | (refine wpList_load_row rfl 22 _ rfl _ rfl _ (B8 I).toArray (0, 0) _ HN1.out Try.underlying22 rfl I16.out ?_)
      | (with_reducible refine at_build 63 _ rfl ?_; refine wpList_built rfl 63 [(0, .tmp 19), (1, .tmp 20)] rfl [(0, .agg (B8 I).toArray), (1, .int .u32 q)] rfl _ HBK.out ?_)
      | (refine wpList_store_new rfl 63 _ _ rfl (KeyV I zero32 q 0).toArray rfl rfl 63 _ IK0.out (by rw [HKZ.out]; decide) (KeyV_one _ _ _ _) ?_))
    rw [← HV.out, HS1.out]
    go_upto_region 9 with (first
      | (go_at_call 49; refine HNU.out.mono ?_; rintro e w1 ⟨rfl, b1⟩; have HB1' := Lib.hid b1; clear b1)
      | (go_at_call 48; refine (HWD.out w1).mono ?_; rintro e w2 ⟨rfl, b2⟩; have HB2 := Lib.hid (HB1'.out.trans (b2.mono HB1'.out.size)); have HK2 := Lib.hid ((HB2.out.block _ (by rw [HVS.out]; omega)).trans HVK.out); have hkc := key_W HK2.out HHI.out rfl; have hkf := frozen_of_row w2 (w.heap.size + 2) 49 _ _ HK2.out; clear b2))
    obtain ⟨V3, HV3, HB3, HK3, HZ3⟩ : ∃ W, Hid (W = w2.setCell ⟨w.heap.size + 2, 49, none⟩ (.int .i64 d)) ∧ Hid (Below w.heap.size w W) ∧ Hid (W.heap[w.heap.size + 2]? = some (.cells (KeyV I zero32 q d).toArray 63 (0, 0))) ∧ Hid (W.heap[w.heap.size + 1]? = some (.cells Z 23 (0, 0))) :=
      ⟨_, Lib.hid rfl, Lib.hid ((HVB.out.trans (HB2.out.mono HVB.out.size)).setCell (by simp) _), Lib.hid (key_setW HK2.out HHI.out rfl d), Lib.hid ((heap_setCell_other _ _ _ _ (by simp)).trans ((HB2.out.block _ (by rw [HVS.out]; omega)).trans HVZ.out))⟩
    rw [← HV3.out]
    have hkw := key_W HK3.out HHI.out rfl
    clear hkc hkf HV3
    cases b
    · have HE : Hid (candV I q text s = zero32 ∧ candErr s = 3) := Lib.hid (by
        have e : candOk s = false := by rw [candOk, ← HBo.out]; rfl
        exact ⟨by rw [candV, e, if_neg (by simp)], by rw [candErr, if_neg h4, e]; rfl⟩)
      go_wp2_with fail
      apply wp_goto
      refine ⟨rfl, ?_⟩
      go_wp2_with (first
        | (with_reducible refine at_load 23 _ rfl ?_; refine wpList_load_row rfl 23 _ rfl _ rfl _ Z (0, 0) _ HZ3.out Try.underlying23 rfl HZI.out ?_)
        | (with_reducible refine at_store 23 _ _ rfl ?_; refine wpList_store_same rfl 23 _ _ rfl _ Z rfl rfl 23 HZ3.out HZI.out HZO.out ?_))
      rw [Exit.noGoto_ret]
      exact bodyPost_ret (results_cell_row_tmp rfl _ _ (w.heap.size + 1) 23 _ (0, 0) _ rfl HZ3.out Try.underlying23 rfl HZI.out) rfl ⟨by rw [HE.out.1, HE.out.2, ← HZ.out]; rfl, HB3.out⟩
    · obtain ⟨k, hk1, hk, hkW⟩ := HIT.out HBo.out.symm
      rw [← HD.out] at hk1
      subst hk1
      obtain ⟨em, hmb⟩ := manyW_w k hk
      obtain ⟨N, HN⟩ : ∃ N, Hid (N = 256 / k + chkN k) := ⟨_, Lib.hid rfl⟩
      rw [← HN.out] at em hmb
      have HL4 := Lib.hid (HLO.out k V3 (by omega))
      rw [if_pos hkW, em, show errW k = 0 by simp [errW, hkW]] at HL4
      have HWK : Hid ((widthN (typeS s)).toNat = k) := Lib.hid (by rw [← HD.out, Int.toNat_natCast])
      by_cases hl : s.length = 36 + 32 * N
      · have hl' : (s.length : Int) = 36 + 32 * (N : Int) := by omega
        obtain ⟨G, HG⟩ : ∃ G, Hid (G = (s.drop 4).take 32) := ⟨_, Lib.hid rfl⟩
        have HGL : Hid (G.length = 32) := Lib.hid (by rw [HG.out, List.length_take, List.length_drop]; omega)
        obtain ⟨M, HM⟩ : ∃ M, Hid (M = signedN I q G text) := ⟨_, Lib.hid rfl⟩
        have HML : Hid (M.length = 32) := Lib.hid (by rw [HM.out]; exact hashN_length _ _ _ _)
        obtain ⟨ds, HDS⟩ : ∃ ds, Hid (ds = allN M k) := ⟨_, Lib.hid rfl⟩
        have HDL : Hid (ds.length = N) := Lib.hid (by rw [HDS.out, HN.out]; exact allN_length _ _)
        have hN0 : 0 < N := by rw [HN.out]; rcases hk with rfl | rfl | rfl | rfl <;> decide
        have hLb : 2 ^ k - 1 ≤ 255 := by rcases hk with rfl | rfl | rfl | rfl <;> decide
        have HDB : Hid (∀ i, i < N → ds.getD i 0 ≤ 2 ^ k - 1) := Lib.hid (fun i hi => by rw [HDS.out]; exact allN_lt M k i (by rw [← HN.out]; exact hi))
        have HAV : Hid (allV M k = NI ds) := Lib.hid (by rw [allV, if_pos hkW, Int.toNat_natCast, HDS.out])
        have HISW := Lib.hid hkW
        have e3 : errW k = 0 := by simp [errW, hkW]
        obtain ⟨R, HR⟩ : ∃ R, Hid (R = candH I q k text s) := ⟨_, Lib.hid rfl⟩
        have HRL : Hid (R.length = 32) := Lib.hid (by rw [HR.out]; exact hashN_length _ _ _ _)
        have J32 : Hid ((Try.prog.info? 23).map (·.size) = some (B8 R).toArray.size) := Lib.hid (by rw [info_32]; simp [B8_length, HRL.out])
        have HE : Hid (candV I q text s = R ∧ candErr s = 0) := Lib.hid (by
          have e : candOk s = true := by rw [candOk, ← HBo.out, HWK.out, numK, ← HN.out, decide_eq_true hl]; rfl
          exact ⟨by rw [candV, e, if_pos ⟨by omega, rfl⟩, HWK.out, HR.out], by rw [candErr, if_neg h4, e]; rfl⟩)
        have HH2 : Hid (∀ mv w', Rows w' mv [G, text] → Calls Try.prog 38 #[.agg (KeyV I zero32 q k).toArray, .int .i64 33153, mv] w' fun e w'' => e = .returned (.agg (B8 M).toArray) ∧ Below w'.heap.size w' w'') := Lib.hid (fun mv w' h => by
          rw [HM.out]; exact hash_any I zero32 q k 33153 mv [G, text] w' HHI.out rfl hq (by decide) h (by have := HTL.out; simp [HGL.out]; omega))
        have HAL := Lib.hid (fun w' => All_own M k w' HML.out (by omega))
        rw [HAV.out, e3] at HAL
        have HLA := Lib.hid (fun w' => last_any I zero32 q k w' HHI.out rfl hk)
        have HPL := Lib.hid (fun n h => pieceN_length s n N hl h)
        have HPR : Hid (∀ n, n < N → ∀ w' : World, (∀ i, i < s.length → w'.cell? ⟨sb, so + i, none⟩ = some (.int .u8 (bn (s.getD i 0)))) → w'.rangeAt sb (so + (36 + 32 * n)) (B8 (pieceN s n))) := Lib.hid (fun n h w' hc => range_part hc _ _ (by omega))
        have HR2 : Hid (R = hashN I q 32896 [candE I q (2 ^ k - 1) ds s N]) := Lib.hid (by rw [HR.out, candH, ← HG.out, ← HM.out, ← HDS.out, numK, ← HN.out])
        generalize hL : 2 ^ k - 1 = L at *
        have HCH := Lib.hid (fun (j a : Nat) (x : List UInt8) w' (h : j < 65536) (ha : a ≤ L) (hx : x.length = 32) => chain_any I zero32 q k j a L x w' HHI.out rfl hq h ha hLb hx)
        have HEL := Lib.hid (fun n h => candE_length I q L ds s N n hl h)
        have HHA : Hid (∀ mv w', Rows w' mv [candE I q L ds s N] → Calls Try.prog 38 #[.agg (KeyV I zero32 q k).toArray, .int .i64 32896, mv] w' fun e w'' => e = .returned (.agg (B8 R).toArray) ∧ Below w'.heap.size w' w'') := Lib.hid (fun mv w' h => by
          rw [HR2.out]; exact hash_any I zero32 q k 32896 mv [candE I q L ds s N] w' HHI.out rfl hq (by decide) h (by have := HEL.out N (Nat.le_refl _); simp [this]; omega))
        have HEZ : Hid (candE I q L ds s 0 = []) := Lib.hid rfl
        have HES : Hid (∀ n, candE I q L ds s (n + 1) = candE I q L ds s n ++ chainN I q n (pieceN s n) (ds.getD n 0) (L - ds.getD n 0)) := Lib.hid (fun n => rfl)
        have HIK := IK (k : Int)
        have HIKL : Hid ((Try.prog.info? 63).map (·.size) = some (KeyV I zero32 q k).length) := Lib.hid (by rw [info_key, KeyV_length _ _ _ _ HHI.out rfl])
        generalize hE : candE I q L ds s = E at *
        clear hL hE hk e3 hkW em hLb
        go_upto_region 12 with (go_at_call 32; refine HL4.out.mono ?_; rintro e w4 ⟨rfl, b4⟩; have HB34 := Lib.hid b4; clear b4)
        have HB4 := Lib.hid (HB3.out.trans (HB34.out.mono HB3.out.size))
        have HK4 : Hid (w4.heap[w.heap.size + 2]? = some (.cells (KeyV I zero32 q k).toArray 63 (0, 0))) := Lib.hid ((HB34.out.block _ (Array.getElem?_eq_some_iff.1 HK3.out).1).trans HK3.out)
        have HZ4 : Hid (w4.heap[w.heap.size + 1]? = some (.cells Z 23 (0, 0))) := Lib.hid ((HB34.out.block _ (Array.getElem?_eq_some_iff.1 HZ3.out).1).trans HZ3.out)
        have HKB4 : Hid (w.heap.size + 2 < w4.heap.size) := Lib.hid (Array.getElem?_eq_some_iff.1 HK4.out).1
        have HT4 := Lib.hid (HTX.out.later HB4.out)
        have HC4 : Hid (∀ i, i < s.length → w4.cell? ⟨sb, so + i, none⟩ = some (.int .u8 (bn (s.getD i 0)))) := Lib.hid (fun i hi => by rw [HB4.out.cell (World.block_lt_of_cell? _ _ (HCS.out i hi))]; exact HCS.out i hi)
        have HG4 : Hid (Sl w4 (.slice (some ⟨sb, so + 4, none⟩) 32 (sc - 4)) G) := Lib.hid (by rw [HG.out]; exact Sl.part HC4.out 4 32 (sc - 4) (by omega) (by omega) (by omega))
        clear hkw
        refine Wild.region_b (fun k => match k with | 4 => some (.rows [G, text]) | 5 => some (.fix (.agg (B8 M).toArray)) | 8 => some (.tupI (NI ds) 0 w4.heap.size) | _ => none) (fun k => match k with | 5 => [4] | _ => []) rfl (by kernel_rfl) (fun vs hvs => ?_)
        have h5 : vs 5 = .agg (B8 M).toArray := hvs 5 _ rfl
        obtain ⟨la, lc, h8⟩ := hvs 8 _ rfl
        refine Wild.walk_load 63 _ _ _ (KeyV I zero32 q k) _ rfl (by rfl) rfl rfl (fun w hw => rangeAt_blw (rangeAt_row HK4.out) hw.1) Try.underlying63 rfl HIKL.out ?_
        simp only [Act.put, List.setIfInBounds_toArray, List.set_cons_zero, List.set_cons_succ]
        repeat (refine Wild.walk_simple rfl (by rfl) (by rfl) (fun K hK => ?_); go_big_quiet_op; first | (refine hK _ ?_; clear hK K) | (refine ⟨_, fun _ _ => rfl, hK _ ?_⟩; clear hK K))
        refine Wild.walk_wild _ rfl (by rfl) (fun w' hw K hK => ?_) ?_
        · go_simp
          exact hK.out (.slice (some ⟨w'.heap.size, 0, none⟩) 2 2) _ (hw.1.alloc hw.1.size _) ((Below.refl _ _).alloc (Nat.le_refl _) _) trivial (Rows.two _ (HG4.out.later hw.1) (HT4.out.later hw.1))
        simp only [Act.put, List.setIfInBounds_toArray, List.set_cons_zero, List.set_cons_succ]
        refine Wild.walk_wild _ rfl (by rfl) (fun w' hw K hK => ?_) ?_
        · go_simp
          go_at_call 38
          refine (HH2.out _ w' (hw.2 4 (by simp [Wild.tab]) rfl)).mono ?_
          rintro e w'' ⟨rfl, hb⟩
          exact hK.out _ _ (hw.1.trans (hb.mono hw.1.size)) hb rfl trivial
        rw [h5]
        simp only [Act.put, List.setIfInBounds_toArray, List.set_cons_zero, List.set_cons_succ]
        repeat (refine Wild.walk_simple rfl (by rfl) (by rfl) (fun K hK => ?_); go_big_quiet_op; first | (refine hK _ ?_; clear hK K) | (refine ⟨_, fun _ _ => rfl, hK _ ?_⟩; clear hK K))
        refine Wild.walk_cell 3 _ _ _ (.int .i64 k) _ rfl (by rfl) rfl rfl (fun w hw => key_W ((hw.1.block _ HKB4.out).trans HK4.out) HHI.out rfl) Try.underlying3 rfl ?_
        simp only [Act.put, List.setIfInBounds_toArray, List.set_cons_zero, List.set_cons_succ]
        refine Wild.walk_wild _ rfl (by rfl) (fun w' hw K hK => ?_) ?_
        · go_simp
          go_at_call 40
          refine (HAL.out w').mono ?_
          rintro e w'' ⟨v, rfl, hs, hb, hl⟩
          obtain ⟨a, c, rfl⟩ := hs.shape
          exact hK.out _ _ (hw.1.trans (hb.mono hw.1.size)) hb ⟨a, c, rfl⟩ ⟨_, rfl, hs, fun j hj => ⟨Nat.le_trans hw.1.size (hl HISW.out j hj), hs.lt (by rw [NI_length, HDL.out]; exact hN0) j hj⟩⟩
        rw [h8]
        simp only [Act.put, List.setIfInBounds_toArray, List.set_cons_zero, List.set_cons_succ]
        repeat (refine Wild.walk_simple rfl (by rfl) (by rfl) (fun K hK => ?_); go_big_quiet_op; first | (refine hK _ ?_; clear hK K) | (refine ⟨_, fun _ _ => rfl, hK _ ?_⟩; clear hK K))
        refine Wild.walk_nil ?_
        intro w6 hw6 hf6
        obtain ⟨sv, f1, f2, f3⟩ := hf6 8 (by rw [Wild.tab_pure rfl]; rfl) (by decide)
        have HB46 : Hid (Below w4.heap.size w4 w6) := Lib.hid hw6
        rw [show vs 8 = _ from h8] at f1
        obtain rfl : sv = .slice la (NI ds).length lc := by injection f1 with f1; simpa using f1.symm
        have HD6 : Hid (DG w6 (.slice none 0 0) (.slice la (NI ds).length lc) (NI ds)) := Lib.hid ⟨f2, fun k hk => ⟨(f3 k hk).2, by simp [Value.ownBlock]⟩⟩
        have HNL : Hid ((NI ds).length = N) := Lib.hid (by rw [NI_length, HDL.out])
        rw [HNL.out] at HD6 ⊢
        generalize vs (0 + 1 + 1 + 1 + 1) = y3
        clear f1 f2 f3 hf6 hw6 h5 h8 hvs
        go_wp2_with fail
        go_loopw [11, 58] (fun s' i' wr => ∃ n : Nat, n ≤ N ∧ i' = .int .i64 n ∧ Hid (Own8 wr w4.heap.size s' (E n)) ∧ Hid (Below w4.heap.size w4 wr) ∧ Hid (DG wr s' (.slice la N lc) (NI ds))) (fun _ i' _ => N - (intOf i').toNat)
        case atStart => exact ⟨0, by omega, rfl, Lib.hid (by rw [HEZ.out]; exact Own8.nil _ _), HB46, HD6⟩
        case round =>
          obtain ⟨n, hn, rfl, HO, HB, HDg⟩ := hrel
          have HENL : Hid ((E n).length = 32 * n) := Lib.hid (HEL.out n hn)
          have HES' := Lib.hid (HES.out n)
          obtain ⟨sa', sc', rfl⟩ := HO.out.shape
          rw [HENL.out] at HO HDg ⊢
          by_cases hlt : n < N
          · have hn' : n < 65536 := by omega
            have hlt' : (n : Int) < N := by omega
            obtain ⟨db, dof, rfl, -, p1, c1⟩ := HDg.out.1.cellAt (i := n) (by rw [HNL.out]; exact hlt)
            have d1 := c1 n (by rw [HNL.out]; exact hlt)
            rw [HNL.out] at p1
            have hdb := HDB.out n hlt
            rw [NI_getD] at d1
            obtain ⟨D, HDD⟩ : ∃ D, Hid (D = ds.getD n 0) := ⟨_, Lib.hid rfl⟩
            rw [← HDD.out] at d1 hdb HES'
            clear c1
            obtain ⟨X, HX⟩ : ∃ X, Hid (X = pieceN s n) := ⟨_, Lib.hid rfl⟩
            have HXL : Hid (X.length = 32) := Lib.hid (by rw [HX.out]; exact HPL.out n hlt)
            have HBr := Lib.hid (HB4.out.trans (HB.out.mono HB4.out.size))
            have HXR : Hid (wr.rangeAt sb (so + (36 + n * 32)) (B8 X)) := Lib.hid (by
              rw [HX.out, Nat.mul_comm n 32]
              exact HPR.out n hlt wr (fun i hi => by rw [HBr.out.cell (World.block_lt_of_cell? _ _ (HCS.out i hi))]; exact HCS.out i hi))
            have HCN := Lib.hid (fun w' => HCH.out n D X w' hn' hdb HXL.out)
            obtain ⟨Y, HY⟩ : ∃ Y, Hid (Y = chainN I q n X D (L - D)) := ⟨_, Lib.hid rfl⟩
            rw [← HY.out] at HCN
            have HYL : Hid (Y.length = 32) := Lib.hid (by rw [HY.out]; exact chainN_length _ _ _ _ _ _ HXL.out)
            have HEN : Hid (E (n + 1) = E n ++ Y) := Lib.hid (by rw [HES'.out, HY.out, HX.out])
            have IXL : Hid ((Try.prog.info? 23).map (·.size) = some (B8 X).length) := Lib.hid (by rw [info_32]; simp [B8_length, HXL.out])
            have IY : Hid ((Try.prog.info? 23).map (·.size) = some (B8 Y).toArray.size) := Lib.hid (by rw [info_32]; simp [B8_length, HYL.out])
            have HKR : Hid (wr.heap[w.heap.size + 2]? = some (.cells (KeyV I zero32 q k).toArray 63 (0, 0))) := Lib.hid ((HB.out.block _ HKB4.out).trans HK4.out)
            go_upto_region 16 with (fail)
            refine Wild.region_tail_b 14 (fun j => match j with | 4 => some (.fix (.int .i64 (L : Int))) | 12 => some (.fix (.agg (B8 Y).toArray)) | 13 => some (.var 23 (Array.replicate 32 (.int .u8 0)) wr.heap.size) | _ => none) (fun _ => []) rfl rfl rfl (by kernel_rfl) (by kernel_rfl) (by kernel_rfl) (fun vs hvs => ?_)
            have h4 : vs 4 = .int .i64 (L : Int) := hvs 4 _ rfl
            have h12 : vs 12 = .agg (B8 Y).toArray := hvs 12 _ rfl
            simp only [List.take_succ_cons, List.take_zero]
            refine Wild.walk_load 63 _ _ _ (KeyV I zero32 q k) _ rfl (by rfl) rfl rfl (fun w hw => rangeAt_blw (rangeAt_row HKR.out) hw.1) Try.underlying63 rfl HIKL.out ?_
            simp only [Act.put, List.setIfInBounds_toArray, List.set_cons_zero, List.set_cons_succ]
            repeat (refine Wild.walk_simple rfl (by rfl) (by rfl) (fun K hK => ?_); go_big_quiet_op; first | (refine hK _ ?_; clear hK K) | (refine ⟨_, fun _ _ => rfl, hK _ ?_⟩; clear hK K))
            refine Wild.walk_load 63 _ _ _ (KeyV I zero32 q k) _ rfl (by rfl) rfl rfl (fun w hw => rangeAt_blw (rangeAt_row HKR.out) hw.1) Try.underlying63 rfl HIKL.out ?_
            simp only [Act.put, List.setIfInBounds_toArray, List.set_cons_zero, List.set_cons_succ]
            refine Wild.walk_wild _ rfl (by rfl) (fun w' hw K hK => ?_) ?_
            · go_simp
              go_at_call 50
              refine (HLA.out w').mono ?_
              rintro e w'' ⟨rfl, hb⟩
              exact hK.out _ _ (hw.1.trans (hb.mono hw.1.size)) hb rfl trivial
            rw [h4]
            simp only [Act.put, List.setIfInBounds_toArray, List.set_cons_zero, List.set_cons_succ]
            repeat (refine Wild.walk_simple rfl (by rfl) (by rfl) (fun K hK => ?_); go_big_quiet_op; first | (refine hK _ ?_; clear hK K) | (refine ⟨_, fun _ _ => rfl, hK _ ?_⟩; clear hK K))
            refine Wild.walk_run (.pointer (some ⟨sb, so + (36 + n * 32), none⟩)) rfl (by rfl) (fun w' _ => ?_) ?_
            · unfold execOp
              go_simp
              rw [run_arrayAt w' 23 5 32 _ _ _ Try.underlying23 (by omega)]
              rfl
            simp only [Act.put, List.setIfInBounds_toArray, List.set_cons_zero, List.set_cons_succ]
            refine Wild.walk_load 23 _ _ _ (B8 X) _ rfl (by rfl) rfl rfl (fun w hw => rangeAt_blw HXR.out hw.1) Try.underlying23 rfl IXL.out ?_
            simp only [Act.put, List.setIfInBounds_toArray, List.set_cons_zero, List.set_cons_succ]
            refine Wild.walk_wild _ rfl (by rfl) (fun w' hw K hK => ?_) ?_
            · go_simp
              go_at_call 41
              refine (HCN.out w').mono ?_
              rintro e w'' ⟨rfl, hb⟩
              exact hK.out _ _ (hw.1.trans (hb.mono hw.1.size)) hb rfl trivial
            rw [h12]
            simp only [Act.put, List.setIfInBounds_toArray, List.set_cons_zero, List.set_cons_succ]
            refine Wild.walk_wild _ rfl (by rfl) (fun w' hw K hK => ?_) ?_
            · go_simp
              exact hK.out (.pointer (some ⟨w'.heap.size, 0, none⟩)) _ (hw.1.alloc hw.1.size _) ((Below.refl _ _).alloc (Nat.le_refl _) _) trivial ⟨w'.heap.size, rfl, hw.1.size, heap_alloc_new _ _⟩
            simp only [Act.put, List.setIfInBounds_toArray, List.set_cons_zero, List.set_cons_succ]
            refine Wild.walk_nil ?_
            intro w7 hw7 hf7
            obtain ⟨b, hb1, hb2, hb3⟩ := hf7 13 _ rfl (by decide)
            have hb1' : vs (0 + 1 + 1 + 1 + 1 + 1 + 1 + 1 + 1 + 1 + 1 + 1 + 1 + 1) = .pointer (some ⟨b, 0, none⟩) := hb1
            rw [hb1']
            have hw7' : Below wr.heap.size wr w7 := hw7
            have hX8 := setRow_heap w7 b _ (B8 Y).toArray _ _ hb3
            have HX8 : Hid (Sl (w7.setRow b (B8 Y).toArray) (.slice (some ⟨b, 0, none⟩) 32 32) Y) := Lib.hid (Sl.ofBlock hX8 HYL.out.symm (Nat.le_refl _) (by simp [maxLen]) (fun i _ => by rw [Nat.zero_add, List.getElem?_toArray]))
            have HB8' : Hid (Below wr.heap.size wr (w7.setRow b (B8 Y).toArray)) := Lib.hid (below_row hw7' hb2 _)
            have HO8 := Lib.hid (HO.out.later HB8'.out)
            have HD8 := Lib.hid (HDg.out.later HB8'.out)
            have HB8 : Hid (Below w4.heap.size w4 (w7.setRow b (B8 Y).toArray)) := Lib.hid (HB.out.trans (HB8'.out.mono HB.out.size))
            refine wp_store_row 23 _ _ rfl _ (B8 Y).toArray rfl rfl 23 _ hb3 IY.out (by simp [B8_length, HYL.out]) (B8_oneA Y) ?_
            clear hX8 hw7' hw7 hb1 hb1' hb2 hb3 h4 h12 hvs hf7 d1 p1
            go_wp2_with (refine wpList_append8 rfl _ _ rfl w4.heap.size _ (E n) rfl HO8.out _ Y rfl HX8.out (by rw [HENL.out, HYL.out]; omega) HB8.out.size ?_; intro v9 w9 hv9 hg9 ho9)
            have HV9 : Hid (Own8 w9 w4.heap.size v9 (E (n + 1))) := Lib.hid (by rw [HEN.out]; exact hv9)
            have HB9 : Hid (Below w4.heap.size w4 w9) := Lib.hid (HB8.out.trans (HO8.out.below hg9 HB8.out.size))
            have HD9 := Lib.hid (HD8.out.grown hg9 ho9)
            clear hv9 hg9 ho9
            go_roundw
            case rel => exact ⟨n + 1, by omega, by go_num, HV9, HB9, HD9⟩
            case measure => simp [intOf]; omega
          · obtain rfl : n = N := by omega
            have HSLE := Lib.hid HO.out.sl
            rw [← HENL.out] at HSLE ⊢
            have HR1 := Lib.hid (Rows.one 41 HSLE.out)
            have HBr := Lib.hid (HB4.out.trans (HB.out.mono HB4.out.size))
            have HKR : Hid (wr.heap[w.heap.size + 2]? = some (.cells (KeyV I zero32 q k).toArray 63 (0, 0))) := Lib.hid ((HB.out.block _ HKB4.out).trans HK4.out)
            have HZR : Hid (wr.heap[w.heap.size + 1]? = some (.cells Z 23 (0, 0))) := Lib.hid ((HB.out.block _ (Array.getElem?_eq_some_iff.1 HZ4.out).1).trans HZ4.out)
            go_upto_region 20 with (first
              | (with_reducible refine at_load 63 _ rfl ?_; refine wpList_load_row rfl 63 _ rfl _ rfl _ (KeyV I zero32 q k).toArray (0, 0) _ HKR.out Try.underlying63 rfl HIK.out ?_)
              | (go_at_call 38; refine (HHA.out _ _ HR1.out).mono ?_; rintro e w8 ⟨rfl, b8⟩; have hba := HBr.out.alloc HBr.out.size (.cells #[.slice sa' (E n).length sc'] 41); have HB8 := Lib.hid (hba.trans (b8.mono hba.size)); have HZ8 := Lib.hid ((((Below.refl wr.heap.size wr).alloc (Nat.le_refl _) (.cells #[.slice sa' (E n).length sc'] 41)).trans (b8.mono (by simp))).block _ (Array.getElem?_eq_some_iff.1 HZR.out).1 |>.trans HZR.out); clear hba b8)
              | (with_reducible refine at_store 23 _ _ rfl ?_; refine wpList_store_row rfl 23 _ _ rfl _ (B8 R).toArray rfl rfl 23 _ HZ8.out J32.out (by rw [HZS.out]; simp [B8_length, HRL.out]) (B8_oneA R) ?_))
            have HX9 : Hid ((w8.setRow (w.heap.size + 1) (B8 R).toArray).heap[w.heap.size + 1]? = some (.cells (B8 R).toArray 23 (0, 0))) := Lib.hid (setRow_heap _ _ _ _ _ _ HZ8.out)
            have HB9 : Hid (Below w.heap.size w (w8.setRow (w.heap.size + 1) (B8 R).toArray)) := Lib.hid (below_row HB8.out (by omega) _)
            have HRO : Hid ((B8 R).toArray.all (·.oneCell') = true) := Lib.hid (B8_oneA R)
            apply wp_label
            go_wp2_with (first
              | (with_reducible refine at_load 23 _ rfl ?_; refine wpList_load_row rfl 23 _ rfl _ rfl _ (B8 R).toArray (0, 0) _ HX9.out Try.underlying23 rfl J32.out ?_)
              | (with_reducible refine at_store 23 _ _ rfl ?_; refine wpList_store_same rfl 23 _ _ rfl _ (B8 R).toArray rfl rfl 23 HX9.out J32.out HRO.out ?_))
            rw [jump_ret]
            exact bodyPost_ret (results_cell_row_tmp rfl _ _ (w.heap.size + 1) 23 _ (0, 0) _ rfl HX9.out Try.underlying23 rfl J32.out) rfl ⟨by rw [HE.out.1, HE.out.2]; rfl, HB9.out⟩
      · have hl' : ¬ ((s.length : Int) = 36 + 32 * (N : Int)) := by omega
        have HE : Hid (candV I q text s = zero32 ∧ candErr s = 3) := Lib.hid (by
          have e : candOk s = false := by rw [candOk, ← HBo.out, HWK.out, numK, ← HN.out, decide_eq_false hl]; rfl
          exact ⟨by rw [candV, e, if_neg (by simp)], by rw [candErr, if_neg h4, e]; rfl⟩)
        go_wp2_with (go_at_call 32; refine HL4.out.mono ?_; rintro e w4 ⟨rfl, b4⟩; have HB4 := Lib.hid (HB3.out.trans (b4.mono HB3.out.size)); have HZ4 := Lib.hid ((b4.block _ (Array.getElem?_eq_some_iff.1 HZ3.out).1).trans HZ3.out); clear b4)
        apply wp_goto
        refine ⟨rfl, ?_⟩
        go_wp2_with (first
          | (with_reducible refine at_load 23 _ rfl ?_; refine wpList_load_row rfl 23 _ rfl _ rfl _ Z (0, 0) _ HZ4.out Try.underlying23 rfl HZI.out ?_)
          | (with_reducible refine at_store 23 _ _ rfl ?_; refine wpList_store_same rfl 23 _ _ rfl _ Z rfl rfl 23 HZ4.out HZI.out HZO.out ?_))
        rw [Exit.noGoto_ret]
        exact bodyPost_ret (results_cell_row_tmp rfl _ _ (w.heap.size + 1) 23 _ (0, 0) _ rfl HZ4.out Try.underlying23 rfl HZI.out) rfl ⟨by rw [HE.out.1, HE.out.2, ← HZ.out]; rfl, HB4.out⟩
end Go.Proofs.Ytcnelahmbfggcaa

/- The walk of the document's width: a type in four bytes. -/
namespace Go.Proofs.Ytcnelahmbfggcaa
open Go Go.RowKit
set_option maxRecDepth 100000
set_option maxHeartbeats 1000000

theorem word_nat (x0 x1 x2 x3 : UInt8) : (x0.toUInt32 <<< 24 ||| x1.toUInt32 <<< 16 ||| x2.toUInt32 <<< 8 ||| x3.toUInt32).toNat = x0.toNat * 16777216 + x1.toNat * 65536 + x2.toNat * 256 + x3.toNat := by
  have h0 := x0.toNat_lt
  have h1 := x1.toNat_lt
  have h2 := x2.toNat_lt
  have h3 := x3.toNat_lt
  simp only [UInt32.toNat_or, UInt32.toNat_shiftLeft, UInt8.toNat_toUInt32, Nat.shiftLeft_eq]
  rw [show (UInt32.toNat 24 % 32) = 24 by rfl, show (UInt32.toNat 16 % 32) = 16 by rfl, show (UInt32.toNat 8 % 32) = 8 by rfl]
  rw [Nat.mod_eq_of_lt (by omega), Nat.mod_eq_of_lt (by omega), Nat.mod_eq_of_lt (by omega)]
  rw [Nat.or_assoc, Nat.or_assoc, Nat.mul_comm x2.toNat, ← Nat.two_pow_add_eq_or_of_lt (i := 8) (by omega), Nat.mul_comm x1.toNat, ← Nat.two_pow_add_eq_or_of_lt (i := 16) (by omega), Nat.mul_comm x0.toNat, ← Nat.two_pow_add_eq_or_of_lt (i := 24) (by omega)]
  omega
theorem ofNat_iff (n : Nat) (x : UInt8) : UInt8.ofNat n = x ↔ n % 256 = x.toNat := by
  constructor
  · rintro rfl; simp
  · intro h
    apply UInt8.toNat_inj.1
    simpa using h
theorem four_word (b : List UInt8) (hb : b.length = 4) (t : Nat) (ht : t < 4294967296) : fourN t = b ↔ typeS b = t := by
  match b, hb with
  | [x0, x1, x2, x3], _ =>
    have h0 := x0.toNat_lt
    have h1 := x1.toNat_lt
    have h2 := x2.toNat_lt
    have h3 := x3.toNat_lt
    have e : typeS [x0, x1, x2, x3] = ((x0.toNat * 16777216 + x1.toNat * 65536 + x2.toNat * 256 + x3.toNat : Nat) : Int) := by
      rw [← word_nat]; rfl
    rw [e, fourN]
    simp only [List.cons.injEq, and_true, ofNat_iff]
    omega
theorem typeS_take (s : List UInt8) : typeS (s.take 4) = typeS s := by
  unfold typeS wordAt
  simp
end Go.Proofs.Ytcnelahmbfggcaa

/- The walk of the document's Candidate. -/
namespace Go.Proofs.Ytcnelahmbfggcaa
open Go Go.RowKit
set_option maxRecDepth 100000
set_option maxHeartbeats 2000000

theorem Wild.walk_built {P : Program} {ops : Array Oper} {C : World → Prop} {G : World → World → Prop} {S : Wild.Spec} {vs : Nat → Value} {Q : Act → Prop} {rest : List Oper} {o : Oper} {k : Nat} {a : Act}
    (t : TypeId) (parts : List (Nat × Operand)) (hp : S.pure k = none) (hw : Region.wanted o (yielded ops a.tmps) = true) (ho : o.op = .build t parts.toArray)
    (vals : List (Nat × Value)) (hv : parts.map (fun x => (x.1, a.eval x.2)) = vals) (cells : Array Value) (hc : P.built t vals = some cells)
    (h : Wild.walk P ops C G S vs Q rest (k + 1) (a.put o.dst (.agg cells))) : Wild.walk P ops C G S vs Q (o :: rest) k a :=
  Wild.walk_run _ hp hw (fun w' _ => by
    subst hv
    unfold execOp
    have e : (parts.toArray.map fun (i, x) => (i, a.eval x)).toList = parts.map (fun x => (x.1, a.eval x.2)) := by simp
    simp only [ho, Sem.run_bind, run_build w' t _ cells (by rw [e]; exact hc), Result.andThen_ok]
    rfl) h

end Go.Proofs.Ytcnelahmbfggcaa

/- That the candidate of a signature is the key's sum: plain, no program. -/
namespace Go.Proofs.Ytcnelahmbfggcaa
open Go Go.RowKit
set_option maxRecDepth 100000
set_option maxHeartbeats 1000000


theorem candV_length (I : List UInt8) (q : Nat) (text s : List UInt8) : (candV I q text s).length = 32 := by
  rw [candV]
  split
  · exact sha_length _
  · rfl
theorem chain_more (I : List UInt8) (q i : Nat) (x : List UInt8) (a n m : Nat) : chainN I q i (chainN I q i x a n) (a + n) m = chainN I q i x a (n + m) := by
  induction m with
  | zero => rfl
  | succ m ih => rw [chainN, ih, Nat.add_succ, chainN, Nat.add_assoc]
theorem sigP_piece (I S : List UInt8) (q : Nat) (ds : List Nat) (n : Nat) : ∀ N, n < N → ((sigP I S q ds N).drop (32 * n)).take 32 = chainN I q n (secretN I S q n) 0 (ds.getD n 0)
  | 0, h => by omega
  | N + 1, h => by
    have hl := sigP_length I S q ds N
    rw [sigP]
    by_cases hn : n < N
    · rw [List.drop_append_of_le_length (by omega), List.take_append_of_le_length (by rw [List.length_drop]; omega)]
      exact sigP_piece I S q ds n N hn
    · obtain rfl : n = N := by omega
      rw [List.drop_append, List.drop_of_length_le (by omega), hl, Nat.sub_self, List.drop_zero, List.nil_append, List.take_of_length_le]
      rw [chainN_length _ _ _ _ _ _ (secretN_length _ _ _ _)]
      exact Nat.le_refl _
theorem grain_length (I S : List UInt8) (q : Nat) : (grainN I S q).length = 32 := hashN_length _ _ _ _
/-- what a signature is made of -/
theorem sign_facts (I S : List UInt8) (q k : Nat) (text : List UInt8) (hk : k = 1 ∨ k = 2 ∨ k = 4 ∨ k = 8) :
    (sigN I S q k text).length = 36 + 32 * numK k ∧ candOk (sigN I S q k text) = true ∧ (sigN I S q k text).take 4 = fourN (typeN k).toNat ∧ (∀ n, n < numK k → pieceN (sigN I S q k text) n = chainN I q n (secretN I S q n) 0 ((digN I S q k text).getD n 0)) ∧
      ∀ text2, candV I q text2 (sigN I S q k text) = hashN I q 32896 [candE I q (2 ^ k - 1) (allN (signedN I q (grainN I S q) text2) k) (sigN I S q k text) (numK k)] := by
  obtain ⟨ty, ty1, ty2, ty3⟩ := typeN_nat k hk
  have hkW : isW k = true := (isW_iff _).2 (by omega)
  obtain ⟨hw1, hw2⟩ := width_of k hkW
  have hG := grain_length I S q
  obtain ⟨G, eG⟩ : ∃ G, G = grainN I S q := ⟨_, rfl⟩
  obtain ⟨ds, eds⟩ : ∃ ds, ds = digN I S q k text := ⟨_, rfl⟩
  have hs : sigN I S q k text = (fourN ty ++ G) ++ sigP I S q ds (numK k) := by rw [sigN, ty3, ← eG, ← eds, numK]
  rw [← eG] at hG
  have hP := sigP_length I S q ds (numK k)
  have hlen : (sigN I S q k text).length = 36 + 32 * numK k := by rw [hs, List.length_append, List.length_append, fourN_length, hG, hP]
  have h4 : (sigN I S q k text).take 4 = fourN ty := by
    rw [hs, List.append_assoc, List.take_append_of_le_length (by rw [fourN_length]; exact Nat.le_refl _), List.take_of_length_le (by rw [fourN_length]; exact Nat.le_refl _)]
  have hty : typeS (sigN I S q k text) = typeN k := by
    rw [← typeS_take, h4, ty1]
    exact (four_word _ (fourN_length ty) ty ty2).1 rfl
  have hok : candOk (sigN I S q k text) = true := by
    rw [candOk, hty, hw1, hw2, Int.toNat_natCast, decide_eq_true hlen]; rfl
  have hg : ((sigN I S q k text).drop 4).take 32 = G := by
    rw [hs, List.append_assoc, List.drop_append, List.drop_of_length_le (by rw [fourN_length]; exact Nat.le_refl _), fourN_length, List.nil_append, List.drop_zero, List.take_append_of_le_length (by omega), List.take_of_length_le (by omega)]
  have hpc : ∀ n, n < numK k → pieceN (sigN I S q k text) n = chainN I q n (secretN I S q n) 0 (ds.getD n 0) := fun n hn => by
    rw [pieceN, hs, List.drop_append, List.drop_of_length_le (by rw [List.length_append, fourN_length, hG]; omega), List.nil_append, List.length_append, fourN_length, hG, show 36 + 32 * n - (4 + 32) = 32 * n by omega]
    exact sigP_piece I S q ds n _ hn
  refine ⟨hlen, hok, by rw [h4, ty3], by rw [← eds]; exact hpc, fun text2 => ?_⟩
  rw [candV, if_pos ⟨by omega, hok⟩, hty, hw1, Int.toNat_natCast, candH, hg, eG]
/-- of a width: the candidate of what the key signs is the key's sum -/
theorem cand_sign (I S : List UInt8) (q k : Nat) (text : List UInt8) (hk : k = 1 ∨ k = 2 ∨ k = 4 ∨ k = 8) :
    candV I q text (sigN I S q k text) = pubN I S q k := by
  obtain ⟨-, -, -, hpc, hv⟩ := sign_facts I S q k text hk
  obtain ⟨ds, eds⟩ : ∃ ds, ds = digN I S q k text := ⟨_, rfl⟩
  have hds : allN (signedN I q (grainN I S q) text) k = ds := by rw [eds, digN]
  rw [← eds] at hpc
  have hE : ∀ n, n ≤ numK k → candE I q (2 ^ k - 1) ds (sigN I S q k text) n = endsN I S q (2 ^ k - 1) n := by
    intro n
    induction n with
    | zero => intro _; rfl
    | succ n ih =>
      intro hn
      have hd : ds.getD n 0 ≤ 2 ^ k - 1 := by rw [← hds]; exact allN_lt _ k n (by rw [numK] at hn; omega)
      have hc := chain_more I q n (secretN I S q n) 0 (ds.getD n 0) (2 ^ k - 1 - ds.getD n 0)
      rw [Nat.zero_add, show ds.getD n 0 + (2 ^ k - 1 - ds.getD n 0) = 2 ^ k - 1 by omega] at hc
      rw [candE, ih (by omega), hpc n (by omega), hc, endsN]
  rw [hv, hds, hE _ (Nat.le_refl _), pubN, numK]
end Go.Proofs.Ytcnelahmbfggcaa


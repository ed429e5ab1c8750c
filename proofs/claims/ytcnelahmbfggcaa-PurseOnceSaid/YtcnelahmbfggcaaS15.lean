/- A slice of truth values. -/
import Derived.Test.YtcnelahmbfggcaaInts
import Derived.Test.YtcnelahmbfggcaaG14
import Derived.Test.YtcnelahmbfggcaaOpen
import Derived.Deep.Grids
namespace Go.Proofs.Ytcnelahmbfggcaa
open Go Go.RowKit

/-- the slice value v reads as the truth values l -/
def SlB (w : World) (v : Value) (l : List Bool) : Prop :=
  (l = [] ∧ ∃ a c, v = .slice a 0 c) ∨
  ∃ b off cap, v = .slice (some ⟨b, off, none⟩) l.length cap ∧ 0 < l.length ∧ l.length ≤ cap ∧ cap ≤ maxLen ∧ ∀ i, i < l.length → w.cell? ⟨b, off + i, none⟩ = some (.bool (l.getD i false))
theorem SlB.later {w w' : World} {v : Value} {l : List Bool} (h : SlB w v l) (hb : Below w.heap.size w w') : SlB w' v l := by
  rcases h with h | ⟨b, off, cap, rfl, h0, h1, h2, h3⟩
  · exact .inl h
  · refine .inr ⟨b, off, cap, rfl, h0, h1, h2, fun i hi => ?_⟩
    rw [hb.cell (World.block_lt_of_cell? _ _ (h3 i hi))]
    exact h3 i hi
theorem SlB.shape {w : World} {v : Value} {l : List Bool} (h : SlB w v l) : ∃ a c, v = .slice a l.length c := by
  rcases h with ⟨rfl, a, c, rfl⟩ | ⟨b, off, cap, rfl, _⟩
  · exact ⟨a, c, rfl⟩
  · exact ⟨_, cap, rfl⟩
/-- a truth value of it -/
theorem SlB.cellAt {w : World} {a : Option Addr} {len cap : Nat} {l : List Bool} (h : SlB w (.slice a len cap) l) {i : Nat} (hi : i < l.length) :
    ∃ b off, a = some ⟨b, off, none⟩ ∧ len = l.length ∧ l.length ≤ cap ∧ ∀ j, j < l.length → w.cell? ⟨b, off + j, none⟩ = some (.bool (l.getD j false)) := by
  rcases h with ⟨rfl, _⟩ | ⟨b, off, c, hv, _, hc, _, h⟩
  · simp at hi
  · cases hv
    exact ⟨b, off, rfl, rfl, hc, h⟩
end Go.Proofs.Ytcnelahmbfggcaa

/- What the law PurseOnce is told of a purse that is right. -/
namespace Go.Proofs.Ytcnelahmbfggcaa
open Go Go.RowKit
set_option maxRecDepth 100000
set_option maxHeartbeats 1000000

/-- P leaves; KF q n: the purse whose next leaf is q and whose note is n; SG q text: its signature -/
structure OnceK (P : Nat) (KF : Nat → Nat → List Value) (SG : Nat → List UInt8 → List UInt8) : Prop where
  right : ∀ q n w, q ≤ n → n ≤ P → Calls Try.prog 8 #[.agg (KF q n).toArray] w fun e w' => e = .returned (.bool true) ∧ Below w.heap.size w w'
  plain : ∀ q n w, Calls Try.prog 9 #[.agg (KF q n).toArray] w fun e w' => e = .returned (.agg (KF q n).toArray) ∧ Below w.heap.size w w'
  crash : ∀ q n w, Calls Try.prog 10 #[.agg (KF q n).toArray] w fun e w' => e = .returned (.agg (KF n n).toArray) ∧ Below w.heap.size w w'
  left : ∀ q n w, q ≤ P → Calls Try.prog 12 #[.agg (KF q n).toArray] w fun e w' => e = .returned (.int .i64 ((P : Int) - q)) ∧ Below w.heap.size w w'
  spent : ∀ n tv text w, Sl w tv text → Calls Try.prog 11 #[.agg (KF P n).toArray, tv] w fun e w' => e = .returned (.tuple #[.agg (KF P n).toArray, .slice none 0 0, .bool false, .int .i64 12]) ∧ Below w.heap.size w w'
  more : ∀ q n, q < P → q ≤ n → n ≤ P → ∃ n', q + 1 ≤ n' ∧ n' ≤ P ∧ ∀ tv text w, Sl w tv text → text.length ≤ 1000 → Calls Try.prog 11 #[.agg (KF q n).toArray, tv] w fun e w' => ∃ v, e = .returned (.tuple #[.agg (KF (q + 1) n').toArray, v, .bool (decide (n ≤ q)), .int .i64 0]) ∧ Sl w' v (SG q text) ∧ Below w.heap.size w w'
  leaf : ∀ q text v w, q < P → Sl w v (SG q text) → Calls Try.prog 13 #[v] w fun e w' => e = .returned (.tuple #[.int .i64 q, .int .i64 0]) ∧ Below w.heap.size w w'
  owns : ∀ q n q' text tv sv w, q < P → Sl w tv text → text.length ≤ 1000 → Sl w sv (SG q text) → Calls Try.prog 14 #[.agg (KF q' n).toArray, tv, sv] w fun e w' => e = .returned (.bool true) ∧ Below w.heap.size w w'
  info : ∀ q n, (Try.prog.info? 30).map (·.size) = some (KF q n).toArray.size
  infoL : ∀ q n, (Try.prog.info? 30).map (·.size) = some (KF q n).length
  size : ∀ q n, (KF q n).toArray.size = 53
  one : ∀ q n, (KF q n).toArray.all (·.oneCell') = true
  eq : ∀ q n w, (Op.equalIn 10000 30 (.agg (KF q n).toArray) (.agg (KF q n).toArray)).run Try.prog w = .ok true w
  noted : ∀ (q n : Nat) (w : World) b t, w.heap[b]? = some (.cells (KF q n).toArray t (0, 0)) → w.cell? ⟨b, 51, none⟩ = some (.int .i64 n)

theorem once_facts (I S : List UInt8) (k h st : Int) (hI : I.length = 16) (hS : S.length = 32) (hk : -9223372036854775808 ≤ k ∧ k ≤ 9223372036854775807) (hr : rightB k h 0 0 st = true) :
    ∃ (H P : Nat) (KF : Nat → Nat → List Value) (SG : Nat → List UInt8 → List UInt8), h = H ∧ P = 2 ^ H ∧ H ≤ 5 ∧ KF 0 0 = PurseV I S k h 0 0 st ∧ OnceK P KF SG := by
  obtain ⟨r1, r2, r3, r4, r5, r6⟩ := (rightB_iff _ _ _ _ _).1 hr
  have hm := leaves_pos k h r1
  obtain ⟨m1, m2, m3⟩ := (mayT_iff _ _).1 hm
  obtain ⟨H, rfl⟩ : ∃ H : Nat, h = H := ⟨h.toNat, by omega⟩
  have hlv : leavesV k H = ((2 ^ H : Nat) : Int) := by rw [leavesV, hm, if_pos rfl, Int.toNat_natCast]
  obtain ⟨l1, l2⟩ := leavesV_bd k H
  have hP : 2 ^ H ≤ 32 := by omega
  have hkw : k = 1 ∨ k = 2 ∨ k = 4 ∨ k = 8 := by have := (isW_iff _).1 m1; omega
  obtain ⟨kn, rfl⟩ : ∃ kn : Nat, k = kn := ⟨k.toNat, by omega⟩
  have sgl : ∀ q text, q < 2 ^ H → (lsigN I S kn H q text).length ≤ 1000000 ∧ 4 ≤ (lsigN I S kn H q text).length := fun q text hq => by
    have h1 := (lsig_facts I S kn H q text hm (by omega)).1
    have hmn : (manyW (kn : Int)).toNat ≤ 300 := by rcases hkw with e | e | e | e <;> rw [e] <;> decide
    omega
  refine ⟨H, 2 ^ H, fun q n => PurseV I S kn H q n st, fun q text => lsigN I S kn H q text, rfl, rfl, by omega, rfl, ?_⟩
  have rb : ∀ q n : Nat, q ≤ n → n ≤ 2 ^ H → rightB kn H q n st = true := fun q n h1 h2 => (rightB_iff _ _ _ _ _).2 ⟨r1, r2, r3, by omega, by omega, by rw [hlv]; omega⟩
  refine { right := ?_, plain := ?_, crash := ?_, left := ?_, spent := ?_, more := ?_, leaf := ?_, owns := ?_, info := ?_, infoL := ?_, size := ?_, one := ?_, eq := ?_, noted := ?_ }
  · intro q n w h1 h2
    have := Right_ref6 I S kn H q n st w hI hS
    rwa [rb q n h1 h2] at this
  · exact fun q n w => plain06_any I S kn H q n st w hI hS
  · exact fun q n w => Crash_pur I S kn H q n st w hI hS
  · intro q n w h1
    have := Left_pur I S kn H q n st w hI hS hk ⟨by omega, by omega⟩
    rwa [hlv] at this
  · intro n tv text w ht
    have := Sign_spent I S kn H n st tv w hI hS hk text ht
    rwa [hlv] at this
  · intro q n h1 h2 h3
    by_cases hn : n ≤ q
    · obtain rfl : n = q := by omega
      obtain ⟨m, hmn⟩ : ∃ m : Nat, min ((n : Int) + st) ((2 ^ H : Nat) : Int) = m := ⟨(min ((n : Int) + st) ((2 ^ H : Nat) : Int)).toNat, by omega⟩
      refine ⟨m, by omega, by omega, fun tv text w ht htl => ?_⟩
      rw [decide_eq_true (Nat.le_refl n)]
      have := Sign_note I S kn H n st tv text w hI hS hk hm h1 ⟨r2, r3⟩ ht (by omega)
      rwa [hmn] at this
    · refine ⟨n, by omega, h3, fun tv text w ht htl => ?_⟩
      rw [decide_eq_false hn]
      exact Sign_more I S kn H q n st tv text w hI hS hk hm h1 ⟨r2, r3⟩ ⟨by omega, by omega⟩ ht (by omega)
  · intro q text v w hq hv
    have := Leaf_any v _ w hv (sgl q text hq).1
    rwa [(lsig_facts I S kn H q text hm (by omega)).2.2.2.2.2, leafE, if_neg (by have := (sgl q text hq).2; omega)] at this
  · intro q n q' text tv sv w hq ht htl hv
    have := Owns_pur I S kn H q' n st tv sv text _ w hI hS hk ht hv (by omega) (sgl q text hq).1 hm
    rw [pubL, if_pos hm, Int.toNat_natCast] at this
    rw [ver_right I S kn H q text hI hm hq] at this
    exact this
  · exact fun q n => by rw [info_purse, List.size_toArray, PurseV_length _ _ _ _ _ _ _ hI hS]
  · exact fun q n => by rw [info_purse, PurseV_length _ _ _ _ _ _ _ hI hS]
  · exact fun q n => by rw [List.size_toArray, PurseV_length _ _ _ _ _ _ _ hI hS]
  · exact fun q n => PurseV_one _ _ _ _ _ _ _
  · exact fun q n w => eq_purse I S kn H q n st hI hS w
  · exact fun q n w b t hr => purse_D hr hI hS
end Go.Proofs.Ytcnelahmbfggcaa

/- A slice of truth values that came in. -/
namespace Go.Proofs.Ytcnelahmbfggcaa
open Go Go.RowKit Go.ChangeShapes Go.WideShapes Go.ChangeAt
set_option maxRecDepth 100000

def OpBools (w : World) (v : Value) : Prop := ∃ l, SlB w v l
section
variable {H : Type} {enc : TypeId × Value → H} {w : World} {base : Nat} {held : Bool} {r : Reach} {b0 : Nat} {v : Value} {d : DataW H} {ps : List MemPlace} {P : Program} {t e : TypeId}
theorem op_bools (ht : P.underlying t = some (.slice e)) (he : P.underlying e = some .bool) (hc : P.cellsOf e = 1) (hval : Value.okWide P w r b0 t v) (h : DataW.Trod enc P w base (fun _ => true) held t v d ps) : OpBools w v := by
  obtain ⟨a, len, cap, rfl⟩ := okWide_slice ht hval
  obtain ⟨fuel, hf⟩ := h
  rcases Go.Deep.open_bools ht he hc hf with ⟨hcs, _⟩ | ⟨x, l, c, B, hcs, _, hl, hm, _, hcell⟩
  · simp [Value.cells] at hcs
    obtain ⟨rfl, rfl, rfl⟩ := hcs
    exact ⟨[], .inl ⟨rfl, _, _, rfl⟩⟩
  · simp [Value.cells] at hcs
    obtain ⟨rfl, rfl, rfl⟩ := hcs
    by_cases h0 : 0 < len
    · obtain ⟨b, off, spot⟩ := x
      have hs : spot = none := by
        have h1 := hcell 0 (by omega)
        simpa [Addr.add] using World.cell?_spot h1
      subst hs
      refine ⟨(List.range len).map B, .inr ⟨b, off, cap, by simp, by simpa using h0, by simpa using hl, hm, fun i hi => ?_⟩⟩
      have hi' : i < len := by simpa using hi
      have h1 := hcell i (by omega)
      have hg : ((List.range len).map B).getD i false = B i := by simp [hi']
      rw [hg, ← h1]
      congr 1
      unfold Addr.add
      split <;> simp_all
    · obtain rfl : len = 0 := by omega
      exact ⟨[], .inl ⟨rfl, _, _, rfl⟩⟩
end
end Go.Proofs.Ytcnelahmbfggcaa

/- The walk of the law PurseOnce. -/
namespace Go.Proofs.Ytcnelahmbfggcaa
open Go Go.RowKit
set_option maxRecDepth 100000
set_option maxHeartbeats 4000000
attribute [local irreducible] Wild.walk WildF.walk

theorem OwnI.row {w : World} {B t : Nat} {k : IntKind} {v : Value} {l : List Int} (h : OwnI w B t k v l) {b : Nat} (hb : b < B) (cs : Array Value) : OwnI (w.setRow b cs) B t k v l :=
  OwnC.kept h fun j hj => setRow_other _ _ _ _ (by have := (h.lt j hj).1; omega)
theorem one_i64 (w : World) (d : Int) : SlI (w.alloc (.cells #[.int .i64 d] 3)) .i64 (.slice (some ⟨w.heap.size, 0, none⟩) 1 1) [d] :=
  (RowI.made w 3 .i64 [d] _ rfl).sl rfl (Nat.le_refl _) (by simp [maxLen])

theorem one_byteN (w : World) (j : Nat) (hj : j < 256) : Sl (w.alloc (.cells #[.int .u8 (j : Int)] 5)) (.slice (some ⟨w.heap.size, 0, none⟩) 1 1) [UInt8.ofNat j] :=
  Sl.ofBlock (heap_alloc_new _ _) rfl (Nat.le_refl _) (by simp [maxLen]) fun i hi => by
    obtain rfl : i = 0 := by simp at hi; omega
    have : j % 256 = j := by omega
    simp [B8, bn, this]

theorem PurseOnce_main (I S : List UInt8) (k h st : Int) (sv : Value) (sc : List Bool) (w : World) (hI : I.length = 16) (hS : S.length = 32) (hk : -9223372036854775808 ≤ k ∧ k ≤ 9223372036854775807) (hs : SlB w sv sc) :
    Calls Try.prog 3 #[.agg (TreeV I S k h).toArray, .int .i64 st, sv] w fun e w' => e = .returned (.bool true) ∧ Below w.heap.size w w' := by
  obtain ⟨W0, HW0, HB0, HS0, HR0⟩ : ∃ V, Hid (V = w.alloc (.cells (TreeV I S k h).toArray 25)) ∧ Hid (Below w.heap.size w V) ∧ Hid (V.heap.size = w.heap.size + 1) ∧ Hid (V.heap[w.heap.size]? = some (.cells (TreeV I S k h).toArray 25 (0, 0))) := ⟨_, Lib.hid rfl, Lib.hid ((Below.refl _ _).alloc (Nat.le_refl _) _), Lib.hid (by simp), Lib.hid (heap_alloc_new _ _)⟩
  have IT : Hid ((Try.prog.info? 25).map (·.size) = some (TreeV I S k h).toArray.size) := Lib.hid (by rw [info_tree, List.size_toArray, TreeV_length _ _ _ _ hI hS])
  have HTB : Hid (∀ w', Below W0.heap.size W0 w' → Hid (w'.heap[w.heap.size]? = some (.cells (TreeV I S k h).toArray 25 (0, 0)))) := Lib.hid (fun w' hb => Lib.hid ((hb.block _ (by rw [HS0.out]; omega)).trans HR0.out))
  have HLO := Lib.hid (fun w' => low06_any I S k h w' hI hS)
  have HAL := Lib.hid alive06_any
  have HNE := Lib.hid (fun w' => New_pur I S k h st w' hI hS hk)
  have HHI := Lib.hid hI
  have HHS := Lib.hid hS
  have HT0 := Lib.hid (hs.later HB0.out)
  obtain ⟨ta, tc, rfl⟩ := hs.shape
  clear hs
  cases hlo : lowH h
  · rw [hlo] at HLO
    clear hlo hI hS hk
    go_enter Try.func3, Try.ntmps3
    go_upto_region 1 with (fail)
    rw [← HW0.out]
    go_wp2_with (first
      | ((with_reducible refine at_load 25 _ rfl ?_); first | refine wpList_load_row rfl 25 _ rfl _ rfl _ (TreeV I S k h).toArray (0, 0) _ HR0.out Try.underlying25 rfl IT.out ?_)
      | (go_at_call 5; refine (HLO.out W0).mono ?_; rintro e w1 ⟨rfl, b1⟩; have HB1 := Lib.hid b1; clear b1)
      | (go_at_call 6; refine (HAL.out w1).mono ?_; rintro e w2 ⟨rfl, b2⟩; have HB2 := Lib.hid (HB1.out.trans (b2.mono HB1.out.size)); clear b2))
    go_ret
    exact ⟨rfl, HB0.out.trans (HB2.out.mono HB0.out.size)⟩
  · rw [hlo] at HLO
    by_cases hsl : sc.length ≤ 12
    · have hti : (sc.length : Int) ≤ 12 := by omega
      cases hr : rightB k h 0 0 st
      · simp only [hr, Bool.false_eq_true, if_false] at HNE
        obtain ⟨AL, HAd⟩ : ∃ K, Hid (K = PurseV zero16 zero32 0 0 0 0 0) := ⟨_, Lib.hid rfl⟩
        rw [← HAd.out] at HNE
        have IA : Hid ((Try.prog.info? 30).map (·.size) = some AL.toArray.size) := Lib.hid (by rw [HAd.out, info_purse, List.size_toArray, PurseV_length _ _ _ _ _ _ _ rfl rfl])
        have SA : Hid (AL.toArray.size = 53) := Lib.hid (by rw [HAd.out, List.size_toArray, PurseV_length _ _ _ _ _ _ _ rfl rfl])
        have OA : Hid (AL.toArray.all (·.oneCell') = true) := Lib.hid (by rw [HAd.out]; exact PurseV_one _ _ _ _ _ _ _)
        clear hlo hI hS hk hr
        go_enter Try.func3, Try.ntmps3
        go_upto_region 1 with (fail)
        rw [← HW0.out]
        go_wp2_with (first
          | ((with_reducible refine at_load 25 _ rfl ?_); first | refine wpList_load_row rfl 25 _ rfl _ rfl _ (TreeV I S k h).toArray (0, 0) _ HR0.out Try.underlying25 rfl IT.out ?_ | refine wpList_load_row rfl 25 _ rfl _ rfl _ (TreeV I S k h).toArray (0, 0) _ (HTB.out _ HB1.out).out Try.underlying25 rfl IT.out ?_)
          | (go_at_call 5; refine (HLO.out W0).mono ?_; rintro e w1 ⟨rfl, b1⟩; have HB1 := Lib.hid b1; clear b1)
          | (go_at_call 7; refine (HNE.out w1).mono ?_; rintro e w2 ⟨rfl, b2⟩; have HB2 := Lib.hid (HB1.out.trans (b2.mono HB1.out.size)); clear b2)
          | ((with_reducible refine at_store 30 _ _ rfl ?_); refine wpList_store_new rfl 30 _ _ rfl AL.toArray rfl rfl 30 _ IA.out (by rw [SA.out]; rfl) OA.out ?_)
          | (go_at_call 6; refine (HAL.out _).mono ?_; rintro e w3 ⟨rfl, b3⟩; have HB3 := Lib.hid ((HB2.out.alloc HB2.out.size _).trans (b3.mono (HB2.out.alloc HB2.out.size _).size)); clear b3))
        go_ret
        exact ⟨rfl, HB0.out.trans (HB3.out.mono HB0.out.size)⟩
      · simp only [hr, if_true] at HNE
        obtain ⟨H, P, KF, SG, rfl, hP, hH, hK0, hK⟩ := once_facts I S k h st hI hS hk hr
        rw [← hK0] at HNE
        have HK := Lib.hid hK
        have HP := Lib.hid hP
        have HTH : Hid (∀ w', Below W0.heap.size W0 w' → w'.cell? ⟨w.heap.size, 49, none⟩ = some (.int .i64 H)) := Lib.hid (fun w' hb => tree_H (HTB.out w' hb).out HHI.out HHS.out)
        clear hlo hI hS hk hr hP hK0 hK
        go_enter Try.func3, Try.ntmps3
        go_upto_region 1 with (fail)
        rw [← HW0.out]
        go_upto_region 6 with (first
          | ((with_reducible refine at_load 25 _ rfl ?_); first | refine wpList_load_row rfl 25 _ rfl _ rfl _ (TreeV I S k H).toArray (0, 0) _ HR0.out Try.underlying25 rfl IT.out ?_ | refine wpList_load_row rfl 25 _ rfl _ rfl _ (TreeV I S k H).toArray (0, 0) _ (HTB.out _ HB1.out).out Try.underlying25 rfl IT.out ?_)
          | (go_at_call 5; refine (HLO.out W0).mono ?_; rintro e w1 ⟨rfl, b1⟩; have HB1 := Lib.hid b1; clear b1)
          | (go_at_call 7; refine (HNE.out w1).mono ?_; rintro e w2 ⟨rfl, b2⟩; have HB2 := Lib.hid (HB1.out.trans (b2.mono HB1.out.size)); clear b2)
          | ((with_reducible refine at_store 30 _ _ rfl ?_); refine wpList_store_new rfl 30 _ _ rfl (KF 0 0).toArray rfl rfl 30 _ (HK.out.info 0 0) (by rw [HK.out.size]; rfl) (HK.out.one 0 0) ?_))
        obtain ⟨pb, Hpb⟩ : ∃ b, Hid (b = w2.heap.size) := ⟨_, Lib.hid rfl⟩
        obtain ⟨V, HV, HBV, HRV⟩ : ∃ W, Hid (W = w2.alloc (.cells (KF 0 0).toArray 30)) ∧ Hid (Below W0.heap.size W0 W) ∧ Hid (W.heap[pb]? = some (.cells (KF 0 0).toArray 30 (0, 0))) := ⟨_, Lib.hid rfl, Lib.hid (HB2.out.alloc HB2.out.size _), Lib.hid (by rw [Hpb.out]; exact heap_alloc_new _ _)⟩
        have HPB : Hid (W0.heap.size ≤ pb) := Lib.hid (by rw [Hpb.out]; exact HB2.out.size)
        rw [← HV.out, ← Hpb.out]
        obtain ⟨B, HB⟩ : ∃ b, Hid (b = V.heap.size) := ⟨_, Lib.hid rfl⟩
        obtain ⟨W3, HW3, HB3, HR3, HO3, HS3⟩ : ∃ W, Hid (W = V.alloc (.cells #[] 3)) ∧ Hid (Below W0.heap.size W0 W) ∧ Hid (W.heap[pb]? = some (.cells (KF 0 0).toArray 30 (0, 0))) ∧ Hid (OwnI W B 3 .i64 (.slice (some ⟨B, 0, none⟩) 0 0) []) ∧ Hid (pb < B ∧ B < W.heap.size) := ⟨_, Lib.hid rfl, Lib.hid (HBV.out.alloc HBV.out.size _), Lib.hid ((heap_alloc_old _ _ (Array.getElem?_eq_some_iff.1 HRV.out).1).trans HRV.out), Lib.hid (by rw [HB.out]; exact OwnI.none V _ _), Lib.hid (by have := (Array.getElem?_eq_some_iff.1 HRV.out).1; rw [HB.out]; simp; omega)⟩
        go_upto_region 7 with (fail)
        rw [← HW3.out, ← HB.out]
        obtain ⟨i0, hi, hz0, hz1, hz2⟩ := info_parts info_i64
        have HIi := Lib.hid hi
        have HZ0 := Lib.hid hz0
        have HZ1 := Lib.hid hz1
        have HZ2 := Lib.hid hz2
        clear hi hz0 hz1 hz2
        go_wp2_with fail
        go_loopw [9, 10] (fun u i wr => ∃ (j q n : Nat) (us : List Int), j ≤ sc.length ∧ i = .int .i64 j ∧ q ≤ n ∧ n ≤ P ∧ us.length ≤ j ∧ Hid (OwnI wr B 3 .i64 u us) ∧ Hid (∀ x ∈ us, 0 ≤ x ∧ x < (q : Int)) ∧ Hid (wr.heap[pb]? = some (.cells (KF q n).toArray 30 (0, 0))) ∧ Hid (Below pb W3 wr)) (fun _ i _ => sc.length - (intOf i).toNat)
        case atStart => exact ⟨0, 0, 0, [], by omega, rfl, by omega, by omega, by simp, HO3, Lib.hid (by simp), HR3, Lib.hid (Below.refl _ _)⟩
        case round =>
          obtain ⟨j, q, n, us, hj, rfl, hq, hn, hul, HO, HUS, HR, HBW⟩ := hrel
          obtain ⟨ua, uc, rfl⟩ := HO.out.shape
          have HBW0 : Hid (Below W0.heap.size W0 wr) := Lib.hid (HB3.out.trans (HBW.out.mono HPB.out))
          have HPW : Hid (pb < wr.heap.size) := Lib.hid (Array.getElem?_eq_some_iff.1 HR.out).1
          have HTR : Hid (∀ w', Below wr.heap.size wr w' → Hid (w'.heap[pb]? = some (.cells (KF q n).toArray 30 (0, 0))) ∧ Hid (Below W0.heap.size W0 w') ∧ Hid (Below pb W3 w') ∧ Hid (OwnI w' B 3 .i64 (.slice ua us.length uc) us)) := Lib.hid (fun w' hb => ⟨Lib.hid ((hb.block _ HPW.out).trans HR.out), Lib.hid (HBW0.out.trans (hb.mono HBW0.out.size)), Lib.hid (HBW.out.trans (hb.mono (Nat.le_of_lt HPW.out))), Lib.hid (HO.out.later hb)⟩)
          by_cases hlt : j < sc.length
          · have hlti : (j : Int) < sc.length := by omega
            obtain ⟨sb, so, hta, _, _, hcell⟩ := (HT0.out.later HBW0.out).cellAt hlt
            subst hta
            have HCJ : Hid (∀ w', Below wr.heap.size wr w' → w'.cell? ⟨sb, so + j, none⟩ = some (.bool (sc.getD j false))) := Lib.hid (fun w' hb => by
              rw [hb.cell (World.block_lt_of_cell? _ _ (hcell j hlt))]
              exact hcell j hlt)
            have HRI := Lib.hid (fun w' => HK.out.right q n w' hq hn)
            have HPL := Lib.hid (HK.out.plain q n)
            clear hcell
            cases hb : sc.getD j false
            · rw [hb] at HCJ
              have hj12 : j ≤ 11 := by omega
              obtain ⟨tb, Htb⟩ : ∃ b : UInt8, Hid (b = UInt8.ofNat j) := ⟨_, Lib.hid rfl⟩
              by_cases hsp : q < P
              · obtain ⟨n', hn1, hn2, hsg⟩ := HK.out.more q n hsp hq hn
                have HSG := Lib.hid hsg
                clear hsg
                go_upto_region 15 with (first
                  | ((with_reducible refine at_load 30 _ rfl ?_); first | refine wpList_load_row rfl 30 _ rfl _ rfl _ (KF q n).toArray (0, 0) _ HR.out Try.underlying30 rfl (HK.out.info q n) ?_ | refine wpList_load_row rfl 30 _ rfl _ rfl _ (KF q n).toArray (0, 0) _ (HTR.out _ HC2.out).1.out Try.underlying30 rfl (HK.out.info q n) ?_)
                  | (go_at_call 9; refine (HPL.out wr).mono ?_; rintro e x1 ⟨rfl, b1⟩; have HC1 := Lib.hid b1; clear b1)
                  | (go_at_call 8; refine (HRI.out x1).mono ?_; rintro e x2 ⟨rfl, b2⟩; have HC2 := Lib.hid (HC1.out.trans (b2.mono HC1.out.size)); have hc2 := HCJ.out _ HC2.out; clear b2))
                obtain ⟨X, HX, HXC, HXT⟩ : ∃ W, Hid (W = x2.alloc (.cells #[.int .u8 (j : Int)] 5)) ∧ Hid (Below wr.heap.size wr W) ∧ Hid (Sl W (.slice (some ⟨x2.heap.size, 0, none⟩) 1 1) [UInt8.ofNat j]) := ⟨_, Lib.hid rfl, Lib.hid (HC2.out.alloc HC2.out.size _), Lib.hid (one_byteN x2 j (by omega))⟩
                rw [← HX.out]
                go_upto_region 16 with (first
                  | ((with_reducible refine at_load 30 _ rfl ?_); first | refine wpList_load_row rfl 30 _ rfl _ rfl _ (KF q n).toArray (0, 0) _ (HTR.out _ HXC.out).1.out Try.underlying30 rfl (HK.out.info q n) ?_)
                  | (go_at_call 11; refine (HSG.out _ _ X HXT.out (by simp)).mono ?_; rintro e x4 ⟨sgv, rfl, s4, b4⟩; have HC4 := Lib.hid (HXC.out.trans (b4.mono HXC.out.size)); have HX4 := Lib.hid b4; have HS4 := Lib.hid s4; clear b4 s4)
                  | ((with_reducible refine at_store 30 _ _ rfl ?_); refine wpList_store_new rfl 30 _ _ rfl (KF (q + 1) n').toArray rfl rfl 30 _ (HK.out.info (q + 1) n') (by rw [HK.out.size]; rfl) (HK.out.one (q + 1) n') ?_))
                obtain ⟨qb, Hqb⟩ : ∃ b, Hid (b = x4.heap.size) := ⟨_, Lib.hid rfl⟩
                obtain ⟨Y, HY, HYC, HYR, HYS, HYT⟩ : ∃ W, Hid (W = x4.alloc (.cells (KF (q + 1) n').toArray 30)) ∧ Hid (Below wr.heap.size wr W) ∧ Hid (W.heap[qb]? = some (.cells (KF (q + 1) n').toArray 30 (0, 0))) ∧ Hid (Sl W sgv (SG q [UInt8.ofNat j])) ∧ Hid (Sl W (.slice (some ⟨x2.heap.size, 0, none⟩) 1 1) [UInt8.ofNat j]) := ⟨_, Lib.hid rfl, Lib.hid (HC4.out.alloc HC4.out.size _), Lib.hid (by rw [Hqb.out]; exact heap_alloc_new _ _), Lib.hid (HS4.out.later ((Below.refl _ _).alloc (Nat.le_refl _) _)), Lib.hid ((HXT.out.later HX4.out).later ((Below.refl _ _).alloc (Nat.le_refl _) _))⟩
                rw [← HY.out, ← Hqb.out]
                have HLEF := Lib.hid (fun w' hv => HK.out.leaf q [UInt8.ofNat j] sgv w' hsp hv)
                have HOWN := Lib.hid (fun w' a b => HK.out.owns q n' (q + 1) [UInt8.ofNat j] (.slice (some ⟨x2.heap.size, 0, none⟩) 1 1) sgv w' hsp a (by simp) b)
                have HQF : Hid (∀ w', Below Y.heap.size Y w' → Hid (Below wr.heap.size wr w') ∧ Hid (w'.heap[qb]? = some (.cells (KF (q + 1) n').toArray 30 (0, 0))) ∧ Hid (w'.cell? ⟨qb, 51, none⟩ = some (.int .i64 n')) ∧ Hid (w'.cell? ⟨pb, 51, none⟩ = some (.int .i64 n))) := Lib.hid (fun w' hb => by
                  have h1 : Below wr.heap.size wr w' := HYC.out.trans (hb.mono HYC.out.size)
                  have h2 : w'.heap[qb]? = some (.cells (KF (q + 1) n').toArray 30 (0, 0)) := (hb.block _ (Array.getElem?_eq_some_iff.1 HYR.out).1).trans HYR.out
                  exact ⟨Lib.hid h1, Lib.hid h2, Lib.hid (HK.out.noted _ _ _ _ _ h2), Lib.hid (HK.out.noted _ _ _ _ _ (HTR.out _ h1).1.out)⟩)
                go_upto_region 22 with (first
                  | (go_at_call 13; refine (HLEF.out Y HYS.out).mono ?_; rintro e y1 ⟨rfl, b1⟩; have HY1 := Lib.hid b1; clear b1)
                  | ((with_reducible refine at_load 30 _ rfl ?_); first | refine wpList_load_want (by rfl) 30 _ rfl _ rfl _ (KF (q + 1) n').toArray (0, 0) _ (HQF.out _ HY1.out).2.1.out Try.underlying30 rfl (HK.out.info (q + 1) n') ?_)
                  | (go_at_call 14; refine (HOWN.out y1 (HYT.out.later HY1.out) (HYS.out.later HY1.out)).mono ?_; rintro e y2 ⟨rfl, b2⟩; have HY2 := Lib.hid (HY1.out.trans (b2.mono HY1.out.size)); have hcq := (HQF.out _ HY2.out).2.2.1.out; have hcp := (HQF.out _ HY2.out).2.2.2.out; clear b2))
                have HY2W := (HQF.out _ HY2.out).1
                have HOY := (HTR.out _ HY2W.out).2.2.2
                have HSI := Lib.hid HOY.out.sl
                have hl9 : (us.length : Int) ≤ 12 := by omega
                go_wp2_with fail
                go_loop [18] (fun i => ∃ m : Nat, m ≤ us.length ∧ i = .int .i64 m) (fun i => us.length - (intOf i).toNat)
                case atStart => exact ⟨0, by omega, rfl⟩
                case round =>
                  obtain ⟨m, hm, rfl⟩ := hrel
                  by_cases hml : m < us.length
                  · have hmi : (m : Int) < us.length := by omega
                    obtain ⟨ub, uo, rfl, _, _, hcu⟩ := HSI.out.cellAt hml
                    have hcm := hcu m hml
                    have hx := HUS.out (us.getD m 0) (by rw [List.getD_eq_getElem?_getD, List.getElem?_eq_getElem hml]; exact List.getElem_mem _)
                    generalize us.getD m 0 = ux at hcm hx
                    have hne : ¬ ux = (q : Int) := by omega
                    clear hcu
                    go_wp2_with fail
                    exact ⟨⟨m + 1, by omega, by go_num⟩, by simp [intOf]; omega⟩
                  · have hmi : ¬ (m : Int) < us.length := by omega
                    have HSQ := Lib.hid (one_i64 y2 (q : Int))
                    have HOA : Hid (OwnI (y2.alloc (.cells #[.int .i64 (q : Int)] 3)) B 3 .i64 (.slice ua us.length uc) us) := Lib.hid (HOY.out.later ((Below.refl _ _).alloc (Nat.le_refl _) _))
                    have HBa : Hid (B ≤ (y2.alloc (.cells #[.int .i64 (q : Int)] 3)).heap.size) := Lib.hid (by
                      have h1 := HY2W.out.size
                      have h2 := HBW.out.size
                      have h3 := HS3.out
                      simp
                      omega)
                    have HLL : Hid (us.length + [(q : Int)].length ≤ 1000000000) := Lib.hid (by simp; omega)
                    have HQO : Hid (∀ kk, (Value.slice ua us.length uc).ownBlock = some kk → kk ≠ qb) := Lib.hid (fun kk hkk => by
                      have h1 := (HO.out.lt kk hkk).2
                      have h2 := HC4.out.size
                      have h3 := Hqb.out
                      omega)
                    have HQA : Hid ((y2.alloc (.cells #[.int .i64 (q : Int)] 3)).heap[qb]? = some (.cells (KF (q + 1) n').toArray 30 (0, 0))) := Lib.hid ((heap_alloc_old _ _ (Array.getElem?_eq_some_iff.1 (HQF.out _ HY2.out).2.1.out).1).trans (HQF.out _ HY2.out).2.1.out)
                    have HE2 : Hid (Below pb W3 (y2.alloc (.cells #[.int .i64 (q : Int)] 3))) := Lib.hid ((HTR.out _ HY2W.out).2.2.1.out.alloc (Nat.le_trans (Nat.le_of_lt HPW.out) HY2W.out.size) _)
                    have HRA : Hid ((y2.alloc (.cells #[.int .i64 (q : Int)] 3)).heap[pb]? = some (.cells (KF q n).toArray 30 (0, 0))) := Lib.hid ((heap_alloc_old _ _ (Array.getElem?_eq_some_iff.1 (HTR.out _ HY2W.out).1.out).1).trans (HTR.out _ HY2W.out).1.out)
                    go_wp2_with (first
                      | (at_builtin; refine wpList_appendI rfl _ _ 34 3 rfl .i64 8 Try.underlying34 HIi.out HZ0.out HZ1.out HZ2.out (by decide) B _ us rfl HOA.out _ [(q : Int)] rfl HSQ.out HLL.out HBa.out ?_; intro v3 w3 hv3 hg3 hor3; have HV3 := Lib.hid hv3; have HBL := Lib.hid (HOA.out.below hg3 HBa.out); have HR3b := Lib.hid ((HBL.out.block _ HS3.out.1).trans HRA.out); have HE3b := Lib.hid (HE2.out.trans (HBL.out.mono (Nat.le_of_lt HS3.out.1))); have HQ3 := Lib.hid ((hg3.block qb (Array.getElem?_eq_some_iff.1 HQA.out).1 (fun hh => HQO.out qb hh.symm rfl)).trans HQA.out); clear hv3 hg3 hor3)
                      | ((with_reducible refine at_load 30 _ rfl ?_); refine wpList_load_row rfl 30 _ rfl _ rfl _ (KF (q + 1) n').toArray (0, 0) _ HQ3.out Try.underlying30 rfl (HK.out.info (q + 1) n') ?_)
                      | ((with_reducible refine at_store 30 _ _ rfl ?_); refine wpList_store_row rfl 30 _ _ rfl _ (KF (q + 1) n').toArray rfl rfl 30 _ HR3b.out (HK.out.info (q + 1) n') (by rw [HK.out.size, HK.out.size]) (HK.out.one (q + 1) n') ?_))
                    go_roundw
                    case rel => exact ⟨j + 1, q + 1, n', us ++ [(q : Int)], by omega, by go_num, hn1, hn2, by simp; omega, Lib.hid (HV3.out.row HS3.out.1 _), Lib.hid (fun x hx => by
                      rcases List.mem_append.1 hx with hx | hx
                      · have := HUS.out x hx; omega
                      · have := List.mem_singleton.1 hx; omega), Lib.hid (setRow_heap w3 pb _ _ _ _ HR3b.out), Lib.hid (below_setRow HE3b.out (Nat.le_refl _) _)⟩
                    case measure => simp [intOf]; omega
              · obtain rfl : q = P := by omega
                obtain rfl : n = q := by omega
                have HLF := Lib.hid (fun w' => HK.out.left n n w' (Nat.le_refl _))
                have HEQ := HK.out.eq n n
                have hz : (n : Int) - n = 0 := by omega
                rw [hz] at HLF
                have HSP := Lib.hid (HK.out.spent n)
                go_upto_region 15 with (first
                  | ((with_reducible refine at_load 30 _ rfl ?_); first | refine wpList_load_row rfl 30 _ rfl _ rfl _ (KF n n).toArray (0, 0) _ HR.out Try.underlying30 rfl (HK.out.info n n) ?_ | refine wpList_load_row rfl 30 _ rfl _ rfl _ (KF n n).toArray (0, 0) _ (HTR.out _ HC2.out).1.out Try.underlying30 rfl (HK.out.info n n) ?_)
                  | (go_at_call 9; refine (HPL.out wr).mono ?_; rintro e x1 ⟨rfl, b1⟩; have HC1 := Lib.hid b1; clear b1)
                  | (go_at_call 8; refine (HRI.out x1).mono ?_; rintro e x2 ⟨rfl, b2⟩; have HC2 := Lib.hid (HC1.out.trans (b2.mono HC1.out.size)); have hc2 := HCJ.out _ HC2.out; clear b2))
                obtain ⟨X, HX, HXC, HXT⟩ : ∃ W, Hid (W = x2.alloc (.cells #[.int .u8 (j : Int)] 5)) ∧ Hid (Below wr.heap.size wr W) ∧ Hid (Sl W (.slice (some ⟨x2.heap.size, 0, none⟩) 1 1) [UInt8.ofNat j]) := ⟨_, Lib.hid rfl, Lib.hid (HC2.out.alloc HC2.out.size _), Lib.hid (one_byteN x2 j (by omega))⟩
                rw [← HX.out]
                go_upto_region 16 with (first
                  | ((with_reducible refine at_load 30 _ rfl ?_); first | refine wpList_load_row rfl 30 _ rfl _ rfl _ (KF n n).toArray (0, 0) _ (HTR.out _ HXC.out).1.out Try.underlying30 rfl (HK.out.info n n) ?_)
                  | (go_at_call 11; refine (HSP.out _ _ X HXT.out).mono ?_; rintro e x4 ⟨rfl, b4⟩; have HC4 := Lib.hid (HXC.out.trans (b4.mono HXC.out.size)); clear b4)
                  | ((with_reducible refine at_store 30 _ _ rfl ?_); refine wpList_store_new rfl 30 _ _ rfl (KF n n).toArray rfl rfl 30 _ (HK.out.info n n) (by rw [HK.out.size]; rfl) (HK.out.one n n) ?_))
                obtain ⟨qb, Hqb⟩ : ∃ b, Hid (b = x4.heap.size) := ⟨_, Lib.hid rfl⟩
                obtain ⟨Y, HY, HYC, HYR⟩ : ∃ W, Hid (W = x4.alloc (.cells (KF n n).toArray 30)) ∧ Hid (Below wr.heap.size wr W) ∧ Hid (W.heap[qb]? = some (.cells (KF n n).toArray 30 (0, 0))) := ⟨_, Lib.hid rfl, Lib.hid (HC4.out.alloc HC4.out.size _), Lib.hid (by rw [Hqb.out]; exact heap_alloc_new _ _)⟩
                rw [← HY.out, ← Hqb.out]
                go_wp2_with (first
                  | ((with_reducible refine at_load 30 _ rfl ?_); first | refine wpList_load_want (by rfl) 30 _ rfl _ rfl _ (KF n n).toArray (0, 0) _ (HTR.out _ HYC.out).1.out Try.underlying30 rfl (HK.out.info n n) ?_ | refine wpList_load_want (by rfl) 30 _ rfl _ rfl _ (KF n n).toArray (0, 0) _ ((HZY.out.block _ (Array.getElem?_eq_some_iff.1 HYR.out).1).trans HYR.out) Try.underlying30 rfl (HK.out.info n n) ?_ | refine wpList_load_want (by rfl) 30 _ rfl _ rfl _ (KF n n).toArray (0, 0) _ (HTR.out _ HZC.out).1.out Try.underlying30 rfl (HK.out.info n n) ?_)
                  | (go_at_call 12; refine (HLF.out Y).mono ?_; rintro e Z ⟨rfl, bz⟩; have HZC := Lib.hid (HYC.out.trans (bz.mono HYC.out.size)); have HZY := Lib.hid bz; clear bz))
                go_roundw
                case rel => exact ⟨j + 1, n, n, us, by omega, by go_num, Nat.le_refl _, hn, by omega, (HTR.out _ HZC.out).2.2.2, HUS, (HTR.out _ HZC.out).1, (HTR.out _ HZC.out).2.2.1⟩
                case measure => simp [intOf]; omega
            · rw [hb] at HCJ
              have HCR := Lib.hid (HK.out.crash q n)
              go_wp2_with (first
                | ((with_reducible refine at_load 30 _ rfl ?_); first | refine wpList_load_row rfl 30 _ rfl _ rfl _ (KF q n).toArray (0, 0) _ HR.out Try.underlying30 rfl (HK.out.info q n) ?_ | refine wpList_load_row rfl 30 _ rfl _ rfl _ (KF q n).toArray (0, 0) _ (HTR.out _ HC2.out).1.out Try.underlying30 rfl (HK.out.info q n) ?_)
                | (go_at_call 9; refine (HPL.out wr).mono ?_; rintro e x1 ⟨rfl, b1⟩; have HC1 := Lib.hid b1; clear b1)
                | (go_at_call 8; refine (HRI.out x1).mono ?_; rintro e x2 ⟨rfl, b2⟩; have HC2 := Lib.hid (HC1.out.trans (b2.mono HC1.out.size)); have hc2 := HCJ.out _ HC2.out; clear b2)
                | (go_at_call 10; refine (HCR.out x2).mono ?_; rintro e x3 ⟨rfl, b3⟩; have HC3 := Lib.hid (HC2.out.trans (b3.mono HC2.out.size)); obtain ⟨HR3', HA3, HE3, HO3'⟩ := HTR.out _ HC3.out; clear b3)
                | ((with_reducible refine at_store 30 _ _ rfl ?_); refine wpList_store_row rfl 30 _ _ rfl _ (KF n n).toArray rfl rfl 30 _ HR3'.out (HK.out.info n n) (by rw [HK.out.size, HK.out.size]) (HK.out.one n n) ?_))
              go_roundw
              case rel => exact ⟨j + 1, n, n, us, by omega, by go_num, Nat.le_refl _, hn, by omega, Lib.hid (HO3'.out.row HS3.out.1 _), Lib.hid (fun x hx => by have := HUS.out x hx; omega), Lib.hid (setRow_heap x3 pb _ _ _ _ HR3'.out), Lib.hid (below_setRow HE3.out (Nat.le_refl _) _)⟩
              case measure => simp [intOf]; omega
          · have hge : ¬ (j : Int) < sc.length := by omega
            have HLF := Lib.hid (fun w' => HK.out.left q n w' (Nat.le_trans hq hn))
            go_upto_region 29 with (fail)
            try simp only [Act.put]
            by_cases hu : us.length = 0
            · have hbe : Hid (((us.length : Int) == 0) = true) := Lib.hid (by simp [hu])
              clear hu
              refine Wild.region_b (fun k => match k with | 0 => some (.fix (.bool true)) | _ => none) (fun _ => []) rfl (by kernel_rfl) (fun vs hvs => ?_)
              have v0 : vs 0 = .bool true := hvs 0 _ rfl
              refine Wild.walk_wild _ rfl (by rfl) (fun w' hw K hK => ?_) ?_
              · go_simp
                go_at_call 6
                refine (HAL.out w').mono ?_
                rintro e w'' ⟨rfl, hb⟩
                exact hK.out _ _ (hw.1.trans (hb.mono hw.1.size)) hb rfl trivial
              rw [v0]
              simp only [Act.put, List.setIfInBounds_toArray, List.set_cons_zero, List.set_cons_succ]
              refine Wild.walk_simple rfl (by rfl) (by rfl) (fun K hK => ?_); go_big_quiet_op; first | (refine hK _ ?_; clear hK K) | (refine ⟨_, fun _ _ => rfl, hK _ ?_⟩; clear hK K)
              refine Wild.walk_simple rfl (by rfl) (by rfl) (fun K hK => ?_); go_big_quiet_op; first | (refine hK _ ?_; clear hK K) | (refine ⟨_, fun _ _ => rfl, hK _ ?_⟩; clear hK K)
              refine Wild.walk_run (.int .i64 (us.length)) rfl (by rfl) (fun w' _ => ?_) ?_
              · unfold execOp
                go_simp
              simp only [Act.put, List.setIfInBounds_toArray, List.set_cons_zero, List.set_cons_succ]
              refine Wild.walk_simple rfl (by rfl) (by rfl) (fun K hK => ?_); go_big_quiet_op; first | (refine hK _ ?_; clear hK K) | (refine ⟨_, fun _ _ => rfl, hK _ ?_⟩; clear hK K)
              try simp only [hbe.out]
              refine Wild.walk_simple rfl (by rfl) (by rfl) (fun K hK => ?_); go_big_quiet_op; first | (refine hK _ ?_; clear hK K) | (refine ⟨_, fun _ _ => rfl, hK _ ?_⟩; clear hK K)
              refine Wild.walk_skip rfl (by rfl) ?_
              simp only [Act.put, List.setIfInBounds_toArray, List.set_cons_zero, List.set_cons_succ]
              refine Wild.walk_skip rfl (by rfl) ?_
              simp only [Act.put, List.setIfInBounds_toArray, List.set_cons_zero, List.set_cons_succ]
              refine Wild.walk_skip rfl (by rfl) ?_
              simp only [Act.put, List.setIfInBounds_toArray, List.set_cons_zero, List.set_cons_succ]
              refine Wild.walk_skip rfl (by rfl) ?_
              simp only [Act.put, List.setIfInBounds_toArray, List.set_cons_zero, List.set_cons_succ]
              refine Wild.walk_skip rfl (by rfl) ?_
              simp only [Act.put, List.setIfInBounds_toArray, List.set_cons_zero, List.set_cons_succ]
              refine Wild.walk_skip rfl (by rfl) ?_
              simp only [Act.put, List.setIfInBounds_toArray, List.set_cons_zero, List.set_cons_succ]
              refine Wild.walk_simple rfl (by rfl) (by rfl) (fun K hK => ?_); go_big_quiet_op; first | (refine hK _ ?_; clear hK K) | (refine ⟨_, fun _ _ => rfl, hK _ ?_⟩; clear hK K)
              refine Wild.walk_simple rfl (by rfl) (by rfl) (fun K hK => ?_); go_big_quiet_op; first | (refine hK _ ?_; clear hK K) | (refine ⟨_, fun _ _ => rfl, hK _ ?_⟩; clear hK K)
              refine Wild.walk_simple rfl (by rfl) (by rfl) (fun K hK => ?_); go_big_quiet_op; first | (refine hK _ ?_; clear hK K) | (refine ⟨_, fun _ _ => rfl, hK _ ?_⟩; clear hK K)
              refine Wild.walk_nil ?_
              intro wX hwX _
              have HCX : Hid (Below W0.heap.size W0 wX) := Lib.hid (HTR.out wX hwX).2.1.out
              clear hwX hvs
              go_wp2_with fail
              go_ret
              exact ⟨rfl, HB0.out.trans (HCX.out.mono HB0.out.size)⟩
            · have hbe : Hid (((us.length : Int) == 0) = false) := Lib.hid (by simpa using hu)
              have hq0 : 0 < q := by
                cases us with
                | nil => exact absurd rfl hu
                | cons x xs => have := HUS.out x (by simp); omega
              have hP32 : P ≤ 32 := by
                rw [HP.out]
                exact Nat.le_trans (Nat.pow_le_pow_right (by decide) hH) (by decide)
              have hwr : Hid (wrap64 ((2 : Int) ^ H) = (P : Int)) := Lib.hid (by
                have h1 : ((2 : Int) ^ H) = ((2 ^ H : Nat) : Int) := by simp
                rw [h1, ← HP.out]
                unfold wrap64
                omega)
              have hdl : Hid (decide ((P : Int) - q < P) = true) := Lib.hid (decide_eq_true (by omega))
              clear hu hq0 hP32
              refine Wild.region_b (fun k => match k with | 0 => some (.fix (.bool true)) | 7 => some (.fix (.int .i64 (P - q))) | _ => none) (fun _ => []) rfl (by kernel_rfl) (fun vs hvs => ?_)
              have v0 : vs 0 = .bool true := hvs 0 _ rfl
              have v7 : vs 7 = .int .i64 (P - q) := hvs 7 _ rfl
              refine Wild.walk_wild _ rfl (by rfl) (fun w' hw K hK => ?_) ?_
              · go_simp
                go_at_call 6
                refine (HAL.out w').mono ?_
                rintro e w'' ⟨rfl, hb⟩
                exact hK.out _ _ (hw.1.trans (hb.mono hw.1.size)) hb rfl trivial
              rw [v0]
              simp only [Act.put, List.setIfInBounds_toArray, List.set_cons_zero, List.set_cons_succ]
              refine Wild.walk_simple rfl (by rfl) (by rfl) (fun K hK => ?_); go_big_quiet_op; first | (refine hK _ ?_; clear hK K) | (refine ⟨_, fun _ _ => rfl, hK _ ?_⟩; clear hK K)
              refine Wild.walk_simple rfl (by rfl) (by rfl) (fun K hK => ?_); go_big_quiet_op; first | (refine hK _ ?_; clear hK K) | (refine ⟨_, fun _ _ => rfl, hK _ ?_⟩; clear hK K)
              refine Wild.walk_run (.int .i64 (us.length)) rfl (by rfl) (fun w' _ => ?_) ?_
              · unfold execOp
                go_simp
              simp only [Act.put, List.setIfInBounds_toArray, List.set_cons_zero, List.set_cons_succ]
              refine Wild.walk_simple rfl (by rfl) (by rfl) (fun K hK => ?_); go_big_quiet_op; first | (refine hK _ ?_; clear hK K) | (refine ⟨_, fun _ _ => rfl, hK _ ?_⟩; clear hK K)
              try simp only [hbe.out]
              refine Wild.walk_simple rfl (by rfl) (by rfl) (fun K hK => ?_); go_big_quiet_op; first | (refine hK _ ?_; clear hK K) | (refine ⟨_, fun _ _ => rfl, hK _ ?_⟩; clear hK K)
              refine Wild.walk_load 30 _ _ _ (KF q n) _ rfl (by rfl) rfl rfl (fun w' hw => rangeAt_row (HTR.out w' hw.1).1.out) Try.underlying30 rfl (HK.out.infoL q n) ?_
              simp only [Act.put, List.setIfInBounds_toArray, List.set_cons_zero, List.set_cons_succ]
              refine Wild.walk_wild _ rfl (by rfl) (fun w' hw K hK => ?_) ?_
              · go_simp
                go_at_call 12
                refine (HLF.out w').mono ?_
                rintro e w'' ⟨rfl, hb⟩
                exact hK.out _ _ (hw.1.trans (hb.mono hw.1.size)) hb rfl trivial
              rw [v7]
              simp only [Act.put, List.setIfInBounds_toArray, List.set_cons_zero, List.set_cons_succ]
              refine Wild.walk_simple rfl (by rfl) (by rfl) (fun K hK => ?_); go_big_quiet_op; first | (refine hK _ ?_; clear hK K) | (refine ⟨_, fun _ _ => rfl, hK _ ?_⟩; clear hK K)
              refine Wild.walk_cell 3 _ _ _ (.int .i64 H) _ rfl (by rfl) rfl rfl (fun w' hw => HTH.out w' (HTR.out w' hw.1).2.1.out) Try.underlying3 rfl ?_
              simp only [Act.put, List.setIfInBounds_toArray, List.set_cons_zero, List.set_cons_succ]
              refine Wild.walk_simple rfl (by rfl) (by rfl) (fun K hK => ?_); go_big_quiet_op; first | (refine hK _ ?_; clear hK K) | (refine ⟨_, fun _ _ => rfl, hK _ ?_⟩; clear hK K)
              try simp only [hwr.out]
              refine Wild.walk_simple rfl (by rfl) (by rfl) (fun K hK => ?_); go_big_quiet_op; first | (refine hK _ ?_; clear hK K) | (refine ⟨_, fun _ _ => rfl, hK _ ?_⟩; clear hK K)
              try simp only [hdl.out]
              refine Wild.walk_simple rfl (by rfl) (by rfl) (fun K hK => ?_); go_big_quiet_op; first | (refine hK _ ?_; clear hK K) | (refine ⟨_, fun _ _ => rfl, hK _ ?_⟩; clear hK K)
              refine Wild.walk_simple rfl (by rfl) (by rfl) (fun K hK => ?_); go_big_quiet_op; first | (refine hK _ ?_; clear hK K) | (refine ⟨_, fun _ _ => rfl, hK _ ?_⟩; clear hK K)
              refine Wild.walk_simple rfl (by rfl) (by rfl) (fun K hK => ?_); go_big_quiet_op; first | (refine hK _ ?_; clear hK K) | (refine ⟨_, fun _ _ => rfl, hK _ ?_⟩; clear hK K)
              refine Wild.walk_nil ?_
              intro wX hwX _
              have HCX : Hid (Below W0.heap.size W0 wX) := Lib.hid (HTR.out wX hwX).2.1.out
              clear hwX hvs
              go_wp2_with fail
              go_ret
              exact ⟨rfl, HB0.out.trans (HCX.out.mono HB0.out.size)⟩
    · have hti : ¬ (sc.length : Int) ≤ 12 := by omega
      clear hI hS hk
      go_enter Try.func3, Try.ntmps3
      go_upto_region 1 with (fail)
      rw [← HW0.out]
      go_wp2_with (first
        | ((with_reducible refine at_load 25 _ rfl ?_); first | refine wpList_load_row rfl 25 _ rfl _ rfl _ (TreeV I S k h).toArray (0, 0) _ HR0.out Try.underlying25 rfl IT.out ?_)
        | (go_at_call 5; refine (HLO.out W0).mono ?_; rintro e w1 ⟨rfl, b1⟩; have HB1 := Lib.hid b1; clear b1)
        | (go_at_call 6; refine (HAL.out w1).mono ?_; rintro e w2 ⟨rfl, b2⟩; have HB2 := Lib.hid (HB1.out.trans (b2.mono HB1.out.size)); clear b2))
      go_ret
      exact ⟨rfl, HB0.out.trans (HB2.out.mono HB0.out.size)⟩
end Go.Proofs.Ytcnelahmbfggcaa


/- The walks of ots.four and (Key).hash. -/
import Derived.Test.YtcnelahmbfggcaaShaH
import Derived.Test.YtcnelahmbfggcaaKit2
import Derived.Test.YtcnelahmbfggcaaTail
import Derived.Test.YtcnelahmbfggcaaArr8
import Derived.Test.YtcnelahmbfggcaaG1
namespace Go.Proofs.Ytcnelahmbfggcaa
open Go Go.RowKit
set_option maxRecDepth 100000
set_option maxHeartbeats 1000000

/-- a number in four bytes -/
def fourN (q : Nat) : List UInt8 := [UInt8.ofNat (q / 16777216), UInt8.ofNat (q / 65536), UInt8.ofNat (q / 256), UInt8.ofNat q]
def twoN (n : Nat) : List UInt8 := [UInt8.ofNat (n / 256), UInt8.ofNat n]
/-- a key's cells -/
def KeyV (I S : List UInt8) (q : Nat) (d : Int) : List Value := B8 I ++ .int .u32 q :: (B8 S ++ [.int .i64 d])
theorem KeyV_length (I S : List UInt8) (q : Nat) (d : Int) (hI : I.length = 16) (hS : S.length = 32) : (KeyV I S q d).length = 50 := by simp [KeyV, B8_length, hI, hS]
/-- a row of rows of bytes -/
def Rows (w : World) (v : Value) (ls : List (List UInt8)) : Prop :=
  ∃ b off cap, v = .slice (some ⟨b, off, none⟩) ls.length cap ∧ ls.length ≤ cap ∧ cap ≤ maxLen ∧ ∀ i, i < ls.length → ∃ u, w.cell? ⟨b, off + i, none⟩ = some u ∧ Sl w u (ls.getD i [])
theorem Rows.later {w w' : World} {v : Value} {ls : List (List UInt8)} (h : Rows w v ls) (hb : Below w.heap.size w w') : Rows w' v ls := by
  obtain ⟨b, off, cap, h1, h2, h3, h4⟩ := h
  refine ⟨b, off, cap, h1, h2, h3, fun i hi => ?_⟩
  obtain ⟨u, k1, k2⟩ := h4 i hi
  exact ⟨u, by rw [hb.cell (World.block_lt_of_cell? _ _ k1)]; exact k1, k2.later hb⟩

theorem four_any (q : Nat) (w : World) (hq : q < 4294967296) : Calls Try.prog 39 #[.int .u32 q] w fun e w' => ∃ a, e = .returned (.slice a 4 4) ∧ Sl w' (.slice a 4 4) (fourN q) ∧ Below w.heap.size w w' := by
  obtain ⟨a, ha⟩ : ∃ a, a = q / 16777216 := ⟨_, rfl⟩
  obtain ⟨b, hb⟩ : ∃ b, b = q / 65536 % 256 := ⟨_, rfl⟩
  obtain ⟨c, hc⟩ : ∃ c, c = q / 256 % 256 := ⟨_, rfl⟩
  obtain ⟨d, hd⟩ : ∃ d, d = q % 256 := ⟨_, rfl⟩
  have HF : Hid (#[Value.int .u8 a, .int .u8 b, .int .u8 c, .int .u8 d] = (B8 (fourN q)).toArray) := Lib.hid (by
    have h1 : q / 16777216 % 256 = q / 16777216 := by omega
    simp [fourN, B8, bn, ha, hb, hc, hd, h1])
  have ha' : (q : Int) / 16777216 = a := by omega
  have hb' : (q : Int) / 65536 % 256 = b := by omega
  have hc' : (q : Int) / 256 % 256 = c := by omega
  have hd' : (q : Int) % 256 = d := by omega
  have HS : Hid (Sl (w.alloc (.cells #[.int .u8 a, .int .u8 b, .int .u8 c, .int .u8 d] 5)) (.slice (some ⟨w.heap.size, 0, none⟩) 4 4) (fourN q)) := Lib.hid (Sl.made w (fourN q) _ _ _ _ HF.out rfl (by decide) rfl)
  clear ha hb hc hd
  go_enter Try.func39, Try.ntmps39
  go_wp2_with fail
  go_ret
  exact ⟨_, rfl, HS.out, (Below.refl _ _).alloc (Nat.le_refl _) _⟩

theorem key_I {t : TypeId} {w : World} {b : Nat} {I S : List UInt8} {q : Nat} {d : Int} (h : w.heap[b]? = some (.cells (KeyV I S q d).toArray t (0, 0))) (hI : I.length = 16) : Sl w (.slice (some ⟨b, 0, none⟩) 16 16) I :=
  Sl.ofBlock h hI.symm (Nat.le_refl _) (by simp [maxLen]) fun i hi => by
    rw [Nat.zero_add, List.getElem?_toArray, KeyV, List.getElem?_append_left (by rw [B8_length]; exact hi)]
theorem key_S {t : TypeId} {w : World} {b : Nat} {I S : List UInt8} {q : Nat} {d : Int} (h : w.heap[b]? = some (.cells (KeyV I S q d).toArray t (0, 0))) (hI : I.length = 16) (hS : S.length = 32) : Sl w (.slice (some ⟨b, 17, none⟩) 32 32) S :=
  Sl.ofBlock h hS.symm (Nat.le_refl _) (by simp [maxLen]) fun i hi => by
    rw [List.getElem?_toArray, KeyV, List.getElem?_append_right (by rw [B8_length]; omega), B8_length, hI, show 17 + i - 16 = i + 1 by omega, List.getElem?_cons_succ, List.getElem?_append_left (by rw [B8_length]; exact hi)]
theorem key_Q {t : TypeId} {w : World} {b : Nat} {I S : List UInt8} {q : Nat} {d : Int} (h : w.heap[b]? = some (.cells (KeyV I S q d).toArray t (0, 0))) (hI : I.length = 16) : w.cell? ⟨b, 16, none⟩ = some (.int .u32 q) := by
  rw [cell_of_row w b 16 _ _ (0, 0) h, List.getElem?_toArray, KeyV, List.getElem?_append_right (by rw [B8_length]; omega), B8_length, hI]
  rfl
theorem key_W {t : TypeId} {w : World} {b : Nat} {I S : List UInt8} {q : Nat} {d : Int} (h : w.heap[b]? = some (.cells (KeyV I S q d).toArray t (0, 0))) (hI : I.length = 16) (hS : S.length = 32) : w.cell? ⟨b, 49, none⟩ = some (.int .i64 d) := by
  rw [cell_of_row w b 49 _ _ (0, 0) h, List.getElem?_toArray, KeyV, List.getElem?_append_right (by rw [B8_length]; omega), B8_length, hI, show 49 - 16 = 32 + 1 by omega, List.getElem?_cons_succ, List.getElem?_append_right (by rw [B8_length]; omega), B8_length, hS]
  rfl

theorem Sl.shape {w : World} {v : Value} {l : List UInt8} (h : Sl w v l) : ∃ a c, v = .slice a l.length c := by
  rcases h with ⟨rfl, a, c, rfl⟩ | ⟨b, off, cap, rfl, _⟩
  · exact ⟨a, c, rfl⟩
  · exact ⟨_, cap, rfl⟩
theorem take_snocL {α : Type} (ls : List (List α)) (j : Nat) (hj : j < ls.length) : (ls.take (j + 1)).flatten = (ls.take j).flatten ++ ls.getD j [] := by
  rw [List.take_add_one, List.flatten_append]
  simp [hj]
theorem take_flat_le {α : Type} (ls : List (List α)) (j : Nat) : (ls.take j).flatten.length ≤ ls.flatten.length := by
  have h : ls.flatten = (ls.take j).flatten ++ (ls.drop j).flatten := by rw [← List.flatten_append, List.take_append_drop]
  rw [h, List.length_append]
  omega

theorem hash_any (I S : List UInt8) (q : Nat) (d : Int) (two : Nat) (mv : Value) (ls : List (List UInt8)) (w : World) (hI : I.length = 16) (hS : S.length = 32) (hq : q < 4294967296) (h2 : two < 65536) (hm : Rows w mv ls) (hl : ls.flatten.length ≤ 10000000) :
    Calls Try.prog 38 #[.agg (KeyV I S q d).toArray, .int .i64 two, mv] w fun e w' => e = .returned (.agg (B8 (sha (I ++ fourN q ++ twoN two ++ ls.flatten))).toArray) ∧ Below w.heap.size w w' := by
  obtain ⟨W0, HW0, HB0, HS0, HR0⟩ : ∃ V, Hid (V = w.alloc (.cells (KeyV I S q d).toArray 63)) ∧ Hid (Below w.heap.size w V) ∧ Hid (V.heap.size = w.heap.size + 1) ∧ Hid (V.heap[w.heap.size]? = some (.cells (KeyV I S q d).toArray 63 (0, 0))) := ⟨_, Lib.hid rfl, Lib.hid ((Below.refl _ _).alloc (Nat.le_refl _) _), Lib.hid (by simp), Lib.hid (heap_alloc_new _ _)⟩
  obtain ⟨V, HV, HVB, HVS, HVR⟩ : ∃ V, Hid (V = W0.alloc (.cells (Array.replicate 32 (.int .u8 0)) 23)) ∧ Hid (Below w.heap.size w V) ∧ Hid (V.heap.size = w.heap.size + 2) ∧ Hid (V.heap[w.heap.size]? = some (.cells (KeyV I S q d).toArray 63 (0, 0))) :=
    ⟨_, Lib.hid rfl, Lib.hid (HB0.out.alloc HB0.out.size _), Lib.hid (by simp [HS0.out]), Lib.hid ((heap_alloc_old _ _ (by rw [HS0.out]; omega)).trans HR0.out)⟩
  obtain ⟨H, HH⟩ : ∃ H, Hid (H = I ++ fourN q ++ twoN two) := ⟨_, Lib.hid rfl⟩
  rw [← HH.out]
  obtain ⟨mb, mo, mc, rfl, hm1, hm2, hm3⟩ := hm
  have HM := Lib.hid hm3
  have HI := Lib.hid hI
  have HS := Lib.hid hS
  have hlm : ls.length ≤ 9223372036854775807 := by unfold maxLen at hm2; omega
  have hmc : ls.length ≤ mc := hm1
  obtain ⟨n, HN⟩ : ∃ n, Hid (n = ls.length) := ⟨_, Lib.hid rfl⟩
  have HL := Lib.hid hl
  rw [← HN.out] at hlm hmc ⊢
  clear hm1 hm2 hm3 hl hI hS
  go_enter Try.func38, Try.ntmps38
  go_upto_region 1 with (fail)
  rw [← HW0.out]
  change Code.wp _ _ _ _ (W0.alloc (.cells (Array.replicate 32 (.int .u8 0)) 23))
  rw [← HV.out]
  go_wp2_with fail
  refine (New_any V).mono ?_
  rintro e w1 ⟨p, rfl, s1, b1⟩
  have HR1 : Hid (w1.heap[w.heap.size]? = some (.cells (KeyV I S q d).toArray 63 (0, 0))) := Lib.hid ((b1.block _ (by rw [HVS.out]; omega)).trans HVR.out)
  have HS1 := Lib.hid s1
  have HB1 := Lib.hid b1
  clear s1 b1
  go_wp2_with fail
  refine (Write_any p V.heap.size [] I _ w1 HS1.out (key_I HR1.out HI.out) (by simp [HI.out]) HB1.out.size).mono ?_
  rintro e w2 ⟨rfl, s2, b2⟩
  rw [List.nil_append] at s2
  have HS2 := Lib.hid s2
  have HB2 := Lib.hid (HB1.out.trans b2)
  have HR2 : Hid (w2.heap[w.heap.size]? = some (.cells (KeyV I S q d).toArray 63 (0, 0))) := Lib.hid ((b2.block _ (by rw [HVS.out]; omega)).trans HR1.out)
  have hq2 := key_Q HR2.out HI.out
  clear s2 b2
  go_wp2_with (go_at_call 39; refine (four_any q w2 hq).mono ?_; rintro e w3 ⟨a3, rfl, s3, b3⟩; have HF3 := Lib.hid s3; have HB3 := Lib.hid b3; clear s3 b3)
  have HS3 := Lib.hid (HS2.out.later HB3.out)
  have HC3 := Lib.hid (HB2.out.trans (HB3.out.mono HB2.out.size))
  refine (Write_any p V.heap.size I (fourN q) _ w3 HS3.out HF3.out (by simp [HI.out, fourN]) HC3.out.size).mono ?_
  rintro e w4 ⟨rfl, s4, b4⟩
  have HS4 := Lib.hid s4
  have HB4 := Lib.hid (HC3.out.trans b4)
  clear s4 b4 hq2
  obtain ⟨t1, ht1⟩ : ∃ t1, t1 = two / 256 := ⟨_, rfl⟩
  obtain ⟨t0, ht0⟩ : ∃ t0, t0 = two % 256 := ⟨_, rfl⟩
  have HF : Hid (#[Value.int .u8 t1, .int .u8 t0] = (B8 (twoN two)).toArray) := Lib.hid (by
    have h1 : two / 256 % 256 = two / 256 := by omega
    simp [twoN, B8, bn, ht1, ht0, h1])
  have ht1' : (two : Int) / 256 = t1 := by omega
  have ht0' : (two : Int) % 256 = t0 := by omega
  have ht1b : t1 < 256 := by omega
  have ht0b : t0 < 256 := by omega
  have ht2' : (t1 : Int) % 256 = t1 := by omega
  have HF5 : Hid (Sl (w4.alloc (.cells #[.int .u8 t1, .int .u8 t0] 5)) (.slice (some ⟨w4.heap.size, 0, none⟩) 2 2) (twoN two)) := Lib.hid (Sl.made w4 (twoN two) _ _ _ _ HF.out rfl (by decide) rfl)
  have HS5 : Hid (SumsAt (w4.alloc (.cells #[.int .u8 t1, .int .u8 t0] 5)) p V.heap.size (I ++ fourN q)) := Lib.hid (HS4.out.later ((Below.refl _ _).alloc (Nat.le_refl _) _))
  have HB5 : Hid (Below V.heap.size V (w4.alloc (.cells #[.int .u8 t1, .int .u8 t0] 5))) := Lib.hid (HB4.out.alloc HB4.out.size _)
  clear ht1 ht0
  go_wp2_with fail
  refine (Write_any p V.heap.size (I ++ fourN q) (twoN two) _ _ HS5.out HF5.out (by simp [HI.out, fourN, twoN]) HB5.out.size).mono ?_
  rintro e w6 ⟨rfl, s6, b6⟩
  have HHL : Hid (H.length = 22) := Lib.hid (by rw [HH.out]; simp [HI.out, fourN, twoN])
  rw [← HH.out] at s6
  have HS6 := Lib.hid s6
  have HB6 := Lib.hid (HB5.out.trans b6)
  clear s6 b6 ht1' ht0' ht1b ht0b ht2'
  go_wp2_with fail
  go_loopw [30] (fun i wr => ∃ j : Nat, j ≤ n ∧ i = .int .i64 j ∧ Hid (SumsAt wr p V.heap.size (H ++ (ls.take j).flatten)) ∧ Hid (Below V.heap.size V wr)) (fun i _ => n - (intOf i).toNat)
  case atStart => exact ⟨0, by omega, rfl, Lib.hid (by simpa using HS6.out), HB6⟩
  case round =>
    obtain ⟨j, hj, rfl, HSJ, HBJ⟩ := hrel
    by_cases hlt : j < n
    · obtain ⟨u, k1, k2⟩ := HM.out j (by rw [← HN.out]; exact hlt)
      have HBW : Hid (Below w.heap.size w wr) := Lib.hid (HVB.out.trans (HBJ.out.mono HVB.out.size))
      have HUS := Lib.hid (k2.later HBW.out)
      have k3 : wr.cell? ⟨mb, mo + j, none⟩ = some u := by rw [HBW.out.cell (World.block_lt_of_cell? _ _ k1)]; exact k1
      have HT := Lib.hid (take_snocL ls j (by rw [← HN.out]; exact hlt))
      have HTL := Lib.hid (take_flat_le ls (j + 1))
      obtain ⟨ua, uc, rfl⟩ := Sl.shape k2
      have hlt' : (j : Int) < n := by omega
      clear k1 k2
      go_wp2_with fail
      refine (Write_any p V.heap.size (H ++ (ls.take j).flatten) (ls.getD j []) _ wr HSJ.out HUS.out (by have := HTL.out; rw [HT.out, List.length_append] at this; have := HL.out; rw [List.length_append, HHL.out]; omega) HBJ.out.size).mono ?_
      rintro e w7 ⟨rfl, s7, b7⟩
      rw [List.append_assoc, ← HT.out] at s7
      have HS7 := Lib.hid s7
      have HB7 := Lib.hid (HBJ.out.trans b7)
      clear s7 b7
      go_wp2_with fail
      go_roundw
      case rel => exact ⟨j + 1, by omega, by go_num, HS7, HB7⟩
      case measure => simp [intOf]; omega
    · obtain rfl : j = n := by omega
      rw [List.take_of_length_le (by rw [HN.out]; exact Nat.le_refl _)] at HSJ
      go_wp2_with fail
      refine (SSum_any p V.heap.size (H ++ ls.flatten) wr HSJ.out (by have := HL.out; rw [List.length_append, HHL.out]; omega)).mono ?_
      rintro e w8 ⟨rfl, b8⟩
      have h5 := hash_store (w := W0) (sha (H ++ ls.flatten)) (sha_length _) (by rw [← HV.out]; have := HBJ.out.trans (b8.mono HBJ.out.size); rwa [show V.heap.size = W0.heap.size + 1 by rw [HVS.out, HS0.out]] at this)
      rw [HS0.out] at h5
      obtain ⟨h1, h2, h3, h4, h5, h6⟩ := h5
      have K1 := Lib.hid h1
      have K2 := Lib.hid h2
      have K3 := Lib.hid h3
      have K4 := Lib.hid h4
      have K5 := Lib.hid (HB0.out.trans (h5.mono (by omega)))
      have K6 := Lib.hid h6
      clear h1 h2 h3 h4 h5 h6 b8
      go_wp2_with (refine wpList_store_row rfl 23 _ _ rfl _ (B8 (sha (H ++ ls.flatten))).toArray rfl rfl 23 _ K1.out K2.out K3.out K4.out ?_)
      exact bodyPost_ret (results_cell_row rfl _ _ (w.heap.size + 1) 23 _ (0, 0) _ rfl K6.out Try.underlying23 rfl K2.out) rfl ⟨rfl, K5.out⟩
end Go.Proofs.Ytcnelahmbfggcaa

/- A table of what is known of a drawn region's values, and the laws with it: the region's operations only read or make memory, and perhaps a last one follows behind all. No condition. -/
namespace Go.Proofs.Ytcnelahmbfggcaa
open Go Go.RowKit
set_option maxRecDepth 100000
namespace Wild

structure Ent where
  pure : Value → Prop
  dflt : Value
  fact : Value → World → Prop
  later : ∀ v w w', fact v w → Below w.heap.size w w' → fact v w'
  ok : pure dflt
def Ent.fix (v : Value) : Ent := ⟨(· = v), v, fun _ _ => True, fun _ _ _ _ _ => trivial, rfl⟩
def Ent.sl (l : List UInt8) : Ent := ⟨fun _ => True, undef, fun v w => Sl w v l, fun _ _ _ h hb => h.later hb, trivial⟩
def Ent.rows (ls : List (List UInt8)) : Ent := ⟨fun _ => True, undef, fun v w => Rows w v ls, fun _ _ _ h hb => h.later hb, trivial⟩
def Ent.var (t : TypeId) (Z : Array Value) (B : Nat) : Ent := ⟨fun _ => True, undef, fun v w => ∃ b : Nat, v = .pointer (some ⟨b, 0, none⟩) ∧ B ≤ b ∧ w.heap[b]? = some (.cells Z t (0, 0)),
  fun _ _ _ ⟨b, h1, h2, h3⟩ hb => ⟨b, h1, h2, (hb.block b (Array.getElem?_eq_some_iff.1 h3).1).trans h3⟩, trivial⟩
def tab (T : Nat → Option Ent) (use : Nat → List Nat) : Spec where
  pure := fun k => (T k).map (·.pure)
  dflt := fun k => match T k with | some e => e.dflt | none => undef
  fact := fun k vs w => match T k with | some e => e.fact (vs k) w | none => True
  use := use
variable {T : Nat → Option Ent} {use : Nat → List Nat}
theorem tab_later : ∀ k vs w w', (tab T use).fact k vs w → Below w.heap.size w w' → (tab T use).fact k vs w' := by
  intro k vs w w' h hb
  simp only [tab] at *
  cases e : T k with
  | none => trivial
  | some x => rw [e] at h; exact x.later _ _ _ h hb
theorem tab_loc : ∀ k (vs vs' : Nat → Value) w, vs k = vs' k → (∀ m ∈ (tab T use).use k, ((tab T use).pure m).isSome = true → vs m = vs' m) → (tab T use).fact k vs w → (tab T use).fact k vs' w := by
  intro k vs vs' w he _ h
  simp only [tab] at *
  rw [← he]
  exact h
theorem tab_dflt : ∀ k p, (tab T use).pure k = some p → p ((tab T use).dflt k) := by
  intro k p h
  simp only [tab] at *
  cases e : T k with
  | none => rw [e] at h; cases h
  | some x => rw [e] at h; cases h; exact x.ok
theorem tab_pure {k : Nat} {e : Ent} (h : T k = some e) : (tab T use).pure k = some e.pure := by simp [tab, h]
theorem tab_fact {k : Nat} {e : Ent} {vs : Nat → Value} {w : World} (h : T k = some e) (hf : (tab T use).fact k vs w) : e.fact (vs k) w := by
  simp only [tab, h] at hf; exact hf

abbrev CB (w : World) (w' : World) : Prop := Below w.heap.size w w'
abbrev GB (w w' : World) : Prop := Below w.heap.size w w'
/-- the last operation behind all others -/
theorem region_tail_b {P : Program} {id : Nat} {Q : Exit → Act → World → Prop} {a : Act} {w : World} {m : List Oper} {o : Oper} (n : Nat) (T : Nat → Option Ent) (use : Nat → List Nat) (hn : m.length = n + 1) (ho : m[n]? = some o) (hg : o.guard = none) (hm : P.follows .mixedOrders = true) (hB : okB (m.take n).toArray use = true) (hL : lastB (m.take n) o = true)
    (h : ∀ vs : Nat → Value, (∀ k e, T k = some e → e.pure (vs k)) → walk P (m.take n).toArray (CB w) GB (tab T use) vs (fun a' => ∀ w', CB w w' → (∀ j e, T j = some e → j < n → e.fact (vs j) w') → o.wp P a' w' (Q .normal) Q) (m.take n) 0 a) : (Code.region id m.toArray true).wp P Q a w :=
  region_tail n (tab T use) (CB w) GB hn ho hg hm hB hL ((Below.refl _ _).drew) tab_later tab_loc tab_dflt fun vs hvs => by
    have h1 := h vs fun k e he => hvs k _ (tab_pure he)
    have e : (fun a' : Act => ∀ w', CB w w' → (∀ j, ((tab T use).pure j).isSome = true → j < n → (tab T use).fact j vs w') → o.wp P a' w' (Q .normal) Q) = (fun a' : Act => ∀ w', CB w w' → (∀ j e, T j = some e → j < n → e.fact (vs j) w') → o.wp P a' w' (Q .normal) Q) := by
      funext a'
      apply propext
      constructor
      · intro h2 w' hc hf
        refine h2 w' hc fun j hj hjn => ?_
        simp only [tab] at hj ⊢
        cases e : T j with
        | none => trivial
        | some x => exact hf j x e hjn
      · intro h2 w' hc hf
        exact h2 w' hc fun j e he hjn => tab_fact he (hf j (by rw [tab_pure he]; rfl) hjn)
    rw [e]
    exact h1
theorem region_tail2_b {P : Program} {id : Nat} {Q : Exit → Act → World → Prop} {a : Act} {w : World} {m : List Oper} {o o2 : Oper} (n : Nat) (T : Nat → Option Ent) (use : Nat → List Nat) (hn : m.length = n + 2) (ho : m[n]? = some o) (ho2 : m[n + 1]? = some o2) (hg : o.guard = none) (hg2 : o2.guard = none) (hm : P.follows .mixedOrders = true)
    (hB : okB (m.take n).toArray use = true) (hL : lastB (m.take n) o = true) (hL2 : lastB (m.take n ++ [o]) o2 = true)
    (h : ∀ vs : Nat → Value, (∀ k e, T k = some e → e.pure (vs k)) → walk P (m.take n).toArray (CB w) GB (tab T use) vs (fun a' => ∀ w', CB w w' → (∀ j e, T j = some e → j < n → e.fact (vs j) w') → o.wp P a' w' (fun a2 w2 => o2.wp P a2 w2 (Q .normal) Q) (fun _ _ _ => False)) (m.take n) 0 a) : (Code.region id m.toArray true).wp P Q a w :=
  region_tail2 n (tab T use) (CB w) GB hn ho ho2 hg hg2 hm hB hL hL2 ((Below.refl _ _).drew) tab_later tab_loc tab_dflt fun vs hvs => by
    have h1 := h vs fun k e he => hvs k _ (tab_pure he)
    have e : (fun a' : Act => ∀ w', CB w w' → (∀ j, ((tab T use).pure j).isSome = true → j < n → (tab T use).fact j vs w') → o.wp P a' w' (fun a2 w2 => o2.wp P a2 w2 (Q .normal) Q) (fun _ _ _ => False)) = (fun a' : Act => ∀ w', CB w w' → (∀ j e, T j = some e → j < n → e.fact (vs j) w') → o.wp P a' w' (fun a2 w2 => o2.wp P a2 w2 (Q .normal) Q) (fun _ _ _ => False)) := by
      funext a'
      apply propext
      constructor
      · intro h2 w' hc hf
        refine h2 w' hc fun j hj hjn => ?_
        simp only [tab] at hj ⊢
        cases e : T j with
        | none => trivial
        | some x => exact hf j x e hjn
      · intro h2 w' hc hf
        exact h2 w' hc fun j e he hjn => tab_fact he (hf j (by rw [tab_pure he]; rfl) hjn)
    rw [e]
    exact h1
/-- no last operation -/
theorem region_b {P : Program} {id : Nat} {Q : Exit → Act → World → Prop} {a : Act} {w : World} {l : List Oper} (T : Nat → Option Ent) (use : Nat → List Nat) (hm : P.follows .mixedOrders = true) (hB : okB l.toArray use = true)
    (h : ∀ vs : Nat → Value, (∀ k e, T k = some e → e.pure (vs k)) → walk P l.toArray (CB w) GB (tab T use) vs (fun a' => ∀ w', CB w w' → (∀ m, ((tab T use).pure m).isSome = true → m < l.length → (tab T use).fact m vs w') → Q .normal a' w') l 0 a) : (Code.region id l.toArray true).wp P Q a w :=
  region (tab T use) (CB w) GB hm hB ((Below.refl _ _).drew) tab_later tab_loc tab_dflt fun vs hvs => h vs fun k _ he => hvs k _ (tab_pure he)
end Wild
theorem Rows.two {w : World} {u1 u2 : Value} {l1 l2 : List UInt8} (t : TypeId) (h1 : Sl w u1 l1) (h2 : Sl w u2 l2) : Rows (w.alloc (.cells #[u1, u2] t)) (.slice (some ⟨w.heap.size, 0, none⟩) 2 2) [l1, l2] := by
  have hb : Below w.heap.size w (w.alloc (.cells #[u1, u2] t)) := (Below.refl _ _).alloc (Nat.le_refl _) _
  refine ⟨w.heap.size, 0, 2, rfl, Nat.le_refl _, by simp [maxLen], fun i hi => ?_⟩
  match i, hi with
  | 0, _ => exact ⟨u1, by rw [cell_of_row _ _ _ _ _ (0, 0) (heap_alloc_new w _)]; rfl, h1.later hb⟩
  | 1, _ => exact ⟨u2, by rw [cell_of_row _ _ _ _ _ (0, 0) (heap_alloc_new w _)]; rfl, h2.later hb⟩
theorem Rows.one {w : World} {u1 : Value} {l1 : List UInt8} (t : TypeId) (h1 : Sl w u1 l1) : Rows (w.alloc (.cells #[u1] t)) (.slice (some ⟨w.heap.size, 0, none⟩) 1 1) [l1] := by
  have hb : Below w.heap.size w (w.alloc (.cells #[u1] t)) := (Below.refl _ _).alloc (Nat.le_refl _) _
  refine ⟨w.heap.size, 0, 1, rfl, Nat.le_refl _, by simp [maxLen], fun i hi => ?_⟩
  match i, hi with
  | 0, _ => exact ⟨u1, by rw [cell_of_row _ _ _ _ _ (0, 0) (heap_alloc_new w _)]; rfl, h1.later hb⟩
theorem below_row {B b : Nat} {a w : World} (h : Below B a w) (hb : B ≤ b) (c : Array Value) : Below B a (w.setRow b c) :=
  ⟨h.os, h.tape, h.output, by simpa using h.size, fun k hk => by rw [setRow_other _ _ _ _ (by omega)]; exact h.block k hk⟩
theorem rangeAt_row {w : World} {b : Nat} {t : TypeId} {cs : List Value} (h : w.heap[b]? = some (.cells cs.toArray t (0, 0))) : w.rangeAt b 0 cs := fun j v hj => by
  rw [cell_of_row w b (0 + j) _ t (0, 0) h, Nat.zero_add, List.getElem?_toArray]; exact hj
theorem rangeAt_blw {w w' : World} {b o : Nat} {cs : List Value} (h : w.rangeAt b o cs) (hb : Below w.heap.size w w') : w'.rangeAt b o cs := fun j v hj => by
  have := h j v hj
  rw [hb.cell (World.block_lt_of_cell? _ _ this)]; exact this
end Go.Proofs.Ytcnelahmbfggcaa

/- The walks of (Key).secret and (Key).chain. -/
namespace Go.Proofs.Ytcnelahmbfggcaa
open Go Go.RowKit
set_option maxRecDepth 100000
set_option maxHeartbeats 1000000

theorem info_key : (Try.prog.info? 63).map (·.size) = some 50 := by kernel_rfl
/-- a sum behind a key's head -/
def hashN (I : List UInt8) (q two : Nat) (ls : List (List UInt8)) : List UInt8 := sha (I ++ fourN q ++ twoN two ++ ls.flatten)
def secretN (I S : List UInt8) (q i : Nat) : List UInt8 := hashN I q i [[255], S]

theorem secret_any (I S : List UInt8) (q : Nat) (d : Int) (i : Nat) (w : World) (hI : I.length = 16) (hS : S.length = 32) (hq : q < 4294967296) (h2 : i < 65536) :
    Calls Try.prog 42 #[.agg (KeyV I S q d).toArray, .int .i64 i] w fun e w' => e = .returned (.agg (B8 (secretN I S q i)).toArray) ∧ Below w.heap.size w w' := by
  obtain ⟨W0, HW0, HB0, HS0, HR0⟩ : ∃ V, Hid (V = w.alloc (.cells (KeyV I S q d).toArray 63)) ∧ Hid (Below w.heap.size w V) ∧ Hid (V.heap.size = w.heap.size + 1) ∧ Hid (V.heap[w.heap.size]? = some (.cells (KeyV I S q d).toArray 63 (0, 0))) := ⟨_, Lib.hid rfl, Lib.hid ((Below.refl _ _).alloc (Nat.le_refl _) _), Lib.hid (by simp), Lib.hid (heap_alloc_new _ _)⟩
  obtain ⟨V, HV, HVB, HVS, HVR⟩ : ∃ V, Hid (V = W0.alloc (.cells (Array.replicate 32 (.int .u8 0)) 23)) ∧ Hid (Below w.heap.size w V) ∧ Hid (V.heap.size = w.heap.size + 2) ∧ Hid (V.heap[w.heap.size]? = some (.cells (KeyV I S q d).toArray 63 (0, 0))) :=
    ⟨_, Lib.hid rfl, Lib.hid (HB0.out.alloc HB0.out.size _), Lib.hid (by simp [HS0.out]), Lib.hid ((heap_alloc_old _ _ (by rw [HS0.out]; omega)).trans HR0.out)⟩
  have IK : Hid ((Try.prog.info? 63).map (·.size) = some (KeyV I S q d).length) := Lib.hid (by rw [info_key, KeyV_length _ _ _ _ hI hS])
  have HH := Lib.hid (fun mv w' (h : Rows w' mv [[255], S]) => hash_any I S q d i mv [[255], S] w' hI hS hq h2 h (by simp [hS]))
  obtain ⟨R, HR⟩ : ∃ R, Hid (R = secretN I S q i) := ⟨_, Lib.hid rfl⟩
  have HRL : Hid (R.length = 32) := Lib.hid (by rw [HR.out]; exact sha_length _)
  rw [← HR.out]
  have HI := Lib.hid hI
  have HS := Lib.hid hS
  clear hI hS
  go_enter Try.func42, Try.ntmps42
  go_upto_region 1 with (fail)
  rw [← HW0.out]
  change Code.wp _ _ _ _ (W0.alloc (.cells (Array.replicate 32 (.int .u8 0)) 23))
  rw [← HV.out]
  refine Wild.region_tail_b 7 (fun k => match k with | 2 => some (.sl [255]) | 5 => some (.rows [[255], S]) | 6 => some (.fix (.agg (B8 R).toArray)) | _ => none) (fun k => match k with | 5 => [2] | 6 => [5] | _ => []) rfl rfl rfl (by kernel_rfl) (by kernel_rfl) (by kernel_rfl) (fun vs hvs => ?_)
  have h6 : vs 6 = .agg (B8 R).toArray := hvs 6 _ rfl
  simp only [List.take_succ_cons, List.take_zero]
  refine Wild.walk_load 63 _ _ _ (KeyV I S q d) _ rfl (by rfl) rfl rfl (fun w hw => rangeAt_blw (rangeAt_row HVR.out) hw.1) Try.underlying63 rfl IK.out ?_
  simp only [Act.put, List.setIfInBounds_toArray, List.set_cons_zero, List.set_cons_succ]
  repeat (refine Wild.walk_simple rfl (by rfl) (by rfl) (fun K hK => ?_); go_big_quiet_op; first | (refine hK _ ?_; clear hK K) | (refine ⟨_, fun _ _ => rfl, hK _ ?_⟩; clear hK K))
  refine Wild.walk_wild _ rfl (by rfl) (fun w' hw K hK => ?_) ?_
  · go_simp
    exact hK.out (.slice (some ⟨w'.heap.size, 0, none⟩) 1 1) _ (hw.1.alloc hw.1.size _) ((Below.refl _ _).alloc (Nat.le_refl _) _) trivial (Sl.made w' [255] _ _ _ _ rfl rfl (by decide) rfl)
  simp only [Act.put, List.setIfInBounds_toArray, List.set_cons_zero, List.set_cons_succ]
  repeat (refine Wild.walk_simple rfl (by rfl) (by rfl) (fun K hK => ?_); go_big_quiet_op; first | (refine hK _ ?_; clear hK K) | (refine ⟨_, fun _ _ => rfl, hK _ ?_⟩; clear hK K))
  refine Wild.walk_wild _ rfl (by rfl) (fun w' hw K hK => ?_) ?_
  · have h2 : Sl w' (vs 2) [255] := hw.2 2 (by simp [Wild.tab]) rfl
    obtain ⟨a2, c2, e2⟩ := Sl.shape h2
    rw [e2] at h2
    rw [show vs (0 + 1 + 1) = .slice a2 1 c2 from e2] at hK ⊢
    clear e2
    go_simp
    have h3 : Sl w' (.slice (some ⟨w.heap.size, 17, none⟩) 32 32) S := key_S ((hw.1.block _ (by rw [HVS.out]; omega)).trans HVR.out) HI.out HS.out
    exact hK.out (.slice (some ⟨w'.heap.size, 0, none⟩) 2 2) _ (hw.1.alloc hw.1.size _) ((Below.refl _ _).alloc (Nat.le_refl _) _) trivial (Rows.two _ h2 h3)
  simp only [Act.put, List.setIfInBounds_toArray, List.set_cons_zero, List.set_cons_succ]
  refine Wild.walk_wild _ rfl (by rfl) (fun w' hw K hK => ?_) ?_
  · go_simp
    go_at_call 38
    refine (HH.out _ w' (hw.2 5 (by simp [Wild.tab]) rfl)).mono ?_
    rintro e w'' ⟨rfl, hb⟩
    exact hK.out _ _ (hw.1.trans (hb.mono hw.1.size)) hb (by rw [HR.out]; rfl) trivial
  rw [h6]
  simp only [Act.put, List.setIfInBounds_toArray, List.set_cons_zero, List.set_cons_succ]
  refine Wild.walk_nil ?_
  intro w7 hw7 _
  have h5 := hash_store (w := W0) R HRL.out (by rw [← HV.out]; have : Below V.heap.size V w7 := hw7; rwa [show V.heap.size = W0.heap.size + 1 by rw [HVS.out, HS0.out]] at this)
  rw [HS0.out] at h5
  obtain ⟨h1, h2, h3, h4, h5, h6⟩ := h5
  have K5 := HB0.out.trans (h5.mono (by omega))
  refine wp_store_row 23 _ _ rfl _ (B8 R).toArray rfl rfl 23 _ h1 h2 h3 h4 ?_
  go_wp2_with fail
  exact bodyPost_ret (results_cell_row rfl _ _ (w.heap.size + 1) 23 _ (0, 0) _ rfl h6 Try.underlying23 rfl h2) rfl ⟨rfl, K5⟩

/-- n steps of a chain -/
def chainN (I : List UInt8) (q i : Nat) (x : List UInt8) (j : Nat) : Nat → List UInt8
  | 0 => x
  | n + 1 => hashN I q i [[UInt8.ofNat (j + n)], chainN I q i x j n]
theorem chainN_length (I : List UInt8) (q i : Nat) (x : List UInt8) (j n : Nat) (hx : x.length = 32) : (chainN I q i x j n).length = 32 := by
  cases n with
  | zero => exact hx
  | succ n => exact sha_length _

theorem chain_any (I S : List UInt8) (q : Nat) (d : Int) (i a b : Nat) (x : List UInt8) (w : World) (hI : I.length = 16) (hS : S.length = 32) (hq : q < 4294967296) (h2 : i < 65536) (hab : a ≤ b) (hb : b ≤ 255) (hx : x.length = 32) :
    Calls Try.prog 41 #[.agg (KeyV I S q d).toArray, .int .i64 i, .int .i64 a, .int .i64 b, .agg (B8 x).toArray] w fun e w' => e = .returned (.agg (B8 (chainN I q i x a (b - a))).toArray) ∧ Below w.heap.size w w' := by
  obtain ⟨W0, HW0, HB0, HS0, HR0⟩ : ∃ V, Hid (V = w.alloc (.cells (KeyV I S q d).toArray 63)) ∧ Hid (Below w.heap.size w V) ∧ Hid (V.heap.size = w.heap.size + 1) ∧ Hid (V.heap[w.heap.size]? = some (.cells (KeyV I S q d).toArray 63 (0, 0))) := ⟨_, Lib.hid rfl, Lib.hid ((Below.refl _ _).alloc (Nat.le_refl _) _), Lib.hid (by simp), Lib.hid (heap_alloc_new _ _)⟩
  obtain ⟨W1, HW1, HB1, HS1, HR1, HX1⟩ : ∃ V, Hid (V = W0.alloc (.cells (B8 x).toArray 23)) ∧ Hid (Below w.heap.size w V) ∧ Hid (V.heap.size = w.heap.size + 2) ∧ Hid (V.heap[w.heap.size]? = some (.cells (KeyV I S q d).toArray 63 (0, 0))) ∧ Hid (V.heap[w.heap.size + 1]? = some (.cells (B8 x).toArray 23 (0, 0))) :=
    ⟨_, Lib.hid rfl, Lib.hid (HB0.out.alloc HB0.out.size _), Lib.hid (by simp [HS0.out]), Lib.hid ((heap_alloc_old _ _ (by rw [HS0.out]; omega)).trans HR0.out), Lib.hid (by rw [← HS0.out]; exact heap_alloc_new _ _)⟩
  obtain ⟨V, HV, HVB, HVS, HVR, HVX, HVZ⟩ : ∃ V, Hid (V = W1.alloc (.cells (Array.replicate 32 (.int .u8 0)) 23)) ∧ Hid (Below w.heap.size w V) ∧ Hid (V.heap.size = w.heap.size + 3) ∧ Hid (V.heap[w.heap.size]? = some (.cells (KeyV I S q d).toArray 63 (0, 0))) ∧ Hid (V.heap[w.heap.size + 1]? = some (.cells (B8 x).toArray 23 (0, 0))) ∧ Hid (V.heap[w.heap.size + 2]? = some (.cells (Array.replicate 32 (.int .u8 0)) 23 (0, 0))) :=
    ⟨_, Lib.hid rfl, Lib.hid (HB1.out.alloc HB1.out.size _), Lib.hid (by simp [HS1.out]), Lib.hid ((heap_alloc_old _ _ (by rw [HS1.out]; omega)).trans HR1.out), Lib.hid ((heap_alloc_old _ _ (by rw [HS1.out]; omega)).trans HX1.out), Lib.hid (by rw [← HS1.out]; exact heap_alloc_new _ _)⟩
  have IK : Hid ((Try.prog.info? 63).map (·.size) = some (KeyV I S q d).length) := Lib.hid (by rw [info_key, KeyV_length _ _ _ _ hI hS])
  have HH := Lib.hid (fun y z mv w' (hz : z.length = 32) (h : Rows w' mv [[y], z]) => hash_any I S q d i mv [[y], z] w' hI hS hq h2 h (by simp [hz]))
  have HC := Lib.hid (fun n => chainN_length I q i x a n hx)
  have HI := Lib.hid hI
  have HS := Lib.hid hS
  obtain ⟨Z, HZN⟩ : ∃ Z, Hid (Z = chainN I q i x a (b - a)) := ⟨_, Lib.hid rfl⟩
  rw [← HZN.out]
  clear hI hS hx
  go_enter Try.func41, Try.ntmps41
  go_upto_region 1 with (fail)
  rw [← HW0.out, ← HW1.out]
  change Code.wp _ _ _ _ (W1.alloc (.cells (Array.replicate 32 (.int .u8 0)) 23))
  rw [← HV.out]
  go_wp2_with fail
  go_loopw [11] (fun i' wr => ∃ c : Nat, a ≤ c ∧ c ≤ b ∧ i' = .int .i64 c ∧ Hid (wr.heap[w.heap.size]? = some (.cells (KeyV I S q d).toArray 63 (0, 0))) ∧ Hid (wr.heap[w.heap.size + 1]? = some (.cells (B8 (chainN I q i x a (c - a))).toArray 23 (0, 0))) ∧ Hid (wr.heap[w.heap.size + 2]? = some (.cells (Array.replicate 32 (.int .u8 0)) 23 (0, 0))) ∧ Hid (Below w.heap.size w wr)) (fun i' _ => b - (intOf i').toNat)
  case atStart => exact ⟨a, by omega, hab, rfl, HVR, by rw [Nat.sub_self]; exact HVX, HVZ, HVB⟩
  case round =>
    obtain ⟨c, hac, hcb, rfl, HKR, HXR, HZR, HBR⟩ := hrel
    by_cases hlt : c < b
    · have hlt' : (c : Int) < b := by omega
      have hc1 : (c : Int) % 256 = c := by omega
      obtain ⟨X, HX⟩ : ∃ X, Hid (X = chainN I q i x a (c - a)) := ⟨_, Lib.hid rfl⟩
      obtain ⟨R, HR⟩ : ∃ R, Hid (R = chainN I q i x a (c + 1 - a)) := ⟨_, Lib.hid rfl⟩
      have HRV : Hid (R = hashN I q i [[UInt8.ofNat c], X]) := Lib.hid (by rw [HR.out, HX.out, show c + 1 - a = (c - a) + 1 by omega, chainN, show a + (c - a) = c by omega])
      have HXL : Hid (X.length = 32) := Lib.hid (by rw [HX.out]; exact HC.out _)
      have HRL : Hid (R.length = 32) := Lib.hid (by rw [HR.out]; exact HC.out _)
      rw [← HX.out] at HXR
      have HCB : Hid (#[Value.int .u8 (c : Int)] = (B8 [UInt8.ofNat c]).toArray) := Lib.hid (by
        have : c % 256 = c := by omega
        simp [B8, bn, this])
      have hsz : Hid (w.heap.size + 2 < wr.heap.size) := Lib.hid (Array.getElem?_eq_some_iff.1 HZR.out).1
      go_upto_region 4 with (fail)
      refine Wild.region_tail_b 8 (fun k => match k with | 4 => some (.sl [UInt8.ofNat c]) | 6 => some (.rows [[UInt8.ofNat c], X]) | 7 => some (.fix (.agg (B8 R).toArray)) | _ => none) (fun k => match k with | 6 => [4] | 7 => [6] | _ => []) rfl rfl rfl (by kernel_rfl) (by kernel_rfl) (by kernel_rfl) (fun vs hvs => ?_)
      have h7 : vs 7 = .agg (B8 R).toArray := hvs 7 _ rfl
      simp only [List.take_succ_cons, List.take_zero]
      refine Wild.walk_load 63 _ _ _ (KeyV I S q d) _ rfl (by rfl) rfl rfl (fun w hw => rangeAt_blw (rangeAt_row HKR.out) hw.1) Try.underlying63 rfl IK.out ?_
      simp only [Act.put, List.setIfInBounds_toArray, List.set_cons_zero, List.set_cons_succ]
      repeat (refine Wild.walk_simple rfl (by rfl) (by rfl) (fun K hK => ?_); go_big_quiet_op; first | (refine hK _ ?_; clear hK K) | (refine ⟨_, fun _ _ => rfl, hK _ ?_⟩; clear hK K))
      refine Wild.walk_wild _ rfl (by rfl) (fun w' hw K hK => ?_) ?_
      · go_simp
        exact hK.out (.slice (some ⟨w'.heap.size, 0, none⟩) 1 1) _ (hw.1.alloc hw.1.size _) ((Below.refl _ _).alloc (Nat.le_refl _) _) trivial (Sl.made w' [UInt8.ofNat c] _ _ _ _ HCB.out rfl (by decide) rfl)
      simp only [Act.put, List.setIfInBounds_toArray, List.set_cons_zero, List.set_cons_succ]
      repeat (refine Wild.walk_simple rfl (by rfl) (by rfl) (fun K hK => ?_); go_big_quiet_op; first | (refine hK _ ?_; clear hK K) | (refine ⟨_, fun _ _ => rfl, hK _ ?_⟩; clear hK K))
      refine Wild.walk_wild _ rfl (by rfl) (fun w' hw K hK => ?_) ?_
      · have h2 : Sl w' (vs 4) [UInt8.ofNat c] := hw.2 4 (by simp [Wild.tab]) rfl
        obtain ⟨a2, c2, e2⟩ := Sl.shape h2
        rw [e2] at h2
        rw [show vs (0 + 1 + 1 + 1 + 1) = .slice a2 1 c2 from e2] at hK ⊢
        clear e2
        go_simp
        have h3 : Sl w' (.slice (some ⟨w.heap.size + 1, 0, none⟩) 32 32) X := Sl.ofBlock ((hw.1.block _ (by have := hsz.out; omega)).trans HXR.out) HXL.out.symm (Nat.le_refl _) (by simp [maxLen]) (fun i _ => by rw [Nat.zero_add, List.getElem?_toArray])
        exact hK.out (.slice (some ⟨w'.heap.size, 0, none⟩) 2 2) _ (hw.1.alloc hw.1.size _) ((Below.refl _ _).alloc (Nat.le_refl _) _) trivial (Rows.two _ h2 h3)
      simp only [Act.put, List.setIfInBounds_toArray, List.set_cons_zero, List.set_cons_succ]
      refine Wild.walk_wild _ rfl (by rfl) (fun w' hw K hK => ?_) ?_
      · go_simp
        go_at_call 38
        refine (HH.out _ X _ w' HXL.out (hw.2 6 (by simp [Wild.tab]) rfl)).mono ?_
        rintro e w'' ⟨rfl, hb⟩
        exact hK.out _ _ (hw.1.trans (hb.mono hw.1.size)) hb (by rw [HRV.out]; rfl) trivial
      rw [h7]
      simp only [Act.put, List.setIfInBounds_toArray, List.set_cons_zero, List.set_cons_succ]
      refine Wild.walk_nil ?_
      intro w7 hw7 _
      have hw7' : Below wr.heap.size wr w7 := hw7
      have hX7 := (hw7'.block (w.heap.size + 1) (by have := hsz.out; omega)).trans HXR.out
      have hZ7 := (hw7'.block (w.heap.size + 2) hsz.out).trans HZR.out
      have hK7 := (hw7'.block w.heap.size (by have := hsz.out; omega)).trans HKR.out
      have HB8 : Hid (Below w.heap.size w (w7.setRow (w.heap.size + 1) (B8 R).toArray)) := Lib.hid (below_row (HBR.out.trans (hw7'.mono (by have := hsz.out; omega))) (by omega) _)
      have HX8 : Hid ((w7.setRow (w.heap.size + 1) (B8 R).toArray).heap[w.heap.size + 1]? = some (.cells (B8 (chainN I q i x a (c + 1 - a))).toArray 23 (0, 0))) := Lib.hid (by rw [← HR.out]; exact setRow_heap _ _ _ _ _ _ hX7)
      have HZ8 : Hid ((w7.setRow (w.heap.size + 1) (B8 R).toArray).heap[w.heap.size + 2]? = some (.cells (Array.replicate 32 (.int .u8 0)) 23 (0, 0))) := Lib.hid ((setRow_other _ _ _ _ (by omega)).trans hZ7)
      have HK8 : Hid ((w7.setRow (w.heap.size + 1) (B8 R).toArray).heap[w.heap.size]? = some (.cells (KeyV I S q d).toArray 63 (0, 0))) := Lib.hid ((setRow_other _ _ _ _ (by omega)).trans hK7)
      refine wp_store_row 23 _ _ rfl _ (B8 R).toArray rfl rfl 23 _ hX7 (by rw [info_32]; simp [B8_length, HRL.out]) (by simp [B8_length, HXL.out, HRL.out]) (B8_oneA R) ?_
      clear hX7 hZ7 hK7 hw7' hw7 h7 hvs
      go_wp2_with fail
      go_roundw
      case rel => exact ⟨c + 1, by omega, by omega, by go_num, HK8, HX8, HZ8, HB8⟩
      case measure => simp [intOf]; omega
    · obtain rfl : c = b := by omega
      have HXL : Hid (Z.length = 32) := Lib.hid (by rw [HZN.out]; exact HC.out _)
      rw [← HZN.out] at HXR
      have I32 : Hid ((Try.prog.info? 23).map (·.size) = some (B8 Z).toArray.size) := Lib.hid (by rw [info_32]; simp [B8_length, HXL.out])
      go_wp2_with (first
        | refine wpList_load_row rfl 23 _ rfl _ rfl _ (B8 Z).toArray (0, 0) _ HXR.out Try.underlying23 rfl I32.out ?_
        | refine wpList_store_row rfl 23 _ _ rfl _ (B8 Z).toArray rfl rfl 23 _ HZR.out I32.out (by simp [B8_length, HXL.out]) (B8_oneA Z) ?_)
      exact bodyPost_ret (results_cell_row rfl _ _ (w.heap.size + 2) 23 _ (0, 0) _ rfl (setRow_heap _ _ _ _ _ _ HZR.out) Try.underlying23 rfl I32.out) rfl ⟨rfl, below_row HBR.out (by omega) _⟩
end Go.Proofs.Ytcnelahmbfggcaa

/- The walks of ots.many, Long, (Key).isDigit, (Key).last. -/
namespace Go.Proofs.Ytcnelahmbfggcaa
open Go Go.RowKit
set_option maxRecDepth 100000
set_option maxHeartbeats 1000000

theorem Own_0 (n : Int) (hw : ¬ isW n = true) : ownW n = 0 := by
  have hw' : isW n = false := by simpa using hw
  simp [ownW, hw']
theorem many_any (n : Int) (w : World) (hn : -9223372036854775808 ≤ n ∧ n ≤ 9223372036854775807) :
    Calls Try.prog 47 #[.int .i64 n] w fun e w' => e = .returned (.tuple #[.int .i64 (if isW n then ownW n + chkW n else 0), .int .i64 (errW n)]) ∧ Below w.heap.size w w' := by
  have H1 := Lib.hid (Own_any n w hn)
  have H2 := Lib.hid (fun w' => Check_any n w' hn)
  by_cases hw : isW n = true
  · obtain ⟨k, rfl⟩ : ∃ k : Nat, n = k := ⟨n.toNat, by rcases (isW_iff n).1 hw with h | h | h | h <;> omega⟩
    have hk : k = 1 ∨ k = 2 ∨ k = 4 ∨ k = 8 := by rcases (isW_iff _).1 hw with h | h | h | h <;> omega
    obtain ⟨e1, e2, e3, e4⟩ := own_of k hk
    rw [if_pos hw, e1, e2, e4]
    rw [e1, e4] at H1
    rw [e2, e4] at H2
    obtain ⟨own, hown⟩ : ∃ own, own = 256 / k := ⟨_, rfl⟩
    obtain ⟨chk, hchk⟩ : ∃ chk, chk = chkN k := ⟨_, rfl⟩
    have hob : own ≤ 256 := by rw [hown]; rcases hk with rfl | rfl | rfl | rfl <;> decide
    have hcb : chk ≤ 9 := by rw [hchk]; rcases hk with rfl | rfl | rfl | rfl <;> decide
    rw [← hown] at H1 ⊢
    rw [← hchk] at H2 ⊢
    clear hw hk e1 e2 e3 e4 hown hchk
    go_enter Try.func47, Try.ntmps47
    go_wp2_with fail
    refine H1.out.mono ?_
    rintro e w1 ⟨rfl, b1⟩
    have HB1 := Lib.hid b1
    clear b1
    go_wp2_with fail
    refine (H2.out w1).mono ?_
    rintro e w2 ⟨rfl, b2⟩
    have HB2 : Hid (Below w.heap.size w w2) := Lib.hid (HB1.out.trans (b2.mono HB1.out.size))
    clear b2
    go_wp2_with fail
    go_ret2
    exact ⟨rfl, HB2.out⟩
  · have hw' : isW n = false := by simpa using hw
    have e3 : errW n = 1 := by simp [errW, hw']
    rw [if_neg hw, e3]
    rw [e3] at H1
    generalize ownW n = o at H1
    clear hw hw' e3
    go_enter Try.func47, Try.ntmps47
    go_wp2_with fail
    refine H1.out.mono ?_
    rintro e w1 ⟨rfl, b1⟩
    have HB1 := Lib.hid b1
    clear b1
    go_wp2_with fail
    go_ret2
    exact ⟨rfl, HB1.out⟩

/-- how many digits there are; 0: no width -/
def manyW (n : Int) : Int := if isW n then ownW n + chkW n else 0
theorem manyW_w (k : Nat) (hk : k = 1 ∨ k = 2 ∨ k = 4 ∨ k = 8) : manyW k = ((256 / k + chkN k : Nat) : Int) ∧ 256 / k + chkN k ≤ 265 := by
  obtain ⟨e1, e2, _, _⟩ := own_of k hk
  have hw : isW (k : Int) = true := (isW_iff _).2 (by omega)
  refine ⟨by rw [manyW, if_pos hw, e1, e2]; omega, ?_⟩
  rcases hk with rfl | rfl | rfl | rfl <;> decide
theorem manyW_bd (n : Int) : 0 ≤ manyW n ∧ manyW n ≤ 265 := by
  by_cases hw : isW n = true
  · obtain ⟨k, rfl⟩ : ∃ k : Nat, n = k := ⟨n.toNat, by rcases (isW_iff n).1 hw with h | h | h | h <;> omega⟩
    obtain ⟨e, h⟩ := manyW_w k (by rcases (isW_iff _).1 hw with h | h | h | h <;> omega)
    rw [e]
    exact ⟨Int.natCast_nonneg _, Int.ofNat_le.2 h⟩
  · rw [manyW, if_neg hw]; omega
theorem Long_any' (n : Int) (w : World) (hn : -9223372036854775808 ≤ n ∧ n ≤ 9223372036854775807) :
    Calls Try.prog 32 #[.int .i64 n] w fun e w' => e = .returned (.tuple #[.int .i64 (if isW n then 36 + 32 * manyW n else 0), .int .i64 (errW n)]) ∧ Below w.heap.size w w' := by
  have H1 := many_any n w hn
  have hb := manyW_bd n
  rw [← manyW] at H1
  by_cases hw : isW n = true
  · have e3 : errW n = 0 := by simp [errW, hw]
    rw [if_pos hw, e3]
    rw [e3] at H1
    generalize manyW n = m at H1 hb
    have HH := Lib.hid H1
    obtain ⟨hb1, hb2⟩ := hb
    clear H1 hw e3
    go_enter Try.func32, Try.ntmps32
    go_wp2_with fail
    refine HH.out.mono ?_
    rintro e w1 ⟨rfl, b1⟩
    have HB1 := Lib.hid b1
    clear b1
    go_wp2_with fail
    go_ret2
    exact ⟨by simp [Int.mul_comm], HB1.out⟩
  · have hw' : isW n = false := by simpa using hw
    have e3 : errW n = 1 := by simp [errW, hw']
    rw [if_neg hw, e3]
    rw [e3] at H1
    generalize manyW n = m at H1
    have HH := Lib.hid H1
    clear H1 hw hw' e3 hb
    go_enter Try.func32, Try.ntmps32
    go_wp2_with fail
    refine HH.out.mono ?_
    rintro e w1 ⟨rfl, b1⟩
    have HB1 := Lib.hid b1
    clear b1
    go_wp2_with fail
    go_ret2
    exact ⟨rfl, HB1.out⟩
theorem last_any (I S : List UInt8) (q k : Nat) (w : World) (hI : I.length = 16) (hS : S.length = 32) (hk : k = 1 ∨ k = 2 ∨ k = 4 ∨ k = 8) :
    Calls Try.prog 50 #[.agg (KeyV I S q k).toArray] w fun e w' => e = .returned (.int .i64 ((2 ^ k - 1 : Nat) : Int)) ∧ Below w.heap.size w w' := by
  obtain ⟨W0, HW0, HB0, HR0⟩ : ∃ V, Hid (V = w.alloc (.cells (KeyV I S q k).toArray 63)) ∧ Hid (Below w.heap.size w V) ∧ Hid (V.heap[w.heap.size]? = some (.cells (KeyV I S q k).toArray 63 (0, 0))) := ⟨_, Lib.hid rfl, Lib.hid ((Below.refl _ _).alloc (Nat.le_refl _) _), Lib.hid (heap_alloc_new _ _)⟩
  have hkw := key_W HR0.out hI hS
  clear HR0
  generalize (KeyV I S q k).toArray = kv at HW0 ⊢
  rcases hk with rfl | rfl | rfl | rfl
  all_goals
    go_enter Try.func50, Try.ntmps50
    go_upto_region 1 with (fail)
    rw [← HW0.out]
    go_wp2_with fail
    go_ret
    exact ⟨rfl, HB0.out⟩
end Go.Proofs.Ytcnelahmbfggcaa


/- The walks of sha.New and (*Sums).Write. -/
import Derived.Test.YtcnelahmbfggcaaShaD
import Derived.Test.YtcnelahmbfggcaaShaB
import Derived.Deep.LoopGhost
namespace Go.Proofs.Ytcnelahmbfggcaa
open Go Go.RowKit
set_option maxRecDepth 100000
set_option maxHeartbeats 1000000

/-- the variable p of type Sums holds the bytes l so far; what is left lies from block B on -/
def SumsAt (w : World) (p B : Nat) (l : List UInt8) : Prop :=
  ∃ lv, w.heap[p]? = some (.cells (W32 (absorb (l.length / 64) init l).list ++ [lv, .int .i64 l.length]).toArray 108 (0, 0)) ∧
    Own8 w B lv (l.drop (64 * (l.length / 64))) ∧ B ≤ p ∧ lv.ownBlock ≠ some p
/-- .. and the left bytes' row is told -/
def SumsO (w : World) (p B : Nat) (l : List UInt8) (lo : Option Nat) : Prop :=
  ∃ lv, w.heap[p]? = some (.cells (W32 (absorb (l.length / 64) init l).list ++ [lv, .int .i64 l.length]).toArray 108 (0, 0)) ∧
    Own8 w B lv (l.drop (64 * (l.length / 64))) ∧ B ≤ p ∧ lv.ownBlock ≠ some p ∧ lv.ownBlock = lo
theorem SumsAt.later {w w' : World} {p B : Nat} {l : List UInt8} (h : SumsAt w p B l) (hb : Below w.heap.size w w') : SumsAt w' p B l := by
  obtain ⟨lv, h1, h2, h3, h4⟩ := h
  exact ⟨lv, (hb.block p (Array.getElem?_eq_some_iff.1 h1).1).trans h1, h2.later hb, h3, h4⟩
theorem SumsAt.lt {w : World} {p B : Nat} {l : List UInt8} (h : SumsAt w p B l) : p < w.heap.size := by
  obtain ⟨lv, h1, _⟩ := h
  exact (Array.getElem?_eq_some_iff.1 h1).1

theorem New_any (w : World) : Calls Try.prog 54 #[] w fun e w' => ∃ p, e = .returned (.pointer (some ⟨p, 0, none⟩)) ∧ SumsAt w' p w.heap.size [] ∧ Below w.heap.size w w' := by
  go_enter Try.func54, Try.ntmps54
  go_wp2_with (go_at_call 64; refine (first_any _).mono ?_; rintro e w' ⟨rfl, rfl⟩)
  go_ret
  exact ⟨w.heap.size + 1, rfl, ⟨.slice none 0 0, heap_alloc2_new w _ _, Own8.nil _ _, by omega, by simp [Value.ownBlock]⟩, ((Below.refl _ _).alloc (Nat.le_refl _) _).alloc (by simp) _⟩

theorem sums_step (l r : List UInt8) (j : Nat) (hj : 64 * j ≤ (l.drop (64 * (l.length / 64)) ++ r).length) (he : (l.drop (64 * (l.length / 64)) ++ r).length < 64 * j + 64) :
    absorb j (absorb (l.length / 64) init l) (l.drop (64 * (l.length / 64)) ++ r) = absorb ((l ++ r).length / 64) init (l ++ r) ∧
    (l.drop (64 * (l.length / 64)) ++ r).drop (64 * j) = (l ++ r).drop (64 * ((l ++ r).length / 64)) := by
  have h0 : 64 * (l.length / 64) ≤ l.length := by omega
  have e1 : l.drop (64 * (l.length / 64)) ++ r = (l ++ r).drop (64 * (l.length / 64)) := by rw [List.drop_append_of_le_length h0]
  have hl : (l ++ r).length / 64 = l.length / 64 + j := by
    rw [List.length_append, List.length_drop] at hj he
    rw [List.length_append]
    omega
  have e2 : absorb (l.length / 64) init l = absorb (l.length / 64) init (l ++ r) := by
    rw [absorb_take _ _ l h0, absorb_take _ _ (l ++ r) (by rw [List.length_append]; omega), List.take_append_of_le_length h0]
  rw [e1, e2, hl, ← absorb_add, List.drop_drop, Nat.mul_add]
  exact ⟨rfl, rfl⟩

theorem Sl.setOther {w : World} {v : Value} {l : List UInt8} (h : Sl w v l) (a : Addr) (x y : Value) (hx : w.cell? a = some x) (hn : ∀ n, x ≠ .int .u8 n) : Sl (w.setCell a y) v l := by
  rcases h with h | ⟨b, off, cap, rfl, h0, h1, h2, h3⟩
  · exact .inl h
  · refine .inr ⟨b, off, cap, rfl, h0, h1, h2, fun i hi => ?_⟩
    have h4 := h3 i hi
    have hne : a ≠ (⟨b, off + i, none⟩ : Addr) := fun e => hn _ (by rw [← e, hx] at h4; exact Option.some.inj h4)
    exact (World.cell?_setCell_other _ _ _ _ hne).trans h4
theorem Own8.dropped {w : World} {B g off m c : Nat} {l : List UInt8} (h : Own8 w B (.slice (some ⟨g, off, none⟩) m c) l) (k : Nat) (hk : k ≤ l.length) :
    Own8 w B (.slice (some ⟨g, off + k, none⟩) (m - k) (c - k)) (l.drop k) ∧ (k = c → Own8 w B (.slice (some ⟨g, off, none⟩) (m - k) (c - k)) (l.drop k)) := by
  rcases h with ⟨h0, ⟨h1, _⟩ | ⟨g', off', cap', cur, h1, hb, hg, hnc, hcm, hcs, hcell⟩⟩
  · cases h1
  · cases h1
    refine ⟨⟨by rw [B8_length, Nat.mul_one], .inr ⟨g, off + k, c - k, cur, by rw [List.length_drop], hb, hg, by rw [List.length_drop]; omega, by omega, by omega, fun j hj => ?_⟩⟩,
      fun hkc => ⟨by rw [B8_length, Nat.mul_one], .inr ⟨g, off, c - k, cur, by rw [List.length_drop], hb, hg, by rw [List.length_drop]; omega, by omega, by omega, fun j hj => ?_⟩⟩⟩
    · rw [B8_length, List.length_drop] at hj
      rw [Nat.add_assoc, hcell (k + j) (by rw [B8_length]; omega)]
      simp [B8]
    · rw [B8_length, List.length_drop] at hj
      omega
theorem Own8.addr {w : World} {B m c : Nat} {a : Option Addr} {l : List UInt8} (h : Own8 w B (.slice a m c) l) (h0 : 0 < l.length) :
    ∃ g off, a = some ⟨g, off, none⟩ ∧ m = l.length ∧ l.length ≤ c ∧ c ≤ maxLen ∧ ∀ i (h : i < l.length), w.cell? ⟨g, off + i, none⟩ = some (.int .u8 (bn l[i])) := by
  rcases h.2 with ⟨h1, h2⟩ | ⟨g', off', cap', cur, h1, hb, hg, hnc, hcm, hcs, hcell⟩
  · omega
  · cases h1
    refine ⟨g', off', rfl, rfl, hnc, hcm, fun i hi => ?_⟩
    rw [cell_of_row w g' (off' + i) cur _ (0, 0) hg, hcell i (by rw [B8_length]; exact hi), B8_getElem?, List.getElem?_eq_getElem hi]
    rfl

/-- nothing but p, the row lo and new blocks has turned -/
def Fr (w wr : World) (p : Nat) (lo uo : Option Nat) : Prop :=
  (∀ k, k < w.heap.size → k ≠ p → lo ≠ some k → wr.heap[k]? = w.heap[k]?) ∧ (uo = lo ∨ ∃ g, uo = some g ∧ w.heap.size ≤ g) ∧ w.heap.size ≤ wr.heap.size
/-- the variable p while the blocks are taken: j of the bytes T are -/
def Mid (w wr : World) (p B : Nat) (st : St) (T : List UInt8) (n : Int) (j : Nat) (u : Value) (lo : Option Nat) : Prop :=
  wr.heap[p]? = some (.cells (W32 (absorb j st T).list ++ [u, .int .i64 n]).toArray 108 (0, 0)) ∧ Own8 wr B u (T.drop (64 * j)) ∧ u.ownBlock ≠ some p ∧ (Below B w wr ∧ Fr w wr p lo u.ownBlock) ∧ 64 * j ≤ T.length

theorem W32_8 (s : St) : (W32 s.list).length = 8 := rfl
theorem row_8 {w : World} {p : Nat} {s : St} {u x : Value} {t : TypeId} (h : w.heap[p]? = some (.cells (W32 s.list ++ [u, x]).toArray t (0, 0))) : w.cell? ⟨p, 8, none⟩ = some u := by
  rw [cell_of_row w p 8 _ _ (0, 0) h, List.getElem?_toArray, List.getElem?_append_right (by rw [W32_8]; omega), W32_8]; rfl
theorem row_9 {w : World} {p : Nat} {s : St} {u x : Value} {t : TypeId} (h : w.heap[p]? = some (.cells (W32 s.list ++ [u, x]).toArray t (0, 0))) : w.cell? ⟨p, 9, none⟩ = some x := by
  rw [cell_of_row w p 9 _ _ (0, 0) h, List.getElem?_toArray, List.getElem?_append_right (by rw [W32_8]; omega), W32_8]; rfl
theorem row_set8 {w : World} {p : Nat} {s : St} {u x : Value} {t : TypeId} (h : w.heap[p]? = some (.cells (W32 s.list ++ [u, x]).toArray t (0, 0))) (v : Value) :
    (w.setCell ⟨p, 8, none⟩ v).heap[p]? = some (.cells (W32 s.list ++ [v, x]).toArray t (0, 0)) := by
  rw [heap_setCell_same w p 8 _ _ _ h]; rfl
theorem row_set9 {w : World} {p : Nat} {s : St} {u x : Value} {t : TypeId} (h : w.heap[p]? = some (.cells (W32 s.list ++ [u, x]).toArray t (0, 0))) (v : Value) :
    (w.setCell ⟨p, 9, none⟩ v).heap[p]? = some (.cells (W32 s.list ++ [u, v]).toArray t (0, 0)) := by
  rw [heap_setCell_same w p 9 _ _ _ h]; rfl

theorem mid_start {w ws w' : World} {p B : Nat} {st : St} {T : List UInt8} {lv v' : Value} {n : Int} (hr : ws.heap[p]? = some (.cells (W32 st.list ++ [lv, .int .i64 n]).toArray 108 (0, 0))) (h4 : lv.ownBlock ≠ some p)
    (hv' : Own8 w' B v' T) (hg : ws.grownBy w' lv.ownBlock) (hor : v'.ownBlock = lv.ownBlock ∨ v'.ownBlock = some ws.heap.size) (hbe : Below B w ws) (hown : ∀ k, lv.ownBlock = some k → B ≤ k) (hBs : B ≤ ws.heap.size) (hBp : B ≤ p) (hws : ws.heap.size = w.heap.size) (hwk : ∀ k, k ≠ p → ws.heap[k]? = w.heap[k]?) :
    (∃ a c, v' = .slice a T.length c) ∧ Mid w (w'.setCell ⟨p, 8, none⟩ v') p B st T n 0 v' lv.ownBlock ∧ w'.cell? ⟨p, 8, none⟩ = some lv ∧ w'.frozen? ⟨p, 8, none⟩ = false := by
  have hp := (Array.getElem?_eq_some_iff.1 hr).1
  have h1 := (hg.block p hp (fun e => h4 e.symm)).trans hr
  have hne : v'.ownBlock ≠ some p := by
    rcases hor with h | h <;> rw [h]
    · exact h4
    · intro e; cases e; omega
  refine ⟨hv'.shape, ⟨row_set8 h1 _, ?_, hne, ⟨(hbe.grown hg hBs hown).setCell hBp _, ?_⟩, by omega⟩, row_8 h1, frozen_of_row w' p 8 _ _ h1⟩
  · exact OwnC.kept hv' fun k hk => heap_setCell_other w' ⟨p, 8, none⟩ k _ (fun e => hne (by rw [hk, e]))
  · refine ⟨fun k hk hkp hlo => ?_, ?_, by have := hg.size; simp [World.setCell]; omega⟩
    · rw [heap_setCell_other w' ⟨p, 8, none⟩ k _ hkp, hg.block k (by omega) (fun e => hlo e.symm), hwk k hkp]
    · rcases hor with h | h
      · exact .inl h
      · exact .inr ⟨_, h, by omega⟩

theorem mid_step {w wr wc : World} {p B j m c g off : Nat} {st : St} {T : List UInt8} {n : Int} (hm : m = (T.drop (64 * j)).length) (h64 : 64 ≤ m) {lo : Option Nat} (h : Mid w wr p B st T n j (.slice (some ⟨g, off, none⟩) m c) lo) (hB : B ≤ w.heap.size) (hBp : B ≤ p)
    (h1 : wc.heap[p]? = some (.cells (W32 (comp (absorb j st T) ((T.drop (64 * j)).take 64)).list ++ [Value.slice (some ⟨g, off, none⟩) m c, .int .i64 n]).toArray 108 (0, 0))) (hg : wr.grownBy wc (some p)) :
    wc.cell? ⟨p, 8, none⟩ = some (.slice (some ⟨g, off, none⟩) m c) ∧ wc.frozen? ⟨p, 8, none⟩ = false ∧ 64 ≤ c ∧
    (Mid w (wc.setCell ⟨p, 8, none⟩ (.slice (some ⟨g, off + 64, none⟩) (m - 64) (c - 64))) p B st T n (j + 1) (.slice (some ⟨g, off + 64, none⟩) (m - 64) (c - 64)) lo) ∧
    (64 = c → Mid w (wc.setCell ⟨p, 8, none⟩ (.slice (some ⟨g, off, none⟩) (m - c) 0)) p B st T n (j + 1) (.slice (some ⟨g, off, none⟩) (m - c) 0) lo) := by
  obtain ⟨g1, g2, g3, g4, g5⟩ := h
  obtain ⟨g', off', e1, _, hc, hcm, hcell⟩ := g2.addr (by omega)
  cases e1
  have hB2 : B ≤ wr.heap.size := Nat.le_trans hB g4.1.size
  have hgp : g ≠ p := fun e => g3 (by rw [e]; rfl)
  have h2 : Own8 wc B (.slice (some ⟨g, off, none⟩) m c) (T.drop (64 * j)) := OwnC.kept g2 fun k hk => hg.block k (g2.lt k hk).2 (fun e => g3 (by rw [hk, e]))
  have e64 : (T.drop (64 * j)).drop 64 = T.drop (64 * (j + 1)) := by rw [List.drop_drop, Nat.mul_add]
  have hd := h2.dropped 64 (by omega)
  rw [e64] at hd
  have hbl : ∀ nd, Below B w (wc.drewN nd) := fun nd => below_drewN (g4.1.grown hg hB2 (fun k hk => by cases hk; exact hBp)) nd
  have hfr : ∀ nd v off2 m2 c2, Fr w ((wc.drewN nd).setCell ⟨p, 8, none⟩ v) p lo (Value.slice (some ⟨g, off2, none⟩) m2 c2).ownBlock := fun nd v off2 m2 c2 => by
    obtain ⟨f1, f2, f3⟩ := g4.2
    refine ⟨fun k hk hkp hlo => ?_, f2, by have := hg.size; simp only [World.setCell, Array.size_modify]; exact Nat.le_trans f3 this⟩
    rw [heap_setCell_other (wc.drewN nd) ⟨p, 8, none⟩ k _ hkp]
    exact (hg.block k (Nat.lt_of_lt_of_le hk f3) (fun e => hkp (by cases e; rfl))).trans (f1 k hk hkp hlo)
  have hj : 64 * (j + 1) ≤ T.length := by rw [List.length_drop] at hm; omega
  have hne : ∀ off2 m2 c2, (Value.slice (some ⟨g, off2, none⟩) m2 c2).ownBlock ≠ some p := fun _ _ _ e => hgp (by simpa [Value.ownBlock] using e)
  have keep : ∀ nd off2 m2 c2, Own8 wc B (.slice (some ⟨g, off2, none⟩) m2 c2) (T.drop (64 * (j + 1))) → Own8 ((wc.drewN nd).setCell ⟨p, 8, none⟩ (.slice (some ⟨g, off2, none⟩) m2 c2)) B (.slice (some ⟨g, off2, none⟩) m2 c2) (T.drop (64 * (j + 1))) :=
    fun nd off2 m2 c2 h => OwnC.kept h fun k hk => heap_setCell_other (wc.drewN nd) ⟨p, 8, none⟩ k _ (fun e => hne off2 m2 c2 (by rw [hk, e]))
  have hrow : ∀ nd v, ((wc.drewN nd).setCell ⟨p, 8, none⟩ v).heap[p]? = some (.cells (W32 (absorb (j + 1) st T).list ++ [v, .int .i64 n]).toArray 108 (0, 0)) := fun nd v => by
    have e : absorb (j + 1) st T = comp (absorb j st T) ((T.drop (64 * j)).take 64) := by rw [absorb_add]; rfl
    rw [e]
    exact row_set8 (w := wc.drewN nd) h1 v
  refine ⟨row_8 h1, frozen_of_row wc p 8 _ _ h1, by omega, ⟨hrow 0 _, keep 0 _ _ _ hd.1, hne _ _ _, ⟨(hbl 0).setCell hBp _, hfr 0 _ _ _ _⟩, hj⟩, fun hkc => ?_⟩
  have hd2 := hd.2 hkc
  subst hkc
  exact ⟨hrow 0 _, keep 0 _ _ _ hd2, hne _ _ _, ⟨(hbl 0).setCell hBp _, hfr 0 _ _ _ _⟩, hj⟩

set_option maxHeartbeats 4000000 in
theorem Write_fr (p B : Nat) (l r : List UInt8) (v : Value) (w : World) (lo : Option Nat) (hs : SumsO w p B l lo) (hv : Sl w v r) (hl : l.length + r.length ≤ 100000000) (hB : B ≤ w.heap.size) :
    Calls Try.prog 55 #[.pointer (some ⟨p, 0, none⟩), v] w fun e w' => e = .returned (.tuple #[]) ∧ Below B w w' ∧ ∃ lo', SumsO w' p B (l ++ r) lo' ∧ Fr w w' p lo lo' := by
  obtain ⟨av, cv, rfl⟩ : ∃ a cap, v = .slice a r.length cap := by
    rcases hv with ⟨rfl, a, c, rfl⟩ | ⟨b, off, cap, rfl, _⟩
    · exact ⟨a, c, rfl⟩
    · exact ⟨_, cap, rfl⟩
  obtain ⟨lv, h1, h2, h3, h4, hlo⟩ := hs
  have HX := Lib.hid (sums_step l r)
  have hq : (l.drop (64 * (l.length / 64))).length ≤ l.length := by rw [List.length_drop]; omega
  generalize l.drop (64 * (l.length / 64)) = q at h2 hq HX
  generalize absorb (l.length / 64) init l = st at h1 HX
  obtain ⟨al, cl, rfl⟩ := h2.shape
  subst hlo
  have hp : p < w.heap.size := (Array.getElem?_eq_some_iff.1 h1).1
  have c8 := row_8 h1
  have c9 := row_9 h1
  have f8 := frozen_of_row w p 8 _ _ h1
  have f9 := frozen_of_row w p 9 _ _ h1
  obtain ⟨W, HW, HV, HO, HR, HBs, HBe, HWS, HWK⟩ : ∃ W, Hid (W = w.setCell ⟨p, 9, none⟩ (.int .i64 ((l.length : Int) + r.length))) ∧ Hid (Sl W (.slice av r.length cv) r) ∧ Hid (Own8 W B (.slice al q.length cl) q) ∧
      Hid (W.heap[p]? = some (.cells (W32 st.list ++ [Value.slice al q.length cl, .int .i64 ((l.length : Int) + r.length)]).toArray 108 (0, 0))) ∧ Hid (B ≤ W.heap.size) ∧ Hid (Below B w W) ∧ Hid (W.heap.size = w.heap.size) ∧ Hid (∀ k, k ≠ p → W.heap[k]? = w.heap[k]?) :=
    ⟨_, Lib.hid rfl, Lib.hid (hv.setOther _ _ _ c9 (fun n h => by cases h)), Lib.hid (OwnC.kept h2 fun k hk => heap_setCell_other w ⟨p, 9, none⟩ k _ (fun e => h4 (by rw [hk, e]))), Lib.hid (row_set9 h1 _), Lib.hid (by simpa [World.setCell] using hB), Lib.hid ((Below.refl B w).setCell h3 _), Lib.hid (by simp [World.setCell]), Lib.hid (fun k hk => heap_setCell_other w ⟨p, 9, none⟩ k _ hk)⟩
  have HLN : Hid (q.length + r.length ≤ 1000000000) := Lib.hid (by omega)
  have H4 := Lib.hid h4
  have HOB : Hid (∀ k, (Value.slice al q.length cl).ownBlock = some k → B ≤ k) := Lib.hid fun k hk => (h2.lt k hk).1
  obtain ⟨T, HT⟩ : ∃ T, Hid (T = q ++ r) := ⟨_, Lib.hid rfl⟩
  clear h1 h2 h4 hv
  go_enter Try.func55, Try.ntmps55
  have C8 : W.cell? ⟨p, 8, none⟩ = some (.slice al q.length cl) := row_8 HR.out
  have F8 := frozen_of_row W p 8 _ _ HR.out
  go_upto_region 2 with (fail)
  change Code.wp _ _ _ _ (w.setCell ⟨p, 9, none⟩ (.int .i64 ((l.length : Int) + r.length)))
  rw [← HW.out]
  clear c8 c9 f8 f9 HW
  go_wp2_with (at_builtin; refine wpList_append8 rfl _ _ rfl B (.slice al q.length cl) q rfl HO.out (.slice av r.length cv) r rfl HV.out HLN.out HBs.out ?_; intro v' w' hv' hg hor; rw [← HT.out] at hv'; obtain ⟨⟨a', c', rfl⟩, hm, d8, e8⟩ := mid_start HR.out H4.out hv' hg hor HBe.out HOB.out HBs.out h3 HWS.out HWK.out; have HM := Lib.hid hm; clear hm hv' hg hor C8 F8)
  go_loopg [] (T.length / 64 + 1) (fun gk wr => ∃ j u, Mid w wr p B st T ((l.length : Int) + r.length) j u (Value.slice al q.length cl).ownBlock ∧ gk + j = T.length / 64 + 1)
  case atStart => exact ⟨0, _, HM.out, rfl⟩
  case round =>
    obtain ⟨j, u, hm, hk⟩ := hrel
    obtain ⟨au, cu, rfl⟩ := hm.2.1.shape
    have hk2 := Lib.hid hk
    have b8 := row_8 hm.1
    have g8 := frozen_of_row wr p 8 _ _ hm.1
    obtain ⟨m, HMM⟩ : ∃ m, Hid (m = (T.drop (64 * j)).length) := ⟨_, Lib.hid rfl⟩
    rw [← HMM.out] at hm b8
    clear HM d8 e8 hk
    by_cases h64 : 64 ≤ m
    · obtain ⟨g, off, rfl, hmm, hmc, hcm, hcell⟩ := hm.2.1.addr (by have := HMM.out; omega)
      have hcu : 64 ≤ cu := by omega
      have hcell2 : Hid (∀ i (h : i < ((T.drop (64 * j)).take 64).length), wr.cell? ⟨g, off + i, none⟩ = some (.int .u8 (bn (((T.drop (64 * j)).take 64)[i])))) := Lib.hid fun i h => by
        rw [List.getElem_take]
        exact hcell i (by rw [List.length_take] at h; omega)
      have hl64 : Hid (((T.drop (64 * j)).take 64).length = 64) := Lib.hid (by rw [List.length_take]; omega)
      have HM2 := Lib.hid hm
      have h64i : (64 : Int) ≤ m := by omega
      clear hm hmm hcell
      go_wp2_with fail
      refine wp_region_quiet_tail 8 (by kernel_rfl) (by kernel_rfl) ?_
      simp only [List.take_succ_cons, List.take_zero, List.drop_succ_cons, List.drop_zero]
      repeat (go_big_quiet_step (fail))
      refine wpQuiet_nil ?_
      have HS := Lib.hid HM2.out.1
      go_wp2_with fail
      refine (block_any p g off cu (absorb j st T) _ _ _ wr.drew hl64.out ⟨hcu, hcm⟩ hcell2.out HS.out).mono ?_
      rintro e wc ⟨rfl, hrow, hgr⟩
      obtain ⟨k8, q8, _, hmA, hmB⟩ := mid_step HMM.out h64 HM2.out hB h3 hrow (grownBy_trans (grownBy_drew (grownBy_refl wr _)) hgr)
      have HA := Lib.hid hmA
      have HB := Lib.hid hmB
      clear hmA hmB hrow hgr b8 g8
      have h6c : (64 : Int) ≤ cu := by omega
      by_cases hc64 : 64 = cu
      · have hmi : (64 : Int) = cu := by omega
        go_wp2_with fail
        go_roundg (T.length / 64 + 1 - (j + 1))
        case measure => have := hk2.out; have := HM2.out.2.2.2.2; omega
        case rel => exact ⟨j + 1, _, HB.out hc64, by have := hk2.out; have := (HA.out).2.2.2.2; omega⟩
      · have hmi : ¬ (64 : Int) = cu := by omega
        go_wp2_with fail
        go_roundg (T.length / 64 + 1 - (j + 1))
        case measure => have := hk2.out; have := HM2.out.2.2.2.2; omega
        case rel => exact ⟨j + 1, _, HA.out, by have := hk2.out; have := (HA.out).2.2.2.2; omega⟩
    · have HM2 := Lib.hid hm
      have h64i : ¬ (64 : Int) ≤ m := by omega
      clear hm
      go_wp2_with fail
      go_end0
      have hlT := HM2.out.2.2.2.2
      have hdl : (T.drop (64 * j)).length = T.length - 64 * j := List.length_drop
      have hX := HX.out j (by rw [← HT.out]; exact hlT) (by rw [← HT.out]; have := HMM.out; omega)
      rw [← HT.out] at hX
      obtain ⟨g1, g2, g3, g4, g5⟩ := HM2.out
      refine ⟨rfl, g4.1, _, ⟨_, ?_, ?_, h3, g3, rfl⟩, g4.2⟩
      · rw [← hX.1, List.length_append]
        exact g1
      · rw [← hX.2]
        exact g2
theorem Write_any (p B : Nat) (l r : List UInt8) (v : Value) (w : World) (hs : SumsAt w p B l) (hv : Sl w v r) (hl : l.length + r.length ≤ 100000000) (hB : B ≤ w.heap.size) :
    Calls Try.prog 55 #[.pointer (some ⟨p, 0, none⟩), v] w fun e w' => e = .returned (.tuple #[]) ∧ SumsAt w' p B (l ++ r) ∧ Below B w w' := by
  obtain ⟨lv, h1, h2, h3, h4⟩ := hs
  refine (Write_fr p B l r v w lv.ownBlock ⟨lv, h1, h2, h3, h4, rfl⟩ hv hl hB).mono ?_
  rintro e w' ⟨he, hb, lo', ⟨lv', k1, k2, k3, k4, _⟩, _⟩
  exact ⟨he, ⟨lv', k1, k2, k3, k4⟩, hb⟩
end Go.Proofs.Ytcnelahmbfggcaa

/- The walk of (*Sums).Sum. -/
import Derived.Test.YtcnelahmbfggcaaShaF
import Derived.Test.YtcnelahmbfggcaaFresh
import Derived.Deep.MidRow
namespace Go.Proofs.Ytcnelahmbfggcaa
open Go Go.RowKit
set_option maxRecDepth 100000
set_option maxHeartbeats 1000000

theorem info_32 : (Try.prog.info? 23).map (·.size) = some 32 := by kernel_rfl
theorem Own8.room {w : World} {B n c : Nat} {a : Option Addr} {l : List UInt8} (h : Own8 w B (.slice a n c) l) : l.length ≤ c := by
  rcases h.2 with ⟨e, h0⟩ | ⟨g, off, cap, cur, e, _, _, hc, _⟩
  · omega
  · cases e; exact hc
theorem W32_oneL (l : List UInt32) : ∀ v ∈ W32 l, v.oneCell' = true := fun v hv => by
  obtain ⟨_, _, rfl⟩ := List.mem_map.1 hv; rfl
theorem row_range {w : World} {p : Nat} {s : St} {rest : List Value} {t : TypeId} (h : w.heap[p]? = some (.cells (W32 s.list ++ rest).toArray t (0, 0))) : w.rangeAt p 0 (W32 s.list) := fun j v hv => by
  have hj := (List.getElem?_eq_some_iff.1 hv).1
  rw [Nat.zero_add, cell_of_row w p j _ t (0, 0) h, List.getElem?_toArray, List.getElem?_append_left hj, hv]
/-- the variable that the state is copied to -/
theorem copied (W1 : World) (s : St) (z : Array Value) (W : World) (hW : W = (W1.alloc (.cells z 105)).setRow W1.heap.size (W32 s.list).toArray) :
    W.heap[W1.heap.size]? = some (.cells (W32 s.list ++ []).toArray 105 (0, 0)) ∧ Below W1.heap.size W1 W ∧ W.heap.size = W1.heap.size + 1 := by
  subst hW
  refine ⟨by rw [List.append_nil]; exact setRow_heap _ _ z _ _ _ (heap_alloc_new _ _), ⟨rfl, rfl, rfl, by simp, fun k hk => ?_⟩, by simp⟩
  rw [setRow_other _ _ _ _ (by omega), Below.heap_alloc _ _ k hk]

/-- while the last blocks are taken: j of T -/
def SMid (w2 wr : World) (sb B : Nat) (st : St) (T : List UInt8) (j : Nat) (u : Value) : Prop :=
  wr.heap[sb]? = some (.cells (W32 (absorb j st T).list ++ []).toArray 105 (0, 0)) ∧ Own8 wr B u (T.drop (64 * j)) ∧ w2.grownBy wr (some sb) ∧ 64 * j ≤ T.length

theorem smid_step {w2 wr wc : World} {sb B j m c g off : Nat} {st : St} {T : List UInt8} (hm : m = (T.drop (64 * j)).length) (h64 : 64 ≤ m) (h : SMid w2 wr sb B st T j (.slice (some ⟨g, off, none⟩) m c)) (hsb : sb < B)
    (h1 : wc.heap[sb]? = some (.cells (W32 (comp (absorb j st T) ((T.drop (64 * j)).take 64)).list ++ []).toArray 105 (0, 0))) (hg : wr.grownBy wc (some sb)) :
    64 ≤ c ∧ SMid w2 wc sb B st T (j + 1) (.slice (some ⟨g, off + 64, none⟩) (m - 64) (c - 64)) ∧ (64 = c → SMid w2 wc sb B st T (j + 1) (.slice (some ⟨g, off, none⟩) (m - c) 0)) := by
  obtain ⟨g1, g2, g3, g5⟩ := h
  have hB2 : B ≤ g ∧ g < wr.heap.size := g2.lt g rfl
  have hgp : g ≠ sb := by omega
  have h2 : Own8 wc B (.slice (some ⟨g, off, none⟩) m c) (T.drop (64 * j)) := OwnC.kept g2 fun k hk => hg.block k (g2.lt k hk).2 (fun e => hgp (by have h9 : g = k := Option.some.inj hk; have h8 : k = sb := Option.some.inj e; omega))
  have e64 : (T.drop (64 * j)).drop 64 = T.drop (64 * (j + 1)) := by rw [List.drop_drop, Nat.mul_add]
  have hd := h2.dropped 64 (by omega)
  rw [e64] at hd
  have hj : 64 * (j + 1) ≤ T.length := by rw [List.length_drop] at hm; omega
  have e : absorb (j + 1) st T = comp (absorb j st T) ((T.drop (64 * j)).take 64) := by rw [absorb_add]; rfl
  rw [← e] at h1
  have hr := h2.room
  refine ⟨by omega, ⟨h1, hd.1, grownBy_trans g3 hg, hj⟩, fun hc => ?_⟩
  have hd2 := hd.2 hc
  subst hc
  exact ⟨h1, hd2, grownBy_trans g3 hg, hj⟩

theorem SSum_any (p B : Nat) (l : List UInt8) (w : World) (hs : SumsAt w p B l) (hl : l.length ≤ 100000000) :
    Calls Try.prog 56 #[.pointer (some ⟨p, 0, none⟩)] w fun e w' => e = .returned (.agg (B8 (sha l)).toArray) ∧ Below w.heap.size w w' := by
  obtain ⟨lv, h1, h2, h3, h4⟩ := hs
  have hq : (l.drop (64 * (l.length / 64))).length ≤ l.length := by rw [List.length_drop]; omega
  generalize hqe : l.drop (64 * (l.length / 64)) = q at h2 hq
  generalize hste : absorb (l.length / 64) init l = st at h1
  obtain ⟨al, cl, rfl⟩ := h2.shape
  have hp : p < w.heap.size := (Array.getElem?_eq_some_iff.1 h1).1
  have HQ := Lib.hid hqe
  have HST := Lib.hid hste
  obtain ⟨W1, HW1, HH, H1, H2, HB1, HS1⟩ : ∃ W1, Hid (W1 = w.alloc (.cells (Array.replicate 32 (.int .u8 0)) 23)) ∧ Hid (W1.heap[w.heap.size]? = some (.cells (Array.replicate 32 (.int .u8 0)) 23 (0, 0))) ∧
      Hid (W1.heap[p]? = some (.cells (W32 st.list ++ [Value.slice al q.length cl, .int .i64 l.length]).toArray 108 (0, 0))) ∧ Hid (Own8 W1 B (.slice al q.length cl) q) ∧ Hid (Below w.heap.size w W1) ∧ Hid (W1.heap.size = w.heap.size + 1) := by
    have hb : Below w.heap.size w (w.alloc (.cells (Array.replicate 32 (.int .u8 0)) 23)) := (Below.refl _ _).alloc (Nat.le_refl _) _
    exact ⟨_, Lib.hid rfl, Lib.hid (heap_alloc_new w _), Lib.hid ((hb.block p hp).trans h1), Lib.hid (h2.later hb), Lib.hid hb, Lib.hid (by simp)⟩
  obtain ⟨W, HW, HC⟩ : ∃ W, Hid (W = (W1.alloc (.cells (W32 (List.replicate 8 0)).toArray 105)).setRow W1.heap.size (W32 st.list).toArray) ∧ Hid (W.heap[W1.heap.size]? = some (.cells (W32 st.list ++ []).toArray 105 (0, 0)) ∧ Below W1.heap.size W1 W ∧ W.heap.size = W1.heap.size + 1) :=
    ⟨_, Lib.hid rfl, Lib.hid (copied _ _ _ _ rfl)⟩
  have R0 := Lib.hid (row_range H1.out)
  have S8 := Lib.hid (size_8 (l := st.list) rfl)
  have S8' : Hid ((Try.prog.info? 105).map (·.size) = some (W32 st.list).length) := Lib.hid (by rw [S8.out]; simp)
  clear hqe hste h1 h2 h4
  go_enter Try.func56, Try.ntmps56
  go_upto_region 3 with (fail)
  change Code.wp _ _ _ _ (w.alloc (.cells (Array.replicate 32 (.int .u8 0)) 23))
  rw [← HW1.out]
  go_upto_region 4 with (first
    | refine wpList_load_mid rfl 105 _ rfl p 0 rfl (W32 st.list) _ R0.out Try.underlying105 rfl S8'.out ?_
    | refine wpList_store_row rfl 105 _ _ rfl _ (W32 st.list).toArray rfl rfl 105 (W32 (List.replicate 8 0)).toArray (heap_alloc_new _ _) S8.out rfl (W32_one _) ?_)
  dsimp only [Act.put]
  change Code.wp _ _ _ _ ((W1.alloc (.cells (W32 (List.replicate 8 0)).toArray 105)).setRow W1.heap.size (W32 st.list).toArray)
  rw [← HW.out]
  have hWp : W.heap[p]? = some (.cells (W32 st.list ++ [Value.slice al q.length cl, .int .i64 l.length]).toArray 108 (0, 0)) := (HC.out.2.1.block p (by have := HS1.out; omega)).trans H1.out
  have c8 := row_8 hWp
  have c9 := row_9 hWp
  have hWB : Hid (Sl W (.slice al q.length q.length) q) := Lib.hid (by
    have h := (H2.out.later HC.out.2.1).sl
    rcases h with ⟨rfl, _⟩ | ⟨b, off, cap, e, e0, e1, e2, e3⟩
    · exact .inl ⟨rfl, _, _, rfl⟩
    · cases e
      exact .inr ⟨b, off, q.length, rfl, e0, Nat.le_refl _, Nat.le_trans e1 e2, e3⟩)
  have hqc : q.length ≤ cl := H2.out.room
  have hqci : (q.length : Int) ≤ cl := by omega
  have hP2 : Hid (∀ w', Below W.drew.heap.size W.drew w' → Sl w' (.slice al q.length q.length) q) := Lib.hid fun w' hb => hWB.out.later ⟨hb.os, hb.tape, hb.output, hb.size, hb.block⟩
  have HWp := Lib.hid hWp
  have hpW : p < W.heap.size := (Array.getElem?_eq_some_iff.1 hWp).1
  clear hWp hWB
  go_region_held3 (fun w' => w'.cell? ⟨p, 8, none⟩ = some (.slice al q.length cl) ∧ w'.cell? ⟨p, 9, none⟩ = some (.int .i64 l.length))
    (first | exact ⟨c8, c9⟩ | exact ⟨(hb1.cell (p := ⟨p, 8, none⟩) hpW).trans c8, (hb1.cell (p := ⟨p, 9, none⟩) hpW).trans c9⟩ | exact ⟨(hb2.cell (p := ⟨p, 8, none⟩) (Nat.lt_of_lt_of_le hpW hb1.size)).trans ((hb1.cell (p := ⟨p, 8, none⟩) hpW).trans c8), (hb2.cell (p := ⟨p, 9, none⟩) (Nat.lt_of_lt_of_le hpW hb1.size)).trans ((hb1.cell (p := ⟨p, 9, none⟩) hpW).trans c9)⟩)
    (first
      | (go_at_call 66; refine (Pad_any _ _ (by omega) (by omega)).mono ?_; rintro e w1 ⟨v1, rfl, hv1, hb1⟩)
      | (refine step_append_fresh rfl _ _ rfl _ q rfl (hP2.out _ hb1) ⟨_, rfl⟩ _ _ rfl hv1.sl (by rw [pad_length]; omega) (by rw [pad_length]; omega) ?_; intro v2 w2 hv2 hb2))
  rw [Int.toNat_natCast] at hv2
  have hb3 : Below W.heap.size W w2 := (show Below W.heap.size W w1 from ⟨hb1.os, hb1.tape, hb1.output, hb1.size, hb1.block⟩).trans (hb2.mono hb1.size)
  have HB3 := Lib.hid hb3
  have HV2 := Lib.hid (OwnC.down hv2 hb1.size)
  have HSC : Hid (w2.heap[W1.heap.size]? = some (.cells (W32 st.list ++ []).toArray 105 (0, 0))) := Lib.hid ((hb3.block W1.heap.size (by have := HC.out.2.2; omega)).trans HC.out.1)
  have HHC : Hid (w2.heap[w.heap.size]? = some (.cells (Array.replicate 32 (.int .u8 0)) 23 (0, 0))) := by
    have e1 := HS1.out
    have e2 := HC.out.2.2
    exact Lib.hid ((hb3.block w.heap.size (by omega)).trans ((HC.out.2.1.block w.heap.size (by omega)).trans HH.out))
  obtain ⟨T, HT⟩ : ∃ T, Hid (T = q ++ pad l.length) := ⟨_, Lib.hid rfl⟩
  clear hv2 hb1 hb2 hb3 hv1 c8 c9 HW R0 S8 S8' H1 H2
  go_wp2_with fail
  have hsbB : Hid (W1.heap.size < W.drew.heap.size) := Lib.hid (by have := HC.out.2.2; show W1.heap.size < W.heap.size; omega)
  have hTm : Hid (T.length % 64 = 0) := Lib.hid (by
    have h1 := pad_mod l.length
    have h2 : q.length = l.length - 64 * (l.length / 64) := by rw [← HQ.out, List.length_drop]
    rw [HT.out, List.length_append]; omega)
  have hS0 : Hid (SMid w2 w2 W1.heap.size W.drew.heap.size st T 0 v2) := Lib.hid ⟨HSC.out, by rw [HT.out]; exact HV2.out, grownBy_refl _ _, by omega⟩
  go_loopg [4] (T.length / 64 + 1) (fun gk u wr => ∃ j, SMid w2 wr W1.heap.size W.drew.heap.size st T j u ∧ gk + j = T.length / 64 + 1)
  case atStart => exact ⟨0, hS0.out, rfl⟩
  case round =>
    obtain ⟨j, hm, hk⟩ := hrel
    obtain ⟨au, cu, he⟩ := hm.2.1.shape
    subst he
    have hk2 := Lib.hid hk
    obtain ⟨m, HMM⟩ : ∃ m, Hid (m = (T.drop (64 * j)).length) := ⟨_, Lib.hid rfl⟩
    rw [← HMM.out] at hm ⊢
    clear hk
    have hmm : m = T.length - 64 * j := by rw [HMM.out, List.length_drop]
    have hTm2 := hTm.out
    by_cases h64 : 64 ≤ m
    · obtain ⟨g, off, rfl, hmm2, hmc, hcm, hcell⟩ := hm.2.1.addr (by have := HMM.out; omega)
      have hcu : 64 ≤ cu := by omega
      have hcell2 : Hid (∀ i (h : i < ((T.drop (64 * j)).take 64).length), wr.cell? ⟨g, off + i, none⟩ = some (.int .u8 (bn (((T.drop (64 * j)).take 64)[i])))) := Lib.hid fun i h => by
        rw [List.getElem_take]
        exact hcell i (by rw [List.length_take] at h; omega)
      have hl64 : Hid (((T.drop (64 * j)).take 64).length = 64) := Lib.hid (by rw [List.length_take]; omega)
      have HM2 := Lib.hid hm
      have h64i : (64 : Int) ≤ m := by omega
      have h0i : (0 : Int) < m := by omega
      clear hm hmm2 hcell hmm hTm2
      go_wp2_with fail
      refine (block_any W1.heap.size g off cu (absorb j st T) _ _ _ _ hl64.out ⟨hcu, hcm⟩ hcell2.out HM2.out.1).mono ?_
      rintro e wc ⟨rfl, hrow, hgr⟩
      obtain ⟨_, hmA, hmB⟩ := smid_step HMM.out h64 HM2.out hsbB.out hrow hgr
      have HA := Lib.hid hmA
      have HB := Lib.hid hmB
      clear hmA hmB hrow hgr
      have h6c : (64 : Int) ≤ cu := by omega
      by_cases hc64 : 64 = cu
      · have hmi : (64 : Int) = cu := by omega
        go_wp2_with fail
        go_roundg (T.length / 64 + 1 - (j + 1))
        case measure => have := hk2.out; have := HM2.out.2.2.2; omega
        case rel => exact ⟨j + 1, HB.out hc64, by have := hk2.out; have := (HA.out).2.2.2; omega⟩
      · have hmi : ¬ (64 : Int) = cu := by omega
        go_wp2_with fail
        go_roundg (T.length / 64 + 1 - (j + 1))
        case measure => have := hk2.out; have := HM2.out.2.2.2; omega
        case rel => exact ⟨j + 1, HA.out, by have := hk2.out; have := (HA.out).2.2.2; omega⟩
    · obtain rfl : m = 0 := by omega
      have HX : Hid ((absorb j st T).bytes = sha l) := Lib.hid (by
        have h0 := sums_step l (pad l.length) j
        rw [HQ.out, HST.out, ← HT.out] at h0
        rw [(h0 (by have := hm.2.2.2; omega) (by omega)).1]
        rfl)
      have HM2 := Lib.hid hm
      have hgr := hm.2.2.1
      have R0 := Lib.hid (row_range hm.1)
      have S8' : Hid ((Try.prog.info? 105).map (·.size) = some (W32 (absorb j st T).list).length) := Lib.hid (by rw [size_8 (l := (absorb j st T).list) rfl]; simp)
      have HH2 : Hid (wr.heap[w.heap.size]? = some (.cells (Array.replicate 32 (.int .u8 0)) 23 (0, 0))) := Lib.hid ((hgr.block w.heap.size (Array.getElem?_eq_some_iff.1 HHC.out).1 (by have := HS1.out; simp; omega)).trans HHC.out)
      clear hm hmm hTm2 hgr
      generalize absorb j st T = S at HX HM2 R0 S8'
      have HBV : Hid (Below w.heap.size w wr) := Lib.hid (by
        have e1 := HS1.out
        have e2 := HC.out.2.2
        have h1 : Below w.heap.size w w2 := (HB1.out.trans (HC.out.2.1.mono (by omega))).trans (HB3.out.mono (by omega))
        exact ⟨HM2.out.2.2.1.os.trans h1.os, HM2.out.2.2.1.tape.trans h1.tape, HM2.out.2.2.1.output.trans h1.output, Nat.le_trans h1.size HM2.out.2.2.1.size, fun k hk => (HM2.out.2.2.1.block k (Nat.lt_of_lt_of_le hk h1.size) (by simp; omega)).trans (h1.block k hk)⟩)
      clear HM2
      generalize wr = V at R0 HH2 HBV ⊢
      have HSL : Hid (S.list.length = 8) := Lib.hid rfl
      go_wp2_with (refine wpList_load_mid rfl 105 _ rfl W1.heap.size 0 rfl (W32 S.list) _ R0.out Try.underlying105 rfl S8'.out ?_)
      go_loopw [5, 45] (fun u i wx => ∃ k : Nat, k ≤ 8 ∧ i = .int .i64 k ∧ Own8 wx V.heap.size u ((S.list.take k).flatMap fun x => be 4 x.toNat) ∧ Below V.heap.size V wx) (fun _ i _ => 9 - (intOf i).toNat)
      case atStart => exact ⟨0, by omega, rfl, Own8.nil _ _, Below.refl _ _⟩
      case round =>
        obtain ⟨k, hk, rfl, ho, hb⟩ := hrel
        by_cases hlt : k < 8
        · have hlt' : (k : Int) < 8 := by omega
          have hidx := index_8 S.list HSL.out k hlt
          have hTk : Hid (((S.list.take (k + 1)).flatMap fun x => be 4 x.toNat) = ((S.list.take k).flatMap fun x => be 4 x.toNat) ++ be 4 (S.list.getD k 0).toNat) := Lib.hid (by
            rw [List.take_add_one, List.flatMap_append, List.getElem?_eq_getElem (by rw [HSL.out]; exact hlt)]
            simp [show k < S.list.length by rw [HSL.out]; exact hlt])
          have hlen : ((S.list.take k).flatMap fun x => be 4 x.toNat).length ≤ 100000000 := by
            have : ∀ (l : List UInt32), (l.flatMap fun x => be 4 x.toNat).length = 4 * l.length := fun l => by
              induction l with
              | nil => rfl
              | cons x l ih => simp [List.flatMap_cons, be] at ih ⊢; omega
            rw [this, List.length_take]; omega
          generalize S.list.getD k 0 = x at hidx hTk
          have HO := Lib.hid ho
          have HLE := Lib.hid hlen
          have HB := Lib.hid hb
          clear ho hlen hb
          go_wp2_with fail
          rw [show IntKind.u64.wrap ((wn x : Nat) : Int) = ((wn x : Nat) : Int) from by rw [IntKind.wrap_u64]; have := wn_lt x; omega]
          refine (laid_any _ _ (wn x) 4 V.heap.size wr HO.out HB.out.size HLE.out (by omega)).mono ?_
          rintro e wy ⟨v', rfl, hv, hb2⟩
          have HVV : Hid (Own8 wy V.heap.size v' ((S.list.take (k + 1)).flatMap fun x => be 4 x.toNat)) := Lib.hid (by rw [hTk.out]; exact hv)
          have HB2 := Lib.hid (HB.out.trans hb2)
          clear hv hb2 hidx
          go_wp2_with fail
          exact ⟨⟨k + 1, by omega, by go_num, HVV.out, HB2.out⟩, by simp [intOf]; omega⟩
        · obtain rfl : k = 8 := by omega
          have ho2 : Own8 wr V.heap.size u5 (sha l) := by rw [← HX.out, St.bytes]; rw [List.take_of_length_le (by rw [HSL.out]; omega)] at ho; exact ho
          obtain ⟨a5, c5, rfl⟩ := ho2.shape
          rw [sha_length] at ho2 ⊢
          obtain ⟨g, off, rfl, h32, hmc, hcm, hcell⟩ := ho2.addr (by rw [sha_length]; omega)
          have RR : Hid (wr.rangeAt g off (B8 (sha l))) := Lib.hid fun j v hv => by
            have hj := (List.getElem?_eq_some_iff.1 hv).1
            rw [B8_length] at hj
            rw [hcell j hj, ← hv, B8_getElem?, List.getElem?_eq_getElem hj]
            rfl
          have R32 : Hid ((Try.prog.info? 23).map (·.size) = some (B8 (sha l)).length) := Lib.hid (by rw [B8_length, sha_length]; exact info_32)
          have R32' : Hid ((Try.prog.info? 23).map (·.size) = some (B8 (sha l)).toArray.size) := Lib.hid (by rw [R32.out]; simp)
          have R0' : Hid ((Array.replicate 32 (Value.int .u8 0)).size = (B8 (sha l)).toArray.size) := Lib.hid (by simp [B8_length, sha_length])
          have R1 : Hid ((B8 (sha l)).toArray.all (·.oneCell') = true) := Lib.hid (Array.all_eq_true_iff_forall_mem.2 fun v hv => B8_one _ v (by simpa using hv))
          have HH3 : Hid (wr.heap[w.heap.size]? = some (.cells (Array.replicate 32 (.int .u8 0)) 23 (0, 0))) := Lib.hid ((hb.block w.heap.size (Array.getElem?_eq_some_iff.1 HH2.out).1).trans HH2.out)
          have HBE : Hid (Below w.heap.size w (wr.setRow w.heap.size (B8 (sha l)).toArray)) := Lib.hid (by
            have h1 := HBV.out.trans (hb.mono HBV.out.size)
            refine ⟨h1.os, h1.tape, h1.output, by simpa using h1.size, fun k hk => ?_⟩
            rw [setRow_other _ _ _ _ (by omega)]
            exact h1.block k hk)
          have HRE : Hid ((wr.setRow w.heap.size (B8 (sha l)).toArray).heap[w.heap.size]? = some (.cells (B8 (sha l)).toArray 23 (0, 0))) := Lib.hid (setRow_heap _ _ _ _ _ _ HH3.out)
          have harr : (Instr.arrayAt 23 (.slice (some ⟨g, off, none⟩) 32 c5)).run Try.prog wr = .ok (.pointer (some ⟨g, off, none⟩)) wr := by simp [Instr.arrayAt, run_underlying Try.underlying23]
          clear ho ho2 hb hcell h32
          rw [show ((8 : Nat) : Int) = 8 from rfl]
          go_wp2_with (first
            | refine wpList_load_mid rfl 23 _ rfl g off rfl (B8 (sha l)) _ RR.out Try.underlying23 rfl R32.out ?_
            | refine wpList_store_row rfl 23 _ _ rfl _ (B8 (sha l)).toArray rfl rfl 23 _ HH3.out R32'.out R0'.out R1.out ?_)
          exact bodyPost_ret (results_cell_row rfl _ _ w.heap.size 23 _ (0, 0) _ rfl HRE.out Try.underlying23 rfl R32'.out) rfl ⟨rfl, HBE.out⟩
end Go.Proofs.Ytcnelahmbfggcaa

/- What a signature is, in plain Lean; and what is known of values in a region that draws its order: a shut slice, a pair of a slice of numbers and an error. -/
import Derived.Test.YtcnelahmbfggcaaG5
import Derived.Test.YtcnelahmbfggcaaAt
import Derived.Test.YtcnelahmbfggcaaFresh
namespace Go.Proofs.Ytcnelahmbfggcaa
open Go Go.RowKit
set_option maxRecDepth 100000

def grainN (I S : List UInt8) (q : Nat) : List UInt8 := hashN I q 65533 [[255], S]
def signedN (I : List UInt8) (q : Nat) (g text : List UInt8) : List UInt8 := hashN I q 33153 [g, text]
/-- the chains of a signature -/
def sigP (I S : List UInt8) (q : Nat) (ds : List Nat) : Nat → List UInt8
  | 0 => []
  | n + 1 => sigP I S q ds n ++ chainN I q n (secretN I S q n) 0 (ds.getD n 0)
theorem sigP_length (I S : List UInt8) (q : Nat) (ds : List Nat) (n : Nat) : (sigP I S q ds n).length = 32 * n := by
  induction n with
  | zero => rfl
  | succ n ih => rw [sigP, List.length_append, ih, chainN_length _ _ _ _ _ _ (secretN_length _ _ _ _)]; omega
def digN (I S : List UInt8) (q k : Nat) (text : List UInt8) : List Nat := allN (signedN I q (grainN I S q) text) k
def sigN (I S : List UInt8) (q k : Nat) (text : List UInt8) : List UInt8 := (fourN (typeN k).toNat ++ grainN I S q) ++ sigP I S q (digN I S q k text) (256 / k + chkN k)
def signV (I S : List UInt8) (q : Nat) (d : Int) (text : List UInt8) : List UInt8 := if isW d then sigN I S q d.toNat text else []
theorem allN_lt (l : List UInt8) (k i : Nat) (hi : i < 256 / k + chkN k) : (allN l k).getD i 0 ≤ 2 ^ k - 1 := by
  have : (allN l k).getD i 0 = dig (l ++ tailB l k) i k := by simp [allN, List.getD_eq_getElem?_getD, hi]
  rw [this]
  have := dig_lt (l ++ tailB l k) i k
  omega
theorem typeN_nat (k : Nat) (hk : k = 1 ∨ k = 2 ∨ k = 4 ∨ k = 8) : ∃ t : Nat, typeN k = t ∧ t < 4294967296 ∧ (typeN k).toNat = t := by
  rcases hk with rfl | rfl | rfl | rfl
  · exact ⟨1, rfl, by decide, rfl⟩
  · exact ⟨2, rfl, by decide, rfl⟩
  · exact ⟨3, rfl, by decide, rfl⟩
  · exact ⟨4, rfl, by decide, rfl⟩

namespace Wild
def Ent.shut (l : List UInt8) : Ent := ⟨fun v => ∃ a, v = .slice a l.length l.length, .slice none l.length l.length, fun v w => Sl w v l, fun _ _ _ h hb => h.later hb, ⟨none, rfl⟩⟩
def Ent.tupI (l : List Int) (e : Int) (B : Nat) : Ent := ⟨fun v => ∃ a c, v = .tuple #[.slice a l.length c, .int .i64 e], .tuple #[.slice none l.length 0, .int .i64 e],
  fun v w => ∃ s, v = .tuple #[s, .int .i64 e] ∧ SlI w .i64 s l ∧ ∀ k, s.ownBlock = some k → B ≤ k ∧ k < w.heap.size,
  fun _ _ _ ⟨s, h1, h2, h3⟩ hb => ⟨s, h1, h2.later hb, fun k hk => ⟨(h3 k hk).1, Nat.lt_of_lt_of_le (h3 k hk).2 hb.size⟩⟩, ⟨none, 0, rfl⟩⟩
end Wild
theorem SlI.lt {w : World} {k : IntKind} {v : Value} {l : List Int} (h : SlI w k v l) (h0 : 0 < l.length) (b : Nat) (hb : v.ownBlock = some b) : b < w.heap.size := by
  rcases h with ⟨rfl, _⟩ | ⟨b', off, cap, rfl, _, _, _, h3⟩
  · simp at h0
  · cases hb
    exact World.block_lt_of_cell? _ _ (h3 0 h0)
theorem wp_append_fresh {o : Oper} {a : Act} {w : World} {K : Act → World → Prop} {Q : Exit → Act → World → Prop} (s x : Operand)
    (ho : o.op = .call { callee := .builtin .append, args := #[s, x], argTypes := #[41, 41] })
    (v : Value) (l : List UInt8) (hs : a.eval s = v) (hv : Sl w v l) (hsh : ∃ a, v = .slice a l.length l.length) (y : Value) (r : List UInt8) (hx : a.eval x = y) (hr : Sl w y r) (hr0 : 0 < r.length)
    (hlen : l.length + r.length ≤ 1000000000)
    (h : ∀ v' w', Own8 w' w.heap.size v' (l ++ r) → Below w.heap.size w w' → K (a.put o.dst v') w') : o.wp Try.prog a w K Q := by
  obtain ⟨v', w', hrun, h2, h3⟩ := run_append_fresh (ty := o.type) v l r y hv hsh hr hr0 hlen
  unfold Oper.wp execOp
  simp only [ho, resolve, invoke, builtin, Sem.run_bind, Sem.run_pure, Result.andThen_ok, List.map_toArray, List.map_cons, List.map_nil, hs, hx, hrun]
  exact h v' w' h2 h3

/-- the numbers ds lie apart from the slice s -/
def DG (w : World) (s vd : Value) (ds : List Int) : Prop := SlI w .i64 vd ds ∧ ∀ k, vd.ownBlock = some k → k < w.heap.size ∧ s.ownBlock ≠ some k
theorem DG.later {w w' : World} {s vd : Value} {ds : List Int} (h : DG w s vd ds) (hb : Below w.heap.size w w') : DG w' s vd ds :=
  ⟨h.1.later hb, fun k hk => ⟨Nat.lt_of_lt_of_le (h.2 k hk).1 hb.size, (h.2 k hk).2⟩⟩
theorem DG.grown {w w' : World} {s s' vd : Value} {ds : List Int} (h : DG w s vd ds) (hg : w.grownBy w' s.ownBlock) (hor : s'.ownBlock = s.ownBlock ∨ s'.ownBlock = some w.heap.size) : DG w' s' vd ds := by
  refine ⟨?_, fun k hk => ⟨Nat.lt_of_lt_of_le (h.2 k hk).1 hg.size, ?_⟩⟩
  · rcases h.1 with hn | ⟨b, off, cap, rfl, h0, h1, h2, h3⟩
    · exact .inl hn
    · have hb := h.2 b rfl
      exact .inr ⟨b, off, cap, rfl, h0, h1, h2, fun i hi => hg.cell (h3 i hi) (fun e => hb.2 e.symm)⟩
  · rcases hor with e | e <;> rw [e]
    · exact (h.2 k hk).2
    · intro e2
      cases e2
      exact Nat.lt_irrefl _ (h.2 _ hk).1
/-- what was made later than s lies apart from it -/
theorem DG.of {w : World} {B : Nat} {s vd : Value} {l : List UInt8} {ds : List Int} (hs : Own8 w B s l) {w' : World} (h : SlI w' .i64 vd ds) (hlt : ∀ k, vd.ownBlock = some k → w.heap.size ≤ k ∧ k < w'.heap.size) : DG w' s vd ds :=
  ⟨h, fun k hk => ⟨(hlt k hk).2, fun e => by have := (OwnC.lt hs k e).2; have := (hlt k hk).1; omega⟩⟩
end Go.Proofs.Ytcnelahmbfggcaa

/- The walk of ots.Sign. -/
namespace Go.Proofs.Ytcnelahmbfggcaa
open Go Go.RowKit
set_option maxRecDepth 100000
set_option maxHeartbeats 2000000

theorem fourN_length (q : Nat) : (fourN q).length = 4 := rfl
theorem hashN_length (I : List UInt8) (q t : Nat) (ls : List (List UInt8)) : (hashN I q t ls).length = 32 := sha_length _
theorem Sign_any (I S : List UInt8) (q : Nat) (d : Int) (tv : Value) (text : List UInt8) (w : World) (hI : I.length = 16) (hS : S.length = 32) (hq : q < 4294967296) (hd : -9223372036854775808 ≤ d ∧ d ≤ 9223372036854775807) (hdw : (Lit.int .i64 d).wf = true) (ht : Sl w tv text) (htl : text.length ≤ 1000000) :
    Calls Try.prog 24 #[.agg (KeyV I S q d).toArray, tv] w fun e w' => ∃ v, e = .returned (.tuple #[v, .int .i64 (errW d)]) ∧ Sl w' v (signV I S q d text) ∧ Below w.heap.size w w' := by
  obtain ⟨W0, HW0, HB0, HS0, HR0⟩ : ∃ V, Hid (V = w.alloc (.cells (KeyV I S q d).toArray 63)) ∧ Hid (Below w.heap.size w V) ∧ Hid (V.heap.size = w.heap.size + 1) ∧ Hid (V.heap[w.heap.size]? = some (.cells (KeyV I S q d).toArray 63 (0, 0))) := ⟨_, Lib.hid rfl, Lib.hid ((Below.refl _ _).alloc (Nat.le_refl _) _), Lib.hid (by simp), Lib.hid (heap_alloc_new _ _)⟩
  have IKL : Hid ((Try.prog.info? 63).map (·.size) = some (KeyV I S q d).length) := Lib.hid (by rw [info_key, KeyV_length _ _ _ _ hI hS])
  have HTY := Lib.hid (Type_any d W0 hdw)
  have hkw := key_W HR0.out hI hS
  have HTX := Lib.hid ht
  obtain ⟨ta, tc, rfl⟩ := ht.shape
  by_cases hw : isW d = true
  · obtain ⟨k, rfl⟩ : ∃ k : Nat, d = k := ⟨d.toNat, by rcases (isW_iff d).1 hw with h | h | h | h <;> omega⟩
    have hk : k = 1 ∨ k = 2 ∨ k = 4 ∨ k = 8 := by rcases (isW_iff _).1 hw with h | h | h | h <;> omega
    have e3 : errW k = 0 := by simp [errW, hw]
    obtain ⟨ty, ty1, ty2, ty3⟩ := typeN_nat k hk
    have HISW := Lib.hid hw
    obtain ⟨G, HG⟩ : ∃ G, Hid (G = grainN I S q) := ⟨_, Lib.hid rfl⟩
    have HGL : Hid (G.length = 32) := Lib.hid (by rw [HG.out]; exact hashN_length _ _ _ _)
    obtain ⟨M, HM⟩ : ∃ M, Hid (M = signedN I q G text) := ⟨_, Lib.hid rfl⟩
    have HML : Hid (M.length = 32) := Lib.hid (by rw [HM.out]; exact hashN_length _ _ _ _)
    obtain ⟨ds, HDS⟩ : ∃ ds, Hid (ds = allN M k) := ⟨_, Lib.hid rfl⟩
    obtain ⟨N, HN⟩ : ∃ N, Hid (N = 256 / k + chkN k) := ⟨_, Lib.hid rfl⟩
    have HDL : Hid (ds.length = N) := Lib.hid (by rw [HDS.out, HN.out]; exact allN_length _ _)
    have hN0 : 0 < N := by rw [HN.out]; rcases hk with rfl | rfl | rfl | rfl <;> decide
    have hN1 : N ≤ 265 := by rw [HN.out]; exact (manyW_w k hk).2
    have hLb : 2 ^ k - 1 ≤ 255 := by rcases hk with rfl | rfl | rfl | rfl <;> decide
    have HDB : Hid (∀ i, i < N → ds.getD i 0 ≤ 255) := Lib.hid (fun i hi => by rw [HDS.out]; exact Nat.le_trans (allN_lt M k i (by rw [← HN.out]; exact hi)) hLb)
    have HAV : Hid (allV M k = NI ds) := Lib.hid (by rw [allV, if_pos hw, Int.toNat_natCast, HDS.out])
    have HR : Hid (signV I S q k text = (fourN ty ++ G) ++ sigP I S q ds N) := Lib.hid (by rw [signV, if_pos hw, Int.toNat_natCast, sigN, ty3, digN, ← HG.out, ← HM.out, ← HDS.out, ← HN.out])
    have HH1 : Hid (∀ mv w', Rows w' mv [[255], S] → Calls Try.prog 38 #[.agg (KeyV I S q k).toArray, .int .i64 65533, mv] w' fun e w'' => e = .returned (.agg (B8 G).toArray) ∧ Below w'.heap.size w' w'') := Lib.hid (fun mv w' h => by
      rw [HG.out]; exact hash_any I S q k 65533 mv [[255], S] w' hI hS hq (by decide) h (by simp [hS]))
    have HH2 : Hid (∀ mv w', Rows w' mv [G, text] → Calls Try.prog 38 #[.agg (KeyV I S q k).toArray, .int .i64 33153, mv] w' fun e w'' => e = .returned (.agg (B8 M).toArray) ∧ Below w'.heap.size w' w'') := Lib.hid (fun mv w' h => by
      rw [HM.out]; exact hash_any I S q k 33153 mv [G, text] w' hI hS hq (by decide) h (by simp [HGL.out]; omega))
    have HFO := Lib.hid (fun w' => four_any ty w' ty2)
    have HAL := Lib.hid (fun w' => All_own M k w' HML.out hd)
    have HSE := Lib.hid (fun (j : Nat) w' (h : j < 65536) => secret_any I S q k j w' hI hS hq h)
    have HCH := Lib.hid (fun (j b : Nat) (x : List UInt8) w' (h : j < 65536) (hb : b ≤ 255) (hx : x.length = 32) => chain_any I S q k j 0 b x w' hI hS hq h (Nat.zero_le _) hb hx)
    have HHI := Lib.hid hI
    have HHS := Lib.hid hS
    rw [e3, ty1] at HTY
    rw [HAV.out] at HAL
    rw [e3] at HAL
    rw [e3, HR.out]
    clear hw hk e3 ty1 ty3 hI hS hq hd hdw ht
    go_enter Try.func24, Try.ntmps24
    go_upto_region 1 with (fail)
    rw [← HW0.out]
    go_upto_region 4 with (go_at_call 30; refine HTY.out.mono ?_; rintro e w1 ⟨rfl, b1⟩; have HB1 := Lib.hid b1; clear b1)
    have HK1 : Hid (w1.heap[w.heap.size]? = some (.cells (KeyV I S q k).toArray 63 (0, 0))) := Lib.hid ((HB1.out.block _ (by rw [HS0.out]; omega)).trans HR0.out)
    have HSZ1 : Hid (w.heap.size < w1.heap.size) := Lib.hid (Array.getElem?_eq_some_iff.1 HK1.out).1
    have HBW1 := Lib.hid (HB0.out.trans (HB1.out.mono HB0.out.size))
    clear hkw
    refine Wild.region_tail_b 7 (fun k => match k with | 1 => some (.sl [255]) | 4 => some (.rows [[255], S]) | 5 => some (.fix (.agg (B8 G).toArray)) | 6 => some (.var 23 (Array.replicate 32 (.int .u8 0)) w1.heap.size) | _ => none) (fun k => match k with | 4 => [1] | 5 => [4] | _ => []) rfl rfl rfl (by kernel_rfl) (by kernel_rfl) (by kernel_rfl) (fun vs hvs => ?_)
    have h5 : vs 5 = .agg (B8 G).toArray := hvs 5 _ rfl
    simp only [List.take_succ_cons, List.take_zero]
    refine Wild.walk_load 63 _ _ _ (KeyV I S q k) _ rfl (by rfl) rfl rfl (fun w hw => rangeAt_blw (rangeAt_row HK1.out) hw.1) Try.underlying63 rfl IKL.out ?_
    simp only [Act.put, List.setIfInBounds_toArray, List.set_cons_zero, List.set_cons_succ]
    refine Wild.walk_wild _ rfl (by rfl) (fun w' hw K hK => ?_) ?_
    · go_simp
      exact hK.out (.slice (some ⟨w'.heap.size, 0, none⟩) 1 1) _ (hw.1.alloc hw.1.size _) ((Below.refl _ _).alloc (Nat.le_refl _) _) trivial (Sl.made w' [255] _ _ _ _ rfl rfl (by decide) rfl)
    simp only [Act.put, List.setIfInBounds_toArray, List.set_cons_zero, List.set_cons_succ]
    repeat (refine Wild.walk_simple rfl (by rfl) (by rfl) (fun K hK => ?_); go_big_quiet_op; first | (refine hK _ ?_; clear hK K) | (refine ⟨_, fun _ _ => rfl, hK _ ?_⟩; clear hK K))
    refine Wild.walk_wild _ rfl (by rfl) (fun w' hw K hK => ?_) ?_
    · have h2 : Sl w' (vs 1) [255] := hw.2 1 (by simp [Wild.tab]) rfl
      obtain ⟨a2, c2, e2⟩ := Sl.shape h2
      rw [e2] at h2
      rw [show vs (0 + 1) = .slice a2 1 c2 from e2] at hK ⊢
      clear e2
      go_simp
      have h3 : Sl w' (.slice (some ⟨w.heap.size, 17, none⟩) 32 32) S := key_S ((hw.1.block _ HSZ1.out).trans HK1.out) HHI.out HHS.out
      exact hK.out (.slice (some ⟨w'.heap.size, 0, none⟩) 2 2) _ (hw.1.alloc hw.1.size _) ((Below.refl _ _).alloc (Nat.le_refl _) _) trivial (Rows.two _ h2 h3)
    simp only [Act.put, List.setIfInBounds_toArray, List.set_cons_zero, List.set_cons_succ]
    refine Wild.walk_wild _ rfl (by rfl) (fun w' hw K hK => ?_) ?_
    · go_simp
      go_at_call 38
      refine (HH1.out _ w' (hw.2 4 (by simp [Wild.tab]) rfl)).mono ?_
      rintro e w'' ⟨rfl, hb⟩
      exact hK.out _ _ (hw.1.trans (hb.mono hw.1.size)) hb rfl trivial
    rw [h5]
    simp only [Act.put, List.setIfInBounds_toArray, List.set_cons_zero, List.set_cons_succ]
    refine Wild.walk_wild _ rfl (by rfl) (fun w' hw K hK => ?_) ?_
    · go_simp
      exact hK.out (.pointer (some ⟨w'.heap.size, 0, none⟩)) _ (hw.1.alloc hw.1.size _) ((Below.refl _ _).alloc (Nat.le_refl _) _) trivial ⟨w'.heap.size, rfl, hw.1.size, heap_alloc_new _ _⟩
    simp only [Act.put, List.setIfInBounds_toArray, List.set_cons_zero, List.set_cons_succ]
    refine Wild.walk_nil ?_
    intro w2 hw2 hf2
    obtain ⟨gb, hb1, hb2, hb3⟩ := hf2 6 _ rfl (by decide)
    have hb1' : vs (0 + 1 + 1 + 1 + 1 + 1 + 1) = .pointer (some ⟨gb, 0, none⟩) := hb1
    rw [hb1']
    generalize vs (0 + 1) = x1
    generalize vs (0 + 1 + 1 + 1 + 1) = x4
    have IG : Hid ((Try.prog.info? 23).map (·.size) = some (B8 G).toArray.size) := Lib.hid (by rw [info_32]; simp [B8_length, HGL.out])
    refine wp_store_row 23 _ _ rfl _ (B8 G).toArray rfl rfl 23 _ hb3 IG.out (by simp [B8_length, HGL.out]) (B8_oneA G) ?_
    have hw2' : Below w1.heap.size w1 w2 := hw2
    obtain ⟨V3, HV3, HB3, HG3⟩ : ∃ V, Hid (V = w2.setRow gb (B8 G).toArray) ∧ Hid (Below w1.heap.size w1 V) ∧ Hid (V.heap[gb]? = some (.cells (B8 G).toArray 23 (0, 0))) := ⟨_, Lib.hid rfl, Lib.hid (below_row hw2' hb2 _), Lib.hid (setRow_heap _ _ _ _ _ _ hb3)⟩
    rw [← HV3.out]
    have HK3 : Hid (V3.heap[w.heap.size]? = some (.cells (KeyV I S q k).toArray 63 (0, 0))) := Lib.hid ((HB3.out.block _ HSZ1.out).trans HK1.out)
    have HGB : Hid (gb < V3.heap.size) := Lib.hid (Array.getElem?_eq_some_iff.1 HG3.out).1
    have HBW3 := Lib.hid (HBW1.out.trans (HB3.out.mono HBW1.out.size))
    clear hb1 hb1' hb2 hb3 hw2 hw2' hf2 h5 hvs
    go_upto_region 5 with (fail)
    simp only [Act.put]
    refine Wild.region_tail2_b 3 (fun k => match k with | 1 => some (.shut (fourN ty)) | _ => none) (fun _ => []) rfl rfl rfl rfl rfl (by kernel_rfl) (by kernel_rfl) (by kernel_rfl) (by kernel_rfl) (fun vs hvs => ?_)
    obtain ⟨fa, h1⟩ := hvs 1 _ rfl
    rw [fourN_length] at h1
    simp only [List.take_succ_cons, List.take_zero]
    repeat (refine Wild.walk_simple rfl (by rfl) (by rfl) (fun K hK => ?_); go_big_quiet_op; first | (refine hK _ ?_; clear hK K) | (refine ⟨_, fun _ _ => rfl, hK _ ?_⟩; clear hK K))
    refine Wild.walk_wild _ rfl (by rfl) (fun w' hw K hK => ?_) ?_
    · go_simp
      go_at_call 39
      refine (HFO.out w').mono ?_
      rintro e w'' ⟨a, rfl, hs, hb⟩
      exact hK.out _ _ (hw.1.trans (hb.mono hw.1.size)) hb ⟨a, by rw [fourN_length]⟩ hs
    rw [h1]
    simp only [Act.put, List.setIfInBounds_toArray, List.set_cons_zero, List.set_cons_succ]
    repeat (refine Wild.walk_simple rfl (by rfl) (by rfl) (fun K hK => ?_); go_big_quiet_op; first | (refine hK _ ?_; clear hK K) | (refine ⟨_, fun _ _ => rfl, hK _ ?_⟩; clear hK K))
    refine Wild.walk_nil ?_
    intro w4 hw4 hf4
    have hs4 : Sl w4 (.slice fa 4 4) (fourN ty) := by have := hf4 1 _ rfl (by decide); rw [h1] at this; exact this
    have hw4' : Below V3.heap.size V3 w4 := hw4
    have hg4 : Sl w4 (.slice (some ⟨gb, 0, none⟩) 32 32) G := Sl.ofBlock ((hw4'.block _ HGB.out).trans HG3.out) HGL.out.symm (Nat.le_refl _) (by simp [maxLen]) (fun i _ => by rw [Nat.zero_add, List.getElem?_toArray])
    refine wp_append_fresh _ _ rfl _ (fourN ty) rfl hs4 ⟨fa, by rw [fourN_length]; rfl⟩ _ G rfl hg4 (by rw [HGL.out]; decide) (by rw [HGL.out, fourN_length]; decide) (fun v5 w5 hv5 hb5 => ?_)
    have HB5 : Hid (Below V3.heap.size V3 w5) := Lib.hid (hw4'.trans (hb5.mono hw4'.size))
    obtain ⟨Pf, HP⟩ : ∃ Pf, Hid (Pf = fourN ty ++ G) := ⟨_, Lib.hid rfl⟩
    have HPL : Hid (Pf.length = 36) := Lib.hid (by rw [HP.out, List.length_append, fourN_length, HGL.out])
    rw [← HP.out] at hv5
    have HO5 : Hid (Own8 w5 V3.heap.size v5 Pf) := Lib.hid (OwnC.down hv5 hw4'.size)
    obtain ⟨va, vc, rfl⟩ := hv5.shape
    clear hv5 hb5 hg4 hw4' hs4 hf4 hw4 h1 hvs
    go_simp
    go_upto_region 6 with (fail)
    have HG5 : Hid (w5.heap[gb]? = some (.cells (B8 G).toArray 23 (0, 0))) := Lib.hid ((HB5.out.block _ HGB.out).trans HG3.out)
    have HK5 : Hid (w5.heap[w.heap.size]? = some (.cells (KeyV I S q k).toArray 63 (0, 0))) := Lib.hid ((HB5.out.block _ (Nat.lt_of_lt_of_le HSZ1.out HB3.out.size)).trans HK3.out)
    have HGB5 : Hid (gb < w5.heap.size) := Lib.hid (Array.getElem?_eq_some_iff.1 HG5.out).1
    have HKB5 : Hid (w.heap.size < w5.heap.size) := Lib.hid (Array.getElem?_eq_some_iff.1 HK5.out).1
    have HBW5 := Lib.hid (HBW3.out.trans (HB5.out.mono HBW3.out.size))
    have HT5 := Lib.hid (HTX.out.later HBW5.out)
    refine Wild.region_b (fun k => match k with | 3 => some (.rows [G, text]) | 4 => some (.fix (.agg (B8 M).toArray)) | 7 => some (.tupI (NI ds) 0 w5.heap.size) | _ => none) (fun k => match k with | 4 => [3] | _ => []) rfl (by kernel_rfl) (fun vs hvs => ?_)
    have h4 : vs 4 = .agg (B8 M).toArray := hvs 4 _ rfl
    obtain ⟨la, lc, h7⟩ := hvs 7 _ rfl
    refine Wild.walk_load 63 _ _ _ (KeyV I S q k) _ rfl (by rfl) rfl rfl (fun w hw => rangeAt_blw (rangeAt_row HK5.out) hw.1) Try.underlying63 rfl IKL.out ?_
    simp only [Act.put, List.setIfInBounds_toArray, List.set_cons_zero, List.set_cons_succ]
    repeat (refine Wild.walk_simple rfl (by rfl) (by rfl) (fun K hK => ?_); go_big_quiet_op; first | (refine hK _ ?_; clear hK K) | (refine ⟨_, fun _ _ => rfl, hK _ ?_⟩; clear hK K))
    refine Wild.walk_wild _ rfl (by rfl) (fun w' hw K hK => ?_) ?_
    · go_simp
      have h2 : Sl w' (.slice (some ⟨gb, 0, none⟩) 32 32) G := Sl.ofBlock ((hw.1.block _ HGB5.out).trans HG5.out) HGL.out.symm (Nat.le_refl _) (by simp [maxLen]) (fun i _ => by rw [Nat.zero_add, List.getElem?_toArray])
      exact hK.out (.slice (some ⟨w'.heap.size, 0, none⟩) 2 2) _ (hw.1.alloc hw.1.size _) ((Below.refl _ _).alloc (Nat.le_refl _) _) trivial (Rows.two _ h2 (HT5.out.later hw.1))
    simp only [Act.put, List.setIfInBounds_toArray, List.set_cons_zero, List.set_cons_succ]
    refine Wild.walk_wild _ rfl (by rfl) (fun w' hw K hK => ?_) ?_
    · go_simp
      go_at_call 38
      refine (HH2.out _ w' (hw.2 3 (by simp [Wild.tab]) rfl)).mono ?_
      rintro e w'' ⟨rfl, hb⟩
      exact hK.out _ _ (hw.1.trans (hb.mono hw.1.size)) hb rfl trivial
    rw [h4]
    simp only [Act.put, List.setIfInBounds_toArray, List.set_cons_zero, List.set_cons_succ]
    repeat (refine Wild.walk_simple rfl (by rfl) (by rfl) (fun K hK => ?_); go_big_quiet_op; first | (refine hK _ ?_; clear hK K) | (refine ⟨_, fun _ _ => rfl, hK _ ?_⟩; clear hK K))
    refine Wild.walk_cell 3 _ _ _ (.int .i64 k) _ rfl (by rfl) rfl rfl (fun w hw => key_W ((hw.1.block _ HKB5.out).trans HK5.out) HHI.out HHS.out) Try.underlying3 rfl ?_
    simp only [Act.put, List.setIfInBounds_toArray, List.set_cons_zero, List.set_cons_succ]
    refine Wild.walk_wild _ rfl (by rfl) (fun w' hw K hK => ?_) ?_
    · go_simp
      go_at_call 40
      refine (HAL.out w').mono ?_
      rintro e w'' ⟨v, rfl, hs, hb, hl⟩
      obtain ⟨a, c, rfl⟩ := hs.shape
      exact hK.out _ _ (hw.1.trans (hb.mono hw.1.size)) hb ⟨a, c, rfl⟩ ⟨_, rfl, hs, fun j hj => ⟨Nat.le_trans hw.1.size (hl HISW.out j hj), hs.lt (by rw [NI_length, HDL.out]; exact hN0) j hj⟩⟩
    rw [h7]
    simp only [Act.put, List.setIfInBounds_toArray, List.set_cons_zero, List.set_cons_succ]
    repeat (refine Wild.walk_simple rfl (by rfl) (by rfl) (fun K hK => ?_); go_big_quiet_op; first | (refine hK _ ?_; clear hK K) | (refine ⟨_, fun _ _ => rfl, hK _ ?_⟩; clear hK K))
    refine Wild.walk_nil ?_
    intro w6 hw6 hf6
    obtain ⟨sv, f1, f2, f3⟩ := hf6 7 (by rw [Wild.tab_pure rfl]; rfl) (by decide)
    have hw6' : Below w5.heap.size w5 w6 := hw6
    rw [show vs 7 = _ from h7] at f1
    obtain rfl : sv = .slice la (NI ds).length lc := by injection f1 with f1; simpa using f1.symm
    have HO6 := Lib.hid (HO5.out.later hw6')
    have HB6 : Hid (Below V3.heap.size V3 w6) := Lib.hid (HB5.out.trans (hw6'.mono HB5.out.size))
    have HD6 : Hid (DG w6 (.slice va Pf.length vc) (.slice la (NI ds).length lc) (NI ds)) := Lib.hid (DG.of HO5.out f2 f3)
    have HNL : Hid ((NI ds).length = N) := Lib.hid (by rw [NI_length, HDL.out])
    rw [HNL.out] at HD6 ⊢
    generalize vs (0 + 1 + 1 + 1) = y3
    clear f1 f2 f3 hf6 hw6 hw6' h4 h7 hvs
    go_wp2_with fail
    go_loopw [9, 46] (fun s i' wr => ∃ n : Nat, n ≤ N ∧ i' = .int .i64 n ∧ Hid (Own8 wr V3.heap.size s (Pf ++ sigP I S q ds n)) ∧ Hid (Below V3.heap.size V3 wr) ∧ Hid (DG wr s (.slice la N lc) (NI ds))) (fun _ i' _ => N - (intOf i').toNat)
    case atStart => exact ⟨0, by omega, rfl, Lib.hid (by rw [sigP, List.append_nil]; exact HO6.out), HB6, HD6⟩
    case round =>
      obtain ⟨n, hn, rfl, HO, HB, HD⟩ := hrel
      obtain ⟨E, HE⟩ : ∃ E, Hid (E = Pf ++ sigP I S q ds n) := ⟨_, Lib.hid rfl⟩
      rw [← HE.out] at HO
      obtain ⟨sa, sc, rfl⟩ := HO.out.shape
      by_cases hlt : n < N
      · have hn' : n < 65536 := by omega
        have hlt' : (n : Int) < N := by omega
        have HEL : Hid (E.length = 36 + 32 * n) := Lib.hid (by rw [HE.out, List.length_append, HPL.out, sigP_length])
        obtain ⟨db, dof, rfl, -, q1, c1⟩ := HD.out.1.cellAt (i := n) (by rw [HNL.out]; exact hlt)
        have d1 := c1 n (by rw [HNL.out]; exact hlt)
        rw [HNL.out] at q1
        have hdb := HDB.out n hlt
        rw [NI_getD] at d1
        obtain ⟨D, HDD⟩ : ∃ D, Hid (D = ds.getD n 0) := ⟨_, Lib.hid rfl⟩
        rw [← HDD.out] at d1 hdb
        clear c1
        have HSN := Lib.hid (fun w' => HSE.out n w' hn')
        obtain ⟨X, HX⟩ : ∃ X, Hid (X = secretN I S q n) := ⟨_, Lib.hid rfl⟩
        rw [← HX.out] at HSN
        have HXL : Hid (X.length = 32) := Lib.hid (by rw [HX.out]; exact secretN_length _ _ _ _)
        have HCN := Lib.hid (fun w' => HCH.out n D X w' hn' hdb HXL.out)
        obtain ⟨Y, HY⟩ : ∃ Y, Hid (Y = chainN I q n X 0 D) := ⟨_, Lib.hid rfl⟩
        rw [Nat.sub_zero, ← HY.out] at HCN
        have HYL : Hid (Y.length = 32) := Lib.hid (by rw [HY.out]; exact chainN_length _ _ _ _ _ _ HXL.out)
        have HEN : Hid (Pf ++ sigP I S q ds (n + 1) = E ++ Y) := Lib.hid (by rw [sigP, HE.out, HY.out, HX.out, HDD.out, List.append_assoc])
        have IY : Hid ((Try.prog.info? 23).map (·.size) = some (B8 Y).toArray.size) := Lib.hid (by rw [info_32]; simp [B8_length, HYL.out])
        have HKR : Hid (wr.heap[w.heap.size]? = some (.cells (KeyV I S q k).toArray 63 (0, 0))) := Lib.hid ((HB.out.block _ (Nat.lt_of_lt_of_le HSZ1.out HB3.out.size)).trans HK3.out)
        go_upto_region 10 with (fail)
        refine Wild.region_tail_b 8 (fun j => match j with | 5 => some (.fix (.agg (B8 X).toArray)) | 6 => some (.fix (.agg (B8 Y).toArray)) | 7 => some (.var 23 (Array.replicate 32 (.int .u8 0)) wr.heap.size) | _ => none) (fun _ => []) rfl rfl rfl (by kernel_rfl) (by kernel_rfl) (by kernel_rfl) (fun vs hvs => ?_)
        have h5 : vs 5 = .agg (B8 X).toArray := hvs 5 _ rfl
        have h6 : vs 6 = .agg (B8 Y).toArray := hvs 6 _ rfl
        simp only [List.take_succ_cons, List.take_zero]
        refine Wild.walk_load 63 _ _ _ (KeyV I S q k) _ rfl (by rfl) rfl rfl (fun w hw => rangeAt_blw (rangeAt_row HKR.out) hw.1) Try.underlying63 rfl IKL.out ?_
        simp only [Act.put, List.setIfInBounds_toArray, List.set_cons_zero, List.set_cons_succ]
        repeat (refine Wild.walk_simple rfl (by rfl) (by rfl) (fun K hK => ?_); go_big_quiet_op; first | (refine hK _ ?_; clear hK K) | (refine ⟨_, fun _ _ => rfl, hK _ ?_⟩; clear hK K))
        refine Wild.walk_load 63 _ _ _ (KeyV I S q k) _ rfl (by rfl) rfl rfl (fun w hw => rangeAt_blw (rangeAt_row HKR.out) hw.1) Try.underlying63 rfl IKL.out ?_
        simp only [Act.put, List.setIfInBounds_toArray, List.set_cons_zero, List.set_cons_succ]
        repeat (refine Wild.walk_simple rfl (by rfl) (by rfl) (fun K hK => ?_); go_big_quiet_op; first | (refine hK _ ?_; clear hK K) | (refine ⟨_, fun _ _ => rfl, hK _ ?_⟩; clear hK K))
        refine Wild.walk_wild _ rfl (by rfl) (fun w' hw K hK => ?_) ?_
        · go_simp
          go_at_call 42
          refine (HSN.out w').mono ?_
          rintro e w'' ⟨rfl, hb⟩
          exact hK.out _ _ (hw.1.trans (hb.mono hw.1.size)) hb rfl trivial
        rw [h5]
        simp only [Act.put, List.setIfInBounds_toArray, List.set_cons_zero, List.set_cons_succ]
        refine Wild.walk_wild _ rfl (by rfl) (fun w' hw K hK => ?_) ?_
        · go_simp
          go_at_call 41
          refine (HCN.out w').mono ?_
          rintro e w'' ⟨rfl, hb⟩
          exact hK.out _ _ (hw.1.trans (hb.mono hw.1.size)) hb rfl trivial
        rw [h6]
        simp only [Act.put, List.setIfInBounds_toArray, List.set_cons_zero, List.set_cons_succ]
        refine Wild.walk_wild _ rfl (by rfl) (fun w' hw K hK => ?_) ?_
        · go_simp
          exact hK.out (.pointer (some ⟨w'.heap.size, 0, none⟩)) _ (hw.1.alloc hw.1.size _) ((Below.refl _ _).alloc (Nat.le_refl _) _) trivial ⟨w'.heap.size, rfl, hw.1.size, heap_alloc_new _ _⟩
        simp only [Act.put, List.setIfInBounds_toArray, List.set_cons_zero, List.set_cons_succ]
        refine Wild.walk_nil ?_
        intro w7 hw7 hf7
        obtain ⟨b, hb1, hb2, hb3⟩ := hf7 7 _ rfl (by decide)
        have hb1' : vs (0 + 1 + 1 + 1 + 1 + 1 + 1 + 1) = .pointer (some ⟨b, 0, none⟩) := hb1
        rw [hb1']
        have hw7' : Below wr.heap.size wr w7 := hw7
        have hX8 := setRow_heap w7 b _ (B8 Y).toArray _ _ hb3
        have HX8 : Hid (Sl (w7.setRow b (B8 Y).toArray) (.slice (some ⟨b, 0, none⟩) 32 32) Y) := Lib.hid (Sl.ofBlock hX8 HYL.out.symm (Nat.le_refl _) (by simp [maxLen]) (fun i _ => by rw [Nat.zero_add, List.getElem?_toArray]))
        have HB8' : Hid (Below wr.heap.size wr (w7.setRow b (B8 Y).toArray)) := Lib.hid (below_row hw7' hb2 _)
        have HO8 := Lib.hid (HO.out.later HB8'.out)
        have HD8 := Lib.hid (HD.out.later HB8'.out)
        have HB8 : Hid (Below V3.heap.size V3 (w7.setRow b (B8 Y).toArray)) := Lib.hid (HB.out.trans (HB8'.out.mono HB.out.size))
        have HZ8 : Hid (V3.heap.size ≤ (w7.setRow b (B8 Y).toArray).heap.size) := Lib.hid HB8.out.size
        refine wp_store_row 23 _ _ rfl _ (B8 Y).toArray rfl rfl 23 _ hb3 IY.out (by simp [B8_length, HYL.out]) (B8_oneA Y) ?_
        clear hX8 hw7' hw7 hb1 hb1' hb2 hb3 h5 h6 hvs hf7 d1 q1
        go_wp2_with (refine wpList_append8 rfl _ _ rfl V3.heap.size _ E rfl HO8.out _ Y rfl HX8.out (by rw [HEL.out, HYL.out]; omega) HZ8.out ?_; intro v9 w9 hv9 hg9 ho9)
        have HV9 : Hid (Own8 w9 V3.heap.size v9 (Pf ++ sigP I S q ds (n + 1))) := Lib.hid (by rw [HEN.out]; exact hv9)
        have HB9 : Hid (Below V3.heap.size V3 w9) := Lib.hid (HB8.out.trans (HO8.out.below hg9 HZ8.out))
        have HD9 := Lib.hid (HD8.out.grown hg9 ho9)
        clear hv9 hg9 ho9
        go_roundw
        case rel => exact ⟨n + 1, by omega, by go_num, HV9, HB9, HD9⟩
        case measure => simp [intOf]; omega
      · obtain rfl : n = N := by omega
        go_wp2_with fail
        go_ret2
        exact ⟨_, rfl, by rw [← HP.out, ← HE.out]; exact HO.out.sl, HBW3.out.trans (HB.out.mono HBW3.out.size)⟩
  · have hw' : isW d = false := by simpa using hw
    have e3 : errW d = 1 := by simp [errW, hw']
    rw [e3] at HTY
    rw [e3, signV, if_neg hw]
    generalize typeN d.toNat = ty at HTY
    clear hw hw' e3
    go_enter Try.func24, Try.ntmps24
    go_upto_region 1 with (fail)
    rw [← HW0.out]
    go_wp2_with (go_at_call 30; refine HTY.out.mono ?_; rintro e w1 ⟨rfl, b1⟩; have HB1 := Lib.hid b1; clear b1)
    go_ret2
    exact ⟨_, rfl, (Own8.nil _ 0).sl, HB0.out.trans (HB1.out.mono HB0.out.size)⟩
end Go.Proofs.Ytcnelahmbfggcaa

/- The walk of the document's signed. -/
namespace Go.Proofs.Ytcnelahmbfggcaa
open Go Go.RowKit
set_option maxRecDepth 100000
set_option maxHeartbeats 1000000

end Go.Proofs.Ytcnelahmbfggcaa

/- The walk of the document's Sign. -/
namespace Go.Proofs.Ytcnelahmbfggcaa
open Go Go.RowKit
set_option maxRecDepth 100000
set_option maxHeartbeats 2000000

end Go.Proofs.Ytcnelahmbfggcaa


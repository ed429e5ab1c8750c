/- Rows of sums ([][32]byte): what it means that a slice reads as one; one of the call's own; append onto it. -/
import Derived.Test.YtcnelahmbfggcaaGreatG4
import Derived.Deep.MidRow
import Derived.Great.BuildSlice
import Derived.Test.YtcnelahmbfggcaaGreatG3
import Derived.Test.YtcnelahmbfggcaaGreatVar
import Derived.Test.YtcnelahmbfggcaaGreatG2
import Derived.Test.YtcnelahmbfggcaaGreatOpen
namespace Go.Proofs.YtcnelahmbfggcaaGreat
open Go Go.RowKit
set_option maxRecDepth 100000

theorem info_a32 : (Tryz.prog.info? 23).map (fun i => (i.zero, i.size, i.bytes)) = some (some (.agg (Array.replicate 32 (.int .u8 0))), 32, 32) := by kernel_rfl
theorem run_loadVar_one {P : Program} (w : World) (b o : Nat) (ty : TypeId) (u : Value) (d : TypeDesc) (hc : w.cell? ⟨b, o, none⟩ = some u) (hu : P.underlying ty = some d) (hd : d.isRow = false) :
    (loadVar ty ⟨b, o, none⟩).run P w = .ok u w := by
  have hagg : (isAgg ty).run P w = .ok false w := by
    unfold isAgg
    rw [Sem.run_bind, run_underlying hu w]
    cases d <;> simp_all
  simp [loadVar, Sem.run_bind, hagg, hc]
/-- in a drawn region: a cell is read -/
theorem Wild.walk_cell {P : Program} {ops : Array Oper} {C : World → Prop} {G : World → World → Prop} {S : Wild.Spec} {vs : Nat → Value} {Q : Act → Prop} {rest : List Oper} {o : Oper} {k : Nat} {a : Act}
    (ty : TypeId) (x : Operand) (b off : Nat) (u : Value) (d : TypeDesc) (hp : S.pure k = none) (hw : Region.wanted o (yielded ops a.tmps) = true) (ho : o.op = .load ty x) (hx : a.eval x = .pointer (some ⟨b, off, none⟩))
    (hS : ∀ w, Wild.At C S vs k w → w.cell? ⟨b, off, none⟩ = some u) (hu : P.underlying ty = some d) (hd : d.isRow = false)
    (h : Wild.walk P ops C G S vs Q rest (k + 1) (a.put o.dst u)) : Wild.walk P ops C G S vs Q (o :: rest) k a :=
  Wild.walk_run _ hp hw (fun w hw' => by
    unfold execOp
    simp only [ho, hx, Instr.loadAt, Instr.sureAddr, Sem.run_bind, Sem.run_pure, Result.andThen_ok, run_loadVar_one w b off ty u d (hS w hw') hu hd]) h
/-- all are sums -/
def L32 (ls : List (List UInt8)) : Prop := ∀ x ∈ ls, x.length = 32
theorem L32.nil : L32 [] := fun _ h => by cases h
theorem L32.snoc {ls : List (List UInt8)} (h : L32 ls) {x : List UInt8} (hx : x.length = 32) : L32 (ls ++ [x]) := fun y hy => by
  rcases List.mem_append.1 hy with hy | hy
  · exact h y hy
  · rw [List.mem_singleton.1 hy]; exact hx
theorem L32.getD {ls : List (List UInt8)} (h : L32 ls) {i : Nat} (hi : i < ls.length) : (ls.getD i []).length = 32 := by
  refine h _ ?_
  rw [show ls.getD i [] = ls[i] by simp [List.getD_eq_getElem?_getD, hi]]
  exact List.getElem_mem hi
theorem L32.flat {ls : List (List UInt8)} (h : L32 ls) : ls.flatten.length = 32 * ls.length := by
  induction ls with
  | nil => rfl
  | cons x ls ih =>
    rw [List.flatten_cons, List.length_append, ih fun y hy => h y (List.mem_cons_of_mem _ hy), h x List.mem_cons_self, List.length_cons]
    omega
/-- their cells -/
def BH (ls : List (List UInt8)) : List Value := (ls.map B8).flatten
theorem BH_length {ls : List (List UInt8)} (h : L32 ls) : (BH ls).length = ls.length * 32 := by
  induction ls with
  | nil => rfl
  | cons x ls ih =>
    rw [BH, List.map_cons, List.flatten_cons, List.length_append, B8_length, h x List.mem_cons_self, List.length_cons]
    have := ih fun y hy => h y (List.mem_cons_of_mem _ hy)
    rw [BH] at this
    omega
theorem BH_snoc (ls : List (List UInt8)) (x : List UInt8) : BH (ls ++ [x]) = BH ls ++ B8 x := by simp [BH]
theorem BH_get {ls : List (List UInt8)} (h : L32 ls) (i j : Nat) (hi : i < ls.length) (hj : j < 32) : (BH ls)[i * 32 + j]? = (B8 (ls.getD i []))[j]? := by
  induction ls generalizing i with
  | nil => simp at hi
  | cons x ls ih =>
    have hx := h x List.mem_cons_self
    rw [BH, List.map_cons, List.flatten_cons]
    cases i with
    | zero =>
      rw [Nat.zero_mul, Nat.zero_add, List.getElem?_append_left (by rw [B8_length, hx]; exact hj)]
      rfl
    | succ i =>
      rw [List.getElem?_append_right (by rw [B8_length, hx]; omega), B8_length, hx, show (i + 1) * 32 + j - 32 = i * 32 + j by omega, List.getD_cons_succ]
      exact ih (fun y hy => h y (List.mem_cons_of_mem _ hy)) i (by simpa using hi)

/-- the slice value v reads as the sums ls -/
def SlH (w : World) (v : Value) (ls : List (List UInt8)) : Prop :=
  (ls = [] ∧ ∃ a c, v = .slice a 0 c) ∨ ∃ b off cap, v = .slice (some ⟨b, off, none⟩) ls.length cap ∧ ls.length ≤ cap ∧ cap ≤ maxLen ∧ ∀ i, i < ls.length → w.rangeAt b (off + i * 32) (B8 (ls.getD i []))
theorem SlH.shape {w : World} {v : Value} {ls : List (List UInt8)} (h : SlH w v ls) : ∃ a c, v = .slice a ls.length c := by
  rcases h with ⟨rfl, a, c, rfl⟩ | ⟨b, off, cap, rfl, _⟩
  · exact ⟨a, c, rfl⟩
  · exact ⟨_, cap, rfl⟩
theorem SlH.later {w w' : World} {v : Value} {ls : List (List UInt8)} (h : SlH w v ls) (hb : Below w.heap.size w w') : SlH w' v ls := by
  rcases h with h | ⟨b, off, cap, h0, h1, h2, h3⟩
  · exact .inl h
  · exact .inr ⟨b, off, cap, h0, h1, h2, fun i hi => rangeAt_blw (h3 i hi) hb⟩
/-- one of them -/
theorem SlH.cellAt {w : World} {a : Option Addr} {len cap : Nat} {ls : List (List UInt8)} (h : SlH w (.slice a len cap) ls) {i : Nat} (hi : i < ls.length) :
    ∃ b off, a = some ⟨b, off, none⟩ ∧ len = ls.length ∧ ls.length ≤ cap ∧ cap ≤ maxLen ∧ ∀ j, j < ls.length → w.rangeAt b (off + j * 32) (B8 (ls.getD j [])) := by
  rcases h with ⟨rfl, _⟩ | ⟨b, off, c, hv, h1, h2, h3⟩
  · simp at hi
  · cases hv
    exact ⟨b, off, rfl, rfl, h1, h2, h3⟩
/-- of the call's own -/
def OwnH (w : World) (B : Nat) (v : Value) (ls : List (List UInt8)) : Prop := OwnC w B 23 32 v ls.length (BH ls)
theorem OwnH.nil (w : World) (B : Nat) : OwnH w B (.slice none 0 0) [] := OwnC.nil _ _ _ _
theorem OwnH.none (w : World) : OwnH (w.alloc (.cells #[] 23)) w.heap.size (.slice (some ⟨w.heap.size, 0, .none⟩) 0 0) [] :=
  ⟨rfl, .inr ⟨w.heap.size, 0, 0, #[], rfl, Nat.le_refl _, heap_alloc_new w _, Nat.le_refl _, by simp, by simp, fun j hj => by simp [BH] at hj⟩⟩
theorem OwnH.later {w w' : World} {B : Nat} {v : Value} {ls : List (List UInt8)} (h : OwnH w B v ls) (hb : Below w.heap.size w w') : OwnH w' B v ls := OwnC.later h hb
theorem OwnH.down {w : World} {B B' : Nat} {v : Value} {ls : List (List UInt8)} (h : OwnH w B v ls) (hB : B' ≤ B) : OwnH w B' v ls := OwnC.down h hB
theorem OwnH.below {w w' : World} {B : Nat} {v : Value} {ls : List (List UInt8)} (h : OwnH w B v ls) (hg : w.grownBy w' v.ownBlock) (hB : B ≤ w.heap.size) : Below B w w' :=
  (Below.refl _ _).grown hg hB fun k hk => (OwnC.lt h k hk).1
theorem OwnH.sl {w : World} {B : Nat} {v : Value} {ls : List (List UInt8)} (h : OwnH w B v ls) (hl : L32 ls) : SlH w v ls := by
  rcases h.2 with ⟨rfl, h0⟩ | ⟨g, off, cap, cur, rfl, _, hg, hc, hm, hs, hcell⟩
  · exact .inl ⟨List.eq_nil_of_length_eq_zero h0, _, _, rfl⟩
  · refine .inr ⟨g, off, cap, rfl, hc, hm, fun i hi j u hu => ?_⟩
    have hj : j < 32 := by
      have := (List.getElem?_eq_some_iff.1 hu).1
      rwa [B8_length, hl.getD hi] at this
    rw [cell_of_row w g (off + i * 32 + j) _ _ (0, 0) hg, Nat.add_assoc, hcell (i * 32 + j) (by rw [BH_length hl]; omega), BH_get hl i j hi hj]
    exact hu
theorem OwnH.shape {w : World} {B : Nat} {v : Value} {ls : List (List UInt8)} (h : OwnH w B v ls) : ∃ a c, v = .slice a ls.length c := by
  rcases h.2 with ⟨rfl, h0⟩ | ⟨g, off, cap, cur, rfl, _⟩
  · exact ⟨_, _, by rw [h0]⟩
  · exact ⟨_, _, rfl⟩
/-- THE LAW: append(s, x) of one sum, in a plain region. -/
theorem wpList_appendH {ops : Array Oper} {rest : List Oper} {o : Oper} {a : Act} {w : World} {Q : Exit → Act → World → Prop} (hgd : o.guard = none) (s x : Operand)
    (ho : o.op = .call { callee := .builtin .append, args := #[s, x], argTypes := #[114, 114] })
    (B : Nat) (v : Value) (ls : List (List UInt8)) (hs : a.eval s = v) (hown : OwnH w B v ls) (b c : Nat) (r : List UInt8) (hx : a.eval x = .slice (some ⟨b, 0, none⟩) 1 c) (t : TypeId) (hr : w.heap[b]? = some (.cells (B8 r).toArray t (0, 0))) (hrl : r.length = 32)
    (hlen : ls.length ≤ 10000000) (hB : B ≤ w.heap.size)
    (h : ∀ v' w', OwnH w' B v' (ls ++ [r]) → w.grownBy w' v.ownBlock → (v'.ownBlock = v.ownBlock ∨ v'.ownBlock = some w.heap.size) → wpList Tryz.prog ops Q rest (a.put o.dst v') w') :
    wpList Tryz.prog ops Q (o :: rest) a w := by
  refine wpList_plain hgd fun _ hK => ?_
  obtain ⟨i0, hi, hz0, hz1, hz2⟩ := info_parts info_a32
  have hsrc : Src Tryz.prog 32 114 (.slice (some ⟨b, 0, none⟩) 1 c) 1 (B8 r) w := by
    refine Src.ofSlice w Tryz.underlying114 ⟨b, 0, none⟩ 1 c (B8 r) (by rw [B8_length, hrl]) (fun j u hu => ?_) (B8_one r)
    have hadd : (⟨b, 0, none⟩ : Addr).add j = ⟨b, 0 + j, none⟩ := by unfold Addr.add; split <;> simp_all
    rw [hadd, cell_of_row w b (0 + j) _ _ (0, 0) hr, Nat.zero_add, List.getElem?_toArray]
    exact hu
  obtain ⟨v', w', hrun, h2, h3, h4⟩ := run_append_ownC (P := Tryz.prog) 114 114 o.type 23 i0 _ 32 32 Tryz.underlying114 hi hz0 hz1 hz2 (by simp [Value.cells]) hown _ 1 (B8 r) hsrc
    (by simp only [maxLen]; omega) (by omega) hB
  unfold Oper.wp execOp
  simp only [ho, resolve, invoke, builtin, Sem.run_bind, Sem.run_pure, Result.andThen_ok, List.map_toArray, List.map_cons, List.map_nil, hs, hx, hrun]
  refine hK _ _ (h v' w' ?_ h3 h4)
  unfold OwnH
  rw [List.length_append, BH_snoc]
  exact h2
theorem fillH (Y : List UInt8) (hY : Y.length = 32) (cells : Array Value) (hc : cells.size = 32) : Instr.fill (fun i => some (i * 32, 32)) cells [(0, .agg (B8 Y).toArray)] = some (B8 Y).toArray := by
  have hs : (Value.agg (B8 Y).toArray).cells.size = 32 := by simp [Value.cells, B8_length, hY]
  obtain ⟨r, hr, hsz, hk⟩ := Great.fill_dense (s := 32) (by decide) [.agg (B8 Y).toArray] 0 cells (fun v hv => by rw [List.mem_singleton.1 hv]; exact hs) (by simp [hc])
  have e : r = (B8 Y).toArray := by
    apply Array.ext_getElem?
    intro k
    rw [hk k]
    by_cases h : k < 32
    · have h1 : k / 32 = 0 := by omega
      have h2 : k % 32 = k := by omega
      rw [if_pos ⟨by omega, by simpa using h⟩, h1, h2]
      rfl
    · rw [if_neg (by simp; omega), Array.getElem?_eq_none (by omega), Array.getElem?_eq_none (by simp [B8_length, hY]; omega)]
  rw [e] at hr
  exact hr
/-- a row of one sum is made -/
theorem wpList_buildH {ops : Array Oper} {rest : List Oper} {o : Oper} {a : Act} {w : World} {Q : Exit → Act → World → Prop} (hgd : o.guard = none) (x : Operand) (ho : o.op = .buildSlice 114 1 #[(0, x)])
    (Y : List UInt8) (hY : Y.length = 32) (hx : a.eval x = .agg (B8 Y).toArray)
    (h : wpList Tryz.prog ops Q rest (a.put o.dst (.slice (some ⟨w.heap.size, 0, none⟩) 1 1)) (w.alloc (.cells (B8 Y).toArray 23))) : wpList Tryz.prog ops Q (o :: rest) a w := by
  obtain ⟨i0, hi, hz0, hz1, hz2⟩ := info_parts info_a32
  refine wpList_buildSlice hgd 114 23 1 _ ho (B8 Y).toArray i0 _ Tryz.underlying114 hi hz0 (by rw [hz1]; decide) (by rw [hz1]; decide) ?_ h
  rw [hz1]
  have e : ((#[(0, x)] : Array (Nat × Operand)).map fun (i, x) => (i, a.eval x)).toList = [(0, .agg (B8 Y).toArray)] := by simp [hx]
  rw [e]
  exact fillH Y hY _ (by simp)
end Go.Proofs.YtcnelahmbfggcaaGreat

/- The walk of the document's public. -/
namespace Go.Proofs.YtcnelahmbfggcaaGreat
open Go Go.RowKit
set_option maxRecDepth 100000
set_option maxHeartbeats 1000000

theorem public_ref (I S : List UInt8) (q : Nat) (d : Int) (v : Value) (ls : List (List UInt8)) (w : World) (hI : I.length = 16) (hS : S.length = 32) (hq : q < 4294967296) (hv : SlH w v ls) (hl : L32 ls) (hn : ls.length ≤ 300) :
    Calls Tryz.prog 77 #[.agg (KeyV I S q d).toArray, v] w fun e w' => e = .returned (.agg (B8 (hashN I q 32896 ls)).toArray) ∧ Below w.heap.size w w' := by
  obtain ⟨W0, HW0, HB0, HS0, HR0⟩ : ∃ V, Hid (V = w.alloc (.cells (KeyV I S q d).toArray 93)) ∧ Hid (Below w.heap.size w V) ∧ Hid (V.heap.size = w.heap.size + 1) ∧ Hid (V.heap[w.heap.size]? = some (.cells (KeyV I S q d).toArray 93 (0, 0))) := ⟨_, Lib.hid rfl, Lib.hid ((Below.refl _ _).alloc (Nat.le_refl _) _), Lib.hid (by simp), Lib.hid (heap_alloc_new _ _)⟩
  obtain ⟨V, HV, HVB, HVS, HVR, HVZ⟩ : ∃ V, Hid (V = W0.alloc (.cells (Array.replicate 32 (.int .u8 0)) 23)) ∧ Hid (Below w.heap.size w V) ∧ Hid (V.heap.size = w.heap.size + 2) ∧ Hid (V.heap[w.heap.size]? = some (.cells (KeyV I S q d).toArray 93 (0, 0))) ∧ Hid (V.heap[w.heap.size + 1]? = some (.cells (Array.replicate 32 (.int .u8 0)) 23 (0, 0))) :=
    ⟨_, Lib.hid rfl, Lib.hid (HB0.out.alloc HB0.out.size _), Lib.hid (by simp [HS0.out]), Lib.hid ((heap_alloc_old _ _ (by rw [HS0.out]; omega)).trans HR0.out), Lib.hid (by rw [← HS0.out]; exact heap_alloc_new _ _)⟩
  have IK : Hid ((Tryz.prog.info? 93).map (·.size) = some (KeyV I S q d).toArray.size) := Lib.hid (by rw [info_rkey, List.size_toArray, KeyV_length _ _ _ _ hI hS])
  have HHE := Lib.hid (fun w' => head_ref I S q d w' hI hq)
  obtain ⟨H0, HH0⟩ : ∃ H, Hid (H = I ++ fourN q) := ⟨_, Lib.hid rfl⟩
  have HHL0 : Hid (H0.length = 20) := Lib.hid (by rw [HH0.out, head_len, hI])
  rw [← HH0.out] at HHE
  obtain ⟨T, HT⟩ : ∃ T, Hid (T = twoN 32896) := ⟨_, Lib.hid rfl⟩
  have HTL : Hid (T.length = 2) := Lib.hid (by rw [HT.out]; rfl)
  have HF : Hid (#[Value.int .u8 128, .int .u8 128] = (B8 T).toArray) := Lib.hid (by rw [HT.out]; rfl)
  obtain ⟨H, HH⟩ : ∃ H, Hid (H = H0 ++ T) := ⟨_, Lib.hid rfl⟩
  have HHL : Hid (H.length = 22) := Lib.hid (by rw [HH.out, List.length_append, HHL0.out, HTL.out])
  obtain ⟨R, HR⟩ : ∃ R, Hid (R = hashN I q 32896 ls) := ⟨_, Lib.hid rfl⟩
  have HRP : Hid (R = sha (H ++ ls.flatten)) := Lib.hid (by rw [HR.out, hashN, HH.out, HH0.out, HT.out])
  have HRL : Hid (R.length = 32) := Lib.hid (by rw [HR.out]; exact sha_length _)
  have J32 : Hid ((Tryz.prog.info? 23).map (·.size) = some (B8 R).toArray.size) := Lib.hid (by rw [info_32]; simp [B8_length, HRL.out])
  rw [← HR.out]
  have HFL := Lib.hid hl.flat
  have HL := Lib.hid hl
  obtain ⟨N, HN⟩ : ∃ N, Hid (N = ls.length) := ⟨_, Lib.hid rfl⟩
  obtain ⟨va, vc, rfl⟩ := hv.shape
  have HSH := Lib.hid hv
  rw [← HN.out] at hn ⊢ HSH
  clear hI hS hq hv hl
  go_enter Tryz.func77, Tryz.ntmps77
  go_upto_region 1 with (fail)
  rw [← HW0.out]
  change Code.wp _ _ _ _ (W0.alloc (.cells (Array.replicate 32 (.int .u8 0)) 23))
  rw [← HV.out]
  go_wp2_with (first
    | (refine wpList_load_row rfl 93 _ rfl _ rfl _ (KeyV I S q d).toArray (0, 0) _ HVR.out Tryz.underlying93 rfl IK.out ?_)
    | (go_at_call 81; refine (HHE.out V).mono ?_; rintro e w2 ⟨v2, rfl, o2, b2⟩; have HO2 := Lib.hid (o2.later ((Below.refl _ _).alloc (Nat.le_refl _) (.cells #[.int .u8 128, .int .u8 128] 5))); have HB2 := Lib.hid (b2.alloc b2.size (.cells #[.int .u8 128, .int .u8 128] 5)); have HF2 := Lib.hid (Sl.made w2 T 5 _ 2 _ HF.out (by rw [HTL.out]) (by decide) rfl); clear o2 b2)
    | (at_builtin; refine wpList_append8 rfl _ _ rfl V.heap.size _ H0 rfl HO2.out _ T rfl HF2.out (by rw [HHL0.out, HTL.out]; decide) HB2.out.size ?_; intro v3 w3 hv3 hg3 _; have HB3 := Lib.hid (HB2.out.trans (Own8.below HO2.out hg3 HB2.out.size)); rw [← HH.out] at hv3; have HO3 := Lib.hid hv3; clear hv3 hg3))
  go_loopw [5, 6] (fun s i' wr => ∃ n : Nat, n ≤ N ∧ i' = .int .i64 n ∧ Hid (Own8 wr V.heap.size s (H ++ (ls.take n).flatten)) ∧ Hid (Below V.heap.size V wr)) (fun _ i' _ => N - (intOf i').toNat)
  case atStart => exact ⟨0, by omega, rfl, Lib.hid (by simpa using HO3.out), HB3⟩
  case round =>
    obtain ⟨n, hnN, rfl, HO, HB⟩ := hrel
    obtain ⟨P, HP⟩ : ∃ P, Hid (P = H ++ (ls.take n).flatten) := ⟨_, Lib.hid rfl⟩
    rw [← HP.out] at HO
    obtain ⟨sa, sc, rfl⟩ := HO.out.shape
    by_cases hlt : n < N
    · have HBW : Hid (Below w.heap.size w wr) := Lib.hid (HVB.out.trans (HB.out.mono HVB.out.size))
      obtain ⟨b, off, rfl, -, hc1, hc2, hrng⟩ := HSH.out.cellAt (i := n) (by rw [← HN.out]; exact hlt)
      have HX := Lib.hid (rangeAt_blw (hrng n (by rw [← HN.out]; exact hlt)) HBW.out)
      have HXL := Lib.hid (HL.out.getD (i := n) (by rw [← HN.out]; exact hlt))
      have HTK := Lib.hid (take_snocL ls n (by rw [← HN.out]; exact hlt))
      have HTLE := Lib.hid (take_flat_le ls n)
      generalize ls.getD n [] = X at HX HXL HTK
      rw [← HN.out] at hc1
      have hlt' : (n : Int) < N := by omega
      have IX : Hid ((Tryz.prog.info? 23).map (·.size) = some (B8 X).length) := Lib.hid (by rw [info_32, B8_length, HXL.out])
      clear hrng
      have IXA : Hid ((Tryz.prog.info? 23).map (·.size) = some (B8 X).toArray.size) := Lib.hid (by rw [IX.out, List.size_toArray])
      have HXS : Hid (Sl (wr.alloc (.cells (B8 X).toArray 23)) (.slice (some ⟨wr.heap.size, 0, none⟩) 32 32) X) := Lib.hid (Sl.ofBlock (heap_alloc_new _ _) HXL.out.symm (Nat.le_refl _) (by simp [maxLen]) (fun i _ => by rw [Nat.zero_add, List.getElem?_toArray]))
      have HBX : Hid (Below wr.heap.size wr (wr.alloc (.cells (B8 X).toArray 23))) := Lib.hid ((Below.refl _ _).alloc (Nat.le_refl _) _)
      have HOX := Lib.hid (HO.out.later HBX.out)
      have HB4 := Lib.hid (HB.out.trans (HBX.out.mono HB.out.size))
      have HLEN : Hid (P.length + X.length ≤ 1000000000) := Lib.hid (by
        have := HTLE.out
        rw [HFL.out, ← HN.out] at this
        rw [HP.out, List.length_append, HHL.out, HXL.out]; omega)
      go_wp2_with (first
        | (refine wpList_load_mid rfl 23 _ rfl b (off + n * 32) (by rfl) (B8 X) _ HX.out Tryz.underlying23 rfl IX.out ?_)
        | (refine wpList_store_new rfl 23 _ _ rfl (B8 X).toArray rfl rfl 23 _ IXA.out (by simp [B8_length, HXL.out]) (B8_oneA X) ?_)
        | (at_builtin; refine wpList_append8 rfl _ _ rfl V.heap.size _ _ rfl HOX.out _ X rfl HXS.out HLEN.out HB4.out.size ?_; intro v5 w5 hv5 hg5 _; have HB5 := Lib.hid (HB4.out.trans (Own8.below HOX.out hg5 HB4.out.size)); rw [HP.out, List.append_assoc, ← HTK.out] at hv5; have HO5 := Lib.hid hv5; clear hv5 hg5))
      go_roundw
      case rel => exact ⟨n + 1, by omega, by go_num, HO5, HB5⟩
      case measure => simp [intOf]; omega
    · obtain rfl : n = N := by omega
      rw [List.take_of_length_le (by rw [HN.out]; exact Nat.le_refl _)] at HP
      rw [← HP.out] at HRP
      have HLEN : Hid (P.length ≤ 100000000) := Lib.hid (by rw [HP.out, List.length_append, HHL.out, HFL.out, ← HN.out]; omega)
      go_wp2_with (first
        | (go_at_call 78; refine (Sum_ref _ _ wr HO.out.sl HLEN.out).mono ?_; rintro e w6 ⟨rfl, b6⟩; rw [← HRP.out]; have HB6 := Lib.hid (HB.out.trans (b6.mono HB.out.size)); have HZ6 := Lib.hid ((HB6.out.block _ (by rw [HVS.out]; omega)).trans HVZ.out); clear b6)
        | (refine wpList_store_row rfl 23 _ _ rfl _ (B8 R).toArray rfl rfl 23 _ HZ6.out J32.out (by simp [B8_length, HRL.out]) (B8_oneA R) ?_))
      exact bodyPost_ret (results_cell_row rfl _ _ (w.heap.size + 1) 23 _ (0, 0) _ rfl (setRow_heap _ _ _ _ _ _ HZ6.out) Tryz.underlying23 rfl J32.out) rfl ⟨rfl, below_row (HVB.out.trans (HB6.out.mono HVB.out.size)) (by omega) _⟩
end Go.Proofs.YtcnelahmbfggcaaGreat

/- `x, e := f(..)` in a drawn region with more than one call: a table of values, and the variable's place and store. No condition. -/
namespace Go.Proofs.YtcnelahmbfggcaaGreat
open Go Go.RowKit
set_option maxRecDepth 100000
namespace Wild

def spv (F : Nat → Option Value) (t : TypeId) (Z V : Array Value) (B ai si : Nat) : Spec where
  pure := fun k => match F k with | some v => some (· = v) | none => if k = ai then some fun _ => True else if k = si then some fun _ => True else none
  dflt := fun k => (F k).getD undef
  fact := fun k vs w => if k = ai then ∃ b : Nat, vs ai = .pointer (some ⟨b, 0, none⟩) ∧ B ≤ b ∧ (w.heap[b]? = some (.cells Z t (0, 0)) ∨ w.heap[b]? = some (.cells V t (0, 0)))
    else if k = si then ∃ b : Nat, vs ai = .pointer (some ⟨b, 0, none⟩) ∧ B ≤ b ∧ w.heap[b]? = some (.cells V t (0, 0)) else True
  use := fun k => if k = si then [ai] else []
variable {F : Nat → Option Value} {t : TypeId} {Z V : Array Value} {B ai si : Nat}
theorem spv_later : ∀ k vs w w', (spv F t Z V B ai si).fact k vs w → G1 t Z V w w' → (spv F t Z V B ai si).fact k vs w' := by
  intro k vs w w' h hg
  simp only [spv] at *
  split
  · rename_i e
    rw [if_pos e] at h
    obtain ⟨b, h1, h2, h3⟩ := h
    refine ⟨b, h1, h2, ?_⟩
    rcases h3 with h3 | h3
    · exact hg.2 b h3
    · exact .inr (hg.1 b h3)
  · rename_i e
    rw [if_neg e] at h
    split
    · rename_i e2
      rw [if_pos e2] at h
      obtain ⟨b, h1, h2, h3⟩ := h
      exact ⟨b, h1, h2, hg.1 b h3⟩
    · trivial
theorem spv_ai (h : F ai = none) : ((spv F t Z V B ai si).pure ai).isSome = true := by simp [spv, h]
theorem spv_si (h : F si = none) : ((spv F t Z V B ai si).pure si).isSome = true := by
  simp only [spv, h]
  split <;> rfl
theorem spv_loc (hai : F ai = none) : ∀ k (vs vs' : Nat → Value) w, vs k = vs' k → (∀ m ∈ (spv F t Z V B ai si).use k, ((spv F t Z V B ai si).pure m).isSome = true → vs m = vs' m) → (spv F t Z V B ai si).fact k vs w → (spv F t Z V B ai si).fact k vs' w := by
  intro k vs vs' w he hu h
  have ha : ((spv F t Z V B ai si).pure ai).isSome = true := spv_ai hai
  simp only [spv] at h hu ⊢
  split
  · rename_i e
    rw [if_pos e] at h
    subst e
    rw [← he]
    exact h
  · rename_i e
    rw [if_neg e] at h
    split
    · rename_i e2
      rw [if_pos e2] at h hu
      rw [← hu ai (by simp) ha]
      exact h
    · trivial
theorem spv_dflt : ∀ k p, (spv F t Z V B ai si).pure k = some p → p ((spv F t Z V B ai si).dflt k) := by
  intro k p h
  simp only [spv] at *
  cases e : F k with
  | some v => rw [e] at h; cases h; rfl
  | none =>
    rw [e] at h
    simp only at h
    split at h
    · cases h; trivial
    · split at h
      · cases h; trivial
      · cases h
theorem region_v {P : Program} {id : Nat} {Q : Exit → Act → World → Prop} {a : Act} {w : World} {l : List Oper} (F : Nat → Option Value) (t : TypeId) (Z V : Array Value) (ai si : Nat) (hai : F ai = none) (hsi : F si = none) (has : ai ≠ si) (hl : si < l.length)
    (hm : P.follows .mixedOrders = true) (hB : okB l.toArray (fun k => if k = si then [ai] else []) = true)
    (h : ∀ vs : Nat → Value, (∀ k v, F k = some v → vs k = v) → walk P l.toArray (CB w) (G1 t Z V) (spv F t Z V w.heap.size ai si) vs (fun a' => ∀ w', CB w w' → (∃ b : Nat, vs ai = .pointer (some ⟨b, 0, none⟩) ∧ w.heap.size ≤ b ∧ w'.heap[b]? = some (.cells V t (0, 0))) → Q .normal a' w') l 0 a) : (Code.region id l.toArray true).wp P Q a w :=
  region (spv F t Z V w.heap.size ai si) (CB w) (G1 t Z V) hm hB ((Below.refl _ _).drew) spv_later (spv_loc hai) spv_dflt fun vs hvs => by
    have h1 := h vs fun k v e => hvs k (· = v) (by simp [spv, e])
    have e : (fun a' : Act => ∀ w', CB w w' → (∀ m, ((spv F t Z V w.heap.size ai si).pure m).isSome = true → m < l.length → (spv F t Z V w.heap.size ai si).fact m vs w') → Q .normal a' w') = (fun a' : Act => ∀ w', CB w w' → (∃ b : Nat, vs ai = .pointer (some ⟨b, 0, none⟩) ∧ w.heap.size ≤ b ∧ w'.heap[b]? = some (.cells V t (0, 0))) → Q .normal a' w') := by
      funext a'
      apply propext
      constructor
      · intro h2 w' hc ⟨b, b1, b2, b3⟩
        refine h2 w' hc fun m _ _ => ?_
        simp only [spv]
        split
        · exact ⟨b, b1, b2, .inr b3⟩
        · split
          · exact ⟨b, b1, b2, b3⟩
          · trivial
      · intro h2 w' hc hf
        refine h2 w' hc ?_
        have := hf si (spv_si hsi) hl
        simp only [spv, if_neg (Ne.symm has), if_true] at this
        exact this
    rw [e]
    exact h1
/-- the variable's fact at the store's step -/
theorem spv_var {P : Program} {vs : Nat → Value} {w w0 : World} (hai : F ai = none) (h : At (CB w0) (spv F t Z V B ai si) vs si w) (_ : P = P) : ∃ b : Nat, vs ai = .pointer (some ⟨b, 0, none⟩) ∧ B ≤ b ∧ (w.heap[b]? = some (.cells Z t (0, 0)) ∨ w.heap[b]? = some (.cells V t (0, 0))) := by
  have := h.2 ai (by simp [spv]) (spv_ai hai)
  simpa [spv] using this
end Wild
end Go.Proofs.YtcnelahmbfggcaaGreat

/- The walk of the document's Public. -/
namespace Go.Proofs.YtcnelahmbfggcaaGreat
open Go Go.RowKit
set_option maxRecDepth 100000
set_option maxHeartbeats 1000000

/-- the ends of the chains -/
def endsL (I S : List UInt8) (q L : Nat) : Nat → List (List UInt8)
  | 0 => []
  | n + 1 => endsL I S q L n ++ [chainN I q n (secretN I S q n) 0 L]
theorem endsL_flat (I S : List UInt8) (q L n : Nat) : (endsL I S q L n).flatten = endsN I S q L n := by
  induction n with
  | zero => rfl
  | succ n ih => rw [endsL, List.flatten_append, ih, endsN]; simp
theorem endsL_length (I S : List UInt8) (q L n : Nat) : (endsL I S q L n).length = n := by
  induction n with
  | zero => rfl
  | succ n ih => rw [endsL, List.length_append, ih]; rfl
theorem endsL_32 (I S : List UInt8) (q L n : Nat) : L32 (endsL I S q L n) := by
  induction n with
  | zero => exact L32.nil
  | succ n ih => exact ih.snoc (chainN_length _ _ _ _ _ _ (secretN_length _ _ _ _))
theorem hash_flat (I : List UInt8) (q t : Nat) (ls : List (List UInt8)) : hashN I q t ls = hashN I q t [ls.flatten] := by simp [hashN]
/-- of a width: the digits' secrets and chains are there -/
theorem sec_in (I S : List UInt8) (q k n : Nat) (hn : (n : Int) < manyW k) : secV I S q k n = secretN I S q n ∧ (if (0 : Int) ≤ n ∧ (n : Int) < manyW k then (0 : Int) else 1) = 0 := by
  have h : (0 : Int) ≤ n ∧ (n : Int) < manyW k := ⟨Int.natCast_nonneg _, hn⟩
  exact ⟨by rw [secV, if_pos h, Int.toNat_natCast], if_pos h⟩
theorem ch_in (I : List UInt8) (q k n a b : Nat) (x : List UInt8) (hn : (n : Int) < manyW k) (hab : a ≤ b) (hb : b ≤ 2 ^ k - 1) : chV I q k n a b x = chainN I q n x a (b - a) ∧ chOk k n a b = true := by
  have h : chOk k n a b = true := by
    rw [chOk, decide_eq_true_iff, Int.toNat_natCast]
    exact ⟨Int.natCast_nonneg _, hn, Int.natCast_nonneg _, Int.ofNat_le.2 hab, Int.ofNat_le.2 hb⟩
  exact ⟨by rw [chV, if_pos h, Int.toNat_natCast, Int.toNat_natCast, Int.toNat_natCast], h⟩

theorem Public_ref (I S : List UInt8) (q : Nat) (d : Int) (w : World) (hI : I.length = 16) (hS : S.length = 32) (hq : q < 4294967296) :
    Calls Tryz.prog 70 #[.agg (KeyV I S q d).toArray] w fun e w' => e = .returned (.tuple #[.agg (B8 (pubV I S q d)).toArray, .int .i64 (errW d)]) ∧ Below w.heap.size w w' := by
  obtain ⟨W0, HW0, HB0, HS0, HR0⟩ : ∃ V, Hid (V = w.alloc (.cells (KeyV I S q d).toArray 93)) ∧ Hid (Below w.heap.size w V) ∧ Hid (V.heap.size = w.heap.size + 1) ∧ Hid (V.heap[w.heap.size]? = some (.cells (KeyV I S q d).toArray 93 (0, 0))) := ⟨_, Lib.hid rfl, Lib.hid ((Below.refl _ _).alloc (Nat.le_refl _) _), Lib.hid (by simp), Lib.hid (heap_alloc_new _ _)⟩
  obtain ⟨V, HV, HVB, HVS, HVR, HVZ⟩ : ∃ V, Hid (V = W0.alloc (.cells (Array.replicate 32 (.int .u8 0)) 23)) ∧ Hid (Below w.heap.size w V) ∧ Hid (V.heap.size = w.heap.size + 2) ∧ Hid (V.heap[w.heap.size]? = some (.cells (KeyV I S q d).toArray 93 (0, 0))) ∧ Hid (V.heap[w.heap.size + 1]? = some (.cells (Array.replicate 32 (.int .u8 0)) 23 (0, 0))) :=
    ⟨_, Lib.hid rfl, Lib.hid (HB0.out.alloc HB0.out.size _), Lib.hid (by simp [HS0.out]), Lib.hid ((heap_alloc_old _ _ (by rw [HS0.out]; omega)).trans HR0.out), Lib.hid (by rw [← HS0.out]; exact heap_alloc_new _ _)⟩
  have IK : Hid ((Tryz.prog.info? 93).map (·.size) = some (KeyV I S q d).toArray.size) := Lib.hid (by rw [info_rkey, List.size_toArray, KeyV_length _ _ _ _ hI hS])
  have IKL : Hid ((Tryz.prog.info? 93).map (·.size) = some (KeyV I S q d).length) := Lib.hid (by rw [info_rkey, KeyV_length _ _ _ _ hI hS])
  have HM := Lib.hid (many_ref d V)
  have hkw := key_W HVR.out hI hS
  by_cases hw : isW d = true
  · obtain ⟨k, rfl⟩ : ∃ k : Nat, d = k := ⟨d.toNat, by rcases (isW_iff d).1 hw with h | h | h | h <;> omega⟩
    have hk : k = 1 ∨ k = 2 ∨ k = 4 ∨ k = 8 := by rcases (isW_iff _).1 hw with h | h | h | h <;> omega
    obtain ⟨em, hmb⟩ := manyW_w k hk
    have e3 : errW k = 0 := by simp [errW, hw]
    rw [e3, pubV, if_pos hw, Int.toNat_natCast, pubN]
    have hN0 : 1 ≤ 256 / k + chkN k := by rcases hk with rfl | rfl | rfl | rfl <;> decide
    have HSE := Lib.hid (fun (j : Nat) w' => Secret_ref I S q k j w' hI hS hq)
    have HIN := Lib.hid (fun (j : Nat) h => sec_in I S q k j h)
    have HCI := Lib.hid (fun (j : Nat) x h => ch_in I q k j 0 (2 ^ k - 1) x h (Nat.zero_le _) (Nat.le_refl _))
    have HCH := Lib.hid (fun (j b : Nat) (x : List UInt8) w' (hx : x.length = 32) => Chain_ref I S q k j 0 b x w' hI hS hq hx)
    rw [em] at HM HIN HCI HSE
    generalize 256 / k + chkN k = N at *
    have HLA := Lib.hid (fun w' => last_ref k w' (by omega))
    have hLb : 2 ^ k - 1 ≤ 255 := by rcases hk with rfl | rfl | rfl | rfl <;> decide
    generalize 2 ^ k - 1 = L at *
    have HPU := Lib.hid (fun v w' (h : SlH w' v (endsL I S q L N)) => public_ref I S q k v (endsL I S q L N) w' hI hS hq h (endsL_32 _ _ _ _ _) (by rw [endsL_length]; omega))
    rw [hash_flat, endsL_flat] at HPU
    obtain ⟨R, HR⟩ : ∃ R, Hid (R = hashN I q 32896 [endsN I S q L N]) := ⟨_, Lib.hid rfl⟩
    have HRL : Hid (R.length = 32) := Lib.hid (by rw [HR.out]; exact sha_length _)
    have J32 : Hid ((Tryz.prog.info? 23).map (·.size) = some (B8 R).toArray.size) := Lib.hid (by rw [info_32]; simp [B8_length, HRL.out])
    rw [← HR.out] at HPU ⊢
    have HL32 := Lib.hid (fun n => endsL_32 I S q L n)
    have HELN := Lib.hid (fun n => endsL_length I S q L n)
    have HES : Hid (∀ n, endsL I S q L (n + 1) = endsL I S q L n ++ [chainN I q n (secretN I S q n) 0 L]) := Lib.hid (fun n => rfl)
    have HE0 : Hid (endsL I S q L 0 = []) := Lib.hid rfl
    have f1 : decide ((N : Int) = 0) = false := by rw [decide_eq_false_iff_not]; omega
    have f2 : decide (N = 0) = false := by rw [decide_eq_false_iff_not]; omega
    have HHI := Lib.hid hI
    have HHS := Lib.hid hS
    clear hw hk em e3 hI hS hq
    generalize hE : endsL I S q L = E at *
    clear hE
    go_enter Tryz.func70, Tryz.ntmps70
    go_upto_region 1 with (fail)
    rw [← HW0.out]
    change Code.wp _ _ _ _ (W0.alloc (.cells (Array.replicate 32 (.int .u8 0)) 23))
    rw [← HV.out]
    go_wp2_with (go_at_call 71; refine HM.out.mono ?_; rintro e w1 ⟨rfl, b1⟩; have HO1 := Lib.hid (OwnH.down (OwnH.none w1) b1.size); have HB1 := Lib.hid (b1.alloc b1.size (.cells #[] 23)); clear b1)
    rw [← HE0.out] at HO1
    go_loopw [5, 6] (fun s i' wr => ∃ n : Nat, n ≤ N ∧ i' = .int .i64 n ∧ Hid (OwnH wr V.heap.size s (E n)) ∧ Hid (Below V.heap.size V wr)) (fun _ i' _ => N - (intOf i').toNat)
    case atStart => exact ⟨0, by omega, rfl, HO1, HB1⟩
    case round =>
      obtain ⟨n, hn, rfl, HO, HB⟩ := hrel
      by_cases hlt : n < N
      · have hlt' : (n : Int) < N := by omega
        obtain ⟨hs1, hs2⟩ := HIN.out n hlt'
        have HSN := Lib.hid (fun w' => HSE.out n w')
        rw [hs1, hs2] at HSN
        obtain ⟨X, HX⟩ : ∃ X, Hid (X = secretN I S q n) := ⟨_, Lib.hid rfl⟩
        have HXL : Hid (X.length = 32) := Lib.hid (by rw [HX.out]; exact secretN_length _ _ _ _)
        obtain ⟨hc1, hc2⟩ := HCI.out n X hlt'
        have HCN := Lib.hid (fun w' => HCH.out n L X w' HXL.out)
        have HCN2 : Hid (∀ w', Calls Tryz.prog 75 #[.agg (KeyV I S q k).toArray, .int .i64 n, .int .i64 0, .int .i64 L, .agg (B8 X).toArray] w' fun e w'' => e = .returned (.tuple #[.agg (B8 (chainN I q n X 0 L)).toArray, .int .i64 0]) ∧ Below w'.heap.size w' w'') := Lib.hid (by
          have h := HCN.out
          rw [show chV I q k n 0 L X = chainN I q n X 0 L from hc1, show chOk k n 0 L = true from hc2] at h
          exact h)
        obtain ⟨Y, HY⟩ : ∃ Y, Hid (Y = chainN I q n X 0 L) := ⟨_, Lib.hid rfl⟩
        have HYL : Hid (Y.length = 32) := Lib.hid (by rw [HY.out]; exact chainN_length _ _ _ _ _ _ HXL.out)
        have HEN : Hid (E (n + 1) = E n ++ [Y]) := Lib.hid (by rw [HES.out, HY.out, HX.out])
        rw [← HX.out] at HSN
        rw [← HY.out] at HCN2
        have IX : Hid ((Tryz.prog.info? 23).map (·.size) = some (B8 X).toArray.size) := Lib.hid (by rw [info_32]; simp [B8_length, HXL.out])
        have IXL : Hid ((Tryz.prog.info? 23).map (·.size) = some (B8 X).length) := Lib.hid (by rw [info_32]; simp [B8_length, HXL.out])
        have IY : Hid ((Tryz.prog.info? 23).map (·.size) = some (B8 Y).toArray.size) := Lib.hid (by rw [info_32]; simp [B8_length, HYL.out])
        have HKR : Hid (wr.heap[w.heap.size]? = some (.cells (KeyV I S q k).toArray 93 (0, 0))) := Lib.hid ((HB.out.block _ (by rw [HVS.out]; omega)).trans HVR.out)
        obtain ⟨ea, ec, rfl⟩ := HO.out.shape
        have HENL : Hid ((E n).length = n) := Lib.hid (HELN.out n)
        rw [HENL.out] at HO ⊢
        clear hs1 hs2 hc1 hc2 HCN
        go_upto_region 9 with (first
          | (refine wpList_load_row rfl 93 _ rfl _ rfl _ (KeyV I S q k).toArray (0, 0) _ HKR.out Tryz.underlying93 rfl IK.out ?_)
          | (go_at_call 82; refine (HSN.out wr).mono ?_; rintro e w2 ⟨rfl, b2⟩; have HB2 := Lib.hid b2; clear b2)
          | (refine wpList_store_new rfl 23 _ _ rfl (B8 X).toArray rfl rfl 23 _ IX.out (by simp [B8_length, HXL.out]) (B8_oneA X) ?_))
        obtain ⟨W3, HW3, HB3, HX3, HK3, HS3⟩ : ∃ W, Hid (W = w2.alloc (.cells (B8 X).toArray 23)) ∧ Hid (Below wr.heap.size wr W) ∧ Hid (W.heap[w2.heap.size]? = some (.cells (B8 X).toArray 23 (0, 0))) ∧ Hid (W.heap[w.heap.size]? = some (.cells (KeyV I S q k).toArray 93 (0, 0))) ∧ Hid (V.heap.size ≤ wr.heap.size) :=
          ⟨_, Lib.hid rfl, Lib.hid (HB2.out.alloc HB2.out.size _), Lib.hid (heap_alloc_new _ _), Lib.hid (((HB2.out.alloc HB2.out.size _).block _ (Array.getElem?_eq_some_iff.1 HKR.out).1).trans HKR.out), Lib.hid HB.out.size⟩
        have HKW := Lib.hid (key_W HK3.out HHI.out HHS.out)
        rw [← HW3.out]
        generalize w2.heap.size = px at *
        clear HW3 HB2
        refine Wild.region_v (fun j => match j with | 4 => some (.int .i64 (L : Int)) | 6 => some (.tuple #[.agg (B8 Y).toArray, .int .i64 0]) | _ => none) 23 (Array.replicate 32 (.int .u8 0)) (B8 Y).toArray 10 11 rfl rfl (by decide) (by decide) (by kernel_rfl) (by kernel_rfl) (fun vs hvs => ?_)
        have h4 : vs 4 = .int .i64 (L : Int) := hvs 4 _ rfl
        have h6 : vs 6 = .tuple #[.agg (B8 Y).toArray, .int .i64 0] := hvs 6 _ rfl
        refine Wild.walk_load 93 _ _ _ (KeyV I S q k) _ rfl (by rfl) rfl rfl (fun w hw => rangeAt_blw (rangeAt_row HK3.out) hw.1) Tryz.underlying93 rfl IKL.out ?_
        simp only [Act.put, List.setIfInBounds_toArray, List.set_cons_zero, List.set_cons_succ]
        repeat (refine Wild.walk_simple rfl (by rfl) (by rfl) (fun K hK => ?_); go_big_quiet_op; first | (refine hK _ ?_; clear hK K) | (refine ⟨_, fun _ _ => rfl, hK _ ?_⟩; clear hK K))
        refine Wild.walk_cell 3 _ _ _ (.int .i64 (k : Int)) _ rfl (by rfl) rfl rfl (fun w hw => by rw [hw.1.cell (World.block_lt_of_cell? _ _ HKW.out)]; exact HKW.out) Tryz.underlying3 rfl ?_
        simp only [Act.put, List.setIfInBounds_toArray, List.set_cons_zero, List.set_cons_succ]
        refine Wild.walk_wild _ rfl (by rfl) (fun w' hw K hK => ?_) ?_
        · go_simp
          go_at_call 76
          refine (HLA.out w').mono ?_
          rintro e w'' ⟨rfl, rfl⟩
          exact hK.out _ _ hw.1 (Wild.G1.of_below (Below.refl _ _)) rfl trivial
        rw [h4]
        simp only [Act.put, List.setIfInBounds_toArray, List.set_cons_zero, List.set_cons_succ]
        refine Wild.walk_load 23 _ _ _ (B8 X) _ rfl (by rfl) rfl rfl (fun w hw => rangeAt_blw (rangeAt_row HX3.out) hw.1) Tryz.underlying23 rfl IXL.out ?_
        simp only [Act.put, List.setIfInBounds_toArray, List.set_cons_zero, List.set_cons_succ]
        refine Wild.walk_wild _ rfl (by rfl) (fun w' hw K hK => ?_) ?_
        · go_simp
          go_at_call 75
          refine (HCN2.out w').mono ?_
          rintro e w'' ⟨rfl, hb⟩
          exact hK.out _ _ (hw.1.trans (hb.mono hw.1.size)) (Wild.G1.of_below hb) rfl trivial
        rw [h6]
        simp only [Act.put, List.setIfInBounds_toArray, List.set_cons_zero, List.set_cons_succ]
        clear h4 h6
        repeat (refine Wild.walk_simple rfl (by rfl) (by rfl) (fun K hK => ?_); go_big_quiet_op; first | (refine hK _ ?_; clear hK K) | (refine ⟨_, fun _ _ => rfl, hK _ ?_⟩; clear hK K))
        refine Wild.walk_wild _ rfl (by rfl) (fun w' hw K hK => ?_) ?_
        · go_simp
          exact hK.out (.pointer (some ⟨w'.heap.size, 0, none⟩)) _ (hw.1.alloc hw.1.size _) (Wild.G1.of_below ((Below.refl _ _).alloc (Nat.le_refl _) _)) trivial ⟨w'.heap.size, rfl, hw.1.size, .inl (heap_alloc_new _ _)⟩
        simp only [Act.put, List.setIfInBounds_toArray, List.set_cons_zero, List.set_cons_succ]
        refine Wild.walk_wild _ rfl (by rfl) (fun w' hw K hK => ?_) ?_
        · have hf := Wild.spv_var (P := Tryz.prog) rfl hw rfl
          refine Wild.step_store (B := W3.heap.size) (v := vs 10) 23 _ _ rfl rfl rfl IY.out (by simp [B8_length, HYL.out]) (B8_oneA Y) hf (fun b h1 h2 h3 h4 => ?_)
          exact hK.out _ _ (below_row hw.1 h2 _) h3 trivial ⟨b, h1, h2, h4⟩
        simp only [Act.put]
        repeat (refine Wild.walk_simple rfl (by rfl) (by rfl) (fun K hK => ?_); go_big_quiet_op; first | (refine hK _ ?_; clear hK K) | (refine ⟨_, fun _ _ => rfl, hK _ ?_⟩; clear hK K))
        refine Wild.walk_nil ?_
        intro w7 hw7 hf7
        obtain ⟨b, h1, h2, h3⟩ := hf7
        have h1' : vs (0 + 1 + 1 + 1 + 1 + 1 + 1 + 1 + 1 + 1 + 1) = .pointer (some ⟨b, 0, none⟩) := h1
        rw [h1']
        have HY7 := Lib.hid h3
        have HW7 : Hid (Below wr.heap.size wr w7) := Lib.hid (HB3.out.trans (Below.mono hw7 HB3.out.size))
        have HO7 := Lib.hid ((HO.out.later HW7.out).later ((Below.refl _ _).alloc (Nat.le_refl _) (.cells (B8 Y).toArray 23)))
        have HB7 : Hid (Below V.heap.size V (w7.alloc (.cells (B8 Y).toArray 23))) := Lib.hid ((HB.out.trans (HW7.out.mono HB.out.size)).alloc (HB.out.trans (HW7.out.mono HB.out.size)).size _)
        have HN7 : Hid ((w7.alloc (.cells (B8 Y).toArray 23)).heap[w7.heap.size]? = some (.cells (B8 Y).toArray 23 (0, 0))) := Lib.hid (heap_alloc_new _ _)
        clear h1 h1' h2 h3 hw7 hvs
        go_wp2_with (first
          | (refine wpList_load_row rfl 23 _ rfl _ rfl _ (B8 Y).toArray (0, 0) _ HY7.out Tryz.underlying23 rfl IY.out ?_)
          | (refine wpList_buildH rfl _ rfl Y HYL.out rfl ?_)
          | (at_builtin; refine wpList_appendH rfl _ _ rfl V.heap.size _ (E n) rfl HO7.out _ 1 Y rfl 23 HN7.out HYL.out (by rw [HENL.out]; omega) HB7.out.size ?_; intro v8 w8 hv8 hg8 _; have HB8 := Lib.hid (HB7.out.trans (OwnH.below HO7.out hg8 HB7.out.size)); rw [← HEN.out] at hv8; have HO8 := Lib.hid hv8; clear hv8 hg8))
        go_roundw
        case rel => exact ⟨n + 1, by omega, by go_num, HO8⟩
        case measure => simp [intOf]; omega
      · obtain rfl : n = N := by omega
        obtain ⟨ea, ec, rfl⟩ := HO.out.shape
        have HSH := Lib.hid (HO.out.sl (HL32.out n))
        have HENL : Hid ((E n).length = n) := Lib.hid (HELN.out n)
        rw [HENL.out] at HSH ⊢
        have HKR : Hid (wr.heap[w.heap.size]? = some (.cells (KeyV I S q k).toArray 93 (0, 0))) := Lib.hid ((HB.out.block _ (by rw [HVS.out]; omega)).trans HVR.out)
        go_wp2_with (first
          | (refine wpList_load_row rfl 93 _ rfl _ rfl _ (KeyV I S q k).toArray (0, 0) _ HKR.out Tryz.underlying93 rfl IK.out ?_)
          | (go_at_call 77; refine (HPU.out _ wr HSH.out).mono ?_; rintro e w8 ⟨rfl, b8⟩; have HB8 := Lib.hid (HB.out.trans (b8.mono HB.out.size)); have HZ8 := Lib.hid ((HB8.out.block _ (by rw [HVS.out]; omega)).trans HVZ.out); clear b8)
          | (refine wpList_store_row rfl 23 _ _ rfl _ (B8 R).toArray rfl rfl 23 _ HZ8.out J32.out (by simp [B8_length, HRL.out]) (B8_oneA R) ?_))
        exact bodyPost_ret (results_cell_row_tmp rfl _ _ (w.heap.size + 1) 23 _ (0, 0) _ rfl (setRow_heap _ _ _ _ _ _ HZ8.out) Tryz.underlying23 rfl J32.out) rfl ⟨rfl, below_row (HVB.out.trans (HB8.out.mono HVB.out.size)) (by omega) _⟩
  · have hw' : isW d = false := by simpa using hw
    have e3 : errW d = 1 := by simp [errW, hw']
    have hm : manyW d = 0 := by rw [manyW, if_neg hw]
    obtain ⟨Z, HZ⟩ : ∃ Z, Hid (Z = (B8 zero32).toArray) := ⟨_, Lib.hid rfl⟩
    have HZB : Hid (∀ w, (Instr.build 23 #[]).run Tryz.prog w = .ok (.agg Z) w) := Lib.hid (by rw [HZ.out]; exact fun w => by kernel_rfl)
    have HZI : Hid ((Tryz.prog.info? 23).map (·.size) = some Z.size) := Lib.hid (by rw [HZ.out, info_32]; rfl)
    have HZE : Hid (Array.replicate 32 (Value.int .u8 0) = Z) := Lib.hid (by rw [HZ.out]; rfl)
    have HZO : Hid (Z.all (·.oneCell') = true) := Lib.hid (by rw [HZ.out]; exact B8_oneA _)
    have HVZ' : Hid (V.heap[w.heap.size + 1]? = some (.cells Z 23 (0, 0))) := Lib.hid (by rw [← HZE.out]; exact HVZ.out)
    rw [e3, pubV, if_neg hw, ← HZ.out]
    rw [hm] at HM
    clear hw hw' e3 hm
    go_enter Tryz.func70, Tryz.ntmps70
    go_upto_region 1 with (fail)
    rw [← HW0.out]
    change Code.wp _ _ _ _ (W0.alloc (.cells (Array.replicate 32 (.int .u8 0)) 23))
    rw [← HV.out]
    go_wp2_with (first
      | (go_at_call 71; refine HM.out.mono ?_; rintro e w1 ⟨rfl, b1⟩; have HBM := Lib.hid (HVB.out.trans (b1.mono HVB.out.size)); have HZM := Lib.hid ((b1.block _ (by rw [HVS.out]; omega)).trans HVZ'.out); clear b1)
      | refine wpList_build0 rfl 23 rfl (.agg Z) HZB.out ?_
      | refine wpList_store_same rfl 23 _ _ rfl _ Z rfl rfl 23 HZM.out HZI.out HZO.out ?_)
    exact bodyPost_ret (results_cell_row_tmp rfl _ _ (w.heap.size + 1) 23 _ (0, 0) _ rfl HZM.out Tryz.underlying23 rfl HZI.out) rfl ⟨rfl, HBM.out⟩
end Go.Proofs.YtcnelahmbfggcaaGreat

/- Keys that are built of their parts. -/
namespace Go.Proofs.YtcnelahmbfggcaaGreat
open Go Go.RowKit
set_option maxRecDepth 100000

/-- one part goes in -/
theorem fill_step (place : Nat → Option (Nat × Nat)) (A old new C : List Value) (i : Nat) (v : Value) (rest : List (Nat × Value)) (hp : place i = some (A.length, new.length)) (hv : v.cells = new.toArray) (ho : old.length = new.length) :
    Instr.fill place (A ++ (old ++ C)).toArray ((i, v) :: rest) = Instr.fill place (A ++ (new ++ C)).toArray rest := by
  rw [Instr.fill, hp]
  have hs : v.cells.size = new.length := by rw [hv, List.size_toArray]
  simp only
  rw [if_neg (by rw [hs, List.size_toArray]; simp; omega)]
  congr 1
  obtain ⟨g1, g2⟩ := Great.foldl_set A.length v.cells.toList 0 (A ++ (old ++ C)).toArray
  rw [← Array.foldl_toList, Array.toList_zipIdx]
  apply Array.ext_getElem?
  intro k
  rw [g2 k]
  simp only [Nat.add_zero, List.size_toArray, List.length_append, List.getElem?_toArray, hv]
  by_cases h1 : k < A.length
  · rw [if_neg (by omega), List.getElem?_append_left h1, List.getElem?_append_left h1]
  · by_cases h2 : k - A.length < new.length
    · rw [if_pos (by omega), List.getElem?_append_right (l₁ := A) (l₂ := new ++ C) (by omega), List.getElem?_append_left h2]
    · rw [if_neg (by omega), List.getElem?_append_right (l₁ := A) (by omega), List.getElem?_append_right (l₁ := A) (by omega), List.getElem?_append_right (by omega), List.getElem?_append_right (by omega), ho]
theorem wpList_built {P : Program} {ops : Array Oper} {rest : List Oper} {o : Oper} {a : Act} {w : World} {Q : Exit → Act → World → Prop} (hgd : o.guard = none) (t : TypeId) (parts : List (Nat × Operand)) (ho : o.op = .build t parts.toArray)
    (vals : List (Nat × Value)) (hv : parts.map (fun x => (x.1, a.eval x.2)) = vals) (cells : Array Value) (hc : P.built t vals = some cells)
    (h : wpList P ops Q rest (a.put o.dst (.agg cells)) w) : wpList P ops Q (o :: rest) a w := by
  refine wpList_plain hgd fun _ hK => ?_
  subst hv
  unfold Oper.wp execOp
  have e : (parts.toArray.map fun (i, x) => (i, a.eval x)).toList = parts.map (fun x => (x.1, a.eval x.2)) := by simp
  simp only [ho, Sem.run_bind, run_build w t _ cells (by rw [e]; exact hc), Result.andThen_ok]
  exact hK _ _ h

def zero16 : List UInt8 := List.replicate 16 0
def placesK : List (Nat × Nat) := [(0, 16), (16, 1), (17, 32), (49, 1)]
theorem built_rkey (parts : List (Nat × Value)) : Tryz.prog.built 93 parts = Instr.fill (placesK.toArray[·]?) (KeyV zero16 zero32 0 0).toArray parts := by kernel_rfl
theorem built_key (parts : List (Nat × Value)) : Tryz.prog.built 90 parts = Instr.fill (placesK.toArray[·]?) (KeyV zero16 zero32 0 0).toArray parts := by kernel_rfl
theorem KeyV_I (I S I' : List UInt8) (q : Nat) (d : Int) (hI : I.length = 16) (hI' : I'.length = 16) (rest : List (Nat × Value)) :
    Instr.fill (placesK.toArray[·]?) (KeyV I' S q d).toArray ((0, .agg (B8 I).toArray) :: rest) = Instr.fill (placesK.toArray[·]?) (KeyV I S q d).toArray rest :=
  fill_step _ [] (B8 I') (B8 I) (.int .u32 q :: (B8 S ++ [.int .i64 d])) 0 _ rest (by rw [B8_length, hI]; rfl) rfl (by rw [B8_length, B8_length, hI, hI'])
theorem KeyV_q (I S : List UInt8) (q q' : Nat) (d : Int) (hI : I.length = 16) (rest : List (Nat × Value)) :
    Instr.fill (placesK.toArray[·]?) (KeyV I S q' d).toArray ((1, .int .u32 q) :: rest) = Instr.fill (placesK.toArray[·]?) (KeyV I S q d).toArray rest :=
  fill_step _ (B8 I) [.int .u32 q'] [.int .u32 q] (B8 S ++ [.int .i64 d]) 1 _ rest (by rw [B8_length, hI]; rfl) rfl rfl
theorem KeyV_S (I S S' : List UInt8) (q : Nat) (d : Int) (hI : I.length = 16) (hS : S.length = 32) (hS' : S'.length = 32) (rest : List (Nat × Value)) :
    Instr.fill (placesK.toArray[·]?) (KeyV I S' q d).toArray ((2, .agg (B8 S).toArray) :: rest) = Instr.fill (placesK.toArray[·]?) (KeyV I S q d).toArray rest := by
  have h := fill_step (placesK.toArray[·]?) (B8 I ++ [.int .u32 q]) (B8 S') (B8 S) [.int .i64 d] 2 (.agg (B8 S).toArray) rest (by rw [List.length_append, B8_length, B8_length, hI, hS]; rfl) rfl (by rw [B8_length, B8_length, hS, hS'])
  simpa [KeyV] using h
theorem KeyV_d (I S : List UInt8) (q : Nat) (d d' : Int) (hI : I.length = 16) (hS : S.length = 32) (rest : List (Nat × Value)) :
    Instr.fill (placesK.toArray[·]?) (KeyV I S q d').toArray ((3, .int .i64 d) :: rest) = Instr.fill (placesK.toArray[·]?) (KeyV I S q d).toArray rest := by
  have h := fill_step (placesK.toArray[·]?) (B8 I ++ .int .u32 q :: B8 S) [.int .i64 d'] [.int .i64 d] [] 3 (.int .i64 d) rest (by rw [List.length_append, List.length_cons, B8_length, B8_length, hI, hS]; rfl) rfl rfl
  simpa [KeyV] using h
theorem rkey_all (I S : List UInt8) (q : Nat) (d : Int) (hI : I.length = 16) (hS : S.length = 32) :
    Tryz.prog.built 93 [(0, .agg (B8 I).toArray), (1, .int .u32 q), (2, .agg (B8 S).toArray), (3, .int .i64 d)] = some (KeyV I S q d).toArray := by
  rw [built_rkey, KeyV_I _ _ _ _ _ hI rfl, KeyV_q _ _ _ _ _ hI, KeyV_S _ _ _ _ _ hI hS rfl, KeyV_d _ _ _ _ _ hI hS]
  rfl
theorem rkey_name (I : List UInt8) (q : Nat) (d : Int) (hI : I.length = 16) :
    Tryz.prog.built 93 [(0, .agg (B8 I).toArray), (1, .int .u32 q), (3, .int .i64 d)] = some (KeyV I zero32 q d).toArray := by
  rw [built_rkey, KeyV_I _ _ _ _ _ hI rfl, KeyV_q _ _ _ _ _ hI, KeyV_d _ _ _ _ _ hI rfl]
  rfl
theorem key_name (I : List UInt8) (q : Nat) (d : Int) (hI : I.length = 16) :
    Tryz.prog.built 90 [(0, .agg (B8 I).toArray), (1, .int .u32 q), (3, .int .i64 d)] = some (KeyV I zero32 q d).toArray := by
  rw [built_key, KeyV_I _ _ _ _ _ hI rfl, KeyV_q _ _ _ _ _ hI, KeyV_d _ _ _ _ _ hI rfl]
  rfl
theorem key_width (d : Int) : Tryz.prog.built 90 [(3, .int .i64 d)] = some (KeyV zero16 zero32 0 d).toArray := by
  rw [built_key, KeyV_d _ _ _ _ _ rfl rfl]
  rfl
end Go.Proofs.YtcnelahmbfggcaaGreat

/- The walks of the chapter's plain and alive. -/
namespace Go.Proofs.YtcnelahmbfggcaaGreat
open Go Go.RowKit
set_option maxRecDepth 100000
set_option maxHeartbeats 1000000

theorem info_16 : (Tryz.prog.info? 22).map (·.size) = some 16 := by kernel_rfl
theorem key_ranges {w : World} {b : Nat} {t : TypeId} {I S : List UInt8} {q : Nat} {d : Int} (h : w.heap[b]? = some (.cells (KeyV I S q d).toArray t (0, 0))) (hI : I.length = 16) :
    w.rangeAt b 0 (B8 I) ∧ w.rangeAt b 17 (B8 S) := by
  constructor
  · intro j v hj
    have hl := (List.getElem?_eq_some_iff.1 hj).1
    rw [cell_of_row w b (0 + j) _ t (0, 0) h, Nat.zero_add, List.getElem?_toArray, KeyV, List.getElem?_append_left hl]
    exact hj
  · intro j v hj
    have hl := (List.getElem?_eq_some_iff.1 hj).1
    rw [cell_of_row w b (17 + j) _ t (0, 0) h, List.getElem?_toArray, KeyV, List.getElem?_append_right (by rw [B8_length]; omega), B8_length, hI, show 17 + j - 16 = j + 1 by omega, List.getElem?_cons_succ, List.getElem?_append_left hl]
    exact hj
theorem KeyV_one (I S : List UInt8) (q : Nat) (d : Int) : (KeyV I S q d).toArray.all (·.oneCell') = true := by
  refine Array.all_eq_true_iff_forall_mem.2 fun v hv => ?_
  rw [List.mem_toArray, KeyV] at hv
  rcases List.mem_append.1 hv with h | h
  · exact B8_one _ v h
  · rcases List.mem_cons.1 h with rfl | h
    · rfl
    · rcases List.mem_append.1 h with h | h
      · exact B8_one _ v h
      · rw [List.mem_singleton.1 h]; rfl
end Go.Proofs.YtcnelahmbfggcaaGreat

/- A key, or a claim, that came in. -/
namespace Go.Proofs.YtcnelahmbfggcaaGreat
open Go Go.RowKit Go.ChangeShapes Go.WideShapes Go.ChangeAt
set_option maxRecDepth 100000

def OpKey (_ : World) (v : Value) : Prop := ∃ (I S : List UInt8) (q : Nat) (d : Int), I.length = 16 ∧ S.length = 32 ∧ q < 4294967296 ∧ (-9223372036854775808 ≤ d ∧ d ≤ 9223372036854775807) ∧ v = .agg (KeyV I S q d).toArray
theorem cut4 (cs : List Value) (h : cs.length = 50) : cs = (cs.drop 0).take 16 ++ ((cs.drop 16).take 1 ++ ((cs.drop 17).take 32 ++ (cs.drop 49).take 1)) := by
  have e1 : (cs.drop 49).take 1 = cs.drop 49 := List.take_of_length_le (by rw [List.length_drop]; omega)
  have e2 : (cs.drop 17).take 32 ++ cs.drop 49 = cs.drop 17 := by
    have := List.take_append_drop 32 (cs.drop 17)
    rwa [List.drop_drop] at this
  have e3 : (cs.drop 16).take 1 ++ cs.drop 17 = cs.drop 16 := by
    have := List.take_append_drop 1 (cs.drop 16)
    rwa [List.drop_drop] at this
  rw [e1, e2, e3, List.drop_zero, List.take_append_drop]
section
variable {H : Type} {enc : TypeId × Value → H} {w : World} {base : Nat} {held : Bool} {r : Reach} {b0 : Nat} {v : Value} {d : DataW H} {ps : List MemPlace}
theorem op_key (hval : Value.okWide Tryz.prog w r b0 90 v) (h : DataW.Trod enc Tryz.prog w base (fun _ => true) held 90 v d ps) : OpKey w v := by
  obtain ⟨cs, rfl⟩ := okWide_agg Tryz.underlying90 rfl hval
  obtain ⟨fuel, hf⟩ := h
  obtain ⟨hl, m, hfs⟩ := trod_fields Tryz.underlying90 hf
  obtain ⟨y0, h0⟩ : ∃ y, DataW.trod enc Tryz.prog w base (fun _ => true) held m 22 ((cs.toList.drop 0).take (Tryz.prog.cellsOf 22)) = some y := hfs 0 _ rfl
  obtain ⟨y1, h1⟩ : ∃ y, DataW.trod enc Tryz.prog w base (fun _ => true) held m 63 ((cs.toList.drop 16).take (Tryz.prog.cellsOf 63)) = some y := hfs 1 _ rfl
  obtain ⟨y2, h2⟩ : ∃ y, DataW.trod enc Tryz.prog w base (fun _ => true) held m 23 ((cs.toList.drop 17).take (Tryz.prog.cellsOf 23)) = some y := hfs 2 _ rfl
  obtain ⟨y3, h3⟩ : ∃ y, DataW.trod enc Tryz.prog w base (fun _ => true) held m 3 ((cs.toList.drop 49).take (Tryz.prog.cellsOf 3)) = some y := hfs 3 _ rfl
  have hl' : cs.toList.length = 50 := by rw [show (50 : Nat) = Tryz.prog.cellsOf 90 by kernel_rfl]; exact hl
  obtain ⟨l0, l0l, e0, w0⟩ := trod_row (n := 16) Tryz.underlying22 Tryz.underlying5 (by kernel_rfl) (by kernel_rfl) h0
  obtain ⟨z1, e1, _, w1⟩ := DataW.trod_int Tryz.underlying63 h1
  obtain ⟨l2, l2l, e2, w2⟩ := trod_row (n := 32) Tryz.underlying23 Tryz.underlying5 (by kernel_rfl) (by kernel_rfl) h2
  obtain ⟨z3, e3, _, w3⟩ := DataW.trod_int Tryz.underlying3 h3
  rw [show Tryz.prog.cellsOf 22 = 16 by kernel_rfl] at e0
  rw [show Tryz.prog.cellsOf 63 = 1 by kernel_rfl] at e1
  rw [show Tryz.prog.cellsOf 23 = 32 by kernel_rfl] at e2
  rw [show Tryz.prog.cellsOf 3 = 1 by kernel_rfl] at e3
  obtain ⟨I, hI, eI⟩ := IV_bytes l0 w0
  obtain ⟨S, hS, eS⟩ := IV_bytes l2 w2
  have b1 := wf_u32_bd w1
  refine ⟨I, S, z1.toNat, z3, by omega, by omega, by omega, wf_i64_bd w3, ?_⟩
  have e : cs.toList = KeyV I S z1.toNat z3 := by
    rw [cut4 _ hl']
    rw [e0, e1, e2, e3, eI, eS, KeyV]
    have : ((z1.toNat : Nat) : Int) = z1 := by omega
    rw [this]
    rfl
  rw [← e]
end
end Go.Proofs.YtcnelahmbfggcaaGreat


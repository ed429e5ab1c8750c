/- The walks of ots.types, Type and width. -/
import Derived.Test.YtcnelahmbfggcaaG2
import Derived.Maps.OwnSet
import Derived.Maps.RangeWalk
import Derived.Test.YtcnelahmbfggcaaVar
namespace Go.Proofs.Ytcnelahmbfggcaa
open Go Go.RowKit Go.Maps
set_option maxRecDepth 100000
set_option maxHeartbeats 1000000

/-- a literal's entry is laid -/
theorem wpList_insert_own {H : Type} {P : Program} (w : World) {ops : Array Oper} {rest : List Oper} {o : Oper} {a : Act} {Q : Exit → Act → World → Prop}
    (hg : o.guard = none) (m x v : Operand) (t : TypeId) (hop : o.op = Op.insert t m x v)
    (k e : TypeId) (K : Keyed P k) (ht : P.underlying t = some (.map k e)) (R : Value → Option (DataW H × List MemPlace)) (b n : Nat) (D : DataW H)
    (hm : a.eval m = .map (some b)) (hown : w.ownsMap P k R b n D) (hn : n < maxLen) (key val : Value) (kl : Lit) (hx : a.eval x = key) (hv : a.eval v = val) (hkey : keyOf P k key = some kl)
    (d : DataW H) (ps : List MemPlace) (hval : R val = some (d, ps))
    (hK : ∀ w', w'.ownsMap P k R b (n + 1) (D.put kl d) → w.grownBy w' (some b) → wpList P ops Q rest (a.put o.dst undef) w') :
    wpList P ops Q (o :: rest) a w := by
  refine wpList_plain hg fun K' hK' => ?_
  obtain ⟨w', hrun, r1, r2⟩ := hown.update K ht hn hkey hval
  unfold Oper.wp
  simp [execOp, hop, hm, hx, hv, hrun, Result.andThen]
  exact hK' _ _ (hK w' r1 r2)
theorem lawK : Keyed Try.prog 3 := int_keyed Try.underlying3
def typesD : DataW Unit := ((((DataW.map []).put (.int .i64 1) (.lit (.int .u32 1))).put (.int .i64 2) (.lit (.int .u32 2))).put (.int .i64 4) (.lit (.int .u32 3))).put (.int .i64 8) (.lit (.int .u32 4))
theorem key_lit (z : Int) (h : (Lit.int .i64 z).wf = true) : keyOf Try.prog 3 (.int .i64 z) = some (.int .i64 z) := keyOf_int_mk Try.underlying3 h
theorem types_any (w : World) : Calls Try.prog 46 #[] w fun e w' => e = .returned (.map (some w.heap.size)) ∧ w'.ownsMap Try.prog 3 (plainElem Try.prog 61) w.heap.size 4 typesD ∧ Below w.heap.size w w' := by
  have hmm := @run_makeMap Try.prog
  have h0 : Hid ((w.alloc (.map #[] 0)).ownsMap Try.prog 3 (plainElem (H := Unit) Try.prog 61) w.heap.size 0 (.map [])) := Lib.hid (World.ownsMap_made _ _ _ _)
  have b0 : Hid (Below w.heap.size w (w.alloc (.map #[] 0))) := Lib.hid ((Below.refl _ _).alloc (Nat.le_refl _) _)
  go_enter Try.func46, Try.ntmps46
  go_wp2_with (first
    | (refine wpList_insert_own _ rfl (.tmp 1) (.const (.int .i64 1)) (.const (.int .u32 1)) 89 rfl 3 61 lawK Try.underlying89 _ w.heap.size 0 _ rfl h0.out (by decide) (.int .i64 1) (.int .u32 1) (.int .i64 1) rfl rfl (key_lit 1 (by decide)) (.lit (.int .u32 1)) [] (plainElem_int Try.underlying61 (by decide)) ?_; intro w1 o1 g1)
    | (refine wpList_insert_own _ rfl (.tmp 1) (.const (.int .i64 2)) (.const (.int .u32 2)) 89 rfl 3 61 lawK Try.underlying89 _ w.heap.size 1 _ rfl o1 (by decide) (.int .i64 2) (.int .u32 2) (.int .i64 2) rfl rfl (key_lit 2 (by decide)) (.lit (.int .u32 2)) [] (plainElem_int Try.underlying61 (by decide)) ?_; intro w2 o2 g2)
    | (refine wpList_insert_own _ rfl (.tmp 1) (.const (.int .i64 4)) (.const (.int .u32 3)) 89 rfl 3 61 lawK Try.underlying89 _ w.heap.size 2 _ rfl o2 (by decide) (.int .i64 4) (.int .u32 3) (.int .i64 4) rfl rfl (key_lit 4 (by decide)) (.lit (.int .u32 3)) [] (plainElem_int Try.underlying61 (by decide)) ?_; intro w3 o3 g3)
    | (refine wpList_insert_own _ rfl (.tmp 1) (.const (.int .i64 8)) (.const (.int .u32 4)) 89 rfl 3 61 lawK Try.underlying89 _ w.heap.size 3 _ rfl o3 (by decide) (.int .i64 8) (.int .u32 4) (.int .i64 8) rfl rfl (key_lit 8 (by decide)) (.lit (.int .u32 4)) [] (plainElem_int Try.underlying61 (by decide)) ?_; intro w4 o4 g4))
  have HO : Hid (w4.ownsMap Try.prog 3 (plainElem Try.prog 61) w.heap.size 4 typesD) := Lib.hid o4
  have HG := Lib.hid (((g1.trans g2).trans g3).trans g4)
  clear o1 o2 o3 o4 g1 g2 g3 g4
  go_ret
  refine ⟨rfl, HO.out, HG.out.os, HG.out.tape, HG.out.output, ?_, fun k hk => ?_⟩
  · have := HG.out.size; simp at this; omega
  · rw [HG.out.block k (by simp; omega) (fun e => by cases e; omega), heap_alloc_old _ _ hk]

theorem typesD_eq : typesD = .map [(.int .i64 1, .lit (.int .u32 1)), (.int .i64 2, .lit (.int .u32 2)), (.int .i64 4, .lit (.int .u32 3)), (.int .i64 8, .lit (.int .u32 4))] := by rfl
theorem same_int (a b : Int) : (Lit.int .i64 a).sameKey (.int .i64 b) = decide (a = b) := by
  simp [Lit.sameKey]
theorem typesD_has (z : Int) : Maps.has typesD (.int .i64 z) = isW z := by
  rw [typesD_eq]
  simp only [Maps.has, List.any_cons, List.any_nil, same_int, isW, Bool.or_false]
  have e : ∀ a : Int, decide (a = z) = (z == a) := fun a => by
    rw [Bool.eq_iff_iff, decide_eq_true_iff, beq_iff_eq]
    exact eq_comm
  simp only [e, Bool.or_assoc]
/-- a width's type -/
def typeN (z : Int) : Int := if z = 1 then 1 else if z = 2 then 2 else if z = 4 then 3 else if z = 8 then 4 else 0
theorem typesD_at (z : Int) : typesD.atKey (.int .i64 z) (.lit (.int .u32 0)) = .lit (.int .u32 (typeN z)) := by
  rw [typesD_eq, typeN]
  by_cases h1 : z = 1
  · subst h1; rfl
  by_cases h2 : z = 2
  · subst h2; rfl
  by_cases h3 : z = 4
  · subst h3; rfl
  by_cases h4 : z = 8
  · subst h4; rfl
  have e : ∀ a : Int, z ≠ a → decide (a = z) = false := fun a h => by simpa using Ne.symm h
  simp only [DataW.atKey, List.find?_cons, List.find?_nil, same_int, e _ h1, e _ h2, e _ h3, e _ h4, if_neg h1, if_neg h2, if_neg h3, if_neg h4]
theorem zero_u32 (w : World) : (zeroValue 61).run Try.prog w = .ok (.int .u32 0) w := by kernel_rfl
theorem Type_any (z : Int) (w : World) (hz : (Lit.int .i64 z).wf = true) :
    Calls Try.prog 30 #[.int .i64 z] w fun e w' => e = .returned (.tuple #[.int .u32 (typeN z), .int .i64 (errW z)]) ∧ Below w.heap.size w w' := by
  have HH := Lib.hid (typesD_has z)
  have HA := Lib.hid (typesD_at z)
  have HE : Hid (errW z = if isW z then 0 else 1) := Lib.hid rfl
  have HT : Hid (isW z = false → typeN z = 0) := Lib.hid (fun h => by
    have h' := mt (isW_iff z).2 (by simp [h])
    have h1 : z ≠ 1 := by omega
    have h2 : z ≠ 2 := by omega
    have h3 : z ≠ 4 := by omega
    have h4 : z ≠ 8 := by omega
    simp [typeN, h1, h2, h3, h4])
  generalize isW z = b at HH HE HT
  generalize typeN z = t at HA HT ⊢
  generalize errW z = er at HE ⊢
  go_enter Try.func30, Try.ntmps30
  go_wp2_with fail
  refine (types_any w).mono ?_
  rintro e w1 ⟨rfl, o1, b1⟩
  have HO := Lib.hid o1
  have HB := Lib.hid b1
  clear o1 b1
  have hE := HE.out
  subst hE
  cases b
  · obtain rfl : t = 0 := HT.out rfl
    go_wp2_with (refine wpList_lookup_own_ok_int _ rfl (.tmp 7) (.tmp 8) 89 rfl 3 61 .u32 lawK Try.underlying89 Try.underlying61 (zero_u32 _) w.heap.size 4 _ rfl HO.out (.int .i64 z) (.int .i64 z) rfl (key_lit z hz) ?_; intro c hc _; rw [HA.out] at hc; rw [HH.out]; obtain rfl : c = 0 := by simpa using hc.symm)
    go_ret2
    exact ⟨rfl, HB.out⟩
  · go_wp2_with (refine wpList_lookup_own_ok_int _ rfl (.tmp 7) (.tmp 8) 89 rfl 3 61 .u32 lawK Try.underlying89 Try.underlying61 (zero_u32 _) w.heap.size 4 _ rfl HO.out (.int .i64 z) (.int .i64 z) rfl (key_lit z hz) ?_; intro c hc _; rw [HA.out] at hc; rw [HH.out]; obtain rfl : c = t := by simpa using hc.symm)
    go_ret2
    exact ⟨rfl, HB.out⟩
end Go.Proofs.Ytcnelahmbfggcaa

/- The walks of ots.Secret and Chain. -/
namespace Go.Proofs.Ytcnelahmbfggcaa
open Go Go.RowKit
set_option maxRecDepth 100000
set_option maxHeartbeats 1000000

def zero32 : List UInt8 := List.replicate 32 0
/-- a digit's secret, or that there is none -/
def secV (I S : List UInt8) (q : Nat) (d i : Int) : List UInt8 := if 0 ≤ i ∧ i < manyW d then secretN I S q i.toNat else zero32
theorem zero32_arr : (B8 zero32).toArray = Array.replicate 32 (.int .u8 0) := by rfl
/-- is there such a chain? -/
def chOk (d i a b : Int) : Bool := decide (0 ≤ i ∧ i < manyW d ∧ 0 ≤ a ∧ a ≤ b ∧ b ≤ ((2 ^ d.toNat - 1 : Nat) : Int))
def chV (I : List UInt8) (q : Nat) (d i a b : Int) (x : List UInt8) : List UInt8 := if chOk d i a b then chainN I q i.toNat x a.toNat (b.toNat - a.toNat) else zero32
theorem width_of_digit {d i : Int} (h : 0 ≤ i ∧ i < manyW d) : ∃ k : Nat, d = k ∧ (k = 1 ∨ k = 2 ∨ k = 4 ∨ k = 8) := by
  by_cases hw : isW d = true
  · have := (isW_iff d).1 hw
    exact ⟨d.toNat, by omega, by omega⟩
  · rw [manyW, if_neg hw] at h
    omega
end Go.Proofs.Ytcnelahmbfggcaa

/- The walk of ots.Chain. -/
namespace Go.Proofs.Ytcnelahmbfggcaa
open Go Go.RowKit
set_option maxRecDepth 100000
set_option maxHeartbeats 1000000

end Go.Proofs.Ytcnelahmbfggcaa

/- The walk of ots.Public. -/
namespace Go.Proofs.Ytcnelahmbfggcaa
open Go Go.RowKit
set_option maxRecDepth 100000
set_option maxHeartbeats 1000000

/-- the ends of the first n chains -/
def endsN (I S : List UInt8) (q L : Nat) : Nat → List UInt8
  | 0 => []
  | n + 1 => endsN I S q L n ++ chainN I q n (secretN I S q n) 0 L
theorem secretN_length (I S : List UInt8) (q i : Nat) : (secretN I S q i).length = 32 := sha_length _
theorem endsN_length (I S : List UInt8) (q L n : Nat) : (endsN I S q L n).length = 32 * n := by
  induction n with
  | zero => rfl
  | succ n ih => rw [endsN, List.length_append, ih, chainN_length _ _ _ _ _ _ (secretN_length _ _ _ _)]; omega
/-- the public sum, or that there is none -/
def pubN (I S : List UInt8) (q k : Nat) : List UInt8 := hashN I q 32896 [endsN I S q (2 ^ k - 1) (256 / k + chkN k)]
def pubV (I S : List UInt8) (q : Nat) (d : Int) : List UInt8 := if isW d then pubN I S q d.toNat else zero32

theorem Public_any (I S : List UInt8) (q : Nat) (d : Int) (w : World) (hI : I.length = 16) (hS : S.length = 32) (hq : q < 4294967296) (hd : -9223372036854775808 ≤ d ∧ d ≤ 9223372036854775807) :
    Calls Try.prog 45 #[.agg (KeyV I S q d).toArray] w fun e w' => e = .returned (.tuple #[.agg (B8 (pubV I S q d)).toArray, .int .i64 (errW d)]) ∧ Below w.heap.size w w' := by
  obtain ⟨W0, HW0, HB0, HS0, HR0⟩ : ∃ V, Hid (V = w.alloc (.cells (KeyV I S q d).toArray 63)) ∧ Hid (Below w.heap.size w V) ∧ Hid (V.heap.size = w.heap.size + 1) ∧ Hid (V.heap[w.heap.size]? = some (.cells (KeyV I S q d).toArray 63 (0, 0))) := ⟨_, Lib.hid rfl, Lib.hid ((Below.refl _ _).alloc (Nat.le_refl _) _), Lib.hid (by simp), Lib.hid (heap_alloc_new _ _)⟩
  obtain ⟨V, HV, HVB, HVS, HVR, HVZ⟩ : ∃ V, Hid (V = W0.alloc (.cells (Array.replicate 32 (.int .u8 0)) 23)) ∧ Hid (Below w.heap.size w V) ∧ Hid (V.heap.size = w.heap.size + 2) ∧ Hid (V.heap[w.heap.size]? = some (.cells (KeyV I S q d).toArray 63 (0, 0))) ∧ Hid (V.heap[w.heap.size + 1]? = some (.cells (Array.replicate 32 (.int .u8 0)) 23 (0, 0))) :=
    ⟨_, Lib.hid rfl, Lib.hid (HB0.out.alloc HB0.out.size _), Lib.hid (by simp [HS0.out]), Lib.hid ((heap_alloc_old _ _ (by rw [HS0.out]; omega)).trans HR0.out), Lib.hid (by rw [← HS0.out]; exact heap_alloc_new _ _)⟩
  have IK : Hid ((Try.prog.info? 63).map (·.size) = some (KeyV I S q d).toArray.size) := Lib.hid (by rw [info_key, List.size_toArray, KeyV_length _ _ _ _ hI hS])
  have IKL : Hid ((Try.prog.info? 63).map (·.size) = some (KeyV I S q d).length) := Lib.hid (by rw [info_key, KeyV_length _ _ _ _ hI hS])
  have H1 := many_any d V hd
  rw [← manyW] at H1
  have hkw := key_W HVR.out hI hS
  by_cases hw : isW d = true
  · obtain ⟨k, rfl⟩ : ∃ k : Nat, d = k := ⟨d.toNat, by rcases (isW_iff d).1 hw with h | h | h | h <;> omega⟩
    have hk : k = 1 ∨ k = 2 ∨ k = 4 ∨ k = 8 := by rcases (isW_iff _).1 hw with h | h | h | h <;> omega
    obtain ⟨em, hmb⟩ := manyW_w k hk
    have e3 : errW k = 0 := by simp [errW, hw]
    rw [e3, em] at H1
    rw [e3, pubV, if_pos hw, Int.toNat_natCast, pubN]
    generalize 256 / k + chkN k = N at H1 hmb ⊢
    have HLA := Lib.hid (fun w' => last_any I S q k w' hI hS hk)
    have hLb : 2 ^ k - 1 ≤ 255 := by rcases hk with rfl | rfl | rfl | rfl <;> decide
    generalize 2 ^ k - 1 = L at HLA hLb ⊢
    have HSE := Lib.hid (fun (j : Nat) w' (h : j < 65536) => secret_any I S q k j w' hI hS hq h)
    have HCH := Lib.hid (fun (j : Nat) (x : List UInt8) w' (h : j < 65536) (hx : x.length = 32) => chain_any I S q k j 0 L x w' hI hS hq h (Nat.zero_le _) hLb hx)
    have HHA := Lib.hid (fun mv w' (h : Rows w' mv [endsN I S q L N]) => hash_any I S q k 32896 mv [endsN I S q L N] w' hI hS hq (by decide) h (by simp [endsN_length]; omega))
    obtain ⟨R, HR⟩ : ∃ R, Hid (R = hashN I q 32896 [endsN I S q L N]) := ⟨_, Lib.hid rfl⟩
    have HRL : Hid (R.length = 32) := Lib.hid (by rw [HR.out]; exact sha_length _)
    have J32 : Hid ((Try.prog.info? 23).map (·.size) = some (B8 R).toArray.size) := Lib.hid (by rw [info_32]; simp [B8_length, HRL.out])
    rw [← HR.out]
    have HHR : Hid (∀ mv w', Rows w' mv [endsN I S q L N] → Calls Try.prog 38 #[.agg (KeyV I S q k).toArray, .int .i64 32896, mv] w' fun e w'' => e = .returned (.agg (B8 R).toArray) ∧ Below w'.heap.size w' w'') := Lib.hid (fun mv w' h => by rw [HR.out]; exact HHA.out mv w' h)
    have HH := Lib.hid H1
    clear H1 hw hk em e3 hI hS hq hd
    go_enter Try.func45, Try.ntmps45
    go_upto_region 1 with (fail)
    rw [← HW0.out]
    change Code.wp _ _ _ _ (W0.alloc (.cells (Array.replicate 32 (.int .u8 0)) 23))
    rw [← HV.out]
    go_wp2_with fail
    refine HH.out.mono ?_
    rintro e w1 ⟨rfl, b1⟩
    have HB1 : Hid (Below (w.heap.size + 2) V w1) := Lib.hid (by rw [← HVS.out]; exact b1)
    clear b1 hkw
    go_wp2_with fail
    go_loopw [6, 20] (fun s i' wr => ∃ n : Nat, n ≤ N ∧ i' = .int .i64 n ∧ Hid (Own8 wr (w.heap.size + 2) s (endsN I S q L n)) ∧ Hid (Below (w.heap.size + 2) V wr)) (fun _ i' _ => N - (intOf i').toNat)
    case atStart => exact ⟨0, by omega, rfl, Lib.hid (Own8.nil _ _), HB1⟩
    case round =>
      obtain ⟨n, hn, rfl, HO, HB⟩ := hrel
      obtain ⟨sa, sc, rfl⟩ := HO.out.shape
      by_cases hlt : n < N
      · have hn' : n < 65536 := by omega
        have hlt' : (n : Int) < N := by omega
        have HSN := Lib.hid (fun w' => HSE.out n w' hn')
        obtain ⟨X, HX⟩ : ∃ X, Hid (X = secretN I S q n) := ⟨_, Lib.hid rfl⟩
        rw [← HX.out] at HSN
        have HXL : Hid (X.length = 32) := Lib.hid (by rw [HX.out]; exact secretN_length _ _ _ _)
        have HCN := Lib.hid (fun w' => HCH.out n X w' hn' HXL.out)
        obtain ⟨Y, HY⟩ : ∃ Y, Hid (Y = chainN I q n X 0 L) := ⟨_, Lib.hid rfl⟩
        rw [Nat.sub_zero, ← HY.out] at HCN
        have HYL : Hid (Y.length = 32) := Lib.hid (by rw [HY.out]; exact chainN_length _ _ _ _ _ _ HXL.out)
        have HEN : Hid (endsN I S q L (n + 1) = endsN I S q L n ++ Y) := Lib.hid (by rw [endsN, HY.out, HX.out])
        have HELN := Lib.hid (endsN_length I S q L n)
        have IY : Hid ((Try.prog.info? 23).map (·.size) = some (B8 Y).toArray.size) := Lib.hid (by rw [info_32]; simp [B8_length, HYL.out])
        have HKR : Hid (wr.heap[w.heap.size]? = some (.cells (KeyV I S q k).toArray 63 (0, 0))) := Lib.hid ((HB.out.block _ (by omega)).trans HVR.out)
        go_upto_region 8 with (fail)
        refine Wild.region_tail_b 9 (fun j => match j with | 3 => some (.fix (.int .i64 (L : Int))) | 6 => some (.fix (.agg (B8 X).toArray)) | 7 => some (.fix (.agg (B8 Y).toArray)) | 8 => some (.var 23 (Array.replicate 32 (.int .u8 0)) wr.heap.size) | _ => none) (fun _ => []) rfl rfl rfl (by kernel_rfl) (by kernel_rfl) (by kernel_rfl) (fun vs hvs => ?_)
        have h3 : vs 3 = .int .i64 (L : Int) := hvs 3 _ rfl
        have h6 : vs 6 = .agg (B8 X).toArray := hvs 6 _ rfl
        have h7 : vs 7 = .agg (B8 Y).toArray := hvs 7 _ rfl
        simp only [List.take_succ_cons, List.take_zero]
        refine Wild.walk_load 63 _ _ _ (KeyV I S q k) _ rfl (by rfl) rfl rfl (fun w hw => rangeAt_blw (rangeAt_row HKR.out) hw.1) Try.underlying63 rfl IKL.out ?_
        simp only [Act.put, List.setIfInBounds_toArray, List.set_cons_zero, List.set_cons_succ]
        repeat (refine Wild.walk_simple rfl (by rfl) (by rfl) (fun K hK => ?_); go_big_quiet_op; first | (refine hK _ ?_; clear hK K) | (refine ⟨_, fun _ _ => rfl, hK _ ?_⟩; clear hK K))
        refine Wild.walk_load 63 _ _ _ (KeyV I S q k) _ rfl (by rfl) rfl rfl (fun w hw => rangeAt_blw (rangeAt_row HKR.out) hw.1) Try.underlying63 rfl IKL.out ?_
        simp only [Act.put, List.setIfInBounds_toArray, List.set_cons_zero, List.set_cons_succ]
        refine Wild.walk_wild _ rfl (by rfl) (fun w' hw K hK => ?_) ?_
        · go_simp
          go_at_call 50
          refine (HLA.out w').mono ?_
          rintro e w'' ⟨rfl, hb⟩
          exact hK.out _ _ (hw.1.trans (hb.mono hw.1.size)) hb rfl trivial
        rw [h3]
        simp only [Act.put, List.setIfInBounds_toArray, List.set_cons_zero, List.set_cons_succ]
        refine Wild.walk_load 63 _ _ _ (KeyV I S q k) _ rfl (by rfl) rfl rfl (fun w hw => rangeAt_blw (rangeAt_row HKR.out) hw.1) Try.underlying63 rfl IKL.out ?_
        simp only [Act.put, List.setIfInBounds_toArray, List.set_cons_zero, List.set_cons_succ]
        repeat (refine Wild.walk_simple rfl (by rfl) (by rfl) (fun K hK => ?_); go_big_quiet_op; first | (refine hK _ ?_; clear hK K) | (refine ⟨_, fun _ _ => rfl, hK _ ?_⟩; clear hK K))
        refine Wild.walk_wild _ rfl (by rfl) (fun w' hw K hK => ?_) ?_
        · go_simp
          go_at_call 42
          refine (HSN.out w').mono ?_
          rintro e w'' ⟨rfl, hb⟩
          exact hK.out _ _ (hw.1.trans (hb.mono hw.1.size)) hb rfl trivial
        rw [h6]
        simp only [Act.put, List.setIfInBounds_toArray, List.set_cons_zero, List.set_cons_succ]
        refine Wild.walk_wild _ rfl (by rfl) (fun w' hw K hK => ?_) ?_
        · go_simp
          go_at_call 41
          refine (HCN.out w').mono ?_
          rintro e w'' ⟨rfl, hb⟩
          exact hK.out _ _ (hw.1.trans (hb.mono hw.1.size)) hb rfl trivial
        rw [h7]
        simp only [Act.put, List.setIfInBounds_toArray, List.set_cons_zero, List.set_cons_succ]
        refine Wild.walk_wild _ rfl (by rfl) (fun w' hw K hK => ?_) ?_
        · go_simp
          exact hK.out (.pointer (some ⟨w'.heap.size, 0, none⟩)) _ (hw.1.alloc hw.1.size _) ((Below.refl _ _).alloc (Nat.le_refl _) _) trivial ⟨w'.heap.size, rfl, hw.1.size, heap_alloc_new _ _⟩
        simp only [Act.put, List.setIfInBounds_toArray, List.set_cons_zero, List.set_cons_succ]
        refine Wild.walk_nil ?_
        intro w7 hw7 hf7
        obtain ⟨b, hb1, hb2, hb3⟩ := hf7 8 _ rfl (by decide)
        have hb1' : vs (0 + 1 + 1 + 1 + 1 + 1 + 1 + 1 + 1) = .pointer (some ⟨b, 0, none⟩) := hb1
        rw [hb1']
        have hw7' : Below wr.heap.size wr w7 := hw7
        have hX8 := setRow_heap w7 b _ (B8 Y).toArray _ _ hb3
        have HX8 : Hid (Sl (w7.setRow b (B8 Y).toArray) (.slice (some ⟨b, 0, none⟩) 32 32) Y) := Lib.hid (Sl.ofBlock hX8 HYL.out.symm (Nat.le_refl _) (by simp [maxLen]) (fun i _ => by rw [Nat.zero_add, List.getElem?_toArray]))
        have HB8' : Hid (Below wr.heap.size wr (w7.setRow b (B8 Y).toArray)) := Lib.hid (below_row hw7' hb2 _)
        have HO8 := Lib.hid (HO.out.later HB8'.out)
        have HB8 : Hid (Below (w.heap.size + 2) V (w7.setRow b (B8 Y).toArray)) := Lib.hid (HB.out.trans (HB8'.out.mono (by have := HB.out.size; rw [HVS.out] at this; exact this)))
        have HZ8 : Hid (w.heap.size + 2 ≤ (w7.setRow b (B8 Y).toArray).heap.size) := Lib.hid (by have := HB8.out.size; rw [HVS.out] at this; exact this)
        refine wp_store_row 23 _ _ rfl _ (B8 Y).toArray rfl rfl 23 _ hb3 IY.out (by simp [B8_length, HYL.out]) (B8_oneA Y) ?_
        clear hX8 hw7' hw7 hb1 hb1' hb2 hb3 h3 h6 h7 hvs hf7
        go_wp2_with (refine wpList_append8 rfl _ _ rfl (w.heap.size + 2) _ (endsN I S q L n) rfl HO8.out _ Y rfl HX8.out (by rw [HELN.out, HYL.out]; omega) HZ8.out ?_; intro v9 w9 hv9 hg9 _)
        have HV9 : Hid (Own8 w9 (w.heap.size + 2) v9 (endsN I S q L (n + 1))) := Lib.hid (by rw [HEN.out]; exact hv9)
        have HB9 : Hid (Below (w.heap.size + 2) V w9) := Lib.hid (HB8.out.trans (HO8.out.below hg9 HZ8.out))
        clear hv9 hg9
        go_roundw
        case rel => exact ⟨n + 1, by omega, by go_num, HV9, HB9⟩
        case measure => simp [intOf]; omega
      · obtain rfl : n = N := by omega
        have HKR : Hid (wr.heap[w.heap.size]? = some (.cells (KeyV I S q k).toArray 63 (0, 0))) := Lib.hid ((HB.out.block _ (by omega)).trans HVR.out)
        have HZR : Hid (wr.heap[w.heap.size + 1]? = some (.cells (Array.replicate 32 (.int .u8 0)) 23 (0, 0))) := Lib.hid ((HB.out.block _ (by omega)).trans HVZ.out)
        have HSL := Lib.hid HO.out.sl
        have HR1 := Lib.hid (Rows.one 41 HSL.out)
        have hsz := HB.out.size
        rw [HVS.out] at hsz
        have HBA : Hid (Below w.heap.size w (wr.alloc (.cells #[.slice sa (endsN I S q L n).length sc] 41))) := Lib.hid ((HVB.out.trans (HB.out.mono (by omega))).alloc (by omega) _)
        have HZA : Hid ((wr.alloc (.cells #[.slice sa (endsN I S q L n).length sc] 41)).heap[w.heap.size + 1]? = some (.cells (Array.replicate 32 (.int .u8 0)) 23 (0, 0))) := Lib.hid ((heap_alloc_old _ _ (by omega)).trans HZR.out)
        clear hsz
        go_wp2_with (refine wpList_load_row rfl 63 _ rfl _ rfl _ (KeyV I S q k).toArray (0, 0) _ HKR.out Try.underlying63 rfl IK.out ?_)
        refine (HHR.out _ _ HR1.out).mono ?_
        rintro e w8 ⟨rfl, b8⟩
        have HB8 := Lib.hid (HBA.out.trans (b8.mono HBA.out.size))
        have HZ8 : Hid (w8.heap[w.heap.size + 1]? = some (.cells (Array.replicate 32 (.int .u8 0)) 23 (0, 0))) := Lib.hid ((b8.block _ (Array.getElem?_eq_some_iff.1 HZA.out).1).trans HZA.out)
        clear b8
        go_wp2_with (refine wpList_store_row rfl 23 _ _ rfl _ (B8 R).toArray rfl rfl 23 _ HZ8.out J32.out (by simp [B8_length, HRL.out]) (B8_oneA R) ?_)
        exact bodyPost_ret (results_cell_row_tmp rfl _ _ (w.heap.size + 1) 23 _ (0, 0) _ rfl (setRow_heap _ _ _ _ _ _ HZ8.out) Try.underlying23 rfl J32.out) rfl ⟨rfl, below_row HB8.out (by omega) _⟩
  · have hw' : isW d = false := by simpa using hw
    have e3 : errW d = 1 := by simp [errW, hw']
    obtain ⟨Z, HZ⟩ : ∃ Z, Hid (Z = (B8 zero32).toArray) := ⟨_, Lib.hid rfl⟩
    have HZB : Hid (∀ w, (Instr.build 23 #[]).run Try.prog w = .ok (.agg Z) w) := Lib.hid (by rw [HZ.out]; exact fun w => by kernel_rfl)
    have HZI : Hid ((Try.prog.info? 23).map (·.size) = some Z.size) := Lib.hid (by rw [HZ.out, info_32]; rfl)
    have HZE : Hid (Array.replicate 32 (Value.int .u8 0) = Z) := Lib.hid (by rw [HZ.out]; rfl)
    have HZO : Hid (Z.all (·.oneCell') = true) := Lib.hid (by rw [HZ.out]; exact B8_oneA _)
    rw [e3] at H1
    rw [e3, pubV, if_neg hw, ← HZ.out]
    generalize manyW d = m at H1
    have HH := Lib.hid H1
    clear H1 hw hw' e3
    go_enter Try.func45, Try.ntmps45
    go_upto_region 1 with (fail)
    rw [← HW0.out]
    change Code.wp _ _ _ _ (W0.alloc (.cells (Array.replicate 32 (.int .u8 0)) 23))
    rw [← HV.out]
    go_wp2_with fail
    refine HH.out.mono ?_
    rintro e w1 ⟨rfl, b1⟩
    have HB1 := Lib.hid (HVB.out.trans (b1.mono HVB.out.size))
    have HZ1 : Hid (w1.heap[w.heap.size + 1]? = some (.cells (Array.replicate 32 (.int .u8 0)) 23 (0, 0))) := Lib.hid ((b1.block _ (by rw [HVS.out]; omega)).trans HVZ.out)
    clear b1 hkw
    rw [HZE.out] at HZ1
    go_wp2_with (first
      | refine wpList_build0 rfl 23 rfl (.agg Z) HZB.out ?_
      | refine wpList_store_same rfl 23 _ _ rfl _ Z rfl rfl 23 HZ1.out HZI.out HZO.out ?_)
    exact bodyPost_ret (results_cell_row_tmp rfl _ _ (w.heap.size + 1) 23 _ (0, 0) _ rfl HZ1.out Try.underlying23 rfl HZI.out) rfl ⟨rfl, HB1.out⟩
end Go.Proofs.Ytcnelahmbfggcaa


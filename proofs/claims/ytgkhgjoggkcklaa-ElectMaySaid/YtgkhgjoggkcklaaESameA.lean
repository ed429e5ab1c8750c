/- The walk of ref01's Ints; a part of a row, read in a plain region; two sizes compared. -/
import Derived.Test.YtgkhgjoggkcklaaERNth
import Derived.Laws.StructEq
import Derived.Test.YtgkhgjoggkcklaaEPlain
import Derived.Test.YtgkhgjoggkcklaaVar
import Derived.Deep.MidRow
namespace Go.Proofs.Ytgkhgjoggkcklaa
open Go Go.RowKit
set_option maxRecDepth 100000
set_option maxHeartbeats 2000000

/-- a part of a row is read, in a plain region, the operation guarded or not -/
theorem wpList_load_midW {P : Program} {ops : Array Oper} {rest : List Oper} {o : Oper} {a : Act} {w : World} {Q : Exit → Act → World → Prop} (hw : Region.wanted o (yielded ops a.tmps) = true) (ty : TypeId) (x : Operand) (ho : o.op = .load ty x)
    (g off : Nat) (hx : a.eval x = .pointer (some ⟨g, off, none⟩)) (cs : List Value) (d : TypeDesc) (hg : w.rangeAt g off cs)
    (hu : P.underlying ty = some d) (hd : d.isRow = true) (hi : (P.info? ty).map (·.size) = some cs.length)
    (h : wpList P ops Q rest (a.put o.dst (.agg cs.toArray)) w) : wpList P ops Q (o :: rest) a w := by
  unfold wpList
  rw [if_pos hw]
  refine .inl ?_
  unfold Oper.wp execOp
  simp only [ho, hx, Instr.loadAt, Instr.sureAddr, Sem.run_bind, Sem.run_pure, Result.andThen_ok, run_loadVar_mid w g off ty cs d hg hu hd hi]
  exact h
theorem take_snocI (l : List Int) (j : Nat) (h : j < l.length) : l.take j ++ [l.getD j 0] = l.take (j + 1) := by
  rw [List.take_succ_eq_append_getElem h]; simp [h]
theorem Ints_any (va vb : Value) (la lb : List Int) (w : World) (ha : SlI w .i64 va la) (hb : SlI w .i64 vb lb) (hla : la.length ≤ 1000000) (hlb : lb.length ≤ 1000000) :
    Calls Try.prog 40 #[va, vb] w fun e w' => e = .returned (.bool (decide (la = lb))) ∧ Below w.heap.size w w' := by
  obtain ⟨R, HR⟩ : ∃ R, Hid (R = decide (la = lb)) := ⟨_, Lib.hid rfl⟩
  rw [← HR.out]
  obtain ⟨aa, ca, rfl⟩ := ha.shape
  obtain ⟨ab, cb, rfl⟩ := hb.shape
  obtain ⟨m, HM⟩ : ∃ m, Hid (m = la.length) := ⟨_, Lib.hid rfl⟩
  obtain ⟨n, HN⟩ : ∃ n, Hid (n = lb.length) := ⟨_, Lib.hid rfl⟩
  have HA := Lib.hid ha
  have HB := Lib.hid hb
  rw [← HM.out] at hla ⊢
  rw [← HN.out] at hlb ⊢
  clear ha hb
  by_cases hmn : m = n
  · subst hmn
    go_enter Try.func40, Try.ntmps40
    go_wp2_with fail
    go_loopw [5] (fun i wr => ∃ j d : Nat, j ≤ m ∧ i = .int .i64 j ∧ wr = w.drewN d ∧ Hid (la.take j = lb.take j)) (fun i _ => m - (intOf i).toNat)
    case atStart => exact ⟨0, 0, by omega, rfl, rfl, Lib.hid rfl⟩
    case round =>
      obtain ⟨j, d, hj, rfl, rfl, HJ⟩ := hrel
      by_cases hlt : j < m
      · obtain ⟨b1, o1, rfl, _, q1, c1⟩ := HA.out.cellAt (i := j) (by rw [← HM.out]; exact hlt)
        obtain ⟨b2, o2, rfl, _, q2, c2⟩ := HB.out.cellAt (i := j) (by rw [← HN.out]; exact hlt)
        rw [← HM.out] at q1
        rw [← HN.out] at q2
        have d1 := c1 j (by rw [← HM.out]; exact hlt)
        have d2 := c2 j (by rw [← HN.out]; exact hlt)
        have hlt' : (j : Int) < m := by omega
        by_cases he : la.getD j 0 = lb.getD j 0
        · have HT : Hid (la.take (j + 1) = lb.take (j + 1)) := Lib.hid (by
            rw [← take_snocI la j (by rw [← HM.out]; exact hlt), ← take_snocI lb j (by rw [← HN.out]; exact hlt), HJ.out, he])
          rw [he] at d1
          generalize lb.getD j 0 = z at d1 d2
          clear c1 c2 he
          go_wp2_with fail
          go_quiet (fail)
          go_wp2_with fail
          go_roundw
          case rel => exact ⟨j + 1, d + nq, by omega, by go_num, rfl, HT⟩
          case measure => simp [intOf]; omega
        · have HF : Hid (R = false) := Lib.hid (by
            rw [HR.out, decide_eq_false_iff_not]
            intro e
            exact he (by rw [e]))
          have hne : (la.getD j 0 == lb.getD j 0) = false := by simpa using he
          generalize la.getD j 0 = z1 at d1 hne he
          generalize lb.getD j 0 = z2 at d2 hne he
          clear c1 c2
          go_wp2_with fail
          go_quiet (fail)
          go_wp2_with fail
          go_ret
          exact ⟨by rw [HF.out]; rfl, ⟨rfl, rfl, rfl, Nat.le_refl _, fun _ _ => rfl⟩⟩
      · obtain rfl : j = m := by omega
        have HT : Hid (R = true) := Lib.hid (by
          have := HJ.out
          rw [List.take_of_length_le (by rw [← HM.out]; exact Nat.le_refl _), List.take_of_length_le (by rw [← HN.out]; exact Nat.le_refl _)] at this
          rw [HR.out, this]; simp)
        go_wp2_with fail
        go_ret
        exact ⟨by rw [HT.out]; rfl, ⟨rfl, rfl, rfl, Nat.le_refl _, fun _ _ => rfl⟩⟩
  · have HF : Hid (R = false) := Lib.hid (by
      rw [HR.out, decide_eq_false_iff_not]
      intro e
      exact hmn (by rw [HM.out, HN.out, e]))
    have hmi : ¬ ((m : Int) = n) := by omega
    have hne : ((m : Int) == n) = false := by simpa using hmi
    clear HA HB
    go_enter Try.func40, Try.ntmps40
    go_wp2_with fail
    go_ret
    exact ⟨by rw [HF.out]; rfl, Below.refl _ _⟩
theorem eql_rsize (w : World) (F T F' T' : Int) : (binOp .eql 28 (.agg #[.int .i64 F, .int .i64 T]) (.agg #[.int .i64 F', .int .i64 T'])).run Try.prog w = .ok (.bool (decide (F = F' ∧ T = T'))) w := by
  have hs : Try.prog.stoodInHeld 28 = false := by kernel_rfl
  have hf : (Try.prog.fieldsOf 28).toList = [⟨ "F", 3, 0, false, "", "", 0⟩, ⟨ "T", 3, 1, false, "", "", 8⟩] := by kernel_rfl
  have hu : Try.prog.underlying 28 = some (.struct (Try.prog.fieldsOf 28)) := Try.underlying28
  rw [run_eql_struct, run_equalIn_struct w 9999 _ _ _ hu hs, hf]
  have p0 := fun (a b : Int) => show (part 3 #[.int .i64 a, .int .i64 b] 0).run Try.prog w = .ok (.int .i64 a) w by simp [part]
  have p1 := fun (a b : Int) => show (part 3 #[.int .i64 a, .int .i64 b] 1).run Try.prog w = .ok (.int .i64 b) w by simp [part]
  have q1 := fun (a b : Int) => run_equalIn_int (P := Try.prog) w 9998 3 .i64 .i64 a b Try.underlying3
  simp [Op.eqFields, Sem.run_bind, Sem.run_ite, p0, p1, q1]
  by_cases h1 : F = F' <;> by_cases h2 : T = T' <;> simp [h1, h2]
theorem eql_size (w : World) (F T F' T' : Int) : (binOp .eql 23 (.agg #[.int .i64 F, .int .i64 T]) (.agg #[.int .i64 F', .int .i64 T'])).run Try.prog w = .ok (.bool (decide (F = F' ∧ T = T'))) w := by
  have hs : Try.prog.stoodInHeld 23 = false := by kernel_rfl
  have hf : (Try.prog.fieldsOf 23).toList = [⟨ "F", 3, 0, false, "", "", 0⟩, ⟨ "T", 3, 1, false, "", "", 8⟩] := by kernel_rfl
  have hu : Try.prog.underlying 23 = some (.struct (Try.prog.fieldsOf 23)) := Try.underlying23
  rw [run_eql_struct, run_equalIn_struct w 9999 _ _ _ hu hs, hf]
  have p0 := fun (a b : Int) => show (part 3 #[.int .i64 a, .int .i64 b] 0).run Try.prog w = .ok (.int .i64 a) w by simp [part]
  have p1 := fun (a b : Int) => show (part 3 #[.int .i64 a, .int .i64 b] 1).run Try.prog w = .ok (.int .i64 b) w by simp [part]
  have q1 := fun (a b : Int) => run_equalIn_int (P := Try.prog) w 9998 3 .i64 .i64 a b Try.underlying3
  simp [Op.eqFields, Sem.run_bind, Sem.run_ite, p0, p1, q1]
  by_cases h1 : F = F' <;> by_cases h2 : T = T' <;> simp [h1, h2]
end Go.Proofs.Ytgkhgjoggkcklaa

/- The walks of the document's Four, head, many, last, Type, Long. -/
import Derived.Test.YtcnelahmbfggcaaG3
import Derived.Test.YtcnelahmbfggcaaRefD
import Derived.Test.YtcnelahmbfggcaaG1
namespace Go.Proofs.Ytcnelahmbfggcaa
open Go Go.RowKit
set_option maxRecDepth 100000
set_option maxHeartbeats 1000000

end Go.Proofs.Ytcnelahmbfggcaa

/- The walks of the document's many, last, Long, Type. -/
namespace Go.Proofs.Ytcnelahmbfggcaa
open Go Go.RowKit
set_option maxRecDepth 100000
set_option maxHeartbeats 1000000

theorem many_ref (n : Int) (w : World) : Calls Try.prog 53 #[.int .i64 n] w fun e w' => e = .returned (.int .i64 (manyW n)) ∧ Below w.heap.size w w' := by
  have H1 := Lib.hid (rOwn_any n w)
  have H2 := Lib.hid (rCheck_any n w)
  by_cases hw : isW n = true
  · have e3 : errW n = 0 := by simp [errW, hw]
    rw [e3] at H1 H2
    have hm : manyW n = ownW n + chkW n := by rw [manyW, if_pos hw]
    have ho : 0 ≤ ownW n ∧ ownW n ≤ 256 := by
      rcases (isW_iff n).1 hw with rfl | rfl | rfl | rfl <;> decide
    have hc : 0 ≤ chkW n ∧ chkW n ≤ 9 := by
      rcases (isW_iff n).1 hw with rfl | rfl | rfl | rfl <;> decide
    rw [hm]
    generalize ownW n = o at *
    generalize chkW n = c at *
    clear hw e3 hm
    go_enter Try.func53, Try.ntmps53
    go_wp2_with (first
      | (go_at_call 62; refine H1.out.mono ?_; rintro e w' ⟨rfl, rfl⟩)
      | (go_at_call 63; refine H2.out.mono ?_; rintro e w' ⟨rfl, m, rfl⟩))
    go_ret
    exact ⟨rfl, (by first | exact Below.refl _ _ | exact below_drewN (Below.refl _ _) _)⟩
  · have hw' : isW n = false := by simpa using hw
    have e3 : errW n = 1 := by simp [errW, hw']
    rw [e3] at H1 H2
    have hm : manyW n = 0 := by rw [manyW, if_neg hw]
    rw [hm]
    generalize ownW n = o at *
    generalize chkW n = c at *
    clear hw hw' e3 hm
    go_enter Try.func53, Try.ntmps53
    go_wp2_with (first
      | (go_at_call 62; refine H1.out.mono ?_; rintro e w' ⟨rfl, rfl⟩)
      | (go_at_call 63; refine H2.out.mono ?_; rintro e w' ⟨rfl, m, rfl⟩))
    go_ret
    exact ⟨rfl, (by first | exact Below.refl _ _ | exact below_drewN (Below.refl _ _) _)⟩
theorem Long_ref (n : Int) (w : World) : Calls Try.prog 37 #[.int .i64 n] w fun e w' => e = .returned (.tuple #[.int .i64 (if isW n then 36 + 32 * manyW n else 0), .int .i64 (errW n)]) ∧ Below w.heap.size w w' := by
  have H1 := Lib.hid (many_ref n w)
  obtain ⟨m1, m2⟩ := manyW_bd n
  by_cases hw : isW n = true
  · have e3 : errW n = 0 := by simp [errW, hw]
    rw [if_pos hw, e3]
    have hm : 1 ≤ manyW n := by
      rcases (isW_iff n).1 hw with rfl | rfl | rfl | rfl <;> decide
    generalize manyW n = m at *
    clear hw e3
    go_enter Try.func37, Try.ntmps37
    go_wp2_with (go_at_call 53; refine H1.out.mono ?_; rintro e w' ⟨rfl, hb⟩)
    go_ret2
    exact ⟨rfl, by assumption⟩
  · have hw' : isW n = false := by simpa using hw
    have e3 : errW n = 1 := by simp [errW, hw']
    have hm : manyW n = 0 := by rw [manyW, if_neg hw]
    rw [if_neg hw, e3]
    rw [hm] at H1
    clear hw hw' e3 hm m1 m2
    go_enter Try.func37, Try.ntmps37
    go_wp2_with (go_at_call 53; refine H1.out.mono ?_; rintro e w' ⟨rfl, hb⟩)
    go_ret2
    exact ⟨rfl, by assumption⟩
theorem Type_ref (n : Int) (w : World) : Calls Try.prog 52 #[.int .i64 n] w fun e w' => e = .returned (.tuple #[.int .u32 (typeN n), .int .i64 (errW n)]) ∧ w' = w := by
  by_cases hw : isW n = true
  · rcases (isW_iff n).1 hw with rfl | rfl | rfl | rfl
    all_goals
      clear hw
      go_enter Try.func52, Try.ntmps52
      go_wp2_with fail
      go_ret2
      exact ⟨rfl, rfl⟩
  · have hw' : isW n = false := by simpa using hw
    have h' := mt (isW_iff n).2 hw
    have h1 : n ≠ 1 := by omega
    have h2 : n ≠ 2 := by omega
    have h3 : n ≠ 4 := by omega
    have h4 : n ≠ 8 := by omega
    have e3 : errW n = 1 := by simp [errW, hw']
    have e4 : typeN n = 0 := by simp [typeN, h1, h2, h3, h4]
    rw [e3, e4]
    clear hw hw' h' e3 e4
    go_enter Try.func52, Try.ntmps52
    go_wp2_with fail
    go_ret2
    exact ⟨rfl, rfl⟩
end Go.Proofs.Ytcnelahmbfggcaa

/- The walk of the document's Secret. -/
namespace Go.Proofs.Ytcnelahmbfggcaa
open Go Go.RowKit
set_option maxRecDepth 100000
set_option maxHeartbeats 1000000

theorem head_len (I : List UInt8) (q : Nat) : (I ++ fourN q).length = I.length + 4 := by simp [fourN]
theorem secret_parts (I S : List UInt8) (q i : Nat) : secretN I S q i = sha (((I ++ fourN q) ++ (twoN i ++ [255])) ++ S) := by
  simp [secretN, hashN]

end Go.Proofs.Ytcnelahmbfggcaa

/- The walk of the document's Chain. -/
namespace Go.Proofs.Ytcnelahmbfggcaa
open Go Go.RowKit
set_option maxRecDepth 100000
set_option maxHeartbeats 1000000

theorem chain_step (I : List UInt8) (q j : Nat) (x : List UInt8) (a c : Nat) (hac : a ≤ c) :
    chainN I q j x a (c + 1 - a) = sha (((I ++ fourN q) ++ (twoN j ++ [UInt8.ofNat c])) ++ chainN I q j x a (c - a)) := by
  rw [show c + 1 - a = (c - a) + 1 by omega, chainN, show a + (c - a) = c by omega, hashN]
  simp

end Go.Proofs.Ytcnelahmbfggcaa


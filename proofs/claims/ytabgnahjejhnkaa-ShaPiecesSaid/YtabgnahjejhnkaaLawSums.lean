/- The walk of the law ShaSums. -/
import Derived.Test.YtabgnahjejhnkaaRefD
import Derived.Test.YtabgnahjejhnkaaEq
import Derived.Laws.BytesArg
namespace Go.Proofs.Ytabgnahjejhnkaa
open Go Go.RowKit
set_option maxHeartbeats 1000000

theorem Sl.conv {w : World} {v : Value} {l : List UInt8} (h : Sl w v l) : (convert 22 9 v).run Try.prog w = .ok (.string ⟨l.toArray⟩) w := by
  rcases h with ⟨rfl, a, c, rfl⟩ | ⟨b, off, cap, rfl, h0, h1, h2, h3⟩
  · rw [run_convert_bytes_string w 22 9 5 _ _ _ Try.underlying22 Try.underlying5 Try.underlying9]
    cases a with
    | none => simp [Conv.bytesToString]; rfl
    | some a => simp [Conv.bytesToString]; rfl
  · exact Lib.run_convert_whole (P := Try.prog) w 22 5 9 Try.underlying22 Try.underlying5 Try.underlying9 b off ⟨l.toArray⟩ (fun i hi => by
      have := h3 i hi
      exact this) cap

theorem ShaSums_any (v : Value) (l : List UInt8) (w : World) (hv : Sl w v l) : Calls Try.prog 5 #[v] w fun e w' => e = .returned (.bool true) ∧ Below w.heap.size w w' := by
  obtain ⟨av, cv, rfl⟩ : ∃ a cap, v = .slice a l.length cap := by
    rcases hv with ⟨rfl, a, c, rfl⟩ | ⟨b, off, cap, rfl, _⟩
    · exact ⟨a, c, rfl⟩
    · exact ⟨_, cap, rfl⟩
  by_cases hl : l.length ≤ 2000
  · have hli : (l.length : Int) ≤ 2000 := by omega
    have HO := Lib.hid (own_none w)
    have HSL2 : Hid (Sl (w.alloc (.cells #[] 5)) (.slice av l.length cv) l) := Lib.hid (hv.later ((Below.refl _ _).alloc (Nat.le_refl _) _))
    have HLN : Hid (([] : List UInt8).length + l.length ≤ 1000000000) := Lib.hid (by simp; omega)
    have HBa : Hid (w.heap.size ≤ (w.alloc (.cells #[] 5)).heap.size) := Lib.hid (by simp)
    have HV := Lib.hid hv
    clear hv
    go_enter Try.func5, Try.ntmps5
    go_wp2_with (at_builtin; refine wpList_append8 rfl _ _ rfl w.heap.size _ [] rfl HO.out _ l rfl HSL2.out HLN.out HBa.out ?_; intro v' w1 hv' hg hor)
    rw [List.nil_append] at hv'
    have HB1 : Hid (Below w.heap.size w w1) := Lib.hid (((Below.refl _ _).alloc (Nat.le_refl _) _).trans (HO.out.below hg HBa.out))
    have HO1 := Lib.hid hv'
    clear hv' hg hor
    refine (alive02_any w1).mono ?_
    rintro e w2 ⟨rfl, hb2⟩
    have HO2 : Hid (Sl w2 v' l) := Lib.hid (HO1.out.later hb2).sl
    have HB2 := Lib.hid (HB1.out.trans (hb2.mono HB1.out.size))
    clear hb2
    go_wp2_with fail
    refine (Sum_any v' l w2 HO2.out (by omega)).mono ?_
    rintro e w3 ⟨rfl, hb3⟩
    have HO3 : Hid (Sl w3 v' l) := Lib.hid (HO2.out.later hb3)
    have HB3 := Lib.hid (HB2.out.trans (hb3.mono HB2.out.size))
    have HV3 : Hid (Sl w3 (.slice av l.length cv) l) := Lib.hid (HV.out.later HB3.out)
    clear hb3
    go_wp2_with fail
    refine (Sum_ref _ l w3 HV3.out (by omega)).mono ?_
    rintro e w4 ⟨rfl, hb4⟩
    have heq := eq_hash (sha l) (sha l) (sha_length _) (sha_length _) w4
    rw [decide_eq_true rfl] at heq
    have hc1 := (HO3.out.later hb4).conv
    have hc2 := (HV3.out.later hb4).conv
    have HB4 := Lib.hid (HB3.out.trans (hb4.mono HB3.out.size))
    clear hb4
    go_wp2_with fail
    go_ret
    exact ⟨rfl, HB4.out⟩
  · have hli : ¬ (l.length : Int) ≤ 2000 := by omega
    clear hv
    go_enter Try.func5, Try.ntmps5
    go_wp2_with fail
    refine (alive02_any w).mono ?_
    rintro e w1 ⟨rfl, hb⟩
    have HB := Lib.hid hb
    clear hb
    go_wp2_with fail
    go_ret
    exact ⟨rfl, HB.out⟩
end Go.Proofs.Ytabgnahjejhnkaa

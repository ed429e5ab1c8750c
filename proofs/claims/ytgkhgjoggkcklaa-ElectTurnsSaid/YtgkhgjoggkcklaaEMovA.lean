/- The walk of the law ElectMoves. -/
import Derived.Test.YtgkhgjoggkcklaaERok
import Derived.Test.YtgkhgjoggkcklaaEHeard
import Derived.Test.YtgkhgjoggkcklaaECall
import Derived.Test.YtgkhgjoggkcklaaLawENth
namespace Go.Proofs.Ytgkhgjoggkcklaa
open Go Go.RowKit
set_option maxRecDepth 100000
set_option maxHeartbeats 4000000

/-- votes whose block is old, or a block of numbers -/
def OkV (nb : Nat) (w : World) (v : Value) (l : List Int) : Prop := SlI w .i64 v l ∧ ∀ k, v.ownBlock = some k → k < nb ∨ IntRow w k
theorem OkV.later {nb : Nat} {w w' : World} {v : Value} {l : List Int} (h : OkV nb w v l) (hb : Below w.heap.size w w') : OkV nb w' v l :=
  ⟨h.1.later hb, fun k hk => (h.2 k hk).imp id fun h2 => h2.later hb⟩
theorem IntRow.ne {w : World} {k b : Nat} {t : TypeId} {cs : Array Value} (h : IntRow w k) (hb : w.heap[b]? = some (.cells cs t (0, 0))) (ht : t ≠ 3) : k ≠ b := fun e => by
  subst e
  obtain ⟨cs', h⟩ := h
  rw [hb] at h
  exact ht (by injection h with h; injection h)
theorem OkV.row {nb : Nat} {w : World} {v : Value} {l : List Int} (h : OkV nb w v l) {b : Nat} {t : TypeId} {cs : Array Value} (hnb : nb ≤ b) (hb : w.heap[b]? = some (.cells cs t (0, 0))) (ht : t ≠ 3) (cs' : Array Value) : OkV nb (w.setRow b cs') v l := by
  have hne : ∀ k, v.ownBlock = some k → k ≠ b := fun k hk => by
    rcases h.2 k hk with h1 | h1
    · omega
    · exact h1.ne hb ht
  have hk : Kept (fun k => k = b) w (w.setRow b cs') := (Kept.refl (fun k => k = b) w).row (show (fun k => k = b) b from rfl) _
  exact ⟨h.1.kept hk hne, fun k hk' => (h.2 k hk').imp id fun h2 => h2.kept hk (hne k hk')⟩
theorem ElV_inj {F T me view clock wait : Int} (v v' : Value) (h : ElV F T me view v clock wait = ElV F T me view v' clock wait) : v = v' := by
  have := congrArg (fun x => x[4]?) h
  simpa [ElV] using this

theorem ElectMoves_alive (F T me view : Int) (v vw : Value) (clock wait x : Int) (votes who : List Int) (w : World) (hv : SlI w .i64 v votes) (hw : SlI w .i64 vw who)
    (h : ¬ (RightE F T me view votes clock wait ∧ 1 ≤ x ∧ x ≤ 100000 ∧ who.length ≤ 60)) :
    Calls Try.prog 3 #[.agg (ElV F T me view v clock wait), vw, .int .i64 x] w fun e w' => e = .returned (.bool true) ∧ Below w.heap.size w w' := by
  obtain ⟨va, vc, rfl⟩ := hv.shape
  obtain ⟨wa, wc, rfl⟩ := hw.shape
  obtain ⟨V, HV, HB, HE⟩ : ∃ V, Hid (V = w.alloc (.cells (ElV F T me view (.slice va votes.length vc) clock wait) 26)) ∧ Hid (Below w.heap.size w V) ∧ Hid (ElB V w.heap.size 26 F T me view (.slice va votes.length vc) clock wait) := ⟨_, Lib.hid rfl, Lib.hid ((Below.refl _ _).alloc (Nat.le_refl _) _), Lib.hid (heap_alloc_new _ _)⟩
  have HS := Lib.hid (hv.later HB.out)
  obtain ⟨N, HN⟩ : ∃ N, Hid (N = who.length) := ⟨_, Lib.hid rfl⟩
  rw [← HN.out] at h ⊢
  have HPL := Lib.hid (fun w' => plain_any F T me view va votes.length vc clock wait w')
  have HRT := Lib.hid (fun w' h => Right_ref F T me view (.slice va votes.length vc) clock wait votes w' h)
  by_cases h1 : RightE F T me view votes clock wait
  · rw [decide_eq_true h1] at HRT
    have h' : ¬ (1 ≤ x ∧ x ≤ 100000 ∧ N ≤ 60) := fun h2 => h ⟨h1, h2⟩
    clear h h1 hv hw
    by_cases h2 : x < 1
    · have d2 : decide (x < 1) = true := decide_eq_true h2
      go_enter Try.func3, Try.ntmps3
      go_upto_region 1 with (fail)
      rw [← HV.out]
      go_wp2_with (first
        | ((with_reducible refine at_load 26 _ rfl ?_); refine wpList_load_row rfl 26 _ rfl _ rfl _ (ElV F T me view (.slice va votes.length vc) clock wait) (0, 0) _ HE.out Try.underlying26 rfl info_el ?_)
        | (go_at_call 10; refine (HPL.out _).mono ?_; rintro e w1 ⟨rfl, b1⟩; have HS1 := Lib.hid (HS.out.later b1); have HB1 := Lib.hid (HB.out.trans (b1.mono HB.out.size)); clear b1)
        | (go_at_call 9; refine (HRT.out _ HS1.out).mono ?_; rintro e w2 ⟨rfl, b2⟩; have HB2 := Lib.hid (HB1.out.trans (b2.mono HB1.out.size)); clear b2)
        | (go_at_call 11; refine (alive24_any _).mono ?_; rintro e w3 ⟨rfl, b3⟩; have HB3 := Lib.hid (HB2.out.trans (b3.mono HB2.out.size)); clear b3))
      go_ret
      exact ⟨rfl, HB3.out⟩
    · have d2 : decide (x < 1) = false := decide_eq_false h2
      by_cases h3 : 100000 < x
      · have d3 : decide (100000 < x) = true := decide_eq_true h3
        go_enter Try.func3, Try.ntmps3
        go_upto_region 1 with (fail)
        rw [← HV.out]
        go_wp2_with (first
          | ((with_reducible refine at_load 26 _ rfl ?_); refine wpList_load_row rfl 26 _ rfl _ rfl _ (ElV F T me view (.slice va votes.length vc) clock wait) (0, 0) _ HE.out Try.underlying26 rfl info_el ?_)
          | (go_at_call 10; refine (HPL.out _).mono ?_; rintro e w1 ⟨rfl, b1⟩; have HS1 := Lib.hid (HS.out.later b1); have HB1 := Lib.hid (HB.out.trans (b1.mono HB.out.size)); clear b1)
          | (go_at_call 9; refine (HRT.out _ HS1.out).mono ?_; rintro e w2 ⟨rfl, b2⟩; have HB2 := Lib.hid (HB1.out.trans (b2.mono HB1.out.size)); clear b2)
          | (go_at_call 11; refine (alive24_any _).mono ?_; rintro e w3 ⟨rfl, b3⟩; have HB3 := Lib.hid (HB2.out.trans (b3.mono HB2.out.size)); clear b3))
        go_ret
        exact ⟨rfl, HB3.out⟩
      · have d3 : decide (100000 < x) = false := decide_eq_false h3
        have h4 : (60 : Int) < N := by omega
        have d4 : decide ((60 : Int) < N) = true := decide_eq_true h4
        clear h'
        go_enter Try.func3, Try.ntmps3
        go_upto_region 1 with (fail)
        rw [← HV.out]
        go_wp2_with (first
          | ((with_reducible refine at_load 26 _ rfl ?_); refine wpList_load_row rfl 26 _ rfl _ rfl _ (ElV F T me view (.slice va votes.length vc) clock wait) (0, 0) _ HE.out Try.underlying26 rfl info_el ?_)
          | (go_at_call 10; refine (HPL.out _).mono ?_; rintro e w1 ⟨rfl, b1⟩; have HS1 := Lib.hid (HS.out.later b1); have HB1 := Lib.hid (HB.out.trans (b1.mono HB.out.size)); clear b1)
          | (go_at_call 9; refine (HRT.out _ HS1.out).mono ?_; rintro e w2 ⟨rfl, b2⟩; have HB2 := Lib.hid (HB1.out.trans (b2.mono HB1.out.size)); clear b2)
          | (go_at_call 11; refine (alive24_any _).mono ?_; rintro e w3 ⟨rfl, b3⟩; have HB3 := Lib.hid (HB2.out.trans (b3.mono HB2.out.size)); clear b3))
        go_ret
        exact ⟨rfl, HB3.out⟩
  · rw [decide_eq_false h1] at HRT
    clear h h1 hv hw
    go_enter Try.func3, Try.ntmps3
    go_upto_region 1 with (fail)
    rw [← HV.out]
    go_wp2_with (first
      | ((with_reducible refine at_load 26 _ rfl ?_); refine wpList_load_row rfl 26 _ rfl _ rfl _ (ElV F T me view (.slice va votes.length vc) clock wait) (0, 0) _ HE.out Try.underlying26 rfl info_el ?_)
      | (go_at_call 10; refine (HPL.out _).mono ?_; rintro e w1 ⟨rfl, b1⟩; have HS1 := Lib.hid (HS.out.later b1); have HB1 := Lib.hid (HB.out.trans (b1.mono HB.out.size)); clear b1)
      | (go_at_call 9; refine (HRT.out _ HS1.out).mono ?_; rintro e w2 ⟨rfl, b2⟩; have HB2 := Lib.hid (HB1.out.trans (b2.mono HB1.out.size)); clear b2)
      | (go_at_call 11; refine (alive24_any _).mono ?_; rintro e w3 ⟨rfl, b3⟩; have HB3 := Lib.hid (HB2.out.trans (b3.mono HB2.out.size)); clear b3))
    go_ret
    exact ⟨rfl, HB3.out⟩
end Go.Proofs.Ytgkhgjoggkcklaa

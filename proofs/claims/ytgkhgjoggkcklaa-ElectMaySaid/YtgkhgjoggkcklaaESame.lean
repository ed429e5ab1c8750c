/- The walks of the document's Same and of elect's. -/
import Derived.Test.YtgkhgjoggkcklaaESameA
namespace Go.Proofs.Ytgkhgjoggkcklaa
open Go Go.RowKit
set_option maxRecDepth 100000
set_option maxHeartbeats 4000000

def sameB (F T me view : Int) (votes : List Int) (clock wait F' T' me' view' : Int) (votes' : List Int) (clock' wait' : Int) : Bool := decide ((F = F' ∧ T = T') ∧ me = me' ∧ view = view' ∧ votes = votes' ∧ clock = clock' ∧ wait = wait')
theorem Same_ref (F T me view : Int) (v : Value) (clock wait : Int) (votes : List Int) (F' T' me' view' : Int) (v' : Value) (clock' wait' : Int) (votes' : List Int) (w : World) (hv : SlI w .i64 v votes) (hv' : SlI w .i64 v' votes') (hl : votes.length ≤ 1000000) (hl' : votes'.length ≤ 1000000) :
    Calls Try.prog 21 #[.agg (ElV F T me view v clock wait), .agg (ElV F' T' me' view' v' clock' wait')] w fun e w' => e = .returned (.bool (sameB F T me view votes clock wait F' T' me' view' votes' clock' wait')) ∧ Below w.heap.size w w' := by
  obtain ⟨va, vc, rfl⟩ := hv.shape
  obtain ⟨va', vc', rfl⟩ := hv'.shape
  obtain ⟨W0, HW0, HB0, HS0, HE0⟩ : ∃ V, Hid (V = w.alloc (.cells (ElV F T me view (.slice va votes.length vc) clock wait) 30)) ∧ Hid (Below w.heap.size w V) ∧ Hid (V.heap.size = w.heap.size + 1) ∧ Hid (ElB V w.heap.size 30 F T me view (.slice va votes.length vc) clock wait) := ⟨_, Lib.hid rfl, Lib.hid ((Below.refl _ _).alloc (Nat.le_refl _) _), Lib.hid (by simp), Lib.hid (heap_alloc_new _ _)⟩
  obtain ⟨V, HV, HB, HS, HE, HR⟩ : ∃ V, Hid (V = W0.alloc (.cells (ElV F' T' me' view' (.slice va' votes'.length vc') clock' wait') 30)) ∧ Hid (Below w.heap.size w V) ∧ Hid (V.heap.size = w.heap.size + 2) ∧ Hid (ElB V w.heap.size 30 F T me view (.slice va votes.length vc) clock wait) ∧ Hid (ElB V (w.heap.size + 1) 30 F' T' me' view' (.slice va' votes'.length vc') clock' wait') :=
    ⟨_, Lib.hid rfl, Lib.hid (HB0.out.alloc HB0.out.size _), Lib.hid (by simp [HS0.out]), Lib.hid ((heap_alloc_old _ _ _ (by rw [HS0.out]; omega)).trans HE0.out), Lib.hid (by rw [← HS0.out]; exact heap_alloc_new _ _)⟩
  have HI := Lib.hid (Ints_any _ _ votes votes' V (hv.later HB.out) (hv'.later HB.out) hl hl')
  obtain ⟨c0, c1, c2, c3, c4, c5, c6⟩ := HE.out.cells
  obtain ⟨e0, e1, e2, e3, e4, e5, e6⟩ := HR.out.cells
  obtain ⟨R, HR9⟩ : ∃ R, Hid (R = sameB F T me view votes clock wait F' T' me' view' votes' clock' wait') := ⟨_, Lib.hid rfl⟩
  rw [← HR9.out]
  rw [sameB] at HR9
  clear hv hv' hl hl'
  by_cases h0 : F = F'
  · have g0 : (F == F') = true := by rw [h0]; simp
    by_cases h1 : T = T'
    · have g1 : (T == T') = true := by rw [h1]; simp
      by_cases h2 : me = me'
      · have g2 : (me == me') = true := by rw [h2]; simp
        by_cases h3 : view = view'
        · have g3 : (view == view') = true := by rw [h3]; simp
          by_cases h4 : votes = votes'
          · rw [decide_eq_true h4] at HI
            by_cases h5 : clock = clock'
            · have g5 : (clock == clock') = true := by rw [h5]; simp
              by_cases h6 : wait = wait'
              · have g6 : (wait == wait') = true := by rw [h6]; simp
                have HQ : Hid (R = true) := Lib.hid (by rw [HR9.out]; simp [h0, h1, h2, h3, h4, h5, h6])
                clear HR9 h0 h1 h2 h3 h4 h5 h6
                obtain rfl := HQ.out
                go_enter Try.func21, Try.ntmps21
                go_upto_region 1 with (fail)
                rw [← HW0.out]
                change Code.wp _ _ _ _ (W0.alloc (.cells (ElV F' T' me' view' (.slice va' votes'.length vc') clock' wait') 30))
                rw [← HV.out]
                go_wp2_with (first
                  | ((with_reducible refine at_load 28 _ rfl ?_); first | refine wpList_load_midW (by rfl) 28 _ rfl w.heap.size 0 rfl [.int .i64 F, .int .i64 T] _ (el_size HE.out) Try.underlying28 rfl info_rsize ?_ | refine wpList_load_midW (by rfl) 28 _ rfl (w.heap.size + 1) 0 rfl [.int .i64 F', .int .i64 T'] _ (el_size HR.out) Try.underlying28 rfl info_rsize ?_)
                  | (go_at_call 40; refine HI.out.mono ?_; rintro e w1 ⟨rfl, b1⟩; have HBW := Lib.hid (HB.out.trans (b1.mono HB.out.size)); have HE1 := HE.out.later b1; have HR1 := HR.out.later b1; obtain ⟨m0, m1, m2, m3, m4, m5, m6⟩ := HE1.cells; obtain ⟨n0, n1, n2, n3, n4, n5, n6⟩ := HR1.cells; clear b1 HE1 HR1))
                go_ret
                exact ⟨rfl, HBW.out⟩
              · have g6 : (wait == wait') = false := beq_eq_false_iff_ne.2 h6
                have HQ : Hid (R = false) := Lib.hid (by rw [HR9.out]; simp [h0, h1, h2, h3, h4, h5, h6])
                clear HR9 h0 h1 h2 h3 h4 h5 h6
                obtain rfl := HQ.out
                go_enter Try.func21, Try.ntmps21
                go_upto_region 1 with (fail)
                rw [← HW0.out]
                change Code.wp _ _ _ _ (W0.alloc (.cells (ElV F' T' me' view' (.slice va' votes'.length vc') clock' wait') 30))
                rw [← HV.out]
                go_wp2_with (first
                  | ((with_reducible refine at_load 28 _ rfl ?_); first | refine wpList_load_midW (by rfl) 28 _ rfl w.heap.size 0 rfl [.int .i64 F, .int .i64 T] _ (el_size HE.out) Try.underlying28 rfl info_rsize ?_ | refine wpList_load_midW (by rfl) 28 _ rfl (w.heap.size + 1) 0 rfl [.int .i64 F', .int .i64 T'] _ (el_size HR.out) Try.underlying28 rfl info_rsize ?_)
                  | (go_at_call 40; refine HI.out.mono ?_; rintro e w1 ⟨rfl, b1⟩; have HBW := Lib.hid (HB.out.trans (b1.mono HB.out.size)); have HE1 := HE.out.later b1; have HR1 := HR.out.later b1; obtain ⟨m0, m1, m2, m3, m4, m5, m6⟩ := HE1.cells; obtain ⟨n0, n1, n2, n3, n4, n5, n6⟩ := HR1.cells; clear b1 HE1 HR1))
                go_ret
                exact ⟨rfl, HBW.out⟩
            · have g5 : (clock == clock') = false := beq_eq_false_iff_ne.2 h5
              have HQ : Hid (R = false) := Lib.hid (by rw [HR9.out]; simp [h0, h1, h2, h3, h4, h5])
              clear HR9 h0 h1 h2 h3 h4 h5
              obtain rfl := HQ.out
              go_enter Try.func21, Try.ntmps21
              go_upto_region 1 with (fail)
              rw [← HW0.out]
              change Code.wp _ _ _ _ (W0.alloc (.cells (ElV F' T' me' view' (.slice va' votes'.length vc') clock' wait') 30))
              rw [← HV.out]
              go_wp2_with (first
                | ((with_reducible refine at_load 28 _ rfl ?_); first | refine wpList_load_midW (by rfl) 28 _ rfl w.heap.size 0 rfl [.int .i64 F, .int .i64 T] _ (el_size HE.out) Try.underlying28 rfl info_rsize ?_ | refine wpList_load_midW (by rfl) 28 _ rfl (w.heap.size + 1) 0 rfl [.int .i64 F', .int .i64 T'] _ (el_size HR.out) Try.underlying28 rfl info_rsize ?_)
                | (go_at_call 40; refine HI.out.mono ?_; rintro e w1 ⟨rfl, b1⟩; have HBW := Lib.hid (HB.out.trans (b1.mono HB.out.size)); have HE1 := HE.out.later b1; have HR1 := HR.out.later b1; obtain ⟨m0, m1, m2, m3, m4, m5, m6⟩ := HE1.cells; obtain ⟨n0, n1, n2, n3, n4, n5, n6⟩ := HR1.cells; clear b1 HE1 HR1))
              go_ret
              exact ⟨rfl, HBW.out⟩
          · rw [decide_eq_false h4] at HI
            have HQ : Hid (R = false) := Lib.hid (by rw [HR9.out]; simp [h0, h1, h2, h3, h4])
            clear HR9 h0 h1 h2 h3 h4
            obtain rfl := HQ.out
            go_enter Try.func21, Try.ntmps21
            go_upto_region 1 with (fail)
            rw [← HW0.out]
            change Code.wp _ _ _ _ (W0.alloc (.cells (ElV F' T' me' view' (.slice va' votes'.length vc') clock' wait') 30))
            rw [← HV.out]
            go_wp2_with (first
              | ((with_reducible refine at_load 28 _ rfl ?_); first | refine wpList_load_midW (by rfl) 28 _ rfl w.heap.size 0 rfl [.int .i64 F, .int .i64 T] _ (el_size HE.out) Try.underlying28 rfl info_rsize ?_ | refine wpList_load_midW (by rfl) 28 _ rfl (w.heap.size + 1) 0 rfl [.int .i64 F', .int .i64 T'] _ (el_size HR.out) Try.underlying28 rfl info_rsize ?_)
              | (go_at_call 40; refine HI.out.mono ?_; rintro e w1 ⟨rfl, b1⟩; have HBW := Lib.hid (HB.out.trans (b1.mono HB.out.size)); have HE1 := HE.out.later b1; have HR1 := HR.out.later b1; obtain ⟨m0, m1, m2, m3, m4, m5, m6⟩ := HE1.cells; obtain ⟨n0, n1, n2, n3, n4, n5, n6⟩ := HR1.cells; clear b1 HE1 HR1))
            go_ret
            exact ⟨rfl, HBW.out⟩
        · have g3 : (view == view') = false := beq_eq_false_iff_ne.2 h3
          have HQ : Hid (R = false) := Lib.hid (by rw [HR9.out]; simp [h0, h1, h2, h3])
          clear HR9 h0 h1 h2 h3
          obtain rfl := HQ.out
          go_enter Try.func21, Try.ntmps21
          go_upto_region 1 with (fail)
          rw [← HW0.out]
          change Code.wp _ _ _ _ (W0.alloc (.cells (ElV F' T' me' view' (.slice va' votes'.length vc') clock' wait') 30))
          rw [← HV.out]
          go_wp2_with (first
            | ((with_reducible refine at_load 28 _ rfl ?_); first | refine wpList_load_midW (by rfl) 28 _ rfl w.heap.size 0 rfl [.int .i64 F, .int .i64 T] _ (el_size HE.out) Try.underlying28 rfl info_rsize ?_ | refine wpList_load_midW (by rfl) 28 _ rfl (w.heap.size + 1) 0 rfl [.int .i64 F', .int .i64 T'] _ (el_size HR.out) Try.underlying28 rfl info_rsize ?_))
          go_ret
          exact ⟨rfl, HB.out⟩
      · have g2 : (me == me') = false := beq_eq_false_iff_ne.2 h2
        have HQ : Hid (R = false) := Lib.hid (by rw [HR9.out]; simp [h0, h1, h2])
        clear HR9 h0 h1 h2
        obtain rfl := HQ.out
        go_enter Try.func21, Try.ntmps21
        go_upto_region 1 with (fail)
        rw [← HW0.out]
        change Code.wp _ _ _ _ (W0.alloc (.cells (ElV F' T' me' view' (.slice va' votes'.length vc') clock' wait') 30))
        rw [← HV.out]
        go_wp2_with (first
          | ((with_reducible refine at_load 28 _ rfl ?_); first | refine wpList_load_midW (by rfl) 28 _ rfl w.heap.size 0 rfl [.int .i64 F, .int .i64 T] _ (el_size HE.out) Try.underlying28 rfl info_rsize ?_ | refine wpList_load_midW (by rfl) 28 _ rfl (w.heap.size + 1) 0 rfl [.int .i64 F', .int .i64 T'] _ (el_size HR.out) Try.underlying28 rfl info_rsize ?_))
        go_ret
        exact ⟨rfl, HB.out⟩
    · have g1 : (T == T') = false := beq_eq_false_iff_ne.2 h1
      have HQ : Hid (R = false) := Lib.hid (by rw [HR9.out]; simp [h0, h1])
      clear HR9 h0 h1
      obtain rfl := HQ.out
      go_enter Try.func21, Try.ntmps21
      go_upto_region 1 with (fail)
      rw [← HW0.out]
      change Code.wp _ _ _ _ (W0.alloc (.cells (ElV F' T' me' view' (.slice va' votes'.length vc') clock' wait') 30))
      rw [← HV.out]
      go_wp2_with (first
        | ((with_reducible refine at_load 28 _ rfl ?_); first | refine wpList_load_midW (by rfl) 28 _ rfl w.heap.size 0 rfl [.int .i64 F, .int .i64 T] _ (el_size HE.out) Try.underlying28 rfl info_rsize ?_ | refine wpList_load_midW (by rfl) 28 _ rfl (w.heap.size + 1) 0 rfl [.int .i64 F', .int .i64 T'] _ (el_size HR.out) Try.underlying28 rfl info_rsize ?_))
      go_ret
      exact ⟨rfl, HB.out⟩
  · have g0 : (F == F') = false := beq_eq_false_iff_ne.2 h0
    have HQ : Hid (R = false) := Lib.hid (by rw [HR9.out]; simp [h0])
    clear HR9 h0
    obtain rfl := HQ.out
    go_enter Try.func21, Try.ntmps21
    go_upto_region 1 with (fail)
    rw [← HW0.out]
    change Code.wp _ _ _ _ (W0.alloc (.cells (ElV F' T' me' view' (.slice va' votes'.length vc') clock' wait') 30))
    rw [← HV.out]
    go_wp2_with (first
      | ((with_reducible refine at_load 28 _ rfl ?_); first | refine wpList_load_midW (by rfl) 28 _ rfl w.heap.size 0 rfl [.int .i64 F, .int .i64 T] _ (el_size HE.out) Try.underlying28 rfl info_rsize ?_ | refine wpList_load_midW (by rfl) 28 _ rfl (w.heap.size + 1) 0 rfl [.int .i64 F', .int .i64 T'] _ (el_size HR.out) Try.underlying28 rfl info_rsize ?_))
    go_ret
    exact ⟨rfl, HB.out⟩
end Go.Proofs.Ytgkhgjoggkcklaa

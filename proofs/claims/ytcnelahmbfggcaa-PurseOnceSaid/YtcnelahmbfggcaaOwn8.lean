/- Append onto bytes of the call's own: the law as the walk meets it; made slices. -/
import Derived.Test.YtcnelahmbfggcaaKit
import Derived.Test.YtcnelahmbfggcaaOwn
namespace Go.Proofs.Ytcnelahmbfggcaa
open Go Go.RowKit
set_option maxRecDepth 100000

theorem info_u8 : (Try.prog.info? 5).map (fun i => (i.zero, i.size, i.bytes)) = some (some (.int .u8 0), 1, 1) := by kernel_rfl

/-- bytes of the call's own -/
def Own8 (w : World) (B : Nat) (v : Value) (l : List UInt8) : Prop := OwnC w B 5 1 v l.length (B8 l)

theorem Own8.nil (w : World) (B : Nat) : Own8 w B (.slice none 0 0) [] := OwnC.nil _ _ _ _
theorem Own8.sl {w : World} {B : Nat} {v : Value} {l : List UInt8} (h : Own8 w B v l) : Sl w v l := by
  rcases h.2 with ⟨rfl, h0⟩ | ⟨g, off, cap, cur, rfl, _, hg, hc, hm, hs, hcell⟩
  · exact .inl ⟨List.eq_nil_of_length_eq_zero h0, _, _, rfl⟩
  · exact Sl.ofBlock hg rfl hc hm fun i hi => hcell i (by rw [B8_length]; exact hi)
theorem Own8.later {w w' : World} {B : Nat} {v : Value} {l : List UInt8} (h : Own8 w B v l) (hb : Below w.heap.size w w') : Own8 w' B v l := OwnC.later h hb
theorem Own8.shape {w : World} {B : Nat} {v : Value} {l : List UInt8} (h : Own8 w B v l) : ∃ a c, v = .slice a l.length c := by
  rcases h.2 with ⟨rfl, h0⟩ | ⟨g, off, cap, cur, rfl, _⟩
  · exact ⟨_, _, by rw [h0]⟩
  · exact ⟨_, _, rfl⟩

theorem B8_one (l : List UInt8) : ∀ u ∈ B8 l, u.oneCell' = true := fun u hu => by
  obtain ⟨_, _, rfl⟩ := List.mem_map.1 hu
  rfl
/-- what is read as bytes is a source of an append -/
theorem Sl.src {w : World} {y : Value} {r : List UInt8} (h : Sl w y r) : Src Try.prog 1 41 y r.length (B8 r) w := by
  rcases h with ⟨rfl, a, c, rfl⟩ | ⟨b, off, cap, rfl, _, _, _, hc⟩
  · cases a with
    | none => exact Src.ofNil w Try.underlying41 c
    | some a => exact Src.ofSlice w Try.underlying41 a 0 c [] (by simp) (fun j u hu => by simp at hu) (fun u hu => by cases hu)
  · refine Src.ofSlice w Try.underlying41 ⟨b, off, none⟩ _ cap (B8 r) (by rw [B8_length, Nat.mul_one]) (fun j u hu => ?_) (B8_one r)
    have hj : j < r.length := by have := (List.getElem?_eq_some_iff.1 hu).1; rwa [B8_length] at this
    have hadd : (⟨b, off, none⟩ : Addr).add j = ⟨b, off + j, none⟩ := by unfold Addr.add; split <;> simp_all
    rw [hadd, hc j hj, ← hu, B8_getElem?, List.getElem?_eq_getElem hj]
    rfl
theorem B8_append (l r : List UInt8) : B8 (l ++ r) = B8 l ++ B8 r := by simp [B8]

/-- THE LAW: append(s, x...) in a plain region. -/
theorem wpList_append8 {ops : Array Oper} {rest : List Oper} {o : Oper} {a : Act} {w : World} {Q : Exit → Act → World → Prop} (hgd : o.guard = none) (s x : Operand)
    (ho : o.op = .call { callee := .builtin .append, args := #[s, x], argTypes := #[41, 41] })
    (B : Nat) (v : Value) (l : List UInt8) (hs : a.eval s = v) (hown : Own8 w B v l) (y : Value) (r : List UInt8) (hx : a.eval x = y) (hr : Sl w y r)
    (hlen : l.length + r.length ≤ 1000000000) (hB : B ≤ w.heap.size)
    (h : ∀ v' w', Own8 w' B v' (l ++ r) → w.grownBy w' v.ownBlock → (v'.ownBlock = v.ownBlock ∨ v'.ownBlock = some w.heap.size) → wpList Try.prog ops Q rest (a.put o.dst v') w') :
    wpList Try.prog ops Q (o :: rest) a w := by
  refine wpList_plain hgd fun _ hK => ?_
  obtain ⟨i0, hi, hz0, hz1, hz2⟩ := info_parts info_u8
  obtain ⟨v', w', hrun, h2, h3, h4⟩ := run_append_ownC (P := Try.prog) 41 41 o.type 5 i0 (.int .u8 0) 1 1 Try.underlying41 hi hz0 hz1 hz2 rfl hown y r.length (B8 r) hr.src
    (by simp only [maxLen]; omega) (by omega) hB
  unfold Oper.wp execOp
  simp only [ho, resolve, invoke, builtin, Sem.run_bind, Sem.run_pure, Result.andThen_ok, List.map_toArray, List.map_cons, List.map_nil, hs, hx, hrun]
  refine hK _ _ (h v' w' ?_ h3 h4)
  unfold Own8
  rw [List.length_append, B8_append]
  exact h2
/-- nothing below the own blocks has turned -/
theorem Own8.below {w w' : World} {B : Nat} {v : Value} {l : List UInt8} (h : Own8 w B v l) (hg : w.grownBy w' v.ownBlock) (hB : B ≤ w.heap.size) : Below B w w' :=
  (Below.refl _ _).grown hg hB fun k hk => (h.lt k hk).1
end Go.Proofs.Ytcnelahmbfggcaa

/- Append onto bytes of the call's own: the law as the walk meets it; made slices. -/
import Derived.Test.YtgkhgjoggkcklaaKit
import Derived.Test.YtgkhgjoggkcklaaOwn
namespace Go.Proofs.Ytgkhgjoggkcklaa
open Go Go.RowKit
set_option maxRecDepth 100000

theorem info_u8 : (Try.prog.info? 5).map (fun i => (i.zero, i.size, i.bytes)) = some (some (.int .u8 0), 1, 1) := by kernel_rfl

/-- bytes of the call's own -/
def Own8 (w : World) (B : Nat) (v : Value) (l : List UInt8) : Prop := OwnC w B 5 1 v l.length (B8 l)

theorem Own8.nil (w : World) (B : Nat) : Own8 w B (.slice none 0 0) [] := OwnC.nil _ _ _ _
theorem Own8.sl {w : World} {B : Nat} {v : Value} {l : List UInt8} (h : Own8 w B v l) : Sl w v l := by
  rcases h.2 with ⟨rfl, h0⟩ | ⟨g, off, cap, cur, rfl, _, hg, hc, hm, hs, hcell⟩
  · exact .inl ⟨List.eq_nil_of_length_eq_zero h0, _, _, rfl⟩
  · exact Sl.ofBlock hg rfl hc hm fun i hi => hcell i (by rw [B8_length]; exact hi)
theorem Own8.later {w w' : World} {B : Nat} {v : Value} {l : List UInt8} (h : Own8 w B v l) (hb : Below w.heap.size w w') : Own8 w' B v l := OwnC.later h hb
theorem Own8.shape {w : World} {B : Nat} {v : Value} {l : List UInt8} (h : Own8 w B v l) : ∃ a c, v = .slice a l.length c := by
  rcases h.2 with ⟨rfl, h0⟩ | ⟨g, off, cap, cur, rfl, _⟩
  · exact ⟨_, _, by rw [h0]⟩
  · exact ⟨_, _, rfl⟩

theorem B8_one (l : List UInt8) : ∀ u ∈ B8 l, u.oneCell' = true := fun u hu => by
  obtain ⟨_, _, rfl⟩ := List.mem_map.1 hu
  rfl
theorem B8_append (l r : List UInt8) : B8 (l ++ r) = B8 l ++ B8 r := by simp [B8]

/-- nothing below the own blocks has turned -/
theorem Own8.below {w w' : World} {B : Nat} {v : Value} {l : List UInt8} (h : Own8 w B v l) (hg : w.grownBy w' v.ownBlock) (hB : B ≤ w.heap.size) : Below B w w' :=
  (Below.refl _ _).grown hg hB fun k hk => (h.lt k hk).1
end Go.Proofs.Ytgkhgjoggkcklaa

/- The walk of the law ElectMoves, of all inputs. -/
import Derived.Test.YtgkhgjoggkcklaaLawEMov
namespace Go.Proofs.Ytgkhgjoggkcklaa
open Go Go.RowKit
theorem ElectMoves_any (F T me view : Int) (v vw : Value) (clock wait x : Int) (votes who : List Int) (w : World) (hv : SlI w .i64 v votes) (hw : SlI w .i64 vw who) :
    Calls Try.prog 3 #[.agg (ElV F T me view v clock wait), vw, .int .i64 x] w fun e w' => e = .returned (.bool true) ∧ Below w.heap.size w w' := by
  by_cases h : RightE F T me view votes clock wait ∧ 1 ≤ x ∧ x ≤ 100000 ∧ who.length ≤ 60
  · obtain ⟨h1, h2, h3, h4⟩ := h
    obtain ⟨m, rfl⟩ : ∃ m : Nat, me = m := ⟨me.toNat, by have := h1.2.1; omega⟩
    exact ElectMoves_good F T m view v vw clock wait x votes who w hv hw h1 h2 h3 h4
  · exact ElectMoves_alive F T me view v vw clock wait x votes who w hv hw h
end Go.Proofs.Ytgkhgjoggkcklaa

/- The walk of the document's Block. -/
import Derived.Test.YtcnelahmbfggcaaRefA
import Derived.Test.YtcnelahmbfggcaaRefK
namespace Go.Proofs.Ytcnelahmbfggcaa
open Go Go.RowKit
set_option maxRecDepth 100000
set_option maxHeartbeats 1000000

theorem below_setRow {B b : Nat} {a w : World} (h : Below B a w) (hb : B ≤ b) (c : Array Value) : Below B a (w.setRow b c) :=
  ⟨h.os, h.tape, h.output, by simpa using h.size, fun k hk => by rw [setRow_other _ _ _ _ (by omega)]; exact h.block k hk⟩

end Go.Proofs.Ytcnelahmbfggcaa

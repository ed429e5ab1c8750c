/- The walk of the document's Pad. -/
import Derived.Test.YtcnelahmbfggcaaShaI
import Derived.Test.YtcnelahmbfggcaaFresh
namespace Go.Proofs.Ytcnelahmbfggcaa
open Go Go.RowKit
set_option maxRecDepth 100000
set_option maxHeartbeats 1000000

theorem own_one (w : World) (x : UInt8) : Own8 (w.alloc (.cells #[.int .u8 (bn x)] 5)) w.heap.size (.slice (some ⟨w.heap.size, 0, none⟩) 1 1) [x] :=
  ⟨rfl, .inr ⟨w.heap.size, 0, 1, _, rfl, Nat.le_refl _, heap_alloc_new w _, by simp, by simp [maxLen], by simp, fun j hj => by
    have : j = 0 := by simp [B8] at hj; omega
    subst this; rfl⟩⟩
theorem pad_parts (m z : Nat) (hz : z = (119 - m % 64) % 64) : pad m = (0x80 :: List.replicate z 0) ++ beTo 8 (m * 8 % 2 ^ 64) 8 := by
  subst hz; simp [pad, be, beTo]

end Go.Proofs.Ytcnelahmbfggcaa

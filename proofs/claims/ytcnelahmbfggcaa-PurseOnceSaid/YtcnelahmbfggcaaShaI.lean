/- The walk of law02.alive. -/
import Derived.Test.YtcnelahmbfggcaaShaH
import Derived.Lib.SlBytesConst
import Derived.Test.YtcnelahmbfggcaaKit2
namespace Go.Proofs.Ytcnelahmbfggcaa
open Go Go.RowKit
set_option maxRecDepth 100000
set_option maxHeartbeats 1000000

theorem abc0 : (sha [97, 98, 99]).getD 0 0 = 0xba := by decide +kernel
theorem abc1 : (sha [97, 98, 99]).getD 1 0 = 0x78 := by decide +kernel
theorem abc31 : (sha [97, 98, 99]).getD 31 0 = 0xad := by decide +kernel
theorem round63 : roundV 63 = 3329325298 := by decide +kernel
theorem round63e : roundE 63 = 0 := by decide +kernel

theorem Pad_0 (w : World) : Calls Try.prog 66 #[.int .i64 0] w fun e w' => ∃ a c, e = .returned (.slice a 64 c) ∧ Below w.heap.size w w' := by
  refine (Pad_any 0 w (by omega) (by omega)).mono ?_
  rintro e w' ⟨v, rfl, hv, hb⟩
  obtain ⟨a, c, rfl⟩ := hv.shape
  exact ⟨a, c, by rw [pad_length]; rfl, hb⟩

end Go.Proofs.Ytcnelahmbfggcaa

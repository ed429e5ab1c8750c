/- The walks of the document's SHA: turned, rounds, Schedule. -/
import Derived.Test.YtcnelahmbfggcaaShaI
import Derived.Test.YtcnelahmbfggcaaKit2
namespace Go.Proofs.Ytcnelahmbfggcaa
open Go Go.RowKit
set_option maxRecDepth 100000
set_option maxHeartbeats 1000000

theorem i_rot2 (x : UInt32) (k : Nat) (h1 : 1 ≤ k) (h2 : k ≤ 31) : bits .or .u32 ((wn x : Int) / 2 ^ k) ((wn x : Int) * 2 ^ (32 - k) % 4294967296) = ((wn (rotr x k) : Nat) : Int) := by
  have e1 : (UInt32.ofNat k).toNat = k := by simp; omega
  have e2 : (UInt32.ofNat (32 - k)).toNat = 32 - k := by simp; omega
  have a := i_shl x (UInt32.ofNat (32 - k)) (by omega)
  have b := i_shr x (UInt32.ofNat k) (by omega)
  rw [e2] at a
  rw [e1] at b
  rw [a, b, i_or, rotr]
end Go.Proofs.Ytcnelahmbfggcaa

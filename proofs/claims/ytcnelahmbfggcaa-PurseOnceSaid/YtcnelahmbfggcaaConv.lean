/- A slice of bytes, as a string. No condition. -/
import Derived.Test.YtcnelahmbfggcaaEq
import Derived.Lib.SlBytesRow
import Derived.Laws.BytesArg
namespace Go.Proofs.Ytcnelahmbfggcaa
open Go Go.RowKit
set_option maxRecDepth 100000

theorem Sl.conv {w : World} {v : Value} {l : List UInt8} (h : Sl w v l) : (convert 41 9 v).run Try.prog w = .ok (.string ⟨l.toArray⟩) w := by
  rcases h with ⟨rfl, a, c, rfl⟩ | ⟨b, off, cap, rfl, h0, h1, h2, h3⟩
  · rw [run_convert_bytes_string w 41 9 5 _ _ _ Try.underlying41 Try.underlying5 Try.underlying9]
    cases a with
    | none => simp [Conv.bytesToString]; rfl
    | some a => simp [Conv.bytesToString]; rfl
  · exact Lib.run_convert_whole (P := Try.prog) w 41 5 9 Try.underlying41 Try.underlying5 Try.underlying9 b off ⟨l.toArray⟩ (fun i hi => by
      have := h3 i hi
      exact this) cap
theorem wf_i64 {d : Int} (h : -9223372036854775808 ≤ d ∧ d ≤ 9223372036854775807) : (Lit.int .i64 d).wf = true := by
  simp [Lit.wf, IntKind.min, IntKind.max, IntKind.signed, IntKind.bits]
  omega
end Go.Proofs.Ytcnelahmbfggcaa

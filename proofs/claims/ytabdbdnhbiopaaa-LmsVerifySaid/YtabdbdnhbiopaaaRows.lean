/-
  No cell of these rows narrows 'for every input' (looked for: loops, veiled, ifaces, maps, wideKeys, modest, calm, conditions, laid).
  DERIVED. THE GIVEN ROWS OF THIS SEAT. 6 by the template 'for every input the law returns true; each argument reads behind the call as it read before'; 0 by the template 'total and deterministic' (their statements: YtabdbdnhbiopaaaTotals.lean).
  GIVEN WITH THE SEED: the statements are not yours to turn. If you find one false, say at which input.
  Laid BY PROGRAM, IN A SANDBOX (cutbox-rows.mjs): the forced cells as the released guide's own fill.sh prints them over the translation 7715cd9f9b77da57… (all of the seat's roots in one cut). By AI agents, Wed Nov 11 2026. No macro, syntax, notation, axiom, sorry.
-/
import Derived.Test.YtabdbdnhbiopaaaChecked
import GoSem.Claim
import GoSem.ClaimJoined
import GoSem.ClaimMapViews
import Derived.JoinedTies
import Derived.KernelRfl
namespace Go.Proofs.Ytabdbdnhbiopaaa
/- THE CELL 'sum', in the pinned program and in every row, IS THE sha256 OF THE DUMP (.gsa) THAT YtabdbdnhbiopaaaProg.lean LOADS. Nothing in Lean hashes anything: it is a label: what it is worth is what the hold of that sum in a sandbox is worth. -/
noncomputable def Try.pinned : Pinned := { name := "ytabdbdnhbiopaaa", sum := "7715cd9f9b77da57b5c0906453845de2114b90c1dfc8e5814e417d0532e43898", checked := Try.checked }
namespace Rows
def none {H : Type} : Left H := { results := [], args := [] }

/-- 'consistorylaw05.LmsSigns': WHATEVER THE INPUT: true; the input reads as it did. -/
def lmsSignsSpec : ChangeSpec := { name := "lmsSigns", fn := fun _ => fun
  | [d1, d2, d3] => { results := [.lit (.bool true)], args := [d1, d2, d3] }
  | _ => none }
def lmsSignsRow : OpenClaim := { program := "ytabdbdnhbiopaaa", sum := "7715cd9f9b77da57b5c0906453845de2114b90c1dfc8e5814e417d0532e43898", func := "consistory/consistorylaw05.LmsSigns", spec := "lmsSigns", unfollowed := true, recurses := true, apart := false }
def LmsSignsSaid : Prop := lmsSignsRow.holds Try.pinned (OpenSpec.ofChange lmsSignsSpec)

/-- ITS FALSE NEIGHBOUR: 'it returns false'. Refute it at one input. -/
def lmsSignsWrong : ChangeSpec := { name := "lmsSigns", fn := fun _ => fun
  | [d1, d2, d3] => { results := [.lit (.bool false)], args := [d1, d2, d3] }
  | _ => none }
def LmsSignsWrongFalsely : Prop := lmsSignsRow.holds Try.pinned (OpenSpec.ofChange lmsSignsWrong)

/-- 'consistorylaw05.LmsVerify': WHATEVER THE INPUT: true; the input reads as it did. -/
def lmsVerifySpec : ChangeSpec := { name := "lmsVerify", fn := fun _ => fun
  | [d1, d2, d3] => { results := [.lit (.bool true)], args := [d1, d2, d3] }
  | _ => none }
def lmsVerifyRow : OpenClaim := { program := "ytabdbdnhbiopaaa", sum := "7715cd9f9b77da57b5c0906453845de2114b90c1dfc8e5814e417d0532e43898", func := "consistory/consistorylaw05.LmsVerify", spec := "lmsVerify", unfollowed := true, recurses := true, apart := false }
def LmsVerifySaid : Prop := lmsVerifyRow.holds Try.pinned (OpenSpec.ofChange lmsVerifySpec)

/-- ITS FALSE NEIGHBOUR: 'it returns false'. Refute it at one input. -/
def lmsVerifyWrong : ChangeSpec := { name := "lmsVerify", fn := fun _ => fun
  | [d1, d2, d3] => { results := [.lit (.bool false)], args := [d1, d2, d3] }
  | _ => none }
def LmsVerifyWrongFalsely : Prop := lmsVerifyRow.holds Try.pinned (OpenSpec.ofChange lmsVerifyWrong)

/-- 'consistorylaw05.LmsRight': WHATEVER THE INPUT: true; the input reads as it did. -/
def lmsRightSpec : ChangeSpec := { name := "lmsRight", fn := fun _ => fun
  | [d1, d2, d3] => { results := [.lit (.bool true)], args := [d1, d2, d3] }
  | _ => none }
def lmsRightRow : OpenClaim := { program := "ytabdbdnhbiopaaa", sum := "7715cd9f9b77da57b5c0906453845de2114b90c1dfc8e5814e417d0532e43898", func := "consistory/consistorylaw05.LmsRight", spec := "lmsRight", unfollowed := true, recurses := true, apart := false }
def LmsRightSaid : Prop := lmsRightRow.holds Try.pinned (OpenSpec.ofChange lmsRightSpec)

/-- ITS FALSE NEIGHBOUR: 'it returns false'. Refute it at one input. -/
def lmsRightWrong : ChangeSpec := { name := "lmsRight", fn := fun _ => fun
  | [d1, d2, d3] => { results := [.lit (.bool false)], args := [d1, d2, d3] }
  | _ => none }
def LmsRightWrongFalsely : Prop := lmsRightRow.holds Try.pinned (OpenSpec.ofChange lmsRightWrong)

/-- 'consistorylaw05.LmsLengths': WHATEVER THE INPUT: true; the input reads as it did. -/
def lmsLengthsSpec : ChangeSpec := { name := "lmsLengths", fn := fun _ => fun
  | [d1, d2, d3] => { results := [.lit (.bool true)], args := [d1, d2, d3] }
  | _ => none }
def lmsLengthsRow : OpenClaim := { program := "ytabdbdnhbiopaaa", sum := "7715cd9f9b77da57b5c0906453845de2114b90c1dfc8e5814e417d0532e43898", func := "consistory/consistorylaw05.LmsLengths", spec := "lmsLengths", unfollowed := true, recurses := true, apart := false }
def LmsLengthsSaid : Prop := lmsLengthsRow.holds Try.pinned (OpenSpec.ofChange lmsLengthsSpec)

/-- ITS FALSE NEIGHBOUR: 'it returns false'. Refute it at one input. -/
def lmsLengthsWrong : ChangeSpec := { name := "lmsLengths", fn := fun _ => fun
  | [d1, d2, d3] => { results := [.lit (.bool false)], args := [d1, d2, d3] }
  | _ => none }
def LmsLengthsWrongFalsely : Prop := lmsLengthsRow.holds Try.pinned (OpenSpec.ofChange lmsLengthsWrong)

/-- 'consistorylaw05.LmsKnots': WHATEVER THE INPUT: true; the input reads as it did. -/
def lmsKnotsSpec : ChangeSpec := { name := "lmsKnots", fn := fun _ => fun
  | [d1, d2] => { results := [.lit (.bool true)], args := [d1, d2] }
  | _ => none }
def lmsKnotsRow : OpenClaim := { program := "ytabdbdnhbiopaaa", sum := "7715cd9f9b77da57b5c0906453845de2114b90c1dfc8e5814e417d0532e43898", func := "consistory/consistorylaw05.LmsKnots", spec := "lmsKnots", unfollowed := true, recurses := true, apart := false }
def LmsKnotsSaid : Prop := lmsKnotsRow.holds Try.pinned (OpenSpec.ofChange lmsKnotsSpec)

/-- ITS FALSE NEIGHBOUR: 'it returns false'. Refute it at one input. -/
def lmsKnotsWrong : ChangeSpec := { name := "lmsKnots", fn := fun _ => fun
  | [d1, d2] => { results := [.lit (.bool false)], args := [d1, d2] }
  | _ => none }
def LmsKnotsWrongFalsely : Prop := lmsKnotsRow.holds Try.pinned (OpenSpec.ofChange lmsKnotsWrong)

/-- 'consistorylaw05.LmsBeside': WHATEVER THE INPUT: true; the input reads as it did. -/
def lmsBesideSpec : ChangeSpec := { name := "lmsBeside", fn := fun _ => fun
  | [d1, d2, d3] => { results := [.lit (.bool true)], args := [d1, d2, d3] }
  | _ => none }
def lmsBesideRow : OpenClaim := { program := "ytabdbdnhbiopaaa", sum := "7715cd9f9b77da57b5c0906453845de2114b90c1dfc8e5814e417d0532e43898", func := "consistory/consistorylaw05.LmsBeside", spec := "lmsBeside", unfollowed := true, recurses := true, apart := false }
def LmsBesideSaid : Prop := lmsBesideRow.holds Try.pinned (OpenSpec.ofChange lmsBesideSpec)

/-- ITS FALSE NEIGHBOUR: 'it returns false'. Refute it at one input. -/
def lmsBesideWrong : ChangeSpec := { name := "lmsBeside", fn := fun _ => fun
  | [d1, d2, d3] => { results := [.lit (.bool false)], args := [d1, d2, d3] }
  | _ => none }
def LmsBesideWrongFalsely : Prop := lmsBesideRow.holds Try.pinned (OpenSpec.ofChange lmsBesideWrong)

/- THE SECOND FORM. 'bulk': how many values and letters a reading holds, each counted each time it is reached (what is shared counts as often as it is met; a slice's spare places count too). A statement '..UptoSaid' is the law's where the arguments, and the package variables that the reading takes, are together of bulk at most 1048576: NARROWER than '..Said'. Prove '..Said' where nothing that the law and all that it calls make is longer than what came in: it says more and counts as full. Else prove '..UptoSaid'. A law counts once. -/
mutual
def uptoBulk {H : Type} : DataW H → Nat
  | .lit (.string bytes) => bytes.length + 1
  | .lit _ => 1
  | .nil => 1
  | .ptr d => uptoBulk d + 1
  | .slice elems spare => uptoBulkAll elems + uptoBulkAll spare + 1
  | .agg parts => uptoBulkAll parts + 1
  | .iface _ d => uptoBulk d + 1
  | .map entries => uptoBulkEntries entries + 1
  | .held _ => 1
def uptoBulkAll {H : Type} : List (DataW H) → Nat
  | [] => 0
  | d :: r => uptoBulk d + uptoBulkAll r
def uptoBulkEntries {H : Type} : List (Lit × DataW H) → Nat
  | [] => 0
  | x :: r => uptoBulkEntry x + uptoBulkEntries r
def uptoBulkEntry {H : Type} : Lit × DataW H → Nat
  | (.string bytes, d) => bytes.length + uptoBulk d + 1
  | (_, d) => uptoBulk d + 1
 end
def uptoSmall : (H : Type) → List (DataW H) → Bool := fun _ ds => decide (uptoBulkAll ds ≤ 1048576)
def OpenSpec.upto (s : _root_.Go.ChangeSpec) : _root_.Go.OpenSpec := { _root_.Go.OpenSpec.ofChange s with cond := some uptoSmall }

/-- 'consistorylaw05.LmsSigns', WHERE WHAT IT READS IS OF BULK AT MOST 1048576: true; the input reads as it did. -/
def lmsSignsUptoRow : OpenClaim := { program := "ytabdbdnhbiopaaa", sum := "7715cd9f9b77da57b5c0906453845de2114b90c1dfc8e5814e417d0532e43898", func := "consistory/consistorylaw05.LmsSigns", spec := "lmsSigns", unfollowed := true, recurses := true, apart := false, narrowed := true }
def LmsSignsUptoSaid : Prop := lmsSignsUptoRow.holds Try.pinned (OpenSpec.upto lmsSignsSpec)

/-- 'consistorylaw05.LmsVerify', WHERE WHAT IT READS IS OF BULK AT MOST 1048576: true; the input reads as it did. -/
def lmsVerifyUptoRow : OpenClaim := { program := "ytabdbdnhbiopaaa", sum := "7715cd9f9b77da57b5c0906453845de2114b90c1dfc8e5814e417d0532e43898", func := "consistory/consistorylaw05.LmsVerify", spec := "lmsVerify", unfollowed := true, recurses := true, apart := false, narrowed := true }
def LmsVerifyUptoSaid : Prop := lmsVerifyUptoRow.holds Try.pinned (OpenSpec.upto lmsVerifySpec)

/-- 'consistorylaw05.LmsRight', WHERE WHAT IT READS IS OF BULK AT MOST 1048576: true; the input reads as it did. -/
def lmsRightUptoRow : OpenClaim := { program := "ytabdbdnhbiopaaa", sum := "7715cd9f9b77da57b5c0906453845de2114b90c1dfc8e5814e417d0532e43898", func := "consistory/consistorylaw05.LmsRight", spec := "lmsRight", unfollowed := true, recurses := true, apart := false, narrowed := true }
def LmsRightUptoSaid : Prop := lmsRightUptoRow.holds Try.pinned (OpenSpec.upto lmsRightSpec)

/-- 'consistorylaw05.LmsLengths', WHERE WHAT IT READS IS OF BULK AT MOST 1048576: true; the input reads as it did. -/
def lmsLengthsUptoRow : OpenClaim := { program := "ytabdbdnhbiopaaa", sum := "7715cd9f9b77da57b5c0906453845de2114b90c1dfc8e5814e417d0532e43898", func := "consistory/consistorylaw05.LmsLengths", spec := "lmsLengths", unfollowed := true, recurses := true, apart := false, narrowed := true }
def LmsLengthsUptoSaid : Prop := lmsLengthsUptoRow.holds Try.pinned (OpenSpec.upto lmsLengthsSpec)

/-- 'consistorylaw05.LmsKnots', WHERE WHAT IT READS IS OF BULK AT MOST 1048576: true; the input reads as it did. -/
def lmsKnotsUptoRow : OpenClaim := { program := "ytabdbdnhbiopaaa", sum := "7715cd9f9b77da57b5c0906453845de2114b90c1dfc8e5814e417d0532e43898", func := "consistory/consistorylaw05.LmsKnots", spec := "lmsKnots", unfollowed := true, recurses := true, apart := false, narrowed := true }
def LmsKnotsUptoSaid : Prop := lmsKnotsUptoRow.holds Try.pinned (OpenSpec.upto lmsKnotsSpec)

/-- 'consistorylaw05.LmsBeside', WHERE WHAT IT READS IS OF BULK AT MOST 1048576: true; the input reads as it did. -/
def lmsBesideUptoRow : OpenClaim := { program := "ytabdbdnhbiopaaa", sum := "7715cd9f9b77da57b5c0906453845de2114b90c1dfc8e5814e417d0532e43898", func := "consistory/consistorylaw05.LmsBeside", spec := "lmsBeside", unfollowed := true, recurses := true, apart := false, narrowed := true }
def LmsBesideUptoSaid : Prop := lmsBesideUptoRow.holds Try.pinned (OpenSpec.upto lmsBesideSpec)

end Rows
end Go.Proofs.Ytabdbdnhbiopaaa

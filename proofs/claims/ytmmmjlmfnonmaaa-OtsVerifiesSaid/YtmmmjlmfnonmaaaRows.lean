/-
  No cell of these rows narrows 'for every input' (looked for: loops, veiled, ifaces, maps, wideKeys, modest, calm, conditions, laid).
  DERIVED. THE GIVEN ROWS OF THIS SEAT. 6 by the template 'for every input the law returns true; each argument reads behind the call as it read before'; 0 by the template 'total and deterministic' (their statements: YtmmmjlmfnonmaaaTotals.lean).
  GIVEN WITH THE SEED: the statements are not yours to turn. If you find one false, say at which input.
  Laid BY PROGRAM, IN A SANDBOX (cutbox-rows.mjs): the forced cells as the released guide's own fill.sh prints them over the translation 7bfeafba28f7f0a7… (all of the seat's roots in one cut). By AI agents, Wed Nov 11 2026. No macro, syntax, notation, axiom, sorry.
-/
import Derived.Test.YtmmmjlmfnonmaaaChecked
import GoSem.Claim
import GoSem.ClaimJoined
import GoSem.ClaimMapViews
import Derived.JoinedTies
import Derived.KernelRfl
namespace Go.Proofs.Ytmmmjlmfnonmaaa
/- THE CELL 'sum', in the pinned program and in every row, IS THE sha256 OF THE DUMP (.gsa) THAT YtmmmjlmfnonmaaaProg.lean LOADS. Nothing in Lean hashes anything: it is a label: what it is worth is what the hold of that sum in a sandbox is worth. -/
noncomputable def Try.pinned : Pinned := { name := "ytmmmjlmfnonmaaa", sum := "7bfeafba28f7f0a73c328f63eb0896a13503c297fefa9e685312a73afcb16bfe", checked := Try.checked }
namespace Rows
def none {H : Type} : Left H := { results := [], args := [] }

/-- 'consistorylaw04.OtsPublic': WHATEVER THE INPUT: true; the input reads as it did. -/
def otsPublicSpec : ChangeSpec := { name := "otsPublic", fn := fun _ => fun
  | [d] => { results := [.lit (.bool true)], args := [d] }
  | _ => none }
def otsPublicRow : OpenClaim := { program := "ytmmmjlmfnonmaaa", sum := "7bfeafba28f7f0a73c328f63eb0896a13503c297fefa9e685312a73afcb16bfe", func := "consistory/consistorylaw04.OtsPublic", spec := "otsPublic", recurses := true, apart := false }
def OtsPublicSaid : Prop := otsPublicRow.holds Try.pinned (OpenSpec.ofChange otsPublicSpec)

/-- ITS FALSE NEIGHBOUR: 'it returns false'. Refute it at one input. -/
def otsPublicWrong : ChangeSpec := { name := "otsPublic", fn := fun _ => fun
  | [d] => { results := [.lit (.bool false)], args := [d] }
  | _ => none }
def OtsPublicWrongFalsely : Prop := otsPublicRow.holds Try.pinned (OpenSpec.ofChange otsPublicWrong)

/-- 'consistorylaw04.OtsGoesOn': WHATEVER THE INPUT: true; the input reads as it did. -/
def otsGoesOnSpec : ChangeSpec := { name := "otsGoesOn", fn := fun _ => fun
  | [d1, d2, d3] => { results := [.lit (.bool true)], args := [d1, d2, d3] }
  | _ => none }
def otsGoesOnRow : OpenClaim := { program := "ytmmmjlmfnonmaaa", sum := "7bfeafba28f7f0a73c328f63eb0896a13503c297fefa9e685312a73afcb16bfe", func := "consistory/consistorylaw04.OtsGoesOn", spec := "otsGoesOn", recurses := true, apart := false }
def OtsGoesOnSaid : Prop := otsGoesOnRow.holds Try.pinned (OpenSpec.ofChange otsGoesOnSpec)

/-- ITS FALSE NEIGHBOUR: 'it returns false'. Refute it at one input. -/
def otsGoesOnWrong : ChangeSpec := { name := "otsGoesOn", fn := fun _ => fun
  | [d1, d2, d3] => { results := [.lit (.bool false)], args := [d1, d2, d3] }
  | _ => none }
def OtsGoesOnWrongFalsely : Prop := otsGoesOnRow.holds Try.pinned (OpenSpec.ofChange otsGoesOnWrong)

/-- 'consistorylaw04.OtsChains': WHATEVER THE INPUT: true; the input reads as it did. -/
def otsChainsSpec : ChangeSpec := { name := "otsChains", fn := fun _ => fun
  | [d1, d2, d3] => { results := [.lit (.bool true)], args := [d1, d2, d3] }
  | _ => none }
def otsChainsRow : OpenClaim := { program := "ytmmmjlmfnonmaaa", sum := "7bfeafba28f7f0a73c328f63eb0896a13503c297fefa9e685312a73afcb16bfe", func := "consistory/consistorylaw04.OtsChains", spec := "otsChains", recurses := true, apart := false }
def OtsChainsSaid : Prop := otsChainsRow.holds Try.pinned (OpenSpec.ofChange otsChainsSpec)

/-- ITS FALSE NEIGHBOUR: 'it returns false'. Refute it at one input. -/
def otsChainsWrong : ChangeSpec := { name := "otsChains", fn := fun _ => fun
  | [d1, d2, d3] => { results := [.lit (.bool false)], args := [d1, d2, d3] }
  | _ => none }
def OtsChainsWrongFalsely : Prop := otsChainsRow.holds Try.pinned (OpenSpec.ofChange otsChainsWrong)

/-- 'consistorylaw04.OtsSigns': WHATEVER THE INPUT: true; the input reads as it did. -/
def otsSignsSpec : ChangeSpec := { name := "otsSigns", fn := fun _ => fun
  | [d1, d2] => { results := [.lit (.bool true)], args := [d1, d2] }
  | _ => none }
def otsSignsRow : OpenClaim := { program := "ytmmmjlmfnonmaaa", sum := "7bfeafba28f7f0a73c328f63eb0896a13503c297fefa9e685312a73afcb16bfe", func := "consistory/consistorylaw04.OtsSigns", spec := "otsSigns", recurses := true, apart := false }
def OtsSignsSaid : Prop := otsSignsRow.holds Try.pinned (OpenSpec.ofChange otsSignsSpec)

/-- ITS FALSE NEIGHBOUR: 'it returns false'. Refute it at one input. -/
def otsSignsWrong : ChangeSpec := { name := "otsSigns", fn := fun _ => fun
  | [d1, d2] => { results := [.lit (.bool false)], args := [d1, d2] }
  | _ => none }
def OtsSignsWrongFalsely : Prop := otsSignsRow.holds Try.pinned (OpenSpec.ofChange otsSignsWrong)

/-- 'consistorylaw04.OtsCandidate': WHATEVER THE INPUT: true; the input reads as it did. -/
def otsCandidateSpec : ChangeSpec := { name := "otsCandidate", fn := fun _ => fun
  | [d] => { results := [.lit (.bool true)], args := [d] }
  | _ => none }
def otsCandidateRow : OpenClaim := { program := "ytmmmjlmfnonmaaa", sum := "7bfeafba28f7f0a73c328f63eb0896a13503c297fefa9e685312a73afcb16bfe", func := "consistory/consistorylaw04.OtsCandidate", spec := "otsCandidate", recurses := true, apart := false }
def OtsCandidateSaid : Prop := otsCandidateRow.holds Try.pinned (OpenSpec.ofChange otsCandidateSpec)

/-- ITS FALSE NEIGHBOUR: 'it returns false'. Refute it at one input. -/
def otsCandidateWrong : ChangeSpec := { name := "otsCandidate", fn := fun _ => fun
  | [d] => { results := [.lit (.bool false)], args := [d] }
  | _ => none }
def OtsCandidateWrongFalsely : Prop := otsCandidateRow.holds Try.pinned (OpenSpec.ofChange otsCandidateWrong)

/-- 'consistorylaw04.OtsVerifies': WHATEVER THE INPUT: true; the input reads as it did. -/
def otsVerifiesSpec : ChangeSpec := { name := "otsVerifies", fn := fun _ => fun
  | [d1, d2] => { results := [.lit (.bool true)], args := [d1, d2] }
  | _ => none }
def otsVerifiesRow : OpenClaim := { program := "ytmmmjlmfnonmaaa", sum := "7bfeafba28f7f0a73c328f63eb0896a13503c297fefa9e685312a73afcb16bfe", func := "consistory/consistorylaw04.OtsVerifies", spec := "otsVerifies", recurses := true, apart := false }
def OtsVerifiesSaid : Prop := otsVerifiesRow.holds Try.pinned (OpenSpec.ofChange otsVerifiesSpec)

/-- ITS FALSE NEIGHBOUR: 'it returns false'. Refute it at one input. -/
def otsVerifiesWrong : ChangeSpec := { name := "otsVerifies", fn := fun _ => fun
  | [d1, d2] => { results := [.lit (.bool false)], args := [d1, d2] }
  | _ => none }
def OtsVerifiesWrongFalsely : Prop := otsVerifiesRow.holds Try.pinned (OpenSpec.ofChange otsVerifiesWrong)

/- THE SECOND FORM. 'bulk': how many values and letters a reading holds, each counted each time it is reached (what is shared counts as often as it is met; a slice's spare places count too). A statement '..UptoSaid' is the law's where the arguments, and the package variables that the reading takes, are together of bulk at most 1048576: NARROWER than '..Said'. Prove '..Said' where nothing that the law and all that it calls make is longer than what came in: it says more and counts as full. Else prove '..UptoSaid'. A law counts once. -/
mutual
def uptoBulk {H : Type} : DataW H → Nat
  | .lit (.string bytes) => bytes.length + 1
  | .lit _ => 1
  | .nil => 1
  | .ptr d => uptoBulk d + 1
  | .slice elems spare => uptoBulkAll elems + uptoBulkAll spare + 1
  | .agg parts => uptoBulkAll parts + 1
  | .iface _ d => uptoBulk d + 1
  | .map entries => uptoBulkEntries entries + 1
  | .held _ => 1
def uptoBulkAll {H : Type} : List (DataW H) → Nat
  | [] => 0
  | d :: r => uptoBulk d + uptoBulkAll r
def uptoBulkEntries {H : Type} : List (Lit × DataW H) → Nat
  | [] => 0
  | x :: r => uptoBulkEntry x + uptoBulkEntries r
def uptoBulkEntry {H : Type} : Lit × DataW H → Nat
  | (.string bytes, d) => bytes.length + uptoBulk d + 1
  | (_, d) => uptoBulk d + 1
 end
def uptoSmall : (H : Type) → List (DataW H) → Bool := fun _ ds => decide (uptoBulkAll ds ≤ 1048576)
def OpenSpec.upto (s : _root_.Go.ChangeSpec) : _root_.Go.OpenSpec := { _root_.Go.OpenSpec.ofChange s with cond := some uptoSmall }

/-- 'consistorylaw04.OtsPublic', WHERE WHAT IT READS IS OF BULK AT MOST 1048576: true; the input reads as it did. -/
def otsPublicUptoRow : OpenClaim := { program := "ytmmmjlmfnonmaaa", sum := "7bfeafba28f7f0a73c328f63eb0896a13503c297fefa9e685312a73afcb16bfe", func := "consistory/consistorylaw04.OtsPublic", spec := "otsPublic", recurses := true, apart := false, narrowed := true }
def OtsPublicUptoSaid : Prop := otsPublicUptoRow.holds Try.pinned (OpenSpec.upto otsPublicSpec)

/-- 'consistorylaw04.OtsGoesOn', WHERE WHAT IT READS IS OF BULK AT MOST 1048576: true; the input reads as it did. -/
def otsGoesOnUptoRow : OpenClaim := { program := "ytmmmjlmfnonmaaa", sum := "7bfeafba28f7f0a73c328f63eb0896a13503c297fefa9e685312a73afcb16bfe", func := "consistory/consistorylaw04.OtsGoesOn", spec := "otsGoesOn", recurses := true, apart := false, narrowed := true }
def OtsGoesOnUptoSaid : Prop := otsGoesOnUptoRow.holds Try.pinned (OpenSpec.upto otsGoesOnSpec)

/-- 'consistorylaw04.OtsChains', WHERE WHAT IT READS IS OF BULK AT MOST 1048576: true; the input reads as it did. -/
def otsChainsUptoRow : OpenClaim := { program := "ytmmmjlmfnonmaaa", sum := "7bfeafba28f7f0a73c328f63eb0896a13503c297fefa9e685312a73afcb16bfe", func := "consistory/consistorylaw04.OtsChains", spec := "otsChains", recurses := true, apart := false, narrowed := true }
def OtsChainsUptoSaid : Prop := otsChainsUptoRow.holds Try.pinned (OpenSpec.upto otsChainsSpec)

/-- 'consistorylaw04.OtsSigns', WHERE WHAT IT READS IS OF BULK AT MOST 1048576: true; the input reads as it did. -/
def otsSignsUptoRow : OpenClaim := { program := "ytmmmjlmfnonmaaa", sum := "7bfeafba28f7f0a73c328f63eb0896a13503c297fefa9e685312a73afcb16bfe", func := "consistory/consistorylaw04.OtsSigns", spec := "otsSigns", recurses := true, apart := false, narrowed := true }
def OtsSignsUptoSaid : Prop := otsSignsUptoRow.holds Try.pinned (OpenSpec.upto otsSignsSpec)

/-- 'consistorylaw04.OtsCandidate', WHERE WHAT IT READS IS OF BULK AT MOST 1048576: true; the input reads as it did. -/
def otsCandidateUptoRow : OpenClaim := { program := "ytmmmjlmfnonmaaa", sum := "7bfeafba28f7f0a73c328f63eb0896a13503c297fefa9e685312a73afcb16bfe", func := "consistory/consistorylaw04.OtsCandidate", spec := "otsCandidate", recurses := true, apart := false, narrowed := true }
def OtsCandidateUptoSaid : Prop := otsCandidateUptoRow.holds Try.pinned (OpenSpec.upto otsCandidateSpec)

/-- 'consistorylaw04.OtsVerifies', WHERE WHAT IT READS IS OF BULK AT MOST 1048576: true; the input reads as it did. -/
def otsVerifiesUptoRow : OpenClaim := { program := "ytmmmjlmfnonmaaa", sum := "7bfeafba28f7f0a73c328f63eb0896a13503c297fefa9e685312a73afcb16bfe", func := "consistory/consistorylaw04.OtsVerifies", spec := "otsVerifies", recurses := true, apart := false, narrowed := true }
def OtsVerifiesUptoSaid : Prop := otsVerifiesUptoRow.holds Try.pinned (OpenSpec.upto otsVerifiesSpec)

end Rows
end Go.Proofs.Ytmmmjlmfnonmaaa

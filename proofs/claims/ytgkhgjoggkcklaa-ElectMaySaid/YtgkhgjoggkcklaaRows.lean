/-
  No cell of these rows narrows 'for every input' (looked for: loops, veiled, ifaces, maps, wideKeys, modest, calm, conditions, laid).
  DERIVED. THE GIVEN ROWS OF THIS SEAT. 6 by the template 'for every input the law returns true; each argument reads behind the call as it read before'; 0 by the template 'total and deterministic' (their statements: YtgkhgjoggkcklaaTotals.lean).
  GIVEN WITH THE SEED: the statements are not yours to turn. If you find one false, say at which input.
  Laid BY PROGRAM, IN A SANDBOX (cutbox-rows.mjs): the forced cells as the released guide's own fill.sh prints them over the translation 15bfd5c667683949… (all of the seat's roots in one cut). By AI agents, Wed Nov 11 2026. No macro, syntax, notation, axiom, sorry.
-/
import Derived.Test.YtgkhgjoggkcklaaChecked
import GoSem.Claim
import GoSem.ClaimJoined
import GoSem.ClaimMapViews
import Derived.JoinedTies
import Derived.KernelRfl
namespace Go.Proofs.Ytgkhgjoggkcklaa
/- THE CELL 'sum', in the pinned program and in every row, IS THE sha256 OF THE DUMP (.gsa) THAT YtgkhgjoggkcklaaProg.lean LOADS. Nothing in Lean hashes anything: it is a label: what it is worth is what the hold of that sum in a sandbox is worth. -/
noncomputable def Try.pinned : Pinned := { name := "ytgkhgjoggkcklaa", sum := "15bfd5c66768394917df927afeff938971c712ee5f87a89474ecba5f79d22f45", checked := Try.checked }
namespace Rows
def none {H : Type} : Left H := { results := [], args := [] }

/-- 'consistorylaw24.ElectMoves': WHATEVER THE INPUT: true; the input reads as it did. -/
def electMovesSpec : ChangeSpec := { name := "electMoves", fn := fun _ => fun
  | [d1, d2, d3] => { results := [.lit (.bool true)], args := [d1, d2, d3] }
  | _ => none }
def electMovesRow : OpenClaim := { program := "ytgkhgjoggkcklaa", sum := "15bfd5c66768394917df927afeff938971c712ee5f87a89474ecba5f79d22f45", func := "consistory/consistorylaw24.ElectMoves", spec := "electMoves", unfollowed := true, recurses := true, apart := false }
def ElectMovesSaid : Prop := electMovesRow.holds Try.pinned (OpenSpec.ofChange electMovesSpec)

/-- ITS FALSE NEIGHBOUR: 'it returns false'. Refute it at one input. -/
def electMovesWrong : ChangeSpec := { name := "electMoves", fn := fun _ => fun
  | [d1, d2, d3] => { results := [.lit (.bool false)], args := [d1, d2, d3] }
  | _ => none }
def ElectMovesWrongFalsely : Prop := electMovesRow.holds Try.pinned (OpenSpec.ofChange electMovesWrong)

/-- 'consistorylaw24.ElectNth': WHATEVER THE INPUT: true; the input reads as it did. -/
def electNthSpec : ChangeSpec := { name := "electNth", fn := fun _ => fun
  | [d1, d2] => { results := [.lit (.bool true)], args := [d1, d2] }
  | _ => none }
def electNthRow : OpenClaim := { program := "ytgkhgjoggkcklaa", sum := "15bfd5c66768394917df927afeff938971c712ee5f87a89474ecba5f79d22f45", func := "consistory/consistorylaw24.ElectNth", spec := "electNth", unfollowed := true, recurses := true, apart := false }
def ElectNthSaid : Prop := electNthRow.holds Try.pinned (OpenSpec.ofChange electNthSpec)

/-- ITS FALSE NEIGHBOUR: 'it returns false'. Refute it at one input. -/
def electNthWrong : ChangeSpec := { name := "electNth", fn := fun _ => fun
  | [d1, d2] => { results := [.lit (.bool false)], args := [d1, d2] }
  | _ => none }
def ElectNthWrongFalsely : Prop := electNthRow.holds Try.pinned (OpenSpec.ofChange electNthWrong)

/-- 'consistorylaw24.ElectTurns': WHATEVER THE INPUT: true; the input reads as it did. -/
def electTurnsSpec : ChangeSpec := { name := "electTurns", fn := fun _ => fun
  | [d1, d2, d3] => { results := [.lit (.bool true)], args := [d1, d2, d3] }
  | _ => none }
def electTurnsRow : OpenClaim := { program := "ytgkhgjoggkcklaa", sum := "15bfd5c66768394917df927afeff938971c712ee5f87a89474ecba5f79d22f45", func := "consistory/consistorylaw24.ElectTurns", spec := "electTurns", unfollowed := true, recurses := true, apart := false }
def ElectTurnsSaid : Prop := electTurnsRow.holds Try.pinned (OpenSpec.ofChange electTurnsSpec)

/-- ITS FALSE NEIGHBOUR: 'it returns false'. Refute it at one input. -/
def electTurnsWrong : ChangeSpec := { name := "electTurns", fn := fun _ => fun
  | [d1, d2, d3] => { results := [.lit (.bool false)], args := [d1, d2, d3] }
  | _ => none }
def ElectTurnsWrongFalsely : Prop := electTurnsRow.holds Try.pinned (OpenSpec.ofChange electTurnsWrong)

/-- 'consistorylaw24.ElectRises': WHATEVER THE INPUT: true; the input reads as it did. -/
def electRisesSpec : ChangeSpec := { name := "electRises", fn := fun _ => fun
  | [d1, d2, d3] => { results := [.lit (.bool true)], args := [d1, d2, d3] }
  | _ => none }
def electRisesRow : OpenClaim := { program := "ytgkhgjoggkcklaa", sum := "15bfd5c66768394917df927afeff938971c712ee5f87a89474ecba5f79d22f45", func := "consistory/consistorylaw24.ElectRises", spec := "electRises", unfollowed := true, recurses := true, apart := false }
def ElectRisesSaid : Prop := electRisesRow.holds Try.pinned (OpenSpec.ofChange electRisesSpec)

/-- ITS FALSE NEIGHBOUR: 'it returns false'. Refute it at one input. -/
def electRisesWrong : ChangeSpec := { name := "electRises", fn := fun _ => fun
  | [d1, d2, d3] => { results := [.lit (.bool false)], args := [d1, d2, d3] }
  | _ => none }
def ElectRisesWrongFalsely : Prop := electRisesRow.holds Try.pinned (OpenSpec.ofChange electRisesWrong)

/-- 'consistorylaw24.ElectWaits': WHATEVER THE INPUT: true; the input reads as it did. -/
def electWaitsSpec : ChangeSpec := { name := "electWaits", fn := fun _ => fun
  | [d1, d2, d3] => { results := [.lit (.bool true)], args := [d1, d2, d3] }
  | _ => none }
def electWaitsRow : OpenClaim := { program := "ytgkhgjoggkcklaa", sum := "15bfd5c66768394917df927afeff938971c712ee5f87a89474ecba5f79d22f45", func := "consistory/consistorylaw24.ElectWaits", spec := "electWaits", unfollowed := true, recurses := true, apart := false }
def ElectWaitsSaid : Prop := electWaitsRow.holds Try.pinned (OpenSpec.ofChange electWaitsSpec)

/-- ITS FALSE NEIGHBOUR: 'it returns false'. Refute it at one input. -/
def electWaitsWrong : ChangeSpec := { name := "electWaits", fn := fun _ => fun
  | [d1, d2, d3] => { results := [.lit (.bool false)], args := [d1, d2, d3] }
  | _ => none }
def ElectWaitsWrongFalsely : Prop := electWaitsRow.holds Try.pinned (OpenSpec.ofChange electWaitsWrong)

/-- 'consistorylaw24.ElectMay': WHATEVER THE INPUT: true; the input reads as it did. -/
def electMaySpec : ChangeSpec := { name := "electMay", fn := fun _ => fun
  | [d1, d2, d3] => { results := [.lit (.bool true)], args := [d1, d2, d3] }
  | _ => none }
def electMayRow : OpenClaim := { program := "ytgkhgjoggkcklaa", sum := "15bfd5c66768394917df927afeff938971c712ee5f87a89474ecba5f79d22f45", func := "consistory/consistorylaw24.ElectMay", spec := "electMay", unfollowed := true, recurses := true, apart := false }
def ElectMaySaid : Prop := electMayRow.holds Try.pinned (OpenSpec.ofChange electMaySpec)

/-- ITS FALSE NEIGHBOUR: 'it returns false'. Refute it at one input. -/
def electMayWrong : ChangeSpec := { name := "electMay", fn := fun _ => fun
  | [d1, d2, d3] => { results := [.lit (.bool false)], args := [d1, d2, d3] }
  | _ => none }
def ElectMayWrongFalsely : Prop := electMayRow.holds Try.pinned (OpenSpec.ofChange electMayWrong)

/- THE SECOND FORM. 'bulk': how many values and letters a reading holds, each counted each time it is reached (what is shared counts as often as it is met; a slice's spare places count too). A statement '..UptoSaid' is the law's where the arguments, and the package variables that the reading takes, are together of bulk at most 1048576: NARROWER than '..Said'. Prove '..Said' where nothing that the law and all that it calls make is longer than what came in: it says more and counts as full. Else prove '..UptoSaid'. A law counts once. -/
mutual
def uptoBulk {H : Type} : DataW H → Nat
  | .lit (.string bytes) => bytes.length + 1
  | .lit _ => 1
  | .nil => 1
  | .ptr d => uptoBulk d + 1
  | .slice elems spare => uptoBulkAll elems + uptoBulkAll spare + 1
  | .agg parts => uptoBulkAll parts + 1
  | .iface _ d => uptoBulk d + 1
  | .map entries => uptoBulkEntries entries + 1
  | .held _ => 1
def uptoBulkAll {H : Type} : List (DataW H) → Nat
  | [] => 0
  | d :: r => uptoBulk d + uptoBulkAll r
def uptoBulkEntries {H : Type} : List (Lit × DataW H) → Nat
  | [] => 0
  | x :: r => uptoBulkEntry x + uptoBulkEntries r
def uptoBulkEntry {H : Type} : Lit × DataW H → Nat
  | (.string bytes, d) => bytes.length + uptoBulk d + 1
  | (_, d) => uptoBulk d + 1
 end
def uptoSmall : (H : Type) → List (DataW H) → Bool := fun _ ds => decide (uptoBulkAll ds ≤ 1048576)
def OpenSpec.upto (s : _root_.Go.ChangeSpec) : _root_.Go.OpenSpec := { _root_.Go.OpenSpec.ofChange s with cond := some uptoSmall }

/-- 'consistorylaw24.ElectMoves', WHERE WHAT IT READS IS OF BULK AT MOST 1048576: true; the input reads as it did. -/
def electMovesUptoRow : OpenClaim := { program := "ytgkhgjoggkcklaa", sum := "15bfd5c66768394917df927afeff938971c712ee5f87a89474ecba5f79d22f45", func := "consistory/consistorylaw24.ElectMoves", spec := "electMoves", unfollowed := true, recurses := true, apart := false, narrowed := true }
def ElectMovesUptoSaid : Prop := electMovesUptoRow.holds Try.pinned (OpenSpec.upto electMovesSpec)

/-- 'consistorylaw24.ElectNth', WHERE WHAT IT READS IS OF BULK AT MOST 1048576: true; the input reads as it did. -/
def electNthUptoRow : OpenClaim := { program := "ytgkhgjoggkcklaa", sum := "15bfd5c66768394917df927afeff938971c712ee5f87a89474ecba5f79d22f45", func := "consistory/consistorylaw24.ElectNth", spec := "electNth", unfollowed := true, recurses := true, apart := false, narrowed := true }
def ElectNthUptoSaid : Prop := electNthUptoRow.holds Try.pinned (OpenSpec.upto electNthSpec)

/-- 'consistorylaw24.ElectTurns', WHERE WHAT IT READS IS OF BULK AT MOST 1048576: true; the input reads as it did. -/
def electTurnsUptoRow : OpenClaim := { program := "ytgkhgjoggkcklaa", sum := "15bfd5c66768394917df927afeff938971c712ee5f87a89474ecba5f79d22f45", func := "consistory/consistorylaw24.ElectTurns", spec := "electTurns", unfollowed := true, recurses := true, apart := false, narrowed := true }
def ElectTurnsUptoSaid : Prop := electTurnsUptoRow.holds Try.pinned (OpenSpec.upto electTurnsSpec)

/-- 'consistorylaw24.ElectRises', WHERE WHAT IT READS IS OF BULK AT MOST 1048576: true; the input reads as it did. -/
def electRisesUptoRow : OpenClaim := { program := "ytgkhgjoggkcklaa", sum := "15bfd5c66768394917df927afeff938971c712ee5f87a89474ecba5f79d22f45", func := "consistory/consistorylaw24.ElectRises", spec := "electRises", unfollowed := true, recurses := true, apart := false, narrowed := true }
def ElectRisesUptoSaid : Prop := electRisesUptoRow.holds Try.pinned (OpenSpec.upto electRisesSpec)

/-- 'consistorylaw24.ElectWaits', WHERE WHAT IT READS IS OF BULK AT MOST 1048576: true; the input reads as it did. -/
def electWaitsUptoRow : OpenClaim := { program := "ytgkhgjoggkcklaa", sum := "15bfd5c66768394917df927afeff938971c712ee5f87a89474ecba5f79d22f45", func := "consistory/consistorylaw24.ElectWaits", spec := "electWaits", unfollowed := true, recurses := true, apart := false, narrowed := true }
def ElectWaitsUptoSaid : Prop := electWaitsUptoRow.holds Try.pinned (OpenSpec.upto electWaitsSpec)

/-- 'consistorylaw24.ElectMay', WHERE WHAT IT READS IS OF BULK AT MOST 1048576: true; the input reads as it did. -/
def electMayUptoRow : OpenClaim := { program := "ytgkhgjoggkcklaa", sum := "15bfd5c66768394917df927afeff938971c712ee5f87a89474ecba5f79d22f45", func := "consistory/consistorylaw24.ElectMay", spec := "electMay", unfollowed := true, recurses := true, apart := false, narrowed := true }
def ElectMayUptoSaid : Prop := electMayUptoRow.holds Try.pinned (OpenSpec.upto electMaySpec)

end Rows
end Go.Proofs.Ytgkhgjoggkcklaa

/-
  No cell of these rows narrows 'for every input' (looked for: loops, veiled, ifaces, maps, wideKeys, modest, calm, conditions, laid).
  DERIVED. THE GIVEN ROWS OF THIS SEAT. 2 by the template 'for every input the law returns true; each argument reads behind the call as it read before'; 0 by the template 'total and deterministic' (their statements: YtcnelahmbfggcaaGreatTotals.lean).
  GIVEN WITH THE SEED: the statements are not yours to turn. If you find one false, say at which input.
  Laid BY PROGRAM, IN A SANDBOX (cutbox-rows.mjs): the forced cells as the released guide's own fill.sh prints them over the translation 4dd4b9f327b2184d… (all of the seat's roots in one cut). By AI agents, Wed Nov 11 2026. No macro, syntax, notation, axiom, sorry.
-/
import Derived.Test.YtcnelahmbfggcaaGreatChecked
import GoSem.Claim
import GoSem.ClaimJoined
import GoSem.ClaimMapViews
import Derived.JoinedTies
import Derived.KernelRfl
namespace Go.Proofs.YtcnelahmbfggcaaGreat
/- THE CELL 'sum', in the pinned program and in every row, IS THE sha256 OF THE DUMP (.gsa) THAT YtcnelahmbfggcaaGreatProg.lean LOADS. Nothing in Lean hashes anything: it is a label: what it is worth is what the hold of that sum in a sandbox is worth. -/
noncomputable def Tryz.pinned : Pinned := { name := "ytcnelahmbfggcaagreat", sum := "4dd4b9f327b2184dbc97dd1be739cd8f24f570a25c54504157f26f1f3fe3bd38", checked := Tryz.checked }
namespace Rows
def none {H : Type} : Left H := { results := [], args := [] }

/-- 'consistorylaw06.PurseOwns': WHATEVER THE INPUT: true; the input reads as it did. -/
def purseOwnsSpec : ChangeSpec := { name := "purseOwns", fn := fun _ => fun
  | [d1, d2, d3] => { results := [.lit (.bool true)], args := [d1, d2, d3] }
  | _ => none }
def purseOwnsRow : OpenClaim := { program := "ytcnelahmbfggcaagreat", sum := "4dd4b9f327b2184dbc97dd1be739cd8f24f570a25c54504157f26f1f3fe3bd38", func := "consistory/consistorylaw06.PurseOwns", spec := "purseOwns", unfollowed := true, recurses := true, apart := false }
def PurseOwnsSaid : Prop := purseOwnsRow.holds Tryz.pinned (OpenSpec.ofChange purseOwnsSpec)

/-- ITS FALSE NEIGHBOUR: 'it returns false'. Refute it at one input. -/
def purseOwnsWrong : ChangeSpec := { name := "purseOwns", fn := fun _ => fun
  | [d1, d2, d3] => { results := [.lit (.bool false)], args := [d1, d2, d3] }
  | _ => none }
def PurseOwnsWrongFalsely : Prop := purseOwnsRow.holds Tryz.pinned (OpenSpec.ofChange purseOwnsWrong)

/-- 'consistorylaw06.PurseSigns': WHATEVER THE INPUT: true; the input reads as it did. -/
def purseSignsSpec : ChangeSpec := { name := "purseSigns", fn := fun _ => fun
  | [d1, d2, d3] => { results := [.lit (.bool true)], args := [d1, d2, d3] }
  | _ => none }
def purseSignsRow : OpenClaim := { program := "ytcnelahmbfggcaagreat", sum := "4dd4b9f327b2184dbc97dd1be739cd8f24f570a25c54504157f26f1f3fe3bd38", func := "consistory/consistorylaw06.PurseSigns", spec := "purseSigns", unfollowed := true, recurses := true, apart := false }
def PurseSignsSaid : Prop := purseSignsRow.holds Tryz.pinned (OpenSpec.ofChange purseSignsSpec)

/-- ITS FALSE NEIGHBOUR: 'it returns false'. Refute it at one input. -/
def purseSignsWrong : ChangeSpec := { name := "purseSigns", fn := fun _ => fun
  | [d1, d2, d3] => { results := [.lit (.bool false)], args := [d1, d2, d3] }
  | _ => none }
def PurseSignsWrongFalsely : Prop := purseSignsRow.holds Tryz.pinned (OpenSpec.ofChange purseSignsWrong)

/- THE SECOND FORM. 'bulk': how many values and letters a reading holds, each counted each time it is reached (what is shared counts as often as it is met; a slice's spare places count too). A statement '..UptoSaid' is the law's where the arguments, and the package variables that the reading takes, are together of bulk at most 1048576: NARROWER than '..Said'. Prove '..Said' where nothing that the law and all that it calls make is longer than what came in: it says more and counts as full. Else prove '..UptoSaid'. A law counts once. -/
mutual
def uptoBulk {H : Type} : DataW H → Nat
  | .lit (.string bytes) => bytes.length + 1
  | .lit _ => 1
  | .nil => 1
  | .ptr d => uptoBulk d + 1
  | .slice elems spare => uptoBulkAll elems + uptoBulkAll spare + 1
  | .agg parts => uptoBulkAll parts + 1
  | .iface _ d => uptoBulk d + 1
  | .map entries => uptoBulkEntries entries + 1
  | .held _ => 1
def uptoBulkAll {H : Type} : List (DataW H) → Nat
  | [] => 0
  | d :: r => uptoBulk d + uptoBulkAll r
def uptoBulkEntries {H : Type} : List (Lit × DataW H) → Nat
  | [] => 0
  | x :: r => uptoBulkEntry x + uptoBulkEntries r
def uptoBulkEntry {H : Type} : Lit × DataW H → Nat
  | (.string bytes, d) => bytes.length + uptoBulk d + 1
  | (_, d) => uptoBulk d + 1
 end
def uptoSmall : (H : Type) → List (DataW H) → Bool := fun _ ds => decide (uptoBulkAll ds ≤ 1048576)
def OpenSpec.upto (s : _root_.Go.ChangeSpec) : _root_.Go.OpenSpec := { _root_.Go.OpenSpec.ofChange s with cond := some uptoSmall }

/-- 'consistorylaw06.PurseOwns', WHERE WHAT IT READS IS OF BULK AT MOST 1048576: true; the input reads as it did. -/
def purseOwnsUptoRow : OpenClaim := { program := "ytcnelahmbfggcaagreat", sum := "4dd4b9f327b2184dbc97dd1be739cd8f24f570a25c54504157f26f1f3fe3bd38", func := "consistory/consistorylaw06.PurseOwns", spec := "purseOwns", unfollowed := true, recurses := true, apart := false, narrowed := true }
def PurseOwnsUptoSaid : Prop := purseOwnsUptoRow.holds Tryz.pinned (OpenSpec.upto purseOwnsSpec)

/-- 'consistorylaw06.PurseSigns', WHERE WHAT IT READS IS OF BULK AT MOST 1048576: true; the input reads as it did. -/
def purseSignsUptoRow : OpenClaim := { program := "ytcnelahmbfggcaagreat", sum := "4dd4b9f327b2184dbc97dd1be739cd8f24f570a25c54504157f26f1f3fe3bd38", func := "consistory/consistorylaw06.PurseSigns", spec := "purseSigns", unfollowed := true, recurses := true, apart := false, narrowed := true }
def PurseSignsUptoSaid : Prop := purseSignsUptoRow.holds Tryz.pinned (OpenSpec.upto purseSignsSpec)

end Rows
end Go.Proofs.YtcnelahmbfggcaaGreat

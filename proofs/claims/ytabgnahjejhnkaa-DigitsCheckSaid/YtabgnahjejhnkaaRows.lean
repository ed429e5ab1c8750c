/-
  No cell of these rows narrows 'for every input' (looked for: loops, veiled, ifaces, maps, wideKeys, modest, calm, conditions, laid).
  DERIVED. THE GIVEN ROWS OF THIS SEAT. 11 by the template 'for every input the law returns true; each argument reads behind the call as it read before'; 0 by the template 'total and deterministic' (their statements: YtabgnahjejhnkaaTotals.lean).
  GIVEN WITH THE SEED: the statements are not yours to turn. If you find one false, say at which input.
  Laid BY PROGRAM, IN A SANDBOX (cutbox-rows.mjs): the forced cells as the released guide's own fill.sh prints them over the translation 11db13e57f237e17… (all of the seat's roots in one cut). By AI agents, Wed Nov 11 2026. No macro, syntax, notation, axiom, sorry.
-/
import Derived.Test.YtabgnahjejhnkaaChecked
import GoSem.Claim
import GoSem.ClaimJoined
import GoSem.ClaimMapViews
import Derived.JoinedTies
import Derived.KernelRfl
namespace Go.Proofs.Ytabgnahjejhnkaa
/- THE CELL 'sum', in the pinned program and in every row, IS THE sha256 OF THE DUMP (.gsa) THAT YtabgnahjejhnkaaProg.lean LOADS. Nothing in Lean hashes anything: it is a label: what it is worth is what the hold of that sum in a sandbox is worth. -/
noncomputable def Try.pinned : Pinned := { name := "ytabgnahjejhnkaa", sum := "11db13e57f237e177c7df39460ef148deba47358c32f24153adafb22d48e18c1", checked := Try.checked }
namespace Rows
def none {H : Type} : Left H := { results := [], args := [] }

/-- 'consistorylaw03.DigitsTells': WHATEVER THE INPUT: true; the input reads as it did. -/
def digitsTellsSpec : ChangeSpec := { name := "digitsTells", fn := fun _ => fun
  | [d1, d2, d3] => { results := [.lit (.bool true)], args := [d1, d2, d3] }
  | _ => none }
def digitsTellsRow : OpenClaim := { program := "ytabgnahjejhnkaa", sum := "11db13e57f237e177c7df39460ef148deba47358c32f24153adafb22d48e18c1", func := "consistory/consistorylaw03.DigitsTells", spec := "digitsTells", apart := false }
def DigitsTellsSaid : Prop := digitsTellsRow.holds Try.pinned (OpenSpec.ofChange digitsTellsSpec)

/-- ITS FALSE NEIGHBOUR: 'it returns false'. Refute it at one input. -/
def digitsTellsWrong : ChangeSpec := { name := "digitsTells", fn := fun _ => fun
  | [d1, d2, d3] => { results := [.lit (.bool false)], args := [d1, d2, d3] }
  | _ => none }
def DigitsTellsWrongFalsely : Prop := digitsTellsRow.holds Try.pinned (OpenSpec.ofChange digitsTellsWrong)

/-- 'consistorylaw03.DigitsBytes': WHATEVER THE INPUT: true; the input reads as it did. -/
def digitsBytesSpec : ChangeSpec := { name := "digitsBytes", fn := fun _ => fun
  | [d1, d2] => { results := [.lit (.bool true)], args := [d1, d2] }
  | _ => none }
def digitsBytesRow : OpenClaim := { program := "ytabgnahjejhnkaa", sum := "11db13e57f237e177c7df39460ef148deba47358c32f24153adafb22d48e18c1", func := "consistory/consistorylaw03.DigitsBytes", spec := "digitsBytes", apart := false }
def DigitsBytesSaid : Prop := digitsBytesRow.holds Try.pinned (OpenSpec.ofChange digitsBytesSpec)

/-- ITS FALSE NEIGHBOUR: 'it returns false'. Refute it at one input. -/
def digitsBytesWrong : ChangeSpec := { name := "digitsBytes", fn := fun _ => fun
  | [d1, d2] => { results := [.lit (.bool false)], args := [d1, d2] }
  | _ => none }
def DigitsBytesWrongFalsely : Prop := digitsBytesRow.holds Try.pinned (OpenSpec.ofChange digitsBytesWrong)

/-- 'consistorylaw02.ShaSums': WHATEVER THE INPUT: true; the input reads as it did. -/
def shaSumsSpec : ChangeSpec := { name := "shaSums", fn := fun _ => fun
  | [d] => { results := [.lit (.bool true)], args := [d] }
  | _ => none }
def shaSumsRow : OpenClaim := { program := "ytabgnahjejhnkaa", sum := "11db13e57f237e177c7df39460ef148deba47358c32f24153adafb22d48e18c1", func := "consistory/consistorylaw02.ShaSums", spec := "shaSums", recurses := true, apart := false }
def ShaSumsSaid : Prop := shaSumsRow.holds Try.pinned (OpenSpec.ofChange shaSumsSpec)

/-- ITS FALSE NEIGHBOUR: 'it returns false'. Refute it at one input. -/
def shaSumsWrong : ChangeSpec := { name := "shaSums", fn := fun _ => fun
  | [d] => { results := [.lit (.bool false)], args := [d] }
  | _ => none }
def ShaSumsWrongFalsely : Prop := shaSumsRow.holds Try.pinned (OpenSpec.ofChange shaSumsWrong)

/-- 'consistorylaw02.ShaRounds': WHATEVER THE INPUT: true; the input reads as it did. -/
def shaRoundsSpec : ChangeSpec := { name := "shaRounds", fn := fun _ => fun
  | [d] => { results := [.lit (.bool true)], args := [d] }
  | _ => none }
def shaRoundsRow : OpenClaim := { program := "ytabgnahjejhnkaa", sum := "11db13e57f237e177c7df39460ef148deba47358c32f24153adafb22d48e18c1", func := "consistory/consistorylaw02.ShaRounds", spec := "shaRounds", recurses := true, apart := false }
def ShaRoundsSaid : Prop := shaRoundsRow.holds Try.pinned (OpenSpec.ofChange shaRoundsSpec)

/-- ITS FALSE NEIGHBOUR: 'it returns false'. Refute it at one input. -/
def shaRoundsWrong : ChangeSpec := { name := "shaRounds", fn := fun _ => fun
  | [d] => { results := [.lit (.bool false)], args := [d] }
  | _ => none }
def ShaRoundsWrongFalsely : Prop := shaRoundsRow.holds Try.pinned (OpenSpec.ofChange shaRoundsWrong)

/-- 'consistorylaw02.ShaPieces': WHATEVER THE INPUT: true; the input reads as it did. -/
def shaPiecesSpec : ChangeSpec := { name := "shaPieces", fn := fun _ => fun
  | [d] => { results := [.lit (.bool true)], args := [d] }
  | _ => none }
def shaPiecesRow : OpenClaim := { program := "ytabgnahjejhnkaa", sum := "11db13e57f237e177c7df39460ef148deba47358c32f24153adafb22d48e18c1", func := "consistory/consistorylaw02.ShaPieces", spec := "shaPieces", recurses := true, apart := false }
def ShaPiecesSaid : Prop := shaPiecesRow.holds Try.pinned (OpenSpec.ofChange shaPiecesSpec)

/-- ITS FALSE NEIGHBOUR: 'it returns false'. Refute it at one input. -/
def shaPiecesWrong : ChangeSpec := { name := "shaPieces", fn := fun _ => fun
  | [d] => { results := [.lit (.bool false)], args := [d] }
  | _ => none }
def ShaPiecesWrongFalsely : Prop := shaPiecesRow.holds Try.pinned (OpenSpec.ofChange shaPiecesWrong)

/-- 'consistorylaw02.ShaNil': WHATEVER THE INPUT: true; the input reads as it did. -/
def shaNilSpec : ChangeSpec := { name := "shaNil", fn := fun _ => fun
  | [d] => { results := [.lit (.bool true)], args := [d] }
  | _ => none }
def shaNilRow : OpenClaim := { program := "ytabgnahjejhnkaa", sum := "11db13e57f237e177c7df39460ef148deba47358c32f24153adafb22d48e18c1", func := "consistory/consistorylaw02.ShaNil", spec := "shaNil", recurses := true, apart := false }
def ShaNilSaid : Prop := shaNilRow.holds Try.pinned (OpenSpec.ofChange shaNilSpec)

/-- ITS FALSE NEIGHBOUR: 'it returns false'. Refute it at one input. -/
def shaNilWrong : ChangeSpec := { name := "shaNil", fn := fun _ => fun
  | [d] => { results := [.lit (.bool false)], args := [d] }
  | _ => none }
def ShaNilWrongFalsely : Prop := shaNilRow.holds Try.pinned (OpenSpec.ofChange shaNilWrong)

/-- 'consistorylaw02.ShaBlocks': WHATEVER THE INPUT: true; the input reads as it did. -/
def shaBlocksSpec : ChangeSpec := { name := "shaBlocks", fn := fun _ => fun
  | [d1, d2, d3] => { results := [.lit (.bool true)], args := [d1, d2, d3] }
  | _ => none }
def shaBlocksRow : OpenClaim := { program := "ytabgnahjejhnkaa", sum := "11db13e57f237e177c7df39460ef148deba47358c32f24153adafb22d48e18c1", func := "consistory/consistorylaw02.ShaBlocks", spec := "shaBlocks", recurses := true, apart := false }
def ShaBlocksSaid : Prop := shaBlocksRow.holds Try.pinned (OpenSpec.ofChange shaBlocksSpec)

/-- ITS FALSE NEIGHBOUR: 'it returns false'. Refute it at one input. -/
def shaBlocksWrong : ChangeSpec := { name := "shaBlocks", fn := fun _ => fun
  | [d1, d2, d3] => { results := [.lit (.bool false)], args := [d1, d2, d3] }
  | _ => none }
def ShaBlocksWrongFalsely : Prop := shaBlocksRow.holds Try.pinned (OpenSpec.ofChange shaBlocksWrong)

/-- 'consistorylaw02.ShaChains': WHATEVER THE INPUT: true; the input reads as it did. -/
def shaChainsSpec : ChangeSpec := { name := "shaChains", fn := fun _ => fun
  | [d] => { results := [.lit (.bool true)], args := [d] }
  | _ => none }
def shaChainsRow : OpenClaim := { program := "ytabgnahjejhnkaa", sum := "11db13e57f237e177c7df39460ef148deba47358c32f24153adafb22d48e18c1", func := "consistory/consistorylaw02.ShaChains", spec := "shaChains", recurses := true, apart := false }
def ShaChainsSaid : Prop := shaChainsRow.holds Try.pinned (OpenSpec.ofChange shaChainsSpec)

/-- ITS FALSE NEIGHBOUR: 'it returns false'. Refute it at one input. -/
def shaChainsWrong : ChangeSpec := { name := "shaChains", fn := fun _ => fun
  | [d] => { results := [.lit (.bool false)], args := [d] }
  | _ => none }
def ShaChainsWrongFalsely : Prop := shaChainsRow.holds Try.pinned (OpenSpec.ofChange shaChainsWrong)

/-- 'consistorylaw03.DigitsCheck': WHATEVER THE INPUT: true; the input reads as it did. -/
def digitsCheckSpec : ChangeSpec := { name := "digitsCheck", fn := fun _ => fun
  | [d1, d2, d3] => { results := [.lit (.bool true)], args := [d1, d2, d3] }
  | _ => none }
def digitsCheckRow : OpenClaim := { program := "ytabgnahjejhnkaa", sum := "11db13e57f237e177c7df39460ef148deba47358c32f24153adafb22d48e18c1", func := "consistory/consistorylaw03.DigitsCheck", spec := "digitsCheck", apart := false }
def DigitsCheckSaid : Prop := digitsCheckRow.holds Try.pinned (OpenSpec.ofChange digitsCheckSpec)

/-- ITS FALSE NEIGHBOUR: 'it returns false'. Refute it at one input. -/
def digitsCheckWrong : ChangeSpec := { name := "digitsCheck", fn := fun _ => fun
  | [d1, d2, d3] => { results := [.lit (.bool false)], args := [d1, d2, d3] }
  | _ => none }
def DigitsCheckWrongFalsely : Prop := digitsCheckRow.holds Try.pinned (OpenSpec.ofChange digitsCheckWrong)

/-- 'consistorylaw03.DigitsAll': WHATEVER THE INPUT: true; the input reads as it did. -/
def digitsAllSpec : ChangeSpec := { name := "digitsAll", fn := fun _ => fun
  | [d1, d2] => { results := [.lit (.bool true)], args := [d1, d2] }
  | _ => none }
def digitsAllRow : OpenClaim := { program := "ytabgnahjejhnkaa", sum := "11db13e57f237e177c7df39460ef148deba47358c32f24153adafb22d48e18c1", func := "consistory/consistorylaw03.DigitsAll", spec := "digitsAll", apart := false }
def DigitsAllSaid : Prop := digitsAllRow.holds Try.pinned (OpenSpec.ofChange digitsAllSpec)

/-- ITS FALSE NEIGHBOUR: 'it returns false'. Refute it at one input. -/
def digitsAllWrong : ChangeSpec := { name := "digitsAll", fn := fun _ => fun
  | [d1, d2] => { results := [.lit (.bool false)], args := [d1, d2] }
  | _ => none }
def DigitsAllWrongFalsely : Prop := digitsAllRow.holds Try.pinned (OpenSpec.ofChange digitsAllWrong)

/-- 'consistorylaw03.DigitsCounts': WHATEVER THE INPUT: true; the input reads as it did. -/
def digitsCountsSpec : ChangeSpec := { name := "digitsCounts", fn := fun _ => fun
  | [d1, d2] => { results := [.lit (.bool true)], args := [d1, d2] }
  | _ => none }
def digitsCountsRow : OpenClaim := { program := "ytabgnahjejhnkaa", sum := "11db13e57f237e177c7df39460ef148deba47358c32f24153adafb22d48e18c1", func := "consistory/consistorylaw03.DigitsCounts", spec := "digitsCounts", apart := false }
def DigitsCountsSaid : Prop := digitsCountsRow.holds Try.pinned (OpenSpec.ofChange digitsCountsSpec)

/-- ITS FALSE NEIGHBOUR: 'it returns false'. Refute it at one input. -/
def digitsCountsWrong : ChangeSpec := { name := "digitsCounts", fn := fun _ => fun
  | [d1, d2] => { results := [.lit (.bool false)], args := [d1, d2] }
  | _ => none }
def DigitsCountsWrongFalsely : Prop := digitsCountsRow.holds Try.pinned (OpenSpec.ofChange digitsCountsWrong)

/- THE SECOND FORM. 'bulk': how many values and letters a reading holds, each counted each time it is reached (what is shared counts as often as it is met; a slice's spare places count too). A statement '..UptoSaid' is the law's where the arguments, and the package variables that the reading takes, are together of bulk at most 1048576: NARROWER than '..Said'. Prove '..Said' where nothing that the law and all that it calls make is longer than what came in: it says more and counts as full. Else prove '..UptoSaid'. A law counts once. -/
mutual
def uptoBulk {H : Type} : DataW H → Nat
  | .lit (.string bytes) => bytes.length + 1
  | .lit _ => 1
  | .nil => 1
  | .ptr d => uptoBulk d + 1
  | .slice elems spare => uptoBulkAll elems + uptoBulkAll spare + 1
  | .agg parts => uptoBulkAll parts + 1
  | .iface _ d => uptoBulk d + 1
  | .map entries => uptoBulkEntries entries + 1
  | .held _ => 1
def uptoBulkAll {H : Type} : List (DataW H) → Nat
  | [] => 0
  | d :: r => uptoBulk d + uptoBulkAll r
def uptoBulkEntries {H : Type} : List (Lit × DataW H) → Nat
  | [] => 0
  | x :: r => uptoBulkEntry x + uptoBulkEntries r
def uptoBulkEntry {H : Type} : Lit × DataW H → Nat
  | (.string bytes, d) => bytes.length + uptoBulk d + 1
  | (_, d) => uptoBulk d + 1
 end
def uptoSmall : (H : Type) → List (DataW H) → Bool := fun _ ds => decide (uptoBulkAll ds ≤ 1048576)
def OpenSpec.upto (s : _root_.Go.ChangeSpec) : _root_.Go.OpenSpec := { _root_.Go.OpenSpec.ofChange s with cond := some uptoSmall }

/-- 'consistorylaw03.DigitsTells', WHERE WHAT IT READS IS OF BULK AT MOST 1048576: true; the input reads as it did. -/
def digitsTellsUptoRow : OpenClaim := { program := "ytabgnahjejhnkaa", sum := "11db13e57f237e177c7df39460ef148deba47358c32f24153adafb22d48e18c1", func := "consistory/consistorylaw03.DigitsTells", spec := "digitsTells", apart := false, narrowed := true }
def DigitsTellsUptoSaid : Prop := digitsTellsUptoRow.holds Try.pinned (OpenSpec.upto digitsTellsSpec)

/-- 'consistorylaw03.DigitsBytes', WHERE WHAT IT READS IS OF BULK AT MOST 1048576: true; the input reads as it did. -/
def digitsBytesUptoRow : OpenClaim := { program := "ytabgnahjejhnkaa", sum := "11db13e57f237e177c7df39460ef148deba47358c32f24153adafb22d48e18c1", func := "consistory/consistorylaw03.DigitsBytes", spec := "digitsBytes", apart := false, narrowed := true }
def DigitsBytesUptoSaid : Prop := digitsBytesUptoRow.holds Try.pinned (OpenSpec.upto digitsBytesSpec)

/-- 'consistorylaw02.ShaSums', WHERE WHAT IT READS IS OF BULK AT MOST 1048576: true; the input reads as it did. -/
def shaSumsUptoRow : OpenClaim := { program := "ytabgnahjejhnkaa", sum := "11db13e57f237e177c7df39460ef148deba47358c32f24153adafb22d48e18c1", func := "consistory/consistorylaw02.ShaSums", spec := "shaSums", recurses := true, apart := false, narrowed := true }
def ShaSumsUptoSaid : Prop := shaSumsUptoRow.holds Try.pinned (OpenSpec.upto shaSumsSpec)

/-- 'consistorylaw02.ShaRounds', WHERE WHAT IT READS IS OF BULK AT MOST 1048576: true; the input reads as it did. -/
def shaRoundsUptoRow : OpenClaim := { program := "ytabgnahjejhnkaa", sum := "11db13e57f237e177c7df39460ef148deba47358c32f24153adafb22d48e18c1", func := "consistory/consistorylaw02.ShaRounds", spec := "shaRounds", recurses := true, apart := false, narrowed := true }
def ShaRoundsUptoSaid : Prop := shaRoundsUptoRow.holds Try.pinned (OpenSpec.upto shaRoundsSpec)

/-- 'consistorylaw02.ShaPieces', WHERE WHAT IT READS IS OF BULK AT MOST 1048576: true; the input reads as it did. -/
def shaPiecesUptoRow : OpenClaim := { program := "ytabgnahjejhnkaa", sum := "11db13e57f237e177c7df39460ef148deba47358c32f24153adafb22d48e18c1", func := "consistory/consistorylaw02.ShaPieces", spec := "shaPieces", recurses := true, apart := false, narrowed := true }
def ShaPiecesUptoSaid : Prop := shaPiecesUptoRow.holds Try.pinned (OpenSpec.upto shaPiecesSpec)

/-- 'consistorylaw02.ShaNil', WHERE WHAT IT READS IS OF BULK AT MOST 1048576: true; the input reads as it did. -/
def shaNilUptoRow : OpenClaim := { program := "ytabgnahjejhnkaa", sum := "11db13e57f237e177c7df39460ef148deba47358c32f24153adafb22d48e18c1", func := "consistory/consistorylaw02.ShaNil", spec := "shaNil", recurses := true, apart := false, narrowed := true }
def ShaNilUptoSaid : Prop := shaNilUptoRow.holds Try.pinned (OpenSpec.upto shaNilSpec)

/-- 'consistorylaw02.ShaBlocks', WHERE WHAT IT READS IS OF BULK AT MOST 1048576: true; the input reads as it did. -/
def shaBlocksUptoRow : OpenClaim := { program := "ytabgnahjejhnkaa", sum := "11db13e57f237e177c7df39460ef148deba47358c32f24153adafb22d48e18c1", func := "consistory/consistorylaw02.ShaBlocks", spec := "shaBlocks", recurses := true, apart := false, narrowed := true }
def ShaBlocksUptoSaid : Prop := shaBlocksUptoRow.holds Try.pinned (OpenSpec.upto shaBlocksSpec)

/-- 'consistorylaw02.ShaChains', WHERE WHAT IT READS IS OF BULK AT MOST 1048576: true; the input reads as it did. -/
def shaChainsUptoRow : OpenClaim := { program := "ytabgnahjejhnkaa", sum := "11db13e57f237e177c7df39460ef148deba47358c32f24153adafb22d48e18c1", func := "consistory/consistorylaw02.ShaChains", spec := "shaChains", recurses := true, apart := false, narrowed := true }
def ShaChainsUptoSaid : Prop := shaChainsUptoRow.holds Try.pinned (OpenSpec.upto shaChainsSpec)

/-- 'consistorylaw03.DigitsCheck', WHERE WHAT IT READS IS OF BULK AT MOST 1048576: true; the input reads as it did. -/
def digitsCheckUptoRow : OpenClaim := { program := "ytabgnahjejhnkaa", sum := "11db13e57f237e177c7df39460ef148deba47358c32f24153adafb22d48e18c1", func := "consistory/consistorylaw03.DigitsCheck", spec := "digitsCheck", apart := false, narrowed := true }
def DigitsCheckUptoSaid : Prop := digitsCheckUptoRow.holds Try.pinned (OpenSpec.upto digitsCheckSpec)

/-- 'consistorylaw03.DigitsAll', WHERE WHAT IT READS IS OF BULK AT MOST 1048576: true; the input reads as it did. -/
def digitsAllUptoRow : OpenClaim := { program := "ytabgnahjejhnkaa", sum := "11db13e57f237e177c7df39460ef148deba47358c32f24153adafb22d48e18c1", func := "consistory/consistorylaw03.DigitsAll", spec := "digitsAll", apart := false, narrowed := true }
def DigitsAllUptoSaid : Prop := digitsAllUptoRow.holds Try.pinned (OpenSpec.upto digitsAllSpec)

/-- 'consistorylaw03.DigitsCounts', WHERE WHAT IT READS IS OF BULK AT MOST 1048576: true; the input reads as it did. -/
def digitsCountsUptoRow : OpenClaim := { program := "ytabgnahjejhnkaa", sum := "11db13e57f237e177c7df39460ef148deba47358c32f24153adafb22d48e18c1", func := "consistory/consistorylaw03.DigitsCounts", spec := "digitsCounts", apart := false, narrowed := true }
def DigitsCountsUptoSaid : Prop := digitsCountsUptoRow.holds Try.pinned (OpenSpec.upto digitsCountsSpec)

end Rows
end Go.Proofs.Ytabgnahjejhnkaa

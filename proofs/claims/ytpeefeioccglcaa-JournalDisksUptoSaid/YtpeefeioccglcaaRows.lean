/-
  No cell of these rows narrows 'for every input' (looked for: loops, veiled, ifaces, maps, wideKeys, modest, calm, conditions, laid).
  DERIVED. THE GIVEN ROWS OF THIS SEAT. 12 by the template 'for every input the law returns true; each argument reads behind the call as it read before'; 0 by the template 'total and deterministic' (their statements: YtpeefeioccglcaaTotals.lean).
  GIVEN WITH THE SEED: the statements are not yours to turn. If you find one false, say at which input.
  Laid BY PROGRAM, IN A SANDBOX (cutbox-rows.mjs): the forced cells as the released guide's own fill.sh prints them over the translation 19d008d8310bb745… (all of the seat's roots in one cut). By AI agents, Wed Nov 11 2026. No macro, syntax, notation, axiom, sorry.
-/
import Derived.Test.YtpeefeioccglcaaChecked
import GoSem.Claim
import GoSem.ClaimJoined
import GoSem.ClaimMapViews
import Derived.JoinedTies
import Derived.KernelRfl
namespace Go.Proofs.Ytpeefeioccglcaa
/- THE CELL 'sum', in the pinned program and in every row, IS THE sha256 OF THE DUMP (.gsa) THAT YtpeefeioccglcaaProg.lean LOADS. Nothing in Lean hashes anything: it is a label: what it is worth is what the hold of that sum in a sandbox is worth. -/
noncomputable def Try.pinned : Pinned := { name := "ytpeefeioccglcaa", sum := "19d008d8310bb745f25a1961527bf71717d1068bcf0be761eed0de2c0b0d47b3", checked := Try.checked }
namespace Rows
def none {H : Type} : Left H := { results := [], args := [] }

/-- 'rootcellarlaw27.JournalDisks': WHATEVER THE INPUT: true; the input reads as it did. -/
def journalDisksSpec : ChangeSpec := { name := "journalDisks", fn := fun _ => fun
  | [d1, d2] => { results := [.lit (.bool true)], args := [d1, d2] }
  | _ => none }
def journalDisksRow : OpenClaim := { program := "ytpeefeioccglcaa", sum := "19d008d8310bb745f25a1961527bf71717d1068bcf0be761eed0de2c0b0d47b3", func := "rootcellar/rootcellarlaw27.JournalDisks", spec := "journalDisks", apart := false }
def JournalDisksSaid : Prop := journalDisksRow.holds Try.pinned (OpenSpec.ofChange journalDisksSpec)

/-- ITS FALSE NEIGHBOUR: 'it returns false'. Refute it at one input. -/
def journalDisksWrong : ChangeSpec := { name := "journalDisks", fn := fun _ => fun
  | [d1, d2] => { results := [.lit (.bool false)], args := [d1, d2] }
  | _ => none }
def JournalDisksWrongFalsely : Prop := journalDisksRow.holds Try.pinned (OpenSpec.ofChange journalDisksWrong)

/-- 'rootcellarlaw05.NodeCodes': WHATEVER THE INPUT: true; the input reads as it did. -/
def nodeCodesSpec : ChangeSpec := { name := "nodeCodes", fn := fun _ => fun
  | [d1, d2] => { results := [.lit (.bool true)], args := [d1, d2] }
  | _ => none }
def nodeCodesRow : OpenClaim := { program := "ytpeefeioccglcaa", sum := "19d008d8310bb745f25a1961527bf71717d1068bcf0be761eed0de2c0b0d47b3", func := "rootcellar/rootcellarlaw05.NodeCodes", spec := "nodeCodes", apart := false }
def NodeCodesSaid : Prop := nodeCodesRow.holds Try.pinned (OpenSpec.ofChange nodeCodesSpec)

/-- ITS FALSE NEIGHBOUR: 'it returns false'. Refute it at one input. -/
def nodeCodesWrong : ChangeSpec := { name := "nodeCodes", fn := fun _ => fun
  | [d1, d2] => { results := [.lit (.bool false)], args := [d1, d2] }
  | _ => none }
def NodeCodesWrongFalsely : Prop := nodeCodesRow.holds Try.pinned (OpenSpec.ofChange nodeCodesWrong)

/-- 'rootcellarlaw05.NodeBack': WHATEVER THE INPUT: true; the input reads as it did. -/
def nodeBackSpec : ChangeSpec := { name := "nodeBack", fn := fun _ => fun
  | [d1, d2] => { results := [.lit (.bool true)], args := [d1, d2] }
  | _ => none }
def nodeBackRow : OpenClaim := { program := "ytpeefeioccglcaa", sum := "19d008d8310bb745f25a1961527bf71717d1068bcf0be761eed0de2c0b0d47b3", func := "rootcellar/rootcellarlaw05.NodeBack", spec := "nodeBack", apart := false }
def NodeBackSaid : Prop := nodeBackRow.holds Try.pinned (OpenSpec.ofChange nodeBackSpec)

/-- ITS FALSE NEIGHBOUR: 'it returns false'. Refute it at one input. -/
def nodeBackWrong : ChangeSpec := { name := "nodeBack", fn := fun _ => fun
  | [d1, d2] => { results := [.lit (.bool false)], args := [d1, d2] }
  | _ => none }
def NodeBackWrongFalsely : Prop := nodeBackRow.holds Try.pinned (OpenSpec.ofChange nodeBackWrong)

/-- 'rootcellarlaw22.UpdateRoots': WHATEVER THE INPUT: true; the input reads as it did. -/
def updateRootsSpec : ChangeSpec := { name := "updateRoots", fn := fun _ => fun
  | [d1, d2, d3] => { results := [.lit (.bool true)], args := [d1, d2, d3] }
  | _ => none }
def updateRootsRow : OpenClaim := { program := "ytpeefeioccglcaa", sum := "19d008d8310bb745f25a1961527bf71717d1068bcf0be761eed0de2c0b0d47b3", func := "rootcellar/rootcellarlaw22.UpdateRoots", spec := "updateRoots", inPlace := ["internal/bytealg.abigen_runtime_cmpstring"], recurses := true, apart := false }
def UpdateRootsSaid : Prop := updateRootsRow.holds Try.pinned (OpenSpec.ofChange updateRootsSpec)

/-- ITS FALSE NEIGHBOUR: 'it returns false'. Refute it at one input. -/
def updateRootsWrong : ChangeSpec := { name := "updateRoots", fn := fun _ => fun
  | [d1, d2, d3] => { results := [.lit (.bool false)], args := [d1, d2, d3] }
  | _ => none }
def UpdateRootsWrongFalsely : Prop := updateRootsRow.holds Try.pinned (OpenSpec.ofChange updateRootsWrong)

/-- 'rootcellarlaw24.SpanCodes': WHATEVER THE INPUT: true; the input reads as it did. -/
def spanCodesSpec : ChangeSpec := { name := "spanCodes", fn := fun _ => fun
  | [d1, d2] => { results := [.lit (.bool true)], args := [d1, d2] }
  | _ => none }
def spanCodesRow : OpenClaim := { program := "ytpeefeioccglcaa", sum := "19d008d8310bb745f25a1961527bf71717d1068bcf0be761eed0de2c0b0d47b3", func := "rootcellar/rootcellarlaw24.SpanCodes", spec := "spanCodes", inPlace := ["internal/bytealg.abigen_runtime_cmpstring"], recurses := true, apart := false }
def SpanCodesSaid : Prop := spanCodesRow.holds Try.pinned (OpenSpec.ofChange spanCodesSpec)

/-- ITS FALSE NEIGHBOUR: 'it returns false'. Refute it at one input. -/
def spanCodesWrong : ChangeSpec := { name := "spanCodes", fn := fun _ => fun
  | [d1, d2] => { results := [.lit (.bool false)], args := [d1, d2] }
  | _ => none }
def SpanCodesWrongFalsely : Prop := spanCodesRow.holds Try.pinned (OpenSpec.ofChange spanCodesWrong)

/-- 'rootcellarlaw08.WalkNil': WHATEVER THE INPUT: true; the input reads as it did. -/
def walkNilSpec : ChangeSpec := { name := "walkNil", fn := fun _ => fun
  | [d1, d2] => { results := [.lit (.bool true)], args := [d1, d2] }
  | _ => none }
def walkNilRow : OpenClaim := { program := "ytpeefeioccglcaa", sum := "19d008d8310bb745f25a1961527bf71717d1068bcf0be761eed0de2c0b0d47b3", func := "rootcellar/rootcellarlaw08.WalkNil", spec := "walkNil", apart := false }
def WalkNilSaid : Prop := walkNilRow.holds Try.pinned (OpenSpec.ofChange walkNilSpec)

/-- ITS FALSE NEIGHBOUR: 'it returns false'. Refute it at one input. -/
def walkNilWrong : ChangeSpec := { name := "walkNil", fn := fun _ => fun
  | [d1, d2] => { results := [.lit (.bool false)], args := [d1, d2] }
  | _ => none }
def WalkNilWrongFalsely : Prop := walkNilRow.holds Try.pinned (OpenSpec.ofChange walkNilWrong)

/-- 'rootcellarlaw17.PackBack': WHATEVER THE INPUT: true; the input reads as it did. -/
def packBackSpec : ChangeSpec := { name := "packBack", fn := fun _ => fun
  | [d1, d2, d3] => { results := [.lit (.bool true)], args := [d1, d2, d3] }
  | _ => none }
def packBackRow : OpenClaim := { program := "ytpeefeioccglcaa", sum := "19d008d8310bb745f25a1961527bf71717d1068bcf0be761eed0de2c0b0d47b3", func := "rootcellar/rootcellarlaw17.PackBack", spec := "packBack", inPlace := ["internal/bytealg.abigen_runtime_cmpstring"], apart := false }
def PackBackSaid : Prop := packBackRow.holds Try.pinned (OpenSpec.ofChange packBackSpec)

/-- ITS FALSE NEIGHBOUR: 'it returns false'. Refute it at one input. -/
def packBackWrong : ChangeSpec := { name := "packBack", fn := fun _ => fun
  | [d1, d2, d3] => { results := [.lit (.bool false)], args := [d1, d2, d3] }
  | _ => none }
def PackBackWrongFalsely : Prop := packBackRow.holds Try.pinned (OpenSpec.ofChange packBackWrong)

/-- 'rootcellarlaw17.PackCodes': WHATEVER THE INPUT: true; the input reads as it did. -/
def packCodesSpec : ChangeSpec := { name := "packCodes", fn := fun _ => fun
  | [d1, d2] => { results := [.lit (.bool true)], args := [d1, d2] }
  | _ => none }
def packCodesRow : OpenClaim := { program := "ytpeefeioccglcaa", sum := "19d008d8310bb745f25a1961527bf71717d1068bcf0be761eed0de2c0b0d47b3", func := "rootcellar/rootcellarlaw17.PackCodes", spec := "packCodes", inPlace := ["internal/bytealg.abigen_runtime_cmpstring"], apart := false }
def PackCodesSaid : Prop := packCodesRow.holds Try.pinned (OpenSpec.ofChange packCodesSpec)

/-- ITS FALSE NEIGHBOUR: 'it returns false'. Refute it at one input. -/
def packCodesWrong : ChangeSpec := { name := "packCodes", fn := fun _ => fun
  | [d1, d2] => { results := [.lit (.bool false)], args := [d1, d2] }
  | _ => none }
def PackCodesWrongFalsely : Prop := packCodesRow.holds Try.pinned (OpenSpec.ofChange packCodesWrong)

/-- 'rootcellarlaw20.MultiReads': WHATEVER THE INPUT: true; the input reads as it did. -/
def multiReadsSpec : ChangeSpec := { name := "multiReads", fn := fun _ => fun
  | [d1, d2, d3] => { results := [.lit (.bool true)], args := [d1, d2, d3] }
  | _ => none }
def multiReadsRow : OpenClaim := { program := "ytpeefeioccglcaa", sum := "19d008d8310bb745f25a1961527bf71717d1068bcf0be761eed0de2c0b0d47b3", func := "rootcellar/rootcellarlaw20.MultiReads", spec := "multiReads", inPlace := ["internal/bytealg.abigen_runtime_cmpstring"], recurses := true, apart := false }
def MultiReadsSaid : Prop := multiReadsRow.holds Try.pinned (OpenSpec.ofChange multiReadsSpec)

/-- ITS FALSE NEIGHBOUR: 'it returns false'. Refute it at one input. -/
def multiReadsWrong : ChangeSpec := { name := "multiReads", fn := fun _ => fun
  | [d1, d2, d3] => { results := [.lit (.bool false)], args := [d1, d2, d3] }
  | _ => none }
def MultiReadsWrongFalsely : Prop := multiReadsRow.holds Try.pinned (OpenSpec.ofChange multiReadsWrong)

/-- 'rootcellarlaw24.SpanReads': WHATEVER THE INPUT: true; the input reads as it did. -/
def spanReadsSpec : ChangeSpec := { name := "spanReads", fn := fun _ => fun
  | [d1, d2, d3, d4, d5] => { results := [.lit (.bool true)], args := [d1, d2, d3, d4, d5] }
  | _ => none }
def spanReadsRow : OpenClaim := { program := "ytpeefeioccglcaa", sum := "19d008d8310bb745f25a1961527bf71717d1068bcf0be761eed0de2c0b0d47b3", func := "rootcellar/rootcellarlaw24.SpanReads", spec := "spanReads", inPlace := ["internal/bytealg.abigen_runtime_cmpstring"], recurses := true, apart := false }
def SpanReadsSaid : Prop := spanReadsRow.holds Try.pinned (OpenSpec.ofChange spanReadsSpec)

/-- ITS FALSE NEIGHBOUR: 'it returns false'. Refute it at one input. -/
def spanReadsWrong : ChangeSpec := { name := "spanReads", fn := fun _ => fun
  | [d1, d2, d3, d4, d5] => { results := [.lit (.bool false)], args := [d1, d2, d3, d4, d5] }
  | _ => none }
def SpanReadsWrongFalsely : Prop := spanReadsRow.holds Try.pinned (OpenSpec.ofChange spanReadsWrong)

/-- 'rootcellarlaw19.ExtractTexts': WHATEVER THE INPUT: true; the input reads as it did. -/
def extractTextsSpec : ChangeSpec := { name := "extractTexts", fn := fun _ => fun
  | [d1, d2, d3] => { results := [.lit (.bool true)], args := [d1, d2, d3] }
  | _ => none }
def extractTextsRow : OpenClaim := { program := "ytpeefeioccglcaa", sum := "19d008d8310bb745f25a1961527bf71717d1068bcf0be761eed0de2c0b0d47b3", func := "rootcellar/rootcellarlaw19.ExtractTexts", spec := "extractTexts", inPlace := ["internal/bytealg.abigen_runtime_cmpstring"], apart := false }
def ExtractTextsSaid : Prop := extractTextsRow.holds Try.pinned (OpenSpec.ofChange extractTextsSpec)

/-- ITS FALSE NEIGHBOUR: 'it returns false'. Refute it at one input. -/
def extractTextsWrong : ChangeSpec := { name := "extractTexts", fn := fun _ => fun
  | [d1, d2, d3] => { results := [.lit (.bool false)], args := [d1, d2, d3] }
  | _ => none }
def ExtractTextsWrongFalsely : Prop := extractTextsRow.holds Try.pinned (OpenSpec.ofChange extractTextsWrong)

/-- 'rootcellarlaw22.UpdateNexts': WHATEVER THE INPUT: true; the input reads as it did. -/
def updateNextsSpec : ChangeSpec := { name := "updateNexts", fn := fun _ => fun
  | [d1, d2, d3, d4] => { results := [.lit (.bool true)], args := [d1, d2, d3, d4] }
  | _ => none }
def updateNextsRow : OpenClaim := { program := "ytpeefeioccglcaa", sum := "19d008d8310bb745f25a1961527bf71717d1068bcf0be761eed0de2c0b0d47b3", func := "rootcellar/rootcellarlaw22.UpdateNexts", spec := "updateNexts", inPlace := ["internal/bytealg.abigen_runtime_cmpstring"], recurses := true, apart := false }
def UpdateNextsSaid : Prop := updateNextsRow.holds Try.pinned (OpenSpec.ofChange updateNextsSpec)

/-- ITS FALSE NEIGHBOUR: 'it returns false'. Refute it at one input. -/
def updateNextsWrong : ChangeSpec := { name := "updateNexts", fn := fun _ => fun
  | [d1, d2, d3, d4] => { results := [.lit (.bool false)], args := [d1, d2, d3, d4] }
  | _ => none }
def UpdateNextsWrongFalsely : Prop := updateNextsRow.holds Try.pinned (OpenSpec.ofChange updateNextsWrong)

/- THE SECOND FORM. 'bulk': how many values and letters a reading holds, each counted each time it is reached (what is shared counts as often as it is met; a slice's spare places count too). A statement '..UptoSaid' is the law's where the arguments, and the package variables that the reading takes, are together of bulk at most 1048576: NARROWER than '..Said'. Prove '..Said' where nothing that the law and all that it calls make is longer than what came in: it says more and counts as full. Else prove '..UptoSaid'. A law counts once. -/
mutual
def uptoBulk {H : Type} : DataW H → Nat
  | .lit (.string bytes) => bytes.length + 1
  | .lit _ => 1
  | .nil => 1
  | .ptr d => uptoBulk d + 1
  | .slice elems spare => uptoBulkAll elems + uptoBulkAll spare + 1
  | .agg parts => uptoBulkAll parts + 1
  | .iface _ d => uptoBulk d + 1
  | .map entries => uptoBulkEntries entries + 1
  | .held _ => 1
def uptoBulkAll {H : Type} : List (DataW H) → Nat
  | [] => 0
  | d :: r => uptoBulk d + uptoBulkAll r
def uptoBulkEntries {H : Type} : List (Lit × DataW H) → Nat
  | [] => 0
  | x :: r => uptoBulkEntry x + uptoBulkEntries r
def uptoBulkEntry {H : Type} : Lit × DataW H → Nat
  | (.string bytes, d) => bytes.length + uptoBulk d + 1
  | (_, d) => uptoBulk d + 1
 end
def uptoSmall : (H : Type) → List (DataW H) → Bool := fun _ ds => decide (uptoBulkAll ds ≤ 1048576)
def OpenSpec.upto (s : _root_.Go.ChangeSpec) : _root_.Go.OpenSpec := { _root_.Go.OpenSpec.ofChange s with cond := some uptoSmall }

/-- 'rootcellarlaw27.JournalDisks', WHERE WHAT IT READS IS OF BULK AT MOST 1048576: true; the input reads as it did. -/
def journalDisksUptoRow : OpenClaim := { program := "ytpeefeioccglcaa", sum := "19d008d8310bb745f25a1961527bf71717d1068bcf0be761eed0de2c0b0d47b3", func := "rootcellar/rootcellarlaw27.JournalDisks", spec := "journalDisks", apart := false, narrowed := true }
def JournalDisksUptoSaid : Prop := journalDisksUptoRow.holds Try.pinned (OpenSpec.upto journalDisksSpec)

/-- 'rootcellarlaw05.NodeCodes', WHERE WHAT IT READS IS OF BULK AT MOST 1048576: true; the input reads as it did. -/
def nodeCodesUptoRow : OpenClaim := { program := "ytpeefeioccglcaa", sum := "19d008d8310bb745f25a1961527bf71717d1068bcf0be761eed0de2c0b0d47b3", func := "rootcellar/rootcellarlaw05.NodeCodes", spec := "nodeCodes", apart := false, narrowed := true }
def NodeCodesUptoSaid : Prop := nodeCodesUptoRow.holds Try.pinned (OpenSpec.upto nodeCodesSpec)

/-- 'rootcellarlaw05.NodeBack', WHERE WHAT IT READS IS OF BULK AT MOST 1048576: true; the input reads as it did. -/
def nodeBackUptoRow : OpenClaim := { program := "ytpeefeioccglcaa", sum := "19d008d8310bb745f25a1961527bf71717d1068bcf0be761eed0de2c0b0d47b3", func := "rootcellar/rootcellarlaw05.NodeBack", spec := "nodeBack", apart := false, narrowed := true }
def NodeBackUptoSaid : Prop := nodeBackUptoRow.holds Try.pinned (OpenSpec.upto nodeBackSpec)

/-- 'rootcellarlaw22.UpdateRoots', WHERE WHAT IT READS IS OF BULK AT MOST 1048576: true; the input reads as it did. -/
def updateRootsUptoRow : OpenClaim := { program := "ytpeefeioccglcaa", sum := "19d008d8310bb745f25a1961527bf71717d1068bcf0be761eed0de2c0b0d47b3", func := "rootcellar/rootcellarlaw22.UpdateRoots", spec := "updateRoots", inPlace := ["internal/bytealg.abigen_runtime_cmpstring"], recurses := true, apart := false, narrowed := true }
def UpdateRootsUptoSaid : Prop := updateRootsUptoRow.holds Try.pinned (OpenSpec.upto updateRootsSpec)

/-- 'rootcellarlaw24.SpanCodes', WHERE WHAT IT READS IS OF BULK AT MOST 1048576: true; the input reads as it did. -/
def spanCodesUptoRow : OpenClaim := { program := "ytpeefeioccglcaa", sum := "19d008d8310bb745f25a1961527bf71717d1068bcf0be761eed0de2c0b0d47b3", func := "rootcellar/rootcellarlaw24.SpanCodes", spec := "spanCodes", inPlace := ["internal/bytealg.abigen_runtime_cmpstring"], recurses := true, apart := false, narrowed := true }
def SpanCodesUptoSaid : Prop := spanCodesUptoRow.holds Try.pinned (OpenSpec.upto spanCodesSpec)

/-- 'rootcellarlaw08.WalkNil', WHERE WHAT IT READS IS OF BULK AT MOST 1048576: true; the input reads as it did. -/
def walkNilUptoRow : OpenClaim := { program := "ytpeefeioccglcaa", sum := "19d008d8310bb745f25a1961527bf71717d1068bcf0be761eed0de2c0b0d47b3", func := "rootcellar/rootcellarlaw08.WalkNil", spec := "walkNil", apart := false, narrowed := true }
def WalkNilUptoSaid : Prop := walkNilUptoRow.holds Try.pinned (OpenSpec.upto walkNilSpec)

/-- 'rootcellarlaw17.PackBack', WHERE WHAT IT READS IS OF BULK AT MOST 1048576: true; the input reads as it did. -/
def packBackUptoRow : OpenClaim := { program := "ytpeefeioccglcaa", sum := "19d008d8310bb745f25a1961527bf71717d1068bcf0be761eed0de2c0b0d47b3", func := "rootcellar/rootcellarlaw17.PackBack", spec := "packBack", inPlace := ["internal/bytealg.abigen_runtime_cmpstring"], apart := false, narrowed := true }
def PackBackUptoSaid : Prop := packBackUptoRow.holds Try.pinned (OpenSpec.upto packBackSpec)

/-- 'rootcellarlaw17.PackCodes', WHERE WHAT IT READS IS OF BULK AT MOST 1048576: true; the input reads as it did. -/
def packCodesUptoRow : OpenClaim := { program := "ytpeefeioccglcaa", sum := "19d008d8310bb745f25a1961527bf71717d1068bcf0be761eed0de2c0b0d47b3", func := "rootcellar/rootcellarlaw17.PackCodes", spec := "packCodes", inPlace := ["internal/bytealg.abigen_runtime_cmpstring"], apart := false, narrowed := true }
def PackCodesUptoSaid : Prop := packCodesUptoRow.holds Try.pinned (OpenSpec.upto packCodesSpec)

/-- 'rootcellarlaw20.MultiReads', WHERE WHAT IT READS IS OF BULK AT MOST 1048576: true; the input reads as it did. -/
def multiReadsUptoRow : OpenClaim := { program := "ytpeefeioccglcaa", sum := "19d008d8310bb745f25a1961527bf71717d1068bcf0be761eed0de2c0b0d47b3", func := "rootcellar/rootcellarlaw20.MultiReads", spec := "multiReads", inPlace := ["internal/bytealg.abigen_runtime_cmpstring"], recurses := true, apart := false, narrowed := true }
def MultiReadsUptoSaid : Prop := multiReadsUptoRow.holds Try.pinned (OpenSpec.upto multiReadsSpec)

/-- 'rootcellarlaw24.SpanReads', WHERE WHAT IT READS IS OF BULK AT MOST 1048576: true; the input reads as it did. -/
def spanReadsUptoRow : OpenClaim := { program := "ytpeefeioccglcaa", sum := "19d008d8310bb745f25a1961527bf71717d1068bcf0be761eed0de2c0b0d47b3", func := "rootcellar/rootcellarlaw24.SpanReads", spec := "spanReads", inPlace := ["internal/bytealg.abigen_runtime_cmpstring"], recurses := true, apart := false, narrowed := true }
def SpanReadsUptoSaid : Prop := spanReadsUptoRow.holds Try.pinned (OpenSpec.upto spanReadsSpec)

/-- 'rootcellarlaw19.ExtractTexts', WHERE WHAT IT READS IS OF BULK AT MOST 1048576: true; the input reads as it did. -/
def extractTextsUptoRow : OpenClaim := { program := "ytpeefeioccglcaa", sum := "19d008d8310bb745f25a1961527bf71717d1068bcf0be761eed0de2c0b0d47b3", func := "rootcellar/rootcellarlaw19.ExtractTexts", spec := "extractTexts", inPlace := ["internal/bytealg.abigen_runtime_cmpstring"], apart := false, narrowed := true }
def ExtractTextsUptoSaid : Prop := extractTextsUptoRow.holds Try.pinned (OpenSpec.upto extractTextsSpec)

/-- 'rootcellarlaw22.UpdateNexts', WHERE WHAT IT READS IS OF BULK AT MOST 1048576: true; the input reads as it did. -/
def updateNextsUptoRow : OpenClaim := { program := "ytpeefeioccglcaa", sum := "19d008d8310bb745f25a1961527bf71717d1068bcf0be761eed0de2c0b0d47b3", func := "rootcellar/rootcellarlaw22.UpdateNexts", spec := "updateNexts", inPlace := ["internal/bytealg.abigen_runtime_cmpstring"], recurses := true, apart := false, narrowed := true }
def UpdateNextsUptoSaid : Prop := updateNextsUptoRow.holds Try.pinned (OpenSpec.upto updateNextsSpec)

end Rows
end Go.Proofs.Ytpeefeioccglcaa

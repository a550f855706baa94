/-
  No cell of these rows narrows 'for every input' (looked for: loops, veiled, ifaces, maps, wideKeys, modest, calm, conditions, laid).
  DERIVED. THE GIVEN ROWS OF THIS SEAT. 10 by the template 'for every input the law returns true; each argument reads behind the call as it read before'; 0 by the template 'total and deterministic' (their statements: YtigmpdhnhkdeiaaTotals.lean).
  GIVEN WITH THE SEED: the statements are not yours to turn. If you find one false, say at which input.
  Laid BY PROGRAM, IN A SANDBOX (cutbox-rows.mjs): the forced cells as the released guide's own fill.sh prints them over the translation bea51ec5ae88f84c… (all of the seat's roots in one cut). By AI agents, Wed Nov 11 2026. No macro, syntax, notation, axiom, sorry.
-/
import Derived.Test.YtigmpdhnhkdeiaaChecked
import GoSem.Claim
import GoSem.ClaimJoined
import GoSem.ClaimMapViews
import Derived.JoinedTies
import Derived.KernelRfl
namespace Go.Proofs.Ytigmpdhnhkdeiaa
/- THE CELL 'sum', in the pinned program and in every row, IS THE sha256 OF THE DUMP (.gsa) THAT YtigmpdhnhkdeiaaProg.lean LOADS. Nothing in Lean hashes anything: it is a label: what it is worth is what the hold of that sum in a sandbox is worth. -/
noncomputable def Try.pinned : Pinned := { name := "ytigmpdhnhkdeiaa", sum := "bea51ec5ae88f84cb8b7f9291cbff8623d234b08882781167602a19cb3495ac7", checked := Try.checked }
namespace Rows
def none {H : Type} : Left H := { results := [], args := [] }

/-- 'rootcellarlaw24.SpanCodes': WHATEVER THE INPUT: true; the input reads as it did. -/
def spanCodesSpec : ChangeSpec := { name := "spanCodes", fn := fun _ => fun
  | [d1, d2] => { results := [.lit (.bool true)], args := [d1, d2] }
  | _ => none }
def spanCodesRow : OpenClaim := { program := "ytigmpdhnhkdeiaa", sum := "bea51ec5ae88f84cb8b7f9291cbff8623d234b08882781167602a19cb3495ac7", func := "rootcellar/rootcellarlaw24.SpanCodes", spec := "spanCodes", inPlace := ["internal/bytealg.abigen_runtime_cmpstring"], recurses := true, plainKeys := false, apart := false }
def SpanCodesSaid : Prop := spanCodesRow.holds Try.pinned (OpenSpec.ofChange spanCodesSpec)

/-- ITS FALSE NEIGHBOUR: 'it returns false'. Refute it at one input. -/
def spanCodesWrong : ChangeSpec := { name := "spanCodes", fn := fun _ => fun
  | [d1, d2] => { results := [.lit (.bool false)], args := [d1, d2] }
  | _ => none }
def SpanCodesWrongFalsely : Prop := spanCodesRow.holds Try.pinned (OpenSpec.ofChange spanCodesWrong)

/-- 'rootcellarlaw20.MultiReads': WHATEVER THE INPUT: true; the input reads as it did. -/
def multiReadsSpec : ChangeSpec := { name := "multiReads", fn := fun _ => fun
  | [d1, d2, d3] => { results := [.lit (.bool true)], args := [d1, d2, d3] }
  | _ => none }
def multiReadsRow : OpenClaim := { program := "ytigmpdhnhkdeiaa", sum := "bea51ec5ae88f84cb8b7f9291cbff8623d234b08882781167602a19cb3495ac7", func := "rootcellar/rootcellarlaw20.MultiReads", spec := "multiReads", inPlace := ["internal/bytealg.abigen_runtime_cmpstring"], recurses := true, plainKeys := false, apart := false }
def MultiReadsSaid : Prop := multiReadsRow.holds Try.pinned (OpenSpec.ofChange multiReadsSpec)

/-- ITS FALSE NEIGHBOUR: 'it returns false'. Refute it at one input. -/
def multiReadsWrong : ChangeSpec := { name := "multiReads", fn := fun _ => fun
  | [d1, d2, d3] => { results := [.lit (.bool false)], args := [d1, d2, d3] }
  | _ => none }
def MultiReadsWrongFalsely : Prop := multiReadsRow.holds Try.pinned (OpenSpec.ofChange multiReadsWrong)

/-- 'rootcellarlaw24.SpanReads': WHATEVER THE INPUT: true; the input reads as it did. -/
def spanReadsSpec : ChangeSpec := { name := "spanReads", fn := fun _ => fun
  | [d1, d2, d3, d4, d5] => { results := [.lit (.bool true)], args := [d1, d2, d3, d4, d5] }
  | _ => none }
def spanReadsRow : OpenClaim := { program := "ytigmpdhnhkdeiaa", sum := "bea51ec5ae88f84cb8b7f9291cbff8623d234b08882781167602a19cb3495ac7", func := "rootcellar/rootcellarlaw24.SpanReads", spec := "spanReads", inPlace := ["internal/bytealg.abigen_runtime_cmpstring"], recurses := true, plainKeys := false, apart := false }
def SpanReadsSaid : Prop := spanReadsRow.holds Try.pinned (OpenSpec.ofChange spanReadsSpec)

/-- ITS FALSE NEIGHBOUR: 'it returns false'. Refute it at one input. -/
def spanReadsWrong : ChangeSpec := { name := "spanReads", fn := fun _ => fun
  | [d1, d2, d3, d4, d5] => { results := [.lit (.bool false)], args := [d1, d2, d3, d4, d5] }
  | _ => none }
def SpanReadsWrongFalsely : Prop := spanReadsRow.holds Try.pinned (OpenSpec.ofChange spanReadsWrong)

/-- 'rootcellarlaw19.ExtractTexts': WHATEVER THE INPUT: true; the input reads as it did. -/
def extractTextsSpec : ChangeSpec := { name := "extractTexts", fn := fun _ => fun
  | [d1, d2, d3] => { results := [.lit (.bool true)], args := [d1, d2, d3] }
  | _ => none }
def extractTextsRow : OpenClaim := { program := "ytigmpdhnhkdeiaa", sum := "bea51ec5ae88f84cb8b7f9291cbff8623d234b08882781167602a19cb3495ac7", func := "rootcellar/rootcellarlaw19.ExtractTexts", spec := "extractTexts", inPlace := ["internal/bytealg.abigen_runtime_cmpstring"], plainKeys := false, apart := false }
def ExtractTextsSaid : Prop := extractTextsRow.holds Try.pinned (OpenSpec.ofChange extractTextsSpec)

/-- ITS FALSE NEIGHBOUR: 'it returns false'. Refute it at one input. -/
def extractTextsWrong : ChangeSpec := { name := "extractTexts", fn := fun _ => fun
  | [d1, d2, d3] => { results := [.lit (.bool false)], args := [d1, d2, d3] }
  | _ => none }
def ExtractTextsWrongFalsely : Prop := extractTextsRow.holds Try.pinned (OpenSpec.ofChange extractTextsWrong)

/-- 'rootcellarlaw22.UpdateNexts': WHATEVER THE INPUT: true; the input reads as it did. -/
def updateNextsSpec : ChangeSpec := { name := "updateNexts", fn := fun _ => fun
  | [d1, d2, d3, d4] => { results := [.lit (.bool true)], args := [d1, d2, d3, d4] }
  | _ => none }
def updateNextsRow : OpenClaim := { program := "ytigmpdhnhkdeiaa", sum := "bea51ec5ae88f84cb8b7f9291cbff8623d234b08882781167602a19cb3495ac7", func := "rootcellar/rootcellarlaw22.UpdateNexts", spec := "updateNexts", inPlace := ["internal/bytealg.abigen_runtime_cmpstring"], recurses := true, plainKeys := false, apart := false }
def UpdateNextsSaid : Prop := updateNextsRow.holds Try.pinned (OpenSpec.ofChange updateNextsSpec)

/-- ITS FALSE NEIGHBOUR: 'it returns false'. Refute it at one input. -/
def updateNextsWrong : ChangeSpec := { name := "updateNexts", fn := fun _ => fun
  | [d1, d2, d3, d4] => { results := [.lit (.bool false)], args := [d1, d2, d3, d4] }
  | _ => none }
def UpdateNextsWrongFalsely : Prop := updateNextsRow.holds Try.pinned (OpenSpec.ofChange updateNextsWrong)

/-- 'rootcellarlaw20.MultiSingles': WHATEVER THE INPUT: true; the input reads as it did. -/
def multiSinglesSpec : ChangeSpec := { name := "multiSingles", fn := fun _ => fun
  | [d1, d2] => { results := [.lit (.bool true)], args := [d1, d2] }
  | _ => none }
def multiSinglesRow : OpenClaim := { program := "ytigmpdhnhkdeiaa", sum := "bea51ec5ae88f84cb8b7f9291cbff8623d234b08882781167602a19cb3495ac7", func := "rootcellar/rootcellarlaw20.MultiSingles", spec := "multiSingles", inPlace := ["internal/bytealg.abigen_runtime_cmpstring"], recurses := true, plainKeys := false, apart := false }
def MultiSinglesSaid : Prop := multiSinglesRow.holds Try.pinned (OpenSpec.ofChange multiSinglesSpec)

/-- ITS FALSE NEIGHBOUR: 'it returns false'. Refute it at one input. -/
def multiSinglesWrong : ChangeSpec := { name := "multiSingles", fn := fun _ => fun
  | [d1, d2] => { results := [.lit (.bool false)], args := [d1, d2] }
  | _ => none }
def MultiSinglesWrongFalsely : Prop := multiSinglesRow.holds Try.pinned (OpenSpec.ofChange multiSinglesWrong)

/-- 'rootcellarlaw24.SpanSingles': WHATEVER THE INPUT: true; the input reads as it did. -/
def spanSinglesSpec : ChangeSpec := { name := "spanSingles", fn := fun _ => fun
  | [d1, d2, d3, d4] => { results := [.lit (.bool true)], args := [d1, d2, d3, d4] }
  | _ => none }
def spanSinglesRow : OpenClaim := { program := "ytigmpdhnhkdeiaa", sum := "bea51ec5ae88f84cb8b7f9291cbff8623d234b08882781167602a19cb3495ac7", func := "rootcellar/rootcellarlaw24.SpanSingles", spec := "spanSingles", inPlace := ["internal/bytealg.abigen_runtime_cmpstring"], recurses := true, plainKeys := false, apart := false }
def SpanSinglesSaid : Prop := spanSinglesRow.holds Try.pinned (OpenSpec.ofChange spanSinglesSpec)

/-- ITS FALSE NEIGHBOUR: 'it returns false'. Refute it at one input. -/
def spanSinglesWrong : ChangeSpec := { name := "spanSingles", fn := fun _ => fun
  | [d1, d2, d3, d4] => { results := [.lit (.bool false)], args := [d1, d2, d3, d4] }
  | _ => none }
def SpanSinglesWrongFalsely : Prop := spanSinglesRow.holds Try.pinned (OpenSpec.ofChange spanSinglesWrong)

/-- 'rootcellarlaw11.BatchOrders': WHATEVER THE INPUT: true; the input reads as it did. -/
def batchOrdersSpec : ChangeSpec := { name := "batchOrders", fn := fun _ => fun
  | [d1, d2] => { results := [.lit (.bool true)], args := [d1, d2] }
  | _ => none }
def batchOrdersRow : OpenClaim := { program := "ytigmpdhnhkdeiaa", sum := "bea51ec5ae88f84cb8b7f9291cbff8623d234b08882781167602a19cb3495ac7", func := "rootcellar/rootcellarlaw11.BatchOrders", spec := "batchOrders", inPlace := ["internal/bytealg.abigen_runtime_cmpstring"], unfollowed := true, recurses := true, plainKeys := false, apart := false }
def BatchOrdersSaid : Prop := batchOrdersRow.holds Try.pinned (OpenSpec.ofChange batchOrdersSpec)

/-- ITS FALSE NEIGHBOUR: 'it returns false'. Refute it at one input. -/
def batchOrdersWrong : ChangeSpec := { name := "batchOrders", fn := fun _ => fun
  | [d1, d2] => { results := [.lit (.bool false)], args := [d1, d2] }
  | _ => none }
def BatchOrdersWrongFalsely : Prop := batchOrdersRow.holds Try.pinned (OpenSpec.ofChange batchOrdersWrong)

/-- 'rootcellarlaw08.WalkTells': WHATEVER THE INPUT: true; the input reads as it did. -/
def walkTellsSpec : ChangeSpec := { name := "walkTells", fn := fun _ => fun
  | [d1, d2, d3] => { results := [.lit (.bool true)], args := [d1, d2, d3] }
  | _ => none }
def walkTellsRow : OpenClaim := { program := "ytigmpdhnhkdeiaa", sum := "bea51ec5ae88f84cb8b7f9291cbff8623d234b08882781167602a19cb3495ac7", func := "rootcellar/rootcellarlaw08.WalkTells", spec := "walkTells", recurses := true, plainKeys := false, apart := false }
def WalkTellsSaid : Prop := walkTellsRow.holds Try.pinned (OpenSpec.ofChange walkTellsSpec)

/-- ITS FALSE NEIGHBOUR: 'it returns false'. Refute it at one input. -/
def walkTellsWrong : ChangeSpec := { name := "walkTells", fn := fun _ => fun
  | [d1, d2, d3] => { results := [.lit (.bool false)], args := [d1, d2, d3] }
  | _ => none }
def WalkTellsWrongFalsely : Prop := walkTellsRow.holds Try.pinned (OpenSpec.ofChange walkTellsWrong)

/-- 'rootcellarlaw23.DiffCalls': WHATEVER THE INPUT: true; the input reads as it did. -/
def diffCallsSpec : ChangeSpec := { name := "diffCalls", fn := fun _ => fun
  | [d1, d2, d3] => { results := [.lit (.bool true)], args := [d1, d2, d3] }
  | _ => none }
def diffCallsRow : OpenClaim := { program := "ytigmpdhnhkdeiaa", sum := "bea51ec5ae88f84cb8b7f9291cbff8623d234b08882781167602a19cb3495ac7", func := "rootcellar/rootcellarlaw23.DiffCalls", spec := "diffCalls", inPlace := ["internal/bytealg.abigen_runtime_cmpstring", "internal/reflectlite.ValueOf", "internal/reflectlite.Swapper", "(internal/reflectlite.Value).Len"], unfollowed := true, recurses := true, plainKeys := false, apart := false }
def DiffCallsSaid : Prop := diffCallsRow.holds Try.pinned (OpenSpec.ofChange diffCallsSpec)

/-- ITS FALSE NEIGHBOUR: 'it returns false'. Refute it at one input. -/
def diffCallsWrong : ChangeSpec := { name := "diffCalls", fn := fun _ => fun
  | [d1, d2, d3] => { results := [.lit (.bool false)], args := [d1, d2, d3] }
  | _ => none }
def DiffCallsWrongFalsely : Prop := diffCallsRow.holds Try.pinned (OpenSpec.ofChange diffCallsWrong)

/- THE SECOND FORM. 'bulk': how many values and letters a reading holds, each counted each time it is reached (what is shared counts as often as it is met; a slice's spare places count too). A statement '..UptoSaid' is the law's where the arguments, and the package variables that the reading takes, are together of bulk at most 1048576: NARROWER than '..Said'. Prove '..Said' where nothing that the law and all that it calls make is longer than what came in: it says more and counts as full. Else prove '..UptoSaid'. A law counts once. -/
mutual
def uptoBulk {H : Type} : DataW H → Nat
  | .lit (.string bytes) => bytes.length + 1
  | .lit _ => 1
  | .nil => 1
  | .ptr d => uptoBulk d + 1
  | .slice elems spare => uptoBulkAll elems + uptoBulkAll spare + 1
  | .agg parts => uptoBulkAll parts + 1
  | .iface _ d => uptoBulk d + 1
  | .map entries => uptoBulkEntries entries + 1
  | .held _ => 1
def uptoBulkAll {H : Type} : List (DataW H) → Nat
  | [] => 0
  | d :: r => uptoBulk d + uptoBulkAll r
def uptoBulkEntries {H : Type} : List (Lit × DataW H) → Nat
  | [] => 0
  | x :: r => uptoBulkEntry x + uptoBulkEntries r
def uptoBulkEntry {H : Type} : Lit × DataW H → Nat
  | (.string bytes, d) => bytes.length + uptoBulk d + 1
  | (_, d) => uptoBulk d + 1
 end
def uptoSmall : (H : Type) → List (DataW H) → Bool := fun _ ds => decide (uptoBulkAll ds ≤ 1048576)
def OpenSpec.upto (s : _root_.Go.ChangeSpec) : _root_.Go.OpenSpec := { _root_.Go.OpenSpec.ofChange s with cond := some uptoSmall }

/-- 'rootcellarlaw24.SpanCodes', WHERE WHAT IT READS IS OF BULK AT MOST 1048576: true; the input reads as it did. -/
def spanCodesUptoRow : OpenClaim := { program := "ytigmpdhnhkdeiaa", sum := "bea51ec5ae88f84cb8b7f9291cbff8623d234b08882781167602a19cb3495ac7", func := "rootcellar/rootcellarlaw24.SpanCodes", spec := "spanCodes", inPlace := ["internal/bytealg.abigen_runtime_cmpstring"], recurses := true, plainKeys := false, apart := false, narrowed := true }
def SpanCodesUptoSaid : Prop := spanCodesUptoRow.holds Try.pinned (OpenSpec.upto spanCodesSpec)

/-- 'rootcellarlaw20.MultiReads', WHERE WHAT IT READS IS OF BULK AT MOST 1048576: true; the input reads as it did. -/
def multiReadsUptoRow : OpenClaim := { program := "ytigmpdhnhkdeiaa", sum := "bea51ec5ae88f84cb8b7f9291cbff8623d234b08882781167602a19cb3495ac7", func := "rootcellar/rootcellarlaw20.MultiReads", spec := "multiReads", inPlace := ["internal/bytealg.abigen_runtime_cmpstring"], recurses := true, plainKeys := false, apart := false, narrowed := true }
def MultiReadsUptoSaid : Prop := multiReadsUptoRow.holds Try.pinned (OpenSpec.upto multiReadsSpec)

/-- 'rootcellarlaw24.SpanReads', WHERE WHAT IT READS IS OF BULK AT MOST 1048576: true; the input reads as it did. -/
def spanReadsUptoRow : OpenClaim := { program := "ytigmpdhnhkdeiaa", sum := "bea51ec5ae88f84cb8b7f9291cbff8623d234b08882781167602a19cb3495ac7", func := "rootcellar/rootcellarlaw24.SpanReads", spec := "spanReads", inPlace := ["internal/bytealg.abigen_runtime_cmpstring"], recurses := true, plainKeys := false, apart := false, narrowed := true }
def SpanReadsUptoSaid : Prop := spanReadsUptoRow.holds Try.pinned (OpenSpec.upto spanReadsSpec)

/-- 'rootcellarlaw19.ExtractTexts', WHERE WHAT IT READS IS OF BULK AT MOST 1048576: true; the input reads as it did. -/
def extractTextsUptoRow : OpenClaim := { program := "ytigmpdhnhkdeiaa", sum := "bea51ec5ae88f84cb8b7f9291cbff8623d234b08882781167602a19cb3495ac7", func := "rootcellar/rootcellarlaw19.ExtractTexts", spec := "extractTexts", inPlace := ["internal/bytealg.abigen_runtime_cmpstring"], plainKeys := false, apart := false, narrowed := true }
def ExtractTextsUptoSaid : Prop := extractTextsUptoRow.holds Try.pinned (OpenSpec.upto extractTextsSpec)

/-- 'rootcellarlaw22.UpdateNexts', WHERE WHAT IT READS IS OF BULK AT MOST 1048576: true; the input reads as it did. -/
def updateNextsUptoRow : OpenClaim := { program := "ytigmpdhnhkdeiaa", sum := "bea51ec5ae88f84cb8b7f9291cbff8623d234b08882781167602a19cb3495ac7", func := "rootcellar/rootcellarlaw22.UpdateNexts", spec := "updateNexts", inPlace := ["internal/bytealg.abigen_runtime_cmpstring"], recurses := true, plainKeys := false, apart := false, narrowed := true }
def UpdateNextsUptoSaid : Prop := updateNextsUptoRow.holds Try.pinned (OpenSpec.upto updateNextsSpec)

/-- 'rootcellarlaw20.MultiSingles', WHERE WHAT IT READS IS OF BULK AT MOST 1048576: true; the input reads as it did. -/
def multiSinglesUptoRow : OpenClaim := { program := "ytigmpdhnhkdeiaa", sum := "bea51ec5ae88f84cb8b7f9291cbff8623d234b08882781167602a19cb3495ac7", func := "rootcellar/rootcellarlaw20.MultiSingles", spec := "multiSingles", inPlace := ["internal/bytealg.abigen_runtime_cmpstring"], recurses := true, plainKeys := false, apart := false, narrowed := true }
def MultiSinglesUptoSaid : Prop := multiSinglesUptoRow.holds Try.pinned (OpenSpec.upto multiSinglesSpec)

/-- 'rootcellarlaw24.SpanSingles', WHERE WHAT IT READS IS OF BULK AT MOST 1048576: true; the input reads as it did. -/
def spanSinglesUptoRow : OpenClaim := { program := "ytigmpdhnhkdeiaa", sum := "bea51ec5ae88f84cb8b7f9291cbff8623d234b08882781167602a19cb3495ac7", func := "rootcellar/rootcellarlaw24.SpanSingles", spec := "spanSingles", inPlace := ["internal/bytealg.abigen_runtime_cmpstring"], recurses := true, plainKeys := false, apart := false, narrowed := true }
def SpanSinglesUptoSaid : Prop := spanSinglesUptoRow.holds Try.pinned (OpenSpec.upto spanSinglesSpec)

/-- 'rootcellarlaw11.BatchOrders', WHERE WHAT IT READS IS OF BULK AT MOST 1048576: true; the input reads as it did. -/
def batchOrdersUptoRow : OpenClaim := { program := "ytigmpdhnhkdeiaa", sum := "bea51ec5ae88f84cb8b7f9291cbff8623d234b08882781167602a19cb3495ac7", func := "rootcellar/rootcellarlaw11.BatchOrders", spec := "batchOrders", inPlace := ["internal/bytealg.abigen_runtime_cmpstring"], unfollowed := true, recurses := true, plainKeys := false, apart := false, narrowed := true }
def BatchOrdersUptoSaid : Prop := batchOrdersUptoRow.holds Try.pinned (OpenSpec.upto batchOrdersSpec)

/-- 'rootcellarlaw08.WalkTells', WHERE WHAT IT READS IS OF BULK AT MOST 1048576: true; the input reads as it did. -/
def walkTellsUptoRow : OpenClaim := { program := "ytigmpdhnhkdeiaa", sum := "bea51ec5ae88f84cb8b7f9291cbff8623d234b08882781167602a19cb3495ac7", func := "rootcellar/rootcellarlaw08.WalkTells", spec := "walkTells", recurses := true, plainKeys := false, apart := false, narrowed := true }
def WalkTellsUptoSaid : Prop := walkTellsUptoRow.holds Try.pinned (OpenSpec.upto walkTellsSpec)

/-- 'rootcellarlaw23.DiffCalls', WHERE WHAT IT READS IS OF BULK AT MOST 1048576: true; the input reads as it did. -/
def diffCallsUptoRow : OpenClaim := { program := "ytigmpdhnhkdeiaa", sum := "bea51ec5ae88f84cb8b7f9291cbff8623d234b08882781167602a19cb3495ac7", func := "rootcellar/rootcellarlaw23.DiffCalls", spec := "diffCalls", inPlace := ["internal/bytealg.abigen_runtime_cmpstring", "internal/reflectlite.ValueOf", "internal/reflectlite.Swapper", "(internal/reflectlite.Value).Len"], unfollowed := true, recurses := true, plainKeys := false, apart := false, narrowed := true }
def DiffCallsUptoSaid : Prop := diffCallsUptoRow.holds Try.pinned (OpenSpec.upto diffCallsSpec)

end Rows
end Go.Proofs.Ytigmpdhnhkdeiaa

/-
  No cell of these rows narrows 'for every input' (looked for: loops, veiled, ifaces, maps, wideKeys, modest, calm, conditions, laid).
  DERIVED. THE GIVEN ROWS OF THIS SEAT. 4 by the template 'for every input the law returns true; each argument reads behind the call as it read before'; 0 by the template 'total and deterministic' (their statements: YtlagngkafllbiaaTotals.lean).
  GIVEN WITH THE SEED: the statements are not yours to turn. If you find one false, say at which input.
  Laid BY PROGRAM, IN A SANDBOX (cutbox-rows.mjs): the forced cells as the released guide's own fill.sh prints them over the translation 7f0f3516bd27c30d… (all of the seat's roots in one cut). By AI agents, Wed Nov 11 2026. No macro, syntax, notation, axiom, sorry.
-/
import Derived.Test.YtlagngkafllbiaaChecked
import GoSem.Claim
import GoSem.ClaimJoined
import GoSem.ClaimMapViews
import Derived.JoinedTies
import Derived.KernelRfl
namespace Go.Proofs.Ytlagngkafllbiaa
/- THE CELL 'sum', in the pinned program and in every row, IS THE sha256 OF THE DUMP (.gsa) THAT YtlagngkafllbiaaProg.lean LOADS. Nothing in Lean hashes anything: it is a label: what it is worth is what the hold of that sum in a sandbox is worth. -/
noncomputable def Try.pinned : Pinned := { name := "ytlagngkafllbiaa", sum := "7f0f3516bd27c30dc7ef10addf07ad44a430c6d2860e029ceede482fb54940c2", checked := Try.checked }
namespace Rows
def none {H : Type} : Left H := { results := [], args := [] }

/-- 'rootcellarlaw19.ExtractChain': WHATEVER THE INPUT: true; the input reads as it did. -/
def extractChainSpec : ChangeSpec := { name := "extractChain", fn := fun _ => fun
  | [d1, d2] => { results := [.lit (.bool true)], args := [d1, d2] }
  | _ => none }
def extractChainRow : OpenClaim := { program := "ytlagngkafllbiaa", sum := "7f0f3516bd27c30dc7ef10addf07ad44a430c6d2860e029ceede482fb54940c2", func := "rootcellar/rootcellarlaw19.ExtractChain", spec := "extractChain", inPlace := ["internal/bytealg.abigen_runtime_cmpstring"], apart := false }
def ExtractChainSaid : Prop := extractChainRow.holds Try.pinned (OpenSpec.ofChange extractChainSpec)

/-- ITS FALSE NEIGHBOUR: 'it returns false'. Refute it at one input. -/
def extractChainWrong : ChangeSpec := { name := "extractChain", fn := fun _ => fun
  | [d1, d2] => { results := [.lit (.bool false)], args := [d1, d2] }
  | _ => none }
def ExtractChainWrongFalsely : Prop := extractChainRow.holds Try.pinned (OpenSpec.ofChange extractChainWrong)

/-- 'rootcellarlaw18.VerifyReads': WHATEVER THE INPUT: true; the input reads as it did. -/
def verifyReadsSpec : ChangeSpec := { name := "verifyReads", fn := fun _ => fun
  | [d1, d2, d3, d4] => { results := [.lit (.bool true)], args := [d1, d2, d3, d4] }
  | _ => none }
def verifyReadsRow : OpenClaim := { program := "ytlagngkafllbiaa", sum := "7f0f3516bd27c30dc7ef10addf07ad44a430c6d2860e029ceede482fb54940c2", func := "rootcellar/rootcellarlaw18.VerifyReads", spec := "verifyReads", inPlace := ["internal/bytealg.abigen_runtime_cmpstring"], apart := false }
def VerifyReadsSaid : Prop := verifyReadsRow.holds Try.pinned (OpenSpec.ofChange verifyReadsSpec)

/-- ITS FALSE NEIGHBOUR: 'it returns false'. Refute it at one input. -/
def verifyReadsWrong : ChangeSpec := { name := "verifyReads", fn := fun _ => fun
  | [d1, d2, d3, d4] => { results := [.lit (.bool false)], args := [d1, d2, d3, d4] }
  | _ => none }
def VerifyReadsWrongFalsely : Prop := verifyReadsRow.holds Try.pinned (OpenSpec.ofChange verifyReadsWrong)

/-- 'rootcellarlaw19.ExtractClash': WHATEVER THE INPUT: true; the input reads as it did. -/
def extractClashSpec : ChangeSpec := { name := "extractClash", fn := fun _ => fun
  | [d1, d2, d3, d4] => { results := [.lit (.bool true)], args := [d1, d2, d3, d4] }
  | _ => none }
def extractClashRow : OpenClaim := { program := "ytlagngkafllbiaa", sum := "7f0f3516bd27c30dc7ef10addf07ad44a430c6d2860e029ceede482fb54940c2", func := "rootcellar/rootcellarlaw19.ExtractClash", spec := "extractClash", inPlace := ["internal/bytealg.abigen_runtime_cmpstring"], apart := false }
def ExtractClashSaid : Prop := extractClashRow.holds Try.pinned (OpenSpec.ofChange extractClashSpec)

/-- ITS FALSE NEIGHBOUR: 'it returns false'. Refute it at one input. -/
def extractClashWrong : ChangeSpec := { name := "extractClash", fn := fun _ => fun
  | [d1, d2, d3, d4] => { results := [.lit (.bool false)], args := [d1, d2, d3, d4] }
  | _ => none }
def ExtractClashWrongFalsely : Prop := extractClashRow.holds Try.pinned (OpenSpec.ofChange extractClashWrong)

/-- 'rootcellarlaw19.ExtractFinds': WHATEVER THE INPUT: true; the input reads as it did. -/
def extractFindsSpec : ChangeSpec := { name := "extractFinds", fn := fun _ => fun
  | [d1, d2, d3, d4] => { results := [.lit (.bool true)], args := [d1, d2, d3, d4] }
  | _ => none }
def extractFindsRow : OpenClaim := { program := "ytlagngkafllbiaa", sum := "7f0f3516bd27c30dc7ef10addf07ad44a430c6d2860e029ceede482fb54940c2", func := "rootcellar/rootcellarlaw19.ExtractFinds", spec := "extractFinds", inPlace := ["internal/bytealg.abigen_runtime_cmpstring"], apart := false }
def ExtractFindsSaid : Prop := extractFindsRow.holds Try.pinned (OpenSpec.ofChange extractFindsSpec)

/-- ITS FALSE NEIGHBOUR: 'it returns false'. Refute it at one input. -/
def extractFindsWrong : ChangeSpec := { name := "extractFinds", fn := fun _ => fun
  | [d1, d2, d3, d4] => { results := [.lit (.bool false)], args := [d1, d2, d3, d4] }
  | _ => none }
def ExtractFindsWrongFalsely : Prop := extractFindsRow.holds Try.pinned (OpenSpec.ofChange extractFindsWrong)

/- THE SECOND FORM. 'bulk': how many values and letters a reading holds, each counted each time it is reached (what is shared counts as often as it is met; a slice's spare places count too). A statement '..UptoSaid' is the law's where the arguments, and the package variables that the reading takes, are together of bulk at most 1048576: NARROWER than '..Said'. Prove '..Said' where nothing that the law and all that it calls make is longer than what came in: it says more and counts as full. Else prove '..UptoSaid'. A law counts once. -/
mutual
def uptoBulk {H : Type} : DataW H → Nat
  | .lit (.string bytes) => bytes.length + 1
  | .lit _ => 1
  | .nil => 1
  | .ptr d => uptoBulk d + 1
  | .slice elems spare => uptoBulkAll elems + uptoBulkAll spare + 1
  | .agg parts => uptoBulkAll parts + 1
  | .iface _ d => uptoBulk d + 1
  | .map entries => uptoBulkEntries entries + 1
  | .held _ => 1
def uptoBulkAll {H : Type} : List (DataW H) → Nat
  | [] => 0
  | d :: r => uptoBulk d + uptoBulkAll r
def uptoBulkEntries {H : Type} : List (Lit × DataW H) → Nat
  | [] => 0
  | x :: r => uptoBulkEntry x + uptoBulkEntries r
def uptoBulkEntry {H : Type} : Lit × DataW H → Nat
  | (.string bytes, d) => bytes.length + uptoBulk d + 1
  | (_, d) => uptoBulk d + 1
 end
def uptoSmall : (H : Type) → List (DataW H) → Bool := fun _ ds => decide (uptoBulkAll ds ≤ 1048576)
def OpenSpec.upto (s : _root_.Go.ChangeSpec) : _root_.Go.OpenSpec := { _root_.Go.OpenSpec.ofChange s with cond := some uptoSmall }

/-- 'rootcellarlaw19.ExtractChain', WHERE WHAT IT READS IS OF BULK AT MOST 1048576: true; the input reads as it did. -/
def extractChainUptoRow : OpenClaim := { program := "ytlagngkafllbiaa", sum := "7f0f3516bd27c30dc7ef10addf07ad44a430c6d2860e029ceede482fb54940c2", func := "rootcellar/rootcellarlaw19.ExtractChain", spec := "extractChain", inPlace := ["internal/bytealg.abigen_runtime_cmpstring"], apart := false, narrowed := true }
def ExtractChainUptoSaid : Prop := extractChainUptoRow.holds Try.pinned (OpenSpec.upto extractChainSpec)

/-- 'rootcellarlaw18.VerifyReads', WHERE WHAT IT READS IS OF BULK AT MOST 1048576: true; the input reads as it did. -/
def verifyReadsUptoRow : OpenClaim := { program := "ytlagngkafllbiaa", sum := "7f0f3516bd27c30dc7ef10addf07ad44a430c6d2860e029ceede482fb54940c2", func := "rootcellar/rootcellarlaw18.VerifyReads", spec := "verifyReads", inPlace := ["internal/bytealg.abigen_runtime_cmpstring"], apart := false, narrowed := true }
def VerifyReadsUptoSaid : Prop := verifyReadsUptoRow.holds Try.pinned (OpenSpec.upto verifyReadsSpec)

/-- 'rootcellarlaw19.ExtractClash', WHERE WHAT IT READS IS OF BULK AT MOST 1048576: true; the input reads as it did. -/
def extractClashUptoRow : OpenClaim := { program := "ytlagngkafllbiaa", sum := "7f0f3516bd27c30dc7ef10addf07ad44a430c6d2860e029ceede482fb54940c2", func := "rootcellar/rootcellarlaw19.ExtractClash", spec := "extractClash", inPlace := ["internal/bytealg.abigen_runtime_cmpstring"], apart := false, narrowed := true }
def ExtractClashUptoSaid : Prop := extractClashUptoRow.holds Try.pinned (OpenSpec.upto extractClashSpec)

/-- 'rootcellarlaw19.ExtractFinds', WHERE WHAT IT READS IS OF BULK AT MOST 1048576: true; the input reads as it did. -/
def extractFindsUptoRow : OpenClaim := { program := "ytlagngkafllbiaa", sum := "7f0f3516bd27c30dc7ef10addf07ad44a430c6d2860e029ceede482fb54940c2", func := "rootcellar/rootcellarlaw19.ExtractFinds", spec := "extractFinds", inPlace := ["internal/bytealg.abigen_runtime_cmpstring"], apart := false, narrowed := true }
def ExtractFindsUptoSaid : Prop := extractFindsUptoRow.holds Try.pinned (OpenSpec.upto extractFindsSpec)

end Rows
end Go.Proofs.Ytlagngkafllbiaa

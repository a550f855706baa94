/-
  No cell of these rows narrows 'for every input' (looked for: loops, veiled, ifaces, maps, wideKeys, modest, calm, conditions, laid).
  DERIVED. THE GIVEN ROWS OF THIS SEAT. 8 by the template 'for every input the law returns true; each argument reads behind the call as it read before'; 0 by the template 'total and deterministic' (their statements: YthphhnkoilcofaaTotals.lean).
  GIVEN WITH THE SEED: the statements are not yours to turn. If you find one false, say at which input.
  Laid BY PROGRAM, IN A SANDBOX (cutbox-rows.mjs): the forced cells as the released guide's own fill.sh prints them over the translation 9ea95c8876a360ae… (all of the seat's roots in one cut). By AI agents, Wed Nov 11 2026. No macro, syntax, notation, axiom, sorry.
-/
import Derived.Test.YthphhnkoilcofaaChecked
import GoSem.Claim
import GoSem.ClaimJoined
import GoSem.ClaimMapViews
import Derived.JoinedTies
import Derived.KernelRfl
namespace Go.Proofs.Ythphhnkoilcofaa
/- THE CELL 'sum', in the pinned program and in every row, IS THE sha256 OF THE DUMP (.gsa) THAT YthphhnkoilcofaaProg.lean LOADS. Nothing in Lean hashes anything: it is a label: what it is worth is what the hold of that sum in a sandbox is worth. -/
noncomputable def Try.pinned : Pinned := { name := "ythphhnkoilcofaa", sum := "9ea95c8876a360aeea5a57dad964e09c426a6f04022a173f1bd8331c0f42c468", checked := Try.checked }
namespace Rows
def none {H : Type} : Left H := { results := [], args := [] }

/-- 'rootcellarlaw20.MultiSingles': WHATEVER THE INPUT: true; the input reads as it did. -/
def multiSinglesSpec : ChangeSpec := { name := "multiSingles", fn := fun _ => fun
  | [d1, d2] => { results := [.lit (.bool true)], args := [d1, d2] }
  | _ => none }
def multiSinglesRow : OpenClaim := { program := "ythphhnkoilcofaa", sum := "9ea95c8876a360aeea5a57dad964e09c426a6f04022a173f1bd8331c0f42c468", func := "rootcellar/rootcellarlaw20.MultiSingles", spec := "multiSingles", inPlace := ["internal/bytealg.abigen_runtime_cmpstring"], recurses := true, plainKeys := false, apart := false }
def MultiSinglesSaid : Prop := multiSinglesRow.holds Try.pinned (OpenSpec.ofChange multiSinglesSpec)

/-- ITS FALSE NEIGHBOUR: 'it returns false'. Refute it at one input. -/
def multiSinglesWrong : ChangeSpec := { name := "multiSingles", fn := fun _ => fun
  | [d1, d2] => { results := [.lit (.bool false)], args := [d1, d2] }
  | _ => none }
def MultiSinglesWrongFalsely : Prop := multiSinglesRow.holds Try.pinned (OpenSpec.ofChange multiSinglesWrong)

/-- 'rootcellarlaw24.SpanSingles': WHATEVER THE INPUT: true; the input reads as it did. -/
def spanSinglesSpec : ChangeSpec := { name := "spanSingles", fn := fun _ => fun
  | [d1, d2, d3, d4] => { results := [.lit (.bool true)], args := [d1, d2, d3, d4] }
  | _ => none }
def spanSinglesRow : OpenClaim := { program := "ythphhnkoilcofaa", sum := "9ea95c8876a360aeea5a57dad964e09c426a6f04022a173f1bd8331c0f42c468", func := "rootcellar/rootcellarlaw24.SpanSingles", spec := "spanSingles", inPlace := ["internal/bytealg.abigen_runtime_cmpstring"], recurses := true, plainKeys := false, apart := false }
def SpanSinglesSaid : Prop := spanSinglesRow.holds Try.pinned (OpenSpec.ofChange spanSinglesSpec)

/-- ITS FALSE NEIGHBOUR: 'it returns false'. Refute it at one input. -/
def spanSinglesWrong : ChangeSpec := { name := "spanSingles", fn := fun _ => fun
  | [d1, d2, d3, d4] => { results := [.lit (.bool false)], args := [d1, d2, d3, d4] }
  | _ => none }
def SpanSinglesWrongFalsely : Prop := spanSinglesRow.holds Try.pinned (OpenSpec.ofChange spanSinglesWrong)

/-- 'rootcellarlaw11.BatchOrders': WHATEVER THE INPUT: true; the input reads as it did. -/
def batchOrdersSpec : ChangeSpec := { name := "batchOrders", fn := fun _ => fun
  | [d1, d2] => { results := [.lit (.bool true)], args := [d1, d2] }
  | _ => none }
def batchOrdersRow : OpenClaim := { program := "ythphhnkoilcofaa", sum := "9ea95c8876a360aeea5a57dad964e09c426a6f04022a173f1bd8331c0f42c468", func := "rootcellar/rootcellarlaw11.BatchOrders", spec := "batchOrders", inPlace := ["internal/bytealg.abigen_runtime_cmpstring"], unfollowed := true, recurses := true, plainKeys := false, apart := false }
def BatchOrdersSaid : Prop := batchOrdersRow.holds Try.pinned (OpenSpec.ofChange batchOrdersSpec)

/-- ITS FALSE NEIGHBOUR: 'it returns false'. Refute it at one input. -/
def batchOrdersWrong : ChangeSpec := { name := "batchOrders", fn := fun _ => fun
  | [d1, d2] => { results := [.lit (.bool false)], args := [d1, d2] }
  | _ => none }
def BatchOrdersWrongFalsely : Prop := batchOrdersRow.holds Try.pinned (OpenSpec.ofChange batchOrdersWrong)

/-- 'rootcellarlaw05.NodeRoots': WHATEVER THE INPUT: true; the input reads as it did. -/
def nodeRootsSpec : ChangeSpec := { name := "nodeRoots", fn := fun _ => fun
  | [d1, d2] => { results := [.lit (.bool true)], args := [d1, d2] }
  | _ => none }
def nodeRootsRow : OpenClaim := { program := "ythphhnkoilcofaa", sum := "9ea95c8876a360aeea5a57dad964e09c426a6f04022a173f1bd8331c0f42c468", func := "rootcellar/rootcellarlaw05.NodeRoots", spec := "nodeRoots", inPlace := ["internal/bytealg.abigen_runtime_cmpstring"], unfollowed := true, recurses := true, plainKeys := false, apart := false }
def NodeRootsSaid : Prop := nodeRootsRow.holds Try.pinned (OpenSpec.ofChange nodeRootsSpec)

/-- ITS FALSE NEIGHBOUR: 'it returns false'. Refute it at one input. -/
def nodeRootsWrong : ChangeSpec := { name := "nodeRoots", fn := fun _ => fun
  | [d1, d2] => { results := [.lit (.bool false)], args := [d1, d2] }
  | _ => none }
def NodeRootsWrongFalsely : Prop := nodeRootsRow.holds Try.pinned (OpenSpec.ofChange nodeRootsWrong)

/-- 'rootcellarlaw23.DiffCalls': WHATEVER THE INPUT: true; the input reads as it did. -/
def diffCallsSpec : ChangeSpec := { name := "diffCalls", fn := fun _ => fun
  | [d1, d2, d3] => { results := [.lit (.bool true)], args := [d1, d2, d3] }
  | _ => none }
def diffCallsRow : OpenClaim := { program := "ythphhnkoilcofaa", sum := "9ea95c8876a360aeea5a57dad964e09c426a6f04022a173f1bd8331c0f42c468", func := "rootcellar/rootcellarlaw23.DiffCalls", spec := "diffCalls", inPlace := ["internal/bytealg.abigen_runtime_cmpstring", "internal/reflectlite.ValueOf", "internal/reflectlite.Swapper", "(internal/reflectlite.Value).Len"], unfollowed := true, recurses := true, plainKeys := false, apart := false }
def DiffCallsSaid : Prop := diffCallsRow.holds Try.pinned (OpenSpec.ofChange diffCallsSpec)

/-- ITS FALSE NEIGHBOUR: 'it returns false'. Refute it at one input. -/
def diffCallsWrong : ChangeSpec := { name := "diffCalls", fn := fun _ => fun
  | [d1, d2, d3] => { results := [.lit (.bool false)], args := [d1, d2, d3] }
  | _ => none }
def DiffCallsWrongFalsely : Prop := diffCallsRow.holds Try.pinned (OpenSpec.ofChange diffCallsWrong)

/-- 'rootcellarlaw05.NodeWays': WHATEVER THE INPUT: true; the input reads as it did. -/
def nodeWaysSpec : ChangeSpec := { name := "nodeWays", fn := fun _ => fun
  | [d1, d2, d3] => { results := [.lit (.bool true)], args := [d1, d2, d3] }
  | _ => none }
def nodeWaysRow : OpenClaim := { program := "ythphhnkoilcofaa", sum := "9ea95c8876a360aeea5a57dad964e09c426a6f04022a173f1bd8331c0f42c468", func := "rootcellar/rootcellarlaw05.NodeWays", spec := "nodeWays", inPlace := ["internal/bytealg.abigen_runtime_cmpstring"], unfollowed := true, recurses := true, plainKeys := false, apart := false }
def NodeWaysSaid : Prop := nodeWaysRow.holds Try.pinned (OpenSpec.ofChange nodeWaysSpec)

/-- ITS FALSE NEIGHBOUR: 'it returns false'. Refute it at one input. -/
def nodeWaysWrong : ChangeSpec := { name := "nodeWays", fn := fun _ => fun
  | [d1, d2, d3] => { results := [.lit (.bool false)], args := [d1, d2, d3] }
  | _ => none }
def NodeWaysWrongFalsely : Prop := nodeWaysRow.holds Try.pinned (OpenSpec.ofChange nodeWaysWrong)

/-- 'rootcellarlaw05.NodeOrder': WHATEVER THE INPUT: true; the input reads as it did. -/
def nodeOrderSpec : ChangeSpec := { name := "nodeOrder", fn := fun _ => fun
  | [d1, d2, d3] => { results := [.lit (.bool true)], args := [d1, d2, d3] }
  | _ => none }
def nodeOrderRow : OpenClaim := { program := "ythphhnkoilcofaa", sum := "9ea95c8876a360aeea5a57dad964e09c426a6f04022a173f1bd8331c0f42c468", func := "rootcellar/rootcellarlaw05.NodeOrder", spec := "nodeOrder", inPlace := ["internal/bytealg.abigen_runtime_cmpstring"], unfollowed := true, recurses := true, plainKeys := false, apart := false }
def NodeOrderSaid : Prop := nodeOrderRow.holds Try.pinned (OpenSpec.ofChange nodeOrderSpec)

/-- ITS FALSE NEIGHBOUR: 'it returns false'. Refute it at one input. -/
def nodeOrderWrong : ChangeSpec := { name := "nodeOrder", fn := fun _ => fun
  | [d1, d2, d3] => { results := [.lit (.bool false)], args := [d1, d2, d3] }
  | _ => none }
def NodeOrderWrongFalsely : Prop := nodeOrderRow.holds Try.pinned (OpenSpec.ofChange nodeOrderWrong)

/-- 'rootcellarlaw18.VerifyWays': WHATEVER THE INPUT: true; the input reads as it did. -/
def verifyWaysSpec : ChangeSpec := { name := "verifyWays", fn := fun _ => fun
  | [d1, d2, d3, d4] => { results := [.lit (.bool true)], args := [d1, d2, d3, d4] }
  | _ => none }
def verifyWaysRow : OpenClaim := { program := "ythphhnkoilcofaa", sum := "9ea95c8876a360aeea5a57dad964e09c426a6f04022a173f1bd8331c0f42c468", func := "rootcellar/rootcellarlaw18.VerifyWays", spec := "verifyWays", inPlace := ["internal/bytealg.abigen_runtime_cmpstring"], unfollowed := true, recurses := true, plainKeys := false, apart := false }
def VerifyWaysSaid : Prop := verifyWaysRow.holds Try.pinned (OpenSpec.ofChange verifyWaysSpec)

/-- ITS FALSE NEIGHBOUR: 'it returns false'. Refute it at one input. -/
def verifyWaysWrong : ChangeSpec := { name := "verifyWays", fn := fun _ => fun
  | [d1, d2, d3, d4] => { results := [.lit (.bool false)], args := [d1, d2, d3, d4] }
  | _ => none }
def VerifyWaysWrongFalsely : Prop := verifyWaysRow.holds Try.pinned (OpenSpec.ofChange verifyWaysWrong)

/- THE SECOND FORM. 'bulk': how many values and letters a reading holds, each counted each time it is reached (what is shared counts as often as it is met; a slice's spare places count too). A statement '..UptoSaid' is the law's where the arguments, and the package variables that the reading takes, are together of bulk at most 1048576: NARROWER than '..Said'. Prove '..Said' where nothing that the law and all that it calls make is longer than what came in: it says more and counts as full. Else prove '..UptoSaid'. A law counts once. -/
mutual
def uptoBulk {H : Type} : DataW H → Nat
  | .lit (.string bytes) => bytes.length + 1
  | .lit _ => 1
  | .nil => 1
  | .ptr d => uptoBulk d + 1
  | .slice elems spare => uptoBulkAll elems + uptoBulkAll spare + 1
  | .agg parts => uptoBulkAll parts + 1
  | .iface _ d => uptoBulk d + 1
  | .map entries => uptoBulkEntries entries + 1
  | .held _ => 1
def uptoBulkAll {H : Type} : List (DataW H) → Nat
  | [] => 0
  | d :: r => uptoBulk d + uptoBulkAll r
def uptoBulkEntries {H : Type} : List (Lit × DataW H) → Nat
  | [] => 0
  | x :: r => uptoBulkEntry x + uptoBulkEntries r
def uptoBulkEntry {H : Type} : Lit × DataW H → Nat
  | (.string bytes, d) => bytes.length + uptoBulk d + 1
  | (_, d) => uptoBulk d + 1
 end
def uptoSmall : (H : Type) → List (DataW H) → Bool := fun _ ds => decide (uptoBulkAll ds ≤ 1048576)
def OpenSpec.upto (s : _root_.Go.ChangeSpec) : _root_.Go.OpenSpec := { _root_.Go.OpenSpec.ofChange s with cond := some uptoSmall }

/-- 'rootcellarlaw20.MultiSingles', WHERE WHAT IT READS IS OF BULK AT MOST 1048576: true; the input reads as it did. -/
def multiSinglesUptoRow : OpenClaim := { program := "ythphhnkoilcofaa", sum := "9ea95c8876a360aeea5a57dad964e09c426a6f04022a173f1bd8331c0f42c468", func := "rootcellar/rootcellarlaw20.MultiSingles", spec := "multiSingles", inPlace := ["internal/bytealg.abigen_runtime_cmpstring"], recurses := true, plainKeys := false, apart := false, narrowed := true }
def MultiSinglesUptoSaid : Prop := multiSinglesUptoRow.holds Try.pinned (OpenSpec.upto multiSinglesSpec)

/-- 'rootcellarlaw24.SpanSingles', WHERE WHAT IT READS IS OF BULK AT MOST 1048576: true; the input reads as it did. -/
def spanSinglesUptoRow : OpenClaim := { program := "ythphhnkoilcofaa", sum := "9ea95c8876a360aeea5a57dad964e09c426a6f04022a173f1bd8331c0f42c468", func := "rootcellar/rootcellarlaw24.SpanSingles", spec := "spanSingles", inPlace := ["internal/bytealg.abigen_runtime_cmpstring"], recurses := true, plainKeys := false, apart := false, narrowed := true }
def SpanSinglesUptoSaid : Prop := spanSinglesUptoRow.holds Try.pinned (OpenSpec.upto spanSinglesSpec)

/-- 'rootcellarlaw11.BatchOrders', WHERE WHAT IT READS IS OF BULK AT MOST 1048576: true; the input reads as it did. -/
def batchOrdersUptoRow : OpenClaim := { program := "ythphhnkoilcofaa", sum := "9ea95c8876a360aeea5a57dad964e09c426a6f04022a173f1bd8331c0f42c468", func := "rootcellar/rootcellarlaw11.BatchOrders", spec := "batchOrders", inPlace := ["internal/bytealg.abigen_runtime_cmpstring"], unfollowed := true, recurses := true, plainKeys := false, apart := false, narrowed := true }
def BatchOrdersUptoSaid : Prop := batchOrdersUptoRow.holds Try.pinned (OpenSpec.upto batchOrdersSpec)

/-- 'rootcellarlaw05.NodeRoots', WHERE WHAT IT READS IS OF BULK AT MOST 1048576: true; the input reads as it did. -/
def nodeRootsUptoRow : OpenClaim := { program := "ythphhnkoilcofaa", sum := "9ea95c8876a360aeea5a57dad964e09c426a6f04022a173f1bd8331c0f42c468", func := "rootcellar/rootcellarlaw05.NodeRoots", spec := "nodeRoots", inPlace := ["internal/bytealg.abigen_runtime_cmpstring"], unfollowed := true, recurses := true, plainKeys := false, apart := false, narrowed := true }
def NodeRootsUptoSaid : Prop := nodeRootsUptoRow.holds Try.pinned (OpenSpec.upto nodeRootsSpec)

/-- 'rootcellarlaw23.DiffCalls', WHERE WHAT IT READS IS OF BULK AT MOST 1048576: true; the input reads as it did. -/
def diffCallsUptoRow : OpenClaim := { program := "ythphhnkoilcofaa", sum := "9ea95c8876a360aeea5a57dad964e09c426a6f04022a173f1bd8331c0f42c468", func := "rootcellar/rootcellarlaw23.DiffCalls", spec := "diffCalls", inPlace := ["internal/bytealg.abigen_runtime_cmpstring", "internal/reflectlite.ValueOf", "internal/reflectlite.Swapper", "(internal/reflectlite.Value).Len"], unfollowed := true, recurses := true, plainKeys := false, apart := false, narrowed := true }
def DiffCallsUptoSaid : Prop := diffCallsUptoRow.holds Try.pinned (OpenSpec.upto diffCallsSpec)

/-- 'rootcellarlaw05.NodeWays', WHERE WHAT IT READS IS OF BULK AT MOST 1048576: true; the input reads as it did. -/
def nodeWaysUptoRow : OpenClaim := { program := "ythphhnkoilcofaa", sum := "9ea95c8876a360aeea5a57dad964e09c426a6f04022a173f1bd8331c0f42c468", func := "rootcellar/rootcellarlaw05.NodeWays", spec := "nodeWays", inPlace := ["internal/bytealg.abigen_runtime_cmpstring"], unfollowed := true, recurses := true, plainKeys := false, apart := false, narrowed := true }
def NodeWaysUptoSaid : Prop := nodeWaysUptoRow.holds Try.pinned (OpenSpec.upto nodeWaysSpec)

/-- 'rootcellarlaw05.NodeOrder', WHERE WHAT IT READS IS OF BULK AT MOST 1048576: true; the input reads as it did. -/
def nodeOrderUptoRow : OpenClaim := { program := "ythphhnkoilcofaa", sum := "9ea95c8876a360aeea5a57dad964e09c426a6f04022a173f1bd8331c0f42c468", func := "rootcellar/rootcellarlaw05.NodeOrder", spec := "nodeOrder", inPlace := ["internal/bytealg.abigen_runtime_cmpstring"], unfollowed := true, recurses := true, plainKeys := false, apart := false, narrowed := true }
def NodeOrderUptoSaid : Prop := nodeOrderUptoRow.holds Try.pinned (OpenSpec.upto nodeOrderSpec)

/-- 'rootcellarlaw18.VerifyWays', WHERE WHAT IT READS IS OF BULK AT MOST 1048576: true; the input reads as it did. -/
def verifyWaysUptoRow : OpenClaim := { program := "ythphhnkoilcofaa", sum := "9ea95c8876a360aeea5a57dad964e09c426a6f04022a173f1bd8331c0f42c468", func := "rootcellar/rootcellarlaw18.VerifyWays", spec := "verifyWays", inPlace := ["internal/bytealg.abigen_runtime_cmpstring"], unfollowed := true, recurses := true, plainKeys := false, apart := false, narrowed := true }
def VerifyWaysUptoSaid : Prop := verifyWaysUptoRow.holds Try.pinned (OpenSpec.upto verifyWaysSpec)

end Rows
end Go.Proofs.Ythphhnkoilcofaa

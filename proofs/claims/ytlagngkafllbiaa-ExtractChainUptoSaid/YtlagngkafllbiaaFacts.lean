/- Closed facts of the program, each by itself: what a statement's form asks of it. -/
import Derived.Test.YtlagngkafllbiaaRows
import Derived.KernelRfl
import Derived.WalkKit
set_option linter.unusedSimpArgs false
set_option linter.unusedVariables false
namespace Go.Proofs.Ytlagngkafllbiaa.facts
open Go
def dflt : OpenClaim := { program := "", sum := "", func := "", spec := "" }
set_option maxRecDepth 100000
theorem laid : laidOutB Try.prog = true := by kernel_rfl
theorem maps : mapsRowed Try.prog = true := by kernel_rfl
theorem heard : Try.prog.stopsHeard = true := by kernel_rfl
theorem enter : Try.prog.mayEnter = true := by kernel_rfl
theorem plain : Try.prog.plainKeys = dflt.plainKeys := by kernel_rfl
theorem lifts : Try.prog.liftsFinal = dflt.lifted := by kernel_rfl
theorem made : Try.prog.make = some dflt.make := by kernel_rfl
theorem own : ownKnob Try.prog.godebug = none := by kernel_rfl
end Go.Proofs.Ytlagngkafllbiaa.facts

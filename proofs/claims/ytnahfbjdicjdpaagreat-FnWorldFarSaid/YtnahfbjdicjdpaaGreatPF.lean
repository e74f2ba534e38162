/-
  What holds of the whole program of this seat.
  No condition.
-/
import Derived.Test.YtnahfbjdicjdpaaGreatRows
namespace Go.Proofs.YtnahfbjdicjdpaaGreat.facts
open Go
set_option linter.unusedVariables false
set_option maxRecDepth 100000
theorem own : ownKnob Tryz.prog.godebug = none := by kernel_rfl
theorem laid : laidOutB Tryz.prog = true := by kernel_rfl
theorem maps : mapsRowed Tryz.prog = true := by kernel_rfl
theorem stops : (Tryz.prog.stops == []) = true := by kernel_rfl
theorem stopKnobs : (Tryz.prog.stopKnobs == []) = true := by kernel_rfl
theorem plainKeys : Tryz.prog.plainKeys = true := by kernel_rfl
theorem heard : Tryz.prog.stopsHeard = true := by kernel_rfl
theorem may : Tryz.prog.mayEnter = true := by kernel_rfl
theorem lifts : Tryz.prog.liftsFinal = false := by kernel_rfl
theorem make : Tryz.prog.make = some .cut := by kernel_rfl
end Go.Proofs.YtnahfbjdicjdpaaGreat.facts

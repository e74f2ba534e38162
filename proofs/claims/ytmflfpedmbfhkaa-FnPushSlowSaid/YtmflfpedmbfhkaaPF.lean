/-
  What holds of the whole program of this seat.
  No condition.
-/
import Derived.Test.YtmflfpedmbfhkaaRows
namespace Go.Proofs.Ytmflfpedmbfhkaa.facts
open Go
set_option linter.unusedVariables false
set_option maxRecDepth 100000
theorem own : ownKnob Try.prog.godebug = none := by kernel_rfl
theorem laid : laidOutB Try.prog = true := by kernel_rfl
theorem maps : mapsRowed Try.prog = true := by kernel_rfl
theorem stops : (Try.prog.stops == []) = true := by kernel_rfl
theorem stopKnobs : (Try.prog.stopKnobs == []) = true := by kernel_rfl
theorem plainKeys : Try.prog.plainKeys = true := by kernel_rfl
theorem heard : Try.prog.stopsHeard = true := by kernel_rfl
theorem may : Try.prog.mayEnter = true := by kernel_rfl
theorem lifts : Try.prog.liftsFinal = false := by kernel_rfl
theorem make : Try.prog.make = some .cut := by kernel_rfl
end Go.Proofs.Ytmflfpedmbfhkaa.facts

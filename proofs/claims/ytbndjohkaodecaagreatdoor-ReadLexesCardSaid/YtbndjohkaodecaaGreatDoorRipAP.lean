/- Closed facts of the program, each reckoned once. -/
import Derived.Test.YtbndjohkaodecaaGreatDoorRows
import Derived.JoinedOf
namespace Go.Proofs.YtbndjohkaodecaaGreatDoor
open Go
set_option maxRecDepth 100000
theorem laidOut : laidOutB Tryz.prog = true := by kernel_rfl
theorem vE : mapsRowed Tryz.prog = true := by kernel_rfl
theorem stopsHeard : Tryz.prog.stopsHeard = true := by kernel_rfl
theorem mayEnter : Tryz.prog.mayEnter = true := by kernel_rfl
theorem liftsFinal : Tryz.prog.liftsFinal = Rows.readLexesRow.lifted := by kernel_rfl
theorem make : Tryz.prog.make = some Rows.readLexesRow.make := by kernel_rfl
end Go.Proofs.YtbndjohkaodecaaGreatDoor

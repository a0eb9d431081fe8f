/-
Closed facts of the program, which every row of this seat asks: each a theorem of its own.
-/
import Derived.Test.YtfphcecjhdkcoaaGreatDoorKnownP14
namespace Go.Proofs.YtfphcecjhdkcoaaGreatDoor
open Go.ChangeShapes Go.WideShapes Go.ChangeAt Go.RowKit
theorem cLaid : laidOutB Tryz.prog = true := by kernel_rfl
theorem cMaps : mapsRowed Tryz.prog = true := by kernel_rfl
theorem cStops : Tryz.prog.stops = [] := by kernel_rfl
theorem cKnobs : Tryz.prog.stopKnobs = [] := by kernel_rfl
theorem cLifted : Tryz.prog.liftsFinal = Rows.formsRow.lifted := by kernel_rfl
theorem cMake : Tryz.prog.make = some Rows.formsRow.make := by kernel_rfl
theorem cKeys : Tryz.prog.plainKeys = Rows.formsRow.plainKeys := by kernel_rfl
theorem cHeard : Tryz.prog.stopsHeard = true := by kernel_rfl
theorem cEnter : Tryz.prog.mayEnter = true := by kernel_rfl
end Go.Proofs.YtfphcecjhdkcoaaGreatDoor

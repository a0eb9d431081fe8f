/-
Closed facts of the row Turned: each a theorem of its own.
-/
import Derived.Test.YtfphcecjhdkcoaaGreatDoorTurnedP18
namespace Go.Proofs.YtfphcecjhdkcoaaGreatDoor
open Go.ChangeShapes Go.WideShapes Go.ChangeAt Go.RowKit
theorem f5place : Tryz.prog.inPlace 5 = Rows.turnedRow.inPlace := by kernel_rfl
theorem f5unf : Tryz.prog.unfollowed 5 = true := by kernel_rfl
theorem f5rec : Tryz.prog.recurses 5 = true := by kernel_rfl
theorem f5named : Tryz.prog.varsNamed 5 = Rows.turnedRow.named := by kernel_rfl
theorem f5fun : Tryz.prog.funcNamed "parcels/parcelskeep.Turned" = some 5 := by kernel_rfl
theorem f5inst : Tryz.f5.isInstance Tryz.prog Rows.turnedRow.origin Rows.turnedRow.targs := of_decide_eq_true (by kernel_rfl)
theorem f5wrap : Tryz.f5.isWrapper Tryz.prog Rows.turnedRow.wrapper Rows.turnedRow.mainSum := by unfold Func.isWrapper; rw [if_neg (of_decide_eq_false (by kernel_rfl))]; exact ⟨rfl, rfl⟩
theorem f5facts : joinedFacts Tryz.prog 5 Tryz.f5 Rows.turnedSpec Rows.turnedRow = true := by
  unfold joinedFacts
  rw [cLaid, cMaps, cStops, cKnobs, cLifted, cMake, cKeys, cHeard, cEnter, f5place, f5unf, f5rec, f5named]
  kernel_rfl
end Go.Proofs.YtfphcecjhdkcoaaGreatDoor

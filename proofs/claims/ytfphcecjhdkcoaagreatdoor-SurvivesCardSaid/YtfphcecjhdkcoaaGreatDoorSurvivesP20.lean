/-
Closed facts of the row Survives: each a theorem of its own.
-/
import Derived.Test.YtfphcecjhdkcoaaGreatDoorSurvivesP18
namespace Go.Proofs.YtfphcecjhdkcoaaGreatDoor
open Go.ChangeShapes Go.WideShapes Go.ChangeAt Go.RowKit
theorem f7place : Tryz.prog.inPlace 7 = Rows.survivesRow.inPlace := by kernel_rfl
theorem f7unf : Tryz.prog.unfollowed 7 = true := by kernel_rfl
theorem f7rec : Tryz.prog.recurses 7 = true := by kernel_rfl
theorem f7named : Tryz.prog.varsNamed 7 = Rows.survivesRow.named := by kernel_rfl
theorem f7fun : Tryz.prog.funcNamed "parcels/parcelskeep.Survives" = some 7 := by kernel_rfl
theorem f7inst : Tryz.f7.isInstance Tryz.prog Rows.survivesRow.origin Rows.survivesRow.targs := of_decide_eq_true (by kernel_rfl)
theorem f7wrap : Tryz.f7.isWrapper Tryz.prog Rows.survivesRow.wrapper Rows.survivesRow.mainSum := by unfold Func.isWrapper; rw [if_neg (of_decide_eq_false (by kernel_rfl))]; exact ⟨rfl, rfl⟩
theorem f7facts : joinedFacts Tryz.prog 7 Tryz.f7 Rows.survivesSpec Rows.survivesRow = true := by
  unfold joinedFacts
  rw [cLaid, cMaps, cStops, cKnobs, cLifted, cMake, cKeys, cHeard, cEnter, f7place, f7unf, f7rec, f7named]
  kernel_rfl
end Go.Proofs.YtfphcecjhdkcoaaGreatDoor

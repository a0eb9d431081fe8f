/-
Closed facts of the row Back: each a theorem of its own.
-/
import Derived.Test.YtfphcecjhdkcoaaGreatDoorBackP18
namespace Go.Proofs.YtfphcecjhdkcoaaGreatDoor
open Go.ChangeShapes Go.WideShapes Go.ChangeAt Go.RowKit
theorem f8place : Tryz.prog.inPlace 8 = Rows.backRow.inPlace := by kernel_rfl
theorem f8unf : Tryz.prog.unfollowed 8 = true := by kernel_rfl
theorem f8rec : Tryz.prog.recurses 8 = true := by kernel_rfl
theorem f8named : Tryz.prog.varsNamed 8 = Rows.backRow.named := by kernel_rfl
theorem f8fun : Tryz.prog.funcNamed "parcels/parcelskeep.Back" = some 8 := by kernel_rfl
theorem f8inst : Tryz.f8.isInstance Tryz.prog Rows.backRow.origin Rows.backRow.targs := of_decide_eq_true (by kernel_rfl)
theorem f8wrap : Tryz.f8.isWrapper Tryz.prog Rows.backRow.wrapper Rows.backRow.mainSum := by unfold Func.isWrapper; rw [if_neg (of_decide_eq_false (by kernel_rfl))]; exact ⟨rfl, rfl⟩
theorem f8facts : joinedFacts Tryz.prog 8 Tryz.f8 Rows.backSpec Rows.backRow = true := by
  unfold joinedFacts
  rw [cLaid, cMaps, cStops, cKnobs, cLifted, cMake, cKeys, cHeard, cEnter, f8place, f8unf, f8rec, f8named]
  kernel_rfl
end Go.Proofs.YtfphcecjhdkcoaaGreatDoor

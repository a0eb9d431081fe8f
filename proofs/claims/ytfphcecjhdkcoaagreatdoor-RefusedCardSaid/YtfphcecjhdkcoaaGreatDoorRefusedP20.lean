/-
Closed facts of the row Refused: each a theorem of its own.
-/
import Derived.Test.YtfphcecjhdkcoaaGreatDoorRefusedP18
namespace Go.Proofs.YtfphcecjhdkcoaaGreatDoor
open Go.ChangeShapes Go.WideShapes Go.ChangeAt Go.RowKit
theorem f6place : Tryz.prog.inPlace 6 = Rows.refusedRow.inPlace := by kernel_rfl
theorem f6unf : Tryz.prog.unfollowed 6 = true := by kernel_rfl
theorem f6rec : Tryz.prog.recurses 6 = true := by kernel_rfl
theorem f6named : Tryz.prog.varsNamed 6 = Rows.refusedRow.named := by kernel_rfl
theorem f6fun : Tryz.prog.funcNamed "parcels/parcelskeep.Refused" = some 6 := by kernel_rfl
theorem f6inst : Tryz.f6.isInstance Tryz.prog Rows.refusedRow.origin Rows.refusedRow.targs := of_decide_eq_true (by kernel_rfl)
theorem f6wrap : Tryz.f6.isWrapper Tryz.prog Rows.refusedRow.wrapper Rows.refusedRow.mainSum := by unfold Func.isWrapper; rw [if_neg (of_decide_eq_false (by kernel_rfl))]; exact ⟨rfl, rfl⟩
theorem f6facts : joinedFacts Tryz.prog 6 Tryz.f6 Rows.refusedSpec Rows.refusedRow = true := by
  unfold joinedFacts
  rw [cLaid, cMaps, cStops, cKnobs, cLifted, cMake, cKeys, cHeard, cEnter, f6place, f6unf, f6rec, f6named]
  kernel_rfl
end Go.Proofs.YtfphcecjhdkcoaaGreatDoor

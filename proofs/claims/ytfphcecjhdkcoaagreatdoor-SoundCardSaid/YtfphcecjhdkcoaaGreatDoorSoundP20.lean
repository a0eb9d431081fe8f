/-
Closed facts of the row Sound: each a theorem of its own.
-/
import Derived.Test.YtfphcecjhdkcoaaGreatDoorSoundP18
namespace Go.Proofs.YtfphcecjhdkcoaaGreatDoor
open Go.ChangeShapes Go.WideShapes Go.ChangeAt Go.RowKit
theorem f9place : Tryz.prog.inPlace 9 = Rows.soundRow.inPlace := by kernel_rfl
theorem f9unf : Tryz.prog.unfollowed 9 = true := by kernel_rfl
theorem f9rec : Tryz.prog.recurses 9 = true := by kernel_rfl
theorem f9named : Tryz.prog.varsNamed 9 = Rows.soundRow.named := by kernel_rfl
theorem f9fun : Tryz.prog.funcNamed "parcels/parcelskeep.Sound" = some 9 := by kernel_rfl
theorem f9inst : Tryz.f9.isInstance Tryz.prog Rows.soundRow.origin Rows.soundRow.targs := of_decide_eq_true (by kernel_rfl)
theorem f9wrap : Tryz.f9.isWrapper Tryz.prog Rows.soundRow.wrapper Rows.soundRow.mainSum := by unfold Func.isWrapper; rw [if_neg (of_decide_eq_false (by kernel_rfl))]; exact ⟨rfl, rfl⟩
theorem f9facts : joinedFacts Tryz.prog 9 Tryz.f9 Rows.soundSpec Rows.soundRow = true := by
  unfold joinedFacts
  rw [cLaid, cMaps, cStops, cKnobs, cLifted, cMake, cKeys, cHeard, cEnter, f9place, f9unf, f9rec, f9named]
  kernel_rfl
end Go.Proofs.YtfphcecjhdkcoaaGreatDoor

/-
The walk of the statement's forms: a table in memory.
-/
import Derived.Test.YtfphcecjhdkcoaaGreatDoorKnownP19
namespace Go.Proofs.YtfphcecjhdkcoaaGreatDoor
open Go.RowKit
set_option maxRecDepth 100000 in
set_option maxHeartbeats 40000000 in
theorem forms_table (w : World) : Calls Tryz.prog 36 #[] w fun e w' => ∃ v, e = .returned v ∧ SlOn (fun k => k = w.heap.size) w' 3 v (V21.forms.map V21.Row3.cells) ∧ Below w.heap.size w w' := by
  go_enter Tryz.func36, Tryz.ntmps36
  go_wp2_with fail
  go_ret
  refine ⟨_, rfl, sl_of_block (by kernel_rfl) ?_ (heap_alloc_new _ _) (by kernel_rfl), (Below.refl _ _).alloc (Nat.le_refl _) _⟩
  intro x hx
  obtain ⟨r, _, rfl⟩ := List.mem_map.1 hx
  rfl
end Go.Proofs.YtfphcecjhdkcoaaGreatDoor

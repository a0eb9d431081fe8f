/-
A world that meets the rows' condition on the listed variables.
-/
import Derived.Test.YtfphcecjhdkcoaaGreatDoorKnownP14
namespace Go.Proofs.YtfphcecjhdkcoaaGreatDoor
open Go.ChangeShapes Go.WideShapes Go.ChangeAt Go.RowKit
theorem laidW_met4 (os : Os) (args : Array Value) : laidMet Tryz.prog L4 ((laidW os).forCall (fun _ _ => 0) ⟨#[], args, []⟩).memory := by
  have e1 : (L4.filter fun x => (L4.map (·.1)).contains x.1) = L4 := List.filter_eq_self.2 fun x hx => List.contains_iff_mem.2 (List.mem_map.2 ⟨x, hx, rfl⟩)
  have e2 : (L4.filter fun x => !(L4.map (·.1)).contains x.1) = [] := List.filter_eq_nil_iff.2 fun x hx => by rw [List.contains_iff_mem.2 (List.mem_map.2 ⟨x, hx, rfl⟩)]; simp
  have h : laidMet Tryz.prog L4 (laidW os) := laidMet_layVars (w0 := heldW os) (L4.map (·.1)) [] (by rw [e1]; rfl) (by rw [e1]; exact laidW_fits os) (by rw [e1]; exact laidW_ifaces os) (by rw [e2]; exact LaidIn.none)
  exact h.of_heap (by simp [World.memory, World.forCall, Input.heap])
theorem laidW_handles (os : Os) (args : Array Value) : (LL.filter fun x => x.2.handleName?.isSome).all (handleAtB Tryz.prog ((laidW os).forCall (fun _ _ => 0) ⟨#[], args, []⟩).memory) = true := by kernel_rfl
theorem laidW_met (os : Os) (args : Array Value) : laidMetH Tryz.prog LL ((laidW os).forCall (fun _ _ => 0) ⟨#[], args, []⟩).memory :=
  laidMetH_of_parts (show laidMet Tryz.prog L4 _ from laidW_met4 os args) (laidW_handles os args)
theorem laidW_zip (os : Os) (args : Array Value) : ((laidW os).forCall (fun _ _ => 0) ⟨#[], args, []⟩).variablesZipB Tryz.prog = true := by kernel_rfl
theorem laidW_shaped (os : Os) (args : Array Value) : ((laidW os).forCall (fun _ _ => 0) ⟨#[], args, []⟩).Shaped Tryz.prog := World.shaped_of_ZipB (laidW_zip os args) (by kernel_rfl)
end Go.Proofs.YtfphcecjhdkcoaaGreatDoor

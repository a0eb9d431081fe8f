/-
For every number: the row of the document's examples that it picks is as the document says. Conditions: the listed package-level variables hold what the program's text lays in them (the card ties them).
-/
import Derived.Test.YtfphcecjhdkcoaaGreatDoorKnownP17
import Derived.Test.YtfphcecjhdkcoaaGreatDoorKnownP18
import Derived.Test.YtfphcecjhdkcoaaGreatDoorKnownP22
import Derived.Test.YtfphcecjhdkcoaaGreatDoorTie
import Derived.Test.YtfphcecjhdkcoaaGreatDoorCards
import Derived.SevenTiedAt
namespace Go.Proofs.YtfphcecjhdkcoaaGreatDoor
open Go.ChangeShapes Go.WideShapes Go.ChangeAt Go.RowKit
set_option maxRecDepth 100000 in
theorem known_lifted (os : Os) (started : os.Started) (H : Type) (enc : TypeId × Value → H) :
    ReturnsInHanded {} Tryz.checked os 10 .any (fun w args => (Rows.knownSpec.pre enc Tryz.prog Tryz.f10 [] false w args ∧ laidMetH Tryz.prog LL w) ∧ sizedMet enc Tryz.prog Tryz.f10 (OpenSpec.ofChange Rows.knownSpec) false w args)
      (Rows.knownSpec.post enc Tryz.prog Tryz.f10 false true false false) := by
  refine wrap_sized (C := Tryz.checked) (X := fun w _ => laidMetH Tryz.prog LL w) (fun _ _ _ hh h => h.of_heap hh) own started (by kernel_rfl) Tryz.func10
    (ChangeSpec.witness_shaped (enc := enc) (C := Tryz.checked) (os := os) (X := fun w _ => laidMetH Tryz.prog LL w) false (laidW os) #[.int .i64 0] 8 (laidW_os os) (laidW_shaped os _) (by kernel_rfl) (by kernel_rfl) (by kernel_rfl) (laidW_met os _)) ?_
  intro W base args ds gs before hval0 hW hL hsh hsz0
  have hval : ∀ (j : Nat) t v, Tryz.f10.params[j]? = some t → args[j]? = some v → Value.okWide Tryz.prog W .any base t v := hval0
  clear hsz0
  have hW' := hW
  obtain ⟨p, q, hA0, hV, rfl, hfz, hnd⟩ := hW
  have hA : DataW.TrodAll enc Tryz.prog W 0 (fun _ => true) true Tryz.f10.params.toList args.toList ds p := hA0
  rw [Tryz.params10] at hA hval
  have hAll := hA
  obtain ⟨v0, d0, rfl, rfl, h0⟩ := trodAll_one hA
  obtain ⟨rfl, rfl⟩ := trodVars_none hV
  obtain ⟨z0, rfl, rfl, _, hz0⟩ := open_int Tryz.underlying3 (hval 0 3 v0 rfl rfl) h0
  have hG := glob_of_laid hL hsh
  have hE := errT_of_laid hL
  clear hA0 hval0
  simp only [List.append_nil] at hW'
  have hlt : ∀ x ∈ p, x.block < W.heap.size := fun x hx => by simpa using hW'.lt x hx
  refine (known_any ⟨hG, hE⟩ z0 (wf64 hz0).1 (wf64 hz0).2).mono fun e W' ⟨he, hb⟩ => ?_
  subst he
  have e1 : Rows.knownSpec.fn H ([.lit (.int .i64 z0)] ++ []) = { results := [.lit (.bool true)], args := [.lit (.int .i64 z0)] } := by simp [Rows.knownSpec]
  refine ⟨_, rfl, _, _, _, [], p, [], hW', ?_, ?_, ?_, hb.frame _, fun h => by cases h⟩
  · rw [e1]; exact trodAll_mk1 (shut_bool Tryz.underlying4 true)
  · rw [e1, Tryz.params10]; exact carry_all cLaid hb (fun t ht => readAll t (by have hm : t ∈ [3] := ht; simp only [List.mem_cons, List.not_mem_nil, or_false] at hm; simp [hm])) hAll hlt
  · rw [e1]; rfl
theorem known_holds : Rows.KnownSaid :=
  OpenClaim.holds_of_wide 10 Tryz.f10 rfl rfl rfl rfl rfl rfl rfl ⟨rfl, rfl, rfl, rfl, rfl⟩ rfl rfl rfl rfl rfl f10fun Tryz.func10 f10facts
    f10inst f10wrap
    (fun os started H enc _ => known_lifted os started H enc)
theorem known_card_holds : Rows.KnownCardSaid :=
  Claim7.holds_tied_plain_at .later [] [.data, .handle, .widerDeep, .pinned, .pinned] true (true, "f4aca273a0232dad4aecb962fc8083af1ff484613bfe0ce246a95e4460c1fc5b") true
    known_holds (fun _ h => by cases h) (by kernel_rfl) (fun _ h => by cases h) known_row_tie rfl ⟨rfl, rfl⟩ (by kernel_rfl) rfl
    (fun f fn hf hfn => by
      obtain rfl : f = 10 := Option.some.inj ((show Tryz.prog.funcNamed "parcels/parcelskeep.Known" = some 10 by kernel_rfl).symm.trans hf) |>.symm
      obtain rfl : fn = Tryz.f10 := (Option.some.inj (Tryz.func10.symm.trans hfn)).symm
      exact ⟨by kernel_rfl, fun j t ht => by
        rw [Tryz.params10] at ht
        have hm : t ∈ [3] := by simpa using Array.mem_of_getElem? ht
        have hall : ([3].all fun u => !Tryz.prog.wantsStandIn u) = true := by kernel_rfl
        exact (show Tryz.prog.wantsStandIn t = false by simpa using List.all_eq_true.1 hall t hm)⟩)
    (by kernel_rfl)
end Go.Proofs.YtfphcecjhdkcoaaGreatDoor

/-
For every script of planning: on an empty disk each plan is the document's order, or its error. Conditions: the listed package-level variables hold what the program's text lays in them (the card ties them).
-/
import Derived.Test.YtfphcecjhdkcoaaGreatDoorScrP16
import Derived.Test.YtfphcecjhdkcoaaGreatDoorScrP22
import Derived.Test.YtfphcecjhdkcoaaGreatDoorScrP25
import Derived.Test.YtfphcecjhdkcoaaGreatDoorTie
import Derived.Test.YtfphcecjhdkcoaaGreatDoorCards
import Derived.SevenTiedAt
namespace Go.Proofs.YtfphcecjhdkcoaaGreatDoor
section
open Go.ChangeShapes Go.WideShapes Go.ChangeAt Go.RowKit
theorem f11place : Tryz.prog.inPlace 11 = Rows.plansRow.inPlace := by kernel_rfl
theorem f11unf : Tryz.prog.unfollowed 11 = true := by kernel_rfl
theorem f11rec : Tryz.prog.recurses 11 = true := by kernel_rfl
theorem f11named : Tryz.prog.varsNamed 11 = Rows.plansRow.named := by kernel_rfl
theorem f11fun : Tryz.prog.funcNamed "parcels/parcelslaw.Plans" = some 11 := by kernel_rfl
theorem f11inst : Tryz.f11.isInstance Tryz.prog Rows.plansRow.origin Rows.plansRow.targs := of_decide_eq_true (by kernel_rfl)
theorem f11wrap : Tryz.f11.isWrapper Tryz.prog Rows.plansRow.wrapper Rows.plansRow.mainSum := by unfold Func.isWrapper; rw [if_neg (of_decide_eq_false (by kernel_rfl))]; exact ⟨rfl, rfl⟩
theorem f11facts : joinedFacts Tryz.prog 11 Tryz.f11 Rows.plansSpec Rows.plansRow = true := by
  unfold joinedFacts
  rw [cLaid, cMaps, cStops, cKnobs, cLifted, cMake, cKeys, cHeard, cEnter, f11place, f11unf, f11rec, f11named]
  kernel_rfl
end
section
open Go.ChangeShapes Go.WideShapes Go.ChangeAt Go.RowKit
set_option maxRecDepth 100000 in
theorem plans_lifted (os : Os) (started : os.Started) (H : Type) (enc : TypeId × Value → H) :
    ReturnsInHanded {} Tryz.checked os 11 .any (fun w args => (Rows.plansSpec.pre enc Tryz.prog Tryz.f11 [] false w args ∧ laidMetH Tryz.prog LL w) ∧ sizedMet enc Tryz.prog Tryz.f11 (OpenSpec.ofChange Rows.plansSpec) false w args)
      (Rows.plansSpec.post enc Tryz.prog Tryz.f11 false true false false) := by
  refine wrap_sized (C := Tryz.checked) (X := fun w _ => laidMetH Tryz.prog LL w) (fun _ _ _ hh h => h.of_heap hh) own started (by kernel_rfl) Tryz.func11
    (ChangeSpec.witness_shaped (enc := enc) (C := Tryz.checked) (os := os) (X := fun w _ => laidMetH Tryz.prog LL w) false (laidW os) #[.slice none 0 0] 8 (laidW_os os) (laidW_shaped os _) (by kernel_rfl) (by kernel_rfl) (by kernel_rfl) (laidW_met os _)) ?_
  intro W base args ds gs before hval0 hW hL hsh hsz0
  have hval : ∀ (j : Nat) t v, Tryz.f11.params[j]? = some t → args[j]? = some v → Value.okWide Tryz.prog W .any base t v := hval0
  have hsz : (DataW.weightsEach Tryz.prog (Tryz.f11.params.toList ++ Rows.plansSpec.plain.varTypes Tryz.prog) (ds ++ gs)).all (· ≤ reachBytes) = true := hsz0
  clear hsz0
  have hW' := hW
  obtain ⟨p, q, hA0, hV, rfl, hfz, hnd⟩ := hW
  have hA : DataW.TrodAll enc Tryz.prog W 0 (fun _ => true) true Tryz.f11.params.toList args.toList ds p := hA0
  rw [Tryz.params11] at hA hval hsz
  have hAll := hA
  obtain ⟨v0, d0, rfl, rfl, h0⟩ := trodAll_one hA
  obtain ⟨rfl, rfl⟩ := trodVars_none hV
  have hall := List.all_eq_true.1 hsz
  obtain ⟨ts0, hts0, htl0, htb0, hta0⟩ := open_ops (hval 0 75 v0 rfl rfl) h0 (fun n hn => of_decide_eq_true (hall n (DataW.weights_mem_each (j := 0) rfl rfl n hn)))
  have hG := glob_of_laid hL hsh
  have hE := errT_of_laid hL
  clear hA0 hval0
  simp only [List.append_nil] at hW'
  have hlt : ∀ x ∈ p, x.block < W.heap.size := fun x hx => by simpa using hW'.lt x hx
  refine (plans_law ⟨hG, hE⟩ v0 ts0 hts0 ⟨htl0, htb0, hta0⟩).mono fun e W' ⟨he, hb⟩ => ?_
  subst he
  have e1 : Rows.plansSpec.fn H ([d0] ++ []) = { results := [.lit (.bool true)], args := [d0] } := by simp [Rows.plansSpec]
  refine ⟨_, rfl, _, _, _, [], p, [], hW', ?_, ?_, ?_, hb.frame _, fun h => by cases h⟩
  · rw [e1]; exact trodAll_mk1 (shut_bool Tryz.underlying4 true)
  · rw [e1, Tryz.params11]; exact carry_all cLaid hb (fun t ht => readOps t (by have hm : t ∈ [75] := ht; simp only [List.mem_cons, List.not_mem_nil, or_false] at hm; simp [hm])) hAll hlt
  · rw [e1]; rfl
theorem plans_holds : Rows.PlansSaid :=
  OpenClaim.holds_of_wide 11 Tryz.f11 rfl rfl rfl rfl rfl rfl rfl ⟨rfl, rfl, rfl, rfl, rfl⟩ rfl rfl rfl rfl rfl f11fun Tryz.func11 f11facts
    f11inst f11wrap
    (fun os started H enc _ => plans_lifted os started H enc)
theorem plans_card_holds : Rows.PlansCardSaid :=
  Claim7.holds_tied_plain_at .later [] [.data, .handle, .widerDeep, .pinned, .pinned] true (true, "f4aca273a0232dad4aecb962fc8083af1ff484613bfe0ce246a95e4460c1fc5b") true
    plans_holds (fun _ h => by cases h) (by as_aux_lemma => kernel_rfl) (fun _ h => by cases h) plans_row_tie rfl ⟨rfl, rfl⟩ (by as_aux_lemma => kernel_rfl) rfl
    (fun f fn hf hfn => by
      obtain rfl : f = 11 := Option.some.inj ((show Tryz.prog.funcNamed "parcels/parcelslaw.Plans" = some 11 by as_aux_lemma => kernel_rfl).symm.trans hf) |>.symm
      obtain rfl : fn = Tryz.f11 := (Option.some.inj (Tryz.func11.symm.trans hfn)).symm
      exact ⟨by as_aux_lemma => kernel_rfl, fun j t ht => by
        rw [Tryz.params11] at ht
        have hm : t ∈ [75] := by simpa using Array.mem_of_getElem? ht
        have hall : ([75].all fun u => !Tryz.prog.wantsStandIn u) = true := by as_aux_lemma => kernel_rfl
        exact (show Tryz.prog.wantsStandIn t = false by simpa using List.all_eq_true.1 hall t hm)⟩)
    (by as_aux_lemma => kernel_rfl)
end
end Go.Proofs.YtfphcecjhdkcoaaGreatDoor

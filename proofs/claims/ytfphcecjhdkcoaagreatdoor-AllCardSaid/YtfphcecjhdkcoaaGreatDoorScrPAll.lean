/-
For every number and every script: each answer is the document's. Conditions: the listed package-level variables hold what the program's text lays in them (the card ties them).
-/
import Derived.Test.YtfphcecjhdkcoaaGreatDoorScrP16
import Derived.Test.YtfphcecjhdkcoaaGreatDoorScrP22
import Derived.Test.YtfphcecjhdkcoaaGreatDoorScrP25
import Derived.Test.YtfphcecjhdkcoaaGreatDoorTie
import Derived.Test.YtfphcecjhdkcoaaGreatDoorCards
import Derived.SevenTiedAt
namespace Go.Proofs.YtfphcecjhdkcoaaGreatDoor
section
open Go.ChangeShapes Go.WideShapes Go.ChangeAt Go.RowKit
theorem f14place : Tryz.prog.inPlace 14 = Rows.allRow.inPlace := by kernel_rfl
theorem f14unf : Tryz.prog.unfollowed 14 = true := by kernel_rfl
theorem f14rec : Tryz.prog.recurses 14 = true := by kernel_rfl
theorem f14named : Tryz.prog.varsNamed 14 = Rows.allRow.named := by kernel_rfl
theorem f14fun : Tryz.prog.funcNamed "parcels/parcelslaw.All" = some 14 := by kernel_rfl
theorem f14inst : Tryz.f14.isInstance Tryz.prog Rows.allRow.origin Rows.allRow.targs := of_decide_eq_true (by kernel_rfl)
theorem f14wrap : Tryz.f14.isWrapper Tryz.prog Rows.allRow.wrapper Rows.allRow.mainSum := by unfold Func.isWrapper; rw [if_neg (of_decide_eq_false (by kernel_rfl))]; exact ⟨rfl, rfl⟩
theorem f14facts : joinedFacts Tryz.prog 14 Tryz.f14 Rows.allSpec Rows.allRow = true := by
  unfold joinedFacts
  rw [cLaid, cMaps, cStops, cKnobs, cLifted, cMake, cKeys, cHeard, cEnter, f14place, f14unf, f14rec, f14named]
  kernel_rfl
end
section
open Go.ChangeShapes Go.WideShapes Go.ChangeAt Go.RowKit
set_option maxRecDepth 100000 in
theorem all_lifted (os : Os) (started : os.Started) (H : Type) (enc : TypeId × Value → H) :
    ReturnsInHanded {} Tryz.checked os 14 .any (fun w args => (Rows.allSpec.pre enc Tryz.prog Tryz.f14 [] false w args ∧ laidMetH Tryz.prog LL w) ∧ sizedMet enc Tryz.prog Tryz.f14 (OpenSpec.ofChange Rows.allSpec) false w args)
      (Rows.allSpec.post enc Tryz.prog Tryz.f14 false true false false) := by
  refine wrap_sized (C := Tryz.checked) (X := fun w _ => laidMetH Tryz.prog LL w) (fun _ _ _ hh h => h.of_heap hh) own started (by kernel_rfl) Tryz.func14
    (ChangeSpec.witness_shaped (enc := enc) (C := Tryz.checked) (os := os) (X := fun w _ => laidMetH Tryz.prog LL w) false (laidW os) #[.int .i64 0, .slice none 0 0] 8 (laidW_os os) (laidW_shaped os _) (by kernel_rfl) (by kernel_rfl) (by kernel_rfl) (laidW_met os _)) ?_
  intro W base args ds gs before hval0 hW hL hsh hsz0
  have hval : ∀ (j : Nat) t v, Tryz.f14.params[j]? = some t → args[j]? = some v → Value.okWide Tryz.prog W .any base t v := hval0
  have hsz : (DataW.weightsEach Tryz.prog (Tryz.f14.params.toList ++ Rows.allSpec.plain.varTypes Tryz.prog) (ds ++ gs)).all (· ≤ reachBytes) = true := hsz0
  clear hsz0
  have hW' := hW
  obtain ⟨p, q, hA0, hV, rfl, hfz, hnd⟩ := hW
  have hA : DataW.TrodAll enc Tryz.prog W 0 (fun _ => true) true Tryz.f14.params.toList args.toList ds p := hA0
  rw [Tryz.params14] at hA hval hsz
  have hAll := hA
  obtain ⟨v0, v1, d0, d1, p0, p1, rfl, rfl, hp, h0, h1⟩ := trodAll_two hA
  obtain ⟨rfl, rfl⟩ := trodVars_none hV
  have hall := List.all_eq_true.1 hsz
  obtain ⟨z0, rfl, rfl, _, hz0⟩ := open_int Tryz.underlying3 (hval 0 3 v0 rfl rfl) h0
  obtain ⟨ts1, hts1, htl1, htb1, hta1⟩ := open_ops (hval 1 75 v1 rfl rfl) h1 (fun n hn => of_decide_eq_true (hall n (DataW.weights_mem_each (j := 1) rfl rfl n hn)))
  have hG := glob_of_laid hL hsh
  have hE := errT_of_laid hL
  clear hA0 hval0
  simp only [List.append_nil] at hW'
  have hlt : ∀ x ∈ p, x.block < W.heap.size := fun x hx => by simpa using hW'.lt x hx
  refine (all_law ⟨hG, hE⟩ z0 v1 ts1 hts1 ⟨htl1, htb1, hta1⟩).mono fun e W' ⟨he, hb⟩ => ?_
  subst he
  have e1 : Rows.allSpec.fn H ([.lit (.int .i64 z0), d1] ++ []) = { results := [.lit (.bool true)], args := [.lit (.int .i64 z0), d1] } := by simp [Rows.allSpec]
  refine ⟨_, rfl, _, _, _, [], p, [], hW', ?_, ?_, ?_, hb.frame _, fun h => by cases h⟩
  · rw [e1]; exact trodAll_mk1 (shut_bool Tryz.underlying4 true)
  · rw [e1, Tryz.params14]; exact carry_all cLaid hb (fun t ht => readOps t (by have hm : t ∈ [3, 75] := ht; simp only [List.mem_cons, List.not_mem_nil, or_false] at hm; rcases hm with h | h <;> simp [h])) hAll hlt
  · rw [e1]; rfl
theorem all_holds : Rows.AllSaid :=
  OpenClaim.holds_of_wide 14 Tryz.f14 rfl rfl rfl rfl rfl rfl rfl ⟨rfl, rfl, rfl, rfl, rfl⟩ rfl rfl rfl rfl rfl f14fun Tryz.func14 f14facts
    f14inst f14wrap
    (fun os started H enc _ => all_lifted os started H enc)
theorem all_card_holds : Rows.AllCardSaid :=
  Claim7.holds_tied_plain_at .later [] [.data, .handle, .widerDeep, .pinned, .pinned] true (true, "f4aca273a0232dad4aecb962fc8083af1ff484613bfe0ce246a95e4460c1fc5b") true
    all_holds (fun _ h => by cases h) (by as_aux_lemma => kernel_rfl) (fun _ h => by cases h) all_row_tie rfl ⟨rfl, rfl⟩ (by as_aux_lemma => kernel_rfl) rfl
    (fun f fn hf hfn => by
      obtain rfl : f = 14 := Option.some.inj ((show Tryz.prog.funcNamed "parcels/parcelslaw.All" = some 14 by as_aux_lemma => kernel_rfl).symm.trans hf) |>.symm
      obtain rfl : fn = Tryz.f14 := (Option.some.inj (Tryz.func14.symm.trans hfn)).symm
      exact ⟨by as_aux_lemma => kernel_rfl, fun j t ht => by
        rw [Tryz.params14] at ht
        have hm : t ∈ [3, 75] := by simpa using Array.mem_of_getElem? ht
        have hall : ([3, 75].all fun u => !Tryz.prog.wantsStandIn u) = true := by as_aux_lemma => kernel_rfl
        exact (show Tryz.prog.wantsStandIn t = false by simpa using List.all_eq_true.1 hall t hm)⟩)
    (by as_aux_lemma => kernel_rfl)
end
end Go.Proofs.YtfphcecjhdkcoaaGreatDoor

/-
For all numbers and every two slices of texts: the power goes in the middle of an installation, and of opening: all of it is there, or what was; all, if it had come back. Conditions: the listed package-level variables hold what the program's text lays in them (the card ties them).
-/
import Derived.Test.YtfphcecjhdkcoaaGreatDoorSurvivesP19
import Derived.Test.YtfphcecjhdkcoaaGreatDoorSurvivesP20
import Derived.Test.YtfphcecjhdkcoaaGreatDoorSurvivesP21
import Derived.Test.YtfphcecjhdkcoaaGreatDoorTie
import Derived.Test.YtfphcecjhdkcoaaGreatDoorCards
import Derived.SevenTiedAt
namespace Go.Proofs.YtfphcecjhdkcoaaGreatDoor
open Go.ChangeShapes Go.WideShapes Go.ChangeAt Go.RowKit
set_option maxRecDepth 100000 in
theorem survives_lifted (os : Os) (started : os.Started) (H : Type) (enc : TypeId × Value → H) :
    ReturnsInHanded {} Tryz.checked os 7 .any (fun w args => (Rows.survivesSpec.pre enc Tryz.prog Tryz.f7 [] false w args ∧ laidMetH Tryz.prog LL w) ∧ sizedMet enc Tryz.prog Tryz.f7 (OpenSpec.ofChange Rows.survivesSpec) false w args)
      (Rows.survivesSpec.post enc Tryz.prog Tryz.f7 false true false false) := by
  refine wrap_sized (C := Tryz.checked) (X := fun w _ => laidMetH Tryz.prog LL w) (fun _ _ _ hh h => h.of_heap hh) own started (by kernel_rfl) Tryz.func7
    (ChangeSpec.witness_shaped (enc := enc) (C := Tryz.checked) (os := os) (X := fun w _ => laidMetH Tryz.prog LL w) false (laidW os) #[.int .i64 0, .slice none 0 0, .slice none 0 0, .int .i64 0, .int .i64 0, .int .i64 0] 8 (laidW_os os) (laidW_shaped os _) (by kernel_rfl) (by kernel_rfl) (by kernel_rfl) (laidW_met os _)) ?_
  intro W base args ds gs before hval0 hW hL hsh hsz0
  have hval : ∀ (j : Nat) t v, Tryz.f7.params[j]? = some t → args[j]? = some v → Value.okWide Tryz.prog W .any base t v := hval0
  have hsz : (DataW.weightsEach Tryz.prog (Tryz.f7.params.toList ++ Rows.survivesSpec.plain.varTypes Tryz.prog) (ds ++ gs)).all (· ≤ reachBytes) = true := hsz0
  clear hsz0
  have hW' := hW
  obtain ⟨p, q, hA0, hV, rfl, hfz, hnd⟩ := hW
  have hA : DataW.TrodAll enc Tryz.prog W 0 (fun _ => true) true Tryz.f7.params.toList args.toList ds p := hA0
  rw [Tryz.params7] at hA hval hsz
  have hAll := hA
  obtain ⟨v0, v1, v2, v3, v4, v5, d0, d1, d2, d3, d4, d5, p0, p1, p2, p3, p4, p5, rfl, rfl, hp, h0, h1, h2, h3, h4, h5⟩ := trodAll_six hA
  obtain ⟨rfl, rfl⟩ := trodVars_none hV
  have hall := List.all_eq_true.1 hsz
  obtain ⟨z0, rfl, rfl, _, hz0⟩ := open_int Tryz.underlying3 (hval 0 3 v0 rfl rfl) h0
  obtain ⟨ts1, hts1, htl1, htb1⟩ := open_texts (hval 1 38 v1 rfl rfl) h1 (fun n hn => of_decide_eq_true (hall n (DataW.weights_mem_each (j := 1) rfl rfl n hn)))
  obtain ⟨ts2, hts2, htl2, htb2⟩ := open_texts (hval 2 38 v2 rfl rfl) h2 (fun n hn => of_decide_eq_true (hall n (DataW.weights_mem_each (j := 2) rfl rfl n hn)))
  obtain ⟨z3, rfl, rfl, _, hz3⟩ := open_int Tryz.underlying3 (hval 3 3 v3 rfl rfl) h3
  obtain ⟨z4, rfl, rfl, _, hz4⟩ := open_int Tryz.underlying3 (hval 4 3 v4 rfl rfl) h4
  obtain ⟨z5, rfl, rfl, _, hz5⟩ := open_int Tryz.underlying3 (hval 5 3 v5 rfl rfl) h5
  have hG := glob_of_laid hL hsh
  have hE := errT_of_laid hL
  clear hA0 hval0
  simp only [List.append_nil] at hW'
  have hlt : ∀ x ∈ p, x.block < W.heap.size := fun x hx => by simpa using hW'.lt x hx
  refine (survives_any ⟨hG, hE⟩ z0 z3 z4 z5 (wf64 hz3).1 (wf64 hz3).2 (wf64 hz4).1 (wf64 hz4).2 (wf64 hz5).1 (wf64 hz5).2 v1 v2 ts1 ts2 hts1 hts2 htl1 htb1 htl2 htb2).mono fun e W' ⟨he, hb⟩ => ?_
  subst he
  have e1 : Rows.survivesSpec.fn H ([.lit (.int .i64 z0), d1, d2, .lit (.int .i64 z3), .lit (.int .i64 z4), .lit (.int .i64 z5)] ++ []) = { results := [.lit (.bool true)], args := [.lit (.int .i64 z0), d1, d2, .lit (.int .i64 z3), .lit (.int .i64 z4), .lit (.int .i64 z5)] } := by simp [Rows.survivesSpec]
  refine ⟨_, rfl, _, _, _, [], p, [], hW', ?_, ?_, ?_, hb.frame _, fun h => by cases h⟩
  · rw [e1]; exact trodAll_mk1 (shut_bool Tryz.underlying4 true)
  · rw [e1, Tryz.params7]; exact carry_all cLaid hb (fun t ht => readAll t (by have hm : t ∈ [3, 38, 38, 3, 3, 3] := ht; simp only [List.mem_cons, List.not_mem_nil, or_false] at hm; rcases hm with h | h | h | h | h | h <;> simp [h])) hAll hlt
  · rw [e1]; rfl
theorem survives_holds : Rows.SurvivesSaid :=
  OpenClaim.holds_of_wide 7 Tryz.f7 rfl rfl rfl rfl rfl rfl rfl ⟨rfl, rfl, rfl, rfl, rfl⟩ rfl rfl rfl rfl rfl f7fun Tryz.func7 f7facts
    f7inst f7wrap
    (fun os started H enc _ => survives_lifted os started H enc)
theorem survives_card_holds : Rows.SurvivesCardSaid :=
  Claim7.holds_tied_plain_at .later [] [.data, .handle, .widerDeep, .pinned, .pinned] true (true, "f4aca273a0232dad4aecb962fc8083af1ff484613bfe0ce246a95e4460c1fc5b") true
    survives_holds (fun _ h => by cases h) (by kernel_rfl) (fun _ h => by cases h) survives_row_tie rfl ⟨rfl, rfl⟩ (by kernel_rfl) rfl
    (fun f fn hf hfn => by
      obtain rfl : f = 7 := Option.some.inj ((show Tryz.prog.funcNamed "parcels/parcelskeep.Survives" = some 7 by kernel_rfl).symm.trans hf) |>.symm
      obtain rfl : fn = Tryz.f7 := (Option.some.inj (Tryz.func7.symm.trans hfn)).symm
      exact ⟨by kernel_rfl, fun j t ht => by
        rw [Tryz.params7] at ht
        have hm : t ∈ [3, 38, 38, 3, 3, 3] := by simpa using Array.mem_of_getElem? ht
        have hall : ([3, 38, 38, 3, 3, 3].all fun u => !Tryz.prog.wantsStandIn u) = true := by kernel_rfl
        exact (show Tryz.prog.wantsStandIn t = false by simpa using List.all_eq_true.1 hall t hm)⟩)
    (by kernel_rfl)
end Go.Proofs.YtfphcecjhdkcoaaGreatDoor

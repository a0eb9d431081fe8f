/-
For every number and every two slices of texts: what is refused changes nothing, and what is planned is installed if there is room. Conditions: the listed package-level variables hold what the program's text lays in them (the card ties them).
-/
import Derived.Test.YtfphcecjhdkcoaaGreatDoorRefusedP16
import Derived.Test.YtfphcecjhdkcoaaGreatDoorRefusedP19
import Derived.Test.YtfphcecjhdkcoaaGreatDoorRefusedP20
import Derived.Test.YtfphcecjhdkcoaaGreatDoorTie
import Derived.Test.YtfphcecjhdkcoaaGreatDoorCards
import Derived.SevenTiedAt
/-
The walk of the law Refused.
-/
namespace Go.Proofs.YtfphcecjhdkcoaaGreatDoor
open Go.RowKit Go.Maps
set_option maxRecDepth 100000 in
set_option maxHeartbeats 4000000 in
theorem refused_any {G : Nat} {w : World} (hw : Wd G w) (z : Int) (va vb : Value) (fs ts : List Sp.Str) (hva : StrsAt w va fs) (hvb : StrsAt w vb ts)
    (hl1 : fs.length ≤ 2305843009213693952) (hs1 : ∀ s ∈ fs, s.length ≤ 2305843009213693952) (hl2 : ts.length ≤ 2305843009213693952) (hs2 : ∀ s ∈ ts, s.length ≤ 2305843009213693952) :
    Calls Tryz.prog 6 #[.int .i64 z, va, vb] w fun e w' => e = .returned (.bool true) ∧ Below w.heap.size w w' := by
  have HVA := Lib.hid (fun (W : World) (hW : Below w.heap.size w W) => StrsAt.below' hva hW hW.size)
  have HVB := Lib.hid (fun (W : World) (hW : Below w.heap.size w W) => StrsAt.below' hvb hW hW.size)
  have HW := Lib.hid (fun (W : World) (hW : Below w.heap.size w W) => hw.keep hW)
  have hGw := hw.glob.size
  have HSM1 := Lib.hid (small_any va fs hva hl1 hs1)
  have HSM2 := Lib.hid (fun (W : World) (hW : Below w.heap.size w W) => small_any vb ts (StrsAt.below' hvb hW hW.size) hl2 hs2)
  obtain ⟨vba, vbc, rfl, _, _⟩ := hvb.get
  clear hva hvb hw hs1 hs2
  go_enter Tryz.func6, Tryz.ntmps6
  go_wp2_with fail
  refine HSM1.out.mono ?_
  rintro e w1 ⟨g1, rfl, hb1, hsm1⟩
  have HB1 := Lib.hid hb1
  have H1 := Lib.hid hsm1
  clear hb1 hsm1
  go_wp2_with fail
  refine (HSM2.out w1 HB1.out).mono ?_
  rintro e w2 ⟨g2, rfl, hb2, hsm2⟩
  have HB2 := Lib.hid (HB1.out.trans (hb2.mono HB1.out.size))
  have H2 := Lib.hid hsm2
  clear hb2 hsm2
  cases g1 with
  | false =>
    go_wp2
    go_ret
    exact ⟨rfl, HB2.out⟩
  | true =>
    cases g2 with
    | false =>
      go_wp2
      go_ret
      exact ⟨rfl, HB2.out⟩
    | true =>
      have hk1 := H1.out rfl
      have hk2 := H2.out rfl
      unfold LW.bulk at hk1 hk2
      have hf5 : fs.length ≤ 5000 := by omega
      have ht5 : ts.length ≤ 5000 := by omega
      clear hk1 hk2
      go_wp2_with fail
      refine (anchored_any (HW.out w2 HB2.out)).mono ?_
      rintro e w3 ⟨rfl, hb3⟩
      have HB3 := Lib.hid (HB2.out.trans (hb3.mono HB2.out.size))
      clear hb3
      go_wp2_with fail
      refine (Run.new (HW.out w3 HB3.out) z).mono ?_
      rintro e w4 ⟨x, rfl, hb4, hrun⟩
      have hz3 := HB3.out.size
      have hz4 := hb4.size
      have HB4 := Lib.hid (HB3.out.trans (hb4.mono hz3))
      have HR0 := Lib.hid hrun
      have hlast : (Sp.St.new (secs z)).last = 0 := (V11.new_sure ⟨(secs_ok z).1, (secs_ok z).2.1⟩).2.1
      obtain ⟨st0, hst0⟩ : ∃ st0, st0 = Sp.St.new (secs z) := ⟨_, rfl⟩
      rw [← hst0] at HR0 hlast
      clear hrun hb4 hst0
      have hbA : Below w4.heap.size w4 (w4.alloc (.cells #[.int .i64 0, .int .i64 0, .int .i64 0, .string ⟨#[]⟩] 23)) := (Below.refl _ _).alloc (Nat.le_refl _) _
      have hzA : (w4.alloc (.cells #[.int .i64 0, .int .i64 0, .int .i64 0, .string ⟨#[]⟩] 23)).heap.size = w4.heap.size + 1 := by simp
      have HBA := Lib.hid (HB4.out.trans (hbA.mono (by omega)))
      have HRA := Lib.hid (HR0.out.below hbA)
      have HZA := Lib.hid hzA
      clear hbA hzA HR0
      unfold faultV sv Sp.okF
      go_wp2_with fail
      generalize (w4.alloc (.cells #[.int .i64 0, .int .i64 0, .int .i64 0, .string ⟨#[]⟩] 23)) = w4A at *
      have hzA1 := Nat.le_of_eq HZA.out
      have hzA2 := Nat.le_of_eq HZA.out.symm
      refine (Run.install (HW.out _ HBA.out) HRA.out (by omega) (by omega) (by omega) va fs (HVA.out _ HBA.out) hf5).mono ?_
      rintro e w5 ⟨rfl, hch5, hrun5⟩
      have hz5 := hch5.size
      have HB5 := Lib.hid (HBA.out.trans (hch5.below (B := w.heap.size) HBA.out.size fun k hk => by have := hk.1; omega))
      obtain ⟨st1, hst1⟩ : ∃ st1, st1 = (st0.install fs).2 := ⟨_, rfl⟩
      have hlast1 : st1.last ≤ 1 := by rw [hst1]; have := (V11.install_sure HRA.out.sure (by omega) fs).2; omega
      rw [← hst1] at hrun5
      have HR5 := Lib.hid hrun5
      clear hch5 hrun5 hst1
      -- the law, in plain
      obtain ⟨r1, r2, r3⟩ := V11.refused_law HR5.out.sure (by omega) ts
      have hsure2 := (V11.install_sure HR5.out.sure (by omega) ts)
      obtain ⟨p, hp⟩ : ∃ p, p = (st1.plan ts).1 := ⟨_, rfl⟩
      obtain ⟨o, ho⟩ : ∃ o, o = (st1.plan ts).2 := ⟨_, rfl⟩
      obtain ⟨g, hg⟩ : ∃ g, g = (st1.install ts).1 := ⟨_, rfl⟩
      obtain ⟨st2, hst2⟩ : ∃ st2, st2 = (st1.install ts).2 := ⟨_, rfl⟩
      obtain ⟨l, hl⟩ : ∃ l, l = Sp.texts st1.L := ⟨_, rfl⟩
      obtain ⟨n, hn⟩ : ∃ n, n = Sp.texts st2.L := ⟨_, rfl⟩
      have hll : l.length ≤ 600 := by rw [hl]; exact HR5.out.texts
      rw [← hp, ← ho] at r1
      rw [← hst2, ← hp, ← hg, ← hl, ← hn] at r2 r3
      have R1 := Lib.hid r1
      have R2 := Lib.hid r2
      have R3 := Lib.hid r3
      have HP := Lib.hid hp
      have HO := Lib.hid ho
      have HG := Lib.hid hg
      have HS2' := Lib.hid hst2
      have HL := Lib.hid hl
      have HN := Lib.hid hn
      clear r1 r2 r3 hp ho hg hst2 hl hn hsure2
      go_wp2_with fail
      refine HR5.out.packages.mono ?_
      rintro e w6 ⟨v1, rfl, hv1, hb6⟩
      have hz6 := hb6.size
      rw [← HL.out] at hv1
      have HB6 := Lib.hid (HB5.out.trans (hb6.mono (by omega)))
      have HR6 := Lib.hid (HR5.out.below hb6)
      have HV1 := Lib.hid hv1
      clear hv1 hb6
      go_wp2_with fail
      refine (Run.plan (HW.out _ HB6.out) HR6.out (by omega) _ ts (HVB.out _ HB6.out) ht5).mono ?_
      rintro e w7 ⟨vo, rfl, hvo, hb7⟩
      have hz7 := hb7.size
      rw [← HP.out]
      rw [← HO.out] at hvo
      obtain ⟨oa, oc, rfl, hoc, _⟩ := hvo.at_.get
      have hbA : Below w7.heap.size w7 (w7.alloc (.cells #[.int .i64 (p.kind : Int), .int .i64 (p.which : Int), .int .i64 (p.line : Int), .string ⟨p.name.toArray⟩] 23)) := (Below.refl _ _).alloc (Nat.le_refl _) _
      have hzB : (w7.alloc (.cells #[.int .i64 (p.kind : Int), .int .i64 (p.which : Int), .int .i64 (p.line : Int), .string ⟨p.name.toArray⟩] 23)).heap.size = w7.heap.size + 1 := by simp
      have HFP := Lib.hid (FB.new w7 p)
      have HB7 := Lib.hid ((HB6.out.trans (hb7.mono (by omega))).trans (hbA.mono (by omega)))
      have HR7 := Lib.hid ((HR6.out.below hb7).below hbA)
      have HV7 := Lib.hid ((HV1.out.below hb7).below hbA)
      have HZB := Lib.hid hzB
      clear hbA hzB hb7 hvo
      unfold faultV sv
      go_wp2_with fail
      generalize (w7.alloc (.cells #[.int .i64 (p.kind : Int), .int .i64 (p.which : Int), .int .i64 (p.line : Int), .string ⟨p.name.toArray⟩] 23)) = w7A at *
      have hzB1 := Nat.le_of_eq HZB.out
      have hzB2 := Nat.le_of_eq HZB.out.symm
      refine HR7.out.packages.mono ?_
      rintro e w8 ⟨v2, rfl, hv2, hb8⟩
      have hz8 := hb8.size
      rw [← HL.out] at hv2
      have HB8 := Lib.hid (HB7.out.trans (hb8.mono (by omega)))
      have HR8 := Lib.hid (HR7.out.below hb8)
      have HV8 := Lib.hid (HV7.out.below hb8)
      have HFP8 := Lib.hid (HFP.out.below hb8)
      have hsm := same_any v1 v2 l l HV8.out.at_ hv2.at_ (by omega)
      rw [decide_eq_true (show l = l from rfl)] at hsm
      have HSM := Lib.hid hsm
      clear hsm hv2 hb8
      go_wp2_with fail
      refine HSM.out.mono ?_
      rintro e w9 ⟨rfl, hb9⟩
      have hz9 := hb9.size
      have HB9 := Lib.hid (HB8.out.trans (hb9.mono (by omega)))
      have HR9 := Lib.hid (HR8.out.below hb9)
      have HV9 := Lib.hid (HV8.out.below hb9)
      have HFP9 := Lib.hid (HFP8.out.below hb9)
      clear hb9
      go_wp2_with fail
      refine (Run.install (HW.out _ HB9.out) HR9.out (by omega) (by omega) (by omega) _ ts (HVB.out _ HB9.out) ht5).mono ?_
      rintro e w10 ⟨rfl, hch10, hrun10⟩
      have hz10 := hch10.size
      rw [← HG.out]
      rw [← HS2'.out] at hrun10
      have hO5 : ∀ k, (fun k => w3.heap.size ≤ k ∧ k < w4.heap.size) k ∨ w4A.heap.size ≤ k ∧ k < w5.heap.size → k < w5.heap.size := fun k hk => by
        rcases hk with hk | hk
        · have := hk.2; omega
        · exact hk.2
      have HB10 := Lib.hid (HB9.out.trans (hch10.below (B := w.heap.size) (by omega) fun k hk => by
        rcases hk with hk | hk
        · have := hk.1; omega
        · omega))
      have HV10 := Lib.hid (HV9.out.chg hch10 hO5)
      have HFP10 := Lib.hid (HFP9.out.chg hch10 fun hk => by have := hO5 _ hk; omega)
      have hbA : Below w10.heap.size w10 (w10.alloc (.cells #[.int .i64 (g.kind : Int), .int .i64 (g.which : Int), .int .i64 (g.line : Int), .string ⟨g.name.toArray⟩] 23)) := (Below.refl _ _).alloc (Nat.le_refl _) _
      have hzC : (w10.alloc (.cells #[.int .i64 (g.kind : Int), .int .i64 (g.which : Int), .int .i64 (g.line : Int), .string ⟨g.name.toArray⟩] 23)).heap.size = w10.heap.size + 1 := by simp
      have HFG := Lib.hid (FB.new w10 g)
      have HBA' := Lib.hid (HB10.out.trans (hbA.mono (by omega)))
      have HR10 := Lib.hid (hrun10.below hbA)
      have HV10A := Lib.hid (HV10.out.below hbA)
      have HFP10A := Lib.hid (HFP10.out.below hbA)
      have HZC := Lib.hid hzC
      clear hch10 hrun10 hO5 hbA hzC
      unfold faultV sv
      go_wp2_with fail
      generalize (w10.alloc (.cells #[.int .i64 (g.kind : Int), .int .i64 (g.which : Int), .int .i64 (g.line : Int), .string ⟨g.name.toArray⟩] 23)) = w10A at *
      have hzC1 := Nat.le_of_eq HZC.out
      have hzC2 := Nat.le_of_eq HZC.out.symm
      refine HR10.out.packages.mono ?_
      rintro e w11 ⟨v3, rfl, hv3, hb11⟩
      have hz11 := hb11.size
      rw [← HN.out] at hv3
      have hnl : n.length ≤ 600 := by rw [HN.out]; exact HR10.out.texts
      have HB11 := Lib.hid (HBA'.out.trans (hb11.mono (by omega)))
      have HV11 := Lib.hid (HV10A.out.below hb11)
      have hsm := same_any v1 v3 l n HV11.out.at_ hv3.at_ (by omega)
      have HSM2' := Lib.hid hsm
      have HFP11 := Lib.hid (HFP10A.out.below hb11)
      have HFG11 := Lib.hid (HFG.out.below hb11)
      have HV3 := Lib.hid hv3
      clear hsm hv3 hb11
      go_wp2_with fail
      refine HSM2'.out.mono ?_
      rintro e w12 ⟨rfl, hb12⟩
      have hz12 := hb12.size
      have HB12 := Lib.hid (HB11.out.trans (hb12.mono (by omega)))
      obtain ⟨c0, c1, c2, c3⟩ := (HFP11.out.below hb12).cells
      obtain ⟨d0, d1, d2, d3⟩ := (HFG11.out.below hb12).cells
      obtain ⟨la, lc, rfl, _, _⟩ := HV1.out.at_.get
      obtain ⟨na, nc, rfl, _, _⟩ := HV3.out.at_.get
      have hpl : w7.heap.size < w12.heap.size := by omega
      have hgl : w10.heap.size < w12.heap.size := by omega
      clear hb12
      by_cases hgk : g.kind = 0
      · obtain ⟨h1, h2⟩ := R3.out hgk
        have h3 := R1.out h1
        have i1 : (g.kind : Int) = 0 := by omega
        have i2 : (p.kind : Int) = 0 := by omega
        have i3 : (o.length : Int) = (ts.length : Int) := by omega
        have i4 : (n.length : Int) = (l.length : Int) + (ts.length : Int) := by omega
        clear h1 h2 h3 hgk
        go_wp2
        go_ret
        exact ⟨rfl, HB12.out⟩
      · obtain ⟨h1, h2⟩ := R2.out hgk
        have hd : decide (l = n) = true := decide_eq_true h1.symm
        have i1 : ¬ ((g.kind : Int) = 0) := by omega
        have HFIN := Lib.hid HB12.out
        rcases h2 with h2 | ⟨h2, h3⟩
        · subst h2
          clear h1 hgk
          go_wp2
          go_ret
          exact ⟨rfl, HFIN.out⟩
        · have h4 := R1.out h2
          have i2 : (p.kind : Int) = 0 := by omega
          have i3 : (o.length : Int) = (ts.length : Int) := by omega
          have i4 : (g.kind : Int) = 8 := by omega
          clear h1 hgk h2 h3 h4 i1
          go_wp2
          go_ret
          exact ⟨rfl, HFIN.out⟩
end Go.Proofs.YtfphcecjhdkcoaaGreatDoor
namespace Go.Proofs.YtfphcecjhdkcoaaGreatDoor
open Go.ChangeShapes Go.WideShapes Go.ChangeAt Go.RowKit
set_option maxRecDepth 100000 in
theorem refused_lifted (os : Os) (started : os.Started) (H : Type) (enc : TypeId × Value → H) :
    ReturnsInHanded {} Tryz.checked os 6 .any (fun w args => (Rows.refusedSpec.pre enc Tryz.prog Tryz.f6 [] false w args ∧ laidMetH Tryz.prog LL w) ∧ sizedMet enc Tryz.prog Tryz.f6 (OpenSpec.ofChange Rows.refusedSpec) false w args)
      (Rows.refusedSpec.post enc Tryz.prog Tryz.f6 false true false false) := by
  refine wrap_sized (C := Tryz.checked) (X := fun w _ => laidMetH Tryz.prog LL w) (fun _ _ _ hh h => h.of_heap hh) own started (by kernel_rfl) Tryz.func6
    (ChangeSpec.witness_shaped (enc := enc) (C := Tryz.checked) (os := os) (X := fun w _ => laidMetH Tryz.prog LL w) false (laidW os) #[.int .i64 0, .slice none 0 0, .slice none 0 0] 8 (laidW_os os) (laidW_shaped os _) (by kernel_rfl) (by kernel_rfl) (by kernel_rfl) (laidW_met os _)) ?_
  intro W base args ds gs before hval0 hW hL hsh hsz0
  have hval : ∀ (j : Nat) t v, Tryz.f6.params[j]? = some t → args[j]? = some v → Value.okWide Tryz.prog W .any base t v := hval0
  have hsz : (DataW.weightsEach Tryz.prog (Tryz.f6.params.toList ++ Rows.refusedSpec.plain.varTypes Tryz.prog) (ds ++ gs)).all (· ≤ reachBytes) = true := hsz0
  clear hsz0
  have hW' := hW
  obtain ⟨p, q, hA0, hV, rfl, hfz, hnd⟩ := hW
  have hA : DataW.TrodAll enc Tryz.prog W 0 (fun _ => true) true Tryz.f6.params.toList args.toList ds p := hA0
  rw [Tryz.params6] at hA hval hsz
  have hAll := hA
  obtain ⟨v0, v1, v2, d0, d1, d2, p0, p1, p2, rfl, rfl, hp, h0, h1, h2⟩ := trodAll_three hA
  obtain ⟨rfl, rfl⟩ := trodVars_none hV
  obtain ⟨z, rfl, rfl, _, hz⟩ := open_int Tryz.underlying3 (hval 0 3 v0 rfl rfl) h0
  have hall := List.all_eq_true.1 hsz
  obtain ⟨fs, hfs, hfl, hfb⟩ := open_texts (hval 1 38 v1 rfl rfl) h1 (fun n hn => of_decide_eq_true (hall n (DataW.weights_mem_each (j := 1) rfl rfl n hn)))
  obtain ⟨ts, hts, htl, htb⟩ := open_texts (hval 2 38 v2 rfl rfl) h2 (fun n hn => of_decide_eq_true (hall n (DataW.weights_mem_each (j := 2) rfl rfl n hn)))
  have hG := glob_of_laid hL hsh
  have hE := errT_of_laid hL
  clear hA0 hval0
  simp only [List.append_nil] at hW'
  have hlt : ∀ x ∈ p, x.block < W.heap.size := fun x hx => by simpa using hW'.lt x hx
  refine (refused_any ⟨hG, hE⟩ z v1 v2 fs ts hfs hts hfl hfb htl htb).mono fun e W' ⟨he, hb⟩ => ?_
  subst he
  have e1 : Rows.refusedSpec.fn H ([.lit (.int .i64 z), d1, d2] ++ []) = { results := [.lit (.bool true)], args := [.lit (.int .i64 z), d1, d2] } := by simp [Rows.refusedSpec]
  refine ⟨_, rfl, _, _, _, [], p, [], hW', ?_, ?_, ?_, hb.frame _, fun h => by cases h⟩
  · rw [e1]; exact trodAll_mk1 (shut_bool Tryz.underlying4 true)
  · rw [e1, Tryz.params6]; exact carry_all cLaid hb (fun t ht => readAll t (by simp at ht ⊢; rcases ht with h | h <;> simp [h])) hAll hlt
  · rw [e1]; rfl
theorem refused_holds : Rows.RefusedSaid :=
  OpenClaim.holds_of_wide 6 Tryz.f6 rfl rfl rfl rfl rfl rfl rfl ⟨rfl, rfl, rfl, rfl, rfl⟩ rfl rfl rfl rfl rfl f6fun Tryz.func6 f6facts
    f6inst f6wrap
    (fun os started H enc _ => refused_lifted os started H enc)
theorem refused_card_holds : Rows.RefusedCardSaid :=
  Claim7.holds_tied_plain_at .later [] [.data, .handle, .widerDeep, .pinned, .pinned] true (true, "f4aca273a0232dad4aecb962fc8083af1ff484613bfe0ce246a95e4460c1fc5b") true
    refused_holds (fun _ h => by cases h) (by kernel_rfl) (fun _ h => by cases h) refused_row_tie rfl ⟨rfl, rfl⟩ (by kernel_rfl) rfl
    (fun f fn hf hfn => by
      obtain rfl : f = 6 := Option.some.inj ((show Tryz.prog.funcNamed "parcels/parcelskeep.Refused" = some 6 by kernel_rfl).symm.trans hf) |>.symm
      obtain rfl : fn = Tryz.f6 := (Option.some.inj (Tryz.func6.symm.trans hfn)).symm
      exact ⟨by kernel_rfl, fun j t ht => by
        rw [Tryz.params6] at ht
        have hm : t ∈ [3, 38, 38] := by simpa using Array.mem_of_getElem? ht
        have hall : ([3, 38, 38].all fun u => !Tryz.prog.wantsStandIn u) = true := by kernel_rfl
        exact (show Tryz.prog.wantsStandIn t = false by simpa using List.all_eq_true.1 hall t hm)⟩)
    (by kernel_rfl)
end Go.Proofs.YtfphcecjhdkcoaaGreatDoor

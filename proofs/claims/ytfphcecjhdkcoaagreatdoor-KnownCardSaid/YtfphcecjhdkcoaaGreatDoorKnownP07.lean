/-
The program's line, whatever line comes.
-/
import Derived.Test.YtfphcecjhdkcoaaGreatDoorKnownP02
import Derived.Test.YtfphcecjhdkcoaaGreatDoorKnownP06
import Derived.Deep.RegionWith
import Derived.RegionDies
import Derived.Deep.RegionLaw
import Derived.Deep.AppendLies
import Derived.Deep.DeepCutAuto
/-
Walks of the program's path: its parts.
-/
namespace Go.Proofs.YtfphcecjhdkcoaaGreatDoor
open Go.RowKit
theorem pathS_arr : bl ⟨#[97, 98, 99, 100, 101, 102, 103, 104, 105, 106, 107, 108, 109, 110, 111, 112, 113, 114, 115, 116, 117, 118, 119, 120, 121, 122, 48, 49, 50, 51, 52, 53, 54, 55, 56, 57, 46, 95]⟩ = Sp.pathS := rfl
theorem part_yes (s : ByteArray) (w : World) (hn : Sp.isPart (bl s) = true) :
    Calls Tryz.prog 198 #[.string s] w fun e w' => e = .returned (.int .i64 0) ∧ Below w.heap.size w w' := by
  obtain ⟨ha, h1, h2⟩ : Sp.among (bl s) Sp.pathS 1 8 = true ∧ (s.toList == [46]) = false ∧ (s.toList == [46, 46]) = false := by
    unfold Sp.isPart at hn; simp only [Bool.and_eq_true] at hn; rw [toList_bl]; simpa [and_assoc] using hn
  have HA := Lib.hid ha
  clear ha hn
  go_enter Tryz.func198, Tryz.ntmps198
  go_wp2_with fail
  refine (among_any s _ 1 8 w (by decide) (W1.ascii_of (by decide))).mono ?_
  rintro e w1 ⟨rfl, hb⟩
  rw [pathS_arr, HA.out]
  go_wp2_with fail
  refine (must_true _).mono ?_
  rintro e w2 ⟨rfl, rfl⟩
  go_wp2
  go_ret
  exact ⟨rfl, hb⟩
theorem part_no (s : ByteArray) (w : World) (hn : Sp.isPart (bl s) = false) :
    Calls Tryz.prog 198 #[.string s] w fun e w' => e = .panicked [{v := .iface 177 (.agg #[]), recovered := false}] ∧ Below w.heap.size w w' := by
  cases ha : Sp.among (bl s) Sp.pathS 1 8 with
  | false =>
    have HA := Lib.hid ha
    clear ha hn
    go_enter Tryz.func198, Tryz.ntmps198
    go_wp2_with fail
    refine (among_any s _ 1 8 w (by decide) (W1.ascii_of (by decide))).mono ?_
    rintro e w1 ⟨rfl, hb⟩
    rw [pathS_arr, HA.out]
    go_wp2_with fail
    refine (must_false _).mono ?_
    rintro e w2 ⟨rfl, rfl⟩
    go_wp2
    exact ⟨rfl, rfl, hb⟩
  | true =>
    have HA := Lib.hid ha
    by_cases h1 : bl s = [46]
    · have h1' : (s.toList == [46]) = true := by rw [toList_bl, h1]; rfl
      clear ha hn h1
      go_enter Tryz.func198, Tryz.ntmps198
      go_wp2_with fail
      refine (among_any s _ 1 8 w (by decide) (W1.ascii_of (by decide))).mono ?_
      rintro e w1 ⟨rfl, hb⟩
      rw [pathS_arr, HA.out]
      go_wp2_with fail
      refine (must_false _).mono ?_
      rintro e w2 ⟨rfl, rfl⟩
      go_wp2
      exact ⟨rfl, rfl, hb⟩
    · have h1' : (s.toList == [46]) = false := by rw [toList_bl]; simpa using h1
      have h2' : (s.toList == [46, 46]) = true := by
        rw [toList_bl]; unfold Sp.isPart at hn; rw [ha] at hn
        have hx : (bl s != [46]) = true := by simpa using h1
        rw [hx] at hn; simpa using hn
      clear ha hn h1
      go_enter Tryz.func198, Tryz.ntmps198
      go_wp2_with fail
      refine (among_any s _ 1 8 w (by decide) (W1.ascii_of (by decide))).mono ?_
      rintro e w1 ⟨rfl, hb⟩
      rw [pathS_arr, HA.out]
      go_wp2_with fail
      refine (must_false _).mono ?_
      rintro e w2 ⟨rfl, rfl⟩
      go_wp2
      exact ⟨rfl, rfl, hb⟩
def partO (s : Sp.Str) : Option Int := if Sp.isPart s then some 0 else none
theorem partO_none {G : Nat} (s : ByteArray) (w : World) (_hG : Glob G w) (_hs : s.size < 4294967281) (h : partO (bl s) = none) :
    Calls Tryz.prog 198 #[.string s] w fun e w' => e = .panicked [{v := .iface 177 (.agg #[]), recovered := false}] ∧ Below w.heap.size w w' := by
  unfold partO at h
  split at h
  · cases h
  · rename_i hn; exact part_no s w (by simpa using hn)
theorem partO_some {G : Nat} (s : ByteArray) (w : World) (c : Int) (_hG : Glob G w) (_hs : s.size < 4294967281) (h : partO (bl s) = some c) :
    Calls Tryz.prog 198 #[.string s] w fun e w' => e = .returned (.int .i64 c) ∧ Below w.heap.size w w' := by
  unfold partO at h
  split at h
  · rename_i hn; cases h; exact part_yes s w hn
  · cases h
/-- What 'each' of parts comes to. -/
def EachI (s sep : Sp.Str) (most B : Nat) (w : World) (e : Ending) (w' : World) : Prop :=
  Below B w w' ∧ ((∃ l v, Sp.each s sep most partO = some l ∧ e = .returned v ∧ w'.ownsRow B 3 1 v l.length (l.map (Value.int .i64))) ∨ (Sp.each s sep most partO = none ∧ e = .panicked [{v := .iface 177 (.agg #[]), recovered := false}]))
set_option maxRecDepth 100000 in
set_option maxHeartbeats 400000 in
theorem eachI_any {G : Nat} (s sep : ByteArray) (most : Nat) (w : World) (hG : Glob G w) (hs : s.size < 1000000) (h0 : 0 < sep.size) :
    Calls Tryz.prog 197 #[.string s, .string sep, .int .i64 most, .func (.func 198) #[] #[]] w (EachI (bl s) (bl sep) most w.heap.size w) := by
  have htn : bl sep ≠ [] := by intro h; rw [← bl_len, h] at h0; simp at h0
  have hpl := Sp.split_length (bl s) (bl sep) htn
  rw [bl_len] at hpl
  have hpm : ∀ x ∈ Lib.split (bl s) (bl sep), x.length < 1000000 := fun x hx => by
    have := Sp.split_mem (bl s) (bl sep) x htn hx; rw [bl_len] at this; omega
  have HPM := Lib.hid hpm
  clear htn hpm
  obtain ⟨B, hB⟩ : ∃ B, w.heap.size = B := ⟨_, rfl⟩
  rw [hB]
  have hGB : G ≤ B := by rw [← hB]; exact hG.size
  have HB := Lib.hid hB
  clear hB
  go_enter Tryz.func197, Tryz.ntmps197
  go_wp2_with fail
  refine (splitS_any s sep w hG (by omega) h0).mono ?_
  rintro e w1 ⟨v, rfl, hv, hb⟩
  generalize hL : Lib.split (bl s) (bl sep) = L at *
  obtain ⟨a, cap, rfl, hcap, hget⟩ := hv.get
  have HL := Lib.hid hL.symm
  have HG := Lib.hid hget
  clear hL hv hget
  rw [HB.out] at hb
  go_wp2
  go_loopw [9, 16] (fun v i wr => ∃ (k : Nat) (done : List Int), k ≤ L.length ∧ i = .int .i64 k ∧ Sp.mapO partO (L.take k) = some done ∧ wr.ownsRow w1.heap.size 3 1 v done.length (done.map (Value.int .i64)) ∧ Below w1.heap.size w1 wr) (fun _ i _ => L.length - (intOf i).toNat)
  case atStart => exact ⟨0, [], Nat.zero_le _, rfl, rfl, World.ownsRow_nil _ _ _ _, Below.refl _ _⟩
  case round =>
    obtain ⟨k, done, hk, rfl, hdone, hown, hbel⟩ := hrel
    have hlen := W3.mapO_len _ _ _ hdone
    rw [List.length_take, Nat.min_eq_left hk] at hlen
    have HD := Lib.hid hdone
    have hn : done.length ≤ 1000000 := by omega
    have HLEN := Lib.hid hlen
    have hbw : Below B w wr := hb.trans (hbel.mono (by have := hb.size; rw [HB.out] at this; exact this))
    have hGr : Glob G wr := hG.below hbw hGB
    have hw1 : w1.heap.size ≤ wr.heap.size := hbel.size
    have hbw0 : B ≤ wr.heap.size := by have := hbw.size; rw [HB.out] at this; exact this
    clear hdone hlen
    by_cases h : k < L.length
    · obtain ⟨b, off, rfl, hbb, hcell⟩ := HG.out k h
      have hcell' := (hbel.cell (p := ⟨b, off + k, none⟩) hbb).trans hcell
      have hpiece : (⟨L[k].toArray⟩ : ByteArray).size < 4294967281 := by
        have := HPM.out L[k] (List.getElem_mem h); rw [← bl_len, bl_mk]; omega
      clear hcell HG
      cases hone : partO L[k] with
      | none =>
        have HO := Lib.hid hone
        clear hone
        go_wp2_with fail
        refine (partO_none ⟨L[k].toArray⟩ wr hGr hpiece HO.out).mono ?_
        rintro e w2 ⟨rfl, hb2⟩
        go_wp2
        exact ⟨rfl, hbw.trans (hb2.mono hbw0), .inr ⟨W3.each_stop HL.out (W3.mapO_stop _ L[k] L (List.getElem_mem h) HO.out), rfl⟩⟩
      | some c =>
        have HO := Lib.hid hone
        clear hone
        go_wp2_with fail
        refine (partO_some ⟨L[k].toArray⟩ wr c hGr hpiece HO.out).mono ?_
        rintro e w2 ⟨rfl, hb2⟩
        have hown2 := W3.row_keep hown hb2
        have hbel2 := hbel.trans (hb2.mono hw1)
        go_wp2_with (at_builtin; refine wp_app app77 w2 [.int .i64 c] rfl (by simp [Value.oneCell']) rfl _ _ rfl w1.heap.size _ _ _ rfl hown2 rfl (by omega) (by have := hb2.size; omega) ?_; intro v' w3 hown' hgrow _)
        have hbel3 := below_of_grown hbel2 hbel2.size hown2 hgrow
        go_roundw
        case rel => exact ⟨k + 1, done ++ [c], h, by go_num, W3.mapO_next h HD.out HO.out, by simpa using hown', hbel3⟩
        case measure => simp [intOf]; omega
    · obtain rfl : k = L.length := by omega
      have hdone' : Sp.mapO partO L = some done := by have := HD.out; rwa [List.take_length] at this
      have hln : (done.length : Int) = L.length := by have := HLEN.out; omega
      have HD' := Lib.hid hdone'
      have HLN := Lib.hid hln
      clear hdone' hln HG
      obtain ⟨ra, rc, rfl⟩ := W3.row_slice hown
      by_cases hmo : done.length ≤ most
      · go_wp2_with fail
        refine (must_true _).mono ?_
        rintro e w2 ⟨rfl, rfl⟩
        go_wp2
        go_ret
        exact ⟨hbw, .inl ⟨done, _, by rw [W3.each_of HL.out HD'.out, if_pos hmo], rfl, W3.row_base hown (by have := hb.size; rw [HB.out] at this; exact this)⟩⟩
      · go_wp2_with fail
        refine (must_false _).mono ?_
        rintro e w2 ⟨rfl, rfl⟩
        go_wp2
        exact ⟨rfl, hbw, .inr ⟨by rw [W3.each_of HL.out HD'.out, if_neg hmo], rfl⟩⟩
theorem mapO_part : ∀ L : List Sp.Str, L.all Sp.isPart = true → Sp.mapO partO L = some (L.map fun _ => 0)
  | [], _ => rfl
  | x :: r, h => by
    rw [List.all_cons, Bool.and_eq_true] at h
    have hx : partO x = some 0 := if_pos h.1
    simp only [Sp.mapO, mapO_part r h.2, hx]
    rfl
theorem each_path (s : Sp.Str) : Sp.isPath s = (Sp.each s [47] 3 partO).isSome := by
  cases h : (Lib.split s [47]).all Sp.isPart with
  | true =>
    rw [W3.each_of rfl (mapO_part _ h)]
    unfold Sp.isPath
    rw [h, Bool.true_and, List.length_map]
    by_cases h2 : (Lib.split s [47]).length ≤ 3
    · rw [if_pos h2]; simp [h2]
    · rw [if_neg h2]; simp [h2]
  | false =>
    obtain ⟨x, hx, hp⟩ := List.all_eq_false.1 h
    rw [W3.each_stop rfl (W3.mapO_stop partO x _ hx (if_neg hp))]
    unfold Sp.isPath
    rw [h]; rfl
theorem path_yes {G : Nat} (s : ByteArray) (w : World) (hG : Glob G w) (hs : s.size < 1000000) (h : Sp.isPath (bl s) = true) :
    Calls Tryz.prog 159 #[.string s] w fun e w' => e = .returned (.string s) ∧ Below w.heap.size w w' := by
  rw [each_path] at h
  have H := Lib.hid h
  clear h
  go_enter Tryz.func159, Tryz.ntmps159
  go_wp2_with fail
  refine (eachI_any s _ 3 w hG hs (by decide)).mono ?_
  rintro e w1 ⟨hb, ⟨l, v, _, rfl, _⟩ | ⟨hno, _⟩⟩
  · go_wp2
    go_ret
    exact ⟨rfl, hb⟩
  · exfalso
    have := H.out
    rw [show ([47] : Sp.Str) = bl ⟨#[47]⟩ from rfl, hno] at this
    cases this
theorem path_no {G : Nat} (s : ByteArray) (w : World) (hG : Glob G w) (hs : s.size < 1000000) (h : Sp.isPath (bl s) = false) :
    Calls Tryz.prog 159 #[.string s] w fun e w' => e = .panicked [{v := .iface 177 (.agg #[]), recovered := false}] ∧ Below w.heap.size w w' := by
  rw [each_path] at h
  have H := Lib.hid h
  clear h
  go_enter Tryz.func159, Tryz.ntmps159
  go_wp2_with fail
  refine (eachI_any s _ 3 w hG hs (by decide)).mono ?_
  rintro e w1 ⟨hb, ⟨l, v, hl, _, _⟩ | ⟨_, rfl⟩⟩
  · exfalso
    have := H.out
    rw [show ([47] : Sp.Str) = bl ⟨#[47]⟩ from rfl, hl] at this
    cases this
  · go_wp2
    exact ⟨rfl, rfl, hb⟩
end Go.Proofs.YtfphcecjhdkcoaaGreatDoor
/-
The lines that name a file: those whose path is none; the others.
-/
namespace Go.Proofs.YtfphcecjhdkcoaaGreatDoor
open Go.RowKit
theorem cut_fst (s t : Sp.Str) : (Lib.cut s t).1.length ≤ s.length := by
  unfold Lib.cut; split
  · simp; omega
  · simp
set_option maxRecDepth 100000 in
set_option maxHeartbeats 1000000 in
theorem line_file_no4 {G : Nat} (m b : Nat) (p : Sp.Pk) (s : ByteArray) (w : World) (hG : Glob G w) (hP : PackAt w m b p) (hs : s.size < 1000000) (i : Nat) (a1 a2 : Sp.Str) (b1 b2 : Sp.Str) (hA : Lib.cut (bl s) [32] = (a1, a2, true)) (hi : ((i : Int) == 0) = false) (hw0 : (a1 == [112, 97, 99, 107, 97, 103, 101]) = false) (hw1 : (a1 == [110, 101, 101, 100, 115]) = false) (hw2 : (a1 == [98, 97, 114, 115]) = false) (hw3 : (a1 == [102, 105, 108, 101]) = true) (hB : Lib.cut a2 [61] = (b1, b2, true)) (hc : b2.length ≤ 24) (hfl : p.files.length < 4) (hp : Sp.isPath b1 = false) :
    Calls Tryz.prog 103 #[.pointer (some ⟨b, 0, none⟩), .int .i64 (i : Int), .string s] w fun e w' => e = .panicked [{v := .iface 177 (.agg #[]), recovered := false}] ∧ FrN m b w w' := by
  have hPw := hP
  obtain ⟨nv, bv, fv, hmw, hbm, h0, h1, h2, h3, h4, g0, g1, g2, n0, n1, n2, hz⟩ := hP
  have ha2 : a2.length < 1000000 := by
    have := W2.cut_snd (bl s) [32]
    rw [hA, bl_len] at this; simp only at this; omega
  have HA := Lib.hid hA
  have hb1 : (⟨b1.toArray⟩ : ByteArray).size < 1000000 := by
    rw [← bl_len, bl_mk]
    have : b1.length ≤ a2.length := by have := cut_fst a2 [61]; rw [hB] at this; exact this
    omega
  have HP : Hid (Sp.isPath (bl ⟨b1.toArray⟩) = false) := Lib.hid (by rw [bl_mk]; exact hp)
  obtain ⟨fa, fc, rfl⟩ := W3.row_slice g2
  have HB := Lib.hid hB
  clear hA hB hp hPw h0 h1 h2 h3 g0 g1 g2 n0 n1 n2 hz
  go_enter Tryz.func103, Tryz.ntmps103
  go_wp2_with fail
  refine (cutS_any s _ w hG (by omega)).mono ?_
  rintro e w1 ⟨rfl, k, rfl⟩
  rw [show bl ⟨#[32]⟩ = [32] from rfl, HA.out]
  have hbk : Below w.heap.size w (w.drewN k) := below_drawn w k
  have hGk := hG.keep hbk
  go_wp2_with fail
  refine (must_true _).mono ?_
  rintro e wx ⟨rfl, rfl⟩
  go_wp2_with fail
  refine (cutS_any _ _ _ hGk (by rw [← bl_len, bl_mk]; omega)).mono ?_
  rintro e wx ⟨rfl, k2, rfl⟩
  rw [show bl ⟨#[61]⟩ = [61] from rfl, bl_mk, HB.out]
  go_wp2_with fail
  rw [show decide ((p.files.length : Int) < 4) = true from decide_eq_true (by omega)]
  refine (must_true _).mono ?_
  rintro e wx ⟨rfl, rfl⟩
  have hpn := fun W hGW => path_no ⟨b1.toArray⟩ W (G := G) hGW hb1 HP.out
  have hGn := hG.keep (below_drawn w (k + k2))
  clear hc hfl
  go_wp2_with fail
  go_region_dies
  all_goals (refine (hpn _ (hG.keep (below_drawn w _))).mono ?_; rintro e w5 ⟨rfl, hb5⟩; exact ⟨rfl, rfl, FrN.of_below ((below_drawn w _).trans (hb5.mono (below_drawn w _).size)) hmw⟩)
end Go.Proofs.YtfphcecjhdkcoaaGreatDoor
/-
The lines that name a file: those that are one but for a clash.
-/
namespace Go.Proofs.YtfphcecjhdkcoaaGreatDoor
open Go.RowKit
theorem PackAt.addFile {w w6 : World} {m b : Nat} {p : Sp.Pk} (h : PackAt w m b p) (f : Sp.Fl) (g cap : Nat)
    (hown : w6.ownsRow m 182 2 (.slice (some ⟨g, 0, none⟩) (p.files.length + 1) cap) (p.files.length + 1) (p.files.flatMap flCells ++ flCells f)) (hg : Below m w w6) :
    PackAt (w6.setCell ⟨b, 4, none⟩ (.slice (some ⟨g, 0, none⟩) (p.files.length + 1) cap)) m b { p with files := p.files ++ [f] } := by
  obtain ⟨nv, bv, fv', hm, hbm, h0, h1, h2, h3, h4, g0, g1, g2, n0, n1, n2, hz⟩ := h
  have hc : ∀ o, w6.cell? ⟨b, o, none⟩ = w.cell? ⟨b, o, none⟩ := fun o => hg.cell (p := ⟨b, o, none⟩) (show b < m by omega)
  have hf : ∀ o, w6.frozen? ⟨b, o, none⟩ = false := fun o => (hg.frozen (p := ⟨b, o, none⟩) (show b < m by omega)).trans (hz o)
  obtain ⟨c1, c2, c3, c4, c5⟩ := set_facts w6 b 4 (.slice (some ⟨g, 0, none⟩) (p.files.length + 1) cap) _ ((hc 4).trans h4) hf
  have hsz := hg.size
  refine ⟨nv, bv, _, by omega, hbm, ((c2 0 (by omega)).trans (hc 0)).trans h0, ((c2 1 (by omega)).trans (hc 1)).trans h1, ((c2 2 (by omega)).trans (hc 2)).trans h2, ((c2 3 (by omega)).trans (hc 3)).trans h3, c1,
    g0.keep fun x hx => (c3 x (by omega)).trans (hg.block x hx.1), SlOn.keep g1 fun x hx => (c3 x (by omega)).trans (hg.block x hx.1), ?_, n0, n1, fun e => by simp at e, c4⟩
  rw [List.length_append, List.flatMap_append]
  have : [f].flatMap flCells = flCells f := by simp
  rw [this]
  exact row_block hown fun k hk => c3 k (by omega)
theorem PackAt.isPack {w : World} {m b : Nat} {p : Sp.Pk} (h : PackAt w m b p) : IsPack (fun x => x < w.heap.size) w b p := by
  obtain ⟨nv, bv, fv, hm, hbm, h0, h1, h2, h3, h4, g0, g1, g2, n0, n1, n2, hz⟩ := h
  refine ⟨nv, bv, fv, by omega, h0, h1, h2, h3, h4, g0.mono fun x hx => by omega, SlOn.mono g1 fun x hx => by omega, ?_, n0, n1⟩
  refine SlAt.of_row (B := m) (e := 182) (fun x hx => ?_) ?_
  · obtain ⟨f, _, rfl⟩ := List.mem_map.1 hx; rfl
  · rw [List.length_map]
    have : (p.files.map flCells).flatten = p.files.flatMap flCells := by simp [List.flatMap]
    rw [this]; exact g2
theorem set_one {w : World} {mb b m : Nat} {p : Sp.Pk} (hown : w.ownsMap Tryz.prog 9 Rv mb 1 ((DataW.map [] : DataW Value).put (.string p.name) (.held (.pointer (some ⟨b, 0, none⟩))))) (hP : PackAt w m b p) (hok : PkOk p) (hn : p.name.length ≤ maxLen) :
    SetOn (fun x => x < w.heap.size) w mb [(b, p)] := by
  have hm : Maps.IsMap (DataW.map [] : DataW Value) := Maps.isMap_empty
  refine ⟨⟨_, hown, ?_, ?_, ?_⟩, by simp, ?_⟩
  · rfl
  · intro q hq z
    rw [List.mem_singleton] at hq
    subst hq
    exact Maps.atKey_put_same hm (isKey9 p.name hn) _ _
  · intro k hk
    refine ⟨(b, p), by simp, Classical.byContradiction fun hne => ?_⟩
    rw [Maps.has_put_other hne] at hk
    cases hk
  · intro q hq
    rw [List.mem_singleton] at hq
    subst hq
    exact ⟨hP.isPack, hok⟩
set_option maxRecDepth 100000 in
set_option maxHeartbeats 1000000 in
theorem line_file_yes0 {G : Nat} (m b : Nat) (p : Sp.Pk) (s : ByteArray) (w : World) (hG : Glob G w) (hP : PackAt w m b p) (hs : s.size < 1000000) (i : Nat) (a1 a2 : Sp.Str) (b1 b2 : Sp.Str) (hA : Lib.cut (bl s) [32] = (a1, a2, true)) (hi : ((i : Int) == 0) = false) (hw0 : (a1 == [112, 97, 99, 107, 97, 103, 101]) = false) (hw1 : (a1 == [110, 101, 101, 100, 115]) = false) (hw2 : (a1 == [98, 97, 114, 115]) = false) (hw3 : (a1 == [102, 105, 108, 101]) = true) (hB : Lib.cut a2 [61] = (b1, b2, true)) (hc : b2.length ≤ 24) (hfl : p.files.length < 4) (hp : Sp.isPath b1 = true) (hok : PkOk { p with files := p.files ++ [⟨b1, b2⟩] }) :
    Calls Tryz.prog 103 #[.pointer (some ⟨b, 0, none⟩), .int .i64 (i : Int), .string s] w fun e w' => FrN m b w w' ∧ ((Sp.clash1 (p.files.map (·.path) ++ [b1]) = false ∧ e = .returned (.tuple #[]) ∧ PackAt w' m b { p with files := p.files ++ [⟨b1, b2⟩] }) ∨ (Sp.clash1 (p.files.map (·.path) ++ [b1]) = true ∧ e = .panicked [{v := .iface 177 (.agg #[]), recovered := false}])) := by
  have hPw := hP
  obtain ⟨nv, bv, fv, hmw, hbm, h0, h1, h2, h3, h4, g0, g1, g2, n0, n1, n2, hz⟩ := hP
  have ha2 : a2.length < 1000000 := by
    have := W2.cut_snd (bl s) [32]
    rw [hA, bl_len] at this; simp only at this; omega
  have HA := Lib.hid hA
  have hb1 : (⟨b1.toArray⟩ : ByteArray).size < 1000000 := by
    rw [← bl_len, bl_mk]
    have : b1.length ≤ a2.length := by have := cut_fst a2 [61]; rw [hB] at this; exact this
    omega
  have HP : Hid (Sp.isPath (bl ⟨b1.toArray⟩) = true) := Lib.hid (by rw [bl_mk]; exact hp)
  obtain ⟨fa, fc, rfl⟩ := W3.row_slice g2
  have HB := Lib.hid hB
  have HPW := Lib.hid hPw
  have HZ := Lib.hid hz
  clear hA hB hp hPw h0 h1 h2 h3 g0 g1 n0 n1 n2 hz
  go_enter Tryz.func103, Tryz.ntmps103
  go_wp2_with fail
  refine (cutS_any s _ w hG (by omega)).mono ?_
  rintro e w1 ⟨rfl, k, rfl⟩
  rw [show bl ⟨#[32]⟩ = [32] from rfl, HA.out]
  have hbk : Below w.heap.size w (w.drewN k) := below_drawn w k
  have hGk := hG.keep hbk
  go_wp2_with fail
  refine (must_true _).mono ?_
  rintro e wx ⟨rfl, rfl⟩
  go_wp2_with fail
  refine (cutS_any _ _ _ hGk (by rw [← bl_len, bl_mk]; omega)).mono ?_
  rintro e wx ⟨rfl, k2, rfl⟩
  rw [show bl ⟨#[61]⟩ = [61] from rfl, bl_mk, HB.out]
  go_wp2_with fail
  rw [show decide ((p.files.length : Int) < 4) = true from decide_eq_true (by omega)]
  refine (must_true _).mono ?_
  rintro e wx ⟨rfl, rfl⟩
  have hpn := fun W hGW => path_yes ⟨b1.toArray⟩ W (G := G) hGW hb1 HP.out
  have hGn := hG.keep (below_drawn w (k + k2))
  go_wp2_with fail
  go_cut [] (fun wx => PackAt wx m b { p with files := p.files ++ [⟨b1, b2⟩] } ∧ FrN m b w wx)
  case first =>
    go_region_law (first
      | (refine step_app app173 _ [_, _] rfl (by simp [Value.oneCell']) rfl _ _ rfl m _ _ _ rfl hown5 rfl (by omega) (by have := hb5'.size; omega) ?_; intro g cap w6 hown6 hg6; have hb6 := below_of_grown (Below.refl m w5) (by have := hb5'.size; omega) hown5 hg6; have hc6 := (hb6.cell (p := ⟨b, 4, none⟩) (show b < m by omega)).trans h45; have hf6 := (hb6.frozen (p := ⟨b, 4, none⟩) (show b < m by omega)).trans hf5)
      | (go_simp; go_at_call 159; refine (hpn _ (hG.keep (below_drawn w _))).mono ?_; rintro e w5 ⟨rfl, hb5⟩; have hb5' : Below w.heap.size w w5 := (below_drawn w _).trans (hb5.mono (below_drawn w _).size); have hown5 := W3.row_keep g2 hb5'; have h45 := ((bcell hb5').1 b 4 (by omega)).trans h4; have hf5 := ((bcell hb5').2 b 4 (by omega)).trans (HZ.out 4); have hl5 : b < w5.heap.size := by have := hb5'.size; omega))
    all_goals
      go_wp2_with fail
      go_meet
      exact ⟨(HPW.out.below hb5').addFile ⟨b1, b2⟩ g cap hown6 hb6, (FrN.of_below hb5' hmw).trans (FrN.trans ⟨hb6.os, hb6.tape, hb6.output, hb6.size, fun k hk _ => hb6.block k hk⟩ (FrN.set _ _ _ _ _))⟩
  case rest =>
    obtain ⟨hP6, hF6⟩ := hcut
    clear HP HB HPW HZ hpn hGn g2 h4 hb1 hGk hbk HA
    have hname := hok.name
    simp only at hname
    obtain ⟨w7, hins, hown7, hg7⟩ := (World.ownsMap_made wc Tryz.prog 9 Rv).update (t := 139) keyed9 Tryz.underlying139 (by decide) (keyOf9 p.name (by unfold maxLen; omega)) (val := .pointer (some ⟨b, 0, none⟩)) rfl
    have hs7 := hg7.size
    simp only [World.size_alloc] at hs7
    have hb7 : Below wc.heap.size wc w7 := ⟨hg7.os, hg7.tape, hg7.output, by omega, fun k hk => (hg7.block k (by simp; omega) (by simp; omega)).trans (Below.heap_alloc _ _ _ hk)⟩
    have hP7 := hP6.below hb7
    have hset := set_one (p := { p with files := p.files ++ [⟨b1, b2⟩] }) hown7 hP7 hok (by show p.name.length ≤ maxLen; unfold maxLen; omega)
    have hcl := clashes_any wc.heap.size [(b, { p with files := p.files ++ [⟨b1, b2⟩] })] w7 hset (by simp)
    obtain ⟨nv, bv, fv, hmw6, hbm6, h0, h1, h2, h3, h4, g0, g1, g2, n0, n1, n2, hz⟩ := hP6
    have hbl6 : b < wc.heap.size := by omega
    have HP7 := Lib.hid hP7
    have HF6 := Lib.hid hF6
    have hmm := @run_makeMap Tryz.prog
    clear h0 h1 h3 h4 g0 g1 g2 n0 n1 n2 hz hP7 hset hF6
    unfold sv at h2
    go_wp2_with (go_at_call 125; refine hcl.mono ?_; rintro e w8 ⟨v, l, rfl, hb8, hl8, hs8, hx8⟩; obtain ⟨la, lc, rfl, _⟩ := StrsAt.get hl8)
    have e9 : ([(b, { p with files := p.files ++ [⟨b1, b2⟩] })].flatMap fun q : Nat × Sp.Pk => pathsOf q.2) = p.files.map (·.path) ++ [b1] := by simp [pathsOf]
    rw [e9] at hx8
    have hcn := clash_none _ l hx8
    have hb9 := hb7.trans (hb8.mono hb7.size)
    have hf9 := HF6.out.trans (FrN.of_below (n := m) (b := b) hb9 hmw6)
    have hP9 := HP7.out.below hb8
    cases hcc : Sp.clash1 (p.files.map (·.path) ++ [b1]) with
    | false =>
      obtain rfl := hcn.2 hcc
      refine (must_true _).mono ?_
      rintro e wx ⟨rfl, rfl⟩
      go_wp2_with fail
      go_end0
      exact ⟨hf9, .inl ⟨hcc, rfl, hP9⟩⟩
    | true =>
      have hne : ((l.length : Int) == 0) = false := by
        rw [beq_eq_false_iff_ne]
        intro e
        have := hcn.1 (List.length_eq_zero_iff.1 (by omega))
        rw [hcc] at this; cases this
      rw [hne]
      refine (must_false _).mono ?_
      rintro e wx ⟨rfl, rfl⟩
      go_wp2_with fail
      exact ⟨rfl, hf9, .inr ⟨hcc, rfl⟩⟩
end Go.Proofs.YtfphcecjhdkcoaaGreatDoor
/-
Plain laws: what a line makes of a package that keeps the bounds keeps them.
-/
namespace Go.Proofs.YtfphcecjhdkcoaaGreatDoor
namespace P2
theorem among_len {s set : Sp.Str} {a b : Nat} (h : Sp.among s set a b = true) : s.length ≤ b := by
  unfold Sp.among at h; simp at h; exact h.2
theorem name_len {s : Sp.Str} (h : Sp.isName s = true) : s.length ≤ 12 := by
  unfold Sp.isName at h; simp at h; exact among_len h.1
theorem ver_len {s : Sp.Str} (h : Sp.isVer s = true) : s.length ≤ 16 := by
  unfold Sp.isVer at h; simp at h; exact among_len h.1
theorem sign_len {s : Sp.Str} (h : Sp.signs.contains s = true) : s.length ≤ 2 := by
  rw [List.contains_iff_mem] at h
  have : ∀ x ∈ Sp.signs, x.length ≤ 2 := by decide
  exact this s h
theorem choose_ok {s : Sp.Str} {c : Sp.Ch} (h : Sp.choose s = some c) : ChOk c := by
  unfold ChOk
  unfold Sp.choose at h
  split at h
  · rename_i hn
    split at h
    · split at h
      · rename_i hm
        simp only [Bool.and_eq_true] at hm
        cases h
        have h1 := name_len hn
        have h2 := sign_len hm.1.1.2
        have h3 := ver_len hm.2
        show _ + _ + _ < 1000
        simp only; omega
      · cases h
    · cases h
      have h1 := name_len hn
      show _ + _ + _ < 1000
      simp only [List.length_nil]; omega
  · cases h
theorem mapO_mem {α β : Type} {f : α → Option β} : ∀ {l : List α} {r : List β}, Sp.mapO f l = some r → ∀ y ∈ r, ∃ x ∈ l, f x = some y
  | [], r, h, y, hy => by cases h; cases hy
  | x :: l, r, h, y, hy => by
    unfold Sp.mapO at h
    split at h
    · rename_i z zs h1 h2
      cases h
      rcases List.mem_cons.1 hy with rfl | hy
      · exact ⟨x, by simp, h1⟩
      · obtain ⟨x', hx', hf⟩ := mapO_mem h2 y hy
        exact ⟨x', by simp [hx'], hf⟩
    · cases h
theorem each_ok {α : Type} {s sep : Sp.Str} {most : Nat} {one : Sp.Str → Option α} {l : List α} (h : Sp.each s sep most one = some l) : l.length ≤ most ∧ ∀ y ∈ l, ∃ x, one x = some y := by
  unfold Sp.each at h
  split at h
  · rename_i l' hl
    split at h
    · rename_i hle
      cases h
      exact ⟨hle, fun y hy => by obtain ⟨x, _, hx⟩ := mapO_mem hl y hy; exact ⟨x, hx⟩⟩
    · cases h
  · cases h
theorem group_ok {s : Sp.Str} {g : List Sp.Ch} (h : groupO s = some g) : g.length ≤ 3 ∧ ∀ c ∈ g, ChOk c := by
  obtain ⟨h1, h2⟩ := each_ok h
  exact ⟨h1, fun c hc => by obtain ⟨x, hx⟩ := h2 c hc; exact choose_ok hx⟩
theorem file_ok {p : Sp.Pk} {a b : Sp.Str} (hp : PkOk p) (ha : a.length ≤ 300) (hb : b.length ≤ 24) (hf : p.files.length < 4) : PkOk { p with files := p.files ++ [⟨a, b⟩] } :=
  ⟨hp.name, hp.ver, hp.needs, hp.groups, hp.bars, hp.barred, by simp; omega, fun f hf' => by
    rcases List.mem_append.1 hf' with h | h
    · exact hp.paths f h
    · rw [List.mem_singleton] at h; subst h; show _ + _ < _; simp only; omega⟩
theorem line_ok {p p' : Sp.Pk} {first : Bool} {s : Sp.Str} (hp : PkOk p) (hs : s.length ≤ 300) (h : Sp.line p first s = some p') : PkOk p' := by
  have hl1 := W2.cut_snd s [32]
  have hl2 := cut_fst (Lib.cut s [32]).2.1 [61]
  unfold Sp.line at h
  split at h
  · cases h
  · split at h
    · split at h
      · rename_i hc
        simp only [Bool.and_eq_true] at hc
        cases h
        exact ⟨by show _ < _; have := name_len hc.1.2; simp only; omega, by show _ < _; have := ver_len hc.2; simp only; omega, hp.needs, hp.groups, hp.bars, hp.barred, hp.files, hp.paths⟩
      · cases h
    · split at h
      · split at h
        · obtain ⟨g, hg, rfl⟩ := Option.map_eq_some_iff.1 h
          obtain ⟨h1, h2⟩ := each_ok hg
          exact ⟨hp.name, hp.ver, h1, fun x hx => by obtain ⟨y, hy⟩ := h2 x hx; exact group_ok hy, hp.bars, hp.barred, hp.files, hp.paths⟩
        · cases h
      · split at h
        · split at h
          · obtain ⟨g, hg, rfl⟩ := Option.map_eq_some_iff.1 h
            obtain ⟨h1, h2⟩ := each_ok hg
            exact ⟨hp.name, hp.ver, hp.needs, hp.groups, h1, fun x hx => by obtain ⟨y, hy⟩ := h2 x hx; exact choose_ok hy, hp.files, hp.paths⟩
          · cases h
        · split at h
          · split at h
            · rename_i hc
              simp only [Bool.and_eq_true, decide_eq_true_eq] at hc
              cases h
              exact file_ok hp (by omega) hc.1.1.1.2 hc.1.1.2
            · cases h
          · cases h
end P2
end Go.Proofs.YtfphcecjhdkcoaaGreatDoor
namespace Go.Proofs.YtfphcecjhdkcoaaGreatDoor
open Go.RowKit
def LineRes (m b : Nat) (p : Sp.Pk) (first : Bool) (s : Sp.Str) (w : World) (e : Ending) (w' : World) : Prop :=
  FrN m b w w' ∧ ((∃ p', Sp.line p first s = some p' ∧ e = .returned (.tuple #[]) ∧ ∃ m', m ≤ m' ∧ PackAt w' m' b p') ∨ (Sp.line p first s = none ∧ e = .panicked [{v := .iface 177 (.agg #[]), recovered := false}]))
theorem line_any {G : Nat} (m b i : Nat) (p : Sp.Pk) (s : ByteArray) (w : World) (hG : Glob G w) (hP : PackAt w m b p) (hok : PkOk p) (hs : (bl s).length ≤ 300) :
    Calls Tryz.prog 103 #[.pointer (some ⟨b, 0, none⟩), .int .i64 (i : Int), .string s] w (LineRes m b p (i == 0) (bl s) w) := by
  have hs' : s.size < 1000000 := by rw [bl_len] at hs; omega
  have no : Sp.line p (i == 0) (bl s) = none → ∀ e w', e = .panicked [{v := .iface 177 (.agg #[]), recovered := false}] ∧ FrN m b w w' → LineRes m b p (i == 0) (bl s) w e w' := fun h e w' h' => ⟨h'.2, .inr ⟨h, h'.1⟩⟩
  have yes : ∀ p', Sp.line p (i == 0) (bl s) = some p' → ∀ e w', (e = .returned (.tuple #[]) ∧ ∃ m', m ≤ m' ∧ PackAt w' m' b p' ∧ FrN m b w w') → LineRes m b p (i == 0) (bl s) w e w' :=
    fun p' h e w' ⟨h1, m', h2, h3, h4⟩ => ⟨h4, .inl ⟨p', h, h1, m', h2, h3⟩⟩
  have hi0 : (((i : Nat) : Int) == 0) = (i == 0) := by rw [Bool.eq_iff_iff, beq_iff_eq, beq_iff_eq]; omega
  rcases hA : Lib.cut (bl s) [32] with ⟨a1, a2, ok⟩
  unfold Sp.line at no yes
  simp only [hA] at no yes
  cases hc : (ok && ((i == 0) == (a1 == Sp.packageW))) with
  | false =>
    rw [hc] at no
    exact (line_no0 m b p s w hG hP hs' i a1 a2 ok _ _ hA rfl rfl (by rw [hi0]; exact hc)).mono (no rfl)
  | true =>
    rw [hc] at no yes
    simp only [Bool.not_true, Bool.false_eq_true, if_false] at no yes
    obtain ⟨hok1, hc2⟩ := Bool.and_eq_true_iff.1 hc
    subst hok1
    have hc3 : (i == 0) = (a1 == Sp.packageW) := by simpa using hc2
    cases hw0 : (a1 == Sp.packageW) with
    | true =>
      rw [hw0] at no yes hc3
      have hi : i = 0 := by simpa using hc3
      simp only [if_true] at no yes
      rcases hB : Lib.cut a2 [32] with ⟨b1, b2, two⟩
      simp only [hB] at no yes
      cases two with
      | false => exact (line_package_no1 m b p s w hG hP hs' i a1 a2 b1 b2 hA hi hw0 hB).mono (no (by simp))
      | true =>
        cases hn : Sp.isName b1 with
        | false => exact (line_package_no2 m b p s w hG hP hs' i a1 a2 b1 b2 hA hi hw0 hB hn).mono (no (by simp [hn]))
        | true =>
          cases hv : Sp.isVer b2 with
          | false => exact (line_package_no3 m b p s w hG hP hs' i a1 a2 b1 b2 hA hi hw0 hB hn hv).mono (no (by simp [hv]))
          | true =>
            subst hi
            exact (line_package m b p s w hG hP hs' a1 a2 b1 b2 hA hw0 hB hn hv).mono (yes _ (by simp [hn, hv]))
    | false =>
      rw [hw0] at no yes hc3
      have hi : ((i : Int) == 0) = false := by rw [hi0]; exact hc3
      simp only [Bool.false_eq_true, if_false] at no yes
      cases hw1 : (a1 == Sp.needsW) with
      | true =>
        rw [hw1] at no yes
        simp only [if_true] at no yes
        by_cases hne : p.needs = []
        · by_cases hbe : p.bars = []
          · by_cases hfe : p.files = []
            · rw [hne, hbe, hfe] at no yes
              simp only [List.isEmpty_nil, Bool.and_self, if_true] at no yes
              cases hE : Sp.each a2 [44, 32] 3 groupO with
              | none =>
                exact (line_needs_no4 m b p s w hG hP hs' i a1 a2 hA hi hw0 hw1 hne hbe hfe hE).mono (no (by
                  have : Sp.each a2 [44, 32] 3 (fun g => Sp.each g [32, 124, 32] 3 Sp.choose) = none := hE
                  rw [this]; rfl))
              | some gs =>
                refine (line_needs_yes m b p s w hG hP hs' i a1 a2 hA hi hw0 hw1 hne hbe hfe gs hE).mono (yes _ ?_)
                have : Sp.each a2 [44, 32] 3 (fun g => Sp.each g [32, 124, 32] 3 Sp.choose) = some gs := hE
                rw [this, ← hbe, ← hfe]; rfl
            · exact (line_needs_no3 m b p s w hG hP hs' i a1 a2 hA hi hw0 hw1 hne hbe hfe).mono (no (by simp [hfe]))
          · exact (line_needs_no2 m b p s w hG hP hs' i a1 a2 hA hi hw0 hw1 hne hbe).mono (no (by simp [hbe]))
        · exact (line_needs_no1 m b p s w hG hP hs' i a1 a2 hA hi hw0 hw1 hne).mono (no (by simp [hne]))
      | false =>
        rw [hw1] at no yes
        simp only [Bool.false_eq_true, if_false] at no yes
        cases hw2 : (a1 == Sp.barsW) with
        | true =>
          rw [hw2] at no yes
          simp only [if_true] at no yes
          by_cases hbe : p.bars = []
          · by_cases hfe : p.files = []
            · rw [hbe, hfe] at no yes
              simp only [List.isEmpty_nil, Bool.and_self, if_true] at no yes
              cases hE : Sp.each a2 [44, 32] 3 Sp.choose with
              | none => exact (line_bars_no3 m b p s w hG hP hs' i a1 a2 hA hi hw0 hw1 hw2 hbe hfe hE).mono (no (by rw [hE]; rfl))
              | some cs => exact (line_bars_yes m b p s w hG hP hs' i a1 a2 hA hi hw0 hw1 hw2 hbe hfe cs hE).mono (yes _ (by rw [hE, ← hfe]; rfl))
            · exact (line_bars_no2 m b p s w hG hP hs' i a1 a2 hA hi hw0 hw1 hw2 hbe hfe).mono (no (by simp [hfe]))
          · exact (line_bars_no1 m b p s w hG hP hs' i a1 a2 hA hi hw0 hw1 hw2 hbe).mono (no (by simp [hbe]))
        | false =>
          rw [hw2] at no yes
          simp only [Bool.false_eq_true, if_false] at no yes
          cases hw3 : (a1 == Sp.fileW) with
          | false =>
            rw [hw3] at no
            exact (line_other m b p s w hG hP hs' i a1 a2 hA hi hw0 hw1 hw2 hw3).mono (no (by simp))
          | true =>
            rw [hw3] at no yes
            simp only [if_true] at no yes
            rcases hB : Lib.cut a2 [61] with ⟨b1, b2, two⟩
            simp only [hB] at no yes
            cases two with
            | false => exact (line_file_no1 m b p s w hG hP hs' i a1 a2 b1 b2 hA hi hw0 hw1 hw2 hw3 hB).mono (no (by simp))
            | true =>
              by_cases hc : b2.length ≤ 24
              · by_cases hfl : p.files.length < 4
                · cases hp : Sp.isPath b1 with
                  | false => exact (line_file_no4 m b p s w hG hP hs' i a1 a2 b1 b2 hA hi hw0 hw1 hw2 hw3 hB hc hfl hp).mono (no (by simp [hp]))
                  | true =>
                    have hb1 : b1.length ≤ 300 := by
                      have h1 := W2.cut_snd (bl s) [32]
                      have h2 := cut_fst a2 [61]
                      rw [hA] at h1; rw [hB] at h2; simp only at h1 h2; omega
                    refine (line_file_yes0 m b p s w hG hP hs' i a1 a2 b1 b2 hA hi hw0 hw1 hw2 hw3 hB hc hfl hp (P2.file_ok hok hb1 hc hfl)).mono ?_
                    rintro e w' ⟨hF, (⟨hcl, rfl, hP'⟩ | ⟨hcl, rfl⟩)⟩
                    · exact yes _ (by simp [hc, hfl, hp, hcl]) _ _ ⟨rfl, m, Nat.le_refl _, hP', hF⟩
                    · exact no (by simp [hcl]) _ _ ⟨rfl, hF⟩
                · exact (line_file_no3 m b p s w hG hP hs' i a1 a2 b1 b2 hA hi hw0 hw1 hw2 hw3 hB hc (by omega)).mono (no (by simp [hfl]))
              · exact (line_file_no2 m b p s w hG hP hs' i a1 a2 b1 b2 hA hi hw0 hw1 hw2 hw3 hB (by omega)).mono (no (by simp [hc]))
end Go.Proofs.YtfphcecjhdkcoaaGreatDoor

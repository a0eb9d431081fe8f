/-
The walk of the program's planned: the texts are read.
-/
import Derived.Test.YtfphcecjhdkcoaaGreatDoorKnownP09
import Derived.Test.YtfphcecjhdkcoaaGreatDoorKnownP10
import Derived.Test.YtfphcecjhdkcoaaGreatDoorKnownP11
import Derived.Lib.ConvBytes
import Derived.WideKeyEntry
import Derived.StringKeys
/-
The walk of the disk's store: the packages lie on the disk.
-/
namespace Go.Proofs.YtfphcecjhdkcoaaGreatDoor
open Go.RowKit Go.Maps
/-- The packages by name, with their blocks. -/
def sortL (L : List (Nat × Sp.Pk)) : List (Nat × Sp.Pk) := (Sp.sorted (Sp.names (pks L))).filterMap fun n => L.find? fun q => q.2.name == n
namespace ST
theorem sortL_pks (L : List (Nat × Sp.Pk)) : pks (sortL L) = V8.byName (pks L) := by
  unfold sortL V8.byName pks
  rw [List.map_filterMap]
  congr 1
  funext n
  unfold Sp.find?
  rw [List.find?_map]; rfl
theorem sortL_mem {L : List (Nat × Sp.Pk)} : ∀ q ∈ sortL L, q ∈ L := by
  intro q hq
  unfold sortL at hq
  obtain ⟨n, _, h⟩ := List.mem_filterMap.1 hq
  exact List.mem_of_find?_eq_some h
theorem sortL_names (L : List (Nat × Sp.Pk)) : Sp.names (pks (sortL L)) = Sp.sorted (Sp.names (pks L)) := by rw [sortL_pks]; exact V8.byName_names _
theorem sortL_texts (L : List (Nat × Sp.Pk)) : (pks (sortL L)).map Sp.print = Sp.texts (pks L) := by rw [sortL_pks, V8.texts_byName]
theorem sortL_len (L : List (Nat × Sp.Pk)) : (sortL L).length ≤ L.length := by
  unfold sortL
  refine Nat.le_trans (List.length_filterMap_le _ _) ?_
  rw [(V8.sorted_perm _).length_eq]; unfold Sp.names pks; simp
theorem made_bytes (w : World) (s : ByteArray) : BytesOn (· = w.heap.size) (Lib.bytesWorld w 5 s) (.slice (some ⟨w.heap.size, 0, none⟩) s.size (grownCap w s.size 0 5)) (bl s) := by
  refine ⟨some ⟨w.heap.size, 0, none⟩, _, by rw [List.length_map, bl_len], by rw [List.length_map, bl_len]; exact grownCap_ge _ _ _ _, fun k x hk => ?_⟩
  rw [List.getElem?_map] at hk
  have hlt : k < (bl s).length := by
    rcases Nat.lt_or_ge k (bl s).length with h | h
    · exact h
    · rw [List.getElem?_eq_none h] at hk; cases hk
  rw [List.getElem?_eq_getElem hlt] at hk
  injection hk with hk
  subst hk
  refine ⟨w.heap.size, 0, rfl, rfl, fun j u hj => ?_⟩
  cases j with
  | zero =>
    have hj' : u8v (bl s)[k] = u := by simpa using hj
    subst hj'
    have := Lib.bytesWorld_cell w 5 s k (by rw [← bl_len]; exact hlt)
    rw [show 0 + k * 1 + 0 = k by omega, this]
    unfold u8v
    congr 3
    rw [List.getD_eq_getElem?_getD]
    have : s.data.toList[k]? = some (bl s)[k] := List.getElem?_eq_getElem hlt
    rw [this]; rfl
  | succ j => simp at hj
theorem made_below (w : World) (s : ByteArray) : Below w.heap.size w (Lib.bytesWorld w 5 s) :=
  ⟨rfl, rfl, rfl, by rw [Lib.bytesWorld_size]; omega, fun k hk => Lib.bytesWorld_at_old w 5 s k hk⟩
end ST
set_option maxRecDepth 100000 in
set_option maxHeartbeats 2000000 in
theorem store_any {O S : Nat → Prop} {w : World} {s D last : Nat} {mv ov : Value} {d : Sp.Dk} (hs : StBlk w s D last mv ov) (hd : DkE O w D d) (hO : ¬ O s) (hl : last + 1 < 18446744073709551616) (mb : Nat) (L : List (Nat × Sp.Pk)) (h : SetOn S w mb L) (hS : ∀ x, S x → x < w.heap.size)
    (hL : L.length ≤ 50000) (hlen : (Sp.joined (pks L)).length ≤ Sp.areaN d.seen.length * 64) (hlate : d.late.length < 900000) :
    Calls Tryz.prog 128 #[.pointer (some ⟨s, 0, none⟩), .map (some mb)] w fun e w' => e = .returned (.tuple #[]) ∧ Chg (fun k => O k ∨ k = s) w w' ∧ StBlk w' s D (last + 1) mv ov ∧ ∃ O', DkE O' w' D (Sp.save d last (Sp.joined (pks L))) ∧ ∀ k, O' k → (O k ∨ w.heap.size ≤ k) ∧ k < w'.heap.size := by
  have hmf : ∀ (fn : Fn) (first cap : Array Value) (w : World), (Instr.makeFunc fn first cap).run Tryz.prog w = .ok (.func fn first cap) w := fun _ _ _ _ => rfl
  have hlens := hd.lens
  have hjl : (Sp.joined (pks L)).length ≤ 8128 := by unfold Sp.areaN at hlen; omega
  have hslt := hs.lt
  have hmlt := h.map.lt
  have hA : Below w.heap.size w (w.alloc (.cells #[.map (some mb)] 140)) := (Below.refl _ _).alloc (Nat.le_refl _) _
  have h0 : (w.alloc (.cells #[.map (some mb)] 140)).cell? ⟨w.heap.size, 0, none⟩ = some (.map (some mb)) := by rw [World.cell?_alloc_at _ _ _ _ rfl]; rfl
  have h1 := (h.mono hS).below hA
  have hn := names_any mb L _ h1 (by omega)
  have hz1 : (w.alloc (.cells #[.map (some mb)] 140)).heap.size = w.heap.size + 1 := by simp
  have HZ1 := Lib.hid hz1
  have HA := Lib.hid hA
  have HH1 := Lib.hid h1
  have HN := Lib.hid hn
  have HS := Lib.hid hs
  have HD := Lib.hid hd.inside
  have HO := Lib.hid hO
  have HC0 := Lib.hid h0
  clear hs hd h hS hA h1 hn h0 hz1 hO
  go_enter Tryz.func128, Tryz.ntmps128
  go_wp2_with fail
  generalize w.alloc (.cells #[.map (some mb)] 140) = w1 at *
  have hc0 := HC0.out
  have hz1 := HZ1.out
  refine HN.out.mono ?_
  rintro e w2 ⟨v, rfl, hv, hb2⟩
  have hb12 : Below w.heap.size w w2 := HA.out.trans (hb2.mono (by omega))
  have hz2 := hb2.size
  have hc2 := (hb2.cell (p := ⟨w.heap.size, 0, none⟩) (show w.heap.size < _ by omega)).trans hc0
  have h2 := HH1.out.below hb2
  have hnm : (Sp.sorted (Sp.names (L.map (·.2)))) = Sp.names (pks (sortL L)) := (ST.sortL_names L).symm
  rw [hnm] at hv
  have hjt : Lib.join ((pks (sortL L)).map Sp.print) (bl ⟨#[10, 10]⟩) = Sp.joined (pks L) := by rw [ST.sortL_texts]; rfl
  have hj := joinedS_any v ⟨#[10, 10]⟩ mb w.heap.size (sortL L) L w2 h2 hc2 (by omega) ST.sortL_mem (by have := ST.sortL_len L; omega) hv (by rw [hjt]; omega)
  rw [hjt] at hj
  have HJ := Lib.hid hj
  have HB12 := Lib.hid hb12
  clear hj hv h2 hnm hjt hb12 HN HH1 HC0 HA
  obtain ⟨J, hJ⟩ : ∃ J, J = Sp.joined (pks L) := ⟨_, rfl⟩
  rw [← hJ] at HJ hlen hjl
  have HJE := Lib.hid hJ
  clear hJ
  go_wp2_with fail
  refine HJ.out.mono ?_
  rintro e w3 ⟨rfl, hb3⟩
  have hz3 := hb3.size
  have hcv := Lib.run_convert_string_bytes (P := Tryz.prog) w3 9 136 5 ⟨J.toArray⟩ (u := .string) Tryz.underlying9 Tryz.underlying136 Tryz.underlying5
  have hbA := ST.made_below w3 ⟨J.toArray⟩
  have hby := ST.made_bytes w3 ⟨J.toArray⟩
  have hzA : (Lib.bytesWorld w3 5 ⟨J.toArray⟩).heap.size = w3.heap.size + 1 := Lib.bytesWorld_size _ _ _
  rw [bl_mk] at hby
  have hb4 : Below w.heap.size w (Lib.bytesWorld w3 5 ⟨J.toArray⟩) := HB12.out.trans ((hb3.mono (by omega)).trans (hbA.mono (by omega)))
  generalize Lib.bytesWorld w3 5 ⟨J.toArray⟩ = w4 at *
  have hsv := save_any (HS.out.keep (hb4.block s hslt)) (HD.out.below (hb4.mono (Nat.le_refl _) |>.mono (Nat.le_refl _))) (fun h => HO.out h.1) hl _ J hby (by rintro x rfl; exact ⟨by omega, fun h => by omega, by omega⟩) hlen hlate
  have HSV := Lib.hid hsv
  have HB4 := Lib.hid hb4
  clear hsv hby hbA hb4
  unfold sv
  go_wp2_with fail
  refine HSV.out.mono ?_
  rintro e w5 ⟨rfl, hch, hst, hdk⟩
  have hz4 := HB4.out.size
  go_wp2
  go_end0
  rw [← HJE.out]
  refine ⟨rfl, ((Chg.of_below HB4.out).trans' hch fun x hx => ?_), hst, _, hdk.inside, fun k hk => ⟨?_, hk.2⟩⟩
  · rcases hx with hx | hx
    · exact .inl (.inl hx.1)
    · exact .inl (.inr hx)
  · rcases hk.1 with hk | hk
    · exact .inl hk.1
    · exact .inr (by omega)
end Go.Proofs.YtfphcecjhdkcoaaGreatDoor
/-
The walk of the store's become: these are installed from now on.
-/
namespace Go.Proofs.YtfphcecjhdkcoaaGreatDoor
open Go.RowKit Go.Maps
namespace ST
def lastOf (a b last : Nat) : Nat := if a = b then last else last + 1
def dkOf (a b : Nat) (d d' : Sp.Dk) : Sp.Dk := if a = b then d else d'
end ST
set_option maxRecDepth 100000 in
set_option maxHeartbeats 2000000 in
theorem become_any {O S S2 : Nat → Prop} {w : World} {s D last : Nat} {ov : Value} {d : Sp.Dk} {mb mb2 : Nat} {L L2 : List (Nat × Sp.Pk)} (hs : StBlk w s D last (.map (some mb)) ov) (hd : DkE O w D d) (hO : ¬ O s)
    (h : SetOn S w mb L) (hS : ∀ x, S x → x < w.heap.size) (h2 : SetOn S2 w mb2 L2) (hS2 : ∀ x, S2 x → x < w.heap.size ∧ ¬ O x ∧ x ≠ s) (hm2 : ¬ O mb2 ∧ mb2 ≠ s)
    (hok : Sp.Set (pks L2)) (hnd : (Sp.paths (pks L2)).Nodup) (hS16 : 16 ≤ d.seen.length) (hl : last + 1 < 18446744073709551616) (hlate : d.late.length < 900000) (hL2 : L2.length ≤ 50000) (hsame : L2.length = L.length → L2 = L) :
    Calls Tryz.prog 75 #[.pointer (some ⟨s, 0, none⟩), .map (some mb2)] w fun e w' =>
      (Sp.room d.seen.length < Sp.size (pks L2) ∧ ∃ b, e = .returned (.iface 121 (.pointer (some ⟨b, 0, none⟩))) ∧ w.heap.size ≤ b ∧ FaultAt w' b 8 0 0 [] ∧ Below w.heap.size w w') ∨
      (Sp.size (pks L2) ≤ Sp.room d.seen.length ∧ e = .returned .nilIface ∧ Chg (fun k => O k ∨ k = s) w w' ∧ ∃ ob O', w.heap.size ≤ ob ∧ ob < w'.heap.size ∧ ¬ O' ob ∧ (∀ k, O' k → (O k ∨ w.heap.size ≤ k) ∧ k < w'.heap.size) ∧
        StBlk w' s D (ST.lastOf L2.length L.length last) (.map (some mb2)) (.map (some ob)) ∧ DkE O' w' D (ST.dkOf L2.length L.length d (Sp.save d last (Sp.joined (pks L2)))) ∧ MapAt w' ob (ownKV (pks L2))) := by
  have hlens := hd.lens
  have hslt := hs.lt
  have hszb : Sp.size (pks L2) ≤ 15000000 := by
    have := V8.size_len hok.good
    have hp : (pks L2).length = L2.length := by unfold pks; rw [List.length_map]
    omega
  have hsz := size_any mb2 L2 w (h2.mono fun x hx => (hS2 x hx).1) (by omega)
  have hm2l := h2.map.lt
  have hml := h.map.lt
  have hrm : 24 * ((d.seen.length : Int) - 8) = (Sp.room d.seen.length : Int) := by unfold Sp.room; omega
  obtain ⟨z, hz⟩ : ∃ z, z = Sp.size (pks L2) := ⟨_, rfl⟩
  obtain ⟨r, hr⟩ : ∃ r, r = Sp.room d.seen.length := ⟨_, rfl⟩
  rw [← hr] at hrm
  rw [← hz] at hsz
  have hfit : z ≤ r → (Sp.joined (pks L2)).length ≤ Sp.areaN d.seen.length * 64 := fun hle => V8.joined_fits hok hS16 (by rw [← hz, ← hr]; exact hle)
  rw [← hz, ← hr]
  have HZ := Lib.hid hz
  have HR := Lib.hid hr
  have HSZ := Lib.hid hsz
  have HST := Lib.hid hs
  have HD := Lib.hid hd
  have HSET := Lib.hid h
  have HSET2 := Lib.hid h2
  have HS2 := Lib.hid hS2
  have HSB := Lib.hid hS
  have HND := Lib.hid hnd
  have HFIT := Lib.hid hfit
  have HSAME := Lib.hid hsame
  have HO := Lib.hid hO
  have HM2 := Lib.hid hm2
  clear hs hd h h2 hS hS2 hnd hsz hz hr hfit hsame hok hO hm2
  go_enter Tryz.func75, Tryz.ntmps75
  go_wp2_with fail
  refine HSZ.out.mono ?_
  rintro e w1 ⟨rfl, hb1⟩
  have hs1 := HST.out.keep (hb1.block s hslt)
  have hd1 := HD.out.below hb1
  have hrc := room_any hs1 hd1
  rw [hrm] at hrc
  have HRC := Lib.hid hrc
  have HB1 := Lib.hid hb1
  have HS1 := Lib.hid hs1
  have HD1 := Lib.hid hd1
  clear hs1 hd1 hrc hb1
  go_wp2_with fail
  refine HRC.out.mono ?_
  rintro e w2 ⟨rfl, rfl⟩
  have hz1 := HB1.out.size
  by_cases hbig : r < z
  · have hgt : decide ((r : Int) < (z : Int)) = true := decide_eq_true (by omega)
    have hgt2 : (r : Int) < (z : Int) := by omega
    have hf := fault_any 8 0 [] w2
    have HF := Lib.hid hf
    clear hf
    go_wp2_with fail
    refine HF.out.mono ?_
    rintro e w3 ⟨rfl, hF, hb3⟩
    have HFA := Lib.hid hF
    have HBIG := Lib.hid hbig
    clear hF hbig hgt hgt2
    go_wp2
    go_ret
    exact .inl ⟨HBIG.out, _, rfl, hz1, HFA.out, HB1.out.trans (hb3.mono hz1)⟩
  · have hgt : decide ((r : Int) < (z : Int)) = false := decide_eq_false (by omega)
    have hle : (z : Int) ≤ (r : Int) := by omega
    obtain ⟨c0, c1, c2, c3, cz⟩ := HS1.out.cells
    have hslt2 : s < w2.heap.size := by omega
    have hsetA := HSET.out.keep (w' := w2) (HB1.out.block mb hml) fun x hx => HB1.out.block x (HSB.out x hx)
    have hsetB := HSET2.out.keep (w' := w2) (HB1.out.block mb2 hm2l) fun x hx => HB1.out.block x (HS2.out x hx).1
    have hgen : ∀ (last' : Nat) (d' : Sp.Dk) (O' : Nat → Prop) (W : World) (ov' : Value), Chg (fun k => O k ∨ k = s) w W → StBlk W s D last' (.map (some mb)) ov' → DkE O' W D d' → (∀ k, O' k → (O k ∨ w.heap.size ≤ k) ∧ k < W.heap.size) →
        Calls Tryz.prog 121 #[.pointer (some ⟨s, 0, none⟩), .map (some mb2)] W fun e w' => e = .returned (.tuple #[]) ∧ Chg (fun k => O k ∨ k = s) w w' ∧ ∃ ob O', w.heap.size ≤ ob ∧ ob < w'.heap.size ∧ ¬ O' ob ∧ (∀ k, O' k → (O k ∨ w.heap.size ≤ k) ∧ k < w'.heap.size) ∧
        StBlk w' s D last' (.map (some mb2)) (.map (some ob)) ∧ DkE O' w' D d' ∧ MapAt w' ob (ownKV (pks L2)) := by
      intro last' d' O' W ov' hch hst hdk hO'
      have hkm : W.heap[mb2]? = w.heap[mb2]? := hch.block mb2 hm2l fun hx => by
        rcases hx with hx | hx
        · exact HM2.out.1 hx
        · exact HM2.out.2 hx
      have hks : ∀ x, S2 x → W.heap[x]? = w.heap[x]? := fun x hx => hch.block x (HS2.out x hx).1 fun hy => by
        rcases hy with hy | hy
        · exact (HS2.out x hx).2.1 hy
        · exact (HS2.out x hx).2.2 hy
      have hzW := hch.size
      refine (take_any hst mb2 L2 (HSET2.out.keep hkm hks) (fun x hx => ⟨by have := (HS2.out x hx).1; omega, (HS2.out x hx).2.2⟩) HM2.out.2 (by omega) HND.out).mono ?_
      rintro e w' ⟨rfl, hc, ob, hob, hst', hmap⟩
      have hnot : ∀ k, O' k → k ≠ s := fun k hk e => by
        subst e
        rcases (hO' _ hk).1 with h1 | h1
        · exact HO.out h1
        · omega
      refine ⟨rfl, hch.trans (hc.mono fun x hx => .inr hx), ob, O', by omega, hmap.lt, fun hk => ?_, fun k hk => ⟨(hO' k hk).1, by have := (hO' k hk).2; have := hc.size; omega⟩, hst', hdk.keep (fun k hk hl => hc.block k hl (hnot k hk)) hc.size, hmap⟩
      have := (hO' ob hk).2; omega
    have HGEN := Lib.hid hgen
    have hch2 : Chg (fun k => O k ∨ k = s) w w2 := Chg.of_below HB1.out
    have HCH2 := Lib.hid hch2
    clear hgen hch2
    by_cases hln : L2.length = L.length
    · have hLL := HSAME.out hln
      have heq := equal_same mb2 mb L w2 (by rw [← hLL]; exact hsetB) hsetA
      have HEQ := Lib.hid heq
      clear heq hsetA hsetB hLL
      go_wp2_with fail
      refine HEQ.out.mono ?_
      rintro e w3 ⟨rfl, hb3⟩
      have hz3 := hb3.size
      have hcg := HGEN.out last d (fun k => O k ∧ k < w.heap.size) w3 ov (HCH2.out.trans (Chg.of_below hb3)) (HS1.out.keep (hb3.block s hslt2)) ((HD.out.inside.below HB1.out).below hb3) (fun k hk => ⟨.inl hk.1, by have := hk.2; omega⟩)
      have HCG := Lib.hid hcg
      clear hcg
      go_wp2_with fail
      refine HCG.out.mono ?_
      rintro e w4 ⟨rfl, hres⟩
      have HRES := Lib.hid hres
      have HLN := Lib.hid hln
      have HNB := Lib.hid hbig
      clear hres hln hbig hgt hle
      go_wp2
      go_ret
      rw [show ST.lastOf L2.length L.length last = last from if_pos HLN.out, show ST.dkOf L2.length L.length d (Sp.save d last (Sp.joined (pks L2))) = d from if_pos HLN.out]
      exact .inr ⟨by have := HNB.out; omega, rfl, HRES.out⟩
    · have hne : (kvOf L2).length ≠ (kvOf L).length := by unfold kvOf; rw [List.length_map, List.length_map]; exact hln
      have heq := equal_len mb2 mb (kvOf L2) (kvOf L) w2 hsetB.map hsetA.map hne
      have HEQ := Lib.hid heq
      have HB2 := Lib.hid hsetB
      clear heq hsetA hne hsetB
      go_wp2_with fail
      refine HEQ.out.mono ?_
      rintro e w3 ⟨rfl, hb3⟩
      have hz3 := hb3.size
      have hst := store_any (HS1.out.keep (hb3.block s hslt2)) ((HD.out.inside.below HB1.out).below hb3) (fun hx => HO.out hx.1) hl mb2 L2 (HB2.out.keep (hb3.block mb2 (by omega)) fun x hx => hb3.block x (by have := (HS2.out x hx).1; omega)) (fun x hx => by have := (HS2.out x hx).1; omega) hL2 (HFIT.out (by omega)) hlate
      have HSTO := Lib.hid hst
      have HC3 := Lib.hid (HCH2.out.trans (Chg.of_below hb3))
      clear hst
      go_wp2_with fail
      refine HSTO.out.mono ?_
      rintro e w4 ⟨rfl, hch4, hst4, O', hdk4, hO4⟩
      have hcg := HGEN.out _ _ O' w4 ov (HC3.out.trans (hch4.mono fun x hx => by
        rcases hx with hx | hx
        · exact .inl hx.1
        · exact .inr hx)) hst4 hdk4 (fun k hk => ⟨by
          rcases (hO4 k hk).1 with h1 | h1
          · exact .inl h1.1
          · exact .inr (by omega), (hO4 k hk).2⟩)
      have HCG := Lib.hid hcg
      clear hcg hst4 hdk4 hO4 hch4
      go_wp2_with fail
      refine HCG.out.mono ?_
      rintro e w5 ⟨rfl, hres⟩
      have HRES := Lib.hid hres
      have HLN := Lib.hid hln
      have HNB := Lib.hid hbig
      clear hres hln hbig hgt hle
      go_wp2
      go_ret
      rw [show ST.lastOf L2.length L.length last = last + 1 from if_neg HLN.out, show ST.dkOf L2.length L.length d (Sp.save d last (Sp.joined (pks L2))) = Sp.save d last (Sp.joined (pks L2)) from if_neg HLN.out]
      exact .inr ⟨by have := HNB.out; omega, rfl, HRES.out⟩
end Go.Proofs.YtfphcecjhdkcoaaGreatDoor
/-
The plain Read of a text that is none; the law Forms on its way: sameFault.
-/
namespace Go.Proofs.YtfphcecjhdkcoaaGreatDoor
open Go.RowKit
theorem ErrT.keep {w w' : World} (h : ErrT w) (hb : Below w.heap.size w w') (h0 : 0 < w.heap.size) : ErrT w' := (hb.cell (p := ⟨0, 0, none⟩) h0).trans h
set_option maxRecDepth 100000 in
set_option maxHeartbeats 1000000 in
theorem plainRead_none {G : Nat} (s : ByteArray) (n : Nat) (w : World) (hG : Glob G w) (hE : ErrT w) (h : Sp.parse (bl s) = .inl n) :
    Calls Tryz.prog 15 #[.string s] w fun e w' => e = .returned (.tuple #[.string ⟨#[]⟩, .agg #[.int .i64 1, .int .i64 0, .int .i64 (n : Int), .string ⟨#[]⟩]]) ∧ Below w.heap.size w w' := by
  have HP := Lib.hid h
  have hpos : 0 < w.heap.size := by have := hG.size; have := hG.six; omega
  clear h
  go_enter Tryz.func15, Tryz.ntmps15
  go_wp2_with fail
  refine (read_any s _ (hG.keep ((Below.refl _ _).alloc (Nat.le_refl _) _))).mono ?_
  rintro e w1 ⟨hb1, ⟨n', b, hp, rfl, hbl, hbu, f0, f1, f2, f3⟩ | ⟨q, hp, _⟩⟩
  · rw [HP.out] at hp
    cases hp
    obtain ⟨hc, hf⟩ := bcell hb1
    have hz1 : w.heap.size < w1.heap.size := by have := hb1.size; simp at this; omega
    have hE1 : ErrT w1 := (hE.keep ((Below.refl _ _).alloc (Nat.le_refl _) (Obj.cells #[Value.int IntKind.i64 0, Value.int IntKind.i64 0, Value.int IntKind.i64 0, Value.string ⟨#[]⟩] 23)) hpos).keep hb1 (by simp)
    go_wp2_with fail
    refine (parts_fault b 1 0 n [] w1 hE1 ⟨hbu, f0, f1, f2, f3⟩ (by decide) (by decide)).mono ?_
    rintro e w2 ⟨rfl, hb2⟩
    obtain ⟨hc2, hf2⟩ := bcell hb2
    have hz2 : w.heap.size < w2.heap.size := by have := hb2.size; omega
    have k0 : w2.cell? ⟨w.heap.size, 0, none⟩ = some (.int .i64 0) := by rw [hc2 _ _ hz1, hc _ _ (by simp), World.cell?_alloc_at _ _ _ _ rfl]; rfl
    have k1 : w2.cell? ⟨w.heap.size, 1, none⟩ = some (.int .i64 0) := by rw [hc2 _ _ hz1, hc _ _ (by simp), World.cell?_alloc_at _ _ _ _ rfl]; rfl
    have k2 : w2.cell? ⟨w.heap.size, 2, none⟩ = some (.int .i64 0) := by rw [hc2 _ _ hz1, hc _ _ (by simp), World.cell?_alloc_at _ _ _ _ rfl]; rfl
    have k3 : w2.cell? ⟨w.heap.size, 3, none⟩ = some (.string ⟨#[]⟩) := by rw [hc2 _ _ hz1, hc _ _ (by simp), World.cell?_alloc_at _ _ _ _ rfl]; rfl
    have g0 : ∀ o, w2.frozen? ⟨w.heap.size, o, none⟩ = false := fun o => by rw [hf2 _ _ hz1, hf _ _ (by simp)]; simp
    have g00 := g0 0
    have g01 := g0 1
    have g02 := g0 2
    have g03 := g0 3
    have hbb : Below w.heap.size w w2 := ((Below.refl _ w).alloc (Nat.le_refl _) _).trans ((hb1.trans (hb2.mono hb1.size)).mono (by simp))
    clear hc hf hc2 hf2 g0 f0 f1 f2 f3
    unfold sv
    go_wp2_with fail
    go_region
    go_wp2_with fail
    refine bodyPost_ret (v := .tuple #[.string ⟨#[]⟩, .agg #[.int .i64 1, .int .i64 0, .int .i64 (n : Int), .string ⟨#[]⟩]]) (by simp [results, Tryz.results15, go_sem, hz2, k0, k1, k2, k3]) rfl ⟨rfl, ?_⟩
    refine ⟨hbb.os, hbb.tape, hbb.output, by have := hbb.size; simp; omega, fun k hk => ?_⟩
    refine Eq.trans ?_ (hbb.block k hk)
    show (World.alloc _ _).heap[k]? = _
    rw [Below.heap_alloc _ _ _ (by simp; omega), Below.heap_setCell _ _ _ _ (by show k ≠ w.heap.size; omega), Below.heap_setCell _ _ _ _ (by show k ≠ w.heap.size; omega), Below.heap_setCell _ _ _ _ (by show k ≠ w.heap.size; omega), Below.heap_setCell _ _ _ _ (by show k ≠ w.heap.size; omega)]
  · rw [HP.out] at hp; cases hp
theorem sameFault_same (k which line : Int) (w : World) :
    Calls Tryz.prog 17 #[.agg #[.int .i64 k, .int .i64 which, .int .i64 line, .string ⟨#[]⟩], .agg #[.int .i64 k, .int .i64 which, .int .i64 line, .string ⟨#[]⟩]] w fun e w' => e = .returned (.bool true) ∧ Below w.heap.size w w' := by
  go_enter Tryz.func17, Tryz.ntmps17
  go_wp2
  go_ret
  exact ⟨rfl, ((Below.refl _ _).alloc (Nat.le_refl _) _).alloc (by simp) _⟩
end Go.Proofs.YtfphcecjhdkcoaaGreatDoor
/-
What the walk of the program's planned stands on: what it comes to; packages that are read one behind the other.
-/
namespace Go.Proofs.YtfphcecjhdkcoaaGreatDoor
open Go.RowKit Go.Maps
theorem info118 : (Tryz.prog.info? 118).map (fun i => (i.zero, i.size, i.bytes)) = some (some (.pointer none), 1, 8) := by kernel_rfl
theorem app209 : AppTy 209 118 1 8 := AppTy.of Tryz.underlying209 info118 rfl (by decide) (by decide)
def pv (b : Nat) : Value := .pointer (some ⟨b, 0, none⟩)
/-- What planned comes to: the fault, or the packages that would be there (those that are, and the new ones), and their order. -/
def PlanRes (S : Nat → Prop) (L : List (Nat × Sp.Pk)) (ts : List Sp.Str) (w : World) (e : Ending) (w' : World) : Prop :=
  Below w.heap.size w w' ∧
    ((∃ f b, Sp.planned (pks L) ts = .inl f ∧ 1 ≤ f.kind ∧ f.kind ≤ 8 ∧ e = .returned (.tuple #[.map none, .slice none 0 0, pv b]) ∧ w.heap.size ≤ b ∧ FaultAt w' b f.kind f.which f.line f.name) ∨
     (∃ F o mb v, Sp.planned (pks L) ts = .inr (pks (L ++ F), o) ∧ e = .returned (.tuple #[.map (some mb), v, .pointer none]) ∧ w.heap.size ≤ mb ∧ F.length = ts.length ∧
        SetOn (fun b => S b ∨ w.heap.size ≤ b ∧ b < w'.heap.size) w' mb (L ++ F) ∧ StrsFrom w.heap.size w' v o ∧ (∀ p ∈ pks F, V3.Good p)))
namespace PL
theorem read_snoc (i : Nat) : ∀ (ts : List Sp.Str) (t : Sp.Str), Sp.readAll i (ts ++ [t]) = match Sp.readAll i ts with
    | .inl f => .inl f
    | .inr l => match Sp.parse t with
      | .inl n => .inl ⟨1, i + ts.length, n, []⟩
      | .inr p => .inr (l ++ [p])
  | [], t => by
    simp only [List.nil_append, Sp.readAll]
    cases Sp.parse t <;> simp
  | s :: r, t => by
    rw [List.cons_append, Sp.readAll, Sp.readAll]
    cases Sp.parse s with
    | inl n => rfl
    | inr p =>
      simp only
      rw [read_snoc (i + 1) r t]
      cases Sp.readAll (i + 1) r with
      | inl f => rfl
      | inr l =>
        cases Sp.parse t with
        | inl n => simp; omega
        | inr q => rfl
theorem read_stop (i : Nat) : ∀ (a b : List Sp.Str) {f : Sp.Fault}, Sp.readAll i a = .inl f → Sp.readAll i (a ++ b) = .inl f
  | [], b, f, h => by cases h
  | s :: r, b, f, h => by
    rw [List.cons_append]
    rw [Sp.readAll] at h ⊢
    cases hs : Sp.parse s with
    | inl n => rw [hs] at h; exact h
    | inr p =>
      rw [hs] at h
      simp only at h ⊢
      cases hr : Sp.readAll (i + 1) r with
      | inl g => rw [hr] at h; simp only at h; rw [read_stop (i + 1) r b hr]; exact h
      | inr l => rw [hr] at h; cases h
theorem add_stop (there : List Sp.Pk) : ∀ (a : List Sp.Pk) (i : Nat) (th : List Sp.Pk) (b : List Sp.Pk) {f : Sp.Fault}, Sp.addAll i th a = .inl f → Sp.addAll i th (a ++ b) = .inl f
  | [], i, th, b, f, h => by cases h
  | p :: r, i, th, b, f, h => by
    rw [List.cons_append]
    rw [Sp.addAll] at h ⊢
    split
    · rename_i hc; rw [if_pos hc] at h; exact h
    · rename_i hc; rw [if_neg hc] at h; exact add_stop there r _ _ b h
theorem add_snoc : ∀ (a : List Sp.Pk) (i : Nat) (th : List Sp.Pk) (p : Sp.Pk), Sp.addAll i th (a ++ [p]) = match Sp.addAll i th a with
    | .inl f => .inl f
    | .inr l => if (Sp.names l).contains p.name then .inl ⟨2, i + a.length, 0, p.name⟩ else .inr (l ++ [p])
  | [], i, th, p => by simp only [List.nil_append, Sp.addAll]; rfl
  | q :: r, i, th, p => by
    rw [List.cons_append, Sp.addAll, Sp.addAll]
    split
    · rfl
    · rw [add_snoc r (i + 1) (th ++ [q]) p]
      cases Sp.addAll (i + 1) (th ++ [q]) r with
      | inl f => rfl
      | inr l => simp only [List.length_cons]; rw [show i + 1 + r.length = i + (r.length + 1) from by omega]
theorem add_eq : ∀ (a : List Sp.Pk) (i : Nat) (th : List Sp.Pk) {l : List Sp.Pk}, Sp.addAll i th a = .inr l → l = th ++ a
  | [], i, th, l, h => by cases h; simp
  | p :: r, i, th, l, h => by
    rw [Sp.addAll] at h
    split at h
    · cases h
    · have := add_eq r _ _ h
      rw [this]; simp
/-- Packages that have been read: each lies in memory of its own. -/
def PacksAt (S : Nat → Prop) (w : World) (F : List (Nat × Sp.Pk)) : Prop := ∀ q ∈ F, IsPack S w q.1 q.2 ∧ PkOk q.2
theorem PacksAt.keep {S S' : Nat → Prop} {w w' : World} {F : List (Nat × Sp.Pk)} (h : PacksAt S w F) (hb : ∀ x, S x → w'.heap[x]? = w.heap[x]?) (hs : ∀ x, S x → S' x) : PacksAt S' w' F :=
  fun q hq => ⟨((h q hq).1.keep hb).mono hs, (h q hq).2⟩
theorem row_get {w : World} {B : Nat} {v : Value} {F : List (Nat × Sp.Pk)} (h : w.ownsRow B 118 1 v F.length (F.map fun q => pv q.1)) : ∃ a cap, v = .slice a F.length cap ∧ F.length ≤ cap ∧ ∀ k, (hk : k < F.length) → ∃ b off, a = some ⟨b, off, none⟩ ∧ B ≤ b ∧ b < w.heap.size ∧ w.cell? ⟨b, off + k, none⟩ = some (pv F[k].1) := by
  have h1 := one_row (vs := F.map fun q => pv q.1) (by rw [List.length_map]) h
  obtain ⟨a, cap, hv, hc, hx⟩ := h1
  rw [List.length_map, List.length_map] at hv hc
  refine ⟨a, cap, hv, hc, fun k hk => ?_⟩
  obtain ⟨b, off, ha, hb, hj⟩ := hx k [pv F[k].1] (by rw [List.getElem?_map, List.getElem?_map, List.getElem?_eq_getElem hk]; rfl)
  refine ⟨b, off, ha, hb.2.1, hb.1, ?_⟩
  have := hj 0 _ rfl
  simpa using this
end PL
/-- 'm[k], .. = v, ..': the entry is made, then it is stored into. -/
theorem MapAt.enter {w : World} {b : Nat} {kv : KV} {t e : TypeId} {z : Value} (h : MapAt w b kv) (ht : Tryz.prog.underlying t = some (.map 9 e)) (hz : ∀ w, (zeroValue e).run Tryz.prog w = .ok z w) (hn : kv.length < 1000000000) (x : Sp.Str) (hx : x.length ≤ maxLen) (hnew : hasKV kv x = false) (v : Value) :
    ∃ (v0 : Value) (st : Nat) (w1 w2 : World), (Instr.mapEntry t (.map (some b)) (.string ⟨x.toArray⟩)).run Tryz.prog w = .ok (.tuple #[v0, .int .i64 st]) w1 ∧ (Instr.entryStore t (.map (some b)) (.int .i64 st) v).run Tryz.prog w1 = .ok () w2 ∧
      MapAt w2 b (kv ++ [(x, v)]) ∧ (∀ k, k ≠ b → w1.heap[k]? = w.heap[k]?) ∧ (∀ k, k ≠ b → w2.heap[k]? = w.heap[k]?) ∧ (w1.os = w.os ∧ w1.tape = w.tape ∧ w1.output = w.output ∧ w1.heap.size = w.heap.size) ∧ (w2.os = w.os ∧ w2.tape = w.tape ∧ w2.output = w.output ∧ w2.heap.size = w.heap.size) := by
  have hput := h.put ht hn x hx hnew v
  obtain ⟨D, ⟨es, clock, hb, F, hs, hD⟩, hsh⟩ := h
  obtain ⟨v0, st, es1, clock1, r1, _, r2⟩ := WideElems.entry_then_store (WideMaps.string_law Tryz.underlying9) ht hz hb F (keyOf9 x hx)
  have hb1 : (ChangeMaps.setBlock w b (.map es1 clock1)).heap[b]? = some (.map es1 clock1) := ChangeMaps.heap_setBlock_same hb _
  obtain ⟨es', clock', r3, r4⟩ := r2 (ChangeMaps.setBlock w b (.map es1 clock1)) v hb1
  obtain ⟨w', r5, hm, _⟩ := hput
  have e1 : w' = ChangeMaps.setBlock w b (.map es' clock') := by
    rw [r4] at r5
    exact ((Result.ok.inj r5).2).symm
  have e2 : ChangeMaps.setBlock (ChangeMaps.setBlock w b (.map es1 clock1)) b (.map es' clock') = ChangeMaps.setBlock w b (.map es' clock') := by
    simp only [ChangeMaps.setBlock, Array.setIfInBounds_setIfInBounds]
  rw [e2, ← e1] at r3
  refine ⟨v0, st, _, w', r1, r3, hm, fun k hk => ChangeMaps.heap_setBlock_other hb _ hk, fun k hk => ?_, ⟨rfl, rfl, rfl, by simp [ChangeMaps.setBlock]⟩, ?_⟩
  · rw [e1]; exact ChangeMaps.heap_setBlock_other hb _ hk
  · rw [e1]; exact ⟨rfl, rfl, rfl, by simp [ChangeMaps.setBlock]⟩
end Go.Proofs.YtfphcecjhdkcoaaGreatDoor
namespace Go.Proofs.YtfphcecjhdkcoaaGreatDoor
open Go.RowKit Go.Maps
namespace PL
theorem order_sub (there : List Sp.Pk) : ∀ (n : Nat) (l : List Sp.Pk), ∀ p ∈ (Sp.orderN there n l).2, p ∈ l
  | 0, l, p, h => h
  | n + 1, l, p, h => by
    rw [Sp.orderN] at h
    split at h
    · exact h
    · exact (List.mem_filter.1 (order_sub there n _ p h)).1
end PL
set_option maxRecDepth 100000 in
set_option maxHeartbeats 4000000 in
theorem planned_any {G : Nat} {S : Nat → Prop} (mt : Nat) (tv : Value) (ts : List Sp.Str) (L : List (Nat × Sp.Pk)) (w : World) (hG : Glob G w) (hS : ∀ x, S x → x < w.heap.size) (hT : SetOn S w mt L) (htv : StrsAt w tv ts) (hts : ts.length ≤ 50000) (hL : L.length ≤ 50000) (hgood : ∀ p ∈ pks L, V3.Good p) :
    Calls Tryz.prog 74 #[.map (some mt), tv] w (PlanRes S L ts w) := by
  have hmm := @run_makeMap Tryz.prog
  have hmtl := hT.map.lt
  have hcl := clone_map mt (kvOf L) w hT.map
  have HT := Lib.hid hT
  have HGO := Lib.hid hgood
  have HTV := Lib.hid htv
  have HS := Lib.hid hS
  have HG := Lib.hid hG
  obtain ⟨ta, tc, rfl, htc, htg⟩ := htv.get
  have HTG := Lib.hid htg
  clear hT hgood htv hS htg hG
  go_enter Tryz.func74, Tryz.ntmps74
  go_wp2_with fail
  refine hcl.mono ?_
  rintro e w1 ⟨rfl, hall, hb1⟩
  have hs1 := hb1.size
  have hal := hall.lt
  have HALL := Lib.hid hall
  clear hall hcl
  go_wp2
  go_loopw [9, 27] (fun pvv i wr => ∃ (k : Nat) (F : List (Nat × Sp.Pk)), k ≤ ts.length ∧ i = .int .i64 k ∧ F.length = k ∧ Sp.readAll 0 (ts.take k) = .inr (pks F) ∧ wr.ownsRow (w1.heap.size + 1) 118 1 pvv F.length (F.map fun q => pv q.1) ∧
      PL.PacksAt (fun x => w1.heap.size + 1 ≤ x ∧ x < wr.heap.size ∧ pvv.ownBlock ≠ some x) wr F ∧ (∀ p ∈ pks F, V3.Good p) ∧ Below (w1.heap.size + 1) (w1.alloc (.map #[] 0)) wr) (fun _ i _ => ts.length + 1 - (intOf i).toNat)
  case atStart => exact ⟨0, [], Nat.zero_le _, rfl, rfl, rfl, World.ownsRow_nil _ _ _ _, fun q hq => (by cases hq), fun p hp => (by cases hp), Below.refl _ _⟩
  case round =>
    obtain ⟨k, F, hk, rfl, hFl, hread, hrow, hpks, hgd, hbel⟩ := hrel
    have HR := Lib.hid hread
    have HROW := Lib.hid hrow
    have HPK := Lib.hid hpks
    have HGD := Lib.hid hgd
    have hws := hbel.size
    simp only [World.size_alloc] at hws
    have hbw : Below w.heap.size w wr := hb1.trans ((((Below.refl w1.heap.size w1).alloc (Nat.le_refl _) (.map #[] 0)).trans (hbel.mono (by omega))).mono hs1)
    clear hread hrow hpks hgd
    by_cases h : k < ts.length
    · obtain ⟨tb, toff, rfl, htb, htcell⟩ := HTG.out k h
      have htc' := (hbw.cell (p := ⟨tb, toff + k, none⟩) htb).trans htcell
      have hpc := parsed_any ⟨ts[k].toArray⟩ wr (HG.out.keep hbw)
      rw [bl_mk] at hpc
      have HPC := Lib.hid hpc
      have htk : ts.take (k + 1) = ts.take k ++ [ts[k]] := List.take_succ_eq_append_getElem h
      have htd : ts.take (k + 1) ++ ts.drop (k + 1) = ts := List.take_append_drop _ _
      have HTD := Lib.hid htd
      clear htd
      have hrs := PL.read_snoc 0 (ts.take k) ts[k]
      rw [← htk, HR.out] at hrs
      have hlk : (ts.take k).length = k := by rw [List.length_take]; omega
      rw [hlk] at hrs
      have HRS := Lib.hid hrs
      clear hpc htcell htk hrs hlk
      generalize hx : ts[k] = x at *
      clear hx
      go_wp2_with fail
      refine HPC.out.mono ?_
      rintro e w2 ⟨hb2, ⟨n, hp, rfl⟩ | ⟨p, b, hp, rfl, hpk, hok⟩⟩
      · have hrd := HRS.out
        rw [hp] at hrd
        have hpl : Sp.planned (pks L) ts = .inl ⟨1, 0 + k, n, []⟩ := by
          have := PL.read_stop 0 _ (ts.drop (k + 1)) hrd
          rw [HTD.out] at this
          unfold Sp.planned; rw [this]
        have HPL := Lib.hid hpl
        have hs2 := hb2.size
        clear hp hrd hpl
        go_wp2
        go_ret3
        refine ⟨(hbw.trans (hb2.mono hbw.size)).alloc (by omega) _, .inl ⟨_, w2.heap.size, HPL.out, Nat.le_refl _, by simp, rfl, by omega, ⟨by simp, ?_, ?_, ?_, ?_⟩⟩⟩ <;> rw [World.cell?_alloc_at _ _ _ _ rfl]
        all_goals simp [sv]
      · have hrd := HRS.out
        rw [hp] at hrd
        have hgp := (V3.parse_good hp).1
        have HGP := Lib.hid hgp
        have HPKN := Lib.hid hpk
        have HRD := Lib.hid hrd
        have hs2 := hb2.size
        have hrow2 := W3.row_keep HROW.out hb2
        have HROW2 := Lib.hid hrow2
        clear hp hrd hgp hpk hrow2
        go_wp2_with (at_builtin; refine wp_app_at app209 w2 [pv b] rfl (by simp [Value.oneCell', pv]) rfl _ _ rfl (w1.heap.size + 1) _ _ _ rfl HROW2.out rfl (by omega) (by omega) ?_; intro v' w3 hrow3 hg3 hv3 hloc3)
        have hb3 := below_of_grown (Below.refl (w1.heap.size + 1) w2) (by omega) HROW2.out hg3
        have hs3 := hb3.size
        have hPK3 : PL.PacksAt (fun y => w1.heap.size + 1 ≤ y ∧ y < w3.heap.size ∧ v'.ownBlock ≠ some y) w3 (F ++ [(b, p)]) := by
          intro q hq
          rcases List.mem_append.1 hq with hq | hq
          · refine PL.PacksAt.keep (w' := w3) HPK.out (fun y hy => (hg3.block y (by omega) (fun e => hy.2.2 e.symm)).trans (hb2.block y hy.2.1)) (fun y hy => ⟨hy.1, by omega, fun e => ?_⟩) q hq
            rcases hloc3 with h1 | ⟨g, h1, h2⟩
            · exact hy.2.2 (h1 ▸ e)
            · rw [h1] at e; have := Option.some.inj e; omega
          · rw [List.mem_singleton] at hq; subst hq
            refine ⟨(HPKN.out.keep fun y hy => hg3.block y hy.2 fun e => ?_).mono fun y hy => ⟨by omega, by omega, fun e => ?_⟩, hok⟩
            · have := (HROW.out.lt y e.symm).2; omega
            · rcases hloc3 with h1 | ⟨g, h1, h2⟩
              · have := (HROW.out.lt y (h1 ▸ e)).2; omega
              · rw [h1] at e; have := Option.some.inj e; omega
        have HPK3 := Lib.hid hPK3
        have HROW3 := Lib.hid hrow3
        clear hPK3 hrow3 hloc3 hg3
        go_roundw
        case rel => exact ⟨k + 1, F ++ [(b, p)], h, by go_num, by rw [List.length_append, hFl]; rfl, by rw [HRD.out]; simp [pks], by rw [List.length_append, List.map_append]; exact HROW3.out, HPK3.out, fun q hq => by
            unfold pks at hq
            rw [List.map_append, List.mem_append] at hq
            rcases hq with hq | hq
            · exact HGD.out q hq
            · have : q = p := by simpa using hq
              rw [this]; exact HGP.out, (hbel.trans (hb2.mono (by omega))).trans hb3⟩
        case measure => simp [intOf]; omega
    · have hke : k = ts.length := by omega
      have hread := HR.out
      rw [hke, List.take_length] at hread
      have HRD := Lib.hid hread
      have hFn : F.length = ts.length := by omega
      have HFN := Lib.hid hFn
      have hFle := Nat.le_of_eq hFn
      have HFL := Lib.hid hFl
      clear hFn hke hFl
      obtain ⟨W0, hW0⟩ : ∃ W0, W0 = wr := ⟨_, rfl⟩
      have hsl := PL.row_get HROW.out
      obtain ⟨pa, pc, hpv, hpc, hpg⟩ := hsl
      have hall0 : MapAt wr w.heap.size (kvOf L) := (HALL.out.below (w' := w1.alloc (.map #[] 0)) ((Below.refl w1.heap.size w1).alloc (Nat.le_refl _) _) hal).below hbel (by omega)
      have hfr0 : MapAt wr w1.heap.size (kvOf []) := (MapAt.made w1).below hbel (by omega)
      have HA0 := Lib.hid hall0
      have HF0 := Lib.hid hfr0
      have HPG := Lib.hid hpg
      rw [← hW0] at HPG HPK HROW
      have hW0s : W0.heap.size = wr.heap.size := by rw [hW0]
      have hbw0 := hbw
      have hle0 := Nat.le_of_eq hW0s
      have HW0 := Lib.hid hW0
      clear hread hpg hall0 hfr0 hW0 HR hW0s
      subst hpv
      go_wp2
      go_loopw [50] (fun i wr => ∃ k : Nat, k ≤ F.length ∧ i = .int .i64 k ∧ MapAt wr w.heap.size (kvOf (L ++ F.take k)) ∧ MapAt wr w1.heap.size (kvOf (F.take k)) ∧ Sp.addAll 0 (pks L) (pks (F.take k)) = .inr (pks (L ++ F.take k)) ∧
          (∀ j, w1.heap.size + 1 ≤ j → j < W0.heap.size → wr.heap[j]? = W0.heap[j]?) ∧ W0.heap.size ≤ wr.heap.size ∧ Below w.heap.size w wr) (fun i _ => F.length + 1 - (intOf i).toNat)
      case atStart => exact ⟨0, Nat.zero_le _, rfl, by simpa using HA0.out, HF0.out, by simp [pks, Sp.addAll], fun j _ _ => by rw [HW0.out], hle0, hbw0⟩
      case round =>
        obtain ⟨k2, hk2, rfl, hA2, hF2, hadd, hkp, hsz0, hbw2⟩ := hrel
        have HA2 := Lib.hid hA2
        have HF2 := Lib.hid hF2
        have HADD := Lib.hid hadd
        have HKP := Lib.hid hkp
        clear hA2 hF2 hadd hkp
        by_cases h2 : k2 < F.length
        · obtain ⟨rb, ro, rfl, hrb1, hrb2, hrc⟩ := HPG.out k2 h2
          have hrc2 := (World.cell?_of_block (w := W0) (a := ⟨rb, ro + k2, none⟩) (HKP.out rb hrb1 hrb2)).trans hrc
          obtain ⟨hpk, hok⟩ := HPK.out F[k2] (List.getElem_mem h2)
          have hpk2 := hpk.keep (w' := wr) fun x hx => HKP.out x hx.1 hx.2.1
          have hnl := hok.name
          have HOK := Lib.hid hok
          have HPKW := Lib.hid hpk2
          obtain ⟨_, _, _, ⟨hS1, hS2, _⟩, _, _, hc2, _⟩ := hpk2
          have htk : F.take (k2 + 1) = F.take k2 ++ [F[k2]] := List.take_succ_eq_append_getElem h2
          have htd : F.take (k2 + 1) ++ F.drop (k2 + 1) = F := List.take_append_drop _ _
          have has := PL.add_snoc (pks (F.take k2)) 0 (pks L) F[k2].2
          rw [HADD.out] at has
          have hlk : (pks (F.take k2)).length = k2 := by unfold pks; rw [List.length_map, List.length_take]; omega
          have e1 : pks (F.take k2) ++ [F[k2].2] = pks (F.take (k2 + 1)) := by rw [htk]; unfold pks; rw [List.map_append]; rfl
          rw [hlk, e1] at has
          have HAS := Lib.hid has
          have HTK := Lib.hid htk
          have HTDF := Lib.hid htd
          have hlkk := HA2.out.look Tryz.underlying140 zero118 F[k2].2.name (by unfold maxLen; omega)
          have hSr : F[k2].1 < wr.heap.size := by omega
          clear hpk hok hrc htk htd has hlk e1
          unfold sv at hc2
          unfold pv at hrc2
          generalize hq : F[k2] = q at *
          have HQ := Lib.hid hq
          clear hq
          obtain ⟨qb, qp⟩ := q
          simp only at hnl hc2 hrc2 hlkk hSr hS1 hS2
          rcases MP.kv_get (L := L ++ F.take k2) qp.name with ⟨g1, g2⟩ | ⟨q0, hq0, hqn, g2⟩
          · rw [g1] at hlkk
            have HNEW := Lib.hid g2
            clear g1 g2
            go_wp2_with fail
            have hnewA : hasKV (kvOf (L ++ F.take k2)) qp.name = false := by
              rw [← Bool.not_eq_true, MP.has_kv]; rintro ⟨q, hq, e⟩; exact HNEW.out q hq e
            have hnewF : hasKV (kvOf (F.take k2)) qp.name = false := by
              rw [← Bool.not_eq_true, MP.has_kv]; rintro ⟨q, hq, e⟩; exact HNEW.out q (List.mem_append.2 (.inr hq)) e
            have hnmx : qp.name.length ≤ maxLen := by unfold maxLen; omega
            have hAd : MapAt wr.drew w.heap.size (kvOf (L ++ F.take k2)) := HA2.out
            have hlA : (kvOf (L ++ F.take k2)).length < 1000000000 := by unfold kvOf; rw [List.length_map, List.length_append, List.length_take]; omega
            have hlF : (kvOf (F.take k2)).length < 1000000000 := by unfold kvOf; rw [List.length_map, List.length_take]; omega
            obtain ⟨v1, st1, u1, u2, r1, r2, hA3, f1, f2, ⟨o1, o2, o3, o4⟩, ⟨p1, p2, p3, p4⟩⟩ := hAd.enter Tryz.underlying140 zero118 hlA qp.name hnmx hnewA (.pointer (some ⟨qb, 0, none⟩))
            have hF3 : MapAt u2 w1.heap.size (kvOf (F.take k2)) := HF2.out.block (f2 _ (by omega))
            obtain ⟨v2, st2, u3, u4, r3, r4, hF4, f3, f4, ⟨o5, o6, o7, o8⟩, ⟨p5, p6, p7, p8⟩⟩ := hF3.enter Tryz.underlying140 zero118 hlF qp.name hnmx hnewF (.pointer (some ⟨qb, 0, none⟩))
            have hcd : ∀ W : World, W.heap[qb]? = wr.heap[qb]? → W.cell? ⟨qb, 2, none⟩ = some (.string ⟨qp.name.toArray⟩) := fun W hW => (World.cell?_of_block (w := wr) (a := ⟨qb, 2, none⟩) hW).trans hc2
            have d1 := hcd u1 (f1 qb (by omega))
            have d2 := hcd u2 (f2 qb (by omega))
            have d3 := hcd u3 ((f3 qb (by omega)).trans (f2 qb (by omega)))
            have d0 := hcd wr.drew rfl
            have q1 : qb < u1.heap.size := by rw [o4]; exact hSr
            have q2 : qb < u2.heap.size := by rw [p4]; exact hSr
            clear hcd
            have hno : (Sp.names (pks (L ++ F.take k2))).contains qp.name = false := by
              rw [← Bool.not_eq_true, List.contains_iff_mem]
              intro hm
              obtain ⟨p, hp, e⟩ := List.mem_map.1 hm
              obtain ⟨q, hq, rfl⟩ := List.mem_map.1 hp
              exact HNEW.out q hq e
            have hk1 : kvOf (L ++ F.take (k2 + 1)) = kvOf (L ++ F.take k2) ++ [(qp.name, .pointer (some ⟨qb, 0, none⟩))] := by
              rw [HTK.out, ← List.append_assoc, kv_snoc]
            have hk3 : kvOf (F.take (k2 + 1)) = kvOf (F.take k2) ++ [(qp.name, .pointer (some ⟨qb, 0, none⟩))] := by
              rw [HTK.out, kv_snoc]
            have hA5 : MapAt u4 w.heap.size (kvOf (L ++ F.take (k2 + 1))) := by rw [hk1]; exact hA3.block (f4 _ (by omega))
            have hF5 : MapAt u4 w1.heap.size (kvOf (F.take (k2 + 1))) := by rw [hk3]; exact hF4
            have hadd5 : Sp.addAll 0 (pks L) (pks (F.take (k2 + 1))) = .inr (pks (L ++ F.take (k2 + 1))) := by
              have h5 : Sp.addAll 0 (pks L) (pks (F.take (k2 + 1))) = if (Sp.names (pks (L ++ F.take k2))).contains qp.name then _ else _ := HAS.out
              rw [hno, if_neg Bool.false_ne_true] at h5
              rw [h5, HTK.out, ← List.append_assoc]
              unfold pks; simp only [List.map_append, List.map_cons, List.map_nil]
            have hf24 : ∀ j, w1.heap.size + 1 ≤ j → u4.heap[j]? = wr.heap[j]? := fun j hj => (f4 j (by omega)).trans (f2 j (by omega))
            have hkp5 : ∀ j, w1.heap.size + 1 ≤ j → j < W0.heap.size → u4.heap[j]? = W0.heap[j]? := fun j hj hj2 => (hf24 j hj).trans (HKP.out j hj hj2)
            have hb5 : Below w.heap.size wr u4 := ⟨p5.trans p1, p6.trans p2, p7.trans p3, by rw [p8, p4]; exact Nat.le_refl _, fun j hj => (f4 j (by omega)).trans (f2 j (by omega))⟩
            have hz5 : wr.heap.size ≤ u4.heap.size := hb5.size
            have HA5 := Lib.hid hA5
            have HF5 := Lib.hid hF5
            have HADD5 := Lib.hid hadd5
            have HKP5 := Lib.hid hkp5
            clear hA5 hF5 hadd5 hkp5 hk1 hk3 hno hf24 o1 o2 o3 o5 o6 o7 p1 p2 p3 p5 p6 p7 f1 f2 f3 f4 hA3 hF4 hF3 hAd
            go_region
            go_wp2
            go_roundw
            case rel => exact ⟨k2 + 1, h2, by go_num, HA5.out, HF5.out, HADD5.out, HKP5.out, by omega, hbw2.trans hb5⟩
            case measure => simp [intOf]; omega
          · rw [g2] at hlkk
            have hyes : (Sp.names (pks (L ++ F.take k2))).contains qp.name = true := by
              rw [List.contains_iff_mem]
              exact List.mem_map.2 ⟨q0.2, List.mem_map.2 ⟨q0, hq0, rfl⟩, hqn⟩
            have hpl : Sp.planned (pks L) ts = .inl ⟨2, 0 + k2, 0, qp.name⟩ := by
              have h5 := HAS.out
              simp only at h5
              rw [hyes, if_pos rfl] at h5
              have h6 := PL.add_stop (pks L) _ 0 (pks L) (pks (F.drop (k2 + 1))) h5
              have h7 : pks (F.take (k2 + 1)) ++ pks (F.drop (k2 + 1)) = pks F := by
                unfold pks; rw [← List.map_append, HTDF.out]
              rw [h7] at h6
              unfold Sp.planned
              rw [HRD.out]
              simp only
              rw [h6]
            have HPL := Lib.hid hpl
            have hfa := fault_any 2 (k2 : Int) qp.name wr
            have HFA := Lib.hid hfa
            clear hyes hpl hfa g2 hqn hq0
            unfold sv at HFA
            go_wp2_with fail
            refine HFA.out.mono ?_
            rintro e w4 ⟨rfl, hfl, hb4⟩
            go_wp2
            go_ret3
            refine ⟨hbw2.trans (hb4.mono hbw2.size), .inl ⟨_, _, HPL.out, by simp, by simp, rfl, hbw2.size, by simpa using hfl⟩⟩
        · have hk2e : k2 = F.length := by omega
          have hA6 := HA2.out
          have hF6 := HF2.out
          have hadd6 := HADD.out
          rw [hk2e, List.take_length] at hA6 hF6 hadd6
          have hpks6 : PL.PacksAt (fun x => x < wr.heap.size ∧ (S x ∨ w.heap.size ≤ x)) wr (L ++ F) := fun q hq => by
            rcases List.mem_append.1 hq with hq | hq
            · obtain ⟨h5, h6⟩ := HT.out.2.2 q hq
              exact ⟨(h5.keep fun x hx => hbw2.block x (HS.out x hx)).mono fun x hx => ⟨by have := HS.out x hx; have := hbw2.size; omega, .inl hx⟩, h6⟩
            · obtain ⟨h5, h6⟩ := HPK.out q hq
              exact ⟨(h5.keep fun x hx => HKP.out x hx.1 hx.2.1).mono fun x hx => ⟨by omega, .inr (by omega)⟩, h6⟩
          have hset : SetOn (fun x => x < wr.heap.size ∧ (S x ∨ w.heap.size ≤ x)) wr w.heap.size (L ++ F) := SetOn.of_map hA6 hpks6
          have hfset : SetOn (fun x => x < wr.heap.size) wr w1.heap.size F := SetOn.of_map hF6 fun q hq => by
            obtain ⟨h5, h6⟩ := hpks6 q (List.mem_append.2 (.inr hq))
            exact ⟨h5.mono fun x hx => hx.1, h6⟩
          have htset : SetOn (fun x => x < wr.heap.size) wr mt L := (HT.out.keep (hbw2.block _ hmtl) fun x hx => hbw2.block x (HS.out x hx)).mono fun x hx => by have := HS.out x hx; have := hbw2.size; omega
          have hgall : ∀ p ∈ pks (L ++ F), V3.Good p := fun p hp => by
            unfold pks at hp
            rw [List.map_append] at hp
            rcases List.mem_append.1 hp with hp | hp
            · exact HGO.out p hp
            · exact HGD.out p hp
          have hlen6 : (L ++ F).length ≤ 100000 := by rw [List.length_append]; omega
          have hplan : Sp.planned (pks L) ts = match Sp.judged (pks L) (pks F) (pks (L ++ F)) with
              | .inl f => .inl f
              | .inr o => .inr (pks (L ++ F), o) := by
            unfold Sp.planned
            rw [HRD.out]
            simp only
            rw [hadd6]
            dsimp only
            cases Sp.judged (pks L) (pks F) (pks (L ++ F)) <;> rfl
          have HSET := Lib.hid hset
          have HFSET := Lib.hid hfset
          have HTSET := Lib.hid htset
          have HGALL := Lib.hid hgall
          have HPLAN := Lib.hid hplan
          have hbw2s := hbw2.size
          clear hA6 hF6 hadd6 hpks6 hset hfset htset hgall hplan hk2e HA2 HF2 HADD
          -- the three checks
          have hnm6 : ∀ p ∈ pks (L ++ F), p.name ≠ [] := fun p hp => V1.name_ne (HGALL.out p hp).wf.name
          have hcl6 : ∀ p ∈ pks (L ++ F), Sp.clash1 (p.files.map (·.path)) = false ∧ ∀ f ∈ p.files, f.path ≠ [] := fun p hp => ⟨(HGALL.out p hp).wf.clash, fun f hf e => by
            have := ((HGALL.out p hp).wf.paths f hf).1
            rw [e] at this; cases this⟩
          have HNM6 := Lib.hid hnm6
          have HCL6 := Lib.hid hcl6
          clear hnm6 hcl6
          have hjd : Sp.judged (pks L) (pks F) (pks (L ++ F)) = (if !(Sp.lacking (pks (L ++ F))).isEmpty then .inl ⟨4, 0, 0, Sp.lacking (pks (L ++ F))⟩
            else if !(Sp.barring (pks (L ++ F))).isEmpty then .inl ⟨5, 0, 0, Sp.barring (pks (L ++ F))⟩
            else if !(Sp.clash (pks (L ++ F))).isEmpty then .inl ⟨6, 0, 0, Sp.clash (pks (L ++ F))⟩
            else if !(Sp.order (pks L) (pks F)).2.isEmpty then .inl ⟨7, 0, 0, Sp.least (Sp.names (Sp.order (pks L) (pks F)).2)⟩
            else .inr (Sp.order (pks L) (pks F)).1) := rfl
          have HJD := Lib.hid hjd
          clear hjd
          have hsf := fun (w : World) (a : Addr) (fn : Fn) (f c : Array Value) (m : Mode) => run_store Tryz.prog w a (.func fn f c) m rfl
          go_wp2
          refine wp_loop_rounds 4 ?_
          have hbk : Below wr.heap.size wr (wr.alloc (.cells #[.int .i64 4, .func (.func 80) #[] #[], .int .i64 5, .func (.func 123) #[] #[], .int .i64 6, .func (.func 124) #[] #[]] 211)) := (Below.refl _ _).alloc (Nat.le_refl _) _
          have hk0 : (wr.alloc (.cells #[.int .i64 4, .func (.func 80) #[] #[], .int .i64 5, .func (.func 123) #[] #[], .int .i64 6, .func (.func 124) #[] #[]] 211)).cell? ⟨wr.heap.size, 0, none⟩ = some (.int .i64 4) := by rw [World.cell?_alloc_at _ _ _ _ rfl]; rfl
          have hk1 : (wr.alloc (.cells #[.int .i64 4, .func (.func 80) #[] #[], .int .i64 5, .func (.func 123) #[] #[], .int .i64 6, .func (.func 124) #[] #[]] 211)).cell? ⟨wr.heap.size, 1, none⟩ = some (.func (.func 80) #[] #[]) := by rw [World.cell?_alloc_at _ _ _ _ rfl]; rfl
          have hk2' : (wr.alloc (.cells #[.int .i64 4, .func (.func 80) #[] #[], .int .i64 5, .func (.func 123) #[] #[], .int .i64 6, .func (.func 124) #[] #[]] 211)).cell? ⟨wr.heap.size, 2, none⟩ = some (.int .i64 5) := by rw [World.cell?_alloc_at _ _ _ _ rfl]; rfl
          have hk3 : (wr.alloc (.cells #[.int .i64 4, .func (.func 80) #[] #[], .int .i64 5, .func (.func 123) #[] #[], .int .i64 6, .func (.func 124) #[] #[]] 211)).cell? ⟨wr.heap.size, 3, none⟩ = some (.func (.func 123) #[] #[]) := by rw [World.cell?_alloc_at _ _ _ _ rfl]; rfl
          have hk4 : (wr.alloc (.cells #[.int .i64 4, .func (.func 80) #[] #[], .int .i64 5, .func (.func 123) #[] #[], .int .i64 6, .func (.func 124) #[] #[]] 211)).cell? ⟨wr.heap.size, 4, none⟩ = some (.int .i64 6) := by rw [World.cell?_alloc_at _ _ _ _ rfl]; rfl
          have hk5 : (wr.alloc (.cells #[.int .i64 4, .func (.func 80) #[] #[], .int .i64 5, .func (.func 123) #[] #[], .int .i64 6, .func (.func 124) #[] #[]] 211)).cell? ⟨wr.heap.size, 5, none⟩ = some (.func (.func 124) #[] #[]) := by rw [World.cell?_alloc_at _ _ _ _ rfl]; rfl
          have hkl : wr.heap.size < (wr.alloc (.cells #[.int .i64 4, .func (.func 80) #[] #[], .int .i64 5, .func (.func 123) #[] #[], .int .i64 6, .func (.func 124) #[] #[]] 211)).heap.size := by simp
          generalize (wr.alloc (.cells #[.int .i64 4, .func (.func 80) #[] #[], .int .i64 5, .func (.func 123) #[] #[], .int .i64 6, .func (.func 124) #[] #[]] 211)) = x0 at *
          have hbx0 : Below wr.heap.size wr x0 := hbk
          clear hbk
          have hsx0 := hbx0.size
          have hbA0 : Below x0.heap.size x0 (x0.alloc (.cells #[.int .i64 4, .func (.func 80) #[] #[]] 211)) := (Below.refl _ _).alloc (Nat.le_refl _) _
          have hst0 : SetOn (fun b => b < (x0.alloc (.cells #[.int .i64 4, .func (.func 80) #[] #[]] 211)).heap.size) (x0.alloc (.cells #[.int .i64 4, .func (.func 80) #[] #[]] 211)) w.heap.size (L ++ F) := (HSET.out.mono fun _ hx => hx.1).below (hbx0.trans (hbA0.mono hsx0))
          have hcall0 := lacking_any w.heap.size (L ++ F) _ hst0 (by rw [List.length_append]; omega) HNM6.out
          have HC0 := Lib.hid hcall0
          clear hcall0 hst0
          unfold sv at HC0
          rw [rounds_succ]
          cases he0 : (Sp.lacking (pks (L ++ F))).isEmpty with
          | false =>
            have hpl : Sp.planned (pks L) ts = .inl ⟨4, 0, 0, Sp.lacking (pks (L ++ F))⟩ := by
              rw [HPLAN.out, HJD.out, he0]; rfl
            have HPL := Lib.hid hpl
            clear hpl
            go_wp2_with fail
            refine HC0.out.mono ?_
            rintro e z ⟨rfl, hbz⟩
            have hz0 := hbz.cell (p := ⟨x0.heap.size, 0, none⟩) (show x0.heap.size < _ by simp)
            rw [World.cell?_alloc_at _ _ _ _ rfl] at hz0
            simp only [List.getElem?_toArray, List.getElem?_cons_zero] at hz0
            have hbzz : Below w.heap.size w z := hbw2.trans ((hbx0.trans ((hbA0.trans (hbz.mono hbA0.size)).mono hsx0)).mono hbw2s)
            have hfa := fault_any 4 0 (Sp.lacking (pks (L ++ F))) z
            have HFA := Lib.hid hfa
            clear hfa
            unfold sv at HFA
            go_wp2_with fail
            refine HFA.out.mono ?_
            rintro e z2 ⟨rfl, hfl, hb4⟩
            go_wp2
            go_ret3
            exact ⟨hbzz.trans (hb4.mono hbzz.size), .inl ⟨_, _, HPL.out, by simp, by simp, rfl, hbzz.size, hfl⟩⟩
          | true =>
            go_wp2_with fail
            refine HC0.out.mono ?_
            rintro e x1 ⟨rfl, hbz⟩
            have hbx1 : Below wr.heap.size wr x1 := hbx0.trans ((hbA0.trans (hbz.mono hbA0.size)).mono hsx0)
            have hk2q := (hbz.cell (p := ⟨wr.heap.size, 2, none⟩) (show wr.heap.size < _ by simp; omega)).trans ((World.cell?_alloc_lt _ _ _ (show wr.heap.size < _ by omega)).trans hk2')
            have hk3q := (hbz.cell (p := ⟨wr.heap.size, 3, none⟩) (show wr.heap.size < _ by simp; omega)).trans ((World.cell?_alloc_lt _ _ _ (show wr.heap.size < _ by omega)).trans hk3)
            have hk4q := (hbz.cell (p := ⟨wr.heap.size, 4, none⟩) (show wr.heap.size < _ by simp; omega)).trans ((World.cell?_alloc_lt _ _ _ (show wr.heap.size < _ by omega)).trans hk4)
            have hk5q := (hbz.cell (p := ⟨wr.heap.size, 5, none⟩) (show wr.heap.size < _ by simp; omega)).trans ((World.cell?_alloc_lt _ _ _ (show wr.heap.size < _ by omega)).trans hk5)
            have hkl1 : wr.heap.size < x1.heap.size := by have := hbz.size; simp at this; omega
            go_wp2_with fail
            have hsx1 := hbx1.size
            have hbA1 : Below x1.heap.size x1 (x1.alloc (.cells #[.int .i64 5, .func (.func 123) #[] #[]] 211)) := (Below.refl _ _).alloc (Nat.le_refl _) _
            have hst1 : SetOn (fun b => b < (x1.alloc (.cells #[.int .i64 5, .func (.func 123) #[] #[]] 211)).heap.size) (x1.alloc (.cells #[.int .i64 5, .func (.func 123) #[] #[]] 211)) w.heap.size (L ++ F) := (HSET.out.mono fun _ hx => hx.1).below (hbx1.trans (hbA1.mono hsx1))
            have hcall1 := barring_any w.heap.size (L ++ F) _ hst1 (by rw [List.length_append]; omega) HNM6.out
            have HC1 := Lib.hid hcall1
            clear hcall1 hst1
            unfold sv at HC1
            rw [rounds_succ]
            cases he1 : (Sp.barring (pks (L ++ F))).isEmpty with
            | false =>
              have hpl : Sp.planned (pks L) ts = .inl ⟨5, 0, 0, Sp.barring (pks (L ++ F))⟩ := by
                rw [HPLAN.out, HJD.out, he0, he1]; rfl
              have HPL := Lib.hid hpl
              clear hpl
              go_wp2_with fail
              refine HC1.out.mono ?_
              rintro e z ⟨rfl, hbz⟩
              have hz0 := hbz.cell (p := ⟨x1.heap.size, 0, none⟩) (show x1.heap.size < _ by simp)
              rw [World.cell?_alloc_at _ _ _ _ rfl] at hz0
              simp only [List.getElem?_toArray, List.getElem?_cons_zero] at hz0
              have hbzz : Below w.heap.size w z := hbw2.trans ((hbx1.trans ((hbA1.trans (hbz.mono hbA1.size)).mono hsx1)).mono hbw2s)
              have hfa := fault_any 5 0 (Sp.barring (pks (L ++ F))) z
              have HFA := Lib.hid hfa
              clear hfa
              unfold sv at HFA
              go_wp2_with fail
              refine HFA.out.mono ?_
              rintro e z2 ⟨rfl, hfl, hb4⟩
              go_wp2
              go_ret3
              exact ⟨hbzz.trans (hb4.mono hbzz.size), .inl ⟨_, _, HPL.out, by simp, by simp, rfl, hbzz.size, hfl⟩⟩
            | true =>
              go_wp2_with fail
              refine HC1.out.mono ?_
              rintro e x2 ⟨rfl, hbz⟩
              have hbx2 : Below wr.heap.size wr x2 := hbx1.trans ((hbA1.trans (hbz.mono hbA1.size)).mono hsx1)
              have hk4qq := (hbz.cell (p := ⟨wr.heap.size, 4, none⟩) (show wr.heap.size < _ by simp; omega)).trans ((World.cell?_alloc_lt _ _ _ (show wr.heap.size < _ by omega)).trans hk4q)
              have hk5qq := (hbz.cell (p := ⟨wr.heap.size, 5, none⟩) (show wr.heap.size < _ by simp; omega)).trans ((World.cell?_alloc_lt _ _ _ (show wr.heap.size < _ by omega)).trans hk5q)
              have hkl2 : wr.heap.size < x2.heap.size := by have := hbz.size; simp at this; omega
              go_wp2_with fail
              have hsx2 := hbx2.size
              have hbA2 : Below x2.heap.size x2 (x2.alloc (.cells #[.int .i64 6, .func (.func 124) #[] #[]] 211)) := (Below.refl _ _).alloc (Nat.le_refl _) _
              have hst2 : SetOn (fun b => b < (x2.alloc (.cells #[.int .i64 6, .func (.func 124) #[] #[]] 211)).heap.size) (x2.alloc (.cells #[.int .i64 6, .func (.func 124) #[] #[]] 211)) w.heap.size (L ++ F) := (HSET.out.mono fun _ hx => hx.1).below (hbx2.trans (hbA2.mono hsx2))
              have hcall2 := planned1_any w.heap.size (L ++ F) _ hst2 hlen6 HCL6.out
              have HC2 := Lib.hid hcall2
              clear hcall2 hst2
              unfold sv at HC2
              rw [rounds_succ]
              cases he2 : (Sp.clash (pks (L ++ F))).isEmpty with
              | false =>
                have hpl : Sp.planned (pks L) ts = .inl ⟨6, 0, 0, Sp.clash (pks (L ++ F))⟩ := by
                  rw [HPLAN.out, HJD.out, he0, he1, he2]; rfl
                have HPL := Lib.hid hpl
                clear hpl
                go_wp2_with fail
                refine HC2.out.mono ?_
                rintro e z ⟨rfl, hbz⟩
                have hz0 := hbz.cell (p := ⟨x2.heap.size, 0, none⟩) (show x2.heap.size < _ by simp)
                rw [World.cell?_alloc_at _ _ _ _ rfl] at hz0
                simp only [List.getElem?_toArray, List.getElem?_cons_zero] at hz0
                have hbzz : Below w.heap.size w z := hbw2.trans ((hbx2.trans ((hbA2.trans (hbz.mono hbA2.size)).mono hsx2)).mono hbw2s)
                have hfa := fault_any 6 0 (Sp.clash (pks (L ++ F))) z
                have HFA := Lib.hid hfa
                clear hfa
                unfold sv at HFA
                go_wp2_with fail
                refine HFA.out.mono ?_
                rintro e z2 ⟨rfl, hfl, hb4⟩
                go_wp2
                go_ret3
                exact ⟨hbzz.trans (hb4.mono hbzz.size), .inl ⟨_, _, HPL.out, by simp, by simp, rfl, hbzz.size, hfl⟩⟩
              | true =>
                go_wp2_with fail
                refine HC2.out.mono ?_
                rintro e x3 ⟨rfl, hbz⟩
                have hbx3 : Below wr.heap.size wr x3 := hbx2.trans ((hbA2.trans (hbz.mono hbA2.size)).mono hsx2)
                have hkl3 : wr.heap.size < x3.heap.size := by have := hbz.size; simp at this; omega
                go_wp2_with fail
                rw [rounds_succ]
                go_wp2_with fail
                have hsx := hbx3.size
                have hord := order_any mt w1.heap.size L F x3 (HTSET.out.below hbx3) (HFSET.out.below hbx3) (by omega) (fun p hp => ⟨by
                    have := (HGALL.out p (by unfold pks at hp ⊢; rw [List.map_append]; exact List.mem_append.2 (.inr hp))).wf.name
                    have := P2.name_len this
                    omega, V1.name_ne (HGALL.out p (by unfold pks at hp ⊢; rw [List.map_append]; exact List.mem_append.2 (.inr hp))).wf.name⟩)
                refine hord.mono ?_
                rintro e x4 ⟨hb4, v, l, ok, rfl, hv, hor⟩
                have hbw4 : Below w.heap.size w x4 := hbw2.trans ((hbx3.trans (hb4.mono hsx)).mono hbw2s)
                rcases hor with ⟨rfl, hor2, rfl⟩ | ⟨rfl, hor2, rfl⟩
                · have hpl : Sp.planned (pks L) ts = .inr (pks (L ++ F), (Sp.order (pks L) (pks F)).1) := by
                    rw [HPLAN.out, HJD.out, he0, he1, he2, hor2]; rfl
                  have HPL := Lib.hid hpl
                  have HV := Lib.hid hv
                  clear hpl hor2 hv
                  go_wp2
                  go_ret3
                  refine ⟨hbw4, .inr ⟨F, _, w.heap.size, v, HPL.out, rfl, Nat.le_refl _, HFN.out, ?_, HV.out.base (by have := hbw2.size; omega), HGD.out⟩⟩
                  have hbx4 := hbx3.trans (hb4.mono hsx)
                  refine (HSET.out.keep (hbx4.block w.heap.size HSET.out.map.lt) fun x hx => hbx4.block x hx.1).mono fun x hx => ?_
                  have := hbx4.size
                  rcases hx.2 with h5 | h5
                  · exact .inl h5
                  · exact .inr (by omega)
                · have hle : ∀ x ∈ Sp.names (Sp.order (pks L) (pks F)).2, x ≠ [] := fun x hx => by
                    obtain ⟨p, hp, rfl⟩ := List.mem_map.1 hx
                    have hp2 := PL.order_sub (pks L) _ _ p hp
                    exact V1.name_ne (HGALL.out p (by unfold pks at hp2 ⊢; rw [List.map_append]; exact List.mem_append.2 (.inr hp2))).wf.name
                  have hso := V8.sorted_ord (Sp.names (Sp.order (pks L) (pks F)).2)
                  have hsp := V8.sorted_perm (Sp.names (Sp.order (pks L) (pks F)).2)
                  cases hl : Sp.sorted (Sp.names (Sp.order (pks L) (pks F)).2) with
                  | nil =>
                    rw [hl] at hsp
                    exact absurd (List.map_eq_nil_iff.1 (List.nil_perm.1 hsp)) hor2
                  | cons n r =>
                    rw [hl] at hsp hso hv
                    have hlst : Sp.least (Sp.names (Sp.order (pks L) (pks F)).2) = n := V5.least_eq hle (hsp.mem_iff.1 (by simp)) fun x hx => by
                      rcases List.mem_cons.1 (hsp.mem_iff.2 hx) with rfl | hx
                      · exact List.le_refl _
                      · exact (List.pairwise_cons.1 hso).1 x hx
                    have hne : (Sp.order (pks L) (pks F)).2.isEmpty = false := by
                      cases h5 : (Sp.order (pks L) (pks F)).2 with
                      | nil => exact absurd h5 hor2
                      | cons _ _ => rfl
                    have hpl : Sp.planned (pks L) ts = .inl ⟨7, 0, 0, n⟩ := by
                      rw [HPLAN.out, HJD.out, he0, he1, he2, hne, hlst]; rfl
                    have HPL := Lib.hid hpl
                    obtain ⟨va, vc, rfl, hvc, hvg⟩ := hv.at_.get
                    obtain ⟨vb, vo, rfl, hvb, hvcell⟩ := hvg 0 (by simp)
                    simp only [List.getElem_cons_zero, Nat.add_zero] at hvcell
                    have hfa := fault_any 7 0 n x4
                    have HFA := Lib.hid hfa
                    have hvl : 0 < (n :: r).length := by simp
                    clear hpl hor2 hle hso hsp hlst hne hfa hvg hv hl
                    unfold sv at HFA
                    go_wp2_with fail
                    refine HFA.out.mono ?_
                    rintro e x5 ⟨rfl, hfl, hb5⟩
                    go_wp2
                    go_ret3
                    exact ⟨hbw4.trans (hb5.mono hbw4.size), .inl ⟨_, _, HPL.out, by simp, by simp, rfl, hbw4.size, hfl⟩⟩
end Go.Proofs.YtfphcecjhdkcoaaGreatDoor

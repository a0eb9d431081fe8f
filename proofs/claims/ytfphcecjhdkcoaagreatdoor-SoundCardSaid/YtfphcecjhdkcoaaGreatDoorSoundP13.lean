/-
What the walk of the program's planned stands on: what it comes to; packages that are read one behind the other.
-/
import Derived.Test.YtfphcecjhdkcoaaGreatDoorSoundP06
import Derived.Test.YtfphcecjhdkcoaaGreatDoorSoundP10
import Derived.Test.YtfphcecjhdkcoaaGreatDoorSoundP12
import Derived.BigQuiet
import Derived.Deep.RegionHeld3
import Derived.Deep.DeepCutAuto
import Derived.StillTailTactics
import Derived.Lib.MinMax
import Derived.Lib.ConvBytes
import Derived.WideKeyEntry
import Derived.StringKeys
/-
The walk of the disk's save: bytes lie there from now on, or what lay there does.
-/
namespace Go.Proofs.YtfphcecjhdkcoaaGreatDoor
open Go.RowKit Go.Maps
set_option maxRecDepth 100000 in
set_option maxHeartbeats 2000000 in
theorem save_any {O S : Nat → Prop} {w : World} {s D last : Nat} {mv ov : Value} {d : Sp.Dk} (hs : StBlk w s D last mv ov) (hd : DkE O w D d) (hO : ¬ O s) (hl : last + 1 < 18446744073709551616) (bv : Value) (b : Sp.Str) (hb : BytesOn S w bv b) (hSb : ∀ x, S x → x < w.heap.size ∧ ¬ O x ∧ x ≠ s)
    (hlen : b.length ≤ Sp.areaN d.seen.length * 64) (hlate : d.late.length < 900000) :
    Calls Tryz.prog 174 #[.pointer (some ⟨s, 0, none⟩), bv] w fun e w' => e = .returned (.tuple #[]) ∧ Chg (fun k => O k ∨ k = s) w w' ∧ StBlk w' s D (last + 1) mv ov ∧ DkE (fun k => O k ∨ w.heap.size ≤ k) w' D (Sp.save d last b) := by
  have hlens := hd.lens
  have m0 := Tryz.mSync
  have m1 := Tryz.mWrite
  obtain ⟨c0, c1, c2, c3, cz⟩ := hs.cells
  have hslt := hs.lt
  have han : Sp.areaN d.seen.length ≤ 127 := by unfold Sp.areaN; omega
  have hw1 := DS.wrap64 (last + 1) hl
  rw [show ((last + 1 : Nat) : Int) = (last : Int) + 1 by omega] at hw1
  have hw2 := DS.wrap64 b.length (by omega)
  obtain ⟨va, vcap, rfl, hcap, _⟩ := hb.get
  have hsum := fun (W : World) (hW : BytesOn S W (.slice va b.length vcap) b) => sum_any _ _ W hW (by omega)
  have HSUM := Lib.hid hsum
  have HB := Lib.hid hb
  have HSB := Lib.hid hSb
  have HST := Lib.hid hs
  have HO := Lib.hid hO
  have HDK := Lib.hid hd
  have hS0 := Lib.hid (show w.drew.cell? ⟨s, 1, none⟩ = some (.int .u64 (last : Int)) ∧ BytesOn S w.drew (.slice va b.length vcap) b from ⟨c1, hb.keep (fun _ _ => rfl) fun _ h => h⟩)
  have hSA := Lib.hid (fun (o : Obj) => show (w.alloc o).drew.cell? ⟨s, 1, none⟩ = some (.int .u64 (last : Int)) ∧ BytesOn S (w.alloc o).drew (.slice va b.length vcap) b from ⟨(World.cell?_alloc_lt _ _ _ hslt).trans c1, hb.keep (fun x hx => Below.heap_alloc _ _ _ (hSb x hx).1) fun _ h => h⟩)
  clear hd hs hb hSb hsum hO
  go_enter Tryz.func174, Tryz.ntmps174
  go_wp2_with fail
  go_cut [4] from 8 to 18 (fun s4 wx => s4 = .pointer (some ⟨w.heap.size, 0, none⟩) ∧ wx = (w.alloc (.cells #[.int .u64 ((last : Int) + 1), .int .u64 (b.length : Int), .int .u64 (Sp.sum b : Int)] 309)).drew)
  case first =>
    go_region_held3 (fun x => x.cell? ⟨s, 1, none⟩ = some (.int .u64 (last : Int)) ∧ BytesOn S x (.slice va b.length vcap) b)
      (first | (with_reducible exact hS0.out) | (with_reducible exact hSA.out _))
      (first | (go_at_call 215; refine (HSUM.out _ ?_).mono ?_; (simp only [*]); rintro e w' ⟨rfl, rfl⟩))
    all_goals (go_wp2_with fail; go_meet; exact ⟨rfl, by first | rfl | (rw [hw1]) | (simp only [*])⟩)
  case rest =>
    obtain ⟨rfl, rfl⟩ := hcut
    have hbA : Below w.heap.size w (w.alloc (.cells #[.int .u64 ((last : Int) + 1), .int .u64 (b.length : Int), .int .u64 (Sp.sum b : Int)] 309)).drew := ((Below.refl _ _).alloc (Nat.le_refl _) _).drew
    have k0 : (w.alloc (.cells #[.int .u64 ((last : Int) + 1), .int .u64 (b.length : Int), .int .u64 (Sp.sum b : Int)] 309)).drew.cell? ⟨w.heap.size, 0, none⟩ = some (.int .u64 ((last : Int) + 1)) := by show (w.alloc _).cell? _ = _; rw [World.cell?_alloc_at _ _ _ _ rfl]; rfl
    have k1 : (w.alloc (.cells #[.int .u64 ((last : Int) + 1), .int .u64 (b.length : Int), .int .u64 (Sp.sum b : Int)] 309)).drew.cell? ⟨w.heap.size, 1, none⟩ = some (.int .u64 (b.length : Int)) := by show (w.alloc _).cell? _ = _; rw [World.cell?_alloc_at _ _ _ _ rfl]; rfl
    have k2 : (w.alloc (.cells #[.int .u64 ((last : Int) + 1), .int .u64 (b.length : Int), .int .u64 (Sp.sum b : Int)] 309)).drew.cell? ⟨w.heap.size, 2, none⟩ = some (.int .u64 (Sp.sum b : Int)) := by show (w.alloc _).cell? _ = _; rw [World.cell?_alloc_at _ _ _ _ rfl]; rfl
    have hzA : (w.alloc (.cells #[.int .u64 ((last : Int) + 1), .int .u64 (b.length : Int), .int .u64 (Sp.sum b : Int)] 309)).drew.heap.size = w.heap.size + 1 := by simp
    generalize (w.alloc (.cells #[.int .u64 ((last : Int) + 1), .int .u64 (b.length : Int), .int .u64 (Sp.sum b : Int)] 309)).drew = wA at *
    have hstA := HST.out.keep (hbA.block s hslt)
    have hdA := HDK.out.inside.below hbA
    have har := area_any hstA hdA (last + 1) hl
    rw [show ((last + 1 : Nat) : Int) = (last : Int) + 1 by omega] at har
    obtain ⟨from_, hfrom⟩ : ∃ f, f = Sp.areaFrom d.seen.length (last + 1) := ⟨_, rfl⟩
    rw [← hfrom] at har
    have hfr : 2 ≤ from_ ∧ from_ + Sp.areaN d.seen.length ≤ d.seen.length := by
      rw [hfrom]; unfold Sp.areaFrom Sp.areaN; have : (last + 1) % 2 = 0 ∨ (last + 1) % 2 = 1 := by omega
      rcases this with h | h <;> rw [h] <;> omega
    obtain ⟨an, han2⟩ : ∃ an, an = Sp.areaN d.seen.length := ⟨_, rfl⟩
    rw [← han2] at han hlen hfr
    have HFR := Lib.hid hfrom
    have HAN := Lib.hid han2
    have HAR := Lib.hid har
    have HSA := Lib.hid hstA
    have HDA := Lib.hid hdA
    have HBA := Lib.hid hbA
    have HZA := Lib.hid hzA
    have hzA1 := Nat.le_of_eq hzA
    have hzA2 := Nat.le_of_eq hzA.symm
    clear har hstA hdA hbA hfrom han2 hzA c0 c1 c2 c3 cz hw2
    go_wp2_with fail
    refine HAR.out.mono ?_
    rintro e w1 ⟨rfl, rfl⟩
    go_wp2_with fail
    go_loopw [7] (fun i wr => ∃ k j : Nat, j = k * 64 ∧ k * 64 < b.length + 64 ∧ i = .int .i64 (j : Int) ∧ DkE (fun x => (O x ∧ x < w.heap.size) ∨ w.heap.size < x) wr D (d.writes from_ ((Sp.chunks b).take k)) ∧ Chg (fun x => O x ∧ x < w.heap.size) w1 wr) (fun i _ => b.length + 64 - (intOf i).toNat)
    case atStart => exact ⟨0, 0, rfl, by omega, rfl, HDA.out.mono fun x hx => .inl hx, Chg.refl _ _⟩
    case round =>
      obtain ⟨k, j, hj, hk, rfl, hdk, hch⟩ := hrel
      have HJ := Lib.hid hj
      have HDK2 := Lib.hid hdk
      have HCH := Lib.hid hch
      have hzr := hch.size
      have hsr : ¬ (O s ∧ s < w.heap.size) := fun h => HO.out h.1
      have hstr := HSA.out.keep (hch.block s (by omega) hsr)
      have hkj : k * 64 ≤ j := by omega
      have hjk : j ≤ k * 64 := by omega
      obtain ⟨c0, c1, c2, c3, cz⟩ := hstr.cells
      unfold dptr at c0
      have HSR := Lib.hid hstr
      clear hj hdk hch hstr
      by_cases hlt : j < b.length
      · obtain ⟨bb, off, rfl, hbS, _⟩ := HB.out.src (by omega)
        have hS1 := Lib.hid (show wr.drew.cell? ⟨s, 0, none⟩ = some (.iface 90 (.pointer (some ⟨D, 0, none⟩))) from c0)
        obtain ⟨m, hm⟩ : ∃ m, m = min (j + 64) b.length := ⟨_, rfl⟩
        have hm1 : j ≤ m ∧ m ≤ b.length ∧ m - j ≤ 64 ∧ m < 9223372036854775807 := by omega
        have hm2 : min ((j : Int) + 64) (b.length : Int) = (m : Int) := by omega
        have hmj : (0 : Int) ≤ (j : Int) ∧ (j : Int) ≤ (m : Int) ∧ (m : Int) ≤ (vcap : Int) ∧ (m : Int) ≤ (b.length : Int) := by omega
        obtain ⟨hmj0, hmj1, hmj2, hmj3⟩ := hmj
        have hne : ¬ (vcap = j) := by omega
        have hjb : j ≤ 8128 := by omega
        have hwk : IntKind.i64.wrap (k : Int) = (k : Int) := IntWalk.i64_in _ (by omega)
        have hwf : IntKind.i64.wrap ((from_ : Int) + (k : Int)) = (from_ : Int) + (k : Int) := IntWalk.i64_in _ (by omega)
        have hwj : IntKind.i64.wrap ((j : Int) + 64) = (j : Int) + 64 := IntWalk.i64_in _ (by omega)
        have HM := Lib.hid hm
        clear hm
        have hq : (j : Int) / 64 = (k : Int) := by omega
        go_wp2_with fail
        have hbW := ((HB.out.keep (w' := wr.drew) (S' := S) (fun x hx => (HCH.out.block x (by have := (HSB.out x hx).1; omega) fun h => (HSB.out x hx).2.1 h.1).trans (HBA.out.block x (HSB.out x hx).1)) fun _ h => h).cut j m (vcap - j) (by omega) (by omega) (by omega))
        have hce : (b.drop j).take (m - j) = (b.drop (k * 64)).take 64 := by
          rw [← HJ.out, List.take_eq_take_iff, List.length_drop, HM.out]; omega
        rw [hce] at hbW
        obtain ⟨wl1, wl2⟩ := V12.writes_len ((Sp.chunks b).take k) from_ d
        have htl : ((Sp.chunks b).take k).length ≤ k := by rw [List.length_take]; omega
        have hct := V12.chunks_take b k (by omega)
        have hcl : ((Sp.chunks b).take k).length = k := by
          have h1 := V6.chunks_get b k
          rw [if_pos (by omega)] at h1
          have := (List.getElem?_eq_some_iff.1 h1).1
          rw [List.length_take]; omega
        have hdw := dwrite_any (HDK2.out.keep (w' := wr.drew) (fun _ _ _ => rfl) (Nat.le_refl _)) (from_ + k) (by rw [wl1]; omega) _ _ (by rw [List.length_take]; omega) hbW (fun x hx => by have := (HSB.out x hx).1; show x < wr.heap.size; omega) (by omega)
        have hws : (d.writes from_ ((Sp.chunks b).take k)).write (from_ + k) ((b.drop (k * 64)).take 64) = d.writes from_ ((Sp.chunks b).take (k + 1)) := by rw [hct, V12.writes_snoc, hcl]
        rw [hws, show ((from_ + k : Nat) : Int) = (from_ : Int) + (k : Int) by omega] at hdw
        have HDW := Lib.hid hdw
        clear hbW hce wl1 wl2 htl hct hcl hdw hws
        go_still_tail 18, (by kernel_rfl)
        change wpList _ _ _ _ _ (World.drew wr)
        go_wp2_with fail
        refine HDW.out.mono ?_
        rintro e w2 ⟨rfl, hch2, hdk2⟩
        have hch3 : Chg (fun x => O x ∧ x < w.heap.size) w1 w2 := (HCH.out.drew).trans' hch2 fun x hx => by
          rcases hx with hx | hx
          · exact .inl hx
          · exact .inr (by omega)
        have hdk3 := hdk2.mono (O' := fun x => (O x ∧ x < w.heap.size) ∨ w.heap.size < x) fun x hx => by
          rcases hx with hx | hx
          · exact hx
          · exact .inr (by have : wr.heap.size ≤ x := hx; omega)
        have HCH3 := Lib.hid hch3
        have HDK3 := Lib.hid hdk3
        clear hch2 hdk2 hch3 hdk3
        go_wp2_with fail
        go_roundw
        case rel => exact ⟨k + 1, j + 64, by have := HJ.out; omega, by omega, by go_num, HDK3.out, HCH3.out⟩
        case measure => simp [intOf]; omega
      · have hall := HDK2.out
        rw [V12.chunks_all b k (by omega)] at hall
        obtain ⟨wl1, wl2⟩ := V12.writes_len (Sp.chunks b) from_ d
        have hcl : (Sp.chunks b).length ≤ 200 := by rw [V6.chunks_len]; omega
        obtain ⟨sl1, sl2⟩ := V12.sync_len (d.writes from_ (Sp.chunks b))
        have hsy := dsync_any hall (by omega)
        obtain ⟨d1, hd1⟩ : ∃ d1, d1 = (d.writes from_ (Sp.chunks b)).sync := ⟨_, rfl⟩
        rw [← hd1] at hsy sl1 sl2
        have hsl1 : d1.seen.length = d.seen.length := sl1.trans wl1
        have hll1 : d1.late.length ≤ 900200 := by omega
        have HSY := Lib.hid hsy
        have HD1 := Lib.hid hd1
        have HSL := Lib.hid hsl1
        clear hall wl1 wl2 sl1 sl2 hsy hd1 hsl1 hcl
        go_wp2_with fail
        refine HSY.out.mono ?_
        rintro e w2 ⟨rfl, hch2, hdk2⟩
        have hch3 : Chg (fun x => O x ∧ x < w.heap.size) w1 w2 := HCH.out.trans' hch2 fun x hx => by
          rcases hx with hx | hx
          · exact .inl hx
          · exact .inr (by omega)
        have hdk3 := hdk2.mono (O' := fun x => (O x ∧ x < w.heap.size) ∨ w.heap.size < x) fun x hx => by
          rcases hx with hx | hx
          · exact hx
          · exact .inr (by omega)
        have hz2 := hch3.size
        have hst2 := HSA.out.keep (hch3.block s (by omega) hsr)
        have hH2 : ∀ o, w2.cell? ⟨w.heap.size, o, none⟩ = w1.cell? ⟨w.heap.size, o, none⟩ := fun o => World.cell?_of_block (w := w1) (a := ⟨w.heap.size, o, none⟩) (hch3.block _ (by show w.heap.size < _; omega) fun h => Nat.lt_irrefl _ h.2)
        obtain ⟨c0, c1, c2, c3, cz⟩ := hst2.cells
        unfold dptr at c0
        have q0 := (hH2 0).trans k0
        have q1 := (hH2 1).trans k1
        have q2 := (hH2 2).trans k2
        have hhb := headBytes_any (last + 1) b.length (Sp.sum b) w2.drew
        rw [show ((last + 1 : Nat) : Int) = (last : Int) + 1 by omega] at hhb
        have HHB := Lib.hid hhb
        have HCH3 := Lib.hid hch3
        have HDK3 := Lib.hid hdk3
        have HST2 := Lib.hid hst2
        have hS1 := Lib.hid (show w2.drew.cell? ⟨s, 0, none⟩ = some (.iface 90 (.pointer (some ⟨D, 0, none⟩))) ∧ w2.drew.cell? ⟨w.heap.size, 0, none⟩ = some (.int .u64 ((last : Int) + 1)) ∧ w2.drew.cell? ⟨w.heap.size, 1, none⟩ = some (.int .u64 (b.length : Int)) ∧ w2.drew.cell? ⟨w.heap.size, 2, none⟩ = some (.int .u64 (Sp.sum b : Int)) from ⟨c0, q0, q1, q2⟩)
        have hb01 : (last + 1) % 2 < 2 := Nat.mod_lt _ (by decide)
        obtain ⟨r, hr⟩ : ∃ r, r = (last + 1) % 2 := ⟨_, rfl⟩
        have hr2 : ((last : Int) + 1) % 2 = (r : Int) := by omega
        rw [← hr] at hb01
        have HRR := Lib.hid hr
        have hem := Lib.hid (show (r : Int) = IntKind.i64.wrap (Int.tmod ((last : Int) + 1) 2) by rw [Int.tmod_eq_emod_of_nonneg (by omega), hr2]; exact (IntWalk.i64_in _ (by omega)).symm)
        clear hch2 hdk2 hch3 hdk3 hst2 hH2 hhb hr
        go_wp2_with fail
        have hns := Lib.hid (show ¬ ((O s ∧ s < w.heap.size) ∨ w.heap.size < s) from fun h => h.elim hsr fun h => by omega)
        have hnH := Lib.hid (show ¬ ((O w.heap.size ∧ w.heap.size < w.heap.size) ∨ w.heap.size < w.heap.size) from fun h => h.elim (fun h => Nat.lt_irrefl _ h.2) fun h => Nat.lt_irrefl _ h)
        go_region_held3 (fun x => x.cell? ⟨s, 0, none⟩ = some (.iface 90 (.pointer (some ⟨D, 0, none⟩))) ∧ x.cell? ⟨w.heap.size, 0, none⟩ = some (.int .u64 ((last : Int) + 1)) ∧ x.cell? ⟨w.heap.size, 1, none⟩ = some (.int .u64 (b.length : Int)) ∧ x.cell? ⟨w.heap.size, 2, none⟩ = some (.int .u64 (Sp.sum b : Int)))
          (first | (with_reducible exact hS1.out) | (with_reducible exact HS3.out) | (with_reducible exact HS4.out))
          (first | (go_at_call 219; (with_reducible refine HHB.out.mono ?_); rintro e w3 ⟨v3, rfl, hr3, hb3⟩
                    have hz3 := hb3.size
                    have HR3 := Lib.hid hr3
                    have HB3 := Lib.hid hb3
                    have HS3 := Lib.hid (And.intro ((hb3.cell (p := ⟨s, 0, none⟩) (show s < w2.heap.size by omega)).trans c0) (And.intro ((hb3.cell (p := ⟨w.heap.size, 0, none⟩) (show w.heap.size < w2.heap.size by omega)).trans q0) (And.intro ((hb3.cell (p := ⟨w.heap.size, 1, none⟩) (show w.heap.size < w2.heap.size by omega)).trans q1) ((hb3.cell (p := ⟨w.heap.size, 2, none⟩) (show w.heap.size < w2.heap.size by omega)).trans q2))))
                    have hdw := dwrite_any ((HDK3.out.keep (w' := w2.drew) (fun _ _ _ => rfl) (Nat.le_refl _)).below hb3) r (by rw [HSL.out]; omega) v3 _ (by rw [V6.headB_len]; omega) (BytesOn.of_row HR3.out) (fun x hx => hx.1) (by omega)
                    rw [hem.out] at hdw
                    have HDW := Lib.hid hdw
                    clear hr3 hb3 hdw)
                 | (go_at_call 299; (with_reducible refine HDW.out.mono ?_); rintro e w4 ⟨rfl, hch4, hdk4⟩
                    have HC4 := Lib.hid hch4
                    have HD4 := Lib.hid hdk4
                    have hz4 := hch4.size
                    have hk4 : ∀ a : Addr, a.block < w3.heap.size → ¬ ((O a.block ∧ a.block < w.heap.size) ∨ w.heap.size < a.block) → w4.cell? a = w3.cell? a := fun a ha hn => World.cell?_of_block (hch4.block a.block ha hn)
                    have hz34 : w2.heap.size ≤ w3.heap.size := hz3
                    have hsl3 : s < w3.heap.size := by omega
                    have hHl3 : w.heap.size < w3.heap.size := by omega
                    have HS4 := Lib.hid (And.intro ((hk4 ⟨s, 0, none⟩ hsl3 hns.out).trans HS3.out.1) (And.intro ((hk4 ⟨w.heap.size, 0, none⟩ hHl3 hnH.out).trans HS3.out.2.1) (And.intro ((hk4 ⟨w.heap.size, 1, none⟩ hHl3 hnH.out).trans HS3.out.2.2.1) ((hk4 ⟨w.heap.size, 2, none⟩ hHl3 hnH.out).trans HS3.out.2.2.2))))
                    clear hch4 hdk4 hk4))
        have hz34' : w2.heap.size ≤ w3.heap.size := hz3
        have hch5 : Chg (fun x => O x ∧ x < w.heap.size) w1 w4 := (HCH3.out.drew.trans (Chg.of_below HB3.out)).trans' HC4.out fun x hx => by
          rcases hx with hx | hx
          · exact .inl hx
          · exact .inr (by omega)
        have hdk5 := HD4.out.mono (O' := fun x => (O x ∧ x < w.heap.size) ∨ w.heap.size < x) fun x hx => by
          rcases hx with hx | hx
          · exact hx
          · exact .inr (by omega)
        obtain ⟨dl1, dl2⟩ := V12.write_len d1 r (Sp.headB (last + 1) b.length (Sp.sum b))
        have hsy2 := dsync_any hdk5 (by omega)
        have HSY2 := Lib.hid hsy2
        have HCH5 := Lib.hid hch5
        obtain ⟨e0, e1, e2, e3⟩ := HS4.out
        have hz5 := hch5.size
        clear hdk5 hsy2 hch5 dl1 dl2
        go_wp2_with fail
        refine HSY2.out.mono ?_
        rintro e w5 ⟨rfl, hch6, hdk6⟩
        have hz6 := hch6.size
        have hch7 : Chg (fun x => O x ∧ x < w.heap.size) w1 w5 := HCH5.out.trans' hch6 fun x hx => by
          rcases hx with hx | hx
          · exact .inl hx
          · exact .inr (by omega)
        have hst7 := HSA.out.keep (hch7.block s (by omega) hsr)
        have q0' : w5.cell? ⟨w.heap.size, 0, none⟩ = some (.int .u64 ((last : Int) + 1)) := (World.cell?_of_block (w := w4) (a := ⟨w.heap.size, 0, none⟩) (hch6.block w.heap.size (by omega) hnH.out)).trans e1
        obtain ⟨c0, c1, c2, c3, cz⟩ := hst7.cells
        have f1 := cz 1
        have hst8 := hst7.set1 (last + 1)
        rw [show ((last + 1 : Nat) : Int) = (last : Int) + 1 by omega] at hst8
        have hch8 : Chg (fun k => O k ∨ k = s) w (w5.setCell ⟨s, 1, none⟩ (.int .u64 ((last : Int) + 1))) := ((Chg.of_below HBA.out).trans (hch7.mono fun x hx => .inl hx.1)).setCell (p := ⟨s, 1, none⟩) (.inr rfl) _
        have hdk8 : DkE (fun k => O k ∨ w.heap.size ≤ k) (w5.setCell ⟨s, 1, none⟩ (.int .u64 ((last : Int) + 1))) D (Sp.save d last b) := by
          have h9 := (hdk6.mono (O' := fun x => (O x ∧ x < w.heap.size) ∨ w.heap.size < x) fun x hx => by
            rcases hx with hx | hx
            · exact hx
            · exact .inr (by omega))
          have h10 := h9.keep (w' := w5.setCell ⟨s, 1, none⟩ (.int .u64 ((last : Int) + 1))) (fun k hk _ => Below.heap_setCell _ _ _ _ (show k ≠ s from fun e => hns.out (e ▸ hk))) (by simp [World.setCell])
          unfold Sp.save
          rw [← HFR.out, ← HD1.out, ← HRR.out]
          exact h10.mono fun x hx => by
            rcases hx with hx | hx
            · exact .inl hx.1
            · exact .inr (by omega)
        have HST8 := Lib.hid hst8
        have HCH8 := Lib.hid hch8
        have HDK8 := Lib.hid hdk8
        have hsl5 : s < w5.heap.size := by omega
        clear hch6 hdk6 hch7 hst7 hst8 hch8 hdk8 e0 e1 e2 e3
        go_wp2_with fail
        go_end0
        exact ⟨rfl, HCH8.out, HST8.out, HDK8.out⟩
end Go.Proofs.YtfphcecjhdkcoaaGreatDoor
/-
Walks: the texts of a set of packages, by name, with something between.
-/
namespace Go.Proofs.YtfphcecjhdkcoaaGreatDoor
open Go.RowKit Go.Maps
theorem found {L : List (Nat × Sp.Pk)} {n : Sp.Str} (hn : n ∈ Sp.names (pks L)) : ∃ q ∈ L, q.2.name = n := by
  unfold Sp.names pks at hn
  obtain ⟨p, hp, rfl⟩ := List.mem_map.1 hn
  obtain ⟨q, hq, rfl⟩ := List.mem_map.1 hp
  exact ⟨q, hq, rfl⟩
theorem find_q {L : List (Nat × Sp.Pk)} (ha : L.Pairwise fun q r => q.2.name ≠ r.2.name) {q : Nat × Sp.Pk} (hq : q ∈ L) : Sp.find? (pks L) q.2.name = some q.2 := by
  unfold Sp.find? pks
  induction L with
  | nil => cases hq
  | cons p r ih =>
    obtain ⟨h1, h2⟩ := List.pairwise_cons.1 ha
    rw [List.map_cons]
    rcases List.mem_cons.1 hq with rfl | hq
    · rw [List.find?_cons_of_pos (by simp)]
    · rw [List.find?_cons_of_neg (by simpa using h1 q hq)]
      exact ih h2 hq
theorem store1_any (mb bx : Nat) (L : List (Nat × Sp.Pk)) (w : World) (h : SetOn (fun b => b < w.heap.size) w mb L) (hc : w.cell? ⟨bx, 0, none⟩ = some (.map (some mb))) (q : Nat × Sp.Pk) (hq : q ∈ L) :
    Calls Tryz.prog 176 #[sv q.2.name, .pointer (some ⟨bx, 0, none⟩)] w fun e w' => e = .returned (sv (Sp.print q.2)) ∧ Below w.heap.size w w' := by
  have hnl : q.2.name.length ≤ maxLen := by have := (h.2.2 q hq).2.name; unfold maxLen; omega
  have hlk := h.map.look Tryz.underlying140 zero118 q.2.name hnl
  rw [MP.kv_at h.2.1 hq] at hlk
  have hp := print_any q.1 q.2 w (h.2.2 q hq).1 (h.2.2 q hq).2
  have HP := Lib.hid hp
  clear hp h
  unfold sv at HP ⊢
  go_enter Tryz.func176, Tryz.ntmps176
  go_wp2_with fail
  refine HP.out.mono ?_
  rintro e w1 ⟨rfl, hb⟩
  go_wp2
  go_ret
  exact ⟨rfl, hb⟩
set_option maxRecDepth 100000 in
set_option maxHeartbeats 1000000 in
theorem joinedS_any (v : Value) (sep : ByteArray) (mb bx : Nat) (T L : List (Nat × Sp.Pk)) (w : World) (h : SetOn (fun b => b < w.heap.size) w mb L) (hc : w.cell? ⟨bx, 0, none⟩ = some (.map (some mb))) (hbx : bx < w.heap.size) (hT : ∀ q ∈ T, q ∈ L) (hn : T.length < 1000000)
    (hv : StrsAt w v (Sp.names (pks T))) (hj : (Lib.join ((pks T).map Sp.print) (bl sep)).length ≤ 140737488355328) :
    Calls Tryz.prog 175 #[v, .string sep, .func (.func 176) #[] #[.pointer (some ⟨bx, 0, none⟩)]] w fun e w' => e = .returned (sv (Lib.join ((pks T).map Sp.print) (bl sep))) ∧ Below w.heap.size w w' := by
  obtain ⟨a, cap, rfl, hcap, hget⟩ := hv.get
  have hTl : (Sp.names (pks T)).length = T.length := by unfold Sp.names pks; simp
  have hget' : ∀ k, (hk : k < T.length) → ∃ b off, a = some ⟨b, off, none⟩ ∧ b < w.heap.size ∧ w.cell? ⟨b, off + k, none⟩ = some (sv T[k].2.name) := fun k hk => by
    obtain ⟨b, off, h1, h2, h3⟩ := hget k (by rw [hTl]; exact hk)
    refine ⟨b, off, h1, h2, ?_⟩
    rw [h3]; simp [Sp.names, pks, sv]
  have HG := Lib.hid hget'
  have HS := Lib.hid h
  have HT := Lib.hid hT
  have HJ := Lib.hid hj
  have hpl : (pks T).length = T.length := by unfold pks; rw [List.length_map]
  have HPL := Lib.hid hpl
  rw [hTl]
  clear hv hget hget' h hT hj hcap hTl hpl
  go_enter Tryz.func175, Tryz.ntmps175
  go_wp2
  go_loopw [7, 12] (fun v i wr => ∃ (k : Nat), k ≤ T.length ∧ i = .int .i64 k ∧ wr.ownsRow w.heap.size 9 1 v k ((((pks T).take k).map Sp.print).map sv) ∧ Below w.heap.size w wr) (fun _ i _ => T.length - (intOf i).toNat)
  case atStart => exact ⟨0, Nat.zero_le _, rfl, World.ownsRow_nil _ _ _ _, Below.refl _ _⟩
  case round =>
    obtain ⟨k, hk, rfl, hown, hbel⟩ := hrel
    by_cases hlt : k < T.length
    · obtain ⟨b, off, rfl, hb, h0⟩ := HG.out k hlt
      have g0 := (hbel.cell (p := ⟨b, off + k, none⟩) hb).trans h0
      have hcw := (hbel.cell (p := ⟨bx, 0, none⟩) hbx).trans hc
      have HC := Lib.hid (store1_any mb bx L wr (HS.out.below hbel) hcw T[k] (HT.out _ (List.getElem_mem hlt)))
      have hpk : (pks T)[k]'(by rw [HPL.out]; exact hlt) = T[k].2 := by simp [pks]
      have htk : ((pks T).take (k + 1)).map Sp.print = ((pks T).take k).map Sp.print ++ [Sp.print T[k].2] := by
        rw [List.take_succ_eq_append_getElem (by rw [HPL.out]; exact hlt), List.map_append, hpk]; rfl
      have HTK := Lib.hid htk
      clear h0 hpk htk hcw HG
      unfold sv at g0 HC
      go_wp2_with fail
      refine HC.out.mono ?_
      rintro e w2 ⟨rfl, hb2⟩
      have hb3 : Below w.heap.size w w2 := hbel.trans (hb2.mono hbel.size)
      have hown2 := W3.row_keep hown hb2
      have hs2 := hb3.size
      go_wp2_with (at_builtin; refine wp_app app38 w2 [.string ⟨(Sp.print T[k].2).toArray⟩] rfl (by simp [Value.oneCell']) rfl _ _ rfl w.heap.size _ _ _ rfl hown2 rfl (by omega) hs2 ?_; intro v' w3 hown' hgrow _)
      have hb4 := below_of_grown hb3 hs2 hown2 hgrow
      go_roundw
      case rel => exact ⟨k + 1, hlt, by go_num, by rw [HTK.out, List.map_append]; exact hown', hb4⟩
      case measure => simp [intOf]; omega
    · obtain rfl : k = T.length := by omega
      obtain ⟨ra, rc, rfl⟩ := W3.row_slice hown
      have htake : (pks T).take T.length = pks T := by rw [← HPL.out, List.take_length]
      rw [htake] at hown
      have hst : StrsAt wr (.slice ra T.length rc) ((pks T).map Sp.print) := StrsAt.of_row (B := w.heap.size) (e := 9) (by rw [List.length_map, HPL.out]; exact hown)
      have HST := Lib.hid hst
      clear HG hown hst htake
      go_wp2_with fail
      refine (join_any _ _ sep wr HST.out (by rw [List.length_map, HPL.out]; omega) HJ.out).mono ?_
      rintro e w2 ⟨rfl, hb2⟩
      go_wp2
      go_ret
      exact ⟨rfl, hbel.trans (hb2.mono hbel.size)⟩
end Go.Proofs.YtfphcecjhdkcoaaGreatDoor
/-
The walk of the disk's store: the packages lie on the disk.
-/
namespace Go.Proofs.YtfphcecjhdkcoaaGreatDoor
open Go.RowKit Go.Maps
/-- The packages by name, with their blocks. -/
def sortL (L : List (Nat × Sp.Pk)) : List (Nat × Sp.Pk) := (Sp.sorted (Sp.names (pks L))).filterMap fun n => L.find? fun q => q.2.name == n
namespace ST
theorem sortL_pks (L : List (Nat × Sp.Pk)) : pks (sortL L) = V8.byName (pks L) := by
  unfold sortL V8.byName pks
  rw [List.map_filterMap]
  congr 1
  funext n
  unfold Sp.find?
  rw [List.find?_map]; rfl
theorem sortL_mem {L : List (Nat × Sp.Pk)} : ∀ q ∈ sortL L, q ∈ L := by
  intro q hq
  unfold sortL at hq
  obtain ⟨n, _, h⟩ := List.mem_filterMap.1 hq
  exact List.mem_of_find?_eq_some h
theorem sortL_names (L : List (Nat × Sp.Pk)) : Sp.names (pks (sortL L)) = Sp.sorted (Sp.names (pks L)) := by rw [sortL_pks]; exact V8.byName_names _
theorem sortL_texts (L : List (Nat × Sp.Pk)) : (pks (sortL L)).map Sp.print = Sp.texts (pks L) := by rw [sortL_pks, V8.texts_byName]
theorem sortL_len (L : List (Nat × Sp.Pk)) : (sortL L).length ≤ L.length := by
  unfold sortL
  refine Nat.le_trans (List.length_filterMap_le _ _) ?_
  rw [(V8.sorted_perm _).length_eq]; unfold Sp.names pks; simp
theorem made_bytes (w : World) (s : ByteArray) : BytesOn (· = w.heap.size) (Lib.bytesWorld w 5 s) (.slice (some ⟨w.heap.size, 0, none⟩) s.size (grownCap w s.size 0 5)) (bl s) := by
  refine ⟨some ⟨w.heap.size, 0, none⟩, _, by rw [List.length_map, bl_len], by rw [List.length_map, bl_len]; exact grownCap_ge _ _ _ _, fun k x hk => ?_⟩
  rw [List.getElem?_map] at hk
  have hlt : k < (bl s).length := by
    rcases Nat.lt_or_ge k (bl s).length with h | h
    · exact h
    · rw [List.getElem?_eq_none h] at hk; cases hk
  rw [List.getElem?_eq_getElem hlt] at hk
  injection hk with hk
  subst hk
  refine ⟨w.heap.size, 0, rfl, rfl, fun j u hj => ?_⟩
  cases j with
  | zero =>
    have hj' : u8v (bl s)[k] = u := by simpa using hj
    subst hj'
    have := Lib.bytesWorld_cell w 5 s k (by rw [← bl_len]; exact hlt)
    rw [show 0 + k * 1 + 0 = k by omega, this]
    unfold u8v
    congr 3
    rw [List.getD_eq_getElem?_getD]
    have : s.data.toList[k]? = some (bl s)[k] := List.getElem?_eq_getElem hlt
    rw [this]; rfl
  | succ j => simp at hj
theorem made_below (w : World) (s : ByteArray) : Below w.heap.size w (Lib.bytesWorld w 5 s) :=
  ⟨rfl, rfl, rfl, by rw [Lib.bytesWorld_size]; omega, fun k hk => Lib.bytesWorld_at_old w 5 s k hk⟩
end ST
set_option maxRecDepth 100000 in
set_option maxHeartbeats 2000000 in
theorem store_any {O S : Nat → Prop} {w : World} {s D last : Nat} {mv ov : Value} {d : Sp.Dk} (hs : StBlk w s D last mv ov) (hd : DkE O w D d) (hO : ¬ O s) (hl : last + 1 < 18446744073709551616) (mb : Nat) (L : List (Nat × Sp.Pk)) (h : SetOn S w mb L) (hS : ∀ x, S x → x < w.heap.size)
    (hL : L.length ≤ 50000) (hlen : (Sp.joined (pks L)).length ≤ Sp.areaN d.seen.length * 64) (hlate : d.late.length < 900000) :
    Calls Tryz.prog 128 #[.pointer (some ⟨s, 0, none⟩), .map (some mb)] w fun e w' => e = .returned (.tuple #[]) ∧ Chg (fun k => O k ∨ k = s) w w' ∧ StBlk w' s D (last + 1) mv ov ∧ ∃ O', DkE O' w' D (Sp.save d last (Sp.joined (pks L))) ∧ ∀ k, O' k → (O k ∨ w.heap.size ≤ k) ∧ k < w'.heap.size := by
  have hmf : ∀ (fn : Fn) (first cap : Array Value) (w : World), (Instr.makeFunc fn first cap).run Tryz.prog w = .ok (.func fn first cap) w := fun _ _ _ _ => rfl
  have hlens := hd.lens
  have hjl : (Sp.joined (pks L)).length ≤ 8128 := by unfold Sp.areaN at hlen; omega
  have hslt := hs.lt
  have hmlt := h.map.lt
  have hA : Below w.heap.size w (w.alloc (.cells #[.map (some mb)] 140)) := (Below.refl _ _).alloc (Nat.le_refl _) _
  have h0 : (w.alloc (.cells #[.map (some mb)] 140)).cell? ⟨w.heap.size, 0, none⟩ = some (.map (some mb)) := by rw [World.cell?_alloc_at _ _ _ _ rfl]; rfl
  have h1 := (h.mono hS).below hA
  have hn := names_any mb L _ h1 (by omega)
  have hz1 : (w.alloc (.cells #[.map (some mb)] 140)).heap.size = w.heap.size + 1 := by simp
  have HZ1 := Lib.hid hz1
  have HA := Lib.hid hA
  have HH1 := Lib.hid h1
  have HN := Lib.hid hn
  have HS := Lib.hid hs
  have HD := Lib.hid hd.inside
  have HO := Lib.hid hO
  have HC0 := Lib.hid h0
  clear hs hd h hS hA h1 hn h0 hz1 hO
  go_enter Tryz.func128, Tryz.ntmps128
  go_wp2_with fail
  generalize w.alloc (.cells #[.map (some mb)] 140) = w1 at *
  have hc0 := HC0.out
  have hz1 := HZ1.out
  refine HN.out.mono ?_
  rintro e w2 ⟨v, rfl, hv, hb2⟩
  have hb12 : Below w.heap.size w w2 := HA.out.trans (hb2.mono (by omega))
  have hz2 := hb2.size
  have hc2 := (hb2.cell (p := ⟨w.heap.size, 0, none⟩) (show w.heap.size < _ by omega)).trans hc0
  have h2 := HH1.out.below hb2
  have hnm : (Sp.sorted (Sp.names (L.map (·.2)))) = Sp.names (pks (sortL L)) := (ST.sortL_names L).symm
  rw [hnm] at hv
  have hjt : Lib.join ((pks (sortL L)).map Sp.print) (bl ⟨#[10, 10]⟩) = Sp.joined (pks L) := by rw [ST.sortL_texts]; rfl
  have hj := joinedS_any v ⟨#[10, 10]⟩ mb w.heap.size (sortL L) L w2 h2 hc2 (by omega) ST.sortL_mem (by have := ST.sortL_len L; omega) hv (by rw [hjt]; omega)
  rw [hjt] at hj
  have HJ := Lib.hid hj
  have HB12 := Lib.hid hb12
  clear hj hv h2 hnm hjt hb12 HN HH1 HC0 HA
  obtain ⟨J, hJ⟩ : ∃ J, J = Sp.joined (pks L) := ⟨_, rfl⟩
  rw [← hJ] at HJ hlen hjl
  have HJE := Lib.hid hJ
  clear hJ
  go_wp2_with fail
  refine HJ.out.mono ?_
  rintro e w3 ⟨rfl, hb3⟩
  have hz3 := hb3.size
  have hcv := Lib.run_convert_string_bytes (P := Tryz.prog) w3 9 136 5 ⟨J.toArray⟩ (u := .string) Tryz.underlying9 Tryz.underlying136 Tryz.underlying5
  have hbA := ST.made_below w3 ⟨J.toArray⟩
  have hby := ST.made_bytes w3 ⟨J.toArray⟩
  have hzA : (Lib.bytesWorld w3 5 ⟨J.toArray⟩).heap.size = w3.heap.size + 1 := Lib.bytesWorld_size _ _ _
  rw [bl_mk] at hby
  have hb4 : Below w.heap.size w (Lib.bytesWorld w3 5 ⟨J.toArray⟩) := HB12.out.trans ((hb3.mono (by omega)).trans (hbA.mono (by omega)))
  generalize Lib.bytesWorld w3 5 ⟨J.toArray⟩ = w4 at *
  have hsv := save_any (HS.out.keep (hb4.block s hslt)) (HD.out.below (hb4.mono (Nat.le_refl _) |>.mono (Nat.le_refl _))) (fun h => HO.out h.1) hl _ J hby (by rintro x rfl; exact ⟨by omega, fun h => by omega, by omega⟩) hlen hlate
  have HSV := Lib.hid hsv
  have HB4 := Lib.hid hb4
  clear hsv hby hbA hb4
  unfold sv
  go_wp2_with fail
  refine HSV.out.mono ?_
  rintro e w5 ⟨rfl, hch, hst, hdk⟩
  have hz4 := HB4.out.size
  go_wp2
  go_end0
  rw [← HJE.out]
  refine ⟨rfl, ((Chg.of_below HB4.out).trans' hch fun x hx => ?_), hst, _, hdk.inside, fun k hk => ⟨?_, hk.2⟩⟩
  · rcases hx with hx | hx
    · exact .inl (.inl hx.1)
    · exact .inl (.inr hx)
  · rcases hk.1 with hk | hk
    · exact .inl hk.1
    · exact .inr (by omega)
end Go.Proofs.YtfphcecjhdkcoaaGreatDoor
/-
The walk of the store's become: these are installed from now on.
-/
namespace Go.Proofs.YtfphcecjhdkcoaaGreatDoor
open Go.RowKit Go.Maps
namespace ST
def lastOf (a b last : Nat) : Nat := if a = b then last else last + 1
def dkOf (a b : Nat) (d d' : Sp.Dk) : Sp.Dk := if a = b then d else d'
end ST
set_option maxRecDepth 100000 in
set_option maxHeartbeats 2000000 in
theorem become_any {O S S2 : Nat → Prop} {w : World} {s D last : Nat} {ov : Value} {d : Sp.Dk} {mb mb2 : Nat} {L L2 : List (Nat × Sp.Pk)} (hs : StBlk w s D last (.map (some mb)) ov) (hd : DkE O w D d) (hO : ¬ O s)
    (h : SetOn S w mb L) (hS : ∀ x, S x → x < w.heap.size) (h2 : SetOn S2 w mb2 L2) (hS2 : ∀ x, S2 x → x < w.heap.size ∧ ¬ O x ∧ x ≠ s) (hm2 : ¬ O mb2 ∧ mb2 ≠ s)
    (hok : Sp.Set (pks L2)) (hnd : (Sp.paths (pks L2)).Nodup) (hS16 : 16 ≤ d.seen.length) (hl : last + 1 < 18446744073709551616) (hlate : d.late.length < 900000) (hL2 : L2.length ≤ 50000) (hsame : L2.length = L.length → L2 = L) :
    Calls Tryz.prog 75 #[.pointer (some ⟨s, 0, none⟩), .map (some mb2)] w fun e w' =>
      (Sp.room d.seen.length < Sp.size (pks L2) ∧ ∃ b, e = .returned (.iface 121 (.pointer (some ⟨b, 0, none⟩))) ∧ w.heap.size ≤ b ∧ FaultAt w' b 8 0 0 [] ∧ Below w.heap.size w w') ∨
      (Sp.size (pks L2) ≤ Sp.room d.seen.length ∧ e = .returned .nilIface ∧ Chg (fun k => O k ∨ k = s) w w' ∧ ∃ ob O', w.heap.size ≤ ob ∧ ob < w'.heap.size ∧ ¬ O' ob ∧ (∀ k, O' k → (O k ∨ w.heap.size ≤ k) ∧ k < w'.heap.size) ∧
        StBlk w' s D (ST.lastOf L2.length L.length last) (.map (some mb2)) (.map (some ob)) ∧ DkE O' w' D (ST.dkOf L2.length L.length d (Sp.save d last (Sp.joined (pks L2)))) ∧ MapAt w' ob (ownKV (pks L2))) := by
  have hlens := hd.lens
  have hslt := hs.lt
  have hszb : Sp.size (pks L2) ≤ 15000000 := by
    have := V8.size_len hok.good
    have hp : (pks L2).length = L2.length := by unfold pks; rw [List.length_map]
    omega
  have hsz := size_any mb2 L2 w (h2.mono fun x hx => (hS2 x hx).1) (by omega)
  have hm2l := h2.map.lt
  have hml := h.map.lt
  have hrm : 24 * ((d.seen.length : Int) - 8) = (Sp.room d.seen.length : Int) := by unfold Sp.room; omega
  obtain ⟨z, hz⟩ : ∃ z, z = Sp.size (pks L2) := ⟨_, rfl⟩
  obtain ⟨r, hr⟩ : ∃ r, r = Sp.room d.seen.length := ⟨_, rfl⟩
  rw [← hr] at hrm
  rw [← hz] at hsz
  have hfit : z ≤ r → (Sp.joined (pks L2)).length ≤ Sp.areaN d.seen.length * 64 := fun hle => V8.joined_fits hok hS16 (by rw [← hz, ← hr]; exact hle)
  rw [← hz, ← hr]
  have HZ := Lib.hid hz
  have HR := Lib.hid hr
  have HSZ := Lib.hid hsz
  have HST := Lib.hid hs
  have HD := Lib.hid hd
  have HSET := Lib.hid h
  have HSET2 := Lib.hid h2
  have HS2 := Lib.hid hS2
  have HSB := Lib.hid hS
  have HND := Lib.hid hnd
  have HFIT := Lib.hid hfit
  have HSAME := Lib.hid hsame
  have HO := Lib.hid hO
  have HM2 := Lib.hid hm2
  clear hs hd h h2 hS hS2 hnd hsz hz hr hfit hsame hok hO hm2
  go_enter Tryz.func75, Tryz.ntmps75
  go_wp2_with fail
  refine HSZ.out.mono ?_
  rintro e w1 ⟨rfl, hb1⟩
  have hs1 := HST.out.keep (hb1.block s hslt)
  have hd1 := HD.out.below hb1
  have hrc := room_any hs1 hd1
  rw [hrm] at hrc
  have HRC := Lib.hid hrc
  have HB1 := Lib.hid hb1
  have HS1 := Lib.hid hs1
  have HD1 := Lib.hid hd1
  clear hs1 hd1 hrc hb1
  go_wp2_with fail
  refine HRC.out.mono ?_
  rintro e w2 ⟨rfl, rfl⟩
  have hz1 := HB1.out.size
  by_cases hbig : r < z
  · have hgt : decide ((r : Int) < (z : Int)) = true := decide_eq_true (by omega)
    have hgt2 : (r : Int) < (z : Int) := by omega
    have hf := fault_any 8 0 [] w2
    have HF := Lib.hid hf
    clear hf
    go_wp2_with fail
    refine HF.out.mono ?_
    rintro e w3 ⟨rfl, hF, hb3⟩
    have HFA := Lib.hid hF
    have HBIG := Lib.hid hbig
    clear hF hbig hgt hgt2
    go_wp2
    go_ret
    exact .inl ⟨HBIG.out, _, rfl, hz1, HFA.out, HB1.out.trans (hb3.mono hz1)⟩
  · have hgt : decide ((r : Int) < (z : Int)) = false := decide_eq_false (by omega)
    have hle : (z : Int) ≤ (r : Int) := by omega
    obtain ⟨c0, c1, c2, c3, cz⟩ := HS1.out.cells
    have hslt2 : s < w2.heap.size := by omega
    have hsetA := HSET.out.keep (w' := w2) (HB1.out.block mb hml) fun x hx => HB1.out.block x (HSB.out x hx)
    have hsetB := HSET2.out.keep (w' := w2) (HB1.out.block mb2 hm2l) fun x hx => HB1.out.block x (HS2.out x hx).1
    have hgen : ∀ (last' : Nat) (d' : Sp.Dk) (O' : Nat → Prop) (W : World) (ov' : Value), Chg (fun k => O k ∨ k = s) w W → StBlk W s D last' (.map (some mb)) ov' → DkE O' W D d' → (∀ k, O' k → (O k ∨ w.heap.size ≤ k) ∧ k < W.heap.size) →
        Calls Tryz.prog 121 #[.pointer (some ⟨s, 0, none⟩), .map (some mb2)] W fun e w' => e = .returned (.tuple #[]) ∧ Chg (fun k => O k ∨ k = s) w w' ∧ ∃ ob O', w.heap.size ≤ ob ∧ ob < w'.heap.size ∧ ¬ O' ob ∧ (∀ k, O' k → (O k ∨ w.heap.size ≤ k) ∧ k < w'.heap.size) ∧
        StBlk w' s D last' (.map (some mb2)) (.map (some ob)) ∧ DkE O' w' D d' ∧ MapAt w' ob (ownKV (pks L2)) := by
      intro last' d' O' W ov' hch hst hdk hO'
      have hkm : W.heap[mb2]? = w.heap[mb2]? := hch.block mb2 hm2l fun hx => by
        rcases hx with hx | hx
        · exact HM2.out.1 hx
        · exact HM2.out.2 hx
      have hks : ∀ x, S2 x → W.heap[x]? = w.heap[x]? := fun x hx => hch.block x (HS2.out x hx).1 fun hy => by
        rcases hy with hy | hy
        · exact (HS2.out x hx).2.1 hy
        · exact (HS2.out x hx).2.2 hy
      have hzW := hch.size
      refine (take_any hst mb2 L2 (HSET2.out.keep hkm hks) (fun x hx => ⟨by have := (HS2.out x hx).1; omega, (HS2.out x hx).2.2⟩) HM2.out.2 (by omega) HND.out).mono ?_
      rintro e w' ⟨rfl, hc, ob, hob, hst', hmap⟩
      have hnot : ∀ k, O' k → k ≠ s := fun k hk e => by
        subst e
        rcases (hO' _ hk).1 with h1 | h1
        · exact HO.out h1
        · omega
      refine ⟨rfl, hch.trans (hc.mono fun x hx => .inr hx), ob, O', by omega, hmap.lt, fun hk => ?_, fun k hk => ⟨(hO' k hk).1, by have := (hO' k hk).2; have := hc.size; omega⟩, hst', hdk.keep (fun k hk hl => hc.block k hl (hnot k hk)) hc.size, hmap⟩
      have := (hO' ob hk).2; omega
    have HGEN := Lib.hid hgen
    have hch2 : Chg (fun k => O k ∨ k = s) w w2 := Chg.of_below HB1.out
    have HCH2 := Lib.hid hch2
    clear hgen hch2
    by_cases hln : L2.length = L.length
    · have hLL := HSAME.out hln
      have heq := equal_same mb2 mb L w2 (by rw [← hLL]; exact hsetB) hsetA
      have HEQ := Lib.hid heq
      clear heq hsetA hsetB hLL
      go_wp2_with fail
      refine HEQ.out.mono ?_
      rintro e w3 ⟨rfl, hb3⟩
      have hz3 := hb3.size
      have hcg := HGEN.out last d (fun k => O k ∧ k < w.heap.size) w3 ov (HCH2.out.trans (Chg.of_below hb3)) (HS1.out.keep (hb3.block s hslt2)) ((HD.out.inside.below HB1.out).below hb3) (fun k hk => ⟨.inl hk.1, by have := hk.2; omega⟩)
      have HCG := Lib.hid hcg
      clear hcg
      go_wp2_with fail
      refine HCG.out.mono ?_
      rintro e w4 ⟨rfl, hres⟩
      have HRES := Lib.hid hres
      have HLN := Lib.hid hln
      have HNB := Lib.hid hbig
      clear hres hln hbig hgt hle
      go_wp2
      go_ret
      rw [show ST.lastOf L2.length L.length last = last from if_pos HLN.out, show ST.dkOf L2.length L.length d (Sp.save d last (Sp.joined (pks L2))) = d from if_pos HLN.out]
      exact .inr ⟨by have := HNB.out; omega, rfl, HRES.out⟩
    · have hne : (kvOf L2).length ≠ (kvOf L).length := by unfold kvOf; rw [List.length_map, List.length_map]; exact hln
      have heq := equal_len mb2 mb (kvOf L2) (kvOf L) w2 hsetB.map hsetA.map hne
      have HEQ := Lib.hid heq
      have HB2 := Lib.hid hsetB
      clear heq hsetA hne hsetB
      go_wp2_with fail
      refine HEQ.out.mono ?_
      rintro e w3 ⟨rfl, hb3⟩
      have hz3 := hb3.size
      have hst := store_any (HS1.out.keep (hb3.block s hslt2)) ((HD.out.inside.below HB1.out).below hb3) (fun hx => HO.out hx.1) hl mb2 L2 (HB2.out.keep (hb3.block mb2 (by omega)) fun x hx => hb3.block x (by have := (HS2.out x hx).1; omega)) (fun x hx => by have := (HS2.out x hx).1; omega) hL2 (HFIT.out (by omega)) hlate
      have HSTO := Lib.hid hst
      have HC3 := Lib.hid (HCH2.out.trans (Chg.of_below hb3))
      clear hst
      go_wp2_with fail
      refine HSTO.out.mono ?_
      rintro e w4 ⟨rfl, hch4, hst4, O', hdk4, hO4⟩
      have hcg := HGEN.out _ _ O' w4 ov (HC3.out.trans (hch4.mono fun x hx => by
        rcases hx with hx | hx
        · exact .inl hx.1
        · exact .inr hx)) hst4 hdk4 (fun k hk => ⟨by
          rcases (hO4 k hk).1 with h1 | h1
          · exact .inl h1.1
          · exact .inr (by omega), (hO4 k hk).2⟩)
      have HCG := Lib.hid hcg
      clear hcg hst4 hdk4 hO4 hch4
      go_wp2_with fail
      refine HCG.out.mono ?_
      rintro e w5 ⟨rfl, hres⟩
      have HRES := Lib.hid hres
      have HLN := Lib.hid hln
      have HNB := Lib.hid hbig
      clear hres hln hbig hgt hle
      go_wp2
      go_ret
      rw [show ST.lastOf L2.length L.length last = last + 1 from if_neg HLN.out, show ST.dkOf L2.length L.length d (Sp.save d last (Sp.joined (pks L2))) = Sp.save d last (Sp.joined (pks L2)) from if_neg HLN.out]
      exact .inr ⟨by have := HNB.out; omega, rfl, HRES.out⟩
end Go.Proofs.YtfphcecjhdkcoaaGreatDoor
/-
The plain Read of a text that is none; the law Forms on its way: sameFault.
-/
namespace Go.Proofs.YtfphcecjhdkcoaaGreatDoor
open Go.RowKit
theorem ErrT.keep {w w' : World} (h : ErrT w) (hb : Below w.heap.size w w') (h0 : 0 < w.heap.size) : ErrT w' := (hb.cell (p := ⟨0, 0, none⟩) h0).trans h
set_option maxRecDepth 100000 in
set_option maxHeartbeats 1000000 in
theorem plainRead_none {G : Nat} (s : ByteArray) (n : Nat) (w : World) (hG : Glob G w) (hE : ErrT w) (h : Sp.parse (bl s) = .inl n) :
    Calls Tryz.prog 15 #[.string s] w fun e w' => e = .returned (.tuple #[.string ⟨#[]⟩, .agg #[.int .i64 1, .int .i64 0, .int .i64 (n : Int), .string ⟨#[]⟩]]) ∧ Below w.heap.size w w' := by
  have HP := Lib.hid h
  have hpos : 0 < w.heap.size := by have := hG.size; have := hG.six; omega
  clear h
  go_enter Tryz.func15, Tryz.ntmps15
  go_wp2_with fail
  refine (read_any s _ (hG.keep ((Below.refl _ _).alloc (Nat.le_refl _) _))).mono ?_
  rintro e w1 ⟨hb1, ⟨n', b, hp, rfl, hbl, hbu, f0, f1, f2, f3⟩ | ⟨q, hp, _⟩⟩
  · rw [HP.out] at hp
    cases hp
    obtain ⟨hc, hf⟩ := bcell hb1
    have hz1 : w.heap.size < w1.heap.size := by have := hb1.size; simp at this; omega
    have hE1 : ErrT w1 := (hE.keep ((Below.refl _ _).alloc (Nat.le_refl _) (Obj.cells #[Value.int IntKind.i64 0, Value.int IntKind.i64 0, Value.int IntKind.i64 0, Value.string ⟨#[]⟩] 23)) hpos).keep hb1 (by simp)
    go_wp2_with fail
    refine (parts_fault b 1 0 n [] w1 hE1 ⟨hbu, f0, f1, f2, f3⟩ (by decide) (by decide)).mono ?_
    rintro e w2 ⟨rfl, hb2⟩
    obtain ⟨hc2, hf2⟩ := bcell hb2
    have hz2 : w.heap.size < w2.heap.size := by have := hb2.size; omega
    have k0 : w2.cell? ⟨w.heap.size, 0, none⟩ = some (.int .i64 0) := by rw [hc2 _ _ hz1, hc _ _ (by simp), World.cell?_alloc_at _ _ _ _ rfl]; rfl
    have k1 : w2.cell? ⟨w.heap.size, 1, none⟩ = some (.int .i64 0) := by rw [hc2 _ _ hz1, hc _ _ (by simp), World.cell?_alloc_at _ _ _ _ rfl]; rfl
    have k2 : w2.cell? ⟨w.heap.size, 2, none⟩ = some (.int .i64 0) := by rw [hc2 _ _ hz1, hc _ _ (by simp), World.cell?_alloc_at _ _ _ _ rfl]; rfl
    have k3 : w2.cell? ⟨w.heap.size, 3, none⟩ = some (.string ⟨#[]⟩) := by rw [hc2 _ _ hz1, hc _ _ (by simp), World.cell?_alloc_at _ _ _ _ rfl]; rfl
    have g0 : ∀ o, w2.frozen? ⟨w.heap.size, o, none⟩ = false := fun o => by rw [hf2 _ _ hz1, hf _ _ (by simp)]; simp
    have g00 := g0 0
    have g01 := g0 1
    have g02 := g0 2
    have g03 := g0 3
    have hbb : Below w.heap.size w w2 := ((Below.refl _ w).alloc (Nat.le_refl _) _).trans ((hb1.trans (hb2.mono hb1.size)).mono (by simp))
    clear hc hf hc2 hf2 g0 f0 f1 f2 f3
    unfold sv
    go_wp2_with fail
    go_region
    go_wp2_with fail
    refine bodyPost_ret (v := .tuple #[.string ⟨#[]⟩, .agg #[.int .i64 1, .int .i64 0, .int .i64 (n : Int), .string ⟨#[]⟩]]) (by simp [results, Tryz.results15, go_sem, hz2, k0, k1, k2, k3]) rfl ⟨rfl, ?_⟩
    refine ⟨hbb.os, hbb.tape, hbb.output, by have := hbb.size; simp; omega, fun k hk => ?_⟩
    refine Eq.trans ?_ (hbb.block k hk)
    show (World.alloc _ _).heap[k]? = _
    rw [Below.heap_alloc _ _ _ (by simp; omega), Below.heap_setCell _ _ _ _ (by show k ≠ w.heap.size; omega), Below.heap_setCell _ _ _ _ (by show k ≠ w.heap.size; omega), Below.heap_setCell _ _ _ _ (by show k ≠ w.heap.size; omega), Below.heap_setCell _ _ _ _ (by show k ≠ w.heap.size; omega)]
  · rw [HP.out] at hp; cases hp
theorem sameFault_same (k which line : Int) (w : World) :
    Calls Tryz.prog 17 #[.agg #[.int .i64 k, .int .i64 which, .int .i64 line, .string ⟨#[]⟩], .agg #[.int .i64 k, .int .i64 which, .int .i64 line, .string ⟨#[]⟩]] w fun e w' => e = .returned (.bool true) ∧ Below w.heap.size w w' := by
  go_enter Tryz.func17, Tryz.ntmps17
  go_wp2
  go_ret
  exact ⟨rfl, ((Below.refl _ _).alloc (Nat.le_refl _) _).alloc (by simp) _⟩
end Go.Proofs.YtfphcecjhdkcoaaGreatDoor
namespace Go.Proofs.YtfphcecjhdkcoaaGreatDoor
open Go.RowKit Go.Maps
theorem info118 : (Tryz.prog.info? 118).map (fun i => (i.zero, i.size, i.bytes)) = some (some (.pointer none), 1, 8) := by kernel_rfl
theorem app209 : AppTy 209 118 1 8 := AppTy.of Tryz.underlying209 info118 rfl (by decide) (by decide)
def pv (b : Nat) : Value := .pointer (some ⟨b, 0, none⟩)
/-- What planned comes to: the fault, or the packages that would be there (those that are, and the new ones), and their order. -/
def PlanRes (S : Nat → Prop) (L : List (Nat × Sp.Pk)) (ts : List Sp.Str) (w : World) (e : Ending) (w' : World) : Prop :=
  Below w.heap.size w w' ∧
    ((∃ f b, Sp.planned (pks L) ts = .inl f ∧ 1 ≤ f.kind ∧ f.kind ≤ 8 ∧ e = .returned (.tuple #[.map none, .slice none 0 0, pv b]) ∧ w.heap.size ≤ b ∧ FaultAt w' b f.kind f.which f.line f.name) ∨
     (∃ F o mb v, Sp.planned (pks L) ts = .inr (pks (L ++ F), o) ∧ e = .returned (.tuple #[.map (some mb), v, .pointer none]) ∧ w.heap.size ≤ mb ∧ F.length = ts.length ∧
        SetOn (fun b => S b ∨ w.heap.size ≤ b ∧ b < w'.heap.size) w' mb (L ++ F) ∧ StrsFrom w.heap.size w' v o ∧ (∀ p ∈ pks F, V3.Good p)))
namespace PL
theorem read_snoc (i : Nat) : ∀ (ts : List Sp.Str) (t : Sp.Str), Sp.readAll i (ts ++ [t]) = match Sp.readAll i ts with
    | .inl f => .inl f
    | .inr l => match Sp.parse t with
      | .inl n => .inl ⟨1, i + ts.length, n, []⟩
      | .inr p => .inr (l ++ [p])
  | [], t => by
    simp only [List.nil_append, Sp.readAll]
    cases Sp.parse t <;> simp
  | s :: r, t => by
    rw [List.cons_append, Sp.readAll, Sp.readAll]
    cases Sp.parse s with
    | inl n => rfl
    | inr p =>
      simp only
      rw [read_snoc (i + 1) r t]
      cases Sp.readAll (i + 1) r with
      | inl f => rfl
      | inr l =>
        cases Sp.parse t with
        | inl n => simp; omega
        | inr q => rfl
theorem read_stop (i : Nat) : ∀ (a b : List Sp.Str) {f : Sp.Fault}, Sp.readAll i a = .inl f → Sp.readAll i (a ++ b) = .inl f
  | [], b, f, h => by cases h
  | s :: r, b, f, h => by
    rw [List.cons_append]
    rw [Sp.readAll] at h ⊢
    cases hs : Sp.parse s with
    | inl n => rw [hs] at h; exact h
    | inr p =>
      rw [hs] at h
      simp only at h ⊢
      cases hr : Sp.readAll (i + 1) r with
      | inl g => rw [hr] at h; simp only at h; rw [read_stop (i + 1) r b hr]; exact h
      | inr l => rw [hr] at h; cases h
theorem add_stop (there : List Sp.Pk) : ∀ (a : List Sp.Pk) (i : Nat) (th : List Sp.Pk) (b : List Sp.Pk) {f : Sp.Fault}, Sp.addAll i th a = .inl f → Sp.addAll i th (a ++ b) = .inl f
  | [], i, th, b, f, h => by cases h
  | p :: r, i, th, b, f, h => by
    rw [List.cons_append]
    rw [Sp.addAll] at h ⊢
    split
    · rename_i hc; rw [if_pos hc] at h; exact h
    · rename_i hc; rw [if_neg hc] at h; exact add_stop there r _ _ b h
theorem add_snoc : ∀ (a : List Sp.Pk) (i : Nat) (th : List Sp.Pk) (p : Sp.Pk), Sp.addAll i th (a ++ [p]) = match Sp.addAll i th a with
    | .inl f => .inl f
    | .inr l => if (Sp.names l).contains p.name then .inl ⟨2, i + a.length, 0, p.name⟩ else .inr (l ++ [p])
  | [], i, th, p => by simp only [List.nil_append, Sp.addAll]; rfl
  | q :: r, i, th, p => by
    rw [List.cons_append, Sp.addAll, Sp.addAll]
    split
    · rfl
    · rw [add_snoc r (i + 1) (th ++ [q]) p]
      cases Sp.addAll (i + 1) (th ++ [q]) r with
      | inl f => rfl
      | inr l => simp only [List.length_cons]; rw [show i + 1 + r.length = i + (r.length + 1) from by omega]
theorem add_eq : ∀ (a : List Sp.Pk) (i : Nat) (th : List Sp.Pk) {l : List Sp.Pk}, Sp.addAll i th a = .inr l → l = th ++ a
  | [], i, th, l, h => by cases h; simp
  | p :: r, i, th, l, h => by
    rw [Sp.addAll] at h
    split at h
    · cases h
    · have := add_eq r _ _ h
      rw [this]; simp
/-- Packages that have been read: each lies in memory of its own. -/
def PacksAt (S : Nat → Prop) (w : World) (F : List (Nat × Sp.Pk)) : Prop := ∀ q ∈ F, IsPack S w q.1 q.2 ∧ PkOk q.2
theorem PacksAt.keep {S S' : Nat → Prop} {w w' : World} {F : List (Nat × Sp.Pk)} (h : PacksAt S w F) (hb : ∀ x, S x → w'.heap[x]? = w.heap[x]?) (hs : ∀ x, S x → S' x) : PacksAt S' w' F :=
  fun q hq => ⟨((h q hq).1.keep hb).mono hs, (h q hq).2⟩
theorem row_get {w : World} {B : Nat} {v : Value} {F : List (Nat × Sp.Pk)} (h : w.ownsRow B 118 1 v F.length (F.map fun q => pv q.1)) : ∃ a cap, v = .slice a F.length cap ∧ F.length ≤ cap ∧ ∀ k, (hk : k < F.length) → ∃ b off, a = some ⟨b, off, none⟩ ∧ B ≤ b ∧ b < w.heap.size ∧ w.cell? ⟨b, off + k, none⟩ = some (pv F[k].1) := by
  have h1 := one_row (vs := F.map fun q => pv q.1) (by rw [List.length_map]) h
  obtain ⟨a, cap, hv, hc, hx⟩ := h1
  rw [List.length_map, List.length_map] at hv hc
  refine ⟨a, cap, hv, hc, fun k hk => ?_⟩
  obtain ⟨b, off, ha, hb, hj⟩ := hx k [pv F[k].1] (by rw [List.getElem?_map, List.getElem?_map, List.getElem?_eq_getElem hk]; rfl)
  refine ⟨b, off, ha, hb.2.1, hb.1, ?_⟩
  have := hj 0 _ rfl
  simpa using this
end PL
/-- 'm[k], .. = v, ..': the entry is made, then it is stored into. -/
theorem MapAt.enter {w : World} {b : Nat} {kv : KV} {t e : TypeId} {z : Value} (h : MapAt w b kv) (ht : Tryz.prog.underlying t = some (.map 9 e)) (hz : ∀ w, (zeroValue e).run Tryz.prog w = .ok z w) (hn : kv.length < 1000000000) (x : Sp.Str) (hx : x.length ≤ maxLen) (hnew : hasKV kv x = false) (v : Value) :
    ∃ (v0 : Value) (st : Nat) (w1 w2 : World), (Instr.mapEntry t (.map (some b)) (.string ⟨x.toArray⟩)).run Tryz.prog w = .ok (.tuple #[v0, .int .i64 st]) w1 ∧ (Instr.entryStore t (.map (some b)) (.int .i64 st) v).run Tryz.prog w1 = .ok () w2 ∧
      MapAt w2 b (kv ++ [(x, v)]) ∧ (∀ k, k ≠ b → w1.heap[k]? = w.heap[k]?) ∧ (∀ k, k ≠ b → w2.heap[k]? = w.heap[k]?) ∧ (w1.os = w.os ∧ w1.tape = w.tape ∧ w1.output = w.output ∧ w1.heap.size = w.heap.size) ∧ (w2.os = w.os ∧ w2.tape = w.tape ∧ w2.output = w.output ∧ w2.heap.size = w.heap.size) := by
  have hput := h.put ht hn x hx hnew v
  obtain ⟨D, ⟨es, clock, hb, F, hs, hD⟩, hsh⟩ := h
  obtain ⟨v0, st, es1, clock1, r1, _, r2⟩ := WideElems.entry_then_store (WideMaps.string_law Tryz.underlying9) ht hz hb F (keyOf9 x hx)
  have hb1 : (ChangeMaps.setBlock w b (.map es1 clock1)).heap[b]? = some (.map es1 clock1) := ChangeMaps.heap_setBlock_same hb _
  obtain ⟨es', clock', r3, r4⟩ := r2 (ChangeMaps.setBlock w b (.map es1 clock1)) v hb1
  obtain ⟨w', r5, hm, _⟩ := hput
  have e1 : w' = ChangeMaps.setBlock w b (.map es' clock') := by
    rw [r4] at r5
    exact ((Result.ok.inj r5).2).symm
  have e2 : ChangeMaps.setBlock (ChangeMaps.setBlock w b (.map es1 clock1)) b (.map es' clock') = ChangeMaps.setBlock w b (.map es' clock') := by
    simp only [ChangeMaps.setBlock, Array.setIfInBounds_setIfInBounds]
  rw [e2, ← e1] at r3
  refine ⟨v0, st, _, w', r1, r3, hm, fun k hk => ChangeMaps.heap_setBlock_other hb _ hk, fun k hk => ?_, ⟨rfl, rfl, rfl, by simp [ChangeMaps.setBlock]⟩, ?_⟩
  · rw [e1]; exact ChangeMaps.heap_setBlock_other hb _ hk
  · rw [e1]; exact ⟨rfl, rfl, rfl, by simp [ChangeMaps.setBlock]⟩
end Go.Proofs.YtfphcecjhdkcoaaGreatDoor

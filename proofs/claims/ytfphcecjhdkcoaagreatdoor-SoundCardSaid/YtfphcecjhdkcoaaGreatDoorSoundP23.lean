/-
The walk of the law Sound.
-/
import Derived.Test.YtfphcecjhdkcoaaGreatDoorSoundP22
namespace Go.Proofs.YtfphcecjhdkcoaaGreatDoor
open Go.RowKit Go.Maps
namespace LD
theorem run_grown {B S : Nat} {O : Nat → Prop} {w w' : World} {x : Nat} {st : Sp.St} {v : Value} (h : Run B S O w x st) (hg : w.grownBy w' v.ownBlock) (hv : ∀ g, v.ownBlock = some g → ¬ O g) : Run B S O w' x st :=
  h.chg (M := fun k => v.ownBlock = some k) ⟨hg.os, hg.tape, hg.output, hg.size, fun k hk hm => hg.block k hk fun e => hm e.symm⟩ fun k hk e => hv k e hk
/-- The texts behind the first. -/
theorem tail_strs {w : World} {g off cap : Nat} {s0 : Sp.Str} {r : List Sp.Str} (h : StrsAt w (.slice (some ⟨g, off, none⟩) (s0 :: r).length cap) (s0 :: r)) : StrsAt w (.slice (some ⟨g, off + 1, none⟩) r.length (cap - 1)) r := by
  obtain ⟨a, c, e, hc, hx⟩ := h.get
  injection e with e1 e2 e3
  subst e1 e3
  refine ⟨some ⟨g, off + 1, none⟩, cap - 1, by rw [List.length_map], by rw [List.length_map]; simp at hc; omega, fun k y hk => ?_⟩
  rw [List.getElem?_map] at hk
  have hlt : k < r.length := by
    rcases Nat.lt_or_ge k r.length with h | h
    · exact h
    · rw [List.getElem?_eq_none h] at hk; cases hk
  rw [List.getElem?_eq_getElem hlt] at hk
  injection hk with hk
  subst hk
  obtain ⟨b, o2, ea, hb, hcell⟩ := hx (k + 1) (by simpa using hlt)
  injection ea with ea
  injection ea with ea1 ea2 _
  subst ea1 ea2
  refine ⟨g, off + 1, rfl, hb, fun j u hj => ?_⟩
  cases j with
  | zero =>
    have hu : u = sv r[k] := by simpa using hj.symm
    subst hu
    rw [show off + 1 + k * 1 + 0 = off + (k + 1) from by omega, hcell]; rfl
  | succ j => simp at hj
def dash (l : List Sp.Str) : Bool := match l with
  | [] => false
  | s :: _ => s == [45]
theorem dash_eq (s : Sp.Str) : ((⟨s.toArray⟩ : ByteArray).toList == [45]) = (s == [45]) := by rw [toList_bl]; rfl
theorem nil_at (w : World) (a : Option Addr) (c : Nat) : StrsAt w (.slice a 0 c) [] := ⟨a, c, rfl, Nat.zero_le _, fun k x h => by simp at h⟩
end LD
set_option maxRecDepth 100000 in
set_option maxHeartbeats 4000000 in
theorem sound_any {G : Nat} {w : World} (hw : Wd G w) (z : Int) (va : Value) (ts : List Sp.Str) (hva : StrsAt w va ts)
    (hl1 : ts.length ≤ 2305843009213693952) (hs1 : ∀ s ∈ ts, s.length ≤ 2305843009213693952) :
    Calls Tryz.prog 9 #[.int .i64 z, va] w fun e w' => e = .returned (.bool true) ∧ Below w.heap.size w w' := by
  have HW := Lib.hid (fun (W : World) (hW : Below w.heap.size w W) => hw.keep hW)
  have hGw := hw.glob.size
  have HSM1 := Lib.hid (small_any va ts hva hl1 hs1)
  obtain ⟨vba, vbc, rfl, hvc, hvg⟩ := hva.get
  have HVG := Lib.hid hvg
  clear hva hw hs1 hvg
  go_enter Tryz.func9, Tryz.ntmps9
  go_wp2_with fail
  refine HSM1.out.mono ?_
  rintro e w1 ⟨g1, rfl, hb1, hsm1⟩
  have HB1 := Lib.hid hb1
  have H1 := Lib.hid hsm1
  clear hb1 hsm1
  cases g1 with
  | false =>
    go_wp2
    go_ret
    exact ⟨rfl, HB1.out⟩
  | true =>
    have hk1 := H1.out rfl
    unfold LW.bulk at hk1
    have ht5 : ts.length ≤ 4096 := by omega
    have htl : ∀ s ∈ ts, s.length ≤ 4096 := fun s hs => by have := LW.bulk_le hs; omega
    have HTL := Lib.hid htl
    clear hk1 htl
    go_wp2_with fail
    refine (anchored_any (HW.out w1 HB1.out)).mono ?_
    rintro e w3 ⟨rfl, hb3⟩
    have HB3 := Lib.hid (HB1.out.trans (hb3.mono HB1.out.size))
    clear hb3
    go_wp2_with fail
    refine (Run.new (HW.out w3 HB3.out) z).mono ?_
    rintro e w4 ⟨x, rfl, hb4, hrun⟩
    have hz3 := HB3.out.size
    have hz4 := hb4.size
    have HB4 := Lib.hid (HB3.out.trans (hb4.mono hz3))
    have hlast : (Sp.St.new (secs z)).last = 0 := (V11.new_sure ⟨(secs_ok z).1, (secs_ok z).2.1⟩).2.1
    obtain ⟨st0, hst0⟩ : ∃ st0, st0 = Sp.St.new (secs z) := ⟨_, rfl⟩
    rw [← hst0] at hrun hlast
    have hbA : Below w4.heap.size w4 (w4.alloc (.cells #[.int .i64 0, .int .i64 0, .int .i64 0, .string ⟨#[]⟩] 23)) := (Below.refl _ _).alloc (Nat.le_refl _) _
    have hzA : (w4.alloc (.cells #[.int .i64 0, .int .i64 0, .int .i64 0, .string ⟨#[]⟩] 23)).heap.size = w4.heap.size + 1 := by simp
    have HBA := Lib.hid (HB4.out.trans (hbA.mono (by omega)))
    have HRA := Lib.hid (hrun.below hbA)
    have HZA := Lib.hid hzA
    obtain ⟨B, hB⟩ : ∃ B, B = w3.heap.size := ⟨_, rfl⟩
    rw [← hB] at HRA
    have hB1 := Nat.le_of_eq hB
    have hB2 := Nat.le_of_eq hB.symm
    clear hbA hzA hrun hb4 hst0 hB
    unfold faultV sv Sp.okF
    go_wp2_with fail
    generalize (w4.alloc (.cells #[.int .i64 0, .int .i64 0, .int .i64 0, .string ⟨#[]⟩] 23)) = w4A at *
    have hzA1 := Nat.le_of_eq HZA.out
    have hzA2 := Nat.le_of_eq HZA.out.symm
    go_loopw [9, 10] (fun v i wr => ∃ (k : Nat) (l : List Sp.Str) (O : Nat → Prop) (st : Sp.St), k ≤ ts.length + 1 ∧ i = .int .i64 k ∧ wr.ownsRow B 9 1 v l.length (l.map sv) ∧ Run B (secs z) O wr x st ∧ st.last ≤ k ∧ l.length ≤ k ∧ (∀ s ∈ l, s.length ≤ 4096) ∧ (∀ g, v.ownBlock = some g → ¬ O g) ∧ Below w.heap.size w wr ∧ w4A.heap.size ≤ wr.heap.size) (fun _ i _ => ts.length + 2 - (intOf i).toNat)
    case atStart => exact ⟨0, [], _, st0, Nat.zero_le _, rfl, World.ownsRow_nil _ _ _ _, HRA.out, by omega, Nat.le_refl _, fun s hs => (by cases hs), fun g hg => (by cases hg), HBA.out, Nat.le_refl _⟩
    case round =>
      obtain ⟨k, l, O, st, hk, rfl, hown, hrun, hlst, hlk, hls, hvO, hbw, hzw⟩ := hrel
      have HOW := Lib.hid hown
      have HRUN := Lib.hid hrun
      have HLS := Lib.hid hls
      have HVO := Lib.hid hvO
      have HBW := Lib.hid hbw
      have hBr : B ≤ wr.heap.size := by omega
      clear hown hrun hls hvO hbw
      by_cases hle : k ≤ ts.length
      · by_cases happ : ∃ h : k < ts.length, ts[k] ≠ []
        · obtain ⟨hlt, hne⟩ := happ
          obtain ⟨b, off, rfl, hbb, hcell⟩ := HVG.out k hlt
          have hcell' := (HBW.out.cell (p := ⟨b, off + k, none⟩) hbb).trans hcell
          have hsl := HTL.out _ (List.getElem_mem hlt)
          obtain ⟨s, hs⟩ : ∃ s, s = ts[k] := ⟨_, rfl⟩
          rw [← hs] at hcell' hsl hne
          have hse : s.isEmpty = false := by simpa using hne
          have hbr : b < wr.heap.size := by have := HBW.out.size; omega
          clear hcell hne hs
          obtain ⟨ra, rc, rfl⟩ := W3.row_slice HOW.out
          go_wp2_with (at_builtin; refine wp_app_at app38 wr [.string ⟨s.toArray⟩] rfl (by simp [Value.oneCell']) rfl _ _ rfl B _ _ _ rfl HOW.out rfl (by omega) hBr ?_; intro v' w1' hown' hgrow _ hat)
          have hb1 := below_of_grown (HBW.out) (by have := HBW.out.size; omega) (W3.row_base HOW.out (by omega)) hgrow
          have hgz := hgrow.size
          go_roundw
          case rel =>
            refine ⟨k + 1, l ++ [s], O, st, by omega, by go_num, by rw [List.length_append, List.map_append]; exact hown', LD.run_grown HRUN.out hgrow HVO.out, by omega, by simp; omega, fun u hu => ?_, fun g hg hO => ?_, hb1, by omega⟩
            · rcases List.mem_append.1 hu with hu | hu
              · exact HLS.out u hu
              · rw [List.mem_singleton] at hu; subst hu; exact hsl
            · rcases hat with e | ⟨g', e, hge⟩
              · rw [e] at hg; exact HVO.out g hg hO
              · rw [e] at hg; injection hg with hg
                have := (HRUN.out.low g hO).2
                omega
          case measure => simp [intOf]; omega
        · go_upto_region 12 with (fail)
          go_cut [51] from 41 to 51 (fun c wx => c = .bool false ∧ wx = wr)
          case first =>
            by_cases hlt : k < ts.length
            · have he : ts[k] = [] := Classical.byContradiction fun e => happ ⟨hlt, e⟩
              obtain ⟨b, off, rfl, hbb, hcell⟩ := HVG.out k hlt
              have hcell' := (HBW.out.cell (p := ⟨b, off + k, none⟩) hbb).trans hcell
              rw [he] at hcell'
              have hbr : b < wr.heap.size := by have := HBW.out.size; omega
              clear hcell he happ
              go_wp2_with fail
              go_meet
              case rel => exact ⟨rfl, rfl⟩
            · obtain rfl : k = ts.length := by omega
              clear happ
              go_wp2_with fail
              go_meet
              case rel => exact ⟨rfl, rfl⟩
          case rest =>
            obtain ⟨rfl, hwc⟩ := hcut
            have hwc' := hwc.symm
            subst hwc'
            clear happ hwc
            obtain ⟨ra, rc, rfl⟩ := W3.row_slice HOW.out
            go_upto_region 14 with (fail)
            go_cut [67] from 59 to 67 (fun c wx => c = .bool (LD.dash l) ∧ wx = wr)
            case first =>
              cases l with
              | nil =>
                go_wp2_with fail
                go_meet
                case rel => exact ⟨rfl, rfl⟩
              | cons s0 r =>
                obtain ⟨a, c, e, hc, hx⟩ := (StrsAt.of_row HOW.out).get
                injection e with e1 e2 e3
                obtain ⟨b, off, ea, hb, hcell⟩ := hx 0 (by simp)
                rw [← e1] at ea
                subst ea
                have hcell' : wr.cell? ⟨b, off, none⟩ = some (.string ⟨s0.toArray⟩) := hcell
                have hdq := LD.dash_eq s0
                have hdd : LD.dash (s0 :: r) = (s0 == [45]) := rfl
                have HDD := Lib.hid hdd
                clear e1 e2 e3 hx hcell hc hdd
                cases hs0 : (s0 == [45]) with
                | true =>
                  rw [hs0] at hdq
                  have HS0 := Lib.hid hs0
                  clear hs0
                  go_wp2_with fail
                  go_meet
                  case rel => exact ⟨by rw [HDD.out, HS0.out], rfl⟩
                | false =>
                  rw [hs0] at hdq
                  have HS0 := Lib.hid hs0
                  clear hs0
                  go_wp2_with fail
                  go_meet
                  case rel => exact ⟨by rw [HDD.out, HS0.out], rfl⟩
            case rest =>
              obtain ⟨rfl, hwc⟩ := hcut
              have hwc' := hwc.symm
              subst hwc'
              clear hwc
              go_upto_if 67 with (fail)
              go_cut [] (fun wx => ∃ (O' : Nat → Prop) (st' : Sp.St), Run B (secs z) O' wx x st' ∧ st'.last ≤ k + 1 ∧ Below w.heap.size w wx ∧ w4A.heap.size ≤ wx.heap.size)
              case first =>
                cases hd : LD.dash l with
                | true =>
                  cases l with
                  | nil => cases hd
                  | cons s0 r =>
                    obtain ⟨a, c, e, hc, hx⟩ := (StrsAt.of_row HOW.out).get
                    injection e with e1 e2 e3
                    obtain ⟨b, off, ea, hb, hcell⟩ := hx 0 (by simp)
                    rw [← e1] at ea
                    subst ea
                    rw [← e3] at hc
                    have hc' : r.length + 1 ≤ rc := by simpa using hc
                    clear e1 e2 e3 hx hcell hc
                    by_cases hc1 : rc = 1
                    · have hr0 : r = [] := List.length_eq_zero_iff.1 (by omega)
                      subst hr0
                      subst hc1
                      go_wp2_with fail
                      refine (Run.remove (HW.out _ HBW.out) HRUN.out (by omega) hBr (by omega) _ [] (LD.nil_at _ _ _) (by decide) (fun n hn => by cases hn)).mono ?_
                      rintro e w5 ⟨rfl, hch5, hr5⟩
                      have hz5 := hch5.size
                      go_wp2_with fail
                      go_meet
                      case rel => exact ⟨_, _, hr5, by have := (V11.remove_sure HRUN.out.sure (by omega) []).2; omega, HBW.out.trans (hch5.below (B := w.heap.size) HBW.out.size fun k hk => by have := (HRUN.out.low k hk).1; omega), by omega⟩
                    · have htl := LD.tail_strs (StrsAt.of_row HOW.out)
                      have hrl : r.length ≤ 9000 := by simp at hlk; omega
                      have hrn : ∀ n ∈ r, n.length ≤ 10000 := fun n hn => by have := HLS.out n (List.mem_cons_of_mem _ hn); omega
                      have HTLS := Lib.hid htl
                      have HRN := Lib.hid hrn
                      clear htl hrn
                      go_wp2_with fail
                      refine (Run.remove (HW.out _ HBW.out) HRUN.out (by omega) hBr (by omega) _ r HTLS.out hrl HRN.out).mono ?_
                      rintro e w5 ⟨rfl, hch5, hr5⟩
                      have hz5 := hch5.size
                      go_wp2_with fail
                      go_meet
                      case rel => exact ⟨_, _, hr5, by have := (V11.remove_sure HRUN.out.sure (by omega) r).2; omega, HBW.out.trans (hch5.below (B := w.heap.size) HBW.out.size fun k hk => by have := (HRUN.out.low k hk).1; omega), by omega⟩
                | false =>
                  have hll : l.length ≤ 9000 := by omega
                  go_wp2_with fail
                  refine (Run.install (HW.out _ HBW.out) HRUN.out (by omega) hBr (by omega) _ l (StrsAt.of_row HOW.out) hll).mono ?_
                  rintro e w5 ⟨rfl, hch5, hr5⟩
                  have hz5 := hch5.size
                  go_wp2_with fail
                  go_meet
                  case rel => exact ⟨_, _, hr5, by have := (V11.install_sure HRUN.out.sure (by omega) l).2; omega, HBW.out.trans (hch5.below (B := w.heap.size) HBW.out.size fun k hk => by have := (HRUN.out.low k hk).1; omega), by omega⟩
              case rest =>
                obtain ⟨O', st', hr', hl', hb', hz'⟩ := hcut
                have HR := Lib.hid hr'
                have HBC := Lib.hid hb'
                have hBc : B ≤ wc.heap.size := by omega
                have hpn := V11.plan_nil hr'.sure
                have HPN := Lib.hid hpn
                clear hr' hb' hpn
                go_wp2_with fail
                refine (Run.plan (HW.out _ HBC.out) HR.out (by omega) _ [] (SlAt.nil _ _ _) (by simp)).mono ?_
                rintro e w6 ⟨v, rfl, hv, hb6⟩
                rw [HPN.out] at hv ⊢
                obtain ⟨pa, pc, rfl, _, _⟩ := hv.at_.get
                have hz6 := hb6.size
                have hbA : Below w6.heap.size w6 (w6.alloc (.cells #[.int .i64 0, .int .i64 0, .int .i64 0, .string ⟨#[]⟩] 23)) := (Below.refl _ _).alloc (Nat.le_refl _) _
                have hzA : (w6.alloc (.cells #[.int .i64 0, .int .i64 0, .int .i64 0, .string ⟨#[]⟩] 23)).heap.size = w6.heap.size + 1 := by simp
                have HB6 := Lib.hid ((HBC.out.trans (hb6.mono HBC.out.size)).trans (hbA.mono (by have := HBC.out.size; omega)))
                have HR6 := Lib.hid ((HR.out.below hb6).below hbA)
                have HF6 := Lib.hid (FB.new w6 ⟨0, 0, 0, []⟩)
                have HZ6 := Lib.hid hzA
                clear hbA hzA hb6 hv
                simp only [List.length_nil]
                unfold faultV sv Sp.okF
                go_wp2_with fail
                generalize (w6.alloc (.cells #[.int .i64 0, .int .i64 0, .int .i64 0, .string ⟨#[]⟩] 23)) = w6A at *
                have hzz1 := Nat.le_of_eq HZ6.out
                have hzz2 := Nat.le_of_eq HZ6.out.symm
                refine (sesFill_any HR6.out.ses HR6.out.sure.live).mono ?_
                rintro e w7 ⟨rfl, hb7⟩
                have hz7 := hb7.size
                have hunit := KW.fill_unit (Sp.size st'.L) (Sp.room (secs z)) HR6.out.sure.live.room (by have := (secs_ok z).1; unfold Sp.room; omega) (by have := (secs_ok z).2.1; unfold Sp.room; omega)
                obtain ⟨fb, hfb⟩ : ∃ fb, fb = fillB (Sp.size st'.L) (Sp.room (secs z)) := ⟨_, rfl⟩
                rw [← hfb] at hunit ⊢
                obtain ⟨u1, u2, u3⟩ := hunit
                have u2' : (FloatKind.f64.format.order fb 4607182418800017408 == some .gt) = false := by rw [beq_eq_false_iff_ne]; exact u2
                have u3' : (FloatKind.f64.format.order fb 0 == some .lt) = false := by rw [beq_eq_false_iff_ne]; exact u3
                obtain ⟨f0, _, _, _⟩ := (HF6.out.below hb7).cells
                have hf6 : w6.heap.size < w7.heap.size := by omega
                have HB7 := Lib.hid (HB6.out.trans (hb7.mono HB6.out.size))
                have HR7 := Lib.hid (HR6.out.below hb7)
                clear hb7 hfb u1 u2 u3
                go_wp2_with fail
                refine HR7.out.packages.mono ?_
                rintro e w8 ⟨v2, rfl, hv2, hb8⟩
                have hz8 := hb8.size
                have hset := HR7.out.sure.live.ok.set
                have htm : Sp.texts st'.L = (V8.byName st'.L).map Sp.print := V8.texts_byName _
                have hmem : ∀ p ∈ V8.byName st'.L, p ∈ st'.L := fun p hp => (V8.byName_mem hset p).1 hp
                obtain ⟨N, hN⟩ : ∃ N, N = V8.byName st'.L := ⟨_, rfl⟩
                rw [← hN] at htm hmem
                rw [htm] at hv2
                obtain ⟨na, nc, rfl, hnc, hng⟩ := hv2.at_.get
                have hnl : N.length ≤ 600 := by
                  have h1 := HR7.out.texts
                  rw [htm, List.length_map] at h1; exact h1
                have HNG := Lib.hid hng
                have HMEM := Lib.hid hmem
                have HB8 := Lib.hid (HB7.out.trans (hb8.mono HB7.out.size))
                have HR8 := Lib.hid (HR7.out.below hb8)
                clear hset htm hmem hN hnc hng hv2 hb8
                simp only [List.length_map]
                go_wp2_with fail
                go_loopw [15, 16] (fun s15 i wi => ∃ j : Nat, j ≤ N.length ∧ i = .int .i64 j ∧ s15 = .bool true ∧ Below w8.heap.size w8 wi) (fun _ i _ => N.length - (intOf i).toNat)
                case atStart => exact ⟨0, Nat.zero_le _, rfl, rfl, Below.refl _ _⟩
                case round =>
                  obtain ⟨j, hj, rfl, rfl, hbi⟩ := hrel
                  have HBI := Lib.hid hbi
                  have hzi := hbi.size
                  clear hbi
                  by_cases hjl : j < N.length
                  · obtain ⟨b, off, rfl, hbb, hcell⟩ := HNG.out j (by rw [List.length_map]; exact hjl)
                    have hcell' := (HBI.out.cell (p := ⟨b, off + j, none⟩) hbb).trans hcell
                    rw [List.getElem_map] at hcell'
                    have how := owned_any (HR8.out.ses.below HBI.out) HR8.out.sure.live.ok (HMEM.out _ (List.getElem_mem hjl))
                    have HOWN := Lib.hid how
                    have hbr : b < wr.heap.size := by omega
                    clear hcell how
                    go_wp2_with fail
                    refine HOWN.out.mono ?_
                    rintro e wj ⟨rfl, hbj⟩
                    have HBJ := Lib.hid (HBI.out.trans (hbj.mono hzi))
                    clear hbj
                    go_wp2
                    go_roundw
                    case rel => exact ⟨j + 1, hjl, by go_num, rfl, HBJ.out⟩
                    case measure => simp [intOf]; omega
                  · obtain rfl : j = N.length := by omega
                    go_wp2
                    go_roundw
                    case rel => exact ⟨k + 1, [], O', st', by omega, by go_num, World.ownsRow_nil _ _ _ _, HR8.out.below HBI.out, by omega, Nat.zero_le _, fun s hs => (by cases hs), fun g hg => (by cases hg), HB8.out.trans (HBI.out.mono HB8.out.size), by omega⟩
                    case measure => simp [intOf]; omega
      · obtain rfl : k = ts.length + 1 := by omega
        have HBF := Lib.hid HBW.out
        go_wp2
        go_ret
        exact ⟨rfl, HBF.out⟩
end Go.Proofs.YtfphcecjhdkcoaaGreatDoor

/-
For every text: if it is a package, its one form is no longer than it and its own one form; if it is none, Read gives no text; of texts of more than 4096 bytes nothing is claimed. Conditions: the listed package-level variables hold what the program's text lays in them (the card ties them).
-/
import Derived.Test.YtfphcecjhdkcoaaGreatDoorFormedP07
import Derived.Test.YtfphcecjhdkcoaaGreatDoorFormedP09
import Derived.Test.YtfphcecjhdkcoaaGreatDoorFormedP12
import Derived.Test.YtfphcecjhdkcoaaGreatDoorFormedP14
import Derived.RangeFuncFrom
import Derived.Test.YtfphcecjhdkcoaaGreatDoorTie
import Derived.Test.YtfphcecjhdkcoaaGreatDoorCards
import Derived.SevenTiedAt
/-
What is installed is gone over once more: the iterator over a store, with a function that compares.
-/
namespace Go.Proofs.YtfphcecjhdkcoaaGreatDoor
open Go.RowKit Go.Maps
namespace PK
set_option maxRecDepth 100000 in
set_option maxHeartbeats 2000000 in
/-- One text is compared with what was told before. -/
theorem again {w : World} {Bo Bn Bk Bl b off m cap j : Nat} {nm : ByteArray} {t : ByteArray} (ho : Boxed w Bo 4 (.bool true)) (hn : Boxed w Bn 4 (.bool false)) (hk : Boxed w Bk 3 (.int .i64 (j : Int))) (hl : Boxed w Bl 38 (.slice (some ⟨b, off, none⟩) m cap))
    (hc : w.cell? ⟨b, off + j, none⟩ = some (.string t)) (hj : j < m) (hm : m ≤ 100000) (hne : Bo ≠ Bn ∧ Bo ≠ Bk ∧ Bo ≠ Bl ∧ Bn ≠ Bk ∧ Bn ≠ Bl ∧ Bk ≠ Bl ∧ b ≠ Bo ∧ b ≠ Bn ∧ b ≠ Bk) :
    Calls Tryz.prog 51 #[.string nm, .string t, .pointer (some ⟨Bo, 0, none⟩), .pointer (some ⟨Bn, 0, none⟩), .pointer (some ⟨Bk, 0, none⟩), .pointer (some ⟨Bl, 0, none⟩)] w fun e w' => ∃ g : Bool, e = .returned (.bool (!g)) ∧
      w' = ((w.setCell ⟨Bo, 0, none⟩ (.bool true)).setCell ⟨Bk, 0, none⟩ (.int .i64 ((j : Int) + 1))).setCell ⟨Bn, 0, none⟩ (.bool g) := by
  obtain ⟨n1, n2, n3, n4, n5, n6, n7, n8, n9⟩ := hne
  have c0 := ho.cell
  have c1 := hn.cell
  have c2 := hk.cell
  have c3 := hl.cell
  have f0 := ho.frozen
  have f1 := hn.frozen
  have f2 := hk.frozen
  have l0 := ho.lt
  have l1 := hn.lt
  have l2 := hk.lt
  have l3 := hl.lt
  have hji : (j : Int) < (m : Int) := by omega
  clear ho hn hk hl
  go_enter Tryz.func51, Tryz.ntmps51
  go_wp2
  go_ret
  exact ⟨_, rfl, rfl⟩
theorem boxed_chg {M : Nat → Prop} {A B : World} {b : Nat} {t : TypeId} {v : Value} (h : Boxed A b t v) (hc : Chg M A B) (hm : ¬ M b) : Boxed B b t v := (hc.block b h.lt hm).trans h
def three (Bo Bn Bk k : Nat) : Prop := k = Bo ∨ k = Bn ∨ k = Bk
set_option maxRecDepth 100000 in
set_option maxHeartbeats 2000000 in
theorem gone {S : Nat → Prop} {w : World} {Bo Bn Bk Bl Bx s mb lc : Nat} {la : Option Addr} {L : List (Nat × Sp.Pk)} {ys : List Sp.Pk} (hys : ys = V8.byName (pks L)) (hS : Sp.Set (pks L)) (hL : L.length ≤ 50000)
    (ho : Boxed w Bo 4 (.bool true)) (hn : Boxed w Bn 4 (.bool false)) (hk : Boxed w Bk 3 (.int .i64 0)) (hl : Boxed w Bl 38 (.slice la ys.length lc))
    (hne : Bo ≠ Bn ∧ Bo ≠ Bk ∧ Bo ≠ Bl ∧ Bn ≠ Bk ∧ Bn ≠ Bl ∧ Bk ≠ Bl)
    (hc : ∀ j (hj : j < ys.length), ∃ b off, la = some ⟨b, off, none⟩ ∧ b < w.heap.size ∧ ¬ three Bo Bn Bk b ∧ w.cell? ⟨b, off + j, none⟩ = some (.string ⟨(Sp.print ys[j]).toArray⟩))
    (hx : w.cell? ⟨Bx, 0, none⟩ = some (.pointer (some ⟨s, 0, none⟩))) (hxl : Bx < w.heap.size ∧ ¬ three Bo Bn Bk Bx) (hs : w.cell? ⟨s, 2, none⟩ = some (.map (some mb))) (hsl : s < w.heap.size ∧ ¬ three Bo Bn Bk s)
    (hset : SetOn S w mb L) (hSb : ∀ x, (S x ∨ x = mb) → x < w.heap.size ∧ ¬ three Bo Bn Bk x) :
    Calls Tryz.prog 76 #[.func (.func 51) #[] #[.pointer (some ⟨Bo, 0, none⟩), .pointer (some ⟨Bn, 0, none⟩), .pointer (some ⟨Bk, 0, none⟩), .pointer (some ⟨Bl, 0, none⟩)], .pointer (some ⟨Bx, 0, none⟩)] w fun e w' =>
      e = .returned (.tuple #[]) ∧ Chg (three Bo Bn Bk) w w' ∧ Boxed w' Bo 4 (.bool true) := by
  have hyb : ys.length ≤ 50000 := by rw [hys, (V8.byName_perm hS).length_eq]; unfold pks; rw [List.length_map]; exact hL
  have e1 : Sp.sorted (Sp.names (L.map (·.2))) = ys.map (·.name) := by rw [hys]; exact (V8.byName_names (pks L)).symm
  have hnm := names_from mb L w hset.map (by omega)
  rw [e1] at hnm
  have hmem : ∀ y ∈ ys, ∃ q ∈ L, q.2 = y := fun y hy => by
    rw [hys] at hy
    obtain ⟨q, hq, e⟩ := List.mem_map.1 ((V8.byName_mem hS _).1 hy)
    exact ⟨q, hq, e⟩
  have HMEM := Lib.hid hmem
  have HNM := Lib.hid hnm
  have HO := Lib.hid ho
  have HN := Lib.hid hn
  have HK := Lib.hid hk
  have HL := Lib.hid hl
  have HNE := Lib.hid hne
  have HC := Lib.hid hc
  have HX := Lib.hid hx
  have HXL := Lib.hid hxl
  have HSC := Lib.hid hs
  have HSL := Lib.hid hsl
  have HSET := Lib.hid hset
  have HSB := Lib.hid hSb
  have hxll := hxl.1
  have hsll := hsl.1
  clear hys hS e1 hnm hmem ho hn hk hl hne hc hxl hsl hset hSb
  go_enter Tryz.func76, Tryz.ntmps76
  go_wp2_with fail
  refine HNM.out.mono ?_
  rintro e w1 ⟨v, rfl, hv, hb1⟩
  have hz1 := hb1.size
  obtain ⟨va, vc, rfl, hvc, hvg⟩ := hv.get
  rw [List.length_map]
  have HVG := Lib.hid hvg
  have HB1 := Lib.hid hb1
  clear hv hvg hb1 hx hs
  go_wp2
  go_loopw [11] (fun i wr => ∃ k : Nat, k ≤ ys.length ∧ i = .int .i64 (k : Int) ∧ Boxed wr Bo 4 (.bool true) ∧ Boxed wr Bn 4 (.bool false) ∧ Boxed wr Bk 3 (.int .i64 (k : Int)) ∧ Chg (three Bo Bn Bk) w1 wr) (fun i _ => ys.length + 1 - (intOf i).toNat)
  case atStart => exact ⟨0, Nat.zero_le _, rfl, (HB1.out.block Bo HO.out.lt).trans HO.out, (HB1.out.block Bn HN.out.lt).trans HN.out, (HB1.out.block Bk HK.out.lt).trans HK.out, Chg.refl _ _⟩
  case round =>
    obtain ⟨k, hk, rfl, hbo, hbn, hbk, hch⟩ := hrel
    have hzr := hch.size
    have HBO := Lib.hid hbo
    have HBN := Lib.hid hbn
    have HBK := Lib.hid hbk
    have HCH := Lib.hid hch
    have hold : ∀ b, b < w.heap.size → ¬ three Bo Bn Bk b → wr.heap[b]? = w.heap[b]? := fun b h1 h2 => (hch.block b (by omega) h2).trans (HB1.out.block b h1)
    have HOLD := Lib.hid hold
    have hxr := (World.cell?_of_block (w := w) (a := ⟨Bx, 0, none⟩) (hold Bx hxll HXL.out.2)).trans HX.out
    have hsr := (World.cell?_of_block (w := w) (a := ⟨s, 2, none⟩) (hold s hsll HSL.out.2)).trans HSC.out
    have hxrl : Bx < wr.heap.size := by omega
    have hsrl : s < wr.heap.size := by omega
    clear hbo hbn hbk hch hold
    by_cases hlt : k < ys.length
    · obtain ⟨nb, noff, rfl, hn0, hn1, hnc⟩ := HVG.out k (by rw [List.length_map]; exact hlt)
      rw [List.getElem_map] at hnc
      have hn3 : ¬ three Bo Bn Bk nb := fun h => by
        have h1 := HO.out.lt
        have h2 := HN.out.lt
        have h3 := HK.out.lt
        rcases h with h | h | h <;> omega
      have hncr := (World.cell?_of_block (w := w1) (a := ⟨nb, noff + k, none⟩) (HCH.out.block nb (by omega) hn3)).trans hnc
      obtain ⟨q, hq, hqe⟩ := HMEM.out _ (List.getElem_mem hlt)
      have hsetr : SetOn (fun x => x < wr.heap.size) wr mb L := (HSET.out.keep (HOLD.out mb (HSB.out mb (.inr rfl)).1 (HSB.out mb (.inr rfl)).2) fun x hx => HOLD.out x (HSB.out x (.inl hx)).1 (HSB.out x (.inl hx)).2).mono fun x hx => by have := (HSB.out x (.inl hx)).1; omega
      have hpk := hsetr.2.2 q hq
      have hlk := hsetr.map.look Tryz.underlying140 zero118 q.2.name (by have := hpk.2.name; unfold maxLen; omega)
      rw [MP.kv_at hsetr.2.1 hq, hqe] at hlk
      have hpr := print_any q.1 q.2 wr hpk.1 hpk.2
      rw [hqe] at hpr
      obtain ⟨lb, loff, rfl, hl0, hl3, hlc⟩ := HC.out k hlt
      have hlcr := (World.cell?_of_block (w := w) (a := ⟨lb, loff + k, none⟩) (HOLD.out lb hl0 hl3)).trans hlc
      obtain ⟨y, hy⟩ : ∃ y, y = ys[k] := ⟨_, rfl⟩
      rw [← hy] at hncr hlk hpr hlcr
      have HPR := Lib.hid hpr
      have HLCR := Lib.hid hlcr
      have hnbl : nb < wr.heap.size := by omega
      have hlbl : lb < wr.heap.size := by omega
      have HL3 := Lib.hid hl3
      clear hnc hn3 hq hqe hsetr hpk hpr hlc hlcr hy hl3
      unfold sv at HPR
      go_wp2_with fail
      refine HPR.out.mono ?_
      rintro e w2 ⟨rfl, hb2⟩
      have hz2 := hb2.size
      obtain ⟨n1, n2, n3, n4, n5, n6⟩ := HNE.out
      have ho2 : Boxed w2 Bo 4 (.bool true) := (hb2.block Bo HBO.out.lt).trans HBO.out
      have hn2 : Boxed w2 Bn 4 (.bool false) := (hb2.block Bn HBN.out.lt).trans HBN.out
      have hk2 : Boxed w2 Bk 3 (.int .i64 (k : Int)) := (hb2.block Bk HBK.out.lt).trans HBK.out
      have hl2 : Boxed w2 Bl 38 (.slice (some ⟨lb, loff, none⟩) ys.length lc) := (hb2.block Bl (by have := HL.out.lt; omega)).trans ((HOLD.out Bl HL.out.lt (fun h => by rcases h with h | h | h <;> omega)).trans HL.out)
      have hag := again (nm := ⟨y.name.toArray⟩) ho2 hn2 hk2 hl2 ((hb2.cell (p := ⟨lb, loff + k, none⟩) hlbl).trans HLCR.out) hlt (by omega) ⟨n1, n2, n3, n4, n5, n6, fun e => HL3.out (.inl e), fun e => HL3.out (.inr (.inl e)), fun e => HL3.out (.inr (.inr e))⟩
      have HAG := Lib.hid hag
      have hrest : ∀ g : Bool, Boxed (((w2.setCell ⟨Bo, 0, none⟩ (.bool true)).setCell ⟨Bk, 0, none⟩ (.int .i64 ((k : Int) + 1))).setCell ⟨Bn, 0, none⟩ (.bool g)) Bo 4 (.bool true) ∧
          Boxed (((w2.setCell ⟨Bo, 0, none⟩ (.bool true)).setCell ⟨Bk, 0, none⟩ (.int .i64 ((k : Int) + 1))).setCell ⟨Bn, 0, none⟩ (.bool g)) Bn 4 (.bool g) ∧
          Boxed (((w2.setCell ⟨Bo, 0, none⟩ (.bool true)).setCell ⟨Bk, 0, none⟩ (.int .i64 ((k : Int) + 1))).setCell ⟨Bn, 0, none⟩ (.bool g)) Bk 3 (.int .i64 ((k : Int) + 1)) ∧
          Chg (three Bo Bn Bk) w1 (((w2.setCell ⟨Bo, 0, none⟩ (.bool true)).setCell ⟨Bk, 0, none⟩ (.int .i64 ((k : Int) + 1))).setCell ⟨Bn, 0, none⟩ (.bool g)) := fun g =>
        ⟨((ho2.set _).other n2 _).other n1 _, ((hn2.other (fun e => n1 e.symm) _).other n4 _).set _, ((hk2.other (fun e => n2 e.symm) _).set _).other (fun e => n4 e.symm) _,
          (((HCH.out.trans (Chg.of_below hb2)).setCell (p := ⟨Bo, 0, none⟩) (.inl rfl) _).setCell (p := ⟨Bk, 0, none⟩) (.inr (.inr rfl)) _).setCell (p := ⟨Bn, 0, none⟩) (.inr (.inl rfl)) _⟩
      have HREST := Lib.hid hrest
      clear hag hrest ho2 hn2 hk2 hl2 hb2 hlk
      go_wp2_with fail
      refine HAG.out.mono ?_
      rintro e w3 ⟨g, rfl, hw3⟩
      obtain ⟨r1, r2, r3, r4⟩ := HREST.out g
      rw [← hw3] at r1 r2 r3 r4
      have R1 := Lib.hid r1
      have R2 := Lib.hid r2
      have R3 := Lib.hid r3
      have R4 := Lib.hid r4
      clear hw3 r1 r2 r3 r4 n1 n2 n3 n4 n5 n6
      cases g with
      | false =>
        go_wp2
        go_roundw
        case rel => exact ⟨k + 1, hlt, by go_num, R1.out, R2.out, R3.out, R4.out⟩
        case measure => simp [intOf]; omega
      | true =>
        go_wp2
        refine bodyPost_ret (results_none rfl _ _ _) rfl ?_
        exact ⟨rfl, (Chg.of_below HB1.out).trans R4.out, R1.out⟩
    · obtain rfl : k = ys.length := by omega
      go_wp2
      go_end0
      exact ⟨rfl, (Chg.of_below HB1.out).trans HCH.out, HBO.out⟩
end PK
end Go.Proofs.YtfphcecjhdkcoaaGreatDoor
/-
The walk of a session's Packages.
-/
namespace Go.Proofs.YtfphcecjhdkcoaaGreatDoor
open Go.RowKit Go.Maps Go.Shelf
attribute [local go_sem] Oper.semAt_some
theorem storePackages_any (s : Nat) (w : World) : Calls Tryz.prog 50 #[.pointer (some ⟨s, 0, none⟩)] w fun e w' => e = .returned (.func (.func 76) #[] #[.pointer (some ⟨w.heap.size, 0, none⟩)]) ∧ w' = w.alloc (.cells #[.pointer (some ⟨s, 0, none⟩)] 92) := by
  have hmf : ∀ (fn : Fn) (first cap : Array Value) (w : World), (Instr.makeFunc fn first cap).run Tryz.prog w = .ok (.func fn first cap) w := fun _ _ _ _ => rfl
  go_enter Tryz.func50, Tryz.ntmps50
  go_wp2
  go_ret
  exact ⟨rfl, rfl⟩
namespace PK
def prints (l : List GP) : List Value := l.map fun p => .string ⟨(Sp.print p.1).toArray⟩
theorem told {p : Sp.Pk} (h : V3.Good p) : ∃ N T : ByteArray, N = ⟨p.name.toArray⟩ ∧ T = ⟨(Sp.print p).toArray⟩ ∧ (8 : Int) + (N.size : Int) < (T.size : Int) ∧ T.size ≤ 300 ∧ (T.extract 0 8).toList = [112, 97, 99, 107, 97, 103, 101, 32] ∧ (T.extract 8 (8 + N.size)).toList = N.toList ∧
    ∀ h : 8 + N.size < T.size, T[8 + N.size] = 32 := by
  obtain ⟨r, hr, _⟩ := V3.print_head p
  have hl := h.len
  have hp : (Sp.print p).length = 8 + p.name.length + 1 + r.length := by rw [hr]; simp; omega
  have hs : (⟨(Sp.print p).toArray⟩ : ByteArray).size = (Sp.print p).length := by show (Sp.print p).toArray.size = _; simp
  have hn : (⟨p.name.toArray⟩ : ByteArray).size = p.name.length := by show p.name.toArray.size = _; simp
  have hb : bl ⟨(Sp.print p).toArray⟩ = [112, 97, 99, 107, 97, 103, 101, 32] ++ (p.name ++ 32 :: r) := by rw [bl_mk, hr]
  refine ⟨_, _, rfl, rfl, by rw [hs, hn]; omega, by rw [hs]; omega, ?_, ?_, fun hlt => ?_⟩
  · rw [toList_bl, bl_to, hb]; rfl
  · rw [toList_bl, toList_bl, bl_ext, hb, bl_mk, hn]
    simp
  · have h2 : (bl ⟨(Sp.print p).toArray⟩)[8 + p.name.length]? = some 32 := by
      rw [hb, List.getElem?_append_right (by simp)]
      simp
    obtain ⟨h3, h4⟩ := List.getElem?_eq_some_iff.1 h2
    have h5 : (⟨(Sp.print p).toArray⟩ : ByteArray)[8 + p.name.length]'(by rw [← hn]; exact hlt) = 32 := h4
    simp only [hn]
    exact h5
/-- What an owned row of texts holds. -/
theorem row_strs {B n : Nat} {w : World} {v : Value} {l : List Sp.Str} (h : w.ownsRow B 9 1 v n (l.map sv)) (hn : n = l.length) : ∃ la lc, v = .slice la n lc ∧ ∀ j (hj : j < l.length), ∃ b off, la = some ⟨b, off, none⟩ ∧ b < w.heap.size ∧ v.ownBlock = some b ∧ w.cell? ⟨b, off + j, none⟩ = some (.string ⟨l[j].toArray⟩) := by
  subst hn
  obtain ⟨a, cap, hv, hc, hx⟩ := (StrsFrom.of_row h (Nat.le_refl B)).get
  refine ⟨a, cap, hv, fun j hj => ?_⟩
  obtain ⟨b, off, ha, _, hb2, hcell⟩ := hx j hj
  refine ⟨b, off, ha, hb2, ?_, hcell⟩
  obtain ⟨g, c2, hg, _, _⟩ := h.form (by omega)
  rw [hg] at hv ⊢
  injection hv with h1 _ _
  rw [ha] at h1
  injection h1 with h1
  injection h1 with h1 _ _
  show some g = some b
  rw [h1]
set_option maxRecDepth 100000 in
set_option maxHeartbeats 4000000 in
theorem packages_any {O : Nat → Prop} {w : World} {x : Nat} {st : Sp.St} (h : Ses O w x st) (hS : Sp.Set st.L) (hL : st.L.length ≤ 50000) :
    Calls Tryz.prog 26 #[.pointer (some ⟨x, 0, none⟩)] w fun e w' => ∃ v, e = .returned (.tuple #[v, .bool true]) ∧ StrsFrom w.heap.size w' v (Sp.texts st.L) ∧ Below w.heap.size w w' := by
  have hmf : ∀ (fn : Fn) (first cap : Array Value) (w : World), (Instr.makeFunc fn first cap).run Tryz.prog w = .ok (.func fn first cap) w := fun _ _ _ _ => rfl
  have hxl := h.lt
  obtain ⟨D, s, O1, h1, ⟨mb, ob, OD, S, L, s1, s2, s3, s4, s5, s6, s7, s8⟩, h3, h4⟩ := h
  obtain ⟨c0, c1⟩ := Ses.cells h1
  obtain ⟨_, _, d2, _, _⟩ := s1.cells
  have hsl := s1.lt
  have hml := s3.map.lt
  rw [← s5] at hS hL
  have hL' : L.length ≤ 50000 := by unfold pks at hL; rw [List.length_map] at hL; exact hL
  have hset : SetOn (fun b => b < w.heap.size) w mb L := s3.mono fun y hy => (s8 y (.inl hy)).1
  have HSET := Lib.hid hset
  have HS := Lib.hid hS
  have HE := Lib.hid s5
  obtain ⟨i0, hi0, hz0, hz1, hz2⟩ := info_parts infoStr
  have HI0 := Lib.hid hi0
  have HZ0 := Lib.hid hz0
  have HZ1 := Lib.hid hz1
  have HZ2 := Lib.hid hz2
  clear hi0 hz0 hz1 hz2 hset h1 s1 s2 s3 s4 s5 s6 s7 s8 h3 h4 hS hL
  refine (callsIn_wide (n := 5)).1 ?_
  refine callsIn_of_wp_marks Tryz.func26 rfl trivial ?_ rfl
  simp only [Tryz.ntmps26, List.size_toArray, List.length_cons, List.length_nil, Nat.reduceAdd, Nat.reduceSub, Array.replicate_succ, Array.replicate_zero, List.push_toArray, List.append_toArray, List.nil_append, List.cons_append]
  gi_wp2_with (refine ⟨trivial, ?_⟩; gi_at_call 50; refine (callsIn_wide.2 (storePackages_any s _)).mono ?_; rintro e w' ⟨rfl, rfl⟩)
  have bL := Boxed.new w 38 (.slice none 0 0)
  have bO := Boxed.new (w.alloc (.cells #[.slice none 0 0] 38)) 4 (.bool true)
  have bX := Boxed.new ((w.alloc (.cells #[.slice none 0 0] 38)).alloc (.cells #[.bool true] 4)) 92 (.pointer (some ⟨s, 0, none⟩))
  rw [World.size_alloc] at bO
  rw [World.size_alloc, World.size_alloc] at bX
  have bL2 := (bL.alloc (.cells #[.bool true] 4)).alloc (.cells #[.pointer (some ⟨s, 0, none⟩)] 92)
  have bO2 := bO.alloc (.cells #[.pointer (some ⟨s, 0, none⟩)] 92)
  have hB0 : Below w.heap.size w (((w.alloc (.cells #[.slice none 0 0] 38)).alloc (.cells #[.bool true] 4)).alloc (.cells #[.pointer (some ⟨s, 0, none⟩)] 92)) := (((Below.refl _ w).alloc (Nat.le_refl _) _).alloc (by simp) _).alloc (by simp; omega) _
  have hz0 : (((w.alloc (.cells #[.slice none 0 0] 38)).alloc (.cells #[.bool true] 4)).alloc (.cells #[.pointer (some ⟨s, 0, none⟩)] 92)).heap.size = w.heap.size + 3 := by simp
  obtain ⟨w0, hw0⟩ : ∃ w0, w0 = (((w.alloc (.cells #[.slice none 0 0] 38)).alloc (.cells #[.bool true] 4)).alloc (.cells #[.pointer (some ⟨s, 0, none⟩)] 92)) := ⟨_, rfl⟩
  rw [← hw0] at bL2 bO2 bX hB0 hz0 ⊢
  have hd2 := (hB0.cell (p := ⟨s, 2, none⟩) hsl).trans d2
  have hset0 : SetOn (fun b => b < w.heap.size) w0 mb L := HSET.out.keep (hB0.block mb hml) fun y hy => hB0.block y hy
  have hst := stops (5 - 1) (by omega) (n₀ := w.heap.size) (B1 := w.heap.size) (B2 := w.heap.size + 1) (Bx := w.heap.size + 1 + 1) (s := s) (mb := mb) (L := L) (w := w0) (by omega) (by omega) ⟨by omega, by omega, by omega, by omega, by omega, by omega⟩ bX.cell bL2.cell hd2 hsl hml hset0 HS.out hL'
  have HST := Lib.hid hst
  have HW0 := Lib.hid hw0
  have HZ := Lib.hid hz0
  have hz0a := Nat.le_of_eq hz0
  have hz0b := Nat.le_of_eq hz0.symm
  clear hst hw0 hz0 bL bO hd2 hset0
  refine wpIn_rangeFunc_ownF rfl (by omega) (gf := 76) (lb := #[.pointer (some ⟨w.heap.size + 1 + 1, 0, none⟩)]) rfl trivial (enters_of Tryz.func76 (by kernel_rfl) rfl) HST.out (fun h k => KP.trans h k)
    (fun W l o o' hl h hc hw => KP.put (w := w0) (by omega) (by omega) W l o o' hl h hc hw) (Below.refl _ _) (fun _ => rfl)
    (fun pre W => ((∃ v, Boxed W w.heap.size 38 v ∧ W.ownsRow w.heap.size 9 1 v pre.length (prints pre) ∧ True) ∧ Boxed W (w.heap.size + 1) 4 (.bool true) ∧ Boxed W (w.heap.size + 1 + 1) 92 (.pointer (some ⟨s, 0, none⟩))) ∧ Below w.heap.size w W)
    (fun _ _ _ => False)
    (OwnFrom.and (OwnFrom.and (Own.from (holdsRow_own w.heap.size w.heap.size 38 9 1 (fun pre => pre.length) (fun pre => prints pre) (fun _ _ => True)) _) (OwnFrom.and (Own.from (boxed_own _ _ _) _) (Own.from (boxed_own _ _ _) _))) (ownFrom_below (Nat.le_refl _) (by omega)))
    (fun _ _ _ _ _ hs _ _ => hs)
    ⟨⟨⟨_, bL2, World.ownsRow_nil _ _ _ _, trivial⟩, bO2, bX⟩, hB0⟩
    (fun p => { tmps := #[Value.pointer (some ⟨x, 0, none⟩), undef, Value.slice none 0 0, Value.bool false, Value.pointer (some ⟨w.heap.size, 0, none⟩), Value.pointer (some ⟨w.heap.size + 1, 0, none⟩), Value.func (Fn.func 76) #[] #[Value.pointer (some ⟨w.heap.size + 1 + 1, 0, none⟩)], Value.string ⟨p.1.name.toArray⟩, Value.string ⟨(Sp.print p.1).toArray⟩, undef, undef, Value.pointer (some ⟨x, 0, none⟩), Value.pointer (some ⟨x, 0, none⟩), Value.pointer (some ⟨x, 1, none⟩), Value.pointer (some ⟨s, 0, none⟩), Value.func (Fn.func 76) #[] #[Value.pointer (some ⟨w.heap.size + 1 + 1, 0, none⟩)], Value.func (Fn.func 76) #[] #[Value.pointer (some ⟨w.heap.size + 1 + 1, 0, none⟩)], Value.string ⟨p.1.name.toArray⟩, Value.string ⟨(Sp.print p.1).toArray⟩, undef, undef, undef, undef, undef, undef, undef, undef, undef, undef, undef, undef, undef, undef, undef, undef, undef, undef, undef, undef, undef, undef, undef, undef, undef, undef, undef, undef, undef, undef, undef, undef, undef, undef, undef, undef, undef, undef, undef, undef], defers := [] }) ?assign ?body ?done ?stop
  case assign =>
    intro l p W K hK
    unfold encs
    gi_wp2
    exact hK
  case body =>
    rintro l pre p W ⟨⟨⟨v, hv, hrow, _⟩, hok, hbx⟩, hB⟩ hlen
    have hco := hok.cell
    have hfo := hok.frozen
    have hlo := hok.lt
    obtain ⟨N, T, hN, hT, f1, f2, f3, f4, f5⟩ := told p.2
    rw [← hN, ← hT]
    have HN := Lib.hid hN
    have HT := Lib.hid hT
    clear hN hT
    have hc1 := hv.cell
    have hl1 := hv.lt
    have hzW := hB.size
    have hlen2 : pre.length < 60000 := by rw [(V8.byName_perm HS.out).length_eq] at hlen; unfold pks at hlen; rw [List.length_map] at hlen; omega
    have hv2 : Boxed (W.setCell ⟨w.heap.size + 1, 0, none⟩ (.bool true)) w.heap.size 38 v := hv.other (by omega) _
    have ho2 : Boxed (W.setCell ⟨w.heap.size + 1, 0, none⟩ (.bool true)) (w.heap.size + 1) 4 (.bool true) := hok.set _
    have hrow2 : (W.setCell ⟨w.heap.size + 1, 0, none⟩ (.bool true)).ownsRow w.heap.size 9 1 v pre.length (prints pre) := hrow.kept (grownBy_setCell' W (w.heap.size + 1) (.bool true)) (.inr (hok.not_row (by decide) hrow).symm)
    have hz2 : (W.setCell ⟨w.heap.size + 1, 0, none⟩ (.bool true)).heap.size = W.heap.size := by simp [World.setCell]
    have hnews : ∀ (j : Nat) (u : Value), ([.string T] : List Value)[j]? = some u → ((W.setCell ⟨w.heap.size + 1, 0, none⟩ (.bool true)).alloc (.cells #[.string T] 9)).cell? ((⟨W.heap.size, 0, none⟩ : Addr).add j) = some u := by
      have := cell_one_new (W.setCell ⟨w.heap.size + 1, 0, none⟩ (.bool true)) (.string T) 9
      rw [hz2] at this
      exact this
    have HNEWS := Lib.hid hnews
    clear hnews
    have HZ2' := Lib.hid hz2
    have HROW2 := Lib.hid hrow2
    have HV := Lib.hid hv
    have HOK := Lib.hid hok
    have HBX := Lib.hid hbx
    have hx2 : Boxed (W.setCell ⟨w.heap.size + 1, 0, none⟩ (.bool true)) (w.heap.size + 1 + 1) 92 (.pointer (some ⟨s, 0, none⟩)) := hbx.other (by omega) _
    have HX2 := Lib.hid hx2
    have HO2 := Lib.hid ho2
    have HV2 := Lib.hid hv2
    have HBB := Lib.hid hB
    have hRv : rowOf W w.heap.size = v.ownBlock := by unfold rowOf; rw [hc1]; rfl
    have HRV := Lib.hid hRv
    clear hrow2 hz2 hv hok hrow hB hRv ho2 hv2 hlen hbx hx2
    gi_wp2_with (gi_at_builtin; refine wpListIn_append_own_at _ rfl _ _ 38 rfl w.heap.size 9 i0 (.string ⟨#[]⟩) 1 16 Tryz.underlying38 HI0.out HZ0.out HZ1.out HZ2.out rfl (by decide) _ _ _ rfl (HROW2.out.alloc _) ⟨W.heap.size, 0, none⟩ 1 1 [.string T] rfl rfl HNEWS.out (by simp [Value.oneCell']) (by unfold maxLen; omega) (by omega) (by simp [World.setCell]; omega) ?_; intro v' w1 hown' hgrow _ hloc; obtain ⟨g', cap', rfl⟩ := ownsRow_succ hown'; obtain ⟨hv1, hv3, hr3, hk3, hb3⟩ := HV2.out.appended (by decide) HROW2.out (by rw [HZ2'.out]; omega) (Nat.le_refl _) hown' hgrow; have hc3 := hv1.cell; have hf3 := hv1.frozen)
    have hnr : ∀ (b : Nat) (ty : TypeId) (u : Value), ty ≠ 9 → Boxed (W.setCell ⟨w.heap.size + 1, 0, none⟩ (.bool true)) b ty u → some b ≠ v.ownBlock := fun b ty u hty hb => hb.not_row hty HROW2.out
    have ho4 : Boxed (w1.setCell ⟨w.heap.size, 0, none⟩ (.slice (some ⟨g', 0, none⟩) (pre.length + 1) cap')) (w.heap.size + 1) 4 (.bool true) := ((HO2.out.alloc (.cells #[.string T] 9)).kept hgrow (hnr _ 4 _ (by decide) HO2.out)).other (by omega) _
    have hx4 : Boxed (w1.setCell ⟨w.heap.size, 0, none⟩ (.slice (some ⟨g', 0, none⟩) (pre.length + 1) cap')) (w.heap.size + 1 + 1) 92 (.pointer (some ⟨s, 0, none⟩)) := ((HX2.out.alloc (.cells #[.string T] 9)).kept hgrow (hnr _ 92 _ (by decide) HX2.out)).other (by omega) _
    have hlow : Below w.heap.size W (w1.setCell ⟨w.heap.size, 0, none⟩ (.slice (some ⟨g', 0, none⟩) (pre.length + 1) cap')) := ((Below.refl w.heap.size W).setCell (p := ⟨w.heap.size + 1, 0, none⟩) (by show w.heap.size ≤ w.heap.size + 1; omega) (.bool true)).trans hb3
    have hpr : prints (pre ++ [p]) = prints pre ++ [.string T] := by unfold prints; rw [List.map_append, HT.out]; rfl
    refine ⟨(KeepsOthers.setCell W ⟨w.heap.size + 1, 0, none⟩ (.bool true)).trans hk3, ⟨hlow, fun k hk h1 h2 h3 h4 => ?_, ?_⟩, ⟨⟨_, hv3, by rw [hpr, List.length_append]; exact hr3, trivial⟩, ho4, hx4⟩, HBB.out.trans hlow⟩
    · rw [HRV.out] at h3
      refine (Below.heap_setCell _ _ _ _ (show k ≠ w.heap.size from h1)).trans ((hgrow.block k (by rw [World.size_alloc, HZ2'.out]; omega) fun e => h3 e.symm).trans ((Below.heap_alloc _ _ _ (by rw [HZ2'.out]; exact hk)).trans (Below.heap_setCell _ _ _ _ (show k ≠ w.heap.size + 1 from h2))))
    · have hr' : rowOf (w1.setCell ⟨w.heap.size, 0, none⟩ (.slice (some ⟨g', 0, none⟩) (pre.length + 1) cap')) w.heap.size = some g' := by unfold rowOf; rw [hv3.cell]; rfl
      rw [hr', HRV.out]
      rcases hloc with h5 | h5
      · exact .inl h5
      · right
        intro g hg
        have e1 : g' = g := Option.some.inj hg
        have e2 : g' = ((W.setCell ⟨w.heap.size + 1, 0, none⟩ (.bool true)).alloc (.cells #[.string T] 9)).heap.size := Option.some.inj h5
        rw [World.size_alloc, HZ2'.out] at e2
        omega
  case done =>
    rintro D ys W hD hys ⟨⟨⟨v, hv, hrow, _⟩, hok, hbx⟩, hB⟩ hK
    have hpt : prints ys = ((V8.byName (pks L)).map Sp.print).map sv := by
      have hys' : ys.map (·.1) = V8.byName (pks L) := hys
      rw [← hys', List.map_map, List.map_map]; rfl
    have hyl : ys.length = (V8.byName (pks L)).length := by
      have hys' : ys.map (·.1) = V8.byName (pks L) := hys
      rw [← hys', List.length_map]
    rw [hpt] at hrow
    obtain ⟨la, lc, rfl, hcell⟩ := row_strs hrow (by rw [List.length_map]; exact hyl)
    have hDl : D < W.heap.size := (Array.getElem?_eq_some_iff.1 hK).1
    have hzB := hB.size
    have bK := Boxed.new W 3 (.int .i64 0)
    have bN := Boxed.new (W.alloc (.cells #[.int .i64 0] 3)) 4 (.bool false)
    rw [World.size_alloc] at bN
    have bK2 := bK.alloc (.cells #[.bool false] 4)
    have hAA : Below W.heap.size W ((W.alloc (.cells #[.int .i64 0] 3)).alloc (.cells #[.bool false] 4)) := ((Below.refl _ _).alloc (Nat.le_refl _) _).alloc (by simp) _
    have hl2 := (hv.alloc (.cells #[.int .i64 0] 3)).alloc (.cells #[.bool false] 4)
    have hok2 := (hok.alloc (.cells #[.int .i64 0] 3)).alloc (.cells #[.bool false] 4)
    have hbx2 := (hbx.alloc (.cells #[.int .i64 0] 3)).alloc (.cells #[.bool false] 4)
    have hz2 : ((W.alloc (.cells #[.int .i64 0] 3)).alloc (.cells #[.bool false] 4)).heap.size = W.heap.size + 2 := by simp
    have hBl : w.heap.size + 1 + 1 < W.heap.size := hbx.lt
    have hol : w.heap.size + 1 < W.heap.size := hok.lt
    have hnt : ∀ k, k < W.heap.size → k ≠ w.heap.size + 1 → ¬ three (w.heap.size + 1) (W.heap.size + 1) W.heap.size k := fun k hk hne h => by
      rcases h with h | h | h <;> omega
    have hset2 : SetOn (fun b => b < w.heap.size) ((W.alloc (.cells #[.int .i64 0] 3)).alloc (.cells #[.bool false] 4)) mb L := (HSET.out.keep (hB.block mb hml) fun y hy => hB.block y hy).keep (hAA.block mb (by omega)) fun y hy => hAA.block y (by omega)
    have hgn := gone (S := fun b => b < w.heap.size) (w := (W.alloc (.cells #[.int .i64 0] 3)).alloc (.cells #[.bool false] 4)) (Bo := w.heap.size + 1) (Bn := W.heap.size + 1) (Bk := W.heap.size) (Bl := w.heap.size) (Bx := w.heap.size + 1 + 1) (s := s) (mb := mb) (lc := lc) (la := la) (L := L) (ys := V8.byName (pks L)) rfl HS.out hL' hok2 bN bK2 (by rw [← hyl]; exact hl2)
      ⟨by omega, by omega, by omega, by omega, by omega, by omega⟩
      (fun j hj => by
        obtain ⟨b, off, e1, e2, e3, e4⟩ := hcell j (by rw [List.length_map]; exact hj)
        refine ⟨b, off, e1, by omega, hnt b e2 fun e => hok.not_row (by decide) hrow (by rw [e3, e]), ?_⟩
        rw [hAA.cell (p := ⟨b, off + j, none⟩) e2, e4]
        simp only [List.getElem_map])
      hbx2.cell ⟨by omega, hnt _ hBl (by omega)⟩ (((hAA.cell (p := ⟨s, 2, none⟩) (show s < W.heap.size by omega)).trans (hB.cell (p := ⟨s, 2, none⟩) hsl)).trans d2) ⟨by omega, hnt s (by omega) (by omega)⟩ hset2
      (fun y hy => by
        have : y < w.heap.size := by
          rcases hy with hy | rfl
          · exact hy
          · exact hml
        exact ⟨by omega, hnt y (by omega) (by omega)⟩)
    have HNB := Lib.hid (hok.not_row (by decide) hrow)
    have HGN := Lib.hid hgn
    have HROW := Lib.hid hrow
    have HK := Lib.hid hK
    have HB := Lib.hid hB
    have HAA := Lib.hid hAA
    have HV := Lib.hid hv
    have HNT := Lib.hid hnt
    have HYL := Lib.hid hyl
    have hzza := Nat.le_of_eq hz2
    have hzzb := Nat.le_of_eq hz2.symm
    clear hgn hrow hK hB hAA hv hok hbx bK bN bK2 hl2 hok2 hbx2 hz2 hset2 hcell hnt hyl hpt hys
    gi_wp2_with (refine ⟨trivial, ?_⟩; gi_at_call 76; refine (callsIn_wide.2 HGN.out).mono ?_; rintro e w5 ⟨rfl, hch5, hok5⟩)
    have hz5 := hch5.size
    have hv5 : Boxed w5 w.heap.size 38 (.slice la ys.length lc) := boxed_chg ((HAA.out.block w.heap.size (by omega)).trans HV.out) hch5 (HNT.out _ (by omega) (by omega))
    have hK5 : w5.heap[D]? = some (.deferred (some [])) := (hch5.block D (by omega) (HNT.out D hDl (by omega))).trans ((HAA.out.block D hDl).trans HK.out)
    have c5 := hv5.cell
    have c6 := hok5.cell
    have hb5 : Below w.heap.size w w5 := (HB.out.trans (HAA.out.mono (by omega))).trans ⟨hch5.os, hch5.tape, hch5.output, hch5.size, fun k hk => hch5.block k (by omega) (HNT.out k (by omega) (by omega))⟩
    have hrow5 : w5.ownsRow w.heap.size 9 1 (.slice la ys.length lc) ys.length (((V8.byName (pks L)).map Sp.print).map sv) := own_keep HROW.out fun g hg => by
      obtain ⟨h1, h2⟩ := HROW.out.lt g hg
      exact (hch5.block g (by omega) (HNT.out g h2 fun e => HNB.out (by rw [hg, e]))).trans (HAA.out.block g h2)
    have HB5 := Lib.hid hb5
    have HROW5 := Lib.hid hrow5
    have HK5 := Lib.hid hK5
    clear hch5 hv5 hok5 hb5 hrow5 hK5
    gi_region
    all_goals gi_wp2
    have hKd : w5.drew.heap[D]? = some (.deferred (some [])) := HK5.out
    refine ⟨by simp, .inl ⟨_, _, rfl, run_takeDeferred hKd, ?_⟩⟩
    have hrd : w5.drew.ownsRow w.heap.size 9 1 (.slice la ys.length lc) ys.length (((V8.byName (pks L)).map Sp.print).map sv) := own_keep HROW5.out fun _ _ => rfl
    have hrp := ownsRow_putObj hrd (.deferred none) hKd rfl
    have hyl2 : ys.length = ((V8.byName (pks L)).map Sp.print).length := by rw [List.length_map]; exact HYL.out
    refine ⟨_, results_tmp2 rfl _ _ _, _, rfl, ?_, HB5.out.drew.trans (belowK_b (w := w0) (by omega) w5.drew D _ _ (by omega) hKd rfl rfl)⟩
    rw [← HE.out, V8.texts_byName]
    refine StrsFrom.of_row (B := w.heap.size) (e := 9) ?_ (Nat.le_refl _)
    rw [← hyl2]
    exact hrp
  case stop =>
    rintro D c pre W _ _ h _
    exact h.elim
end PK
end Go.Proofs.YtfphcecjhdkcoaaGreatDoor
/-
Plain: a program installs at all.
-/
namespace Go.Proofs.YtfphcecjhdkcoaaGreatDoor
namespace V13
open Sp (Str Pk Dk St)
def oneP : Pk := { name := [97], ver := [49], needs := [], bars := [], files := [⟨[120], [49]⟩] }
def one : Str := [112, 97, 99, 107, 97, 103, 101, 32, 97, 32, 49, 10, 102, 105, 108, 101, 32, 120, 61, 49]
theorem one_print : Sp.print oneP = one := by rfl
theorem one_good : V3.Good oneP := by
  refine ⟨⟨by decide, by decide, by decide, (fun g hg => by cases hg), by decide, (fun c hc => by cases hc), by decide, fun f hf => ?_, by decide⟩, ?_, by rw [one_print]; decide⟩
  · rw [show oneP.files = [⟨[120], [49]⟩] from rfl, List.mem_singleton] at hf
    subst hf
    exact ⟨by decide, by decide, by decide⟩
  · unfold P3.Ord oneP; exact List.pairwise_singleton _ _
theorem one_planned : Sp.planned [] [one] = .inr ([oneP], [[97]]) := by
  have hp : Sp.parse one = .inr oneP := by rw [← one_print]; exact V3.parse_print one_good
  refine V9.planned_iff.2 ⟨[oneP], ?_, ?_, ?_⟩
  · simp [Sp.readAll, hp]
  · rfl
  · exact V9.judged_iff.2 ⟨by decide +kernel, by decide +kernel, by decide +kernel, by rfl, by decide +kernel⟩
theorem one_installs : ((St.new 20).install [one]).1 = Sp.okF ∧ Sp.texts ((St.new 20).install [one]).2.L = [one] := by
  obtain ⟨h1, h2, h3⟩ := V11.new_sure (S := 20) ⟨by decide, by decide⟩
  have hp : Sp.planned (St.new 20).L [one] = .inr ([oneP], [[97]]) := by rw [h3]; exact one_planned
  obtain ⟨e, _, _⟩ := V10.install_yes h1.live (by rw [h2]; decide) hp (by decide)
  rw [e]
  refine ⟨rfl, ?_⟩
  have hb : ((St.new 20).become [oneP]).L = [oneP] := by unfold St.become; split <;> rfl
  show Sp.texts ((St.new 20).become [oneP]).L = [one]
  rw [hb, ← one_print]
  decide +kernel
end V13
end Go.Proofs.YtfphcecjhdkcoaaGreatDoor
/-
The walk of the statements' 'anchored': a program installs at all.
-/
namespace Go.Proofs.YtfphcecjhdkcoaaGreatDoor
open Go.RowKit Go.Maps
/-- What a walk asks of the variables. -/
structure Wd (G : Nat) (w : World) : Prop where
  glob : Glob G w
  err : ErrT w
theorem Wd.keep {G : Nat} {w w' : World} (h : Wd G w) (hb : Below w.heap.size w w') : Wd G w' :=
  ⟨h.glob.keep hb, h.err.keep hb (by have := h.glob.size; have := h.glob.six; omega)⟩
theorem Wd.from {G B : Nat} {w w' : World} (h : Wd G w) (hb : Below B w w') (hB : G ≤ B) : Wd G w' :=
  ⟨h.glob.below hb hB, (hb.cell (p := ⟨0, 0, none⟩) (by have := h.glob.six; show 0 < B; omega)).trans h.err⟩
theorem fit_of_live {S : Nat} {x : Sp.St} (h : V10.Live S x) (hl : x.last + 1 < 18446744073709551616) : Fit x :=
  ⟨h.ok, by rw [h.seen]; exact h.big.1, by rw [h.seen]; exact h.room, hl, by rw [h.calm.late]; decide⟩
/-- A slice of one text, just built. -/
theorem strs_one (w : World) (t : ByteArray) : StrsAt (w.alloc (.cells #[.string t] 9)) (.slice (some ⟨w.heap.size, 0, none⟩) 1 1) [bl t] := by
  refine ⟨some ⟨w.heap.size, 0, none⟩, 1, rfl, Nat.le_refl _, fun k y hk => ?_⟩
  cases k with
  | zero =>
    have hy : y = [sv (bl t)] := by simpa using hk.symm
    subst hy
    refine ⟨w.heap.size, 0, rfl, by simp, fun j u hj => ?_⟩
    cases j with
    | zero =>
      have hu : u = sv (bl t) := by simpa using hj.symm
      subst hu
      rw [World.cell?_alloc_at _ _ _ _ rfl]
      unfold sv; rw [mk_bl]; rfl
    | succ j => simp at hj
  | succ k => simp at hk
set_option maxRecDepth 100000 in
set_option maxHeartbeats 2000000 in
theorem anchored_any {G : Nat} {w : World} (hw : Wd G w) : Calls Tryz.prog 19 #[] w fun e w' => e = .returned (.bool true) ∧ Below w.heap.size w w' := by
  have hGz := hw.glob.size
  have hne := sesNew_any hw.glob 20
  have hs20 : secs 20 = 20 := by decide
  rw [hs20] at hne
  obtain ⟨hsure, hlast, _⟩ := V11.new_sure (S := 20) ⟨by decide, by decide⟩
  obtain ⟨i1, i2⟩ := V13.one_installs
  have hfit := fit_of_live hsure.live (by rw [hlast]; decide)
  obtain ⟨hsure2, hlast2⟩ := V11.install_sure hsure (by rw [hlast]; decide) [V13.one]
  have HNE := Lib.hid hne
  have HW := Lib.hid hw
  have HI1 := Lib.hid i1
  have HI2 := Lib.hid i2
  have HFIT := Lib.hid hfit
  have HS2 := Lib.hid hsure2
  clear hne hw i1 i2 hfit hsure hlast hsure2 hlast2 hs20
  go_enter Tryz.func19, Tryz.ntmps19
  go_wp2_with fail
  refine HNE.out.mono ?_
  rintro e w1 ⟨x, rfl, hb1, hses⟩
  have hz1 := hb1.size
  have hbA : Below w1.heap.size w1 ((w1.alloc (.cells #[.int .i64 0, .int .i64 0, .int .i64 0, .string ⟨#[]⟩] 23)).alloc (.cells #[.string ⟨#[112, 97, 99, 107, 97, 103, 101, 32, 97, 32, 49, 10, 102, 105, 108, 101, 32, 120, 61, 49]⟩] 9)) := ((Below.refl _ _).alloc (Nat.le_refl _) _).alloc (by simp) _
  have hst := strs_one (w1.alloc (.cells #[.int .i64 0, .int .i64 0, .int .i64 0, .string ⟨#[]⟩] 23)) ⟨#[112, 97, 99, 107, 97, 103, 101, 32, 97, 32, 49, 10, 102, 105, 108, 101, 32, 120, 61, 49]⟩
  rw [World.size_alloc] at hst
  have hin := sesInstall_any ((HW.out.keep hb1).keep hbA).glob ((HW.out.keep hb1).keep hbA).err (O := fun k => w.heap.size ≤ k) (fun k hk => by have : w.heap.size ≤ k := hk; omega) (hses.below hbA) HFIT.out _ [V13.one] hst (by decide)
  rw [HI1.out] at hin
  have HIN := Lib.hid hin
  have HB1 := Lib.hid (hb1.trans (hbA.mono hz1))
  clear hin hst hses hb1 hbA
  unfold faultV sv Sp.okF
  go_wp2_with fail
  refine HIN.out.mono ?_
  rintro e w2 ⟨rfl, hch, hses2⟩
  have hbw : Below w.heap.size w w2 := HB1.out.trans (hch.below (B := w.heap.size) HB1.out.size fun k hk => hk)
  have hz2 := hbw.size
  have hbC : Below w2.heap.size w2 (w2.alloc (.cells #[.int .i64 0, .int .i64 0, .int .i64 0, .string ⟨#[]⟩] 23)) := (Below.refl _ _).alloc (Nat.le_refl _) _
  have hpk := PK.packages_any (hses2.below hbC) HS2.out.live.ok.set (by
    have h1 := V8.size_count HS2.out.live.ok.set.good
    have h2 := HS2.out.live.room
    have h3 : Sp.room 20 = 288 := by decide
    omega)
  rw [HI2.out] at hpk
  have HPK := Lib.hid hpk
  have HB2 := Lib.hid (hbw.trans (hbC.mono hz2))
  have c0 : (w2.alloc (.cells #[.int .i64 0, .int .i64 0, .int .i64 0, .string ⟨#[]⟩] 23)).cell? ⟨w2.heap.size, 0, none⟩ = some (.int .i64 0) := by rw [World.cell?_alloc_at _ _ _ _ rfl]; rfl
  have hl0 : w2.heap.size < (w2.alloc (.cells #[.int .i64 0, .int .i64 0, .int .i64 0, .string ⟨#[]⟩] 23)).heap.size := by simp
  clear hpk hch hses2 hbw hbC
  unfold faultV sv Sp.okF
  go_wp2_with fail
  generalize (w2.alloc (.cells #[.int .i64 0, .int .i64 0, .int .i64 0, .string ⟨#[]⟩] 23)) = w3 at *
  refine HPK.out.mono ?_
  rintro e w4 ⟨v, rfl, hv, hb4⟩
  obtain ⟨va, vc, rfl, hvc, hvg⟩ := hv.get
  obtain ⟨b, off, rfl, _, hbl, hc⟩ := hvg 0 (by decide)
  have c4 := (hb4.cell (p := ⟨w2.heap.size, 0, none⟩) hl0).trans c0
  have hc' : w4.cell? ⟨b, off, none⟩ = some (.string ⟨#[112, 97, 99, 107, 97, 103, 101, 32, 97, 32, 49, 10, 102, 105, 108, 101, 32, 120, 61, 49]⟩) := hc
  have hln : [V13.one].length = 1 := rfl
  rw [hln] at hvc ⊢
  have HB4 := Lib.hid (HB2.out.trans (hb4.mono HB2.out.size))
  clear hv hvg hc hb4 hln
  go_wp2
  go_ret
  exact ⟨rfl, HB4.out⟩
end Go.Proofs.YtfphcecjhdkcoaaGreatDoor
/-
The walk of the law Formed.
-/
namespace Go.Proofs.YtfphcecjhdkcoaaGreatDoor
open Go.RowKit Go.Maps
set_option maxRecDepth 100000 in
set_option maxHeartbeats 1000000 in
theorem formed_any {G : Nat} (s : ByteArray) (w : World) (hw : Wd G w) : Calls Tryz.prog 4 #[.string s] w fun e w' => e = .returned (.bool true) ∧ Below w.heap.size w w' := by
  by_cases hbig : 4096 < s.size
  · clear hw
    go_enter Tryz.func4, Tryz.ntmps4
    go_wp2
    go_ret
    exact ⟨rfl, Below.refl _ _⟩
  · have han := anchored_any hw
    have HAN := Lib.hid han
    have HW := Lib.hid hw
    clear han hw
    cases hp : Sp.parse (bl s) with
    | inl n =>
      have HP := Lib.hid hp
      clear hp
      go_enter Tryz.func4, Tryz.ntmps4
      go_wp2_with fail
      refine HAN.out.mono ?_
      rintro e w1 ⟨rfl, hb1⟩
      have hw1 := HW.out.keep hb1
      have hrd := plainRead_none s n w1 hw1.glob hw1.err HP.out
      have HRD := Lib.hid hrd
      have HB1 := Lib.hid hb1
      clear hrd hb1 hw1
      go_wp2_with fail
      refine HRD.out.mono ?_
      rintro e w2 ⟨rfl, hb2⟩
      have HB2 := Lib.hid (HB1.out.trans (hb2.mono HB1.out.size))
      clear hb2
      go_wp2
      go_ret
      exact ⟨rfl, HB2.out.trans (((Below.refl _ _).alloc (Nat.le_refl _) _).mono HB2.out.size)⟩
    | inr p =>
      obtain ⟨hg, hlen⟩ := V3.parse_good hp
      have hpp := V3.parse_print hg
      have hne := print_ne p
      have HP := Lib.hid hp
      have HPP := Lib.hid hpp
      have hbl : (bl s).length = s.size := bl_len s
      rw [hbl] at hlen
      have hlen2 : ((Sp.print p).length : Int) ≤ (s.size : Int) := by omega
      clear hp hpp hbl
      go_enter Tryz.func4, Tryz.ntmps4
      go_wp2_with fail
      refine HAN.out.mono ?_
      rintro e w1 ⟨rfl, hb1⟩
      have hw1 := HW.out.keep hb1
      have hrd := plainRead_some s p w1 hw1.glob HP.out
      have HRD := Lib.hid hrd
      have HB1 := Lib.hid hb1
      have HW1 := Lib.hid hw1
      clear hrd hb1 hw1
      go_wp2_with fail
      refine HRD.out.mono ?_
      rintro e w2 ⟨rfl, hb2⟩
      have hbA : Below w2.heap.size w2 (w2.alloc (.cells #[.int .i64 0, .int .i64 0, .int .i64 0, .string ⟨#[]⟩] 23)) := (Below.refl _ _).alloc (Nat.le_refl _) _
      have hw2 := (HW1.out.keep hb2).keep hbA
      have hrd2 := plainRead_some ⟨(Sp.print p).toArray⟩ p _ hw2.glob (by rw [bl_mk]; exact HPP.out)
      have HRD2 := Lib.hid hrd2
      have hb2' := HB1.out.trans (hb2.mono HB1.out.size)
      have HB2 := Lib.hid (hb2'.trans (hbA.mono hb2'.size))
      clear hrd2 hb2 hbA hw2 hb2'
      unfold sv
      go_wp2_with fail
      refine HRD2.out.mono ?_
      rintro e w3 ⟨rfl, hb3⟩
      have HB3 := Lib.hid (HB2.out.trans (hb3.mono HB2.out.size))
      clear hb3
      unfold sv
      go_wp2
      go_ret
      exact ⟨rfl, HB3.out.trans (((Below.refl _ _).alloc (Nat.le_refl _) _).mono HB3.out.size)⟩
end Go.Proofs.YtfphcecjhdkcoaaGreatDoor
namespace Go.Proofs.YtfphcecjhdkcoaaGreatDoor
open Go.ChangeShapes Go.WideShapes Go.ChangeAt Go.RowKit
open Go.ChangeMaps (shut_map_nil open_string shut_string keptBut_setBlock frozen?_setBlock heap_setBlock_same)
set_option maxRecDepth 100000 in
theorem formed_lifted (os : Os) (started : os.Started) (H : Type) (enc : TypeId × Value → H) :
    ReturnsInHanded {} Tryz.checked os 4 .any (fun w args => (Rows.formedSpec.pre enc Tryz.prog Tryz.f4 [] false w args ∧ laidMetH Tryz.prog LL w) ∧ sizedMet enc Tryz.prog Tryz.f4 (OpenSpec.ofChange Rows.formedSpec) false w args)
      (Rows.formedSpec.post enc Tryz.prog Tryz.f4 false true false false) := by
  refine wrap_shaped (C := Tryz.checked) (X := fun w _ => laidMetH Tryz.prog LL w) (fun _ _ _ hh h => h.of_heap hh) own started (by kernel_rfl) Tryz.func4
    (ChangeSpec.witness_shaped (enc := enc) (C := Tryz.checked) (os := os) (X := fun w _ => laidMetH Tryz.prog LL w) false (laidW os) #[.string ⟨#[]⟩] 8 (laidW_os os) (laidW_shaped os _) (by kernel_rfl) (by kernel_rfl) (by kernel_rfl) (laidW_met os _)) ?_
  intro W base args ds gs before hval0 hW hL hsh
  have hval : ∀ (j : Nat) t v, Tryz.f4.params[j]? = some t → args[j]? = some v → Value.okWide Tryz.prog W .any base t v := hval0
  have hW' := hW
  obtain ⟨p, q, hA0, hV, rfl, hfz, hnd⟩ := hW
  have hA : DataW.TrodAll enc Tryz.prog W 0 (fun _ => true) true Tryz.f4.params.toList args.toList ds p := hA0
  rw [Tryz.params4] at hA hval
  obtain ⟨v0, d0, rfl, rfl, h0⟩ := trodAll_one hA
  obtain ⟨rfl, rfl⟩ := trodVars_none hV
  obtain ⟨s, rfl, rfl, rfl, hs⟩ := open_string Tryz.underlying9 (hval 0 9 v0 rfl rfl) h0
  have hG := glob_of_laid hL hsh
  have hE := errT_of_laid hL
  clear hA0 hval0
  simp only [List.append_nil] at hW'
  refine (formed_any s W ⟨hG, hE⟩).mono fun e W' ⟨he, hb⟩ => ?_
  subst he
  have e1 : Rows.formedSpec.fn H ([.lit (.string s.data.toList)] ++ []) = { results := [.lit (.bool true)], args := [.lit (.string s.data.toList)] } := by simp [Rows.formedSpec]
  refine ⟨_, rfl, _, _, _, [], [], [], hW', ?_, ?_, ?_, hb.frame _, fun h => by cases h⟩
  · rw [e1]; exact trodAll_mk1 (shut_bool Tryz.underlying4 true)
  · rw [e1]; exact trodAll_mk1 (shut_string Tryz.underlying9 hs)
  · rw [e1]; rfl
theorem formed_holds : Rows.FormedSaid :=
  OpenClaim.holds_of_wide 4 Tryz.f4 rfl rfl rfl rfl rfl rfl rfl ⟨rfl, rfl, rfl, rfl, rfl⟩ rfl rfl rfl rfl rfl f4fun Tryz.func4 f4facts
    f4inst f4wrap
    (fun os started H enc _ => formed_lifted os started H enc)
theorem formed_card_holds : Rows.FormedCardSaid :=
  Claim7.holds_tied_plain_at .later [] [.data, .handle, .widerDeep, .pinned, .pinned] true (true, "f4aca273a0232dad4aecb962fc8083af1ff484613bfe0ce246a95e4460c1fc5b") true
    formed_holds (fun _ h => by cases h) (by kernel_rfl) (fun _ h => by cases h) formed_row_tie rfl ⟨rfl, rfl⟩ (by kernel_rfl) rfl
    (fun f fn hf hfn => by
      obtain rfl : f = 4 := Option.some.inj ((show Tryz.prog.funcNamed "parcels/parcelskeep.Formed" = some 4 by kernel_rfl).symm.trans hf) |>.symm
      obtain rfl : fn = Tryz.f4 := (Option.some.inj (Tryz.func4.symm.trans hfn)).symm
      exact ⟨by kernel_rfl, fun j t ht => by
        rw [Tryz.params4] at ht
        have hm : t ∈ [9] := by simpa using Array.mem_of_getElem? ht
        have hall : ([9].all fun u => !Tryz.prog.wantsStandIn u) = true := by kernel_rfl
        exact (show Tryz.prog.wantsStandIn t = false by simpa using List.all_eq_true.1 hall t hm)⟩)
    (by kernel_rfl)
end Go.Proofs.YtfphcecjhdkcoaaGreatDoor

/-
The walk of the law Forms.
-/
import Derived.Test.YtfphcecjhdkcoaaGreatDoorFormsP08
import Derived.Test.YtfphcecjhdkcoaaGreatDoorFormsP14
import Derived.Deep.DeepCutAuto
/-
The walk of the reference's Print.
-/
namespace Go.Proofs.YtfphcecjhdkcoaaGreatDoor
open Go.RowKit
namespace R15
def needsText (p : Sp.Pk) (k : Nat) : Sp.Str := if k = 0 then [] else [10, 110, 101, 101, 100, 115, 32] ++ Lib.join ((p.needs.take k).map groupText) [44, 32]
theorem needs_next (p : Sp.Pk) (k : Nat) (h : k < p.needs.length) : needsText p (k + 1) = if k = 0 then [10, 110, 101, 101, 100, 115, 32] ++ groupText p.needs[k] else needsText p k ++ [44, 32] ++ groupText p.needs[k] := by
  unfold needsText
  rw [if_neg (by omega), List.take_succ_eq_append_getElem h, List.map_append, List.map_cons, List.map_nil, R14.join_snoc]
  by_cases hk : k = 0
  · subst hk; simp
  · have : ((p.needs.take k).map groupText).isEmpty = false := by
      rw [List.isEmpty_eq_false_iff]; intro e
      have := congrArg List.length e
      rw [List.length_map, List.length_take] at this
      simp only [List.length_nil] at this
      omega
    rw [this, if_neg hk, if_neg hk]; simp
theorem needs_all (p : Sp.Pk) : head0 p ++ needsText p p.needs.length = head1 p := by
  unfold needsText head1
  rw [List.take_length]
  cases h : p.needs with
  | nil => rfl
  | cons a r => rfl
theorem needs_len (p : Sp.Pk) (hok : PkOk p) (k : Nat) : (needsText p k).length ≤ 10000 := by
  have hjl := W8.join_bound [44, 32] 3039 3 ((p.needs.take k).map groupText) (fun x hx => by obtain ⟨g, hg, rfl⟩ := List.mem_map.1 hx; exact groupText_len g (hok.groups g (List.mem_of_mem_take hg)).1 (hok.groups g (List.mem_of_mem_take hg)).2) (by rw [List.length_map, List.length_take]; have := hok.needs; omega)
  have hjl2 : (Lib.join ((p.needs.take k).map groupText) [44, 32]).length ≤ 9200 := Nat.le_trans hjl (by decide)
  unfold needsText
  split
  · simp
  · rw [List.length_append]
    show 7 + _ ≤ _
    omega
end R15
set_option maxRecDepth 100000 in
set_option maxHeartbeats 1000000 in
theorem printR_any (p : Sp.Pk) (nv bv fv : Value) (w : World) (hok : PkOk p) (g0 : GsOn (fun x => x < w.heap.size) w nv p.needs) (g1 : ChOn (fun x => x < w.heap.size) w bv p.bars) (g2 : FlOn (fun x => x < w.heap.size) w fv p.files) :
    Calls Tryz.prog 18 #[.agg #[sv p.name, sv p.ver, nv, bv, fv]] w fun e w' => e = .returned (sv (Sp.print p)) ∧ Below w.heap.size w w' := by
  obtain ⟨na, nc, rfl, hnc, gn⟩ := g0.get
  obtain ⟨ba, bc, rfl, hbc, gb⟩ := g1.get
  obtain ⟨fa, fc, rfl, hfc, gf⟩ := g2.get
  have hl1 : ∀ k, (R15.needsText p k).length ≤ 10000 := fun k => R15.needs_len p hok k
  have hh0 : (head0 p).length ≤ 3000 := by have h1 := hok.name; have h2 := hok.ver; unfold head0; simp; omega
  have hh1 := head1_len p hok
  have hh2 := head2_len p hok
  have hfl : ∀ k, (files_text p k).length ≤ 10000 := fun k => files_len p hok k
  have hn3 := hok.needs
  have hb3 := hok.bars
  have hf4 := hok.files
  have hname := hok.name
  have hver := hok.ver
  have HOK := Lib.hid hok
  have G1 := Lib.hid g1
  have GN := Lib.hid gn
  have GF := Lib.hid gf
  have HL1 := Lib.hid hl1
  have HFL := Lib.hid hfl
  clear g0 g1 g2 gn gb gf hl1 hfl hok
  unfold sv
  go_enter Tryz.func18, Tryz.ntmps18
  obtain ⟨w1, hw1⟩ : ∃ w1, w1 = w.alloc (.cells #[.string ⟨p.name.toArray⟩, .string ⟨p.ver.toArray⟩, .slice na p.needs.length nc, .slice ba p.bars.length bc, .slice fa p.files.length fc] 30) := ⟨_, rfl⟩
  have hs1 : w.heap.size < w1.heap.size := by rw [hw1]; simp
  have hc1 : ∀ o, w1.cell? ⟨w.heap.size, o, none⟩ = (#[.string ⟨p.name.toArray⟩, .string ⟨p.ver.toArray⟩, .slice na p.needs.length nc, .slice ba p.bars.length bc, .slice fa p.files.length fc] : Array Value)[o]? := fun o => by rw [hw1, World.cell?_alloc_at _ _ _ _ rfl]
  have hb1 : Below w.heap.size w w1 := by rw [hw1]; exact (Below.refl _ _).alloc (Nat.le_refl _) _
  have c2 := hc1 2
  have c3 := hc1 3
  have c4 := hc1 4
  simp only [List.getElem?_toArray, List.getElem?_cons_zero, List.getElem?_cons_succ] at c2 c3 c4
  have C3 := Lib.hid c3
  have C4 := Lib.hid c4
  have HW1 := Lib.hid hw1
  clear hc1 hw1 c3 c4
  go_wp2_with fail
  rw [← HW1.out]
  go_loopw [3, 4, 5] (fun s i _ wr => ∃ k : Nat, k ≤ p.needs.length ∧ i = .int .i64 k ∧ s = .string ⟨(head0 p ++ R15.needsText p k).toArray⟩ ∧ Below w1.heap.size w1 wr) (fun _ i _ _ => p.needs.length - (intOf i).toNat)
  case atStart => exact ⟨0, Nat.zero_le _, rfl, str_eq (by simp only [bl_app]; show _ = head0 p ++ []; rw [List.append_nil]; rfl), Below.refl _ _⟩
  case round =>
    obtain ⟨k, hk, rfl, rfl, hbel⟩ := hrel
    have hlk := HL1.out k
    have d2 := ((bcell hbel).1 w.heap.size 2 hs1).trans c2
    have hsr := hbel.size
    by_cases h : k < p.needs.length
    · obtain ⟨gb, go, x, rfl, hgb, hx0, hx⟩ := GN.out k h
      have e0 := (hbel.cell (p := ⟨gb, go + k, none⟩) (show gb < w1.heap.size by omega)).trans ((hb1.cell (p := ⟨gb, go + k, none⟩) hgb).trans hx0)
      have hx' : ChOn (fun b => b < wr.heap.size) wr x p.needs[k] := (SlOn.keep (SlOn.keep hx fun b hb => hb1.block b hb) fun b hb => hbel.block b (by omega)).mono fun b hb => by omega
      have hgr := HOK.out.groups p.needs[k] (List.getElem_mem h)
      have hgl := groupText_len p.needs[k] hgr.1 hgr.2
      have HX := Lib.hid hx'
      have HGR := Lib.hid hgr
      have HNX := Lib.hid (R15.needs_next p k h)
      obtain ⟨xa, xc, rfl, _⟩ := hx'.get
      clear hx0 hx hx' hgr GN
      go_wp2_with fail
      refine (printed_any _ p.needs[k] _ wr HX.out HGR.out.1 HGR.out.2 (by decide)).mono ?_
      rintro e w2 ⟨rfl, hb2⟩
      rw [show bl ⟨#[32, 124, 32]⟩ = [32, 124, 32] from rfl]
      have hbel2 := hbel.trans (hb2.mono hsr)
      have hgl' : (groupText p.needs[k]).length ≤ 3039 := hgl
      unfold sv
      rw [show Lib.join (p.needs[k].map Sp.printC) [32, 124, 32] = groupText p.needs[k] from rfl]
      by_cases hk0 : k = 0
      · subst hk0
        have hz : (((0 : Nat) : Int) == 0) = true := by decide
        go_wp2
        go_roundw
        case rel => exact ⟨1, h, rfl, str_eq (by simp only [bl_app]; show _ = head0 p ++ R15.needsText p 1; rw [HNX.out]; simp only [if_true]; show (head0 p ++ []) ++ [10, 110, 101, 101, 100, 115, 32] ++ _ = _; simp; rfl), hbel2⟩
        case measure => simp [intOf]; omega
      · have hz : ((k : Int) == 0) = false := by rw [beq_eq_false_iff_ne]; omega
        go_wp2
        go_roundw
        case rel => exact ⟨k + 1, h, by go_num, str_eq (by simp only [bl_app]; show _ = head0 p ++ R15.needsText p (k + 1); rw [HNX.out, if_neg hk0]; show (head0 p ++ R15.needsText p k) ++ [44, 32] ++ groupText _ = _; simp), hbel2⟩
        case measure => simp [intOf]; omega
    · obtain rfl : k = p.needs.length := by omega
      rw [R15.needs_all]
      clear GN
      have hb4 : Below w.heap.size w wr := hb1.trans (hbel.mono (Nat.le_of_lt hs1))
      have d3 := ((bcell hbel).1 w.heap.size 3 hs1).trans C3.out
      have d4 := ((bcell hbel).1 w.heap.size 4 hs1).trans C4.out
      have D4 := Lib.hid d4
      clear d4
      have hgb : ChOn (fun b => b < wr.heap.size) wr (.slice ba p.bars.length bc) p.bars := (SlOn.keep (SlOn.keep G1.out fun b hb => hb1.block b hb) fun b hb => hbel.block b (by omega)).mono fun b hb => by omega
      have HGB := Lib.hid hgb
      clear hgb
      go_upto_if 41 with (fail)
      go_cut [3] (fun s wx => s = .string ⟨(head2 p).toArray⟩ ∧ Below w1.heap.size w1 wx)
      case first =>
        by_cases hne : p.bars = []
        · have H1 : Hid (head2 p = head1 p) := Lib.hid (by unfold head2; rw [hne]; simp)
          have hl0 : ¬ 0 < p.bars.length := by rw [hne]; simp
          clear hne
          go_wp2_with fail
          go_meet
          case rel => exact ⟨by rw [H1.out], hbel⟩
        · have H1 : Hid (head2 p = head1 p ++ ([10, 98, 97, 114, 115, 32] ++ Lib.join (p.bars.map Sp.printC) [44, 32])) := by
            exact Lib.hid (by unfold head2; rw [if_neg (by simpa using hne)])
          have hjl := W8.join_bound [44, 32] 1010 3 (p.bars.map Sp.printC) (fun x hx => by obtain ⟨g, hg, rfl⟩ := List.mem_map.1 hx; exact printC_len g (HOK.out.barred g hg)) (by rw [List.length_map]; exact hb3)
          have hjl2 : (Lib.join (p.bars.map Sp.printC) [44, 32]).length ≤ 10000 := Nat.le_trans hjl (by decide)
          have hl0 : 0 < p.bars.length := List.length_pos_iff.2 hne
          clear hne hjl
          go_wp2_with fail
          refine (printed_any _ p.bars _ wr HGB.out hb3 HOK.out.barred (by decide)).mono ?_
          rintro e w2 ⟨rfl, hb2⟩
          unfold sv
          rw [show bl ⟨#[44, 32]⟩ = [44, 32] from rfl]
          go_wp2_with fail
          go_meet
          case rel => exact ⟨str_eq (by rw [bl_app, bl_app]; show _ = head2 p; rw [H1.out]; exact List.append_assoc _ _ _), hbel.trans (hb2.mono hsr)⟩
      case rest =>
        obtain ⟨rfl, hbc2⟩ := hcut
        clear d2 d3 hbel hsr
        have d4 := ((bcell hbc2).1 w.heap.size 4 hs1).trans C4.out
        have hsc := hbc2.size
        clear D4
        go_wp2_with fail
        go_loopw [3, 7] (fun s i wr => ∃ k : Nat, k ≤ p.files.length ∧ i = .int .i64 k ∧ s = .string ⟨(head2 p ++ files_text p k).toArray⟩ ∧ Below w1.heap.size w1 wr) (fun _ i _ => p.files.length - (intOf i).toNat)
        case atStart => exact ⟨0, Nat.zero_le _, rfl, str_eq (by show head2 p = head2 p ++ []; rw [List.append_nil]), hbc2⟩
        case round =>
          obtain ⟨k, hk, rfl, rfl, hbel⟩ := hrel
          have hfk := HFL.out k
          have f4 := ((bcell hbel).1 w.heap.size 4 hs1).trans C4.out
          have hsr := hbel.size
          clear d4
          by_cases h : k < p.files.length
          · obtain ⟨fb, fo, rfl, hfb, x0, x1⟩ := GF.out k h
            have e0 := (hbel.cell (p := ⟨fb, fo + k * 2, none⟩) (show fb < w1.heap.size by omega)).trans ((hb1.cell (p := ⟨fb, fo + k * 2, none⟩) hfb).trans x0)
            have e1 := (hbel.cell (p := ⟨fb, fo + k * 2 + 1, none⟩) (show fb < w1.heap.size by omega)).trans ((hb1.cell (p := ⟨fb, fo + k * 2 + 1, none⟩) hfb).trans x1)
            unfold sv at e0 e1
            have hpa := HOK.out.paths p.files[k] (List.getElem_mem h)
            have HNX := Lib.hid (files_next p k h)
            clear x0 x1 GF
            go_wp2
            go_quiet (fail)
            go_wp2
            go_roundw
            case rel => exact ⟨k + 1, h, by go_num, str_eq (by simp only [bl_app]; show _ = head2 p ++ files_text p (k + 1); rw [HNX.out]; show ((((head2 p ++ files_text p k) ++ [10, 102, 105, 108, 101, 32]) ++ _) ++ [61]) ++ _ = _; unfold Sp.printF; simp; rfl), below_drewN hbel _⟩
            case measure => simp [intOf]; omega
          · obtain rfl : k = p.files.length := by omega
            clear GF
            go_wp2
            go_ret
            exact ⟨ret_str (by show head2 p ++ files_text p p.files.length = Sp.print p; rw [print_eq]; unfold files_text; rw [List.take_length]), hb1.trans (hbel.mono (Nat.le_of_lt hs1))⟩
end Go.Proofs.YtfphcecjhdkcoaaGreatDoor
namespace Go.Proofs.YtfphcecjhdkcoaaGreatDoor
open Go.RowKit
theorem forms_long (s : ByteArray) (w : World) (h : 8192 < s.size) : Calls Tryz.prog 3 #[.string s] w fun e w' => e = .returned (.bool true) ∧ Below w.heap.size w w' := by
  go_enter Tryz.func3, Tryz.ntmps3
  go_wp2
  go_ret
  exact ⟨rfl, Below.refl _ _⟩
set_option maxRecDepth 100000 in
set_option maxHeartbeats 1000000 in
theorem forms_none {G : Nat} (s : ByteArray) (n : Nat) (w : World) (hG : Glob G w) (hE : ErrT w) (h : ¬ 8192 < s.size) (hp : Sp.parse (bl s) = .inl n) : Calls Tryz.prog 3 #[.string s] w fun e w' => e = .returned (.bool true) ∧ Below w.heap.size w w' := by
  have HP := Lib.hid hp
  clear hp
  go_enter Tryz.func3, Tryz.ntmps3
  go_wp2_with fail
  refine (plainRead_none s n w hG hE HP.out).mono ?_
  rintro e w1 ⟨rfl, hb1⟩
  have hs1 := hb1.size
  go_wp2_with fail
  refine (readR_any s _).mono ?_
  rintro e w2 ⟨hb2, ⟨n', hp2, rfl⟩ | ⟨p, nv, bv, fv, hp2, _⟩⟩
  · rw [HP.out] at hp2
    cases hp2
    have hs2 := hb2.size
    have c0 := hb2.cell (p := ⟨w1.heap.size, 0, none⟩) (show w1.heap.size < _ by simp)
    have c1 := hb2.cell (p := ⟨w1.heap.size, 1, none⟩) (show w1.heap.size < _ by simp)
    have c2 := hb2.cell (p := ⟨w1.heap.size, 2, none⟩) (show w1.heap.size < _ by simp)
    have c3 := hb2.cell (p := ⟨w1.heap.size, 3, none⟩) (show w1.heap.size < _ by simp)
    rw [World.cell?_alloc_at _ _ _ _ rfl] at c0 c1 c2 c3
    simp only [List.getElem?_toArray, List.getElem?_cons_zero, List.getElem?_cons_succ] at c0 c1 c2 c3
    have hl2 : w1.heap.size < w2.heap.size := by simp at hs2; omega
    have hbb : Below w.heap.size w w2 := hb1.trans (((Below.refl w1.heap.size w1).alloc (Nat.le_refl _) _).mono hs1 |>.trans (hb2.mono (by simp; omega)))
    clear hs2
    go_wp2_with fail
    refine (sameFault_same 1 0 n _).mono ?_
    rintro e w3 ⟨rfl, hb3⟩
    go_wp2_with fail
    go_ret
    exact ⟨rfl, hbb.trans (((Below.refl w2.heap.size w2).alloc (Nat.le_refl _) _).mono hbb.size |>.trans (hb3.mono (by simp; have := hbb.size; omega)))⟩
  · rw [HP.out] at hp2; cases hp2
set_option maxRecDepth 100000 in
set_option maxHeartbeats 1000000 in
theorem forms_some {G : Nat} (s : ByteArray) (p : Sp.Pk) (w : World) (hG : Glob G w) (h : ¬ 8192 < s.size) (hp : Sp.parse (bl s) = .inr p) : Calls Tryz.prog 3 #[.string s] w fun e w' => e = .returned (.bool true) ∧ Below w.heap.size w w' := by
  have HP := Lib.hid hp
  clear hp
  go_enter Tryz.func3, Tryz.ntmps3
  go_wp2_with fail
  refine (plainRead_some s p w hG HP.out).mono ?_
  rintro e w1 ⟨rfl, hb1⟩
  have hs1 := hb1.size
  unfold sv
  go_wp2_with fail
  refine (readR_any s _).mono ?_
  rintro e w2 ⟨hb2, ⟨n', hp2, rfl⟩ | ⟨p2, nv, bv, fv, hp2, rfl, hok, g0, g1, g2⟩⟩
  · rw [HP.out] at hp2; cases hp2
  · rw [HP.out] at hp2
    cases hp2
    have hs2 := hb2.size
    have c0 := hb2.cell (p := ⟨w1.heap.size, 0, none⟩) (show w1.heap.size < _ by simp)
    rw [World.cell?_alloc_at _ _ _ _ rfl] at c0
    simp only [List.getElem?_toArray, List.getElem?_cons_zero] at c0
    have hl2 : w1.heap.size < w2.heap.size := by simp at hs2; omega
    have hbb : Below w.heap.size w w2 := hb1.trans (((Below.refl w1.heap.size w1).alloc (Nat.le_refl _) _).mono hs1 |>.trans (hb2.mono (by simp; omega)))
    obtain ⟨na, nc, rfl, _⟩ := g0.get
    obtain ⟨ba, bc, rfl, _⟩ := g1.get
    obtain ⟨fa, fc, rfl, _⟩ := g2.get
    have hbA : ∀ o, Below w2.heap.size w2 (w2.alloc o) := fun o => (Below.refl _ _).alloc (Nat.le_refl _) _
    have G0 := Lib.hid (fun o => (g0.keep fun x hx => (hbA o).block x hx).mono (S' := fun x => x < (w2.alloc o).heap.size) fun x hx => by simp; omega)
    have G1 := Lib.hid (fun o => (SlOn.keep g1 fun x hx => (hbA o).block x hx).mono (S' := fun x => x < (w2.alloc o).heap.size) fun x hx => by simp; omega)
    have G2 := Lib.hid (fun o => (SlOn.keep g2 fun x hx => (hbA o).block x hx).mono (S' := fun x => x < (w2.alloc o).heap.size) fun x hx => by simp; omega)
    clear hs2 g0 g1 g2 hbA
    unfold sv
    go_wp2_with fail
    refine (printR_any p _ _ _ _ hok (G0.out _) (G1.out _) (G2.out _)).mono ?_
    rintro e w3 ⟨rfl, hb3⟩
    unfold sv
    have c0' := (hb3.cell (p := ⟨w1.heap.size, 0, none⟩) (show w1.heap.size < _ by simp; omega)).trans ((((Below.refl w2.heap.size w2).alloc (Nat.le_refl _) _).cell (p := ⟨w1.heap.size, 0, none⟩) hl2).trans c0)
    go_wp2_with fail
    go_ret
    exact ⟨rfl, hbb.trans (((Below.refl w2.heap.size w2).alloc (Nat.le_refl _) _).mono hbb.size |>.trans (hb3.mono (by simp; have := hbb.size; omega)))⟩
theorem forms_any {G : Nat} (s : ByteArray) (w : World) (hG : Glob G w) (hE : ErrT w) : Calls Tryz.prog 3 #[.string s] w fun e w' => e = .returned (.bool true) ∧ Below w.heap.size w w' := by
  by_cases h : 8192 < s.size
  · exact forms_long s w h
  · cases hp : Sp.parse (bl s) with
    | inl n => exact forms_none s n w hG hE h hp
    | inr p => exact forms_some s p w hG h hp
end Go.Proofs.YtfphcecjhdkcoaaGreatDoor

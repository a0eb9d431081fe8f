/-
Plain: what a set of packages is on the disk, and that it is found again; that it has room.
-/
import Derived.Test.YtfphcecjhdkcoaaGreatDoorKnownP01
import Derived.Test.YtfphcecjhdkcoaaGreatDoorKnownP02
import Derived.Deep.DeepCutAuto
import Derived.LoopN
import Derived.Maps.OwnSet
/-
Walks of the program's printing: a choice, a group, a package.
-/
namespace Go.Proofs.YtfphcecjhdkcoaaGreatDoor
open Go.RowKit
theorem printC_any (c : Sp.Ch) (w : World) (hl : c.name.length + c.sign.length + c.ver.length < 1000000) :
    Calls Tryz.prog 110 #[.agg #[sv c.name, sv c.sign, sv c.ver]] w fun e w' => e = .returned (sv (Sp.printC c)) ∧ Below w.heap.size w w' := by
  unfold sv
  by_cases h : c.sign = []
  · have HP := Lib.hid (W6.printC_bare c h)
    have h' : c.sign.isEmpty = true := by rw [h]; rfl
    clear h
    go_enter Tryz.func110, Tryz.ntmps110
    go_wp2
    go_ret
    exact ⟨ret_str (by rw [HP.out]), (Below.refl _ _).alloc (Nat.le_refl _) _⟩
  · have HP := Lib.hid (W6.printC_more c h)
    have h' : c.sign.isEmpty = false := by simpa using h
    clear h
    go_enter Tryz.func110, Tryz.ntmps110
    go_wp2
    go_ret
    exact ⟨ret_str (by rw [HP.out]; simp only [bl_app]; rfl), (Below.refl _ _).alloc (Nat.le_refl _) _⟩
end Go.Proofs.YtfphcecjhdkcoaaGreatDoor
/-
Walks of the program's joined: lists as texts.
-/
namespace Go.Proofs.YtfphcecjhdkcoaaGreatDoor
open Go.RowKit
set_option maxRecDepth 100000 in
set_option maxHeartbeats 400000 in
theorem joinedC_any (v : Value) (cs : List Sp.Ch) (sep : ByteArray) (w : World) (hv : ChOn (fun b => b < w.heap.size) w v cs) (hn : cs.length < 1000000) (hcs : ∀ c ∈ cs, c.name.length + c.sign.length + c.ver.length < 1000000) (hj : (Lib.join (cs.map Sp.printC) (bl sep)).length ≤ 140737488355328) :
    Calls Tryz.prog 109 #[v, .string sep, .func (.func 110) #[] #[]] w fun e w' => e = .returned (sv (Lib.join (cs.map Sp.printC) (bl sep))) ∧ Below w.heap.size w w' := by
  obtain ⟨a, cap, rfl, hcap, hget⟩ := hv.get
  have HG := Lib.hid hget
  have HC := Lib.hid hcs
  have HJ := Lib.hid hj
  clear hv hget hcs hj
  go_enter Tryz.func109, Tryz.ntmps109
  go_wp2
  go_loopw [7, 12] (fun v i wr => ∃ (k : Nat), k ≤ cs.length ∧ i = .int .i64 k ∧ wr.ownsRow w.heap.size 9 1 v k (((cs.take k).map Sp.printC).map sv) ∧ Below w.heap.size w wr) (fun _ i _ => cs.length - (intOf i).toNat)
  case atStart => exact ⟨0, Nat.zero_le _, rfl, World.ownsRow_nil _ _ _ _, Below.refl _ _⟩
  case round =>
    obtain ⟨k, hk, rfl, hown, hbel⟩ := hrel
    by_cases h : k < cs.length
    · obtain ⟨b, off, rfl, hb, h0, h1, h2⟩ := HG.out k h
      have g0 := (hbel.cell (p := ⟨b, off + k * 3, none⟩) hb).trans h0
      have g1 := (hbel.cell (p := ⟨b, off + k * 3 + 1, none⟩) hb).trans h1
      have g2 := (hbel.cell (p := ⟨b, off + k * 3 + 1 + 1, none⟩) hb).trans h2
      unfold sv at g0 g1 g2
      clear h0 h1 h2 HG
      have hcl := HC.out cs[k] (List.getElem_mem h)
      go_wp2_with fail
      refine (printC_any cs[k] _ hcl).mono ?_
      rintro e w2 ⟨rfl, hb2⟩
      have hb3 : Below w.heap.size w w2 := (hbel.alloc hbel.size _).trans (hb2.mono (by have := hbel.size; simp; omega))
      have hown2 := W3.row_keep (hown.alloc _) hb2
      have hs2 := hb3.size
      unfold sv
      go_wp2_with (at_builtin; refine wp_app app38 w2 [.string ⟨(Sp.printC cs[k]).toArray⟩] rfl (by simp [Value.oneCell']) rfl _ _ rfl w.heap.size _ _ _ rfl hown2 rfl (by omega) hs2 ?_; intro v' w3 hown' hgrow _)
      have hb4 := below_of_grown hb3 hs2 hown2 hgrow
      go_roundw
      case rel => exact ⟨k + 1, h, by go_num, by rw [List.take_succ_eq_append_getElem h, List.map_append, List.map_append]; exact hown', hb4⟩
      case measure => simp [intOf]; omega
    · obtain rfl : k = cs.length := by omega
      obtain ⟨ra, rc, rfl⟩ := W3.row_slice hown
      rw [List.take_length] at hown
      have hst : StrsAt wr (.slice ra cs.length rc) (cs.map Sp.printC) := StrsAt.of_row (B := w.heap.size) (e := 9) (by rw [List.length_map]; exact hown)
      clear HG hown
      go_wp2_with fail
      refine (join_any _ _ sep wr hst (by rw [List.length_map]; omega) HJ.out).mono ?_
      rintro e w2 ⟨rfl, hb2⟩
      go_wp2
      go_ret
      exact ⟨rfl, hbel.trans (hb2.mono hbel.size)⟩
end Go.Proofs.YtfphcecjhdkcoaaGreatDoor
/-
Walks of the program's print: a package's text in its one form.
-/
namespace Go.Proofs.YtfphcecjhdkcoaaGreatDoor
open Go.RowKit
theorem groupText_any (v : Value) (g : List Sp.Ch) (w : World) (hv : ChOn (fun b => b < w.heap.size) w v g) (hg : g.length ≤ 3) (h : ∀ c ∈ g, ChOk c) :
    Calls Tryz.prog 108 #[v] w fun e w' => e = .returned (sv (groupText g)) ∧ Below w.heap.size w w' := by
  have hl := groupText_len g hg h
  have h' : ∀ c ∈ g, c.name.length + c.sign.length + c.ver.length < 1000000 := fun c hc => by have := h c hc; unfold ChOk at this; omega
  have H := Lib.hid h'
  have HL := Lib.hid hl
  clear h h' hl
  go_enter Tryz.func108, Tryz.ntmps108
  go_wp2_with fail
  refine (joinedC_any v g _ w hv (by omega) H.out (by have := HL.out; unfold groupText at this; exact Nat.le_trans this (by decide))).mono ?_
  rintro e w1 ⟨rfl, hb⟩
  go_wp2
  go_ret
  exact ⟨rfl, hb⟩
set_option maxRecDepth 100000 in
set_option maxHeartbeats 400000 in
theorem joinedG_any (v : Value) (gs : List (List Sp.Ch)) (sep : ByteArray) (w : World) (hv : GsOn (fun b => b < w.heap.size) w v gs) (hn : gs.length ≤ 3) (hgs : ∀ g ∈ gs, g.length ≤ 3 ∧ ∀ c ∈ g, ChOk c) (hj : (Lib.join (gs.map groupText) (bl sep)).length ≤ 140737488355328) :
    Calls Tryz.prog 107 #[v, .string sep, .func (.func 108) #[] #[]] w fun e w' => e = .returned (sv (Lib.join (gs.map groupText) (bl sep))) ∧ Below w.heap.size w w' := by
  obtain ⟨a, cap, rfl, hcap, hget⟩ := hv.get
  have HG := Lib.hid hget
  have HC := Lib.hid hgs
  have HJ := Lib.hid hj
  clear hv hget hgs hj
  go_enter Tryz.func107, Tryz.ntmps107
  go_wp2
  go_loopw [7, 12] (fun v i wr => ∃ (k : Nat), k ≤ gs.length ∧ i = .int .i64 k ∧ wr.ownsRow w.heap.size 9 1 v k (((gs.take k).map groupText).map sv) ∧ Below w.heap.size w wr) (fun _ i _ => gs.length - (intOf i).toNat)
  case atStart => exact ⟨0, Nat.zero_le _, rfl, World.ownsRow_nil _ _ _ _, Below.refl _ _⟩
  case round =>
    obtain ⟨k, hk, rfl, hown, hbel⟩ := hrel
    by_cases h : k < gs.length
    · obtain ⟨b, off, x, rfl, hb, h0, hx⟩ := HG.out k h
      have g0 := (hbel.cell (p := ⟨b, off + k, none⟩) hb).trans h0
      have hx' : ChOn (fun b => b < wr.heap.size) wr x gs[k] := (SlOn.keep hx fun b hb => hbel.block b hb).mono fun b hb => by have := hbel.size; omega
      obtain ⟨xa, xc, rfl, _⟩ := hx'.get
      have hcl := HC.out gs[k] (List.getElem_mem h)
      clear h0 HG hx
      have HX := Lib.hid hx'
      have HCL := Lib.hid hcl
      clear hx' hcl
      go_wp2_with fail
      refine (groupText_any _ gs[k] wr HX.out HCL.out.1 HCL.out.2).mono ?_
      rintro e w2 ⟨rfl, hb2⟩
      have hb3 : Below w.heap.size w w2 := hbel.trans (hb2.mono hbel.size)
      have hown2 := W3.row_keep hown hb2
      have hs2 := hb3.size
      unfold sv
      go_wp2_with (at_builtin; refine wp_app app38 w2 [.string ⟨(groupText gs[k]).toArray⟩] rfl (by simp [Value.oneCell']) rfl _ _ rfl w.heap.size _ _ _ rfl hown2 rfl (by omega) hs2 ?_; intro v' w3 hown' hgrow _)
      have hb4 := below_of_grown hb3 hs2 hown2 hgrow
      go_roundw
      case rel => exact ⟨k + 1, h, by go_num, by rw [List.take_succ_eq_append_getElem h, List.map_append, List.map_append]; exact hown', hb4⟩
      case measure => simp [intOf]; omega
    · obtain rfl : k = gs.length := by omega
      obtain ⟨ra, rc, rfl⟩ := W3.row_slice hown
      rw [List.take_length] at hown
      have hst : StrsAt wr (.slice ra gs.length rc) (gs.map groupText) := StrsAt.of_row (B := w.heap.size) (e := 9) (by rw [List.length_map]; exact hown)
      clear HG hown
      go_wp2_with fail
      refine (join_any _ _ sep wr hst (by rw [List.length_map]; omega) HJ.out).mono ?_
      rintro e w2 ⟨rfl, hb2⟩
      go_wp2
      go_ret
      exact ⟨rfl, hbel.trans (hb2.mono hbel.size)⟩
end Go.Proofs.YtfphcecjhdkcoaaGreatDoor
/-
How a package lies in memory; the walk of its printing.
-/
namespace Go.Proofs.YtfphcecjhdkcoaaGreatDoor
open Go.RowKit
set_option maxRecDepth 100000 in
set_option maxHeartbeats 1000000 in
theorem print_any (b : Nat) (p : Sp.Pk) (w : World) (h : IsPack (fun b => b < w.heap.size) w b p) (hok : PkOk p) :
    Calls Tryz.prog 64 #[.pointer (some ⟨b, 0, none⟩)] w fun e w' => e = .returned (sv (Sp.print p)) ∧ Below w.heap.size w w' := by
  obtain ⟨nv, bv, fv, hS, h0, h1, h2, h3, h4, g0, g1, g2, n0, n1⟩ := h
  obtain ⟨na, nc, rfl, hnc, gn⟩ := g0.get
  obtain ⟨ba, bc, rfl, hbc, gb⟩ := g1.get
  obtain ⟨fa, fc, rfl, hfc, gf⟩ := g2.get
  have en : p.needs = [] → na = none := fun e => by have := n0 e; simp only [Value.slice.injEq] at this; exact this.1
  have eb : p.bars = [] → ba = none := fun e => by have := n1 e; simp only [Value.slice.injEq] at this; exact this.1
  have sn : p.needs ≠ [] → ∃ x o, na = some ⟨x, o, none⟩ := fun e => by obtain ⟨x, o, _, h, _⟩ := gn 0 (List.length_pos_iff.2 e); exact ⟨x, o, h⟩
  have sb : p.bars ≠ [] → ∃ x o, ba = some ⟨x, o, none⟩ := fun e => by obtain ⟨x, o, h, _⟩ := gb 0 (List.length_pos_iff.2 e); exact ⟨x, o, h⟩
  have EN := Lib.hid en
  have EB := Lib.hid eb
  have SN := Lib.hid sn
  have SB := Lib.hid sb
  have G0 := Lib.hid g0
  have G1 := Lib.hid g1
  have GF := Lib.hid gf
  clear g0 g1 g2 gn gb gf n0 n1 en eb sn sb
  have hname := hok.name
  have hver := hok.ver
  unfold sv at h2 h3
  have hnn : ∀ (a : Option Addr) (n c : Nat) (W : World), (binOp .neq 169 (.slice a n c) (.slice none 0 0)).run Tryz.prog W = .ok (.bool (!a.isNone)) W := fun a n c W => run_neq_slice_nil_any W 169 _ a n c 0 0 Tryz.underlying169
  have hnb : ∀ (a : Option Addr) (n c : Nat) (W : World), (binOp .neq 170 (.slice a n c) (.slice none 0 0)).run Tryz.prog W = .ok (.bool (!a.isNone)) W := fun a n c W => run_neq_slice_nil_any W 170 _ a n c 0 0 Tryz.underlying170
  go_enter Tryz.func64, Tryz.ntmps64
  go_wp2
  go_quiet (fail)
  have hbq : Below w.heap.size w (w.drewN nq) := below_drawn w nq
  go_upto_if 22 with (fail)
  go_cut [3] (fun s wx => s = .string ⟨(head1 p).toArray⟩ ∧ Below w.heap.size w wx)
  case first =>
    by_cases hne : p.needs = []
    · obtain rfl := EN.out hne
      have H1 : Hid (head1 p = head0 p) := Lib.hid (by unfold head1; rw [hne]; simp)
      clear hne
      go_wp2_with fail
      go_meet
      case rel => exact ⟨str_eq (by rw [bl_app, bl_app, bl_app, H1.out]; rfl), hbq⟩
    · obtain ⟨nb, no, rfl⟩ := SN.out hne
      have H1 : Hid (head1 p = head0 p ++ ([10, 110, 101, 101, 100, 115, 32] ++ Lib.join (p.needs.map groupText) [44, 32])) := by
        exact Lib.hid (by unfold head1; rw [if_neg (by simpa using hne)])
      have hjl := W8.join_bound [44, 32] 3039 3 (p.needs.map groupText) (fun x hx => by obtain ⟨g, hg, rfl⟩ := List.mem_map.1 hx; exact groupText_len g (hok.groups g hg).1 (hok.groups g hg).2) (by rw [List.length_map]; exact hok.needs)
      have hjl2 : (Lib.join (p.needs.map groupText) [44, 32]).length ≤ 10000 := Nat.le_trans hjl (by decide)
      clear hne hjl
      go_wp2_with fail
      refine (joinedG_any _ p.needs _ (w.drewN nq) ((GsOn.keep G0.out fun _ _ => rfl).mono fun _ h => h) hok.needs hok.groups (Nat.le_trans hjl2 (by decide))).mono ?_
      rintro e w2 ⟨rfl, hb2⟩
      unfold sv
      rw [show bl ⟨#[44, 32]⟩ = [44, 32] from rfl]
      go_wp2_with fail
      go_meet
      case rel => exact ⟨str_eq (by rw [bl_app, bl_app, bl_app, bl_app, bl_app, H1.out]; rfl), hbq.trans (hb2.mono (by simp))⟩
  case rest =>
    obtain ⟨rfl, hb1⟩ := hcut
    have hhl : (head1 p).length ≤ 20000 := head1_len p hok
    obtain ⟨hc, _⟩ := bcell hb1
    have k0 := (hb1.cell (p := ⟨b, 0, none⟩) hS).trans h0
    have k1 := (hb1.cell (p := ⟨b, 1, none⟩) hS).trans h1
    have k4 := (hb1.cell (p := ⟨b, 4, none⟩) hS).trans h4
    have H4 := Lib.hid h4
    clear hc h0 h1 h2 h3 h4
    go_upto_if 37 with (fail)
    go_cut [3] (fun s wx => s = .string ⟨(head2 p).toArray⟩ ∧ Below w.heap.size w wx)
    case first =>
      by_cases hne : p.bars = []
      · obtain rfl := EB.out hne
        have H1 : Hid (head2 p = head1 p) := Lib.hid (by unfold head2; rw [hne]; simp)
        clear hne
        go_wp2_with fail
        go_meet
        case rel => exact ⟨by rw [H1.out], hb1⟩
      · obtain ⟨nb, no, rfl⟩ := SB.out hne
        have H1 : Hid (head2 p = head1 p ++ ([10, 98, 97, 114, 115, 32] ++ Lib.join (p.bars.map Sp.printC) [44, 32])) := by
          exact Lib.hid (by unfold head2; rw [if_neg (by simpa using hne)])
        have hjl := W8.join_bound [44, 32] 1010 3 (p.bars.map Sp.printC) (fun x hx => by obtain ⟨g, hg, rfl⟩ := List.mem_map.1 hx; exact printC_len g (hok.barred g hg)) (by rw [List.length_map]; exact hok.bars)
        have hjl2 : (Lib.join (p.bars.map Sp.printC) [44, 32]).length ≤ 10000 := Nat.le_trans hjl (by decide)
        have hbl := hok.bars
        clear hne hjl
        go_wp2_with fail
        refine (joinedC_any _ p.bars _ wc ((SlOn.keep G1.out fun x hx => hb1.block x hx).mono fun x hx => Nat.lt_of_lt_of_le hx hb1.size) (by omega) (fun c hc => by have := hok.barred c hc; unfold ChOk at this; omega) (Nat.le_trans hjl2 (by decide))).mono ?_
        rintro e w2 ⟨rfl, hb2⟩
        unfold sv
        rw [show bl ⟨#[44, 32]⟩ = [44, 32] from rfl]
        go_wp2_with fail
        go_meet
        case rel => exact ⟨str_eq (by rw [bl_app, bl_app, H1.out]; rfl), hb1.trans (hb2.mono hb1.size)⟩
    case rest =>
      obtain ⟨rfl, hb2⟩ := hcut
      clear k0 k1 k4 hb1
      have k4 := (hb2.cell (p := ⟨b, 4, none⟩) hS).trans H4.out
      have hh2 := head2_len p hok
      have hnf := hok.files
      have hfl : ∀ k, (files_text p k).length ≤ 10000 := fun k => files_len p hok k
      have HFL := Lib.hid hfl
      have HPA := Lib.hid hok.paths
      clear hfl EN EB SN SB G0 G1 hhl hname hver hnn hnb
      go_wp2
      go_loopw [3, 52] (fun s i wr => ∃ k : Nat, k ≤ p.files.length ∧ i = .int .i64 k ∧ s = .string ⟨(head2 p ++ files_text p k).toArray⟩ ∧ Below w.heap.size w wr) (fun _ i _ => p.files.length - (intOf i).toNat)
      case atStart => exact ⟨0, Nat.zero_le _, rfl, str_eq (by unfold files_text; simp), hb2⟩
      case round =>
        obtain ⟨k, hk, rfl, rfl, hbel⟩ := hrel
        have hfk := HFL.out k
        by_cases h : k < p.files.length
        · obtain ⟨fb, fo, rfl, hfb, c0, c1⟩ := GF.out k h
          have d0 := (hbel.cell (p := ⟨fb, fo + k * 2, none⟩) hfb).trans c0
          have d1 := (hbel.cell (p := ⟨fb, fo + k * 2 + 1, none⟩) hfb).trans c1
          unfold sv at d0 d1
          have hpa := HPA.out p.files[k] (List.getElem_mem h)
          clear c0 c1 GF
          go_wp2
          go_roundw
          case rel => exact ⟨k + 1, h, by go_num, str_eq (by rw [bl_app, bl_app, bl_app, bl_app, files_next p k h]; exact List.append_assoc _ _ _), hbel.alloc hbel.size _⟩
          case measure => simp [intOf]; omega
        · obtain rfl : k = p.files.length := by omega
          clear GF
          go_wp2
          go_ret
          exact ⟨ret_str (by rw [print_eq]; unfold files_text; rw [List.take_length]), hbel⟩
end Go.Proofs.YtfphcecjhdkcoaaGreatDoor
/-
What the walk of the program's clashes stands on: a rule for loops whose rounds leave marks behind; what marks are; the worlds of the rounds.
-/
namespace Go.Proofs.YtfphcecjhdkcoaaGreatDoor
open Go.RowKit Go.Shelf Go.Maps
theorem rounds_of {P : Program} {c : Code} {Q : Exit → Act → World → Prop} (I : Nat → Act → World → Prop)
    (round : ∀ n a w, I n a w → c.wp P (Exit.then (fun a' w' => ∃ m, m < n ∧ I m a' w') Q) a w) : ∀ (N n : Nat) (a : Act) (w : World), n < N → I n a w → Code.rounds P c Q N a w := by
  intro N
  induction N with
  | zero => intro n a w h; omega
  | succ N ih =>
    intro n a w h hI
    rw [rounds_succ]
    refine Code.wp_mono (fun e a' w' q => ?_) (round n a w hI)
    cases e with
    | normal => obtain ⟨m, hm, hq⟩ := q; exact ih m a' w' (by omega) hq
    | _ => exact q
/-- A loop, by an invariant over the whole activation that counts down. -/
theorem wp_loop_down {P : Program} {c : Code} {Q : Exit → Act → World → Prop} {a : Act} {w : World} (I : Nat → Act → World → Prop) (n : Nat) (h0 : I n a w)
    (round : ∀ n a w, I n a w → c.wp P (Exit.then (fun a' w' => ∃ m, m < n ∧ I m a' w') Q) a w) : (Code.loop c).wp P Q a w :=
  wp_loop_rounds (n + 1) (rounds_of I round (n + 1) n a w (by omega) h0)
def markOf (k : Nat) : Deferred := { target := .collected k, args := #[] }
/-- The marks of the loops over iterators that have ended. -/
def Marks (B : Nat) (w : World) (ks : List Nat) : Prop := ks.Nodup ∧ ∀ k ∈ ks, B ≤ k ∧ w.heap[k]? = some (.deferred (some []))
theorem Marks.keep {B : Nat} {w w' : World} {ks : List Nat} (h : Marks B w ks) (hk : ∀ k ∈ ks, w'.heap[k]? = w.heap[k]?) : Marks B w' ks :=
  ⟨h.1, fun k hm => ⟨(h.2 k hm).1, (hk k hm).trans (h.2 k hm).2⟩⟩
theorem Marks.lt {B : Nat} {w : World} {ks : List Nat} (h : Marks B w ks) : ∀ k ∈ ks, k < w.heap.size := fun k hm =>
  (Array.getElem?_eq_some_iff.1 (h.2 k hm).2).1
theorem leaves_marks {F : Fence} {n : Nat} {P : Program} {fn : Func} {tmps : Array Value} {R : Ending → World → Prop} {B : Nat} {a0 : World} : ∀ (ks : List Nat) (w : World), Marks B w ks → Below B a0 w →
    (∀ w', Below B a0 w' → (∀ b, b ∉ ks → w'.heap[b]? = w.heap[b]?) → LeavesInM F n P fn tmps R [] .returning w') → LeavesInM F n P fn tmps R (ks.map markOf) .returning w
  | [], w, _, hb, h => h w hb (fun _ _ => rfl)
  | k :: ks, w, hm, hb, h => by
    refine ⟨by simp, .inl ⟨k, w.putObj k (.deferred none), rfl, run_takeDeferred (hm.2 k (by simp)).2, ?_⟩⟩
    have hlt := hm.lt k (by simp)
    have hnd := List.nodup_cons.1 hm.1
    have hoth : ∀ b, b ≠ k → (w.putObj k (.deferred none)).heap[b]? = w.heap[b]? := fun b hb => World.putObj_heap_other hb
    refine leaves_marks ks _ ⟨hnd.2, fun b hbm => ⟨(hm.2 b (by simp [hbm])).1, (hoth b (fun e => hnd.1 (e ▸ hbm))).trans (hm.2 b (by simp [hbm])).2⟩⟩ ?_ (fun w' hb' hw' => h w' hb' fun b hbk => ?_)
    · have hge := (hm.2 k (by simp)).1
      exact ⟨hb.os, hb.tape, hb.output, by simpa [World.putObj] using hb.size, fun i hi => (hoth i (by omega)).trans (hb.block i hi)⟩
    · simp only [List.mem_cons, not_or] at hbk
      exact (hw' b hbk.2).trans (hoth b hbk.1)
end Go.Proofs.YtfphcecjhdkcoaaGreatDoor
/-
The worlds of the rounds of the program's clashes.
-/
namespace Go.Proofs.YtfphcecjhdkcoaaGreatDoor
open Go.RowKit Go.Shelf Go.Maps
def pathsOf (p : Sp.Pk) : List Sp.Str := p.files.map (·.path)
/-- How a map's element reads: as itself. -/
def Rv (v : Value) : Option (DataW Value × List MemPlace) := some (.held v, [])
theorem ranges_block {P : Program} {k : TypeId} {R : Value → Option (DataW Value × List MemPlace)} {w w' : World} {b r n : Nat} {D : DataW Value} {left : Lit → Bool} {cnt : Nat} (h : w.ranges P k R b r n D left cnt)
    (hb : w'.heap[b]? = w.heap[b]?) (hr : w'.heap[r]? = w.heap[r]?) : w'.ranges P k R b r n D left cnt := by
  obtain ⟨es, clock, since, seen, c0, h1, h2, h3, h4, h5, h6⟩ := h
  exact ⟨es, clock, since, seen, c0, hb.trans h1, h2, h3, h4, hr.trans h5, h6⟩
structure Rest (w0 : World) (mb : Nat) (L : List (Nat × Sp.Pk)) (D : DataW Value) (own : List Sp.Str) (left : Lit → Bool) (cnt : Nat) (ks : List Nat) (W : World) : Prop where
  ranges : W.ranges Tryz.prog 9 Rv mb (w0.heap.size + 3) L.length D left cnt
  own : CountAt W w0.heap.size own
  box : W.cell? ⟨w0.heap.size + 2, 0, none⟩ = some (.map (some (w0.heap.size + 1)))
  marks : Marks (w0.heap.size + 4) W ks
  below : Below w0.heap.size w0 W
  size : w0.heap.size + 4 ≤ W.heap.size
  low : mb < w0.heap.size
variable {w0 : World} {mb : Nat} {L : List (Nat × Sp.Pk)} {D : DataW Value} {own : List Sp.Str} {left : Lit → Bool} {cnt : Nat} {ks : List Nat} {W W' : World}
theorem Rest.turn (h : Rest w0 mb L D own left cnt ks W) (ho : W'.os = W.os) (ht : W'.tape = W.tape) (hp : W'.output = W.output) (hs : W.heap.size ≤ W'.heap.size)
    (hb : ∀ k, k < W.heap.size → k ≠ w0.heap.size + 1 → W'.heap[k]? = W.heap[k]?) : Rest w0 mb L D own left cnt ks W' := by
  have hsz := h.size
  have hlo := h.low
  exact ⟨ranges_block h.ranges (hb _ (by omega) (by omega)) (hb _ (by omega) (by omega)), h.own.block (hb _ (by omega) (by omega)),
    (World.cell?_of_block (w := W) (hb (w0.heap.size + 2) (by omega) (by omega))).trans h.box, h.marks.keep fun k hk => hb k (h.marks.lt k hk) (by have := (h.marks.2 k hk).1; omega),
    ⟨ho.trans h.below.os, ht.trans h.below.tape, hp.trans h.below.output, Nat.le_trans h.below.size hs, fun k hk => (hb k (by omega) (by omega)).trans (h.below.block k hk)⟩, by omega, hlo⟩
theorem Rest.alloc (h : Rest w0 mb L D own left cnt ks W) (o : Obj) : Rest w0 mb L D own left cnt ks (W.alloc o) :=
  h.turn rfl rfl rfl (by simp) fun k hk _ => Below.heap_alloc _ _ _ hk
theorem Rest.frn {n : Nat} (h : Rest w0 mb L D own left cnt ks W) (hf : FrN n (w0.heap.size + 1) W W') (hn : W.heap.size ≤ n) : Rest w0 mb L D own left cnt ks W' :=
  h.turn hf.os hf.tape hf.output hf.size fun k hk hne => hf.block k (by omega) hne
theorem Rest.put {own' : List Sp.Str} (h : Rest w0 mb L D own left cnt ks W) (hg : W.grownBy W' (some w0.heap.size)) (ho : CountAt W' w0.heap.size own') : Rest w0 mb L D own' left cnt ks W' := by
  have hsz := h.size
  have hlo := h.low
  have hb : ∀ k, k < W.heap.size → k ≠ w0.heap.size → W'.heap[k]? = W.heap[k]? := fun k hk hne => hg.block k hk (by simpa using hne)
  have hgs := hg.size
  exact ⟨ranges_block h.ranges (hb _ (by omega) (by omega)) (hb _ (by omega) (by omega)), ho,
    (World.cell?_of_block (w := W) (hb (w0.heap.size + 2) (by omega) (by omega))).trans h.box, h.marks.keep fun k hk => hb k (h.marks.lt k hk) (by have := (h.marks.2 k hk).1; omega),
    ⟨hg.os.trans h.below.os, hg.tape.trans h.below.tape, hg.output.trans h.below.output, Nat.le_trans h.below.size hgs, fun k hk => (hb k (by omega) (by omega)).trans (h.below.block k hk)⟩, by omega, hlo⟩
theorem Rest.next {left' : Lit → Bool} {cnt' : Nat} (h : Rest w0 mb L D own left cnt ks W) (hg : W.grownBy W' (some (w0.heap.size + 3))) (hr : W'.ranges Tryz.prog 9 Rv mb (w0.heap.size + 3) L.length D left' cnt') : Rest w0 mb L D own left' cnt' ks W' := by
  have hsz := h.size
  have hlo := h.low
  have hb : ∀ k, k < W.heap.size → k ≠ w0.heap.size + 3 → W'.heap[k]? = W.heap[k]? := fun k hk hne => hg.block k hk (by simpa using hne)
  have hgs := hg.size
  exact ⟨hr, h.own.block (hb _ (by omega) (by omega)),
    (World.cell?_of_block (w := W) (hb (w0.heap.size + 2) (by omega) (by omega))).trans h.box, h.marks.keep fun k hk => hb k (h.marks.lt k hk) (by have := (h.marks.2 k hk).1; omega),
    ⟨hg.os.trans h.below.os, hg.tape.trans h.below.tape, hg.output.trans h.below.output, Nat.le_trans h.below.size hgs, fun k hk => (hb k (by omega) (by omega)).trans (h.below.block k hk)⟩, by omega, hlo⟩
theorem Rest.mark (h : Rest w0 mb L D own left cnt ks W) {k : Nat} (hk : W.heap[k]? = some (.deferred (some []))) (hn : k ∉ ks) (hge : w0.heap.size + 4 ≤ k) : Rest w0 mb L D own left cnt (k :: ks) W :=
  ⟨h.ranges, h.own, h.box, ⟨List.nodup_cons.2 ⟨hn, h.marks.1⟩, fun j hj => by
    rcases List.mem_cons.1 hj with rfl | hj
    · exact ⟨hge, hk⟩
    · exact h.marks.2 j hj⟩, h.below, h.size, h.low⟩
end Go.Proofs.YtfphcecjhdkcoaaGreatDoor
/-
The keys of a map that counts texts, of which some have been struck.
-/
namespace Go.Proofs.YtfphcecjhdkcoaaGreatDoor
open Go.RowKit Go.Shelf Go.Maps Go.Sort
theorem keys_left {w : World} {b n : Nat} {D : CntD} {own : List Sp.Str} (hown : w.ownsMap Tryz.prog 9 (plainElem Tryz.prog 3) b n D) (hC : Counts D own) (fol : List Sp.Str) (x : Sp.Str) :
    x ∈ strKeys (Lib.deleteFuncD (struck fol) D) ↔ x ∈ own ∧ (2 ≤ own.count x ∨ x ∈ fol) := by
  obtain ⟨es, hD, hpw, hkl⟩ := hown.entries keyed9
  obtain ⟨es', hD', hko⟩ := hown.keysOf
  obtain rfl : es = es' := by rw [hD] at hD'; simpa using hD'
  subst hD
  have hstr : ∀ p ∈ es, ∃ s, p.1 = .string s ∧ s ∈ own ∧ p.2 = .lit (.int .i64 (own.count s)) := by
    intro p hp
    obtain ⟨v, hv⟩ := hko p hp
    obtain ⟨s, _, hs, _⟩ := Maps.keyOf_str Tryz.underlying9 hv
    have h1 : Maps.has (.map es : CntD) (.string s) = true := by
      rw [has_eq, List.any_eq_true]; exact ⟨p, hp, by rw [hs]; exact WideAt.sameKey_self (hs ▸ hkl p hp)⟩
    refine ⟨s, hs, ?_, ?_⟩
    · rw [hC.2.2 s] at h1; simpa using h1
    · have hm : (.string s, p.2) ∈ es := by rw [← hs]; exact hp
      exact (WideAt.atKey_mem (.lit (.int .i64 0)) (hs ▸ hkl p hp) hpw hm).symm.trans (hC.2.1 s)
  show x ∈ (es.filter fun p => !struck fol p.1 p.2).map (fun p => strOf p.1) ↔ _
  rw [List.mem_map]
  constructor
  · rintro ⟨p, hp, rfl⟩
    obtain ⟨hp1, hp2⟩ := List.mem_filter.1 hp
    obtain ⟨s, hs, ho, hv⟩ := hstr p hp1
    rw [hs, hv, struck_eq] at hp2
    rw [hs]
    refine ⟨ho, ?_⟩
    simp only [Bool.not_and, Bool.or_eq_true, Bool.not_eq_true', decide_eq_false_iff_not, beq_eq_false_iff_ne] at hp2
    rcases hp2 with h | h
    · left; show 2 ≤ own.count s; omega
    · right; show s ∈ fol; exact List.count_pos_iff.1 (by omega)
  · rintro ⟨ho, hc⟩
    have h1 := hC.2.2 x
    rw [List.contains_iff_mem.2 ho, has_eq, List.any_eq_true] at h1
    obtain ⟨p, hp, hpx⟩ := h1
    obtain ⟨s, hs, ho', hv⟩ := hstr p hp
    have e := WideAt.sameKey_eq hpx
    rw [hs] at e
    obtain rfl : s = x := by injection e
    refine ⟨p, List.mem_filter.2 ⟨hp, ?_⟩, by rw [hs]; rfl⟩
    rw [hs, hv, struck_eq]
    simp only [Bool.not_and, Bool.or_eq_true, Bool.not_eq_true', decide_eq_false_iff_not, beq_eq_false_iff_ne]
    rcases hc with h | h
    · left; omega
    · right; have := List.count_pos_iff.2 h; omega
end Go.Proofs.YtfphcecjhdkcoaaGreatDoor
/-
The walk of the program's clashes.
-/
namespace Go.Proofs.YtfphcecjhdkcoaaGreatDoor
open Go.RowKit Go.Shelf Go.Maps
attribute [local go_sem] Oper.semAt_some
/-- Block mb is a map of packages by their names; they lie in blocks of which S holds. -/
def SetOn (S : Nat → Prop) (w : World) (mb : Nat) (L : List (Nat × Sp.Pk)) : Prop :=
  (∃ D : DataW Value, w.ownsMap Tryz.prog 9 Rv mb L.length D ∧ Maps.size D = L.length ∧
    (∀ q ∈ L, ∀ z, D.atKey (.string q.2.name) z = .held (.pointer (some ⟨q.1, 0, none⟩))) ∧
    (∀ k, Maps.has D k = true → ∃ q ∈ L, k = .string q.2.name)) ∧
  L.Pairwise (fun q r => q.2.name ≠ r.2.name) ∧ ∀ q ∈ L, IsPack S w q.1 q.2 ∧ PkOk q.2
theorem flat_len {α β : Type} (f : α → List β) (c : Nat) : ∀ l : List α, (∀ x ∈ l, (f x).length ≤ c) → (l.flatMap f).length ≤ l.length * c
  | [], _ => by simp
  | x :: r, h => by
    rw [List.flatMap_cons, List.length_append, List.length_cons, Nat.add_mul, Nat.one_mul]
    have h1 := h x (by simp)
    have h2 := flat_len f c r (fun y hy => h y (by simp [hy]))
    omega
theorem names_one {L : List (Nat × Sp.Pk)} (h : L.Pairwise (fun q r => q.2.name ≠ r.2.name)) : ∀ q ∈ L, ∀ r ∈ L, q.2.name = r.2.name → q = r := by
  induction h with
  | nil => intro q hq; cases hq
  | cons h1 h2 ih =>
    intro q hq r hr e
    rcases List.mem_cons.1 hq with e1 | hq' <;> rcases List.mem_cons.1 hr with e2 | hr'
    · rw [e1, e2]
    · subst e1; exact absurd e (h1 r hr')
    · subst e2; exact absurd e.symm (h1 q hq')
    · exact ih q hq' r hr' e
theorem str_of_key {key : Value} {kl : Lit} (h : keyOf Tryz.prog 9 key = some kl) : ∃ x : ByteArray, key = .string x := by
  obtain ⟨x, rfl, _⟩ := Maps.keyOf_string_inv Tryz.underlying9 h
  exact ⟨x, rfl⟩
set_option maxRecDepth 100000 in
set_option maxHeartbeats 1000000 in
theorem clashes_any (mb : Nat) (L : List (Nat × Sp.Pk)) (w : World) (h : SetOn (fun b => b < w.heap.size) w mb L) (hL : L.length ≤ 100000) :
    Calls Tryz.prog 125 #[.map (some mb)] w fun e w' => ∃ v l, e = .returned v ∧ Below w.heap.size w w' ∧ StrsAt w' v l ∧ l.Pairwise (· ≤ ·) ∧
      ∀ x : Sp.Str, x ∈ l ↔ x ∈ L.flatMap (fun q => pathsOf q.2) ∧ (2 ≤ (L.flatMap fun q => pathsOf q.2).count x ∨ x ∈ (L.flatMap fun q => pathsOf q.2).flatMap Sp.folders) := by
  have hmm := @run_makeMap Tryz.prog
  refine callsIn_wide.1 (callsIn_of_wp_marks (F := Fence.wide) (n := 6) Tryz.func125 rfl trivial (wpIn_wide.2 ?_) rfl)
  simp only [Tryz.ntmps125, List.size_toArray, List.length_cons, List.length_nil, Nat.reduceAdd, Nat.reduceSub, Array.replicate_succ, Array.replicate_zero, List.push_toArray, List.append_toArray, List.nil_append, List.cons_append]
  obtain ⟨⟨D, hown, hsz, hat, hhas⟩, hap, hpk⟩ := h
  go_wp2_with (at_range; refine wpList_range_own _ rfl _ 139 rfl 9 118 keyed9 Tryz.underlying139 Rv mb L.length D rfl (((hown.alloc _).alloc _).alloc _) ?_; intro w1 hr1 hg1 hs1)
  refine wp_loop_down (fun n a W => ∃ (x6 x8 x9 x14 x15 x16 x17 x18 x19 x20 x21 x22 x23 x24 x25 x26 x27 x28 x29 x30 x31 x32 x33 x34 x35 x36 x37 x38 x39 x40 : Value) (ks : List Nat) (done : List (Nat × Sp.Pk)) (left : Lit → Bool),
    a = { tmps := #[Value.map (some mb), undef, Value.slice none 0 0, Value.map (some w.heap.size), Value.pointer (some { block := w.heap.size + 2, off := 0 }), undef, x6, undef, x8, x9,
              Value.map (some w.heap.size), Value.map (some (w.heap.size + 1)), Value.map (some mb), .pointer (some ⟨w.heap.size + 3, 0, none⟩), x14, x15, x16, x17, x18, x19, x20, x21, x22, x23, x24, x25, x26, x27, x28, x29,
              x30, x31, x32, x33, x34, x35, x36, x37, x38, x39, x40, undef, undef, undef, undef, undef, undef], defers := ks.map markOf } ∧
      Rest w mb L D (done.flatMap fun q => pathsOf q.2) left n ks W ∧ CountAt W (w.heap.size + 1) ((done.flatMap fun q => pathsOf q.2).flatMap Sp.folders) ∧ done.Nodup ∧ (∀ q ∈ done, q ∈ L) ∧ (∀ q ∈ L, (left (.string q.2.name) = true ↔ q ∉ done)) ∧ n + done.length ≤ L.length) (Maps.size D) ?_ ?_
  · simp only [World.size_alloc] at hr1 hs1
    have hg3 : ∀ b, b < w.heap.size + 3 → w1.heap[b]? = (((w.alloc (.map #[] 0)).alloc (.map #[] 0)).alloc (.cells #[.map (some (w.heap.size + 1))] 269)).heap[b]? := fun b hb => hg1.block b (by simpa using hb) (by simp)
    have hlt := hown.lt
    have hRi : Rest w mb L D [] (Maps.has D) (Maps.size D) [] w1 := by
      refine ⟨hr1, ?_, ?_, ⟨List.nodup_nil, fun k hk => by cases hk⟩, ⟨hg1.os, hg1.tape, hg1.output, by omega, fun k hk => ?_⟩, by omega, hlt⟩
      · refine (CountAt.made w).block ((hg3 _ (by omega)).trans ?_)
        rw [Below.heap_alloc _ _ _ (by simp; omega), Below.heap_alloc _ _ _ (by simp)]
      · refine (World.cell?_of_block (hg3 _ (by show w.heap.size + 2 < _; omega))).trans ?_
        rw [World.cell?_alloc_at _ _ _ _ (by simp)]; rfl
      · rw [hg3 k (by omega), Below.heap_alloc _ _ _ (by simp; omega), Below.heap_alloc _ _ _ (by simp; omega), Below.heap_alloc _ _ _ hk]
    have hCi : CountAt w1 (w.heap.size + 1) [] := by
      have h1 := CountAt.made (w.alloc (.map #[] 0))
      rw [World.size_alloc] at h1
      refine h1.block ((hg3 _ (by omega)).trans ?_)
      rw [Below.heap_alloc _ _ _ (by simp)]
    exact ⟨undef, undef, undef, undef, undef, undef, undef, undef, undef, undef, undef, undef, undef, undef, undef, undef, undef, undef, undef, undef, undef, undef, undef, undef, undef, undef, undef, undef, undef, undef, [], [], Maps.has D, by simp [Act.put], hRi, hCi, List.nodup_nil, (fun q hq => by cases hq),
      (fun q hq => ⟨fun _ h => by (cases h), fun _ => has_true_of_atKey (hat q hq)⟩), by simp; omega⟩
  · rintro n a W ⟨x6, x8, x9, x14, x15, x16, x17, x18, x19, x20, x21, x22, x23, x24, x25, x26, x27, x28, x29, x30, x31, x32, x33, x34, x35, x36, x37, x38, x39, x40, ks, done, left, rfl, hR, hC, hnd, hsub, hleft, hcnt⟩
    go_wp2_with (at_next; refine wpList_next_ranges _ rfl _ rfl 9 keyed9 Rv Value.string id (fun key kl hk => str_of_key hk) (fun v _ _ => ⟨v, rfl⟩) mb (w.heap.size + 3) L.length D left n rfl hR.ranges ?_ ?_)
    · intro hn0 hl0
      have hall : ∀ q ∈ L, q ∈ done := fun q hq => Classical.byContradiction fun h => by
        have := (hleft q hq).2 h
        rw [hl0] at this; cases this
      have hnd2 : L.Nodup := hap.imp fun {q r} h e => h (by rw [e])
      have hperm : done.Perm L := (List.perm_ext_iff_of_nodup hnd hnd2).2 fun q => ⟨hsub q, hall q⟩
      have hpo := hperm.flatMap_right (fun q : Nat × Sp.Pk => pathsOf q.2)
      have hpf := hpo.flatMap_right Sp.folders
      have hol : (done.flatMap fun q => pathsOf q.2).length < 1000000 := by
        have h1 := flat_len (fun q : Nat × Sp.Pk => pathsOf q.2) 4 done (fun q hq => by unfold pathsOf; rw [List.length_map]; exact (hpk q (hsub q hq)).2.files)
        omega
      generalize ho : (done.flatMap fun q => pathsOf q.2) = own at hR hC hpo hpf hol
      generalize hf : own.flatMap Sp.folders = fol at hC hpf
      obtain ⟨Dc, hDo, hDc⟩ := hR.own
      have hdel := AnyDf.maps_DeleteFunc Tryz.delI keyed9 (plainElem Tryz.prog 3) (struck fol) 170 #[.pointer (some ⟨w.heap.size + 2, 0, none⟩)] w.heap.size own.length Dc W (enters_of Tryz.func170 (by kernel_rfl) rfl) hDo (by
        intro W' key val kl yd yp hgW hk hv
        obtain ⟨x, rfl, rfl, hxm⟩ := Maps.keyOf_str Tryz.underlying9 hk
        obtain ⟨c, rfl, hy, _⟩ := plainElem_int_inv Tryz.underlying3 hv
        obtain rfl : yd = .lit (.int .i64 c) := by simpa using (congrArg Prod.fst hy)
        have hcl := closure_any x c (w.heap.size + 2) (w.heap.size + 1) fol W' hxm (hgW.cell hR.box (by simp)) (hC.kept hgW (by simp))
        refine hcl.mono ?_
        rintro e w9 ⟨rfl, rfl⟩
        exact ⟨rfl, World.grownBy.refl _ _⟩)
      go_wp2_with (first
        | (go_at_call 169; refine hdel.mono ?_; rintro e w8 ⟨rfl, hD8, hg8⟩)
        | (go_at_call 171; refine (keysI_any _ _).mono ?_; rintro e w9 ⟨rfl, rfl⟩)
        | (go_at_call 129; refine (sortedI_any w.heap.size own.length _ _ w8 hD8 (Nat.lt_of_le_of_lt hD8.size_le (by omega))).mono ?_; rintro e w10 ⟨v, ss, rfl, hperm2, hrow, hnil2, hb10⟩))
      have hsz8 := hg8.size
      have hszR := hR.size
      have hbW8 : Below w.heap.size w w8 := ⟨hg8.os.trans hR.below.os, hg8.tape.trans hR.below.tape, hg8.output.trans hR.below.output, Nat.le_trans hR.below.size hsz8,
        fun k hk => (hg8.block k (by omega) (by simp; omega)).trans (hR.below.block k hk)⟩
      have hb10' : Below w.heap.size w w10 := hbW8.trans (hb10.mono hbW8.size)
      have hm10 : Marks w.heap.size w10 ks := ⟨hR.marks.1, fun k hk => by
        have h1 := hR.marks.lt k hk
        have h2 := (hR.marks.2 k hk).1
        refine ⟨by omega, ?_⟩
        rw [hb10.block k (by omega), hg8.block k h1 (by simp; omega)]
        exact (hR.marks.2 k hk).2⟩
      refine leaves_marks (B := w.heap.size) (a0 := w) ks w10 hm10 hb10' fun w' hb' hk' => ?_
      refine ⟨v, (by have := results_tmp (fn := Tryz.f125) rfl; exact this _ _ _), v, ss.mergeSort (fun x y => decide (x ≤ y)), rfl, hb', ?_, ?_, ?_⟩
      · refine StrsAt.of_row (B := (w8.alloc (.cells #[.map (some w.heap.size)] 269)).heap.size) (e := 9) ?_
        obtain ⟨r1, r2⟩ := hrow
        rw [(List.mergeSort_perm ss _).length_eq]
        refine ⟨r1, r2.imp id ?_⟩
        rintro ⟨g, cap, cur, rfl, r3, r4, r5⟩
        refine ⟨g, cap, cur, rfl, r3, (hk' g fun hg => ?_).trans r4, r5⟩
        have h1 := hR.marks.lt g hg
        simp at r3; omega
      · refine (List.pairwise_mergeSort (le := fun x y => decide (x ≤ y)) (fun a b c h1 h2 => ?_) (fun a b => ?_) ss).imp fun h => of_decide_eq_true h
        · simp only [decide_eq_true_eq] at h1 h2 ⊢; exact List.le_trans h1 h2
        · simp only [Bool.or_eq_true, decide_eq_true_eq]; exact List.le_total a b
      · intro x
        rw [(List.mergeSort_perm ss _).mem_iff, hperm2.mem_iff]
        refine (keys_left hDo hDc fol x).trans ?_
        rw [hpo.mem_iff, hpo.count_eq, hpf.mem_iff]
    · intro x c kl yd yp w2 cnt2 hkl hlk hRv hat2 hr2 hlt2 hg2 hs2 hen2
      have hR2 := hR.next hg2 hr2
      obtain ⟨q, hq, rfl⟩ := hhas kl (has_true_of_atKey hat2)
      obtain ⟨x', e1, e2⟩ := Maps.keyOf_string_inv Tryz.underlying9 hkl
      obtain rfl : yd = .held c := (congrArg Prod.fst (Option.some.inj hRv)).symm
      have hc := (hat2 .nil).symm.trans (hat q hq .nil)
      obtain rfl : c = .pointer (some ⟨q.1, 0, none⟩) := by injection hc
      obtain ⟨hip, hok⟩ := hpk q hq
      obtain ⟨nv, bv, fv, hS, h0, h1, h2, h3, h4, g0, g1, g2, n0, n1⟩ := hip
      have h4b := (World.cell?_of_block (a := ⟨q.1, 4, none⟩) (w := w) (hR2.below.block q.1 hS)).trans h4
      obtain ⟨a, cap, rfl, hcap, hfl⟩ := FlOn.get g2
      have HF := Lib.hid hfl
      clear hfl hcap g0 g1 g2 n0 n1 h0 h1 h2 h3
      have hC2 : CountAt w2 (w.heap.size + 1) ((done.flatMap fun q => pathsOf q.2).flatMap Sp.folders) := hC.block (hg2.block _ (by have := hR.size; omega) (by simp))
      have hfew := hok.files
      have hdl := flat_len (fun q : Nat × Sp.Pk => pathsOf q.2) 4 done (fun q hq => by unfold pathsOf; rw [List.length_map]; exact (hpk q (hsub q hq)).2.files)
      go_wp2
      refine wp_loop_down (fun m a' W => ∃ (x8 x9 x24 x25 x26 x27 x28 x29 x30 x31 x32 x33 x34 x35 x36 x37 x38 x39 x40 : Value) (ks : List Nat) (k : Nat),
        a' = { tmps := #[Value.map (some mb), undef, Value.slice none 0 0, Value.map (some w.heap.size),
          Value.pointer (some { block := w.heap.size + 2, off := 0 }), undef,
          Value.pointer (some { block := q.fst, off := 0 }), undef, x8, x9, Value.map (some w.heap.size),
          Value.map (some (w.heap.size + 1)), Value.map (some mb),
          Value.pointer (some { block := w.heap.size + 3, off := 0 }),
          Value.tuple #[Value.bool true, Value.string x, Value.pointer (some { block := q.fst, off := 0 })],
          Value.bool true, Value.tuple #[Value.string x, Value.pointer (some { block := q.fst, off := 0 })],
          Value.pointer (some { block := q.fst, off := 0 }), Value.pointer (some { block := q.fst, off := 0 }),
          Value.pointer (some { block := q.fst, off := 0 }), Value.pointer (some { block := q.fst, off := 4 }),
          Value.slice a q.snd.files.length cap, Value.int IntKind.i64 (q.snd.files.length : Int), Value.int IntKind.i64 (k : Int), x24,
          x25, x26, x27, x28, x29, x30, x31, x32, x33, x34, x35, x36, x37, x38, x39, x40, undef, undef, undef, undef,
          undef, undef], defers := ks.map markOf } ∧ k ≤ q.2.files.length ∧ m = q.2.files.length - k ∧
        Rest w mb L D ((done.flatMap fun q => pathsOf q.2) ++ (pathsOf q.2).take k) (fun z => left z && !z.sameKey (.string q.2.name)) cnt2 ks W ∧
        CountAt W (w.heap.size + 1) (((done.flatMap fun q => pathsOf q.2) ++ (pathsOf q.2).take k).flatMap Sp.folders)) q.2.files.length ?_ ?_
      · exact ⟨_, _, _, _, _, _, _, _, _, _, _, _, _, _, _, _, _, _, _, ks, 0, rfl, by omega, rfl, by simpa using hR2, by simpa using hC2⟩
      · clear hR hR2 hC hC2 h4b
        rintro m a' W2 ⟨x8, x9, x24, x25, x26, x27, x28, x29, x30, x31, x32, x33, x34, x35, x36, x37, x38, x39, x40, ks2, k, rfl, hk, rfl, hR3, hC3⟩
        by_cases hk2 : k < q.2.files.length
        · obtain ⟨b, off, rfl, hbl, hc0, hc1⟩ := HF.out k hk2
          have hd0 := (World.cell?_of_block (w := w) (a := ⟨b, off + k * 2, none⟩) (hR3.below.block b hbl)).trans hc0
          have hd1 := (World.cell?_of_block (w := w) (a := ⟨b, off + k * 2 + 1, none⟩) (hR3.below.block b hbl)).trans hc1
          generalize hpath : q.2.files[k].path = path at hd0
          unfold sv at hd0 hd1
          clear hc0 hc1
          have hpl : path.length ≤ maxLen := by
            have := hok.paths _ (List.getElem_mem hk2)
            rw [hpath] at this; unfold maxLen; omega
          have hol : ((done.flatMap fun q => pathsOf q.2) ++ (pathsOf q.2).take k).length < 800000 := by
            rw [List.length_append, List.length_take]
            unfold pathsOf at hdl ⊢
            rw [List.length_map]; omega
          have hR4 := hR3.alloc (.cells #[Value.string { data := List.toArray path }, Value.string { data := List.toArray q.snd.files[k].content }] 182)
          have hokp := hok
          have hpk1 : (pathsOf q.2).take (k + 1) = (pathsOf q.2).take k ++ [path] := by
            unfold pathsOf; rw [List.take_add_one, List.getElem?_map, List.getElem?_eq_getElem hk2, ← hpath]; rfl
          generalize hok : (done.flatMap fun q => pathsOf q.2) ++ (pathsOf q.2).take k = ownk at hR4 hC3 hol
          have hcc : ownk.count path < 1000000000 := Nat.lt_of_le_of_lt List.count_le_length (by omega)
          have HPK := Lib.hid hpk1
          have HOK := Lib.hid hok
          have hcell : (W2.alloc (.cells #[Value.string { data := List.toArray path }, Value.string { data := List.toArray q.snd.files[k].content }] 182)).cell? ⟨W2.heap.size, 0, none⟩ = some (.string ⟨path.toArray⟩) := by
            rw [World.cell?_alloc_at _ _ _ _ rfl]; rfl
          have hbne : some W2.heap.size ≠ some w.heap.size := by have := hR3.size; simp; omega
          have hk4 : k < 4 := by omega
          clear hfew hpk1 hok hR3
          go_wp2_with (first
            | (at_lookup; refine wp_cnt_get _ rfl _ _ rfl w.heap.size _ rfl hR4.own path hpl rfl ?_)
            | (at_mapUpdate; refine wp_cnt_put _ rfl _ _ _ rfl w.heap.size _ rfl hR4.own (by omega) path hpl rfl rfl ?_; intro W5 hc5 hg5; have hb5 := hg5.cell hcell hbne; have hR5 := hR4.put hg5 hc5)
            | (go_at_call 168; refine (folders_any _ _).mono ?_; rintro e W6 ⟨rfl, rfl⟩))
          have hwb : w.heap.size + 1 < W5.heap.size := by have := hR5.size; omega
          have hC5 : CountAt W5 (w.heap.size + 1) (ownk.flatMap Sp.folders) := (hC3.block (w' := W2.alloc _) (Below.heap_alloc _ _ _ hC3.lt)).kept hg5 (by simp)
          have hpath1000 : path.length < 1000 := by
            have := hokp.paths _ (List.getElem_mem hk2)
            rw [hpath] at this; omega
          have hfl5 : (ownk.flatMap Sp.folders).length < 900000000 := by
            have h1 := flat_len Sp.folders 1000 ownk (fun s hs => by
              rw [← HOK.out] at hs
              have hfs : (Sp.folders s).length ≤ s.length := by
                unfold Sp.folders; rw [List.length_map]; exact Nat.le_trans (List.length_filter_le _ _) (by simp)
              have hs2 : ∃ p : Sp.Pk, PkOk p ∧ s ∈ pathsOf p := by
                rcases List.mem_append.1 hs with hs | hs
                · obtain ⟨q', hq', hs⟩ := List.mem_flatMap.1 hs
                  exact ⟨q'.2, (hpk q' (hsub q' hq')).2, hs⟩
                · exact ⟨q.2, hokp, List.mem_of_mem_take hs⟩
              obtain ⟨p', hp', hs3⟩ := hs2
              obtain ⟨f, hf, rfl⟩ := List.mem_map.1 hs3
              have := hp'.paths f hf; omega)
            omega
          refine wpIn_wide.1 (wpIn_rangeFunc_ownG (F := Fence.wide) (n := 6) rfl (by omega) (gf := 216) (lb := #[.pointer (some ⟨W5.heap.size, 0, none⟩)]) rfl trivial (enters_of Tryz.func216 (by kernel_rfl) rfl)
            (folders_stops Fence.wide 5 trivial rfl (by omega) W5.heap.size (W5.heap.size + 1) (w.heap.size + 1) ⟨path.toArray⟩ (by rw [← bl_len, bl_mk]; omega) (W5.alloc (.cells #[.string ⟨path.toArray⟩] 9)) (by omega) (by omega) (by simp) (by rw [World.cell?_alloc_at _ _ _ _ rfl]; rfl))
            FrN.trans ?hKb (Below.refl _ _) (fun _ => rfl)
            (fun pre W => CountAt W (w.heap.size + 1) (ownk.flatMap Sp.folders ++ pre.map (·.1)) ∧ FrN (W5.heap.size + 1) (w.heap.size + 1) (W5.alloc (.cells #[.string ⟨path.toArray⟩] 9)) W) (fun _ _ _ => False) ?hI ?hIx ?h0
            (fun x2 => { tmps := #[Value.map (some mb), undef, Value.slice none 0 0, Value.map (some w.heap.size),
          Value.pointer (some { block := w.heap.size + 2, off := 0 }), undef,
          Value.pointer (some { block := q.fst, off := 0 }), undef,
          Value.pointer (some { block := W2.heap.size, off := 0 }), .string ⟨x2.1.toArray⟩, Value.map (some w.heap.size),
          Value.map (some (w.heap.size + 1)), Value.map (some mb),
          Value.pointer (some { block := w.heap.size + 3, off := 0 }),
          Value.tuple #[Value.bool true, Value.string x, Value.pointer (some { block := q.fst, off := 0 })],
          Value.bool true, Value.tuple #[Value.string x, Value.pointer (some { block := q.fst, off := 0 })],
          Value.pointer (some { block := q.fst, off := 0 }), Value.pointer (some { block := q.fst, off := 0 }),
          Value.pointer (some { block := q.fst, off := 0 }), Value.pointer (some { block := q.fst, off := 4 }),
          Value.slice (some { block := b, off := off }) q.snd.files.length cap,
          Value.int IntKind.i64 (q.snd.files.length : Int), Value.int IntKind.i64 (k : Int), Value.bool true,
          Value.pointer (some { block := b, off := off + k * 2 }),
          Value.agg
            #[Value.string { data := List.toArray path }, Value.string { data := List.toArray q.snd.files[k].content }],
          Value.map (some w.heap.size), Value.pointer (some { block := W2.heap.size, off := 0 }),
          Value.string { data := List.toArray path }, Value.int IntKind.i64 (List.count path ownk : Int),
          Value.int IntKind.i64 ((List.count path ownk : Int) + 1), Value.pointer (some { block := W2.heap.size, off := 0 }),
          Value.string { data := List.toArray path },
          Value.func (Fn.func 216) #[] #[Value.pointer (some { block := W5.heap.size, off := 0 })], .string ⟨x2.1.toArray⟩, x36, x37, x38,
          x39, x40, undef, undef, undef, undef, undef, undef], defers := [] }) ?assign ?body ?done ?stop)
          case hKb =>
            intro W l o o' hl ho _ _
            simp at hl
            exact ⟨rfl, rfl, rfl, by simp [World.putObj], fun j hj hne => World.putObj_heap_other (by omega)⟩
          case hI =>
            rintro pre A B row ⟨h1, h2⟩ hg hr
            refine ⟨h1.kept hg fun e => ?_, h2.trans ⟨hg.os, hg.tape, hg.output, hg.size, fun j hj hne => ?_⟩⟩
            · have := (hr _ e.symm).1; simp at this; omega
            · have h2s := h2.size
              simp at h2s
              refine hg.block j (by omega) fun e => ?_
              have := (hr _ e.symm).1; simp at this; omega
          case hIx => intro c s A B row h; exact h.elim
          case h0 => exact ⟨by simpa using hC5.block (w' := W5.alloc _) (Below.heap_alloc _ _ _ hC5.lt), FrN.refl _ _ _⟩
          case assign =>
            intro l x2 W K hK
            gi_wp2
            exact hK
          case stop => intro D c pre W _ _ h; exact h.elim
          case done =>
            intro D2 xs W hD2 hxs hIx hdef
            go_wp2
            have hR6 := ((hR5.alloc (.cells #[.string ⟨path.toArray⟩] 9)).frn hIx.2 (by simp))
            simp only [World.size_alloc] at hD2
            have hR7 := hR6.mark hdef (fun hm => by have := hR5.marks.lt D2 hm; omega) (by have := hR5.size; omega)
            refine ⟨q.2.files.length - (k + 1), by omega, _, _, _, _, _, _, _, _, _, _, _, _, _, _, _, _, _, _, _, D2 :: ks2, k + 1, rfl, hk2, rfl, ?_, ?_⟩
            · rw [HPK.out, ← List.append_assoc, HOK.out]; exact hR7
            · rw [HPK.out, ← List.append_assoc, HOK.out, List.flatMap_append]
              have h8 := hIx.1
              rw [hxs, bl_mk] at h8
              simpa using h8
          case body =>
            rintro l pre x2 W ⟨hc6, hf6⟩ hpre
            simp only [bl_mk] at hpre
            dsimp only
            have hb6 : W.cell? ⟨w.heap.size + 2, 0, none⟩ = some (.map (some (w.heap.size + 1))) := (hf6.cell (by show w.heap.size + 2 < _; omega) (by simp)).trans (hR5.alloc _).box
            have hlen6 : (ownk.flatMap Sp.folders ++ pre.map (·.1)).length < 1000000000 := by rw [List.length_append, List.length_map]; omega
            have hx2 : x2.1.length ≤ maxLen := by have := x2.2; unfold maxLen; omega
            generalize hfk : ownk.flatMap Sp.folders ++ pre.map (·.1) = folk at hc6 hlen6
            have hcc6 : folk.count x2.1 < 1000000000 := Nat.lt_of_le_of_lt List.count_le_length hlen6
            gi_wp2_with (first
              | (gi_at_lookup; refine wpIn_cnt_get _ rfl _ _ rfl (w.heap.size + 1) _ rfl hc6 x2.1 hx2 rfl ?_)
              | (gi_at_mapUpdate; refine wpIn_cnt_put _ rfl _ _ _ rfl (w.heap.size + 1) _ rfl hc6 hlen6 x2.1 hx2 rfl rfl ?_; intro W7 hc7 hg7))
            have hwlt : ∀ j, some (w.heap.size + 1) = some j → j < (W5.alloc (.cells #[.string ⟨path.toArray⟩] 9)).heap.size := by intro j e; cases e; simp; omega
            have hf7 : FrN (W5.heap.size + 1) (w.heap.size + 1) W W7 := ⟨hg7.os, hg7.tape, hg7.output, hg7.size, fun j hj hne => hg7.block j (by have := hf6.size; simp at this; omega) (fun e => hne (by cases e; rfl))⟩
            refine ⟨KeepsFrom.of_grownBy hg7 hwlt, hf7, ?_, hf6.trans hf7⟩
            rw [List.map_append, ← List.append_assoc, hfk]
            exact hc7
        · obtain rfl : k = q.2.files.length := by omega
          go_wp2
          refine ⟨cnt2, hlt2, _, _, _, _, _, _, _, _, _, _, _, _, _, _, _, _, _, _, _, _, _, _, _, _, _, _, _, _, _, _, ks2, done ++ [q], fun z => left z && !z.sameKey (.string q.2.name), rfl, ?_, ?_, ?_, ?_, ?_⟩
          · rw [List.flatMap_append]
            have e8 : (pathsOf q.2).take q.2.files.length = pathsOf q.2 := by unfold pathsOf; rw [← List.length_map (f := fun f : Sp.Fl => f.path), List.take_length]
            rw [e8] at hR3
            simpa using hR3
          · have e8 : (pathsOf q.2).take q.2.files.length = pathsOf q.2 := by unfold pathsOf; rw [← List.length_map (f := fun f : Sp.Fl => f.path), List.take_length]
            rw [e8] at hC3
            simpa using hC3
          · refine List.nodup_append.2 ⟨hnd, by simp, ?_⟩
            rintro r hr r' hr' rfl
            rw [List.mem_singleton] at hr'
            subst hr'
            exact ((hleft r hq).1 hlk) hr
          · intro r hr
            rcases List.mem_append.1 hr with h | h
            · exact hsub r h
            · rw [List.mem_singleton] at h; exact h ▸ hq
          · refine ⟨fun r hr => ?_, by rw [List.length_append]; simp; omega⟩
            rw [Bool.and_eq_true, hleft r hr, Bool.not_eq_true', List.mem_append, List.mem_singleton, not_or]
            refine and_congr_right fun _ => ?_
            rw [← Bool.not_eq_true, WideAt.sameKey_iff (isKey9 _ (by have := (hpk q hq).2.name; unfold maxLen; omega))]
            constructor
            · rintro h rfl; exact h rfl
            · intro h e
              injection e with e
              exact h (names_one hap r hr q hq e)
end Go.Proofs.YtfphcecjhdkcoaaGreatDoor
/-
Maps from texts to values, in memory: as lists of keys with their values.
-/
namespace Go.Proofs.YtfphcecjhdkcoaaGreatDoor
open Go.RowKit Go.Maps
abbrev KV := List (Sp.Str × Value)
def getKV (kv : KV) (x : Sp.Str) (z : Value) : Value := match kv.find? (fun q => q.1 == x) with
  | some q => q.2
  | none => z
def hasKV (kv : KV) (x : Sp.Str) : Bool := kv.any fun q => q.1 == x
def dropKV (kv : KV) (x : Sp.Str) : KV := kv.filter fun q => q.1 != x
/-- Block b's datum shows these keys, with these values. -/
structure Shows (D : DataW Value) (kv : KV) : Prop where
  tidy : Maps.Tidy D
  at_ : ∀ q ∈ kv, ∀ z, D.atKey (.string q.1) z = .held q.2
  has_ : ∀ k, Maps.has D k = true ↔ ∃ q ∈ kv, k = .string q.1
  size_ : Maps.size D = kv.length
  apart : kv.Pairwise fun p q => p.1 ≠ q.1
  keys : ∀ q ∈ kv, q.1.length ≤ maxLen
def MapAt (w : World) (b : Nat) (kv : KV) : Prop := ∃ D, w.ownsMap Tryz.prog 9 Rv b kv.length D ∧ Shows D kv
namespace MP
theorem get_mem {kv : KV} (ha : kv.Pairwise fun p q => p.1 ≠ q.1) {q : Sp.Str × Value} (hq : q ∈ kv) (z : Value) : getKV kv q.1 z = q.2 := by
  unfold getKV
  have : kv.find? (fun p => p.1 == q.1) = some q := by
    induction kv with
    | nil => cases hq
    | cons p r ih =>
      obtain ⟨h1, h2⟩ := List.pairwise_cons.1 ha
      rcases List.mem_cons.1 hq with rfl | hq
      · rw [List.find?_cons_of_pos (by simp)]
      · rw [List.find?_cons_of_neg (by simpa using h1 q hq)]
        exact ih h2 hq
  rw [this]
theorem has_iff {kv : KV} {x : Sp.Str} : hasKV kv x = true ↔ ∃ q ∈ kv, q.1 = x := by
  unfold hasKV; rw [List.any_eq_true]; simp
theorem get_none {kv : KV} {x : Sp.Str} (h : hasKV kv x = false) (z : Value) : getKV kv x z = z := by
  unfold getKV
  have : kv.find? (fun p => p.1 == x) = none := by
    rw [List.find?_eq_none]
    intro q hq he
    rw [← Bool.not_eq_true, has_iff] at h
    exact h ⟨q, hq, by simpa using he⟩
  rw [this]
theorem has_lit {D : DataW Value} {kv : KV} (h : Shows D kv) (x : Sp.Str) : Maps.has D (.string x) = hasKV kv x := by
  rw [Bool.eq_iff_iff, h.has_, has_iff]
  exact ⟨fun ⟨q, hq, e⟩ => ⟨q, hq, by injection e with e; exact e.symm⟩, fun ⟨q, hq, e⟩ => ⟨q, hq, by rw [e]⟩⟩
theorem at_lit {D : DataW Value} {kv : KV} (h : Shows D kv) (x : Sp.Str) (z : Value) : D.atKey (.string x) (.held z) = .held (getKV kv x z) := by
  cases hh : hasKV kv x with
  | true =>
    obtain ⟨q, hq, rfl⟩ := has_iff.1 hh
    rw [h.at_ q hq, get_mem h.apart hq]
  | false =>
    rw [get_none hh, Maps.atKey_of_not_has (by rw [has_lit h, hh])]
theorem shows_nil : Shows (.map []) [] := ⟨Maps.tidy_empty, (fun q hq => by cases hq), (fun k => by simp [Maps.has]), rfl, List.Pairwise.nil, (fun q hq => by cases hq)⟩
theorem shows_perm {D : DataW Value} {kv kv' : KV} (h : Shows D kv) (hp : kv.Perm kv') : Shows D kv' :=
  ⟨h.tidy, fun q hq => h.at_ q (hp.mem_iff.2 hq), fun k => (h.has_ k).trans ⟨fun ⟨q, hq, e⟩ => ⟨q, hp.mem_iff.1 hq, e⟩, fun ⟨q, hq, e⟩ => ⟨q, hp.mem_iff.2 hq, e⟩⟩, h.size_.trans hp.length_eq, (hp.pairwise_iff (fun hab => fun e => hab e.symm)).1 h.apart, fun q hq => h.keys q (hp.mem_iff.2 hq)⟩
theorem shows_new {D : DataW Value} {kv : KV} (h : Shows D kv) {x : Sp.Str} (hx : x.length ≤ maxLen) (hn : hasKV kv x = false) (v : Value) : Shows (D.put (.string x) (.held v)) (kv ++ [(x, v)]) := by
  have hne : ∀ q ∈ kv, q.1 ≠ x := fun q hq e => by
    rw [← Bool.not_eq_true, has_iff] at hn; exact hn ⟨q, hq, e⟩
  refine ⟨h.tidy.put (isKey9 x hx) _, fun q hq z => ?_, fun k => ?_, ?_, ?_, fun q hq => ?_⟩
  · rcases List.mem_append.1 hq with hq | hq
    · rw [Maps.atKey_put_other (fun e => hne q hq (by injection e)), h.at_ q hq]
    · rw [List.mem_singleton] at hq; subst hq
      exact Maps.atKey_put_same h.tidy.isMap (isKey9 x hx) _ _
  · by_cases e : k = .string x
    · subst e
      rw [Maps.has_put_same h.tidy.isMap (isKey9 x hx)]
      exact ⟨fun _ => ⟨(x, v), by simp, rfl⟩, fun _ => rfl⟩
    · rw [Maps.has_put_other e, h.has_]
      constructor
      · rintro ⟨q, hq, e⟩; exact ⟨q, by simp [hq], e⟩
      · rintro ⟨q, hq, e2⟩
        rcases List.mem_append.1 hq with hq | hq
        · exact ⟨q, hq, e2⟩
        · rw [List.mem_singleton] at hq; subst hq; exact absurd e2 e
  · rw [Maps.size_put h.tidy, has_lit h, hn, h.size_]; simp
  · rw [List.pairwise_append]
    refine ⟨h.apart, by simp, fun p hp q hq => ?_⟩
    rw [List.mem_singleton] at hq; subst hq
    exact hne p hp
  · rcases List.mem_append.1 hq with hq | hq
    · exact h.keys q hq
    · rw [List.mem_singleton] at hq; subst hq; exact hx
/-- The same value once more. -/
theorem shows_same {D : DataW Value} {kv : KV} (h : Shows D kv) {q : Sp.Str × Value} (hq : q ∈ kv) : Shows (D.put (.string q.1) (.held q.2)) kv := by
  have hx := h.keys q hq
  have hh : Maps.has D (.string q.1) = true := (h.has_ _).2 ⟨q, hq, rfl⟩
  refine ⟨h.tidy.put (isKey9 _ hx) _, fun p hp z => ?_, fun k => ?_, ?_, h.apart, h.keys⟩
  · by_cases e : p.1 = q.1
    · have : p = q := by
        have h1 := get_mem h.apart hp .nilIface
        have h2 := get_mem h.apart hq .nilIface
        rw [e, h2] at h1
        exact Prod.ext e h1.symm
      subst this
      exact Maps.atKey_put_same h.tidy.isMap (isKey9 _ hx) _ _
    · rw [Maps.atKey_put_other (fun e2 => e (by injection e2)), h.at_ p hp]
  · by_cases e : k = .string q.1
    · subst e
      rw [Maps.has_put_same h.tidy.isMap (isKey9 _ hx)]
      exact ⟨fun _ => ⟨q, hq, rfl⟩, fun _ => rfl⟩
    · rw [Maps.has_put_other e, h.has_]
  · rw [Maps.size_put h.tidy, hh, h.size_]; rfl
theorem mem_drop {kv : KV} {x : Sp.Str} {q : Sp.Str × Value} : q ∈ dropKV kv x ↔ q ∈ kv ∧ q.1 ≠ x := by
  unfold dropKV; rw [List.mem_filter]; simp
theorem shows_del {D : DataW Value} {kv : KV} (h : Shows D kv) (x : Sp.Str) : Shows (D.del (.string x)) (dropKV kv x) := by
  refine ⟨h.tidy.del _, fun q hq z => ?_, fun k => ?_, ?_, h.apart.sublist List.filter_sublist, fun q hq => h.keys q (mem_drop.1 hq).1⟩
  · obtain ⟨h1, h2⟩ := mem_drop.1 hq
    rw [Maps.atKey_del_other (fun e => h2 (by injection e)), h.at_ q h1]
  · by_cases e : k = .string x
    · subst e
      rw [Maps.has_del_same]
      constructor
      · intro hh; cases hh
      · rintro ⟨q, hq, e⟩
        exact absurd (by injection e with e; exact e.symm) (mem_drop.1 hq).2
    · rw [Maps.has_del_other e, h.has_]
      constructor
      · rintro ⟨q, hq, rfl⟩; exact ⟨q, mem_drop.2 ⟨hq, fun e2 => e (by rw [e2])⟩, rfl⟩
      · rintro ⟨q, hq, e2⟩; exact ⟨q, (mem_drop.1 hq).1, e2⟩
  · have h1 := Maps.size_del (k := .string x) h.tidy
    rw [has_lit h, h.size_] at h1
    have h2 : (dropKV kv x).length + (if hasKV kv x then 1 else 0) = kv.length := by
      have ha := h.apart
      clear h h1
      induction kv with
      | nil => rfl
      | cons p r ih =>
        obtain ⟨h1, h2⟩ := List.pairwise_cons.1 ha
        have hi := ih h2
        unfold dropKV hasKV at hi ⊢
        by_cases e : p.1 = x
        · have hr : r.any (fun q => q.1 == x) = false := by
            rw [List.any_eq_false]; intro q hq; have := h1 q hq; rw [e] at this; simp; exact fun e2 => this e2.symm
          rw [hr] at hi
          rw [List.filter_cons_of_neg (by simp [e]), List.any_cons, hr]
          simp [e] at hi ⊢; omega
        · rw [List.filter_cons_of_pos (by simp [e]), List.any_cons]
          have : (p.1 == x) = false := by simpa using e
          rw [this, Bool.false_or, List.length_cons, List.length_cons]; omega
    omega
theorem drop_perm {kv : KV} (ha : kv.Pairwise fun p q => p.1 ≠ q.1) {q : Sp.Str × Value} (hq : q ∈ kv) : kv.Perm (q :: dropKV kv q.1) := by
  induction kv with
  | nil => cases hq
  | cons p r ih =>
    obtain ⟨h1, h2⟩ := List.pairwise_cons.1 ha
    unfold dropKV at ih ⊢
    rcases List.mem_cons.1 hq with rfl | hq
    · rw [List.filter_cons_of_neg (by simp)]
      have : r.filter (fun p => p.1 != q.1) = r := by
        rw [List.filter_eq_self]; intro p hp; simpa using fun e => h1 p hp e.symm
      rw [this]
    · rw [List.filter_cons_of_pos (by simpa using h1 q hq)]
      exact ((ih h2 hq).cons p).trans (List.Perm.swap q p _)
end MP
theorem MapAt.lt {w : World} {b : Nat} {kv : KV} (h : MapAt w b kv) : b < w.heap.size := by obtain ⟨D, h1, _⟩ := h; exact h1.lt
theorem MapAt.block {w w' : World} {b : Nat} {kv : KV} (h : MapAt w b kv) (hb : w'.heap[b]? = w.heap[b]?) : MapAt w' b kv := by
  obtain ⟨D, ⟨es, clock, h1, r⟩, h2⟩ := h; exact ⟨D, ⟨es, clock, by rw [hb]; exact h1, r⟩, h2⟩
theorem MapAt.below {w w' : World} {b B : Nat} {kv : KV} (h : MapAt w b kv) (hb : Below B w w') (hB : b < B) : MapAt w' b kv := h.block (hb.block b hB)
theorem MapAt.perm {w : World} {b : Nat} {kv kv' : KV} (h : MapAt w b kv) (hp : kv.Perm kv') : MapAt w b kv' := by
  obtain ⟨D, h1, h2⟩ := h; exact ⟨D, by rw [← hp.length_eq]; exact h1, MP.shows_perm h2 hp⟩
theorem MapAt.apart {w : World} {b : Nat} {kv : KV} (h : MapAt w b kv) : kv.Pairwise fun p q => p.1 ≠ q.1 := by obtain ⟨_, _, h2⟩ := h; exact h2.apart
theorem MapAt.keys {w : World} {b : Nat} {kv : KV} (h : MapAt w b kv) : ∀ q ∈ kv, q.1.length ≤ maxLen := by obtain ⟨_, _, h2⟩ := h; exact h2.keys
theorem MapAt.made (w : World) : MapAt (w.alloc (.map #[] 0)) w.heap.size [] := ⟨.map [], World.ownsMap_made w Tryz.prog 9 _, MP.shows_nil⟩
theorem MapAt.look {w : World} {b : Nat} {kv : KV} {t e : TypeId} {z : Value} (h : MapAt w b kv) (ht : Tryz.prog.underlying t = some (.map 9 e)) (hz : ∀ w, (zeroValue e).run Tryz.prog w = .ok z w) (x : Sp.Str) (hx : x.length ≤ maxLen) :
    (Instr.lookup t (.map (some b)) (.string ⟨x.toArray⟩) false).run Tryz.prog w = .ok (getKV kv x z) w := by
  obtain ⟨D, h1, h2⟩ := h
  obtain ⟨v, ps, hrun, hv⟩ := h1.lookup keyed9 ht (hz w) (zd := .held z) (zp := []) rfl (keyOf9 x hx)
  rw [hrun]
  have e := congrArg Prod.fst (Option.some.inj hv)
  rw [MP.at_lit h2] at e
  have : v = getKV kv x z := by simpa using e
  rw [this]
theorem MapAt.look_ok {w : World} {b : Nat} {kv : KV} {t e : TypeId} {z : Value} (h : MapAt w b kv) (ht : Tryz.prog.underlying t = some (.map 9 e)) (hz : ∀ w, (zeroValue e).run Tryz.prog w = .ok z w) (x : Sp.Str) (hx : x.length ≤ maxLen) :
    (Instr.lookup t (.map (some b)) (.string ⟨x.toArray⟩) true).run Tryz.prog w = .ok (.tuple #[getKV kv x z, .bool (hasKV kv x)]) w := by
  obtain ⟨D, h1, h2⟩ := h
  obtain ⟨v, ps, hrun, hv⟩ := h1.look_ok keyed9 ht (hz w) (zd := .held z) (zp := []) rfl (keyOf9 x hx)
  rw [hrun, MP.has_lit h2]
  have e := congrArg Prod.fst (Option.some.inj hv)
  rw [MP.at_lit h2] at e
  have : v = getKV kv x z := by simpa using e
  rw [this]
theorem MapAt.len {w : World} {b : Nat} {kv : KV} {t e : TypeId} (h : MapAt w b kv) (ht : Tryz.prog.underlying t = some (.map 9 e)) (ty : TypeId) : (Builtin.len_ #[t] ty #[.map (some b)]).run Tryz.prog w = .ok (.int .i64 kv.length) w := by
  obtain ⟨D, h1, h2⟩ := h
  rw [h1.len ht ty, h2.size_]
theorem MapAt.put {w : World} {b : Nat} {kv : KV} {t e : TypeId} (h : MapAt w b kv) (ht : Tryz.prog.underlying t = some (.map 9 e)) (hn : kv.length < 1000000000) (x : Sp.Str) (hx : x.length ≤ maxLen) (hnew : hasKV kv x = false) (v : Value) :
    ∃ w', (Instr.mapUpdate t (.map (some b)) (.string ⟨x.toArray⟩) v).run Tryz.prog w = .ok () w' ∧ MapAt w' b (kv ++ [(x, v)]) ∧ w.grownBy w' (some b) := by
  obtain ⟨D, h1, h2⟩ := h
  obtain ⟨w', r1, r2, r3⟩ := h1.update keyed9 ht (by unfold maxLen; omega) (d := .held v) (ps := []) (keyOf9 x hx) rfl
  exact ⟨w', r1, ⟨_, by rw [List.length_append]; exact r2, MP.shows_new h2 hx hnew v⟩, r3⟩
section
variable (w : World) {ops : Array Oper} {rest : List Oper} {o : Oper} {a : Act} {Q : Exit → Act → World → Prop}
theorem wp_map_put (t e : TypeId) (hg : o.guard = none) (m x v : Operand) (hop : o.op = Op.mapUpdate t m x v) (ht : Tryz.prog.underlying t = some (.map 9 e)) (b : Nat) (kv : KV) (hm : a.eval m = .map (some b)) (h : MapAt w b kv) (hn : kv.length < 1000000000) (s : Sp.Str) (hs : s.length ≤ maxLen)
    (hnew : hasKV kv s = false) (hx : a.eval x = .string ⟨s.toArray⟩) (u : Value) (hv : a.eval v = u)
    (K : ∀ w', MapAt w' b (kv ++ [(s, u)]) → w.grownBy w' (some b) → wpList Tryz.prog ops Q rest (a.put o.dst undef) w') : wpList Tryz.prog ops Q (o :: rest) a w := by
  obtain ⟨D, h1, h2⟩ := h
  refine wpList_mapUpdate_own w hg m x v t hop 9 e keyed9 ht _ b _ D hm h1 (by unfold maxLen; omega) _ _ _ hx hv (keyOf9 s hs) (.held u) [] rfl fun w' h3 h4 => K w' ⟨_, ?_, MP.shows_new h2 hs hnew u⟩ h4
  rw [List.length_append]; exact h3
theorem wp_map_same (t e : TypeId) (hg : o.guard = none) (m x v : Operand) (hop : o.op = Op.mapUpdate t m x v) (ht : Tryz.prog.underlying t = some (.map 9 e)) (b : Nat) (kv : KV) (hm : a.eval m = .map (some b)) (h : MapAt w b kv) (hn : kv.length < 1000000000) (s : Sp.Str)
    (u : Value) (hold : (s, u) ∈ kv) (hx : a.eval x = .string ⟨s.toArray⟩) (hv : a.eval v = u)
    (K : ∀ w', MapAt w' b kv → w.grownBy w' (some b) → wpList Tryz.prog ops Q rest (a.put o.dst undef) w') : wpList Tryz.prog ops Q (o :: rest) a w := by
  obtain ⟨D, h1, h2⟩ := h
  refine wpList_mapUpdate_own w hg m x v t hop 9 e keyed9 ht _ b _ D hm h1 (by unfold maxLen; omega) _ _ _ hx hv (keyOf9 s (h2.keys _ hold)) (.held u) [] rfl fun w' h3 h4 => K w' ⟨_, ?_, MP.shows_same h2 hold⟩ h4
  obtain ⟨es, clock, k1, k2, k3, k4⟩ := h3
  refine ⟨es, clock, k1, k2, ?_, k4⟩
  have hs := (MP.shows_same h2 hold).size_
  rw [k4] at hs
  have : es.size = kv.length := by rw [← hs]; simp [Maps.size, Go.length_sorted]
  omega
theorem wp_map_del (t e : TypeId) (hg : o.guard = none) (m x : Operand) (hop : o.op = Op.call { callee := Callee.builtin Builtin.delete, args := #[m, x], argTypes := #[t, 9] }) (ht : Tryz.prog.underlying t = some (.map 9 e)) (b : Nat) (kv : KV) (hm : a.eval m = .map (some b)) (h : MapAt w b kv) (s : Sp.Str) (hs : s.length ≤ maxLen)
    (hx : a.eval x = .string ⟨s.toArray⟩)
    (K : ∀ w', MapAt w' b (dropKV kv s) → w.grownBy w' (some b) → wpList Tryz.prog ops Q rest (a.put o.dst (.tuple #[])) w') : wpList Tryz.prog ops Q (o :: rest) a w := by
  obtain ⟨D, h1, h2⟩ := h
  refine wpList_delete_own w hg m x t 9 hop e keyed9 ht _ b _ D hm h1 _ _ hx (keyOf9 s hs) fun w' h3 h4 => K w' ⟨_, ?_, MP.shows_del h2 s⟩ h4.grown
  obtain ⟨es, clock, k1, k2, k3, k4⟩ := h3
  refine ⟨es, clock, k1, k2, ?_, k4⟩
  have hz := (MP.shows_del h2 s).size_
  rw [k4] at hz
  have : es.size = (dropKV kv s).length := by rw [← hz]; simp [Maps.size, Go.length_sorted]
  omega
end
/-- A range over a map: what is still to come. -/
def RangeAt (w : World) (b r : Nat) (kv todo : KV) : Prop :=
  ∃ D left cnt, w.ranges Tryz.prog 9 Rv b r kv.length D left cnt ∧ Shows D kv ∧ (∀ x, left (.string x) = hasKV todo x) ∧ (∀ q ∈ todo, q ∈ kv) ∧ todo.Pairwise fun p q => p.1 ≠ q.1
theorem RangeAt.map {w : World} {b r : Nat} {kv todo : KV} (h : RangeAt w b r kv todo) : MapAt w b kv := by
  obtain ⟨D, left, cnt, h1, h2, _⟩ := h; exact ⟨D, h1.owns, h2⟩
theorem RangeAt.lt {w : World} {b r : Nat} {kv todo : KV} (h : RangeAt w b r kv todo) : r < w.heap.size := by
  obtain ⟨D, left, cnt, h1, h2, _⟩ := h; exact h1.lt
theorem RangeAt.block {w w' : World} {b r : Nat} {kv todo : KV} (h : RangeAt w b r kv todo) (hb : w'.heap[b]? = w.heap[b]?) (hr : w'.heap[r]? = w.heap[r]?) : RangeAt w' b r kv todo := by
  obtain ⟨D, left, cnt, h1, h2, h3⟩ := h; exact ⟨D, left, cnt, ranges_block h1 hb hr, h2, h3⟩
theorem rangeLeft_block {w w' : World} {b r : Nat} (hb : w'.heap[b]? = w.heap[b]?) (hr : w'.heap[r]? = w.heap[r]?) : w'.rangeLeft b r = w.rangeLeft b r := by unfold World.rangeLeft; rw [hb, hr]
theorem RangeAt.sub {w : World} {b r : Nat} {kv todo : KV} (h : RangeAt w b r kv todo) : ∀ q ∈ todo, q ∈ kv := by
  obtain ⟨D, left, cnt, h1, h2, h3, h4, h5⟩ := h; exact h4
theorem RangeAt.apart {w : World} {b r : Nat} {kv todo : KV} (h : RangeAt w b r kv todo) : todo.Pairwise fun p q => p.1 ≠ q.1 := by
  obtain ⟨D, left, cnt, h1, h2, h3, h4, h5⟩ := h; exact h5
section
variable (w : World) {ops : Array Oper} {rest : List Oper} {o : Oper} {a : Act} {Q : Exit → Act → World → Prop}
theorem wp_map_range (t e : TypeId) (hg : o.guard = none) (m : Operand) (hop : o.op = Op.range t m) (ht : Tryz.prog.underlying t = some (.map 9 e)) (b : Nat) (kv : KV) (hm : a.eval m = .map (some b)) (h : MapAt w b kv)
    (K : ∀ w', RangeAt w' b w.heap.size kv kv → w.grownBy w' none → w'.heap.size = w.heap.size + 1 → wpList Tryz.prog ops Q rest (a.put o.dst (.pointer (some ⟨w.heap.size, 0, none⟩))) w') : wpList Tryz.prog ops Q (o :: rest) a w := by
  obtain ⟨D, h1, h2⟩ := h
  exact wpList_range_own w hg m t hop 9 e keyed9 ht _ b _ D hm h1 fun w' r1 r2 r3 => K w' ⟨D, _, _, r1, h2, fun x => MP.has_lit h2 x, fun q hq => hq, h2.apart⟩ r2 r3
theorem wp_map_next (hg : o.guard = none) (it : Operand) (hop : o.op = Op.next it false) (b r : Nat) (kv todo : KV) (hit : a.eval it = .pointer (some ⟨r, 0, none⟩)) (h : RangeAt w b r kv todo)
    (hDone : todo = [] → wpList Tryz.prog ops Q rest (a.put o.dst (.tuple #[.bool false])) w)
    (hMore : ∀ (q : Sp.Str × Value) (w' : World), q ∈ todo → RangeAt w' b r kv (dropKV todo q.1) → w.grownBy w' (some r) → w'.heap.size = w.heap.size →
      (Instr.entry (.pointer (some ⟨r, 0, none⟩))).run Tryz.prog w' = .ok (.tuple #[.string ⟨q.1.toArray⟩, q.2]) w' → w'.rangeLeft b r < w.rangeLeft b r → wpList Tryz.prog ops Q rest (a.put o.dst (.tuple #[.bool true, .string ⟨q.1.toArray⟩, q.2])) w') : wpList Tryz.prog ops Q (o :: rest) a w := by
  obtain ⟨D, left, cnt, h1, h2, h3, h4, h5⟩ := h
  refine wpList_next_ranges w hg it hop 9 keyed9 Rv Value.string (fun v : Value => v) (fun key kl hkey => str_of_key hkey) (fun v y _ => ⟨v, rfl⟩) b r _ D left cnt hit h1 (fun _ hl => hDone ?_) ?_
  · refine List.eq_nil_iff_forall_not_mem.2 fun q hq => ?_
    have := hl (.string q.1)
    rw [h3, MP.has_iff.2 ⟨q, hq, rfl⟩] at this; cases this
  · intro x c kl y w' cnt' hkl hlk hRv hat hr2 hltc hg2 hs2 hen
    have hkl2 : kl = .string (bl x) := by
      by_cases hx : x.size ≤ maxLen
      · have h9 := WideMaps.keyOf_string_mk Tryz.underlying9 hx
        rw [hkl] at h9
        exact Option.some.inj h9
      · simp [keyOf, Tryz.underlying9, mapKey, hx] at hkl
    subst hkl2
    rw [h3] at hlk
    obtain ⟨q, hq, hqx⟩ := MP.has_iff.1 hlk
    have hx : (⟨q.1.toArray⟩ : ByteArray) = x := by rw [hqx]; exact mk_bl x
    obtain rfl : y = (.held c, []) := (Option.some.inj hRv).symm
    have hc : q.2 = c := by
      have h6 := h2.at_ q (h4 q hq) .nil
      rw [hqx, hat .nil] at h6
      exact (DataW.held.inj h6).symm
    have := hMore q w' hq ⟨D, _, cnt', hr2, h2, fun z => ?_, fun p hp => h4 p (MP.mem_drop.1 hp).1, h5.sublist List.filter_sublist⟩ hg2 hs2 (by rw [hx, hc]; exact hen) (by rw [hr2.left_eq, h1.left_eq]; exact hltc)
    · rw [hx, hc] at this; exact this
    · rw [h3, Bool.eq_iff_iff, Bool.and_eq_true, MP.has_iff, MP.has_iff, Bool.not_eq_true', ← Bool.not_eq_true]
      have hk : (Lit.string z).sameKey (Lit.string (bl x)) = true ↔ z = bl x := by
        rw [WideAt.sameKey_iff (isKey9 _ (by rw [← hqx]; exact h2.keys q (h4 q hq)))]
        exact ⟨fun e => by injection e, fun e => by rw [e]⟩
      constructor
      · rintro ⟨⟨p, hp, rfl⟩, hne⟩
        exact ⟨p, MP.mem_drop.2 ⟨hp, fun e => hne (hk.2 (by rw [e, hqx]))⟩, rfl⟩
      · rintro ⟨p, hp, rfl⟩
        obtain ⟨h6, h7⟩ := MP.mem_drop.1 hp
        exact ⟨⟨p, h6, rfl⟩, fun e => h7 (by rw [hk.1 e, hqx])⟩
end
end Go.Proofs.YtfphcecjhdkcoaaGreatDoor
/-
Plain laws: the reference's way of taking a choice and a line apart comes to what Sp says.
-/
namespace Go.Proofs.YtfphcecjhdkcoaaGreatDoor
namespace T1
open Sp (Str)
theorem index1 (c : UInt8) : ∀ s : Str, (c ∉ s ∧ Lib.index s [c] = -1) ∨ ∃ a r, s = a ++ c :: r ∧ c ∉ a ∧ Lib.index s [c] = (a.length : Nat)
  | [] => .inl ⟨by simp, rfl⟩
  | b :: l => by
    by_cases h : b = c
    · subst h
      refine .inr ⟨[], l, rfl, by simp, ?_⟩
      unfold Lib.index; rw [if_pos (by simp [List.isPrefixOf])]; rfl
    · have hp : ¬ [c].isPrefixOf (b :: l) = true := by simp [List.isPrefixOf]; exact fun e => h e.symm
      rcases index1 c l with ⟨h1, h2⟩ | ⟨a, r, h1, h2, h3⟩
      · refine .inl ⟨by simp [h1]; exact fun e => h e.symm, ?_⟩
        unfold Lib.index; rw [if_neg hp, h2]; rfl
      · refine .inr ⟨b :: a, r, by rw [h1]; rfl, by simp [h2]; exact fun e => h e.symm, ?_⟩
        unfold Lib.index; rw [if_neg hp, h3, if_neg (by simp)]; simp
theorem byte1 (c : UInt8) (s : Str) : (c ∉ s ∧ Lib.split s [c] = [s] ∧ Lib.cut s [c] = (s, [], false)) ∨ ∃ a r, s = a ++ c :: r ∧ c ∉ a ∧ Lib.split s [c] = a :: Lib.split r [c] ∧ Lib.cut s [c] = (a, r, true) := by
  rcases index1 c s with ⟨h1, h2⟩ | ⟨a, r, h1, h2, h3⟩
  · refine .inl ⟨h1, Sp.split_miss s [c] (by simp) h2, ?_⟩
    unfold Lib.cut; rw [h2, if_neg (by omega)]
  · have e1 : s.take a.length = a := by rw [h1]; simp
    have e2 : s.drop (a.length + [c].length) = r := by rw [h1]; simp
    refine .inr ⟨a, r, h1, h2, ?_, ?_⟩
    · rw [Sp.split_hit s [c] (by simp) a.length h3, e1, e2]
    · unfold Lib.cut; rw [h3, if_pos (by omega), Int.toNat_natCast, e1, e2]
theorem occ_no {a r t : Str} {c : UInt8} {j : Nat} (h : c ∉ a) (hj : j < a.length) : Lib.occAt (a ++ r) (c :: t) j = false := by
  unfold Lib.occAt
  rw [List.drop_append_of_le_length (by omega)]
  have : (c == a[j]) = false := by simp; intro e; exact h (e ▸ List.getElem_mem hj)
  rw [List.drop_eq_getElem_cons hj, List.cons_append, List.isPrefixOf, this, Bool.false_and]
theorem cut2_none {s : Str} (h : (32 : UInt8) ∉ s) : Lib.cut s [32, 40] = (s, [], false) := by
  unfold Lib.cut
  rw [Lib.index_none, if_neg (by omega)]
  intro j hj
  by_cases hl : j < s.length
  · have := occ_no (r := []) (t := [40]) h hl; simpa using this
  · obtain rfl : j = s.length := by omega
    simp [Lib.occAt]
theorem cut2_here {a r : Str} (h : (32 : UInt8) ∉ a) : Lib.cut (a ++ 32 :: 40 :: r) [32, 40] = (a, r, true) := by
  have hi : Lib.index (a ++ 32 :: 40 :: r) [32, 40] = (a.length : Nat) := by
    refine Lib.index_first (by simp) ?_ (fun j hj => occ_no h hj)
    unfold Lib.occAt; simp [List.isPrefixOf]
  unfold Lib.cut
  rw [hi, if_pos (by omega), Int.toNat_natCast]
  simp
theorem cut2_later {a r : Str} (h : (32 : UInt8) ∉ a) (hr : r.head? ≠ some 40) : (32 : UInt8) ∈ (Lib.cut (a ++ 32 :: r) [32, 40]).1 := by
  rcases Sp.index_range (a ++ 32 :: r) [32, 40] (by simp) with h1 | ⟨i, h1, h2, h3, h4⟩
  · unfold Lib.cut; rw [h1, if_neg (by omega)]; simp
  · have hlt : a.length < i := by
      rcases Nat.lt_trichotomy i a.length with hlt | heq | hgt
      · rw [occ_no h hlt] at h3; cases h3
      · subst heq
        unfold Lib.occAt at h3
        rw [List.drop_left] at h3
        cases r with
        | nil => simp [List.isPrefixOf] at h3
        | cons b q =>
          simp [List.isPrefixOf] at h3
          exact absurd (by rw [← h3]; rfl) hr
      · exact hgt
    unfold Lib.cut
    rw [h1, if_pos (by omega), Int.toNat_natCast]
    simp only
    rw [List.take_append, show i - a.length = (i - a.length - 1) + 1 from by omega, List.take_succ_cons]
    simp
theorem mem_all {s set : Str} {c : UInt8} {m n : Nat} (h : c ∈ s) (hc : set.contains c = false) : Sp.among s set m n = false := by
  unfold Sp.among
  have : s.all (fun c => set.contains c) = false := by
    rw [Bool.eq_false_iff]; intro ha
    rw [List.all_eq_true] at ha
    rw [ha c h] at hc; cases hc
  rw [this]; rfl
theorem name_space {s : Str} (h : (32 : UInt8) ∈ s) : Sp.isName s = false := by
  unfold Sp.isName; rw [mem_all h (by decide)]; rfl
theorem ver_space {s : Str} (h : (32 : UInt8) ∈ s) : Sp.isVer s = false := by
  unfold Sp.isVer; rw [mem_all h (by decide)]; rfl
/-- The reference's choice. -/
def sgn (b : Str) : Bool := b == [40, 60, 60] || b == [40, 60, 61] || b == [40, 61] || b == [40, 62, 61] || b == [40, 62, 62]
def choiceR (s : Str) : Option Sp.Ch :=
  match Lib.split s [32] with
  | [_] => if Sp.isName s then some ⟨s, [], []⟩ else none
  | [a, b, c] => if Sp.isName a && !c.isEmpty && Sp.isVer (c.take (c.length - 1)) && sgn b && (c.drop (c.length - 1) == [41]) then some ⟨a, b.drop 1, c.take (c.length - 1)⟩ else none
  | _ => none
theorem sgn_cons (b : Str) : sgn (40 :: b) = Sp.signs.contains b := by
  unfold sgn Sp.signs
  simp [List.contains, List.elem]
  cases h1 : (b == [60, 60]) <;> cases h2 : (b == [60, 61]) <;> cases h3 : (b == [61]) <;> cases h4 : (b == [62, 61]) <;> cases h5 : (b == [62, 62]) <;> simp_all
theorem sgn_head {b : Str} (h : b.head? ≠ some 40) : sgn b = false := by
  cases b with
  | nil => rfl
  | cons x r =>
    have : x ≠ 40 := fun e => h (by rw [e]; rfl)
    unfold sgn; simp [this]
theorem suffix_last (c : Str) : Lib.hasSuffix c [41] = (!c.isEmpty && (c.drop (c.length - 1) == [41])) := by
  unfold Lib.hasSuffix
  cases c with
  | nil => rfl
  | cons x r =>
    rw [Bool.eq_iff_iff, List.isSuffixOf_iff_suffix, List.suffix_iff_eq_drop]
    simp only [List.isEmpty_cons, Bool.not_false, Bool.true_and, beq_iff_eq]
    exact ⟨fun h => h.symm, fun h => h.symm⟩
theorem trim_last (c : Str) (h : (c.drop (c.length - 1) == [41]) = true) (hc : c.isEmpty = false) : Lib.trimSuffix c [41] = c.take (c.length - 1) := by
  unfold Lib.trimSuffix
  rw [suffix_last, h, hc]
  simp
theorem choice_eq (s : Str) : choiceR s = Sp.choose s := by
  unfold choiceR
  rcases byte1 32 s with ⟨h1, h2, _⟩ | ⟨a, r, rfl, ha, h2, _⟩
  · rw [h2]
    unfold Sp.choose
    rw [cut2_none h1]
    simp
  · rw [h2]
    by_cases hr : r.head? = some 40
    · obtain ⟨r', rfl⟩ : ∃ r', r = 40 :: r' := by
        cases r with
        | nil => cases hr
        | cons x q => exact ⟨q, by simp at hr; rw [hr]⟩
      unfold Sp.choose
      rw [cut2_here ha]
      rcases byte1 32 r' with ⟨g1, g2, g3⟩ | ⟨b, v, rfl, hb, g2, g3⟩
      · have g4 : Lib.split (40 :: r') [32] = [40 :: r'] := by
          rcases byte1 32 (40 :: r') with ⟨_, k, _⟩ | ⟨x, y, e, _⟩
          · exact k
          · exfalso
            have : (32 : UInt8) ∈ (40 :: r') := by rw [e]; simp
            simp [g1] at this
        rw [g4, g3]
        simp
      · have g4 : Lib.split (40 :: (b ++ 32 :: v)) [32] = (40 :: b) :: Lib.split v [32] := by
          refine (Sp.split_hit _ [32] (by simp) (b.length + 1) ?_).trans ?_
          · refine Lib.index_first (by simp) ?_ fun j hj => ?_
            · unfold Lib.occAt; simp [List.isPrefixOf]
            · exact occ_no (a := 40 :: b) (r := 32 :: v) (by simp [hb]) (by simpa using hj)
          · simp
        rw [g4, g3]
        rcases byte1 32 v with ⟨k1, k2, _⟩ | ⟨x, y, rfl, _, k2, _⟩
        · rw [k2]
          simp only [List.drop_succ_cons, List.drop_zero, sgn_cons, suffix_last]
          cases e1 : Sp.isName a with
          | false => simp
          | true =>
            cases e2 : v.isEmpty with
            | true => simp
            | false =>
              cases e3 : (v.drop (v.length - 1) == [41]) with
              | false => simp
              | true =>
                rw [trim_last v e3 e2]
                cases e4 : Sp.isVer (v.take (v.length - 1)) <;> cases e5 : Sp.signs.contains b <;> simp
        · rw [k2]
          obtain ⟨z, zs, hz⟩ : ∃ z zs, Lib.split y [32] = z :: zs := by
            cases h : Lib.split y [32] with
            | nil => exact absurd h (Sp.split_ne _ _ (by simp))
            | cons z zs => exact ⟨z, zs, rfl⟩
          rw [hz]
          have hv : Lib.hasSuffix (x ++ 32 :: y) [41] = true → Sp.isVer (Lib.trimSuffix (x ++ 32 :: y) [41]) = false := by
            intro h
            refine ver_space ?_
            have h' := h
            rw [suffix_last] at h'
            simp only [Bool.and_eq_true] at h'
            rw [trim_last _ h'.2 (by cases x <;> rfl)]
            cases y with
            | nil =>
              have := h'.2
              simp at this
            | cons q qs =>
              have e : (x ++ 32 :: q :: qs).length - 1 = x.length + (qs.length + 1) := by simp
              rw [e, List.take_length_add_append, List.take_succ_cons]
              simp
          simp only
          cases e1 : Sp.isName a with
          | false => simp
          | true =>
            cases e2 : Lib.hasSuffix (x ++ 32 :: y) [41] with
            | false => simp
            | true => rw [hv e2]; simp
    · have hn : Sp.choose (a ++ 32 :: r) = none := by
        unfold Sp.choose
        rw [name_space (cut2_later ha hr)]
        simp
      rw [hn]
      rcases byte1 32 r with ⟨g1, g2, g3⟩ | ⟨b, v, rfl, hb, g2, g3⟩
      · rw [g2]
      · rw [g2]
        have hb' : b.head? ≠ some 40 := by
          intro e
          cases b with
          | nil => cases e
          | cons x q => exact hr e
        cases hv : Lib.split v [32] with
        | nil => rfl
        | cons z zs =>
          cases zs with
          | nil => simp [sgn_head hb']
          | cons _ _ => rfl
end T1
end Go.Proofs.YtfphcecjhdkcoaaGreatDoor
/-
Plain laws: the reference's line is Sp's, where no two files clash yet; and the files of what was read never do.
-/
namespace Go.Proofs.YtfphcecjhdkcoaaGreatDoor
namespace T2
open Sp (Str)
theorem word_prefix (w s : Str) (hw : (32 : UInt8) ∉ w) : (w ++ [32]).isPrefixOf s = ((Lib.cut s [32]).2.2 && (Lib.cut s [32]).1 == w) ∧ ((w ++ [32]).isPrefixOf s = true → (Lib.cut s [32]).2.1 = s.drop (w.length + 1)) := by
  rcases T1.byte1 32 s with ⟨h1, _, h3⟩ | ⟨a, r, rfl, ha, _, h3⟩
  · rw [h3]
    have : (w ++ [32]).isPrefixOf s = false := by
      rw [Bool.eq_false_iff]; intro e
      obtain ⟨t, ht⟩ := List.isPrefixOf_iff_prefix.1 e
      exact h1 (by rw [← ht]; simp)
    rw [this]; simp
  · rw [h3]
    simp only [Bool.true_and]
    have key : (w ++ [32]).isPrefixOf (a ++ 32 :: r) = true ↔ a = w := by
      constructor
      · intro e
        obtain ⟨t, ht⟩ := List.isPrefixOf_iff_prefix.1 e
        have ht' : w ++ 32 :: t = a ++ 32 :: r := by rw [← ht]; simp
        rcases List.append_eq_append_iff.1 ht' with ⟨x, e1, e2⟩ | ⟨x, e1, e2⟩
        · cases x with
          | nil => simpa using e1
          | cons y q =>
            exfalso
            have : (32 : UInt8) = y := by simpa using (List.cons.inj e2).1
            subst this
            exact ha (by rw [e1]; simp)
        · cases x with
          | nil => simpa using e1.symm
          | cons y q =>
            exfalso
            have : (32 : UInt8) = y := by simpa using (List.cons.inj e2).1
            subst this
            exact hw (by rw [e1]; simp)
      · rintro rfl
        exact List.isPrefixOf_iff_prefix.2 ⟨r, by simp⟩
    refine ⟨?_, fun e => ?_⟩
    · rw [Bool.eq_iff_iff, key]; simp
    · have := key.1 e
      subst this
      simp
theorem clash_snoc (q : Str) : ∀ l : List Str, Sp.clash1 (l ++ [q]) = (Sp.clash1 l || l.any (fun p => p == q || Sp.over p q || Sp.over q p))
  | [] => rfl
  | a :: r => by
    simp only [List.cons_append, Sp.clash1, clash_snoc q r, List.any_append, List.any_cons, List.any_nil, Bool.or_false]
    cases r.any (fun q => a == q || Sp.over a q || Sp.over q a) <;> cases Sp.clash1 r <;> cases (a == q || Sp.over a q || Sp.over q a) <;> rfl
/-- The reference's line. -/
def needsP : Str := [110, 101, 101, 100, 115, 32]
def barsP : Str := [98, 97, 114, 115, 32]
def fileP : Str := [102, 105, 108, 101, 32]
def fileR (fs : List Sp.Fl) (t : Str) : Option Sp.Fl :=
  if (Lib.cut t [61]).2.2 && Sp.isPath (Lib.cut t [61]).1 && decide ((Lib.cut t [61]).2.1.length ≤ 24) && fs.all (fun g => !Sp.over (Lib.cut t [61]).1 g.path && !Sp.over g.path (Lib.cut t [61]).1 && (Lib.cut t [61]).1 != g.path)
  then some ⟨(Lib.cut t [61]).1, (Lib.cut t [61]).2.1⟩ else none
def firstR (p : Sp.Pk) (s : Str) : Option Sp.Pk :=
  match Lib.split s [32] with
  | [a, b, c] => if a == Sp.packageW && Sp.isName b && Sp.isVer c then some { p with name := b, ver := c } else none
  | _ => none
def laterR (p : Sp.Pk) (s : Str) : Option Sp.Pk :=
  if needsP.isPrefixOf s && decide (p.needs.length + p.bars.length + p.files.length = 0) then (Sp.each (s.drop 6) [44, 32] 3 (fun g => Sp.each g [32, 124, 32] 3 Sp.choose)).map fun n => { p with needs := n }
  else if barsP.isPrefixOf s && decide (p.bars.length + p.files.length = 0) then (Sp.each (s.drop 5) [44, 32] 3 Sp.choose).map fun n => { p with bars := n }
  else if fileP.isPrefixOf s && decide (p.files.length < 4) then (fileR p.files (s.drop 5)).map fun f => { p with files := p.files ++ [f] }
  else none
theorem first_eq (p : Sp.Pk) (s : Str) : firstR p s = Sp.line p true s := by
  unfold firstR Sp.line
  rcases T1.byte1 32 s with ⟨h1, h2, h3⟩ | ⟨a, r, rfl, ha, h2, h3⟩
  · rw [h2, h3]; simp
  · rw [h2, h3]
    rcases T1.byte1 32 r with ⟨g1, g2, g3⟩ | ⟨b, v, rfl, hb, g2, g3⟩
    · rw [g2, g3]; cases h : (a == Sp.packageW) <;> simp
    · rw [g2, g3]
      rcases T1.byte1 32 v with ⟨k1, k2, k3⟩ | ⟨x, y, rfl, hx, k2, k3⟩
      · rw [k2]
        simp only [Bool.true_and]
        cases h : (a == Sp.packageW) <;> simp
      · rw [k2]
        obtain ⟨z, zs, hz⟩ : ∃ z zs, Lib.split y [32] = z :: zs := by
          cases h : Lib.split y [32] with
          | nil => exact absurd h (Sp.split_ne _ _ (by simp))
          | cons z zs => exact ⟨z, zs, rfl⟩
        rw [hz, T1.ver_space (s := x ++ 32 :: y) (by simp)]
        cases h : (a == Sp.packageW) <;> simp
theorem any_all (q : Str) (fs : List Sp.Fl) : (fs.map (·.path)).any (fun p => p == q || Sp.over p q || Sp.over q p) = !fs.all (fun g => !Sp.over q g.path && !Sp.over g.path q && q != g.path) := by
  induction fs with
  | nil => rfl
  | cons f r ih =>
    simp only [List.map_cons, List.any_cons, List.all_cons, ih]
    have : (f.path == q) = !(q != f.path) := by
      rw [Bool.eq_iff_iff]; simp; exact ⟨fun h => h.symm, fun h => h.symm⟩
    rw [this]
    cases Sp.over q f.path <;> cases Sp.over f.path q <;> cases (q != f.path) <;> simp
theorem later_eq (p : Sp.Pk) (s : Str) (hc : Sp.clash1 (p.files.map (·.path)) = false) : laterR p s = Sp.line p false s := by
  obtain ⟨n1, n2⟩ := word_prefix Sp.needsW s (by decide)
  obtain ⟨b1, b2⟩ := word_prefix Sp.barsW s (by decide)
  obtain ⟨f1, f2⟩ := word_prefix Sp.fileW s (by decide)
  have en : Sp.needsW ++ [32] = needsP := rfl
  have eb : Sp.barsW ++ [32] = barsP := rfl
  have ef : Sp.fileW ++ [32] = fileP := rfl
  rw [en] at n1 n2
  rw [eb] at b1 b2
  rw [ef] at f1 f2
  unfold laterR Sp.line
  rw [n1, b1, f1]
  rw [n1] at n2
  rw [b1] at b2
  rw [f1] at f2
  rcases hcut : Lib.cut s [32] with ⟨a, r, ok⟩
  rw [hcut] at n2 b2 f2
  simp only at n2 b2 f2 ⊢
  cases ok with
  | false => simp
  | true =>
    simp only [Bool.true_and] at n2 b2 f2 ⊢
    by_cases hp : a = Sp.packageW
    · subst hp; simp [Sp.packageW, Sp.needsW, Sp.barsW, Sp.fileW]
    · have hp' : (a == Sp.packageW) = false := by simpa using hp
      rw [hp']
      by_cases hn : a = Sp.needsW
      · subst hn
        have := n2 (by simp)
        subst this
        have e1 : (Sp.needsW == Sp.barsW) = false := by decide
        have e2 : (Sp.needsW == Sp.fileW) = false := by decide
        rw [e1, e2]
        have : decide (p.needs.length + p.bars.length + p.files.length = 0) = (p.needs.isEmpty && p.bars.isEmpty && p.files.isEmpty) := by
          rw [Bool.eq_iff_iff]; simp [List.isEmpty_iff]
        rw [this]
        simp [Sp.needsW]
      · have hn' : (a == Sp.needsW) = false := by simpa using hn
        rw [hn']
        by_cases hb : a = Sp.barsW
        · subst hb
          have := b2 (by simp)
          subst this
          have e2 : (Sp.barsW == Sp.fileW) = false := by decide
          rw [e2]
          have : decide (p.bars.length + p.files.length = 0) = (p.bars.isEmpty && p.files.isEmpty) := by
            rw [Bool.eq_iff_iff]; simp [List.isEmpty_iff]
          rw [this]
          simp [Sp.barsW]
        · have hb' : (a == Sp.barsW) = false := by simpa using hb
          rw [hb']
          by_cases hf : a = Sp.fileW
          · subst hf
            have := f2 (by simp)
            subst this
            unfold fileR
            rw [clash_snoc, hc, Bool.false_or, any_all, Bool.not_not]
            have e4 : Sp.fileW.length + 1 = 5 := rfl
            rw [e4]
            by_cases q1 : (Lib.cut (List.drop 5 s) [61]).2.2 = true <;> by_cases q2 : Sp.isPath (Lib.cut (List.drop 5 s) [61]).1 = true <;> by_cases q3 : (Lib.cut (List.drop 5 s) [61]).2.1.length ≤ 24 <;> by_cases q4 : p.files.length < 4 <;> by_cases q5 : (p.files.all fun g => !Sp.over (Lib.cut (List.drop 5 s) [61]).1 g.path && !Sp.over g.path (Lib.cut (List.drop 5 s) [61]).1 && (Lib.cut (List.drop 5 s) [61]).1 != g.path) = true <;> simp only [q1, q2, q3, q4, q5, decide_true, decide_false, Bool.and_true, Bool.and_false, Bool.false_and, if_true, if_false, Bool.false_eq_true, Option.map_some, Option.map_none, BEq.rfl, Bool.not_true] <;> simp
          · have hf' : (a == Sp.fileW) = false := by simpa using hf
            rw [hf']; simp
theorem line_clash {p p' : Sp.Pk} {first : Bool} {s : Str} (h : Sp.line p first s = some p') (hc : Sp.clash1 (p.files.map (·.path)) = false) : Sp.clash1 (p'.files.map (·.path)) = false := by
  unfold Sp.line at h
  split at h
  · cases h
  · split at h
    · split at h
      · cases h; exact hc
      · cases h
    · split at h
      · split at h
        · cases he : (Sp.each (Lib.cut s [32]).2.1 [44, 32] 3 fun g => Sp.each g [32, 124, 32] 3 Sp.choose) with
          | none => rw [he] at h; cases h
          | some n => rw [he] at h; cases h; exact hc
        · cases h
      · split at h
        · split at h
          · cases he : Sp.each (Lib.cut s [32]).2.1 [44, 32] 3 Sp.choose with
            | none => rw [he] at h; cases h
            | some n => rw [he] at h; cases h; exact hc
          · cases h
        · split at h
          · split at h
            · rename_i hh
              cases h
              simp only [Bool.and_eq_true, Bool.not_eq_true'] at hh
              rw [List.map_append]
              exact hh.2
            · cases h
          · cases h
end T2
end Go.Proofs.YtfphcecjhdkcoaaGreatDoor
/-
Plain laws of paths that clash: what the program counts, and what the document asks of two.
-/
namespace Go.Proofs.YtfphcecjhdkcoaaGreatDoor
theorem mem_folders (x s : Sp.Str) : x ∈ Sp.folders s ↔ Sp.over x s = true := by
  unfold Sp.folders Sp.over
  rw [List.mem_map, List.isPrefixOf_iff_prefix]
  constructor
  · rintro ⟨i, hi, rfl⟩
    obtain ⟨hi1, hi2⟩ := List.mem_filter.1 hi
    rw [List.mem_range] at hi1
    have h47 : s[i]? = some 47 := by simpa using hi2
    have : s.take i ++ [47] = s.take (i + 1) := by rw [List.take_add_one, h47]; rfl
    rw [this]; exact List.take_prefix _ _
  · rintro ⟨r, rfl⟩
    refine ⟨x.length, List.mem_filter.2 ⟨List.mem_range.2 (by simp), ?_⟩, by simp⟩
    rw [List.append_assoc, List.getElem?_append_right (Nat.le_refl _)]; simp
theorem clash1_iff : ∀ l : List Sp.Str, Sp.clash1 l = true ↔ ∃ x ∈ l, 2 ≤ l.count x ∨ x ∈ l.flatMap Sp.folders
  | [] => by simp [Sp.clash1]
  | p :: r => by
    have hself : ∀ s : Sp.Str, s ∉ Sp.folders s := fun s h => by
      rw [mem_folders] at h
      unfold Sp.over at h
      rw [List.isPrefixOf_iff_prefix] at h
      have h9 := h.length_le
      rw [List.length_append] at h9
      exact absurd h9 (by simp)
    unfold Sp.clash1
    rw [Bool.or_eq_true, clash1_iff r, List.any_eq_true]
    constructor
    · rintro (⟨q, hq, h⟩ | ⟨x, hx, h⟩)
      · simp only [Bool.or_eq_true, beq_iff_eq] at h
        rcases h with (rfl | h) | h
        · refine ⟨p, by simp, .inl ?_⟩
          rw [List.count_cons_self]; have := List.count_pos_iff.2 hq; omega
        · exact ⟨p, by simp, .inr (List.mem_flatMap.2 ⟨q, by simp [hq], (mem_folders p q).2 h⟩)⟩
        · exact ⟨q, by simp [hq], .inr (List.mem_flatMap.2 ⟨p, by simp, (mem_folders q p).2 h⟩)⟩
      · refine ⟨x, by simp [hx], ?_⟩
        rcases h with h | h
        · left; rw [List.count_cons]; omega
        · right; rw [List.flatMap_cons]; exact List.mem_append.2 (.inr h)
    · rintro ⟨x, hx, h⟩
      rcases List.mem_cons.1 hx with rfl | hx
      · rcases h with h | h
        · rw [List.count_cons_self] at h
          exact .inl ⟨x, List.count_pos_iff.1 (by omega), by simp⟩
        · rw [List.flatMap_cons, List.mem_append] at h
          rcases h with h | h
          · exact absurd h (hself x)
          · obtain ⟨q, hq, h⟩ := List.mem_flatMap.1 h
            exact .inl ⟨q, hq, by rw [(mem_folders x q).1 h]; simp⟩
      · rcases h with h | h
        · by_cases e : p = x
          · subst e; exact .inl ⟨p, hx, by simp⟩
          · rw [List.count_cons_of_ne e] at h
            exact .inr ⟨x, hx, .inl h⟩
        · rw [List.flatMap_cons, List.mem_append] at h
          rcases h with h | h
          · exact .inl ⟨x, hx, by rw [(mem_folders x p).1 h]; simp⟩
          · exact .inr ⟨x, hx, .inr h⟩
theorem clash_none (l r : List Sp.Str) (h : ∀ x, x ∈ r ↔ x ∈ l ∧ (2 ≤ l.count x ∨ x ∈ l.flatMap Sp.folders)) : r = [] ↔ Sp.clash1 l = false := by
  rw [← Bool.not_eq_true, clash1_iff]
  constructor
  · rintro rfl ⟨x, hx, h1⟩
    exact List.not_mem_nil ((h x).2 ⟨hx, h1⟩)
  · intro hn
    refine List.eq_nil_iff_forall_not_mem.2 fun x hx => hn ⟨x, (h x).1 hx⟩
end Go.Proofs.YtfphcecjhdkcoaaGreatDoor
/-
Plain laws: texts joined and cut again; a choice printed and read again.
-/
namespace Go.Proofs.YtfphcecjhdkcoaaGreatDoor
namespace V1
open Sp (Str)
theorem join_cons2 (x y : Str) (r : List Str) (t : Str) : Lib.join (x :: y :: r) t = x ++ t ++ Lib.join (y :: r) t := by
  rw [Lib.join_cons, Lib.join_cons]; simp [Lib.joinTail]
theorem join_ne (x : Str) {r : List Str} (hr : r ≠ []) (t : Str) : Lib.join (x :: r) t = x ++ t ++ Lib.join r t := by
  cases r with
  | nil => exact absurd rfl hr
  | cons y r => exact join_cons2 x y r t
theorem join_split_n (t : Str) (ht : t ≠ []) : ∀ (n : Nat) (s : Str), s.length ≤ n → Lib.join (Lib.split s t) t = s := by
  intro n
  induction n with
  | zero =>
    intro s hs
    have : s = [] := List.length_eq_zero_iff.1 (by omega)
    subst this
    rw [Sp.split_end [] t ht 0 (by simp; exact List.length_pos_iff.2 ht) (fun j h => absurd h (Nat.not_lt_zero _)), Lib.join_one]
  | succ n ih =>
    intro s hs
    rcases Sp.index_range s t ht with h | ⟨i, h, h1, h2, _⟩
    · rw [Sp.split_miss s t ht h, Lib.join_one]
    · rw [Sp.split_hit s t ht i h, join_ne _ (Sp.split_ne _ t ht), ih _ (by rw [List.length_drop]; have := List.length_pos_iff.2 ht; omega)]
      rw [Sp.occ_take s t i h1] at h2
      have e : (s.drop i).take t.length = t := by simpa using h2
      have e2 : s = s.take i ++ (t ++ s.drop (i + t.length)) := by
        rw [← List.drop_drop]
        have := List.take_append_drop t.length (s.drop i)
        rw [e] at this
        rw [this, List.take_append_drop]
      rw [List.append_assoc]
      exact e2.symm
theorem join_split (s t : Str) (ht : t ≠ []) : Lib.join (Lib.split s t) t = s := join_split_n t ht s.length s (Nat.le_refl _)
theorem mem_join {c : UInt8} {t : Str} : ∀ {xs : List Str}, c ∈ Lib.join xs t → c ∈ t ∨ ∃ x ∈ xs, c ∈ x
  | [], h => by simp [Lib.join_nil] at h
  | [x], h => by rw [Lib.join_one] at h; exact .inr ⟨x, by simp, h⟩
  | x :: y :: r, h => by
    rw [join_cons2] at h
    rcases List.mem_append.1 h with h | h
    · rcases List.mem_append.1 h with h | h
      · exact .inr ⟨x, by simp, h⟩
      · exact .inl h
    · rcases mem_join h with h | ⟨z, hz, h⟩
      · exact .inl h
      · exact .inr ⟨z, List.mem_cons_of_mem _ hz, h⟩
theorem split_pieces (c : UInt8) : ∀ (n : Nat) (s : Str), s.length ≤ n → ∀ x ∈ Lib.split s [c], c ∉ x := by
  intro n
  induction n with
  | zero =>
    intro s hs
    have : s = [] := List.length_eq_zero_iff.1 (by omega)
    subst this
    rw [Sp.split_end [] [c] (by simp) 0 (by simp) (fun j h => absurd h (Nat.not_lt_zero _))]
    simp
  | succ n ih =>
    intro s hs x hx
    rcases T1.byte1 c s with ⟨h1, h2, _⟩ | ⟨a, r, rfl, ha, h2, _⟩
    · rw [h2] at hx; rw [List.mem_singleton] at hx; subst hx; exact h1
    · rw [h2] at hx
      rcases List.mem_cons.1 hx with rfl | hx
      · exact ha
      · exact ih r (by simp at hs; omega) x hx
theorem split_no (c : UInt8) (s x : Str) (hx : x ∈ Lib.split s [c]) : c ∉ x := split_pieces c s.length s (Nat.le_refl _) x hx
theorem occ_get {s t : Str} {j i : Nat} {c : UInt8} (h : Lib.occAt s t j = true) (hc : t[i]? = some c) : s[j + i]? = some c := by
  unfold Lib.occAt at h
  obtain ⟨r, hr⟩ := List.isPrefixOf_iff_prefix.1 h
  have hi : i < t.length := (List.getElem?_eq_some_iff.1 hc).1
  have : (s.drop j)[i]? = some c := by rw [← hr, List.getElem?_append_left hi]; exact hc
  rwa [List.getElem?_drop] at this
/-- A text between which c stands once (at i): what is joined by it is cut again by it. -/
theorem split_join (c : UInt8) (t : Str) (i : Nat) (hc : t[i]? = some c) (hu : ∀ j, t[j]? = some c → j = i) :
    ∀ xs : List Str, xs ≠ [] → (∀ x ∈ xs, c ∉ x) → Lib.split (Lib.join xs t) t = xs
  | [], h, _ => absurd rfl h
  | [x], _, h => by
    have ht : t ≠ [] := by rintro rfl; simp at hc
    rw [Lib.join_one]
    refine Sp.split_miss x t ht (Lib.index_none fun j _ => ?_)
    rw [Bool.eq_false_iff]; intro ho
    exact h x (by simp) (List.mem_of_getElem? (occ_get ho hc))
  | x :: y :: r, _, h => by
    have ht : t ≠ [] := by rintro rfl; simp at hc
    have hi : i < t.length := (List.getElem?_eq_some_iff.1 hc).1
    rw [join_cons2, List.append_assoc]
    rw [Sp.split_at _ t ht x.length (by simp) ?_ ?_]
    · have e1 : (x ++ (t ++ Lib.join (y :: r) t)).take x.length = x := by simp
      have e2 : (x ++ (t ++ Lib.join (y :: r) t)).drop (x.length + t.length) = Lib.join (y :: r) t := by
        rw [← List.append_assoc, ← List.length_append]; simp
      rw [e1, e2, split_join c t i hc hu (y :: r) (by simp) fun z hz => h z (List.mem_cons_of_mem _ hz)]
    · unfold Lib.occAt
      rw [List.drop_left]
      exact List.isPrefixOf_iff_prefix.2 (List.prefix_append _ _)
    · intro j hj
      rw [Bool.eq_false_iff]; intro ho
      have hg := occ_get ho hc
      by_cases hlt : j + i < x.length
      · rw [List.getElem?_append_left hlt] at hg
        exact h x (by simp) (List.mem_of_getElem? hg)
      · rw [List.getElem?_append_right (by omega), List.getElem?_append_left (by omega)] at hg
        have := hu _ hg
        omega
theorem mapO_map {α : Type} {one : Str → Option α} {pr : α → Str} : ∀ {l : List α}, (∀ x ∈ l, one (pr x) = some x) → Sp.mapO one (l.map pr) = some l
  | [], _ => rfl
  | x :: r, h => by
    rw [List.map_cons]
    unfold Sp.mapO
    rw [h x (by simp), mapO_map fun y hy => h y (List.mem_cons_of_mem _ hy)]
theorem mapO_inv {α : Type} {one : Str → Option α} {pr : α → Str} {Q : α → Prop} (hone : ∀ x y, one x = some y → pr y = x ∧ Q y) : ∀ {xs : List Str} {l : List α}, Sp.mapO one xs = some l → l.map pr = xs ∧ ∀ y ∈ l, Q y
  | [], l, h => by cases h; exact ⟨rfl, fun y hy => by cases hy⟩
  | x :: xs, l, h => by
    unfold Sp.mapO at h
    split at h
    · rename_i y ys h1 h2
      cases h
      obtain ⟨i1, i2⟩ := mapO_inv hone h2
      obtain ⟨j1, j2⟩ := hone x y h1
      exact ⟨by rw [List.map_cons, i1, j1], fun z hz => by
        rcases List.mem_cons.1 hz with rfl | hz
        · exact j2
        · exact i2 z hz⟩
    · cases h
theorem each_print {α : Type} {one : Str → Option α} {pr : α → Str} {c : UInt8} {t : Str} {i most : Nat} (hc : t[i]? = some c) (hu : ∀ j, t[j]? = some c → j = i) {l : List α} (hne : l ≠ []) (hl : l.length ≤ most)
    (h : ∀ x ∈ l, one (pr x) = some x ∧ c ∉ pr x) : Sp.each (Lib.join (l.map pr) t) t most one = some l := by
  unfold Sp.each
  rw [split_join c t i hc hu (l.map pr) (by simpa using hne) (fun x hx => by obtain ⟨y, hy, rfl⟩ := List.mem_map.1 hx; exact (h y hy).2), mapO_map fun x hx => (h x hx).1]
  simp only
  rw [if_pos hl]
theorem each_inv {α : Type} {one : Str → Option α} {pr : α → Str} {Q : α → Prop} (hone : ∀ x y, one x = some y → pr y = x ∧ Q y) {s t : Str} (ht : t ≠ []) {most : Nat} {l : List α} (h : Sp.each s t most one = some l) :
    Lib.join (l.map pr) t = s ∧ l ≠ [] ∧ l.length ≤ most ∧ ∀ y ∈ l, Q y := by
  unfold Sp.each at h
  split at h
  · rename_i l' hl
    split at h
    · rename_i hm
      cases h
      obtain ⟨h1, h2⟩ := mapO_inv hone hl
      refine ⟨by rw [h1, join_split s t ht], ?_, hm, h2⟩
      rintro rfl
      exact Sp.split_ne s t ht h1.symm
    · cases h
  · cases h
theorem among_no {s set : Str} {a b : Nat} {c : UInt8} (h : Sp.among s set a b = true) (hc : set.contains c = false) : c ∉ s := by
  intro hm
  rw [T1.mem_all hm hc] at h; cases h
theorem name_no {s : Str} {c : UInt8} (h : Sp.isName s = true) (hc : Sp.nameS.contains c = false) : c ∉ s := by
  unfold Sp.isName at h; rw [Bool.and_eq_true] at h; exact among_no h.1 hc
theorem ver_no {s : Str} {c : UInt8} (h : Sp.isVer s = true) (hc : Sp.verS.contains c = false) : c ∉ s := by
  unfold Sp.isVer at h; rw [Bool.and_eq_true] at h; exact among_no h.1 hc
theorem name_ne {s : Str} (h : Sp.isName s = true) : s ≠ [] := by rintro rfl; cases h
theorem path_no {s : Str} {c : UInt8} (h : Sp.isPath s = true) (hc : Sp.pathS.contains c = false) (h47 : c ≠ 47) : c ∉ s := by
  intro hm
  unfold Sp.isPath at h
  rw [Bool.and_eq_true, List.all_eq_true] at h
  rw [← join_split s [47] (by simp)] at hm
  rcases mem_join hm with hm | ⟨x, hx, hm⟩
  · simp at hm; exact h47 hm
  · have := h.1 x hx
    unfold Sp.isPart at this
    rw [Bool.and_eq_true, Bool.and_eq_true] at this
    exact among_no this.1.1 hc hm
/-- A choice that has the form. -/
def WfC (c : Sp.Ch) : Prop := Sp.isName c.name = true ∧ ((c.sign = [] ∧ c.ver = []) ∨ (Sp.signs.contains c.sign = true ∧ Sp.isVer c.ver = true))
theorem sign_no {s : Str} {c : UInt8} (h : Sp.signs.contains s = true) (hc : c ≠ 60 ∧ c ≠ 61 ∧ c ≠ 62) : c ∉ s := by
  rw [List.contains_iff_mem] at h
  intro hm
  have : ∀ x ∈ Sp.signs, ∀ b ∈ x, b = 60 ∨ b = 61 ∨ b = 62 := by decide
  rcases this s h c hm with rfl | rfl | rfl
  · exact hc.1 rfl
  · exact hc.2.1 rfl
  · exact hc.2.2 rfl
theorem sign_ne {s : Str} (h : Sp.signs.contains s = true) : s.isEmpty = false := by
  rw [List.contains_iff_mem] at h
  have : ∀ x ∈ Sp.signs, x.isEmpty = false := by decide
  exact this s h
theorem cut_hit {s t a r : Str} (ht : t ≠ []) (h : Lib.cut s t = (a, r, true)) : s = a ++ t ++ r := by
  unfold Lib.cut at h
  rcases Sp.index_range s t ht with h1 | ⟨i, h1, h2, h3, _⟩
  · rw [h1, if_neg (by omega)] at h; simp at h
  · rw [h1, if_pos (by omega), Int.toNat_natCast] at h
    simp only [Prod.mk.injEq, and_true] at h
    obtain ⟨rfl, rfl⟩ := h
    rw [Sp.occ_take s t i h2] at h3
    have e : (s.drop i).take t.length = t := by simpa using h3
    have := List.take_append_drop t.length (s.drop i)
    rw [e, List.drop_drop] at this
    rw [List.append_assoc, this, List.take_append_drop]
theorem cut_mk (c : UInt8) {a r : Str} (h : c ∉ a) : Lib.cut (a ++ c :: r) [c] = (a, r, true) := by
  have hi : Lib.index (a ++ c :: r) [c] = (a.length : Nat) := by
    refine Lib.index_first (by simp) ?_ (fun j hj => T1.occ_no h hj)
    unfold Lib.occAt; simp [List.isPrefixOf]
  unfold Lib.cut
  rw [hi, if_pos (by omega), Int.toNat_natCast]
  simp
theorem suffix_split {v : Str} (h : Lib.hasSuffix v [41] = true) : Lib.trimSuffix v [41] ++ [41] = v := by
  unfold Lib.trimSuffix
  rw [if_pos h]
  unfold Lib.hasSuffix at h
  obtain ⟨r, rfl⟩ := List.isSuffixOf_iff_suffix.1 h
  simp
theorem suffix_mk (v : Str) : Lib.hasSuffix (v ++ [41]) [41] = true ∧ Lib.trimSuffix (v ++ [41]) [41] = v := by
  have h : Lib.hasSuffix (v ++ [41]) [41] = true := List.isSuffixOf_iff_suffix.2 (List.suffix_append _ _)
  refine ⟨h, ?_⟩
  unfold Lib.trimSuffix
  rw [if_pos h]; simp
theorem choose_print {c : Sp.Ch} (h : WfC c) : Sp.choose (Sp.printC c) = some c := by
  obtain ⟨n, s, v⟩ := c
  obtain ⟨hn, hs⟩ := h
  simp only at hn hs
  have n32 : (32 : UInt8) ∉ n := name_no hn (by decide)
  unfold Sp.printC
  simp only
  rcases hs with ⟨rfl, rfl⟩ | ⟨hs, hv⟩
  · unfold Sp.choose
    simp only [List.isEmpty_nil, if_true]
    rw [T1.cut2_none n32]
    simp [hn]
  · rw [sign_ne hs]
    have e : n ++ [32, 40] ++ s ++ [32] ++ v ++ [41] = n ++ 32 :: 40 :: (s ++ 32 :: (v ++ [41])) := by simp
    rw [if_neg (by simp), e]
    unfold Sp.choose
    rw [T1.cut2_here n32]
    simp only
    rw [cut_mk 32 (sign_no hs (by decide))]
    simp only [hn, hs, (suffix_mk v).1, (suffix_mk v).2, hv, if_true, Bool.and_self]
theorem choose_inv {s : Str} {c : Sp.Ch} (h : Sp.choose s = some c) : Sp.printC c = s ∧ WfC c := by
  unfold Sp.choose at h
  rcases hcut : Lib.cut s [32, 40] with ⟨a, r, ok⟩
  rw [hcut] at h
  simp only at h
  split at h
  · rename_i hn
    split at h
    · rename_i hok
      subst hok
      rcases hcut2 : Lib.cut r [32] with ⟨b, q, ok2⟩
      rw [hcut2] at h
      simp only at h
      split at h
      · rename_i hm
        simp only [Bool.and_eq_true] at hm
        obtain ⟨⟨⟨rfl, h2⟩, h3⟩, h4⟩ := hm
        cases h
        refine ⟨?_, hn, .inr ⟨h2, h4⟩⟩
        unfold Sp.printC
        simp only
        rw [sign_ne h2, if_neg (by simp), cut_hit (by simp) hcut, cut_hit (by simp) hcut2]
        have := suffix_split h3
        simp only [List.append_assoc] at this ⊢
        rw [this]
      · cases h
    · rename_i hok
      cases h
      refine ⟨?_, hn, .inl ⟨rfl, rfl⟩⟩
      unfold Sp.printC
      simp only [List.isEmpty_nil, if_true]
      unfold Lib.cut at hcut
      split at hcut
      · exact absurd (congrArg (fun z => z.2.2) hcut).symm hok
      · simp only [Prod.mk.injEq] at hcut; exact hcut.1.symm
  · cases h
theorem printC_no {c : Sp.Ch} (h : WfC c) {x : UInt8} (hn : Sp.nameS.contains x = false) (hv : Sp.verS.contains x = false) (hx : x ≠ 60 ∧ x ≠ 61 ∧ x ≠ 62) (hy : x ≠ 32 ∧ x ≠ 40 ∧ x ≠ 41) : x ∉ Sp.printC c := by
  obtain ⟨h1, h2⟩ := h
  have a1 := name_no h1 hn
  unfold Sp.printC
  rcases h2 with ⟨h2, h3⟩ | ⟨h2, h3⟩
  · rw [h2]; simpa using a1
  · rw [sign_ne h2, if_neg (by simp)]
    have a2 := sign_no h2 hx
    have a3 := ver_no h3 hv
    simp [a1, a2, a3, hy.1, hy.2.1, hy.2.2]
end V1
end Go.Proofs.YtfphcecjhdkcoaaGreatDoor
/-
Plain laws: what was read is printed as its own lines; what is printed is read as what it was.
-/
namespace Go.Proofs.YtfphcecjhdkcoaaGreatDoor
namespace V2
open Sp (Str)
open V1
def WfF (f : Sp.Fl) : Prop := Sp.isPath f.path = true ∧ f.content.length ≤ 24 ∧ (10 : UInt8) ∉ f.content
/-- A package that has the form. -/
structure WfP (p : Sp.Pk) : Prop where
  name : Sp.isName p.name = true
  ver : Sp.isVer p.ver = true
  needs : p.needs.length ≤ 3
  groups : ∀ g ∈ p.needs, g ≠ [] ∧ g.length ≤ 3 ∧ ∀ c ∈ g, WfC c
  bars : p.bars.length ≤ 3
  barred : ∀ c ∈ p.bars, WfC c
  files : p.files.length ≤ 4
  paths : ∀ f ∈ p.files, WfF f
  clash : Sp.clash1 (p.files.map (·.path)) = false
def pkL (p : Sp.Pk) : Str := Sp.packageW ++ 32 :: (p.name ++ 32 :: p.ver)
def groupT (g : List Sp.Ch) : Str := Lib.join (g.map Sp.printC) [32, 124, 32]
def needsL (ns : List (List Sp.Ch)) : Str := Sp.needsW ++ 32 :: Lib.join (ns.map groupT) [44, 32]
def barsL (bs : List Sp.Ch) : Str := Sp.barsW ++ 32 :: Lib.join (bs.map Sp.printC) [44, 32]
def fileL (f : Sp.Fl) : Str := Sp.fileW ++ 32 :: (f.path ++ 61 :: f.content)
def needsLs (ns : List (List Sp.Ch)) : List Str := if ns.isEmpty then [] else [needsL ns]
def barsLs (bs : List Sp.Ch) : List Str := if bs.isEmpty then [] else [barsL bs]
def linesOf (p : Sp.Pk) : List Str := pkL p :: (needsLs p.needs ++ (barsLs p.bars ++ p.files.map fileL))
theorem joinTail_append (t : Str) (a b : List Str) : Lib.joinTail t (a ++ b) = Lib.joinTail t a ++ Lib.joinTail t b := by simp [Lib.joinTail]
theorem print_join (p : Sp.Pk) : Sp.print p = Lib.join (linesOf p) [10] := by
  unfold linesOf
  rw [Lib.join_cons, joinTail_append, joinTail_append]
  unfold Sp.print
  have e1 : [112, 97, 99, 107, 97, 103, 101, 32] ++ p.name ++ [32] ++ p.ver = pkL p := by simp [pkL, Sp.packageW]
  have e2 : (if p.needs.isEmpty then [] else [10, 110, 101, 101, 100, 115, 32] ++ Lib.join (p.needs.map fun g => Lib.join (g.map Sp.printC) [32, 124, 32]) [44, 32]) = Lib.joinTail [10] (needsLs p.needs) := by
    unfold needsLs
    split
    · rfl
    · simp [Lib.joinTail, needsL, Sp.needsW]
      rfl
  have e3 : (if p.bars.isEmpty then [] else [10, 98, 97, 114, 115, 32] ++ Lib.join (p.bars.map Sp.printC) [44, 32]) = Lib.joinTail [10] (barsLs p.bars) := by
    unfold barsLs
    split
    · rfl
    · simp [Lib.joinTail, barsL, Sp.barsW]
  have e4 : (p.files.map Sp.printF).flatten = Lib.joinTail [10] (p.files.map fileL) := by
    unfold Lib.joinTail
    rw [List.map_map]
    congr 2
    funext f
    simp [Sp.printF, fileL, Sp.fileW]
  rw [e1, e2, e3, e4]
  simp only [List.append_assoc]
theorem group_inv {s : Str} {g : List Sp.Ch} (h : Sp.each s [32, 124, 32] 3 Sp.choose = some g) : groupT g = s ∧ g ≠ [] ∧ g.length ≤ 3 ∧ ∀ c ∈ g, WfC c :=
  each_inv (Q := WfC) (pr := Sp.printC) (fun _ _ => choose_inv) (by simp) h
theorem u124 : ∀ j : Nat, ([32, 124, 32] : Str)[j]? = some 124 → j = 1
  | 0, h => by simp at h
  | 1, _ => rfl
  | 2, h => by simp at h
  | (n + 3), h => by simp at h
theorem u44 : ∀ j : Nat, ([44, 32] : Str)[j]? = some 44 → j = 0
  | 0, _ => rfl
  | 1, h => by simp at h
  | (n + 2), h => by simp at h
theorem u10 : ∀ j : Nat, ([10] : Str)[j]? = some 10 → j = 0
  | 0, _ => rfl
  | (n + 1), h => by simp at h
theorem group_print {g : List Sp.Ch} (h1 : g ≠ []) (h2 : g.length ≤ 3) (h3 : ∀ c ∈ g, WfC c) : Sp.each (groupT g) [32, 124, 32] 3 Sp.choose = some g :=
  each_print (c := 124) (i := 1) rfl u124 h1 h2 fun c hc => ⟨choose_print (h3 c hc), printC_no (h3 c hc) (by decide) (by decide) (by decide) (by decide)⟩
theorem group_no {g : List Sp.Ch} (h3 : ∀ c ∈ g, WfC c) {x : UInt8} (hn : Sp.nameS.contains x = false) (hv : Sp.verS.contains x = false) (hx : x ≠ 60 ∧ x ≠ 61 ∧ x ≠ 62) (hy : x ≠ 32 ∧ x ≠ 40 ∧ x ≠ 41) (h124 : x ≠ 124) : x ∉ groupT g := by
  intro hm
  rcases mem_join hm with hm | ⟨s, hs, hm⟩
  · simp at hm; exact hm.elim hy.1 fun e => e.elim h124 hy.1
  · obtain ⟨c, hc, rfl⟩ := List.mem_map.1 hs
    exact printC_no (h3 c hc) hn hv hx hy hm
theorem needs_print {ns : List (List Sp.Ch)} (h1 : ns ≠ []) (h2 : ns.length ≤ 3) (h3 : ∀ g ∈ ns, g ≠ [] ∧ g.length ≤ 3 ∧ ∀ c ∈ g, WfC c) :
    Sp.each (Lib.join (ns.map groupT) [44, 32]) [44, 32] 3 (fun g => Sp.each g [32, 124, 32] 3 Sp.choose) = some ns :=
  each_print (c := 44) (i := 0) rfl u44 h1 h2 fun g hg => ⟨group_print (h3 g hg).1 (h3 g hg).2.1 (h3 g hg).2.2, group_no (h3 g hg).2.2 (by decide) (by decide) (by decide) (by decide) (by decide)⟩
theorem bars_print {bs : List Sp.Ch} (h1 : bs ≠ []) (h2 : bs.length ≤ 3) (h3 : ∀ c ∈ bs, WfC c) : Sp.each (Lib.join (bs.map Sp.printC) [44, 32]) [44, 32] 3 Sp.choose = some bs :=
  each_print (c := 44) (i := 0) rfl u44 h1 h2 fun c hc => ⟨choose_print (h3 c hc), printC_no (h3 c hc) (by decide) (by decide) (by decide) (by decide)⟩
theorem needs_inv {s : Str} {ns : List (List Sp.Ch)} (h : Sp.each s [44, 32] 3 (fun g => Sp.each g [32, 124, 32] 3 Sp.choose) = some ns) :
    Lib.join (ns.map groupT) [44, 32] = s ∧ ns ≠ [] ∧ ns.length ≤ 3 ∧ ∀ g ∈ ns, g ≠ [] ∧ g.length ≤ 3 ∧ ∀ c ∈ g, WfC c :=
  each_inv (Q := fun g => g ≠ [] ∧ g.length ≤ 3 ∧ ∀ c ∈ g, WfC c) (pr := groupT) (fun _ _ => group_inv) (by simp) h
theorem bars_inv {s : Str} {bs : List Sp.Ch} (h : Sp.each s [44, 32] 3 Sp.choose = some bs) : Lib.join (bs.map Sp.printC) [44, 32] = s ∧ bs ≠ [] ∧ bs.length ≤ 3 ∧ ∀ c ∈ bs, WfC c :=
  each_inv (Q := WfC) (pr := Sp.printC) (fun _ _ => choose_inv) (by simp) h
theorem isEmpty_nil {α : Type} {l : List α} (h : l.isEmpty = true) : l = [] := List.isEmpty_iff.1 h
theorem isEmpty_ne {α : Type} {l : List α} (h : l ≠ []) : l.isEmpty = false := by cases l; exact absurd rfl h; rfl
theorem first_inv {p' : Sp.Pk} {s : Str} (h : Sp.line Sp.nothing true s = some p') : WfP p' ∧ linesOf p' = [s] := by
  rcases hcut : Lib.cut s [32] with ⟨a, r, ok⟩
  unfold Sp.line at h
  rw [hcut] at h
  simp only at h
  split at h
  · cases h
  · rename_i h0
    have h0' : ok = true ∧ (a == Sp.packageW) = true := by
      simp only [Bool.not_eq_true, Bool.not_eq_false', Bool.and_eq_true] at h0
      exact ⟨h0.1, by have := h0.2; cases hh : (a == Sp.packageW) <;> rw [hh] at this <;> simp_all⟩
    obtain ⟨rfl, ha⟩ := h0'
    rw [if_pos ha] at h
    rcases hcut2 : Lib.cut r [32] with ⟨n, v, ok2⟩
    rw [hcut2] at h
    simp only at h
    split at h
    · rename_i hm
      simp only [Bool.and_eq_true] at hm
      obtain ⟨⟨rfl, h2⟩, h3⟩ := hm
      cases h
      refine ⟨⟨h2, h3, by simp [Sp.nothing], fun g hg => by simp [Sp.nothing] at hg, by simp [Sp.nothing], fun c hc => by simp [Sp.nothing] at hc, by simp [Sp.nothing], fun f hf => by simp [Sp.nothing] at hf, rfl⟩, ?_⟩
      have ha' : a = Sp.packageW := by simpa using ha
      subst ha'
      rw [cut_hit (by simp) hcut, cut_hit (by simp) hcut2]
      simp [linesOf, pkL, Sp.nothing, needsLs, barsLs]
    · cases h
theorem later_inv {p p' : Sp.Pk} {s : Str} (hp : WfP p) (hs : (10 : UInt8) ∉ s) (h : Sp.line p false s = some p') : WfP p' ∧ linesOf p' = linesOf p ++ [s] := by
  rcases hcut : Lib.cut s [32] with ⟨a, r, ok⟩
  unfold Sp.line at h
  rw [hcut] at h
  simp only at h
  split at h
  · cases h
  · rename_i h0
    have h0' : ok = true ∧ (a == Sp.packageW) = false := by
      simp only [Bool.not_eq_true, Bool.not_eq_false', Bool.and_eq_true] at h0
      exact ⟨h0.1, by have := h0.2; cases hh : (a == Sp.packageW) <;> rw [hh] at this <;> simp_all⟩
    obtain ⟨rfl, ha⟩ := h0'
    rw [ha] at h
    have es := cut_hit (by simp) hcut
    rw [if_neg (by simp)] at h
    split at h
    · rename_i hw
      have ha' : a = Sp.needsW := by simpa using hw
      split at h
      · rename_i he
        simp only [Bool.and_eq_true] at he
        obtain ⟨⟨e1, e2⟩, e3⟩ := he
        obtain ⟨ns, hns, rfl⟩ := Option.map_eq_some_iff.1 h
        obtain ⟨i1, i2, i3, i4⟩ := needs_inv hns
        refine ⟨⟨hp.name, hp.ver, i3, i4, hp.bars, hp.barred, hp.files, hp.paths, hp.clash⟩, ?_⟩
        unfold linesOf
        simp only [isEmpty_nil e1, isEmpty_nil e2, isEmpty_nil e3]
        have : needsLs ns = [s] := by
          unfold needsLs needsL
          rw [isEmpty_ne i2, i1, es, ha']; simp
        rw [this]; simp [needsLs, barsLs, pkL]
      · cases h
    · split at h
      · rename_i hw
        have ha' : a = Sp.barsW := by simpa using hw
        split at h
        · rename_i he
          simp only [Bool.and_eq_true] at he
          obtain ⟨e2, e3⟩ := he
          obtain ⟨ns, hns, rfl⟩ := Option.map_eq_some_iff.1 h
          obtain ⟨i1, i2, i3, i4⟩ := bars_inv hns
          refine ⟨⟨hp.name, hp.ver, hp.needs, hp.groups, i3, i4, hp.files, hp.paths, hp.clash⟩, ?_⟩
          unfold linesOf
          simp only [isEmpty_nil e2, isEmpty_nil e3]
          have : barsLs ns = [s] := by
            unfold barsLs barsL
            rw [isEmpty_ne i2, i1, es, ha']; simp
          rw [this]; simp [barsLs, pkL]
        · cases h
      · split at h
        · rename_i hw
          have ha' : a = Sp.fileW := by simpa using hw
          split at h
          · rename_i he
            rcases hcut2 : Lib.cut r [61] with ⟨f, c, ok2⟩
            rw [hcut2] at he h
            simp only [Bool.and_eq_true, decide_eq_true_eq, Bool.not_eq_true'] at he
            obtain ⟨⟨⟨⟨rfl, e2⟩, e3⟩, e4⟩, e5⟩ := he
            cases h
            have er := cut_hit (by simp) hcut2
            refine ⟨⟨hp.name, hp.ver, hp.needs, hp.groups, hp.bars, hp.barred, by simp; omega, fun g hg => ?_, by rw [List.map_append]; exact e5⟩, ?_⟩
            · rcases List.mem_append.1 hg with hg | hg
              · exact hp.paths g hg
              · rw [List.mem_singleton] at hg; subst hg
                refine ⟨e4, e2, fun hm => hs ?_⟩
                rw [es, er]; simp; exact .inr (.inr hm)
            · unfold linesOf
              simp only [List.map_append, List.map_cons, List.map_nil]
              have : fileL ⟨f, c⟩ = s := by rw [es, er, ha']; simp [fileL]
              rw [this]; simp [pkL]
          · cases h
        · cases h
theorem lines_inv : ∀ (ls : List Str) (p p' : Sp.Pk) (i : Nat), WfP p → (∀ s ∈ ls, (10 : UInt8) ∉ s) → Sp.lines p (i + 1) ls = .inr p' → WfP p' ∧ linesOf p' = linesOf p ++ ls
  | [], p, p', i, hp, _, h => by cases h; exact ⟨hp, by simp⟩
  | s :: r, p, p', i, hp, hs, h => by
    unfold Sp.lines at h
    have e0 : (i + 1 == 0) = false := by simp
    rw [e0] at h
    split at h
    · rename_i q hq
      obtain ⟨h1, h2⟩ := later_inv hp (hs s (by simp)) hq
      obtain ⟨h3, h4⟩ := lines_inv r q p' (i + 1) h1 (fun x hx => hs x (List.mem_cons_of_mem _ hx)) h
      exact ⟨h3, by rw [h4, h2]; simp⟩
    · cases h
theorem all_inv {ls : List Str} {p : Sp.Pk} (hne : ls ≠ []) (hs : ∀ s ∈ ls, (10 : UInt8) ∉ s) (h : Sp.lines Sp.nothing 0 ls = .inr p) : WfP p ∧ linesOf p = ls := by
  cases ls with
  | nil => exact absurd rfl hne
  | cons s r =>
    unfold Sp.lines at h
    have e0 : ((0 : Nat) == 0) = true := rfl
    rw [e0] at h
    split at h
    · rename_i q hq
      obtain ⟨h1, h2⟩ := first_inv hq
      obtain ⟨h3, h4⟩ := lines_inv r q p 0 h1 (fun x hx => hs x (List.mem_cons_of_mem _ hx)) h
      exact ⟨h3, by rw [h4, h2]; rfl⟩
    · cases h
theorem ins_perm (f : Sp.Fl) : ∀ l : List Sp.Fl, (Sp.insertF f l).Perm (f :: l)
  | [] => List.Perm.refl _
  | g :: r => by
    unfold Sp.insertF
    split
    · exact List.Perm.refl _
    · exact ((ins_perm f r).cons g).trans (List.Perm.swap f g r)
theorem sort_perm (l : List Sp.Fl) : ∀ acc, (l.foldl (fun a f => Sp.insertF f a) acc).Perm (acc ++ l) := by
  induction l with
  | nil => intro acc; simp
  | cons x r ih =>
    intro acc
    rw [List.foldl_cons]
    exact (ih _).trans (((ins_perm x acc).append_right r).trans (by rw [List.cons_append]; exact List.perm_middle.symm))
theorem sortF_perm (l : List Sp.Fl) : (Sp.sortF l).Perm l := by unfold Sp.sortF; simpa using sort_perm l []
theorem sort_id : ∀ (l acc : List Sp.Fl), P3.Ord (acc ++ l) → l.foldl (fun a f => Sp.insertF f a) acc = acc ++ l
  | [], acc, _ => by simp
  | x :: r, acc, h => by
    have e : acc ++ x :: r = (acc ++ [x]) ++ r := by simp
    have e2 : Sp.insertF x acc = acc ++ [x] := by
      obtain ⟨_, _, h3⟩ := List.pairwise_append.1 h
      have := P3.ins_mid x acc [] (fun g hg => by
        rw [← Bool.not_eq_true, P3.lt_iff]
        exact List.not_lt.2 (h3 g hg x (by simp))) (fun g r h => by cases h)
      simpa using this
    rw [List.foldl_cons, e2, e]
    exact sort_id r (acc ++ [x]) (by rw [← e]; exact h)
theorem sortF_id (l : List Sp.Fl) (h : P3.Ord l) : Sp.sortF l = l := sort_id l [] h
theorem clash_perm {l r : List Str} (h : l.Perm r) : Sp.clash1 l = Sp.clash1 r := by
  have key : ∀ {l r : List Str}, l.Perm r → Sp.clash1 l = true → Sp.clash1 r = true := by
    intro l r h hc
    rw [clash1_iff] at hc ⊢
    obtain ⟨x, hx, h1⟩ := hc
    refine ⟨x, h.mem_iff.1 hx, ?_⟩
    rcases h1 with h1 | h1
    · exact .inl (by rw [← h.count_eq]; exact h1)
    · right
      obtain ⟨y, hy, hf⟩ := List.mem_flatMap.1 h1
      exact List.mem_flatMap.2 ⟨y, h.mem_iff.1 hy, hf⟩
  rw [Bool.eq_iff_iff]
  exact ⟨key h, key h.symm⟩
theorem WfP.sorted {p : Sp.Pk} (h : WfP p) : WfP { p with files := Sp.sortF p.files } :=
  ⟨h.name, h.ver, h.needs, h.groups, h.bars, h.barred, by rw [P3.sortF_len]; exact h.files, fun f hf => h.paths f ((P3.sortF_mem _ _).1 hf), by
    rw [clash_perm ((sortF_perm p.files).map _)]; exact h.clash⟩
theorem line_pk {p : Sp.Pk} (hn : Sp.isName p.name = true) (hv : Sp.isVer p.ver = true) (q : Sp.Pk) : Sp.line q true (pkL p) = some { q with name := p.name, ver := p.ver } := by
  unfold Sp.line pkL
  rw [cut_mk 32 (by decide)]
  simp only
  rw [cut_mk 32 (V1.name_no hn (by decide))]
  simp [hn, hv]
theorem line_needs {q : Sp.Pk} (h1 : q.needs = []) (h2 : q.bars = []) (h3 : q.files = []) {ns : List (List Sp.Ch)} (i1 : ns ≠ []) (i2 : ns.length ≤ 3) (i3 : ∀ g ∈ ns, g ≠ [] ∧ g.length ≤ 3 ∧ ∀ c ∈ g, WfC c) :
    Sp.line q false (needsL ns) = some { q with needs := ns } := by
  unfold Sp.line needsL
  rw [cut_mk 32 (by decide)]
  simp only [needs_print i1 i2 i3, h1, h2, h3]
  rfl
theorem line_bars {q : Sp.Pk} (h2 : q.bars = []) (h3 : q.files = []) {bs : List Sp.Ch} (i1 : bs ≠ []) (i2 : bs.length ≤ 3) (i3 : ∀ c ∈ bs, WfC c) :
    Sp.line q false (barsL bs) = some { q with bars := bs } := by
  unfold Sp.line barsL
  rw [cut_mk 32 (by decide)]
  simp only [bars_print i1 i2 i3, h2, h3]
  rfl
theorem line_file {q : Sp.Pk} {f : Sp.Fl} (hf : WfF f) (h4 : q.files.length < 4) (hc : Sp.clash1 (q.files.map (·.path) ++ [f.path]) = false) : Sp.line q false (fileL f) = some { q with files := q.files ++ [f] } := by
  unfold Sp.line fileL
  rw [cut_mk 32 (by decide)]
  simp only
  rw [cut_mk 61 (V1.path_no hf.1 (by decide) (by decide))]
  simp only [hf.1, hc, decide_eq_true hf.2.1, decide_eq_true h4, Bool.not_false, Bool.and_self, if_true]
  rfl
theorem clash_prefix (a b : List Str) (h : Sp.clash1 (a ++ b) = false) : Sp.clash1 a = false := by
  induction a with
  | nil => rfl
  | cons x r ih =>
    rw [List.cons_append] at h
    unfold Sp.clash1 at h ⊢
    rw [Bool.or_eq_false_iff] at h ⊢
    rw [List.any_append, Bool.or_eq_false_iff] at h
    exact ⟨h.1.1, ih h.2⟩
theorem lines_files : ∀ (fs : List Sp.Fl) (q : Sp.Pk) (i : Nat), (∀ f ∈ fs, WfF f) → q.files.length + fs.length ≤ 4 → Sp.clash1 ((q.files ++ fs).map (·.path)) = false → Sp.lines q (i + 1) (fs.map fileL) = .inr { q with files := q.files ++ fs }
  | [], q, i, _, _, _ => by simp [Sp.lines]
  | f :: r, q, i, h1, h2, h3 => by
    rw [List.map_cons]
    unfold Sp.lines
    have e0 : (i + 1 == 0) = false := by simp
    simp only [List.length_cons] at h2
    have e1 : (q.files ++ f :: r).map (·.path) = (q.files.map (·.path) ++ [f.path]) ++ r.map (·.path) := by simp
    rw [e0, line_file (h1 f (by simp)) (by omega) (clash_prefix _ _ (e1 ▸ h3))]
    simp only
    rw [lines_files r _ (i + 1) (fun x hx => h1 x (List.mem_cons_of_mem _ hx)) (by simp; omega) (by simpa using h3)]
    simp
theorem lines_bars {p q : Sp.Pk} (hp : WfP p) (hb : q.bars = []) (hf : q.files = []) (i : Nat) : Sp.lines q (i + 1) (barsLs p.bars ++ p.files.map fileL) = .inr { q with bars := p.bars, files := p.files } := by
  have e0 : (i + 1 == 0) = false := by simp
  unfold barsLs
  split
  · rename_i h
    rw [List.nil_append, lines_files p.files q i hp.paths (by rw [hf]; simpa using hp.files) (by rw [hf]; exact hp.clash), hf, isEmpty_nil h, ← hb]
    rfl
  · rename_i h
    rw [List.singleton_append]
    unfold Sp.lines
    rw [e0, line_bars hb hf (by rintro e; rw [e] at h; exact h rfl) hp.bars hp.barred]
    simp only
    rw [lines_files p.files _ (i + 1) hp.paths (by simp [hf]; exact hp.files) (by simpa [hf] using hp.clash)]
    simp [hf]
theorem lines_print {p : Sp.Pk} (hp : WfP p) : Sp.lines Sp.nothing 0 (linesOf p) = .inr p := by
  have e0 : ((0 : Nat) == 0) = true := rfl
  unfold linesOf Sp.lines
  rw [e0, line_pk hp.name hp.ver]
  simp only
  unfold needsLs
  split
  · rename_i h
    rw [List.nil_append, lines_bars hp rfl rfl]
    obtain ⟨pn, pb, pna, pv, pf⟩ := p
    simp only at h ⊢
    rw [isEmpty_nil h]; rfl
  · rename_i h
    rw [List.singleton_append]
    unfold Sp.lines
    have e1 : (0 + 1 == 0) = false := rfl
    rw [e1, line_needs rfl rfl rfl (by rintro e; rw [e] at h; exact h rfl) hp.needs hp.groups]
    simp only
    rw [lines_bars hp rfl rfl]
end V2
end Go.Proofs.YtfphcecjhdkcoaaGreatDoor
/-
Plain laws: the one form of a package is its own, no longer than the text; texts laid behind each other with an empty line between are taken apart again.
-/
namespace Go.Proofs.YtfphcecjhdkcoaaGreatDoor
namespace V3
open Sp (Str)
open V1 V2
/-- What was read: of the form, its files by path. -/
structure Good (p : Sp.Pk) : Prop where
  wf : WfP p
  ord : P3.Ord p.files
  len : (Sp.print p).length ≤ 300
theorem no10_lines {p : Sp.Pk} (h : WfP p) : ∀ s ∈ linesOf p, (10 : UInt8) ∉ s ∧ s ≠ [] := by
  intro s hs
  unfold linesOf at hs
  rcases List.mem_cons.1 hs with rfl | hs
  · unfold pkL
    have a1 := V1.name_no h.name (c := 10) (by decide)
    have a2 := V1.ver_no h.ver (c := 10) (by decide)
    exact ⟨by simp [Sp.packageW, a1, a2], by simp [Sp.packageW]⟩
  · rcases List.mem_append.1 hs with hs | hs
    · unfold needsLs at hs
      split at hs
      · cases hs
      · rw [List.mem_singleton] at hs; subst hs
        unfold needsL
        refine ⟨fun hm => ?_, by simp [Sp.needsW]⟩
        have : (10 : UInt8) ∈ Lib.join (p.needs.map groupT) [44, 32] := by simpa [Sp.needsW] using hm
        rcases mem_join this with hm | ⟨x, hx, hm⟩
        · simp at hm
        · obtain ⟨g, hg, rfl⟩ := List.mem_map.1 hx
          exact group_no (h.groups g hg).2.2 (by decide) (by decide) (by decide) (by decide) (by decide) hm
    · rcases List.mem_append.1 hs with hs | hs
      · unfold barsLs at hs
        split at hs
        · cases hs
        · rw [List.mem_singleton] at hs; subst hs
          unfold barsL
          refine ⟨fun hm => ?_, by simp [Sp.barsW]⟩
          have : (10 : UInt8) ∈ Lib.join (p.bars.map Sp.printC) [44, 32] := by simpa [Sp.barsW] using hm
          rcases mem_join this with hm | ⟨x, hx, hm⟩
          · simp at hm
          · obtain ⟨c, hc, rfl⟩ := List.mem_map.1 hx
            exact printC_no (h.barred c hc) (by decide) (by decide) (by decide) (by decide) hm
      · obtain ⟨f, hf, rfl⟩ := List.mem_map.1 hs
        unfold fileL
        have a1 := V1.path_no (h.paths f hf).1 (c := 10) (by decide) (by decide)
        have a2 := (h.paths f hf).2.2
        exact ⟨by simp [Sp.fileW, a1, a2], by simp [Sp.fileW]⟩
theorem linesOf_ne (p : Sp.Pk) : linesOf p ≠ [] := by simp [linesOf]
theorem linesOf_perm {p : Sp.Pk} {fs : List Sp.Fl} (h : fs.Perm p.files) : (linesOf { p with files := fs }).Perm (linesOf p) := by
  unfold linesOf
  exact (((h.map fileL).append_left _).append_left _).cons _
theorem join_len (t : Str) : ∀ {a b : List Str}, a.Perm b → (Lib.join a t).length = (Lib.join b t).length := by
  intro a b h
  have hl := h.length_eq
  have hs : Lib.lens a = Lib.lens b := by unfold Lib.lens; exact (h.map _).sum_nat
  cases a with
  | nil => rw [List.nil_perm.1 h]
  | cons x r =>
    cases b with
    | nil => simp at hl
    | cons y q =>
      rw [Lib.join_length, Lib.join_length, hs]
      simp at hl; rw [hl]
theorem join_last : ∀ {ls : List Str}, ls ≠ [] → (∀ s ∈ ls, (10 : UInt8) ∉ s ∧ s ≠ []) → Lib.hasSuffix (Lib.join ls [10]) [10] = false
  | [], h, _ => absurd rfl h
  | [x], _, h => by
    rw [Lib.join_one, Bool.eq_false_iff]
    intro hs
    exact (h x (by simp)).1 ((List.isSuffixOf_iff_suffix.1 hs).subset (by simp))
  | x :: y :: r, _, h => by
    have ih := join_last (ls := y :: r) (by simp) fun s hs => h s (List.mem_cons_of_mem _ hs)
    rw [join_cons2, Bool.eq_false_iff]
    intro hs
    have hne : Lib.join (y :: r) [10] ≠ [] := by
      rw [Lib.join_cons]
      have := (h y (by simp)).2
      cases y with
      | nil => exact absurd rfl this
      | cons a b => simp
    have h1 := List.isSuffixOf_iff_suffix.1 hs
    have : [10] <:+ Lib.join (y :: r) [10] := List.suffix_of_suffix_length_le h1 (List.suffix_append _ _) (by
      have := List.length_pos_iff.2 hne; simp only [List.length_singleton]; omega)
    rw [show Lib.hasSuffix (Lib.join (y :: r) [10]) [10] = true from List.isSuffixOf_iff_suffix.2 this] at ih
    cases ih
theorem trim_len (t : Str) : (Lib.trimSuffix t [10]).length ≤ t.length := Lib.trimSuffix_le t [10]
theorem parse_good {t : Str} {p : Sp.Pk} (h : Sp.parse t = .inr p) : Good p ∧ (Sp.print p).length ≤ t.length := by
  unfold Sp.parse at h
  split at h
  · cases h
  · rename_i hl
    split at h
    · cases h
    · rename_i q hq
      cases h
      obtain ⟨h1, h2⟩ := all_inv (Sp.split_ne _ _ (by simp)) (fun s hs => split_no 10 _ s hs) hq
      have e1 : Sp.print q = Lib.trimSuffix t [10] := by rw [print_join, h2, join_split _ _ (by simp)]
      have e2 : (Sp.print { q with files := Sp.sortF q.files }).length = (Sp.print q).length := by
        rw [print_join, print_join]
        exact join_len _ (linesOf_perm (sortF_perm q.files))
      have e3 := trim_len t
      rw [e1] at e2
      exact ⟨⟨h1.sorted, P3.sortF_ord _, by omega⟩, by omega⟩
/-- The one form is its own. -/
theorem parse_print {p : Sp.Pk} (h : Good p) : Sp.parse (Sp.print p) = .inr p := by
  have hn := no10_lines h.wf
  have e1 : Lib.trimSuffix (Sp.print p) [10] = Sp.print p := by
    unfold Lib.trimSuffix
    rw [print_join, join_last (linesOf_ne p) hn]; simp
  unfold Sp.parse
  rw [if_neg (by have := h.len; omega), e1, print_join, split_join 10 [10] 0 rfl u10 (linesOf p) (linesOf_ne p) fun s hs => (hn s hs).1, lines_print h.wf]
  simp only
  rw [sortF_id _ h.ord]
theorem print_head (p : Sp.Pk) : ∃ r, Sp.print p = [112, 97, 99, 107, 97, 103, 101, 32] ++ (p.name ++ 32 :: r) ∧ p.ver <+: r := by
  unfold Sp.print
  simp only [List.append_assoc, List.cons_append, List.nil_append]
  exact ⟨_, rfl, List.prefix_append _ _⟩
theorem print_ne (p : Sp.Pk) : Sp.print p ≠ [] := by
  obtain ⟨r, h, _⟩ := print_head p
  rw [h]; simp
/-- Two line ends in a row. -/
def dbl : Str → Bool
  | [] => false
  | [_] => false
  | a :: b :: r => (a == 10 && b == 10) || dbl (b :: r)
theorem dbl_no : ∀ {s : Str}, (10 : UInt8) ∉ s → dbl s = false
  | [], _ => rfl
  | [_], _ => rfl
  | a :: b :: r, h => by
    unfold dbl
    have h1 : (a == 10) = false := by simp; rintro rfl; exact h (by simp)
    rw [h1, dbl_no (s := b :: r) fun hm => h (List.mem_cons_of_mem _ hm)]; rfl
theorem dbl_join : ∀ {x : Str} {y : Str}, x ≠ [] → (10 : UInt8) ∉ x → y.head? ≠ some 10 → dbl (x ++ 10 :: y) = dbl y
  | [], _, h, _, _ => absurd rfl h
  | [a], y, _, h, hy => by
    have h1 : (a == 10) = false := by simp; rintro rfl; exact h (by simp)
    cases y with
    | nil => simp [dbl, h1]
    | cons b r =>
      have h2 : (b == 10) = false := by simp; rintro rfl; exact hy rfl
      simp [dbl, h1, h2]
  | a :: b :: x, y, _, h, hy => by
    have h1 : (a == 10) = false := by simp; rintro rfl; exact h (by simp)
    have ih := dbl_join (x := b :: x) (y := y) (by simp) (fun hm => h (List.mem_cons_of_mem _ hm)) hy
    simp only [List.cons_append] at ih ⊢
    rw [dbl, h1, ih]; rfl
theorem dbl_lines : ∀ {ls : List Str}, (∀ s ∈ ls, (10 : UInt8) ∉ s ∧ s ≠ []) → dbl (Lib.join ls [10]) = false ∧ (Lib.join ls [10]).head? ≠ some 10
  | [], _ => by simp [Lib.join_nil, dbl]
  | [x], h => by
    have := h x (by simp)
    rw [Lib.join_one]
    exact ⟨dbl_no this.1, fun e => this.1 (List.mem_of_mem_head? e)⟩
  | x :: y :: r, h => by
    obtain ⟨h1, h2⟩ := dbl_lines (ls := y :: r) fun s hs => h s (List.mem_cons_of_mem _ hs)
    have hx := h x (by simp)
    rw [join_cons2, List.append_assoc, List.singleton_append, dbl_join hx.2 hx.1 h2]
    refine ⟨h1, ?_⟩
    cases x with
    | nil => exact absurd rfl hx.2
    | cons a b => simp; rintro rfl; exact hx.1 (by simp)
theorem dbl_occ {s : Str} {j : Nat} (h : Lib.occAt s [10, 10] j = true) : dbl s = true := by
  induction j generalizing s with
  | zero =>
    unfold Lib.occAt at h
    obtain ⟨r, hr⟩ := List.isPrefixOf_iff_prefix.1 h
    rw [List.drop_zero] at hr
    rw [← hr]; simp [dbl]
  | succ j ih =>
    cases s with
    | nil => unfold Lib.occAt at h; simp at h
    | cons a r =>
      have := ih (s := r) (by unfold Lib.occAt at h ⊢; simpa using h)
      cases r with
      | nil => simp [dbl] at this
      | cons b q => unfold dbl; rw [this]; simp
/-- Texts of the form: no empty line, and no line end at their ends. -/
structure Tame (s : Str) : Prop where
  ne : s ≠ []
  head : s.head? ≠ some 10
  last : Lib.hasSuffix s [10] = false
  dbl : V3.dbl s = false
theorem tame_print {p : Sp.Pk} (h : WfP p) : Tame (Sp.print p) := by
  have hn := no10_lines h
  rw [print_join]
  obtain ⟨h1, h2⟩ := dbl_lines hn
  exact ⟨by rw [← print_join]; exact print_ne p, h2, join_last (linesOf_ne p) hn, h1⟩
theorem tame_occ {x y : Str} (hx : Tame x) {j : Nat} (hj : j < x.length) : Lib.occAt (x ++ y) [10, 10] j = false := by
  rw [Bool.eq_false_iff]; intro ho
  by_cases h1 : j + 1 < x.length
  · have : Lib.occAt x [10, 10] j = true := by
      rw [Sp.occ_take _ _ _ (by simp; omega)]
      rw [Sp.occ_take _ _ _ (by simp; omega)] at ho
      rwa [List.drop_append_of_le_length (by omega), List.take_append_of_le_length (by rw [List.length_drop]; simp; omega)] at ho
    have := dbl_occ this
    rw [hx.dbl] at this; cases this
  · have hl : j = x.length - 1 := by omega
    have hg := occ_get (i := 0) (c := 10) ho rfl
    rw [List.getElem?_append_left (by omega)] at hg
    have hlast := hx.last
    have : Lib.hasSuffix x [10] = true := by
      unfold Lib.hasSuffix
      rw [List.isSuffixOf_iff_suffix, List.suffix_iff_eq_drop]
      have hd : x.drop (x.length - 1) = [10] := by
        rw [← hl]
        have hjx : j < x.length := hj
        rw [List.drop_eq_getElem_cons hjx]
        have : x[j] = 10 := by simpa [List.getElem?_eq_getElem hjx] using hg
        rw [this, List.drop_eq_nil_of_le (by omega)]
      simpa using hd.symm
    rw [this] at hlast; cases hlast
theorem split_tame : ∀ xs : List Str, xs ≠ [] → (∀ x ∈ xs, Tame x) → Lib.split (Lib.join xs [10, 10]) [10, 10] = xs
  | [], h, _ => absurd rfl h
  | [x], _, h => by
    rw [Lib.join_one]
    have hx := h x (by simp)
    refine Sp.split_miss x _ (by simp) (Lib.index_none fun j _ => ?_)
    rw [Bool.eq_false_iff]; intro ho
    have := dbl_occ ho
    rw [hx.dbl] at this; cases this
  | x :: y :: r, _, h => by
    rw [join_cons2, List.append_assoc]
    rw [Sp.split_at _ [10, 10] (by simp) x.length (by simp) ?_ ?_]
    · have e1 : (x ++ ([10, 10] ++ Lib.join (y :: r) [10, 10])).take x.length = x := by simp
      have e2 : (x ++ ([10, 10] ++ Lib.join (y :: r) [10, 10])).drop (x.length + ([10, 10] : Str).length) = Lib.join (y :: r) [10, 10] := by
        rw [← List.append_assoc, List.drop_append_of_le_length (by simp), List.drop_eq_nil_of_le (by simp)]; rfl
      rw [e1, e2, split_tame (y :: r) (by simp) fun z hz => h z (List.mem_cons_of_mem _ hz)]
    · unfold Lib.occAt
      rw [List.drop_left]
      exact List.isPrefixOf_iff_prefix.2 (List.prefix_append _ _)
    · intro j hj
      exact tame_occ (h x (by simp)) hj
end V3
end Go.Proofs.YtfphcecjhdkcoaaGreatDoor
/-
Plain: which of two versions is the earlier one; the program's way and the document's way.
-/
namespace Go.Proofs.YtfphcecjhdkcoaaGreatDoor
namespace Sp
/-- How a byte that is no digit is ordered. -/
def weight (c : UInt8) : Int :=
  if c = 126 then -1 else if (97 ≤ c.toNat ∧ c.toNat ≤ 122) ∨ (65 ≤ c.toNat ∧ c.toNat ≤ 90) then c.toNat else c.toNat + 256
def sgn (n : Int) : Int := if n < 0 then -1 else if 0 < n then 1 else 0
/-- The first difference of two rows of weights, the shorter filled up with noughts. -/
def diffL (wt : UInt8 → Int) : Str → Int
  | [] => 0
  | b :: y => if sgn (0 - wt b) = 0 then diffL wt y else sgn (0 - wt b)
def diffW (wt : UInt8 → Int) : Str → Str → Int
  | [], y => diffL wt y
  | a :: x, [] => if sgn (wt a) = 0 then diffW wt x [] else sgn (wt a)
  | a :: x, b :: y => if sgn (wt a - wt b) = 0 then diffW wt x y else sgn (wt a - wt b)
theorem diffW_nc (wt : UInt8 → Int) (b : UInt8) (y : Str) : diffW wt [] (b :: y) = if sgn (0 - wt b) = 0 then diffW wt [] y else sgn (0 - wt b) := rfl
def cmpS (a b : Str) : Int := if strLt a b then -1 else if strLt b a then 1 else 0
def bare (s : Str) : Str := s.dropWhile (· == 48)
/-- Two rows of digits as numbers. -/
def diffD (a b : Str) : Int := if (bare a).length = (bare b).length then cmpS (bare a) (bare b) else sgn ((bare a).length - (bare b).length : Int)
def notDig (c : UInt8) : Bool := !isDig c
def cmpN (wt : UInt8 → Int) : Nat → Str → Str → Int
  | 0, _, _ => 0
  | n + 1, a, b =>
    if a.isEmpty && b.isEmpty then 0
    else if diffW wt (a.takeWhile notDig) (b.takeWhile notDig) = 0 then
      if diffD ((a.dropWhile notDig).takeWhile isDig) ((b.dropWhile notDig).takeWhile isDig) = 0 then cmpN wt n ((a.dropWhile notDig).dropWhile isDig) ((b.dropWhile notDig).dropWhile isDig)
      else diffD ((a.dropWhile notDig).takeWhile isDig) ((b.dropWhile notDig).takeWhile isDig)
    else diffW wt (a.takeWhile notDig) (b.takeWhile notDig)
/-- Which of two versions is the earlier. -/
def cmp (a b : Str) : Int := cmpN weight (a.length + b.length) a b
end Sp
namespace V4
open Sp
/-- The document's weight. -/
def letter (c : UInt8) : Int :=
  if c = 126 then -1 else if ((smallS ++ greatS).contains c) && decide (c.toNat < 128) then c.toNat else c.toNat + 1000
theorem sgn_pos {n : Int} (h : 0 < n) : sgn n = 1 := by unfold sgn; rw [if_neg (by omega), if_pos h]
theorem sgn_neg {n : Int} (h : n < 0) : sgn n = -1 := by unfold sgn; rw [if_pos h]
theorem sgn_zero : sgn 0 = 0 := rfl
theorem sgn_range (n : Int) : sgn n = -1 ∨ sgn n = 0 ∨ sgn n = 1 := by
  unfold sgn; split
  · exact .inl rfl
  · split
    · exact .inr (.inr rfl)
    · exact .inr (.inl rfl)
/-- Of a byte: its class. -/
theorem all256 {P : UInt8 → Prop} (h : ∀ n : Fin 256, P (UInt8.ofNat n)) (c : UInt8) : P c := by
  have := h ⟨c.toNat, c.toNat_lt⟩
  simpa using this
theorem letter_cls : ∀ c : UInt8, (c = 126 ∧ weight c = -1 ∧ letter c = -1) ∨ (65 ≤ c.toNat ∧ c.toNat ≤ 122 ∧ weight c = c.toNat ∧ letter c = c.toNat) ∨ (weight c = c.toNat + 256 ∧ letter c = c.toNat + 1000) :=
  all256 (by decide +kernel)
theorem sgn_letter2 (a b : UInt8) : sgn (letter a - letter b) = sgn (weight a - weight b) := by
  have ha := a.toNat_lt
  have hb := b.toNat_lt
  rcases letter_cls a with ⟨_, h1, h2⟩ | ⟨h3, h4, h1, h2⟩ | ⟨h1, h2⟩ <;> rcases letter_cls b with ⟨_, k1, k2⟩ | ⟨k3, k4, k1, k2⟩ | ⟨k1, k2⟩ <;> rw [h1, h2, k1, k2] <;> unfold sgn <;> (repeat' split) <;> first | rfl | omega
theorem sgn_letter (a : UInt8) : sgn (letter a) = sgn (weight a) := by
  have ha := a.toNat_lt
  rcases letter_cls a with ⟨_, h1, h2⟩ | ⟨h3, h4, h1, h2⟩ | ⟨h1, h2⟩ <;> rw [h1, h2] <;> unfold sgn <;> (repeat' split) <;> first | rfl | omega
theorem sgn_letter0 (a : UInt8) : sgn (0 - letter a) = sgn (0 - weight a) := by
  have ha := a.toNat_lt
  rcases letter_cls a with ⟨_, h1, h2⟩ | ⟨h3, h4, h1, h2⟩ | ⟨h1, h2⟩ <;> rw [h1, h2] <;> unfold sgn <;> (repeat' split) <;> first | rfl | omega
theorem diff_letter : ∀ x y : Str, diffW letter x y = diffW weight x y
  | [], [] => rfl
  | a :: x, [] => by unfold diffW; rw [sgn_letter, diff_letter x []]
  | [], b :: y => by rw [diffW_nc, diffW_nc, sgn_letter0, diff_letter [] y]
  | a :: x, b :: y => by unfold diffW; rw [sgn_letter2, diff_letter x y]
theorem cmpN_letter : ∀ (n : Nat) (a b : Str), cmpN letter n a b = cmpN weight n a b
  | 0, _, _ => rfl
  | n + 1, a, b => by
    unfold cmpN
    rw [diff_letter, cmpN_letter n]
theorem drop_lt {a : Str} (h : a ≠ []) : ((a.dropWhile notDig).dropWhile isDig).length < a.length := by
  have key : ∀ (p : UInt8 → Bool) (l : Str), (l.dropWhile p).length ≤ l.length := fun p l => (List.dropWhile_suffix p).length_le
  cases a with
  | nil => exact absurd rfl h
  | cons c r =>
    cases hc : isDig c with
    | true =>
      rw [List.dropWhile_cons_of_neg (by simp [notDig, hc]), List.dropWhile_cons_of_pos hc]
      have := key isDig r
      simp; omega
    | false =>
      rw [List.dropWhile_cons_of_pos (by simp [notDig, hc])]
      have h1 := key notDig r
      have h2 := key isDig (r.dropWhile notDig)
      simp; omega
theorem drop_le (a : Str) : ((a.dropWhile notDig).dropWhile isDig).length ≤ a.length := by
  by_cases h : a = []
  · subst h; simp
  · exact Nat.le_of_lt (drop_lt h)
/-- The number of rounds does not matter, once it is enough. -/
theorem cmpN_more (wt : UInt8 → Int) : ∀ (n m : Nat) (a b : Str), a.length + b.length ≤ n → a.length + b.length ≤ m → cmpN wt n a b = cmpN wt m a b
  | 0, 0, _, _, _, _ => rfl
  | 0, m + 1, a, b, h1, _ => by
    have ha : a = [] := List.length_eq_zero_iff.1 (by omega)
    have hb : b = [] := List.length_eq_zero_iff.1 (by omega)
    subst ha; subst hb
    rfl
  | n + 1, 0, a, b, _, h2 => by
    have ha : a = [] := List.length_eq_zero_iff.1 (by omega)
    have hb : b = [] := List.length_eq_zero_iff.1 (by omega)
    subst ha; subst hb
    rfl
  | n + 1, m + 1, a, b, h1, h2 => by
    unfold cmpN
    by_cases he : (a.isEmpty && b.isEmpty) = true
    · rw [if_pos he, if_pos he]
    · rw [if_neg he, if_neg he]
      have hlt : ((a.dropWhile notDig).dropWhile isDig).length + ((b.dropWhile notDig).dropWhile isDig).length < a.length + b.length := by
        have ha := drop_le a
        have hb := drop_le b
        by_cases h : a = []
        · have hb' : b ≠ [] := by rintro rfl; rw [h] at he; exact he rfl
          have := drop_lt hb'; omega
        · have := drop_lt h; omega
      rw [cmpN_more wt n m _ _ (by omega) (by omega)]
theorem cmp_of (n : Nat) (a b : Str) (h : a.length + b.length ≤ n) : cmp a b = cmpN weight n a b := cmpN_more _ _ _ _ _ (Nat.le_refl _) h
theorem cmp_letter (n : Nat) (a b : Str) (h : a.length + b.length ≤ n) : cmp a b = cmpN letter n a b := by rw [cmpN_letter, cmp_of n a b h]
/-- One round. -/
theorem cmp_step (a b : Str) (h : (a.isEmpty && b.isEmpty) = false) : cmp a b =
    if diffW weight (a.takeWhile notDig) (b.takeWhile notDig) = 0 then
      if diffD ((a.dropWhile notDig).takeWhile isDig) ((b.dropWhile notDig).takeWhile isDig) = 0 then cmp ((a.dropWhile notDig).dropWhile isDig) ((b.dropWhile notDig).dropWhile isDig)
      else diffD ((a.dropWhile notDig).takeWhile isDig) ((b.dropWhile notDig).takeWhile isDig)
    else diffW weight (a.takeWhile notDig) (b.takeWhile notDig) := by
  have ha := drop_le a
  have hb := drop_le b
  rw [cmp_of (a.length + b.length + 1) a b (by omega), cmp_of (a.length + b.length) ((a.dropWhile notDig).dropWhile isDig) _ (by omega)]
  conv => lhs; unfold cmpN
  rw [h, if_neg (by simp)]
theorem strLt_irrefl : ∀ a : Str, strLt a a = false
  | [] => rfl
  | a :: x => by unfold strLt; rw [if_neg (UInt8.lt_irrefl _), if_neg (UInt8.lt_irrefl _), strLt_irrefl x]
theorem strLt_append (z : Str) : ∀ {a b : Str}, strLt (z ++ a) (z ++ b) = strLt a b := by
  induction z with
  | nil => intros; rfl
  | cons c r ih => intro a b; rw [List.cons_append, List.cons_append, strLt, if_neg (UInt8.lt_irrefl _), if_neg (UInt8.lt_irrefl _), ih]
/-- Rows of digits of one length, compared byte by byte: as numbers. -/
theorem diff_pad (a b : Str) (ha : ∀ c ∈ a, isDig c = true) (hb : ∀ c ∈ b, isDig c = true) (n : Nat) (h1 : a.length ≤ n) (h2 : b.length ≤ n) :
    cmpS (List.replicate (n - a.length) 48 ++ a) (List.replicate (n - b.length) 48 ++ b) = diffD a b := by
  have key : ∀ s : Str, (∀ c ∈ s, isDig c = true) → s.length ≤ n → List.replicate (n - s.length) 48 ++ s = List.replicate (n - (bare s).length) 48 ++ bare s ∧ (bare s).length ≤ s.length ∧ (∀ c r, bare s = c :: r → (48 : UInt8) < c) := by
    intro s
    induction s with
    | nil => intro _ _; exact ⟨rfl, Nat.le_refl _, fun c r h => by simp [bare] at h⟩
    | cons c r ih =>
      intro hd hn
      by_cases hc : c = 48
      · subst hc
        have hb : bare (48 :: r) = bare r := by unfold bare; rw [List.dropWhile_cons_of_pos (by rfl)]
        obtain ⟨i1, i2, i3⟩ := ih (fun c hc => hd c (List.mem_cons_of_mem _ hc)) (by simp at hn; omega)
        refine ⟨?_, by rw [hb]; simp; omega, by rw [hb]; exact i3⟩
        rw [hb, ← i1]
        simp only [List.length_cons] at hn ⊢
        rw [show n - r.length = (n - (r.length + 1)) + 1 from by omega, List.replicate_succ']
        simp
      · have hb : bare (c :: r) = c :: r := by unfold bare; rw [List.dropWhile_cons_of_neg (by simpa using hc)]
        refine ⟨by rw [hb], by rw [hb]; exact Nat.le_refl _, fun d q h => ?_⟩
        rw [hb] at h
        cases h
        have := hd c (by simp)
        unfold isDig at this
        simp only [Bool.and_eq_true, decide_eq_true_eq] at this
        rw [UInt8.lt_iff_toNat_lt]
        have hne : c.toNat ≠ 48 := fun e => hc (UInt8.toNat_inj.1 e)
        show 48 < c.toNat
        omega
  obtain ⟨a1, a2, a3⟩ := key a ha h1
  obtain ⟨b1, b2, b3⟩ := key b hb h2
  rw [a1, b1]
  unfold diffD
  have lt : ∀ x y : Str, x.length < y.length → y.length ≤ n → (∀ c r, y = c :: r → (48 : UInt8) < c) → strLt (List.replicate (n - x.length) 48 ++ x) (List.replicate (n - y.length) 48 ++ y) = true ∧ strLt (List.replicate (n - y.length) 48 ++ y) (List.replicate (n - x.length) 48 ++ x) = false := by
    intro x y hxy hy hc
    obtain ⟨k, hk⟩ : ∃ k, n - x.length = (n - y.length) + (k + 1) := ⟨y.length - x.length - 1, by omega⟩
    rw [hk, ← List.replicate_append_replicate, List.append_assoc, strLt_append, strLt_append]
    cases y with
    | nil => simp at hxy
    | cons c r =>
      have := hc c r rfl
      rw [List.replicate_succ, List.cons_append]
      constructor
      · unfold strLt; rw [if_pos this]
      · unfold strLt; rw [if_neg (UInt8.lt_asymm this), if_pos this]
  split
  · rename_i he
    rw [he]
    unfold cmpS
    rw [strLt_append, strLt_append]
  · rename_i he
    unfold cmpS
    rcases Nat.lt_or_gt_of_ne he with hlt | hlt
    · rw [if_pos (lt _ _ hlt (by omega) b3).1, sgn_neg (by omega)]
    · obtain ⟨l1, l2⟩ := lt _ _ hlt (by omega) a3
      rw [l2, l1, if_neg (by simp), if_pos rfl, sgn_pos (by omega)]
end V4
end Go.Proofs.YtfphcecjhdkcoaaGreatDoor
/-
Plain: sets of packages: what lacks, bars, clashes; in which order; what is planned, installed, removed.
-/
namespace Go.Proofs.YtfphcecjhdkcoaaGreatDoor
namespace Sp
def signOk (s : Str) (o : Int) : Bool :=
  if s == [60, 60] then decide (o < 0) else if s == [60, 61] then decide (o ≤ 0) else if s == [61] then decide (o = 0) else if s == [62, 61] then decide (0 ≤ o) else if s == [62, 62] then decide (0 < o) else true
/-- Is a package what is asked for? -/
def fits (c : Ch) (p : Pk) : Bool := c.name == p.name && signOk c.sign (cmp p.ver c.ver)
def any1 (g : List Ch) (l : List Pk) : Bool := g.any fun c => l.any (fits c)
/-- Of two names the lesser (none: the other). -/
def first (a b : Str) : Str := if a.isEmpty || (!b.isEmpty && strLt b a) then b else a
def least (l : List Str) : Str := l.foldl first []
def lacks (l : List Pk) (p : Pk) : Bool := p.needs.any fun g => !any1 g l
def lacking (l : List Pk) : Str := least ((l.filter (lacks l)).map (·.name))
def barsOne (l : List Pk) (p : Pk) : Bool := l.any fun q => q.name != p.name && any1 p.bars [q]
def barring (l : List Pk) : Str := least ((l.filter (barsOne l)).map (·.name))
def paths (l : List Pk) : List Str := l.flatMap fun p => p.files.map (·.path)
def clashAt (l : List Pk) (x : Str) : Bool := (paths l).any (over x) || decide (2 ≤ (paths l).count x)
def clash (l : List Pk) : Str := least ((paths l).filter (clashAt l))
def waitsFor (there : List Pk) (p q : Pk) : Bool := p.needs.any fun g => !any1 g there && !any1 g [p] && any1 g [q]
def free (there left : List Pk) : List Pk := left.filter fun p => !left.any (waitsFor there p)
def orderN (there : List Pk) : Nat → List Pk → List Str × List Pk
  | 0, left => ([], left)
  | n + 1, left =>
    if (least ((free there left).map (·.name))).isEmpty then ([], left)
    else ((least ((free there left).map (·.name))) :: (orderN there n (left.filter fun p => p.name != least ((free there left).map (·.name)))).1, (orderN there n (left.filter fun p => p.name != least ((free there left).map (·.name)))).2)
def order (there fresh : List Pk) : List Str × List Pk := orderN there fresh.length fresh
structure Fault where
  kind : Nat
  which : Nat
  line : Nat
  name : Str
def okF : Fault := ⟨0, 0, 0, []⟩
/-- The texts as packages; or the first that is none. -/
def readAll (i : Nat) : List Str → Fault ⊕ List Pk
  | [] => .inr []
  | t :: r => match parse t with
    | .inl n => .inl ⟨1, i, n, []⟩
    | .inr p => match readAll (i + 1) r with
      | .inl f => .inl f
      | .inr l => .inr (p :: l)
def names (l : List Pk) : List Str := l.map (·.name)
/-- The packages behind those that are there; or the first that is there already. -/
def addAll (i : Nat) (there : List Pk) : List Pk → Fault ⊕ List Pk
  | [] => .inr there
  | p :: r => if (names there).contains p.name then .inl ⟨2, i, 0, p.name⟩ else addAll (i + 1) (there ++ [p]) r
def judged (there fresh all : List Pk) : Fault ⊕ List Str :=
  if !(lacking all).isEmpty then .inl ⟨4, 0, 0, lacking all⟩
  else if !(barring all).isEmpty then .inl ⟨5, 0, 0, barring all⟩
  else if !(clash all).isEmpty then .inl ⟨6, 0, 0, clash all⟩
  else if !(order there fresh).2.isEmpty then .inl ⟨7, 0, 0, least (names (order there fresh).2)⟩
  else .inr (order there fresh).1
/-- What there would be with new packages, and their order; or the error. -/
def planned (there : List Pk) (texts : List Str) : Fault ⊕ (List Pk × List Str) :=
  match readAll 0 texts with
  | .inl f => .inl f
  | .inr fresh => match addAll 0 there fresh with
    | .inl f => .inl f
    | .inr all => match judged there fresh all with
      | .inl f => .inl f
      | .inr o => .inr (all, o)
def size (l : List Pk) : Nat := (l.map fun p => (print p).length).sum
def removeAll (i : Nat) (l : List Pk) : List Str → Fault ⊕ List Pk
  | [] => .inr l
  | n :: r => if (names l).contains n then removeAll (i + 1) (l.filter fun p => p.name != n) r else .inl ⟨3, i, 0, n⟩
def removed (l : List Pk) (ns : List Str) : Fault ⊕ List Pk :=
  match removeAll 0 l ns with
  | .inl f => .inl f
  | .inr all => if !(lacking all).isEmpty then .inl ⟨4, 0, 0, lacking all⟩ else .inr all
def installed (there : List Pk) (texts : List Str) (room : Nat) : Fault ⊕ List Pk :=
  match planned there texts with
  | .inl f => .inl f
  | .inr (all, _) => if room < size all then .inl ⟨8, 0, 0, []⟩ else .inr all
def sorted (l : List Str) : List Str := l.mergeSort fun x y => decide (x ≤ y)
def find? (l : List Pk) (n : Str) : Option Pk := l.find? fun p => p.name == n
/-- The texts of packages, by name. -/
def texts (l : List Pk) : List Str := (sorted (names l)).filterMap fun n => (find? l n).map print
/-- Whose path it is ([]: nobody's). -/
def owner (l : List Pk) (path : Str) : Str := match l.find? fun p => (p.files.map (·.path)).contains path with
  | some p => p.name
  | none => []
end Sp
namespace V5
open Sp (Str Pk)
theorem le_trans {a b c : Str} (h1 : a ≤ b) (h2 : b ≤ c) : a ≤ c := List.le_trans h1 h2
theorem least_spec : ∀ (l : List Str) (a : Str), (∀ x ∈ l, x ≠ []) → (l = [] ∧ l.foldl Sp.first a = a) ∨ (l ≠ [] ∧ (l.foldl Sp.first a = a ∨ l.foldl Sp.first a ∈ l) ∧ l.foldl Sp.first a ≠ [] ∧ (a ≠ [] → l.foldl Sp.first a ≤ a) ∧ ∀ x ∈ l, l.foldl Sp.first a ≤ x)
  | [], a, _ => .inl ⟨rfl, rfl⟩
  | b :: r, a, h => by
    have hb := h b (by simp)
    right
    rw [List.foldl_cons]
    have hf : (Sp.first a b = a ∨ Sp.first a b = b) ∧ Sp.first a b ≠ [] ∧ (a ≠ [] → Sp.first a b ≤ a) ∧ Sp.first a b ≤ b := by
      unfold Sp.first
      split
      · rename_i hc
        refine ⟨.inr rfl, hb, fun ha => ?_, List.le_refl _⟩
        rw [Bool.or_eq_true] at hc
        rcases hc with hc | hc
        · exact absurd (List.isEmpty_iff.1 hc) ha
        · rw [Bool.and_eq_true, P3.lt_iff] at hc; exact List.le_of_lt hc.2
      · rename_i hc
        simp only [Bool.or_eq_true, not_or, Bool.and_eq_true, Bool.not_eq_true', not_and] at hc
        have ha : a ≠ [] := fun e => hc.1 (by rw [e]; rfl)
        refine ⟨.inl rfl, ha, fun _ => List.le_refl _, ?_⟩
        have := hc.2 (by cases b; exact absurd rfl hb; rfl)
        rw [P3.lt_iff] at this
        exact List.not_lt.1 this
    obtain ⟨f1, f2, f3, f4⟩ := hf
    rcases least_spec r (Sp.first a b) fun x hx => h x (List.mem_cons_of_mem _ hx) with ⟨rfl, e⟩ | ⟨_, e1, e2, e3, e4⟩
    · rw [e]
      refine ⟨by simp, ?_, f2, f3, fun x hx => ?_⟩
      · rcases f1 with f1 | f1
        · exact .inl f1
        · right; rw [f1]; simp
      · rw [List.mem_singleton] at hx; subst hx; exact f4
    · refine ⟨by simp, ?_, e2, fun ha => le_trans (e3 f2) (f3 ha), fun x hx => ?_⟩
      · rcases e1 with e1 | e1
        · rw [e1]
          rcases f1 with f1 | f1
          · exact .inl f1
          · right; rw [f1]; simp
        · right; exact List.mem_cons_of_mem _ e1
      · rcases List.mem_cons.1 hx with rfl | hx
        · exact le_trans (e3 f2) f4
        · exact e4 x hx
theorem least_nil : Sp.least [] = [] := rfl
theorem least_mem {l : List Str} (h : ∀ x ∈ l, x ≠ []) (hl : l ≠ []) : Sp.least l ∈ l ∧ Sp.least l ≠ [] ∧ ∀ x ∈ l, Sp.least l ≤ x := by
  rcases least_spec l [] h with ⟨e, _⟩ | ⟨_, e1, e2, _, e4⟩
  · exact absurd e hl
  · rcases e1 with e1 | e1
    · exact absurd e1 e2
    · exact ⟨e1, e2, e4⟩
theorem least_eq {l : List Str} (h : ∀ x ∈ l, x ≠ []) {r : Str} (hr : r ∈ l) (hm : ∀ x ∈ l, r ≤ x) : Sp.least l = r := by
  obtain ⟨h1, _, h3⟩ := least_mem h (List.ne_nil_of_mem hr)
  exact List.le_antisymm (h3 r hr) (hm _ h1)
theorem least_none {l : List Str} (h : ∀ x ∈ l, x ≠ []) : Sp.least l = [] ↔ l = [] := by
  constructor
  · intro e
    by_cases hl : l = []
    · exact hl
    · exact absurd e (least_mem h hl).2.1
  · rintro rfl; rfl
theorem least_congr {l r : List Str} (h : ∀ x ∈ l, x ≠ []) (he : ∀ x, x ∈ l ↔ x ∈ r) : Sp.least l = Sp.least r := by
  have hr : ∀ x ∈ r, x ≠ [] := fun x hx => h x ((he x).2 hx)
  by_cases hl : l = []
  · subst hl
    have : r = [] := List.eq_nil_iff_forall_not_mem.2 fun x hx => by have := (he x).2 hx; cases this
    rw [this]
  · obtain ⟨h1, _, h3⟩ := least_mem h hl
    exact (least_eq hr ((he _).1 h1) fun x hx => h3 x ((he x).2 hx)).symm
/-- In a row in order the first of a kind is the least. -/
theorem least_find {ns : List Str} (ho : ns.Pairwise (· ≤ ·)) (h : ∀ x ∈ ns, x ≠ []) (P : Str → Bool) : Sp.least (ns.filter P) = (ns.find? P).getD [] := by
  have hf : ∀ x ∈ ns.filter P, x ≠ [] := fun x hx => h x (List.mem_filter.1 hx).1
  cases hp : ns.find? P with
  | none =>
    rw [List.find?_eq_none] at hp
    have : ns.filter P = [] := List.filter_eq_nil_iff.2 hp
    rw [this]; rfl
  | some n =>
    obtain ⟨h1, as0, bs, rfl, h2⟩ := List.find?_eq_some_iff_append.1 hp
    refine least_eq hf (by simp [h1]) fun x hx => ?_
    obtain ⟨hx1, hx2⟩ := List.mem_filter.1 hx
    rcases List.mem_append.1 hx1 with hx1 | hx1
    · have := h2 x hx1
      rw [hx2] at this; cases this
    · rcases List.mem_cons.1 hx1 with rfl | hx1
      · exact List.le_refl _
      · exact (List.pairwise_cons.1 (List.pairwise_append.1 ho).2.1).1 x hx1
theorem any1_perm {g : List Sp.Ch} {l r : List Pk} (h : ∀ p, p ∈ l ↔ p ∈ r) : Sp.any1 g l = Sp.any1 g r := by
  unfold Sp.any1
  congr 1; funext c
  rw [Bool.eq_iff_iff, List.any_eq_true, List.any_eq_true]
  exact ⟨fun ⟨p, hp, hf⟩ => ⟨p, (h p).1 hp, hf⟩, fun ⟨p, hp, hf⟩ => ⟨p, (h p).2 hp, hf⟩⟩
theorem lacks_perm {l r : List Pk} (h : ∀ p, p ∈ l ↔ p ∈ r) (p : Pk) : Sp.lacks l p = Sp.lacks r p := by
  unfold Sp.lacks
  congr 1; funext g
  rw [any1_perm h]
theorem names_ne {l : List Pk} (h : ∀ p ∈ l, p.name ≠ []) (P : Pk → Bool) : ∀ x ∈ (l.filter P).map (·.name), x ≠ [] := by
  intro x hx
  obtain ⟨p, hp, rfl⟩ := List.mem_map.1 hx
  exact h p (List.mem_filter.1 hp).1
theorem mem_names_filter {l r : List Pk} (h : ∀ p, p ∈ l ↔ p ∈ r) {P Q : Pk → Bool} (hPQ : ∀ p, P p = Q p) (x : Str) : x ∈ (l.filter P).map (·.name) ↔ x ∈ (r.filter Q).map (·.name) := by
  simp only [List.mem_map, List.mem_filter]
  constructor
  · rintro ⟨p, ⟨h1, h2⟩, rfl⟩; exact ⟨p, ⟨(h p).1 h1, by rw [← hPQ]; exact h2⟩, rfl⟩
  · rintro ⟨p, ⟨h1, h2⟩, rfl⟩; exact ⟨p, ⟨(h p).2 h1, by rw [hPQ]; exact h2⟩, rfl⟩
theorem lacking_perm {l r : List Pk} (hn : ∀ p ∈ l, p.name ≠ []) (h : ∀ p, p ∈ l ↔ p ∈ r) : Sp.lacking l = Sp.lacking r :=
  least_congr (names_ne hn _) (mem_names_filter h (lacks_perm h))
theorem bars_perm {l r : List Pk} (h : ∀ p, p ∈ l ↔ p ∈ r) (p : Pk) : Sp.barsOne l p = Sp.barsOne r p := by
  unfold Sp.barsOne
  rw [Bool.eq_iff_iff, List.any_eq_true, List.any_eq_true]
  exact ⟨fun ⟨q, hq, hf⟩ => ⟨q, (h q).1 hq, hf⟩, fun ⟨q, hq, hf⟩ => ⟨q, (h q).2 hq, hf⟩⟩
theorem barring_perm {l r : List Pk} (hn : ∀ p ∈ l, p.name ≠ []) (h : ∀ p, p ∈ l ↔ p ∈ r) : Sp.barring l = Sp.barring r :=
  least_congr (names_ne hn _) (mem_names_filter h (bars_perm h))
theorem paths_perm {l r : List Pk} (h : l.Perm r) : (Sp.paths l).Perm (Sp.paths r) := h.flatMap_right _
theorem clash_perm {l r : List Pk} (hn : ∀ x ∈ Sp.paths l, x ≠ []) (h : l.Perm r) : Sp.clash l = Sp.clash r := by
  have hp := paths_perm h
  have e : ∀ x, Sp.clashAt l x = Sp.clashAt r x := by
    intro x
    unfold Sp.clashAt
    rw [hp.count_eq]
    congr 1
    rw [Bool.eq_iff_iff, List.any_eq_true, List.any_eq_true]
    exact ⟨fun ⟨q, hq, hf⟩ => ⟨q, hp.mem_iff.1 hq, hf⟩, fun ⟨q, hq, hf⟩ => ⟨q, hp.mem_iff.2 hq, hf⟩⟩
  refine least_congr (fun x hx => hn x (List.mem_filter.1 hx).1) fun x => ?_
  rw [List.mem_filter, List.mem_filter, e, hp.mem_iff]
theorem waits_perm {t u : List Pk} (h : ∀ p, p ∈ t ↔ p ∈ u) (p q : Pk) : Sp.waitsFor t p q = Sp.waitsFor u p q := by
  unfold Sp.waitsFor
  congr 1; funext g
  rw [any1_perm h]
theorem free_mem {t u l r : List Pk} (ht : ∀ p, p ∈ t ↔ p ∈ u) (h : ∀ p, p ∈ l ↔ p ∈ r) (p : Pk) : (!l.any (Sp.waitsFor t p)) = !r.any (Sp.waitsFor u p) := by
  congr 1
  rw [Bool.eq_iff_iff, List.any_eq_true, List.any_eq_true]
  exact ⟨fun ⟨q, hq, hf⟩ => ⟨q, (h q).1 hq, by rw [← waits_perm ht]; exact hf⟩, fun ⟨q, hq, hf⟩ => ⟨q, (h q).2 hq, by rw [waits_perm ht]; exact hf⟩⟩
theorem order_perm {t u : List Pk} (ht : ∀ p, p ∈ t ↔ p ∈ u) : ∀ (n : Nat) {l r : List Pk}, (∀ p ∈ l, p.name ≠ []) → l.Perm r → (Sp.orderN t n l).1 = (Sp.orderN u n r).1 ∧ (Sp.orderN t n l).2.Perm (Sp.orderN u n r).2
  | 0, l, r, _, h => ⟨rfl, h⟩
  | n + 1, l, r, hn, h => by
    have e : Sp.least ((Sp.free t l).map (·.name)) = Sp.least ((Sp.free u r).map (·.name)) :=
      least_congr (names_ne hn _) (mem_names_filter (fun p => h.mem_iff) (free_mem ht fun p => h.mem_iff))
    unfold Sp.orderN
    rw [e]
    split
    · exact ⟨rfl, h⟩
    · have hf := h.filter fun p => p.name != Sp.least ((Sp.free u r).map (·.name))
      obtain ⟨h1, h2⟩ := order_perm ht n (fun p hp => hn p (List.mem_filter.1 hp).1) hf
      exact ⟨by rw [h1], h2⟩
end V5
end Go.Proofs.YtfphcecjhdkcoaaGreatDoor
/-
Plain: the disk: what is written, what takes hold, what is found again.
-/
namespace Go.Proofs.YtfphcecjhdkcoaaGreatDoor
namespace Sp
/-- The sum of bytes. -/
def sumN (h : Nat) (b : Str) : Nat := b.foldl (fun h c => ((h ^^^ c.toNat) * 1099511628211) % 18446744073709551616) h
def sum (b : Str) : Nat := sumN 14695981039346656037 b
def put (x : Nat) : Str := [56, 48, 40, 32, 24, 16, 8, 0].map fun k => UInt8.ofNat (x / 2 ^ k)
def num8 (b : Str) : Nat := b.foldl (fun a c => a * 256 + c.toNat) 0
/-- A head: its number, how many bytes lie in its area, their sum, its own sum. -/
def headB (n sz sm : Nat) : Str := put n ++ put sz ++ put sm ++ put (sum (put n ++ put sz ++ put sm))
structure Hd where
  number : Nat
  size : Nat
  sum : Nat
  ok : Bool
def headOf (b : Str) : Hd :=
  { number := num8 (b.take 8), size := num8 ((b.drop 8).take 8), sum := num8 ((b.drop 16).take 8), ok := decide (0 < num8 (b.take 8)) && decide (num8 ((b.drop 24).take 8) = Sp.sum (b.take 24)) }
def areaN (S : Nat) : Nat := (S - 2) / 2
def areaFrom (S number : Nat) : Nat := 2 + number % 2 * areaN S
def areaB (s : List Str) (number : Nat) : Str := ((List.range (areaN s.length)).map fun i => s.getD (areaFrom s.length number + i) []).flatten
/-- One head is looked at: is it a later one, and good? -/
def loadOne (s : List Str) (acc : Str × Nat) (i : Nat) : Str × Nat :=
  if (headOf (s.getD i [])).ok && decide (acc.2 < (headOf (s.getD i [])).number) && decide ((headOf (s.getD i [])).size ≤ areaN s.length * 64) && decide (sum ((areaB s (headOf (s.getD i [])).number).take (headOf (s.getD i [])).size) = (headOf (s.getD i [])).sum)
  then ((areaB s (headOf (s.getD i [])).number).take (headOf (s.getD i [])).size, (headOf (s.getD i [])).number) else acc
def load (s : List Str) (last : Nat) : Str × Nat := loadOne s (loadOne s ([], last) 0) 1
structure Dk where
  held : List Str
  seen : List Str
  late : List (Nat × Str)
  left : Int
  dead : Bool
def pad (d : Str) : Str := (d ++ List.replicate 64 0).take 64
namespace Dk
/-- One operation more. -/
def lost (d : Dk) : Dk := { d with dead := d.dead || decide (d.left = 0), left := if 0 < d.left then d.left - 1 else d.left }
def write (d : Dk) (n : Nat) (b : Str) : Dk :=
  if n < d.seen.length then
    { held := d.held, seen := d.seen.set n (pad b), late := if (d.dead || decide (d.left = 0)) = true then d.late else d.late ++ [(n, pad b)], left := if 0 < d.left then d.left - 1 else d.left, dead := d.dead || decide (d.left = 0) }
  else d
def hold (h : List Str) (l : List (Nat × Str)) : List Str := l.foldl (fun h w => h.set w.1 w.2) h
def sync (d : Dk) : Dk :=
  if (d.dead || decide (d.left = 0)) = true then d.lost else { d.lost with held := hold d.held d.late, late := [] }
def bit (mask : Int) (i : Nat) : Bool := decide (mask / 2 ^ (i % 60) % 2 = 1)
/-- Of what had not taken hold: that which does. -/
def some (dead : Bool) (mask : Int) (i : Nat) : List (Nat × Str) → List (Nat × Str)
  | [] => []
  | w :: r => if !dead || bit mask i then w :: some dead mask (i + 1) r else some dead mask (i + 1) r
def back (d : Dk) (mask : Int) : Dk :=
  { held := hold d.held (some d.dead mask 0 d.late), seen := hold d.held (some d.dead mask 0 d.late), late := [], left := -1, dead := false }
def cut (d : Dk) (after : Int) : Dk := { d with left := max after (-1) }
/-- Bytes are written, sector by sector. -/
def writes (d : Dk) (n : Nat) : List Str → Dk
  | [] => d
  | c :: r => writes (d.write n c) (n + 1) r
end Dk
def chunksN : Nat → Str → List Str
  | 0, _ => []
  | n + 1, b => if b.isEmpty then [] else b.take 64 :: chunksN n (b.drop 64)
def chunks (b : Str) : List Str := chunksN b.length b
/-- Bytes lie there from now on, or what lay there does. -/
def save (d : Dk) (last : Nat) (b : Str) : Dk :=
  (((d.writes (areaFrom d.seen.length (last + 1)) (chunks b)).sync).write ((last + 1) % 2) (headB (last + 1) b.length (sum b))).sync
def fresh (S : Nat) : Dk := { held := List.replicate S (List.replicate 64 0), seen := List.replicate S (List.replicate 64 0), late := [], left := -1, dead := false }
end Sp
namespace V6
open Sp (Str Dk)
theorem num8_lt : ∀ (b : Str) (a : Nat), b.foldl (fun a c => a * 256 + c.toNat) a < (a + 1) * 256 ^ b.length
  | [], a => by simp
  | c :: r, a => by
    rw [List.foldl_cons]
    have := num8_lt r (a * 256 + c.toNat)
    have hc := c.toNat_lt
    have e : (c :: r).length = r.length + 1 := rfl
    rw [e, Nat.pow_succ]
    refine Nat.lt_of_lt_of_le this ?_
    have : a * 256 + c.toNat + 1 ≤ (a + 1) * 256 := by omega
    calc (a * 256 + c.toNat + 1) * 256 ^ r.length ≤ ((a + 1) * 256) * 256 ^ r.length := Nat.mul_le_mul_right _ this
      _ = (a + 1) * (256 ^ r.length * 256) := by rw [Nat.mul_assoc, Nat.mul_comm 256]
theorem put_len (x : Nat) : (Sp.put x).length = 8 := rfl
theorem num8_put (x : Nat) (h : x < 18446744073709551616) : Sp.num8 (Sp.put x) = x := by
  unfold Sp.num8 Sp.put
  simp only [List.map_cons, List.map_nil, List.foldl_cons, List.foldl_nil, UInt8.toNat_ofNat']
  omega
theorem sumN_lt : ∀ (b : Str) (h : Nat), h < 18446744073709551616 → Sp.sumN h b < 18446744073709551616
  | [], h, hh => hh
  | c :: r, h, _ => by
    unfold Sp.sumN
    rw [List.foldl_cons]
    exact sumN_lt r _ (Nat.mod_lt _ (by decide))
theorem sum_lt (b : Str) : Sp.sum b < 18446744073709551616 := sumN_lt b _ (by decide)
theorem headB_len (n sz sm : Nat) : (Sp.headB n sz sm).length = 32 := by unfold Sp.headB; simp [put_len]
/-- A head, padded to a sector, is read as what it was. -/
theorem headOf_headB (n sz sm : Nat) (hn : n < 18446744073709551616) (hn0 : 0 < n) (hz : sz < 18446744073709551616) (hm : sm < 18446744073709551616) :
    Sp.headOf (Sp.pad (Sp.headB n sz sm)) = { number := n, size := sz, sum := sm, ok := true } := by
  have e : Sp.pad (Sp.headB n sz sm) = Sp.put n ++ (Sp.put sz ++ (Sp.put sm ++ (Sp.put (Sp.sum (Sp.put n ++ Sp.put sz ++ Sp.put sm)) ++ List.replicate 32 0))) := by
    unfold Sp.pad
    rw [List.take_append, headB_len, List.take_of_length_le (by rw [headB_len]; omega)]
    unfold Sp.headB
    simp
  have t : ∀ (x : Nat) (r : Str), (Sp.put x ++ r).take 8 = Sp.put x ∧ (Sp.put x ++ r).drop 8 = r := fun x r => ⟨List.take_left' (put_len x), List.drop_left' (put_len x)⟩
  have e24 : (Sp.pad (Sp.headB n sz sm)).take 24 = Sp.put n ++ Sp.put sz ++ Sp.put sm := by
    rw [e, ← List.append_assoc, ← List.append_assoc]
    exact List.take_left' (by simp [put_len])
  have d8 := congrArg (List.drop 8) e
  rw [(t n _).2] at d8
  have d16 := congrArg (List.drop 8) d8
  rw [List.drop_drop, (t sz _).2] at d16
  have d24 := congrArg (List.drop 8) d16
  rw [List.drop_drop, (t sm _).2] at d24
  simp only [Nat.reduceAdd] at d16 d24
  unfold Sp.headOf
  rw [e24, d8, d16, d24, e, (t n _).1, (t sz _).1, (t sm _).1, (t _ _).1, num8_put n hn, num8_put sz hz, num8_put sm hm, num8_put _ (sum_lt _)]
  simp [hn0]
theorem headOf_zero : (Sp.headOf (List.replicate 64 0)).ok = false := by decide +kernel
/-- What lies on a disk: the bytes b, under head N. -/
structure Lies (S : Nat) (s : List Str) (N : Nat) (b : Str) : Prop where
  len : s.length = S
  big : 4 ≤ S
  secs : ∀ x ∈ s, x.length = 64
  none : N = 0 → b = []
  head : 0 < N → Sp.headOf (s.getD (N % 2) []) = { number := N, size := b.length, sum := Sp.sum b, ok := true }
  fits : b.length ≤ Sp.areaN S * 64
  area : 0 < N → (Sp.areaB s N).take b.length = b
  other : ∀ i, i < 2 → (0 < N → i ≠ N % 2) → (Sp.headOf (s.getD i [])).ok = true → (Sp.headOf (s.getD i [])).number < N
theorem load_lies {S : Nat} {s : List Str} {N : Nat} {b : Str} (h : Lies S s N b) : Sp.load s 0 = (b, N) := by
  have hit : ∀ acc : Str × Nat, 0 < N → acc.2 < N → Sp.loadOne s acc (N % 2) = (b, N) := by
    intro acc hN ha
    unfold Sp.loadOne
    rw [h.head hN]
    simp only [h.area hN, h.len, decide_eq_true ha, decide_eq_true h.fits, Bool.and_self, if_true, decide_true]
  have miss : ∀ (acc : Str × Nat) (i : Nat), i < 2 → (0 < N → i ≠ N % 2) → (Sp.loadOne s acc i = acc ∨ ((Sp.loadOne s acc i).2 < N)) := by
    intro acc i hi hne
    unfold Sp.loadOne
    split
    · rename_i hc
      simp only [Bool.and_eq_true] at hc
      exact .inr (h.other i hi hne hc.1.1.1)
    · exact .inl rfl
  have keep : ∀ (i : Nat), i < 2 → (0 < N → i ≠ N % 2) → Sp.loadOne s (b, N) i = (b, N) := by
    intro i hi hne
    unfold Sp.loadOne
    split
    · rename_i hc
      simp only [Bool.and_eq_true, decide_eq_true_eq] at hc
      have := h.other i hi hne hc.1.1.1
      have := hc.1.1.2
      omega
    · rfl
  unfold Sp.load
  by_cases hN : 0 < N
  · rcases Nat.mod_two_eq_zero_or_one N with hp | hp
    · have := hit ([], 0) hN hN
      rw [hp] at this
      rw [this]
      exact keep 1 (by omega) (fun _ => by omega)
    · have := miss ([], 0) 0 (by omega) (fun _ => by omega)
      have h1 : (Sp.loadOne s ([], 0) 0).2 < N := by
        rcases this with e | e
        · rw [e]; exact hN
        · exact e
      have := hit _ hN h1
      rw [hp] at this
      exact this
  · have hN0 : N = 0 := by omega
    subst hN0
    rw [h.none rfl] at keep ⊢
    rw [keep 0 (by omega) (fun e => by omega), keep 1 (by omega) (fun e => by omega)]
theorem lies_fresh (S : Nat) (h : 4 ≤ S) : Lies S (List.replicate S (List.replicate 64 0)) 0 [] := by
  have hg : ∀ i, i < 2 → (List.replicate S (List.replicate 64 (0 : UInt8))).getD i [] = List.replicate 64 0 := by
    intro i hi
    simp [List.getD, show i < S from by omega]
  refine ⟨by simp, h, fun x hx => by rw [List.eq_of_mem_replicate hx]; simp, fun _ => rfl, fun e => by omega, by simp, fun e => by omega, fun i hi _ ho => ?_⟩
  rw [hg i hi, headOf_zero] at ho; cases ho
/-- A write beside the heads and the area of head N leaves what lies there. -/
theorem Lies.set {S : Nat} {s : List Str} {N : Nat} {b : Str} (h : Lies S s N b) (k : Nat) (x : Str) (hx : x.length = 64) (hk : 2 ≤ k) (ha : 0 < N → k < Sp.areaFrom S N ∨ Sp.areaFrom S N + Sp.areaN S ≤ k) : Lies S (s.set k x) N b := by
  have hg : ∀ i, i ≠ k → (s.set k x).getD i [] = s.getD i [] := by
    intro i hi
    rw [List.getD_eq_getElem?_getD, List.getD_eq_getElem?_getD, List.getElem?_set_ne (by omega)]
  refine ⟨by rw [List.length_set]; exact h.len, h.big, fun y hy => ?_, h.none, fun hN => ?_, h.fits, fun hN => ?_, fun i hi hne => ?_⟩
  · rcases List.mem_or_eq_of_mem_set hy with hy | rfl
    · exact h.secs y hy
    · exact hx
  · rw [hg _ (by omega)]; exact h.head hN
  · have : Sp.areaB (s.set k x) N = Sp.areaB s N := by
      unfold Sp.areaB
      rw [List.length_set]
      congr 1
      refine List.map_congr_left fun i hi => ?_
      rw [List.mem_range, h.len] at hi
      rw [hg _ (by rw [h.len]; have := ha hN; omega)]
    rw [this]; exact h.area hN
  · rw [hg _ (by omega)]; exact h.other i hi hne
/-- The area of head N + 1 is not the one of head N. -/
theorem area_other (S N i : Nat) (hi : i < Sp.areaN S) : Sp.areaFrom S (N + 1) + i < Sp.areaFrom S N ∨ Sp.areaFrom S N + Sp.areaN S ≤ Sp.areaFrom S (N + 1) + i := by
  unfold Sp.areaFrom
  rcases Nat.mod_two_eq_zero_or_one N with hp | hp
  · have : (N + 1) % 2 = 1 := by omega
    rw [hp, this]; omega
  · have : (N + 1) % 2 = 0 := by omega
    rw [hp, this]; omega
theorem area_in (S N i : Nat) (hS : 4 ≤ S) (hi : i < Sp.areaN S) : 2 ≤ Sp.areaFrom S N + i ∧ Sp.areaFrom S N + i < S := by
  unfold Sp.areaFrom Sp.areaN at *
  rcases Nat.mod_two_eq_zero_or_one N with hp | hp <;> rw [hp] <;> omega
theorem flat64 : ∀ (l : List Str), (∀ x ∈ l, x.length = 64) → ∀ j, l.flatten[j]? = (l[j / 64]?).bind fun x => x[j % 64]?
  | [], _, j => by simp
  | x :: r, h, j => by
    have hx := h x (by simp)
    rw [List.flatten_cons]
    by_cases hj : j < 64
    · rw [List.getElem?_append_left (by omega), Nat.div_eq_of_lt hj, Nat.mod_eq_of_lt hj]; rfl
    · rw [List.getElem?_append_right (by omega), hx, flat64 r (fun y hy => h y (List.mem_cons_of_mem _ hy))]
      have e1 : j / 64 = (j - 64) / 64 + 1 := by omega
      have e2 : (j - 64) % 64 = j % 64 := by omega
      rw [e1, e2, List.getElem?_cons_succ]
theorem chunksN_get : ∀ (n : Nat) (b : Str), b.length ≤ n → ∀ i, (Sp.chunksN n b)[i]? = if i * 64 < b.length then some ((b.drop (i * 64)).take 64) else none
  | 0, b, h, i => by
    have : b = [] := List.length_eq_zero_iff.1 (by omega)
    subst this
    simp [Sp.chunksN]
  | n + 1, b, h, i => by
    unfold Sp.chunksN
    cases b with
    | nil => simp
    | cons c r =>
      rw [if_neg (by simp)]
      cases i with
      | zero => simp
      | succ i =>
        rw [List.getElem?_cons_succ, chunksN_get n _ (by rw [List.length_drop]; simp at h ⊢; omega), List.drop_drop, List.length_drop]
        have e : 64 + i * 64 = (i + 1) * 64 := by omega
        rw [e]
        by_cases hl : (i + 1) * 64 < (c :: r).length
        · rw [if_pos (by omega), if_pos hl]
        · rw [if_neg (by omega), if_neg hl]
theorem chunks_get (b : Str) (i : Nat) : (Sp.chunks b)[i]? = if i * 64 < b.length then some ((b.drop (i * 64)).take 64) else none := chunksN_get _ _ (Nat.le_refl _) i
theorem chunks_len (b : Str) : (Sp.chunks b).length = (b.length + 63) / 64 := by
  have h1 : ∀ i, i < (Sp.chunks b).length ↔ i * 64 < b.length := by
    intro i
    have := chunks_get b i
    constructor
    · intro h
      rw [List.getElem?_eq_getElem h] at this
      split at this
      · assumption
      · cases this
    · intro h
      rw [if_pos h] at this
      exact (List.getElem?_eq_some_iff.1 this).1
  have a := h1 ((b.length + 63) / 64)
  have c := h1 ((b.length + 63) / 64 - 1)
  omega
theorem pad_len (d : Str) : (Sp.pad d).length = 64 := by unfold Sp.pad; simp
theorem pad_get (d : Str) (j : Nat) (hj : j < 64) (hd : j < d.length) : (Sp.pad d)[j]? = d[j]? := by
  unfold Sp.pad
  rw [List.getElem?_take, if_pos hj, List.getElem?_append_left hd]
/-- The area holds bytes if its sectors hold their chunks. -/
theorem area_chunks {s : List Str} {N : Nat} {b : Str} (hs : ∀ x ∈ s, x.length = 64) (hS : 4 ≤ s.length) (hb : b.length ≤ Sp.areaN s.length * 64)
    (hc : ∀ i c, (Sp.chunks b)[i]? = some c → s[Sp.areaFrom s.length N + i]? = some (Sp.pad c)) : (Sp.areaB s N).take b.length = b := by
  refine List.ext_getElem? fun j => ?_
  rw [List.getElem?_take]
  split
  · rename_i hj
    have hi : j / 64 < Sp.areaN s.length := by omega
    have hm : ((List.range (Sp.areaN s.length)).map fun i => s.getD (Sp.areaFrom s.length N + i) [])[j / 64]? = s[Sp.areaFrom s.length N + j / 64]? := by
      obtain ⟨_, hin⟩ := area_in s.length N (j / 64) hS hi
      rw [List.getElem?_map, List.getElem?_range hi, Option.map_some, List.getD_eq_getElem?_getD, List.getElem?_eq_getElem hin]; rfl
    unfold Sp.areaB
    rw [flat64 _ (fun x hx => ?_), hm]
    · have h1 := chunks_get b (j / 64)
      rw [if_pos (by omega)] at h1
      rw [hc _ _ h1, Option.bind_some, pad_get _ _ (by omega) (by rw [List.length_take, List.length_drop]; omega), List.getElem?_take, if_pos (by omega), List.getElem?_drop]
      congr 1; omega
    · obtain ⟨i, hi, rfl⟩ := List.mem_map.1 hx
      rw [List.mem_range] at hi
      obtain ⟨_, hin⟩ := area_in s.length N i hS hi
      rw [List.getD_eq_getElem?_getD, List.getElem?_eq_getElem hin]
      exact hs _ (List.getElem_mem hin)
  · rename_i hj
    exact (List.getElem?_eq_none (by omega)).symm
end V6
end Go.Proofs.YtfphcecjhdkcoaaGreatDoor
/-
Plain: what is saved lies on the disk; where the power goes in between, what lay there does, or what was saved.
-/
namespace Go.Proofs.YtfphcecjhdkcoaaGreatDoor
namespace V7
open Sp (Str Dk)
open V6
/-- The power is there: what is seen is held, and that is b. -/
structure Calm (S N : Nat) (b : Str) (d : Dk) : Prop where
  dead : d.dead = false
  late : d.late = []
  same : d.held = d.seen
  lies : Lies S d.seen N b
/-- The power is gone: whatever takes hold, what lies there then is of the kind Q. -/
structure Torn (S : Nat) (Q : Nat → Str → Prop) (d : Dk) : Prop where
  dead : d.dead = true
  slen : d.seen.length = S
  secs : ∀ x ∈ d.seen, x.length = 64
  lies : ∀ mask, ∃ N b, Q N b ∧ Lies S (Dk.hold d.held (Dk.some true mask 0 d.late)) N b
theorem Calm.back {S N : Nat} {b : Str} {d : Dk} (h : Calm S N b d) (mask : Int) : Calm S N b (d.back mask) := by
  have e : Dk.hold d.held (Dk.some d.dead mask 0 d.late) = d.seen := by rw [h.late, ← h.same]; rfl
  refine ⟨rfl, rfl, rfl, ?_⟩
  show Lies S (Dk.hold d.held (Dk.some d.dead mask 0 d.late)) N b
  rw [e]; exact h.lies
theorem Torn.back {S : Nat} {Q : Nat → Str → Prop} {d : Dk} (h : Torn S Q d) (mask : Int) : ∃ N b, Q N b ∧ Calm S N b (d.back mask) := by
  obtain ⟨N, b, hq, hl⟩ := h.lies mask
  refine ⟨N, b, hq, rfl, rfl, rfl, ?_⟩
  show Lies S (Dk.hold d.held (Dk.some d.dead mask 0 d.late)) N b
  rw [h.dead]; exact hl
theorem Calm.cut {S N : Nat} {b : Str} {d : Dk} (h : Calm S N b d) (k : Int) : Calm S N b (d.cut k) := ⟨h.dead, h.late, h.same, h.lies⟩
theorem Torn.cut {S : Nat} {Q : Nat → Str → Prop} {d : Dk} (h : Torn S Q d) (k : Int) : Torn S Q (d.cut k) := ⟨h.dead, h.slen, h.secs, h.lies⟩
theorem Calm.fresh (S : Nat) (h : 4 ≤ S) : Calm S 0 [] (Sp.fresh S) := ⟨rfl, rfl, rfl, lies_fresh S h⟩
theorem hold_append (s : List Str) (l : List (Nat × Str)) (w : Nat × Str) : Dk.hold s (l ++ [w]) = (Dk.hold s l).set w.1 w.2 := by
  unfold Dk.hold; rw [List.foldl_append]; rfl
theorem some_sub (dead : Bool) (mask : Int) : ∀ (l : List (Nat × Str)) (i : Nat) (w : Nat × Str), w ∈ Dk.some dead mask i l → w ∈ l
  | [], _, _, h => by cases h
  | x :: r, i, w, h => by
    unfold Dk.some at h
    split at h
    · rcases List.mem_cons.1 h with rfl | h
      · exact List.mem_cons_self
      · exact List.mem_cons_of_mem _ (some_sub dead mask r _ _ h)
    · exact List.mem_cons_of_mem _ (some_sub dead mask r _ _ h)
/-- In the area of the next head. -/
def InArea (S N : Nat) (w : Nat × Str) : Prop := w.2.length = 64 ∧ ∃ i, i < Sp.areaN S ∧ w.1 = Sp.areaFrom S (N + 1) + i
theorem lies_area {S N : Nat} {b : Str} {s : List Str} (h : Lies S s N b) (w : Nat × Str) (hw : InArea S N w) : Lies S (s.set w.1 w.2) N b := by
  obtain ⟨h1, i, hi, h2⟩ := hw
  have := area_in S (N + 1) i h.big hi
  rw [h2]
  exact h.set _ _ h1 this.1 fun _ => area_other S N i hi
theorem lies_hold {S N : Nat} {b : Str} : ∀ (l : List (Nat × Str)) {s : List Str}, Lies S s N b → (∀ w ∈ l, InArea S N w) → Lies S (Dk.hold s l) N b
  | [], s, h, _ => h
  | w :: r, s, h, hw => by
    show Lies S (Dk.hold (s.set w.1 w.2) r) N b
    exact lies_hold r (lies_area h w (hw w (by simp))) fun x hx => hw x (List.mem_cons_of_mem _ hx)
/-- While the sectors of the next area are written. -/
structure Ph (S N : Nat) (b : Str) (d : Dk) : Prop where
  slen : d.seen.length = S
  secs : ∀ x ∈ d.seen, x.length = 64
  held : Lies S d.held N b
  late : ∀ w ∈ d.late, InArea S N w
  same : d.dead = false → Dk.hold d.held d.late = d.seen
theorem Ph.write {S N : Nat} {b : Str} {d : Dk} (h : Ph S N b d) (i : Nat) (c : Str) (hi : i < Sp.areaN S) : Ph S N b (d.write (Sp.areaFrom S (N + 1) + i) c) ∧ (d.write (Sp.areaFrom S (N + 1) + i) c).seen = d.seen.set (Sp.areaFrom S (N + 1) + i) (Sp.pad c) := by
  have hin := area_in S (N + 1) i h.held.big hi
  unfold Dk.write
  rw [if_pos (by rw [h.slen]; exact hin.2)]
  refine ⟨⟨by simp [h.slen], fun x hx => ?_, h.held, fun w hw => ?_, fun hd => ?_⟩, rfl⟩
  · rcases List.mem_or_eq_of_mem_set hx with hx | rfl
    · exact h.secs x hx
    · exact pad_len c
  · simp only at hw
    split at hw
    · exact h.late w hw
    · rcases List.mem_append.1 hw with hw | hw
      · exact h.late w hw
      · rw [List.mem_singleton] at hw; subst hw
        exact ⟨pad_len c, i, hi, rfl⟩
  · simp only at hd ⊢
    rw [Bool.or_eq_false_iff] at hd
    rw [hd.1, hd.2]
    simp only [Bool.or_false, Bool.false_eq_true, if_false]
    rw [hold_append, h.same hd.1]
theorem Ph.writes {S N : Nat} {b : Str} : ∀ (cs : List Str) {d : Dk} (i : Nat), Ph S N b d → i + cs.length ≤ Sp.areaN S →
    Ph S N b (d.writes (Sp.areaFrom S (N + 1) + i) cs) ∧ (∀ k c, cs[k]? = some c → (d.writes (Sp.areaFrom S (N + 1) + i) cs).seen[Sp.areaFrom S (N + 1) + i + k]? = some (Sp.pad c)) ∧
      ∀ k, k < Sp.areaFrom S (N + 1) + i → (d.writes (Sp.areaFrom S (N + 1) + i) cs).seen[k]? = d.seen[k]?
  | [], d, i, h, _ => ⟨h, fun k c hc => by simp at hc, fun k _ => rfl⟩
  | c :: r, d, i, h, hl => by
    simp only [List.length_cons] at hl
    obtain ⟨h1, h2⟩ := h.write i c (by omega)
    obtain ⟨h3, h4, h5⟩ := Ph.writes r (d := d.write (Sp.areaFrom S (N + 1) + i) c) (i + 1) h1 (by omega)
    have e : Sp.areaFrom S (N + 1) + (i + 1) = Sp.areaFrom S (N + 1) + i + 1 := by omega
    rw [e] at h3 h4 h5
    have hin := area_in S (N + 1) i h.held.big (by omega)
    refine ⟨h3, fun k x hk => ?_, fun k hk => ?_⟩
    · cases k with
      | zero =>
        have : c = x := by simpa using hk
        subst this
        show ((d.write (Sp.areaFrom S (N + 1) + i) c).writes (Sp.areaFrom S (N + 1) + i + 1) r).seen[Sp.areaFrom S (N + 1) + i]? = _
        rw [h5 _ (by omega), h2, List.getElem?_set_self (by rw [h.slen]; exact hin.2)]
      | succ k =>
        have := h4 k x (by simpa using hk)
        rw [show Sp.areaFrom S (N + 1) + i + 1 + k = Sp.areaFrom S (N + 1) + i + (k + 1) from by omega] at this
        exact this
    · show ((d.write _ c).writes _ r).seen[k]? = _
      rw [h5 k (by omega), h2, List.getElem?_set_ne (by omega)]
/-- The head is laid. -/
theorem lies_head {S N : Nat} {b b' : Str} {s : List Str} (h : Lies S s N b) (hN : N + 1 < 18446744073709551616) (hb : b'.length ≤ Sp.areaN S * 64) (hz : b'.length < 18446744073709551616)
    (hc : ∀ i c, (Sp.chunks b')[i]? = some c → s[Sp.areaFrom S (N + 1) + i]? = some (Sp.pad c)) :
    Lies S (s.set ((N + 1) % 2) (Sp.pad (Sp.headB (N + 1) b'.length (Sp.sum b')))) (N + 1) b' := by
  have hS := h.big
  have hsl := h.len
  have hg : ∀ i, i ≠ (N + 1) % 2 → (s.set ((N + 1) % 2) (Sp.pad (Sp.headB (N + 1) b'.length (Sp.sum b')))).getD i [] = s.getD i [] := by
    intro i hi
    rw [List.getD_eq_getElem?_getD, List.getD_eq_getElem?_getD, List.getElem?_set_ne (by omega)]
  have hsec : ∀ x ∈ s.set ((N + 1) % 2) (Sp.pad (Sp.headB (N + 1) b'.length (Sp.sum b'))), x.length = 64 := by
    intro y hy
    rcases List.mem_or_eq_of_mem_set hy with hy | rfl
    · exact h.secs y hy
    · exact pad_len _
  refine ⟨by rw [List.length_set]; exact hsl, hS, hsec, fun e => by omega, fun _ => ?_, hb, fun _ => ?_, fun i hi hne ho => ?_⟩
  · rw [List.getD_eq_getElem?_getD, List.getElem?_set_self (by omega), Option.getD_some]
    exact headOf_headB _ _ _ hN (by omega) hz (sum_lt _)
  · refine area_chunks hsec (by rw [List.length_set, hsl]; exact hS) (by rw [List.length_set, hsl]; exact hb) fun i c hi => ?_
    rw [List.length_set, hsl, List.getElem?_set_ne (by
      have h1 := chunks_get b' i
      have : i < Sp.areaN S := by
        rw [hi] at h1
        split at h1
        · omega
        · cases h1
      have := area_in S (N + 1) i hS this
      omega)]
    exact hc i c hi
  · have hne' := hne (by omega)
    rw [hg i hne'] at ho ⊢
    by_cases hN0 : 0 < N
    · have hi2 : i = N % 2 := by omega
      subst hi2
      rw [h.head hN0]; simp
    · have := h.other i hi (fun e => absurd e hN0) ho
      omega
theorem write_dead {d : Dk} (hd : d.dead = true) (n : Nat) (c : Str) : (d.write n c).dead = true ∧ (d.write n c).held = d.held ∧ (d.write n c).late = d.late ∧ ((d.write n c).seen = d.seen ∨ (d.write n c).seen = d.seen.set n (Sp.pad c)) := by
  unfold Dk.write
  split
  · refine ⟨by simp [hd], rfl, by simp [hd], .inr rfl⟩
  · exact ⟨hd, rfl, rfl, .inl rfl⟩
theorem sync_dead {d : Dk} (hd : d.dead = true) : d.sync.dead = true ∧ d.sync.held = d.held ∧ d.sync.late = d.late ∧ d.sync.seen = d.seen := by
  unfold Dk.sync
  rw [if_pos (by simp [hd])]
  exact ⟨by simp [Dk.lost, hd], rfl, rfl, rfl⟩
/-- What is saved. -/
theorem save_law {S N : Nat} {b b' : Str} {d : Dk} (h : Calm S N b d) (hN : N + 1 < 18446744073709551616) (hb : b'.length ≤ Sp.areaN S * 64) (hz : b'.length < 18446744073709551616) :
    ((Sp.save d N b').dead = false ∧ Calm S (N + 1) b' (Sp.save d N b')) ∨ Torn S (fun n x => (n = N ∧ x = b) ∨ (n = N + 1 ∧ x = b')) (Sp.save d N b') := by
  have hsl : d.seen.length = S := h.lies.len
  have hcl : (Sp.chunks b').length ≤ Sp.areaN S := by rw [chunks_len]; omega
  have p0 : Ph S N b d := ⟨hsl, h.lies.secs, by rw [h.same]; exact h.lies, (by rw [h.late]; intro w hw; cases hw), fun _ => by rw [h.late, ← h.same]; rfl⟩
  obtain ⟨p1, c1, _⟩ := Ph.writes (Sp.chunks b') 0 p0 (by omega)
  rw [Nat.add_zero] at p1 c1
  unfold Sp.save
  rw [hsl]
  generalize he1 : d.writes (Sp.areaFrom S (N + 1)) (Sp.chunks b') = d1 at p1 c1
  have ntorn : ∀ (e : Dk), e.dead = true → e.held = d1.held → e.late = d1.late → e.seen.length = S → (∀ x ∈ e.seen, x.length = 64) → Torn S (fun n x => (n = N ∧ x = b) ∨ (n = N + 1 ∧ x = b')) e := by
    intro e h1 h2 h3 h4 h5
    refine ⟨h1, h4, h5, fun mask => ⟨N, b, .inl ⟨rfl, rfl⟩, ?_⟩⟩
    rw [h2, h3]
    exact lies_hold _ p1.held fun w hw => p1.late w (some_sub _ _ _ _ _ hw)
  have setlen : ∀ (s : List Str) (k : Nat) (x : Str), x.length = 64 → s.length = S → (∀ y ∈ s, y.length = 64) → (s.set k x).length = S ∧ ∀ y ∈ s.set k x, y.length = 64 := by
    intro s k x hx h1 h2
    refine ⟨by rw [List.length_set]; exact h1, fun y hy => ?_⟩
    rcases List.mem_or_eq_of_mem_set hy with hy | rfl
    · exact h2 y hy
    · exact hx
  generalize hhd : Sp.headB (N + 1) b'.length (Sp.sum b') = hd
  by_cases hdead : (d1.dead || decide (d1.left = 0)) = true
  · -- the power goes ahead of the first Sync's end
    right
    have s1 : d1.sync = d1.lost := by unfold Dk.sync; rw [if_pos hdead]
    rw [s1]
    have l1 : d1.lost.dead = true := hdead
    obtain ⟨w1, w2, w3, w4⟩ := write_dead l1 ((N + 1) % 2) hd
    obtain ⟨y1, y2, y3, y4⟩ := sync_dead w1
    have hws : (d1.lost.write ((N + 1) % 2) hd).seen.length = S ∧ ∀ x ∈ (d1.lost.write ((N + 1) % 2) hd).seen, x.length = 64 := by
      rcases w4 with e | e
      · rw [e]; exact ⟨p1.slen, p1.secs⟩
      · rw [e]; exact setlen _ _ _ (pad_len _) p1.slen p1.secs
    exact ntorn _ y1 (y2.trans w2) (y3.trans w3) (by rw [y4]; exact hws.1) (by rw [y4]; exact hws.2)
  · have hnd : d1.dead = false ∧ d1.left ≠ 0 := by
      simp only [Bool.not_eq_true, Bool.or_eq_false_iff, decide_eq_false_iff_not] at hdead; exact hdead
    have s1 : d1.sync = { d1.lost with held := Dk.hold d1.held d1.late, late := [] } := by unfold Dk.sync; rw [if_neg hdead]
    rw [s1, p1.same hnd.1]
    have hl1 : Lies S d1.seen N b := by rw [← p1.same hnd.1]; exact lies_hold _ p1.held p1.late
    have hlost : d1.lost = { d1 with dead := false, left := if 0 < d1.left then d1.left - 1 else d1.left } := by
      unfold Dk.lost; rw [hnd.1, decide_eq_false hnd.2]; rfl
    rw [hlost]
    generalize hleft : (if 0 < d1.left then d1.left - 1 else d1.left) = left2
    have hlt : (N + 1) % 2 < d1.seen.length := by rw [p1.slen]; have := h.lies.big; omega
    have hhead := lies_head hl1 hN hb hz c1
    rw [hhd] at hhead
    by_cases hd2 : left2 = 0
    · right
      unfold Dk.write
      rw [if_pos hlt]
      simp only [Bool.false_or, decide_eq_true hd2, if_true]
      obtain ⟨y1, y2, y3, y4⟩ := sync_dead (d := { held := d1.seen, seen := d1.seen.set ((N + 1) % 2) (Sp.pad hd), late := [], left := if 0 < left2 then left2 - 1 else left2, dead := true }) rfl
      obtain ⟨z1, z2⟩ := setlen d1.seen ((N + 1) % 2) (Sp.pad hd) (pad_len _) p1.slen p1.secs
      refine ⟨y1, by rw [y4]; exact z1, by rw [y4]; exact z2, fun mask => ⟨N, b, .inl ⟨rfl, rfl⟩, ?_⟩⟩
      rw [y2, y3]
      exact hl1
    · unfold Dk.write
      rw [if_pos hlt]
      simp only [Bool.false_or, decide_eq_false hd2, Bool.false_eq_true, if_false, List.nil_append]
      generalize hleft3 : (if 0 < left2 then left2 - 1 else left2) = left3
      by_cases hd3 : left3 = 0
      · right
        unfold Dk.sync Dk.lost
        simp only [Bool.false_or, decide_eq_true hd3, if_true]
        obtain ⟨z1, z2⟩ := setlen d1.seen ((N + 1) % 2) (Sp.pad hd) (pad_len _) p1.slen p1.secs
        refine ⟨rfl, z1, z2, fun mask => ?_⟩
        simp only [Dk.some]
        split
        · exact ⟨N + 1, b', .inr ⟨rfl, rfl⟩, hhead⟩
        · exact ⟨N, b, .inl ⟨rfl, rfl⟩, hl1⟩
      · left
        unfold Dk.sync Dk.lost
        simp only [Bool.false_or, decide_eq_false hd3, Bool.false_eq_true, if_false]
        exact ⟨trivial, rfl, rfl, rfl, hhead⟩
end V7
end Go.Proofs.YtfphcecjhdkcoaaGreatDoor
namespace Go.Proofs.YtfphcecjhdkcoaaGreatDoor
namespace Sp
def joined (l : List Pk) : Str := Lib.join (texts l) [10, 10]
def packOf (t : Str) : Option Pk := match parse t with
  | .inr p => some p
  | .inl _ => none
/-- The packages whose texts lie there. -/
def loaded (b : Str) : List Pk := (Lib.split b [10, 10]).filterMap packOf
def room (S : Nat) : Nat := 24 * (S - 8)
/-- Packages that go together: each of the form, no two of one name. -/
structure Set (l : List Pk) : Prop where
  good : ∀ p ∈ l, V3.Good p
  apart : l.Pairwise fun p q => p.name ≠ q.name
end Sp
namespace V8
open Sp (Str Pk)
theorem names_nodup {l : List Pk} (h : Sp.Set l) : (Sp.names l).Nodup := by
  unfold Sp.names
  exact List.pairwise_map.2 h.apart
theorem Set.perm {l r : List Pk} (h : Sp.Set l) (hp : l.Perm r) : Sp.Set r :=
  ⟨fun p hp' => h.good p (hp.mem_iff.2 hp'), (hp.pairwise_iff (fun hab => fun e => hab e.symm)).1 h.apart⟩
theorem Set.filter {l : List Pk} (h : Sp.Set l) (P : Pk → Bool) : Sp.Set (l.filter P) :=
  ⟨fun p hp => h.good p (List.mem_filter.1 hp).1, h.apart.sublist List.filter_sublist⟩
theorem find_self {l : List Pk} (h : Sp.Set l) {p : Pk} (hp : p ∈ l) : Sp.find? l p.name = some p := by
  unfold Sp.find?
  have ha := h.apart
  clear h
  induction l with
  | nil => cases hp
  | cons q r ih =>
    obtain ⟨h1, h2⟩ := List.pairwise_cons.1 ha
    rcases List.mem_cons.1 hp with rfl | hp
    · rw [List.find?_cons_of_pos (by simp)]
    · rw [List.find?_cons_of_neg (by simpa using h1 p hp)]
      exact ih hp h2
theorem find_mem {l : List Pk} {n : Str} {p : Pk} (h : Sp.find? l n = some p) : p ∈ l ∧ p.name = n := by
  unfold Sp.find? at h
  exact ⟨List.mem_of_find?_eq_some h, by simpa using List.find?_some h⟩
theorem find_none {l : List Pk} {n : Str} (h : Sp.find? l n = none) : n ∉ Sp.names l := by
  intro hm
  obtain ⟨p, hp, rfl⟩ := List.mem_map.1 hm
  unfold Sp.find? at h
  rw [List.find?_eq_none] at h
  have := h p hp
  simp at this
theorem sorted_perm (l : List Str) : (Sp.sorted l).Perm l := List.mergeSort_perm _ _
theorem sorted_ord (l : List Str) : (Sp.sorted l).Pairwise (· ≤ ·) := by
  refine (List.pairwise_mergeSort (le := fun x y => decide (x ≤ y)) (fun a b c h1 h2 => ?_) (fun a b => ?_) l).imp fun h => of_decide_eq_true h
  · simp only [decide_eq_true_eq] at h1 h2 ⊢; exact List.le_trans h1 h2
  · simp only [Bool.or_eq_true, decide_eq_true_eq]; exact List.le_total a b
theorem sorted_eq {l r : List Str} (h : l.Perm r) : Sp.sorted l = Sp.sorted r := by
  refine List.Perm.eq_of_pairwise (le := (· ≤ ·)) (fun a b _ _ h1 h2 => List.le_antisymm h1 h2) (sorted_ord l) (sorted_ord r) ?_
  exact (sorted_perm l).trans (h.trans (sorted_perm r).symm)
/-- The packages by name. -/
def byName (l : List Pk) : List Pk := (Sp.sorted (Sp.names l)).filterMap fun n => Sp.find? l n
theorem texts_byName (l : List Pk) : Sp.texts l = (byName l).map Sp.print := by
  unfold Sp.texts byName
  rw [List.map_filterMap]
theorem filterMap_find {l : List Pk} : ∀ (ns : List Str), (∀ n ∈ ns, n ∈ Sp.names l) → (ns.filterMap fun n => Sp.find? l n).map (·.name) = ns
  | [], _ => rfl
  | n :: r, h => by
    have hn := h n (by simp)
    cases hf : Sp.find? l n with
    | none => exact absurd hn (find_none hf)
    | some p =>
      rw [List.filterMap_cons_some hf, List.map_cons, (find_mem hf).2, filterMap_find r fun m hm => h m (List.mem_cons_of_mem _ hm)]
theorem byName_names (l : List Pk) : (byName l).map (·.name) = Sp.sorted (Sp.names l) :=
  filterMap_find _ fun _ hn => (sorted_perm _).mem_iff.1 hn
theorem byName_mem {l : List Pk} (h : Sp.Set l) (p : Pk) : p ∈ byName l ↔ p ∈ l := by
  unfold byName
  rw [List.mem_filterMap]
  constructor
  · rintro ⟨n, _, hf⟩; exact (find_mem hf).1
  · intro hp
    exact ⟨p.name, (sorted_perm _).mem_iff.2 (List.mem_map.2 ⟨p, hp, rfl⟩), find_self h hp⟩
theorem byName_nodup {l : List Pk} (h : Sp.Set l) : (byName l).Nodup := by
  have : ((byName l).map (·.name)).Nodup := by
    rw [byName_names]
    exact (sorted_perm _).nodup_iff.2 (names_nodup h)
  exact List.Pairwise.imp (fun hab => fun e => hab (by rw [e])) (List.pairwise_map.1 this)
theorem nodup_of {l : List Pk} (h : Sp.Set l) : l.Nodup := h.apart.imp fun hab => fun e => hab (by rw [e])
theorem byName_perm {l : List Pk} (h : Sp.Set l) : (byName l).Perm l := by
  refine (List.perm_ext_iff_of_nodup (byName_nodup h) (nodup_of h)).2 (byName_mem h)
theorem byName_eq {l r : List Pk} (h : Sp.Set l) (hp : l.Perm r) : byName l = byName r := by
  unfold byName
  have hnn : (Sp.names l).Perm (Sp.names r) := hp.map _
  rw [sorted_eq hnn]
  congr 1; funext n
  cases hf : Sp.find? l n with
  | none =>
    cases hg : Sp.find? r n with
    | none => rfl
    | some p =>
      obtain ⟨h1, h2⟩ := find_mem hg
      exact absurd (List.mem_map.2 ⟨p, hp.mem_iff.2 h1, h2⟩) (find_none hf)
  | some p =>
    obtain ⟨h1, h2⟩ := find_mem hf
    rw [← h2, find_self (Set.perm h hp) (hp.mem_iff.1 h1)]
theorem texts_eq {l r : List Pk} (h : Sp.Set l) (hp : l.Perm r) : Sp.texts l = Sp.texts r := by rw [texts_byName, texts_byName, byName_eq h hp]
theorem joined_eq {l r : List Pk} (h : Sp.Set l) (hp : l.Perm r) : Sp.joined l = Sp.joined r := by unfold Sp.joined; rw [texts_eq h hp]
theorem packOf_print {p : Pk} (h : V3.Good p) : Sp.packOf (Sp.print p) = some p := by
  unfold Sp.packOf; rw [V3.parse_print h]
theorem packOf_nil : Sp.packOf [] = none := by
  unfold Sp.packOf
  cases h : Sp.parse [] with
  | inl n => rfl
  | inr p =>
    have := (V3.parse_good h).2
    exact absurd (List.length_eq_zero_iff.1 (Nat.le_zero.1 this)) (V3.print_ne p)
theorem loaded_nil : Sp.loaded [] = [] := by
  unfold Sp.loaded
  rw [Sp.split_end [] [10, 10] (by simp) 0 (by simp) (fun j h => absurd h (Nat.not_lt_zero _))]
  rw [List.filterMap_cons_none packOf_nil]; rfl
/-- What was saved is found. -/
theorem loaded_joined {l : List Pk} (h : Sp.Set l) : Sp.loaded (Sp.joined l) = byName l := by
  unfold Sp.joined
  by_cases hl : byName l = []
  · rw [texts_byName, hl]; exact loaded_nil
  · rw [texts_byName]
    unfold Sp.loaded
    rw [V3.split_tame _ (by simpa using hl) (fun x hx => by
      obtain ⟨p, hp, rfl⟩ := List.mem_map.1 hx
      exact V3.tame_print (h.good p ((byName_mem h p).1 hp)).wf)]
    have key : ∀ ps : List Pk, (∀ p ∈ ps, V3.Good p) → (ps.map Sp.print).filterMap Sp.packOf = ps := by
      intro ps
      induction ps with
      | nil => intro _; rfl
      | cons p r ih =>
        intro hg
        rw [List.map_cons, List.filterMap_cons_some (packOf_print (hg p (by simp))), ih fun q hq => hg q (List.mem_cons_of_mem _ hq)]
    exact key _ fun p hp => h.good p ((byName_mem h p).1 hp)
theorem print_min {p : Pk} (h : V2.WfP p) : 11 ≤ (Sp.print p).length := by
  obtain ⟨r, hr, hv⟩ := V3.print_head p
  have hn : 0 < p.name.length := List.length_pos_iff.2 (V1.name_ne h.name)
  have hvl : 0 < p.ver.length := by
    have := h.ver
    cases hv : p.ver with
    | nil => rw [hv] at this; cases this
    | cons a b => simp
  have := hv.length_le
  rw [hr]
  simp; omega
theorem size_perm {l r : List Pk} (h : l.Perm r) : Sp.size l = Sp.size r := by unfold Sp.size; exact (h.map _).sum_nat
theorem size_count {l : List Pk} (h : ∀ p ∈ l, V3.Good p) : 11 * l.length ≤ Sp.size l := by
  unfold Sp.size
  induction l with
  | nil => simp
  | cons p r ih =>
    have := print_min (h p (by simp)).wf
    have := ih fun q hq => h q (List.mem_cons_of_mem _ hq)
    simp only [List.map_cons, List.sum_cons, List.length_cons]; omega
theorem joined_len {l : List Pk} (h : Sp.Set l) : (Sp.joined l).length ≤ Sp.size l + 2 * l.length := by
  unfold Sp.joined
  have e : Lib.lens (Sp.texts l) = Sp.size l := by
    rw [texts_byName, ← size_perm (byName_perm h)]
    unfold Lib.lens Sp.size
    rw [List.map_map]; rfl
  have hl : (Sp.texts l).length = l.length := by rw [texts_byName, List.length_map, (byName_perm h).length_eq]
  cases ht : Sp.texts l with
  | nil => simp [Lib.join_nil]
  | cons x r =>
    rw [Lib.join_length, ← ht, e]
    rw [ht] at hl
    simp at hl ⊢; omega
/-- There is room for it. -/
theorem joined_fits {l : List Pk} (h : Sp.Set l) {S : Nat} (hS : 16 ≤ S) (hr : Sp.size l ≤ Sp.room S) : (Sp.joined l).length ≤ Sp.areaN S * 64 := by
  have h1 := joined_len h
  have h2 := size_count h.good
  unfold Sp.room at hr
  unfold Sp.areaN
  omega
theorem size_len {l : List Pk} (h : ∀ p ∈ l, V3.Good p) : Sp.size l ≤ 300 * l.length := by
  unfold Sp.size
  induction l with
  | nil => simp
  | cons p r ih =>
    have := (h p (by simp)).len
    have := ih fun q hq => h q (List.mem_cons_of_mem _ hq)
    simp only [List.map_cons, List.sum_cons, List.length_cons]; omega
end V8
end Go.Proofs.YtfphcecjhdkcoaaGreatDoor

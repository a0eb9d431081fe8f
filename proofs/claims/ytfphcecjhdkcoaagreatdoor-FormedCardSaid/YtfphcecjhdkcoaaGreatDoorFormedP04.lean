/-
The lines that name a file: those whose path is none; the others.
-/
import Derived.Test.YtfphcecjhdkcoaaGreatDoorFormedP02
import Derived.Test.YtfphcecjhdkcoaaGreatDoorFormedP03
import Derived.Deep.DeepCutAuto
import Derived.LoopN
import Derived.Deep.RegionWith
import Derived.RegionDies
import Derived.Deep.RegionLaw
import Derived.Deep.AppendLies
/-
How a package lies in memory; the walk of its printing.
-/
namespace Go.Proofs.YtfphcecjhdkcoaaGreatDoor
open Go.RowKit
set_option maxRecDepth 100000 in
set_option maxHeartbeats 1000000 in
theorem print_any (b : Nat) (p : Sp.Pk) (w : World) (h : IsPack (fun b => b < w.heap.size) w b p) (hok : PkOk p) :
    Calls Tryz.prog 64 #[.pointer (some ⟨b, 0, none⟩)] w fun e w' => e = .returned (sv (Sp.print p)) ∧ Below w.heap.size w w' := by
  obtain ⟨nv, bv, fv, hS, h0, h1, h2, h3, h4, g0, g1, g2, n0, n1⟩ := h
  obtain ⟨na, nc, rfl, hnc, gn⟩ := g0.get
  obtain ⟨ba, bc, rfl, hbc, gb⟩ := g1.get
  obtain ⟨fa, fc, rfl, hfc, gf⟩ := g2.get
  have en : p.needs = [] → na = none := fun e => by have := n0 e; simp only [Value.slice.injEq] at this; exact this.1
  have eb : p.bars = [] → ba = none := fun e => by have := n1 e; simp only [Value.slice.injEq] at this; exact this.1
  have sn : p.needs ≠ [] → ∃ x o, na = some ⟨x, o, none⟩ := fun e => by obtain ⟨x, o, _, h, _⟩ := gn 0 (List.length_pos_iff.2 e); exact ⟨x, o, h⟩
  have sb : p.bars ≠ [] → ∃ x o, ba = some ⟨x, o, none⟩ := fun e => by obtain ⟨x, o, h, _⟩ := gb 0 (List.length_pos_iff.2 e); exact ⟨x, o, h⟩
  have EN := Lib.hid en
  have EB := Lib.hid eb
  have SN := Lib.hid sn
  have SB := Lib.hid sb
  have G0 := Lib.hid g0
  have G1 := Lib.hid g1
  have GF := Lib.hid gf
  clear g0 g1 g2 gn gb gf n0 n1 en eb sn sb
  have hname := hok.name
  have hver := hok.ver
  unfold sv at h2 h3
  have hnn : ∀ (a : Option Addr) (n c : Nat) (W : World), (binOp .neq 169 (.slice a n c) (.slice none 0 0)).run Tryz.prog W = .ok (.bool (!a.isNone)) W := fun a n c W => run_neq_slice_nil_any W 169 _ a n c 0 0 Tryz.underlying169
  have hnb : ∀ (a : Option Addr) (n c : Nat) (W : World), (binOp .neq 170 (.slice a n c) (.slice none 0 0)).run Tryz.prog W = .ok (.bool (!a.isNone)) W := fun a n c W => run_neq_slice_nil_any W 170 _ a n c 0 0 Tryz.underlying170
  go_enter Tryz.func64, Tryz.ntmps64
  go_wp2
  go_quiet (fail)
  have hbq : Below w.heap.size w (w.drewN nq) := below_drawn w nq
  go_upto_if 22 with (fail)
  go_cut [3] (fun s wx => s = .string ⟨(head1 p).toArray⟩ ∧ Below w.heap.size w wx)
  case first =>
    by_cases hne : p.needs = []
    · obtain rfl := EN.out hne
      have H1 : Hid (head1 p = head0 p) := Lib.hid (by unfold head1; rw [hne]; simp)
      clear hne
      go_wp2_with fail
      go_meet
      case rel => exact ⟨str_eq (by rw [bl_app, bl_app, bl_app, H1.out]; rfl), hbq⟩
    · obtain ⟨nb, no, rfl⟩ := SN.out hne
      have H1 : Hid (head1 p = head0 p ++ ([10, 110, 101, 101, 100, 115, 32] ++ Lib.join (p.needs.map groupText) [44, 32])) := by
        exact Lib.hid (by unfold head1; rw [if_neg (by simpa using hne)])
      have hjl := W8.join_bound [44, 32] 3039 3 (p.needs.map groupText) (fun x hx => by obtain ⟨g, hg, rfl⟩ := List.mem_map.1 hx; exact groupText_len g (hok.groups g hg).1 (hok.groups g hg).2) (by rw [List.length_map]; exact hok.needs)
      have hjl2 : (Lib.join (p.needs.map groupText) [44, 32]).length ≤ 10000 := Nat.le_trans hjl (by decide)
      clear hne hjl
      go_wp2_with fail
      refine (joinedG_any _ p.needs _ (w.drewN nq) ((GsOn.keep G0.out fun _ _ => rfl).mono fun _ h => h) hok.needs hok.groups (Nat.le_trans hjl2 (by decide))).mono ?_
      rintro e w2 ⟨rfl, hb2⟩
      unfold sv
      rw [show bl ⟨#[44, 32]⟩ = [44, 32] from rfl]
      go_wp2_with fail
      go_meet
      case rel => exact ⟨str_eq (by rw [bl_app, bl_app, bl_app, bl_app, bl_app, H1.out]; rfl), hbq.trans (hb2.mono (by simp))⟩
  case rest =>
    obtain ⟨rfl, hb1⟩ := hcut
    have hhl : (head1 p).length ≤ 20000 := head1_len p hok
    obtain ⟨hc, _⟩ := bcell hb1
    have k0 := (hb1.cell (p := ⟨b, 0, none⟩) hS).trans h0
    have k1 := (hb1.cell (p := ⟨b, 1, none⟩) hS).trans h1
    have k4 := (hb1.cell (p := ⟨b, 4, none⟩) hS).trans h4
    have H4 := Lib.hid h4
    clear hc h0 h1 h2 h3 h4
    go_upto_if 37 with (fail)
    go_cut [3] (fun s wx => s = .string ⟨(head2 p).toArray⟩ ∧ Below w.heap.size w wx)
    case first =>
      by_cases hne : p.bars = []
      · obtain rfl := EB.out hne
        have H1 : Hid (head2 p = head1 p) := Lib.hid (by unfold head2; rw [hne]; simp)
        clear hne
        go_wp2_with fail
        go_meet
        case rel => exact ⟨by rw [H1.out], hb1⟩
      · obtain ⟨nb, no, rfl⟩ := SB.out hne
        have H1 : Hid (head2 p = head1 p ++ ([10, 98, 97, 114, 115, 32] ++ Lib.join (p.bars.map Sp.printC) [44, 32])) := by
          exact Lib.hid (by unfold head2; rw [if_neg (by simpa using hne)])
        have hjl := W8.join_bound [44, 32] 1010 3 (p.bars.map Sp.printC) (fun x hx => by obtain ⟨g, hg, rfl⟩ := List.mem_map.1 hx; exact printC_len g (hok.barred g hg)) (by rw [List.length_map]; exact hok.bars)
        have hjl2 : (Lib.join (p.bars.map Sp.printC) [44, 32]).length ≤ 10000 := Nat.le_trans hjl (by decide)
        have hbl := hok.bars
        clear hne hjl
        go_wp2_with fail
        refine (joinedC_any _ p.bars _ wc ((SlOn.keep G1.out fun x hx => hb1.block x hx).mono fun x hx => Nat.lt_of_lt_of_le hx hb1.size) (by omega) (fun c hc => by have := hok.barred c hc; unfold ChOk at this; omega) (Nat.le_trans hjl2 (by decide))).mono ?_
        rintro e w2 ⟨rfl, hb2⟩
        unfold sv
        rw [show bl ⟨#[44, 32]⟩ = [44, 32] from rfl]
        go_wp2_with fail
        go_meet
        case rel => exact ⟨str_eq (by rw [bl_app, bl_app, H1.out]; rfl), hb1.trans (hb2.mono hb1.size)⟩
    case rest =>
      obtain ⟨rfl, hb2⟩ := hcut
      clear k0 k1 k4 hb1
      have k4 := (hb2.cell (p := ⟨b, 4, none⟩) hS).trans H4.out
      have hh2 := head2_len p hok
      have hnf := hok.files
      have hfl : ∀ k, (files_text p k).length ≤ 10000 := fun k => files_len p hok k
      have HFL := Lib.hid hfl
      have HPA := Lib.hid hok.paths
      clear hfl EN EB SN SB G0 G1 hhl hname hver hnn hnb
      go_wp2
      go_loopw [3, 52] (fun s i wr => ∃ k : Nat, k ≤ p.files.length ∧ i = .int .i64 k ∧ s = .string ⟨(head2 p ++ files_text p k).toArray⟩ ∧ Below w.heap.size w wr) (fun _ i _ => p.files.length - (intOf i).toNat)
      case atStart => exact ⟨0, Nat.zero_le _, rfl, str_eq (by unfold files_text; simp), hb2⟩
      case round =>
        obtain ⟨k, hk, rfl, rfl, hbel⟩ := hrel
        have hfk := HFL.out k
        by_cases h : k < p.files.length
        · obtain ⟨fb, fo, rfl, hfb, c0, c1⟩ := GF.out k h
          have d0 := (hbel.cell (p := ⟨fb, fo + k * 2, none⟩) hfb).trans c0
          have d1 := (hbel.cell (p := ⟨fb, fo + k * 2 + 1, none⟩) hfb).trans c1
          unfold sv at d0 d1
          have hpa := HPA.out p.files[k] (List.getElem_mem h)
          clear c0 c1 GF
          go_wp2
          go_roundw
          case rel => exact ⟨k + 1, h, by go_num, str_eq (by rw [bl_app, bl_app, bl_app, bl_app, files_next p k h]; exact List.append_assoc _ _ _), hbel.alloc hbel.size _⟩
          case measure => simp [intOf]; omega
        · obtain rfl : k = p.files.length := by omega
          clear GF
          go_wp2
          go_ret
          exact ⟨ret_str (by rw [print_eq]; unfold files_text; rw [List.take_length]), hbel⟩
end Go.Proofs.YtfphcecjhdkcoaaGreatDoor
/-
What the walk of the program's clashes stands on: a rule for loops whose rounds leave marks behind; what marks are; the worlds of the rounds.
-/
namespace Go.Proofs.YtfphcecjhdkcoaaGreatDoor
open Go.RowKit Go.Shelf Go.Maps
theorem rounds_of {P : Program} {c : Code} {Q : Exit → Act → World → Prop} (I : Nat → Act → World → Prop)
    (round : ∀ n a w, I n a w → c.wp P (Exit.then (fun a' w' => ∃ m, m < n ∧ I m a' w') Q) a w) : ∀ (N n : Nat) (a : Act) (w : World), n < N → I n a w → Code.rounds P c Q N a w := by
  intro N
  induction N with
  | zero => intro n a w h; omega
  | succ N ih =>
    intro n a w h hI
    rw [rounds_succ]
    refine Code.wp_mono (fun e a' w' q => ?_) (round n a w hI)
    cases e with
    | normal => obtain ⟨m, hm, hq⟩ := q; exact ih m a' w' (by omega) hq
    | _ => exact q
/-- A loop, by an invariant over the whole activation that counts down. -/
theorem wp_loop_down {P : Program} {c : Code} {Q : Exit → Act → World → Prop} {a : Act} {w : World} (I : Nat → Act → World → Prop) (n : Nat) (h0 : I n a w)
    (round : ∀ n a w, I n a w → c.wp P (Exit.then (fun a' w' => ∃ m, m < n ∧ I m a' w') Q) a w) : (Code.loop c).wp P Q a w :=
  wp_loop_rounds (n + 1) (rounds_of I round (n + 1) n a w (by omega) h0)
def markOf (k : Nat) : Deferred := { target := .collected k, args := #[] }
/-- The marks of the loops over iterators that have ended. -/
def Marks (B : Nat) (w : World) (ks : List Nat) : Prop := ks.Nodup ∧ ∀ k ∈ ks, B ≤ k ∧ w.heap[k]? = some (.deferred (some []))
theorem Marks.keep {B : Nat} {w w' : World} {ks : List Nat} (h : Marks B w ks) (hk : ∀ k ∈ ks, w'.heap[k]? = w.heap[k]?) : Marks B w' ks :=
  ⟨h.1, fun k hm => ⟨(h.2 k hm).1, (hk k hm).trans (h.2 k hm).2⟩⟩
theorem Marks.lt {B : Nat} {w : World} {ks : List Nat} (h : Marks B w ks) : ∀ k ∈ ks, k < w.heap.size := fun k hm =>
  (Array.getElem?_eq_some_iff.1 (h.2 k hm).2).1
theorem leaves_marks {F : Fence} {n : Nat} {P : Program} {fn : Func} {tmps : Array Value} {R : Ending → World → Prop} {B : Nat} {a0 : World} : ∀ (ks : List Nat) (w : World), Marks B w ks → Below B a0 w →
    (∀ w', Below B a0 w' → (∀ b, b ∉ ks → w'.heap[b]? = w.heap[b]?) → LeavesInM F n P fn tmps R [] .returning w') → LeavesInM F n P fn tmps R (ks.map markOf) .returning w
  | [], w, _, hb, h => h w hb (fun _ _ => rfl)
  | k :: ks, w, hm, hb, h => by
    refine ⟨by simp, .inl ⟨k, w.putObj k (.deferred none), rfl, run_takeDeferred (hm.2 k (by simp)).2, ?_⟩⟩
    have hlt := hm.lt k (by simp)
    have hnd := List.nodup_cons.1 hm.1
    have hoth : ∀ b, b ≠ k → (w.putObj k (.deferred none)).heap[b]? = w.heap[b]? := fun b hb => World.putObj_heap_other hb
    refine leaves_marks ks _ ⟨hnd.2, fun b hbm => ⟨(hm.2 b (by simp [hbm])).1, (hoth b (fun e => hnd.1 (e ▸ hbm))).trans (hm.2 b (by simp [hbm])).2⟩⟩ ?_ (fun w' hb' hw' => h w' hb' fun b hbk => ?_)
    · have hge := (hm.2 k (by simp)).1
      exact ⟨hb.os, hb.tape, hb.output, by simpa [World.putObj] using hb.size, fun i hi => (hoth i (by omega)).trans (hb.block i hi)⟩
    · simp only [List.mem_cons, not_or] at hbk
      exact (hw' b hbk.2).trans (hoth b hbk.1)
end Go.Proofs.YtfphcecjhdkcoaaGreatDoor
/-
The worlds of the rounds of the program's clashes.
-/
namespace Go.Proofs.YtfphcecjhdkcoaaGreatDoor
open Go.RowKit Go.Shelf Go.Maps
def pathsOf (p : Sp.Pk) : List Sp.Str := p.files.map (·.path)
/-- How a map's element reads: as itself. -/
def Rv (v : Value) : Option (DataW Value × List MemPlace) := some (.held v, [])
theorem ranges_block {P : Program} {k : TypeId} {R : Value → Option (DataW Value × List MemPlace)} {w w' : World} {b r n : Nat} {D : DataW Value} {left : Lit → Bool} {cnt : Nat} (h : w.ranges P k R b r n D left cnt)
    (hb : w'.heap[b]? = w.heap[b]?) (hr : w'.heap[r]? = w.heap[r]?) : w'.ranges P k R b r n D left cnt := by
  obtain ⟨es, clock, since, seen, c0, h1, h2, h3, h4, h5, h6⟩ := h
  exact ⟨es, clock, since, seen, c0, hb.trans h1, h2, h3, h4, hr.trans h5, h6⟩
structure Rest (w0 : World) (mb : Nat) (L : List (Nat × Sp.Pk)) (D : DataW Value) (own : List Sp.Str) (left : Lit → Bool) (cnt : Nat) (ks : List Nat) (W : World) : Prop where
  ranges : W.ranges Tryz.prog 9 Rv mb (w0.heap.size + 3) L.length D left cnt
  own : CountAt W w0.heap.size own
  box : W.cell? ⟨w0.heap.size + 2, 0, none⟩ = some (.map (some (w0.heap.size + 1)))
  marks : Marks (w0.heap.size + 4) W ks
  below : Below w0.heap.size w0 W
  size : w0.heap.size + 4 ≤ W.heap.size
  low : mb < w0.heap.size
variable {w0 : World} {mb : Nat} {L : List (Nat × Sp.Pk)} {D : DataW Value} {own : List Sp.Str} {left : Lit → Bool} {cnt : Nat} {ks : List Nat} {W W' : World}
theorem Rest.turn (h : Rest w0 mb L D own left cnt ks W) (ho : W'.os = W.os) (ht : W'.tape = W.tape) (hp : W'.output = W.output) (hs : W.heap.size ≤ W'.heap.size)
    (hb : ∀ k, k < W.heap.size → k ≠ w0.heap.size + 1 → W'.heap[k]? = W.heap[k]?) : Rest w0 mb L D own left cnt ks W' := by
  have hsz := h.size
  have hlo := h.low
  exact ⟨ranges_block h.ranges (hb _ (by omega) (by omega)) (hb _ (by omega) (by omega)), h.own.block (hb _ (by omega) (by omega)),
    (World.cell?_of_block (w := W) (hb (w0.heap.size + 2) (by omega) (by omega))).trans h.box, h.marks.keep fun k hk => hb k (h.marks.lt k hk) (by have := (h.marks.2 k hk).1; omega),
    ⟨ho.trans h.below.os, ht.trans h.below.tape, hp.trans h.below.output, Nat.le_trans h.below.size hs, fun k hk => (hb k (by omega) (by omega)).trans (h.below.block k hk)⟩, by omega, hlo⟩
theorem Rest.alloc (h : Rest w0 mb L D own left cnt ks W) (o : Obj) : Rest w0 mb L D own left cnt ks (W.alloc o) :=
  h.turn rfl rfl rfl (by simp) fun k hk _ => Below.heap_alloc _ _ _ hk
theorem Rest.frn {n : Nat} (h : Rest w0 mb L D own left cnt ks W) (hf : FrN n (w0.heap.size + 1) W W') (hn : W.heap.size ≤ n) : Rest w0 mb L D own left cnt ks W' :=
  h.turn hf.os hf.tape hf.output hf.size fun k hk hne => hf.block k (by omega) hne
theorem Rest.put {own' : List Sp.Str} (h : Rest w0 mb L D own left cnt ks W) (hg : W.grownBy W' (some w0.heap.size)) (ho : CountAt W' w0.heap.size own') : Rest w0 mb L D own' left cnt ks W' := by
  have hsz := h.size
  have hlo := h.low
  have hb : ∀ k, k < W.heap.size → k ≠ w0.heap.size → W'.heap[k]? = W.heap[k]? := fun k hk hne => hg.block k hk (by simpa using hne)
  have hgs := hg.size
  exact ⟨ranges_block h.ranges (hb _ (by omega) (by omega)) (hb _ (by omega) (by omega)), ho,
    (World.cell?_of_block (w := W) (hb (w0.heap.size + 2) (by omega) (by omega))).trans h.box, h.marks.keep fun k hk => hb k (h.marks.lt k hk) (by have := (h.marks.2 k hk).1; omega),
    ⟨hg.os.trans h.below.os, hg.tape.trans h.below.tape, hg.output.trans h.below.output, Nat.le_trans h.below.size hgs, fun k hk => (hb k (by omega) (by omega)).trans (h.below.block k hk)⟩, by omega, hlo⟩
theorem Rest.next {left' : Lit → Bool} {cnt' : Nat} (h : Rest w0 mb L D own left cnt ks W) (hg : W.grownBy W' (some (w0.heap.size + 3))) (hr : W'.ranges Tryz.prog 9 Rv mb (w0.heap.size + 3) L.length D left' cnt') : Rest w0 mb L D own left' cnt' ks W' := by
  have hsz := h.size
  have hlo := h.low
  have hb : ∀ k, k < W.heap.size → k ≠ w0.heap.size + 3 → W'.heap[k]? = W.heap[k]? := fun k hk hne => hg.block k hk (by simpa using hne)
  have hgs := hg.size
  exact ⟨hr, h.own.block (hb _ (by omega) (by omega)),
    (World.cell?_of_block (w := W) (hb (w0.heap.size + 2) (by omega) (by omega))).trans h.box, h.marks.keep fun k hk => hb k (h.marks.lt k hk) (by have := (h.marks.2 k hk).1; omega),
    ⟨hg.os.trans h.below.os, hg.tape.trans h.below.tape, hg.output.trans h.below.output, Nat.le_trans h.below.size hgs, fun k hk => (hb k (by omega) (by omega)).trans (h.below.block k hk)⟩, by omega, hlo⟩
theorem Rest.mark (h : Rest w0 mb L D own left cnt ks W) {k : Nat} (hk : W.heap[k]? = some (.deferred (some []))) (hn : k ∉ ks) (hge : w0.heap.size + 4 ≤ k) : Rest w0 mb L D own left cnt (k :: ks) W :=
  ⟨h.ranges, h.own, h.box, ⟨List.nodup_cons.2 ⟨hn, h.marks.1⟩, fun j hj => by
    rcases List.mem_cons.1 hj with rfl | hj
    · exact ⟨hge, hk⟩
    · exact h.marks.2 j hj⟩, h.below, h.size, h.low⟩
end Go.Proofs.YtfphcecjhdkcoaaGreatDoor
/-
The keys of a map that counts texts, of which some have been struck.
-/
namespace Go.Proofs.YtfphcecjhdkcoaaGreatDoor
open Go.RowKit Go.Shelf Go.Maps Go.Sort
theorem keys_left {w : World} {b n : Nat} {D : CntD} {own : List Sp.Str} (hown : w.ownsMap Tryz.prog 9 (plainElem Tryz.prog 3) b n D) (hC : Counts D own) (fol : List Sp.Str) (x : Sp.Str) :
    x ∈ strKeys (Lib.deleteFuncD (struck fol) D) ↔ x ∈ own ∧ (2 ≤ own.count x ∨ x ∈ fol) := by
  obtain ⟨es, hD, hpw, hkl⟩ := hown.entries keyed9
  obtain ⟨es', hD', hko⟩ := hown.keysOf
  obtain rfl : es = es' := by rw [hD] at hD'; simpa using hD'
  subst hD
  have hstr : ∀ p ∈ es, ∃ s, p.1 = .string s ∧ s ∈ own ∧ p.2 = .lit (.int .i64 (own.count s)) := by
    intro p hp
    obtain ⟨v, hv⟩ := hko p hp
    obtain ⟨s, _, hs, _⟩ := Maps.keyOf_str Tryz.underlying9 hv
    have h1 : Maps.has (.map es : CntD) (.string s) = true := by
      rw [has_eq, List.any_eq_true]; exact ⟨p, hp, by rw [hs]; exact WideAt.sameKey_self (hs ▸ hkl p hp)⟩
    refine ⟨s, hs, ?_, ?_⟩
    · rw [hC.2.2 s] at h1; simpa using h1
    · have hm : (.string s, p.2) ∈ es := by rw [← hs]; exact hp
      exact (WideAt.atKey_mem (.lit (.int .i64 0)) (hs ▸ hkl p hp) hpw hm).symm.trans (hC.2.1 s)
  show x ∈ (es.filter fun p => !struck fol p.1 p.2).map (fun p => strOf p.1) ↔ _
  rw [List.mem_map]
  constructor
  · rintro ⟨p, hp, rfl⟩
    obtain ⟨hp1, hp2⟩ := List.mem_filter.1 hp
    obtain ⟨s, hs, ho, hv⟩ := hstr p hp1
    rw [hs, hv, struck_eq] at hp2
    rw [hs]
    refine ⟨ho, ?_⟩
    simp only [Bool.not_and, Bool.or_eq_true, Bool.not_eq_true', decide_eq_false_iff_not, beq_eq_false_iff_ne] at hp2
    rcases hp2 with h | h
    · left; show 2 ≤ own.count s; omega
    · right; show s ∈ fol; exact List.count_pos_iff.1 (by omega)
  · rintro ⟨ho, hc⟩
    have h1 := hC.2.2 x
    rw [List.contains_iff_mem.2 ho, has_eq, List.any_eq_true] at h1
    obtain ⟨p, hp, hpx⟩ := h1
    obtain ⟨s, hs, ho', hv⟩ := hstr p hp
    have e := WideAt.sameKey_eq hpx
    rw [hs] at e
    obtain rfl : s = x := by injection e
    refine ⟨p, List.mem_filter.2 ⟨hp, ?_⟩, by rw [hs]; rfl⟩
    rw [hs, hv, struck_eq]
    simp only [Bool.not_and, Bool.or_eq_true, Bool.not_eq_true', decide_eq_false_iff_not, beq_eq_false_iff_ne]
    rcases hc with h | h
    · left; omega
    · right; have := List.count_pos_iff.2 h; omega
end Go.Proofs.YtfphcecjhdkcoaaGreatDoor
/-
The walk of the program's clashes.
-/
namespace Go.Proofs.YtfphcecjhdkcoaaGreatDoor
open Go.RowKit Go.Shelf Go.Maps
attribute [local go_sem] Oper.semAt_some
/-- Block mb is a map of packages by their names; they lie in blocks of which S holds. -/
def SetOn (S : Nat → Prop) (w : World) (mb : Nat) (L : List (Nat × Sp.Pk)) : Prop :=
  (∃ D : DataW Value, w.ownsMap Tryz.prog 9 Rv mb L.length D ∧ Maps.size D = L.length ∧
    (∀ q ∈ L, ∀ z, D.atKey (.string q.2.name) z = .held (.pointer (some ⟨q.1, 0, none⟩))) ∧
    (∀ k, Maps.has D k = true → ∃ q ∈ L, k = .string q.2.name)) ∧
  L.Pairwise (fun q r => q.2.name ≠ r.2.name) ∧ ∀ q ∈ L, IsPack S w q.1 q.2 ∧ PkOk q.2
theorem flat_len {α β : Type} (f : α → List β) (c : Nat) : ∀ l : List α, (∀ x ∈ l, (f x).length ≤ c) → (l.flatMap f).length ≤ l.length * c
  | [], _ => by simp
  | x :: r, h => by
    rw [List.flatMap_cons, List.length_append, List.length_cons, Nat.add_mul, Nat.one_mul]
    have h1 := h x (by simp)
    have h2 := flat_len f c r (fun y hy => h y (by simp [hy]))
    omega
theorem names_one {L : List (Nat × Sp.Pk)} (h : L.Pairwise (fun q r => q.2.name ≠ r.2.name)) : ∀ q ∈ L, ∀ r ∈ L, q.2.name = r.2.name → q = r := by
  induction h with
  | nil => intro q hq; cases hq
  | cons h1 h2 ih =>
    intro q hq r hr e
    rcases List.mem_cons.1 hq with e1 | hq' <;> rcases List.mem_cons.1 hr with e2 | hr'
    · rw [e1, e2]
    · subst e1; exact absurd e (h1 r hr')
    · subst e2; exact absurd e.symm (h1 q hq')
    · exact ih q hq' r hr' e
theorem str_of_key {key : Value} {kl : Lit} (h : keyOf Tryz.prog 9 key = some kl) : ∃ x : ByteArray, key = .string x := by
  obtain ⟨x, rfl, _⟩ := Maps.keyOf_string_inv Tryz.underlying9 h
  exact ⟨x, rfl⟩
set_option maxRecDepth 100000 in
set_option maxHeartbeats 1000000 in
theorem clashes_any (mb : Nat) (L : List (Nat × Sp.Pk)) (w : World) (h : SetOn (fun b => b < w.heap.size) w mb L) (hL : L.length ≤ 100000) :
    Calls Tryz.prog 125 #[.map (some mb)] w fun e w' => ∃ v l, e = .returned v ∧ Below w.heap.size w w' ∧ StrsAt w' v l ∧ l.Pairwise (· ≤ ·) ∧
      ∀ x : Sp.Str, x ∈ l ↔ x ∈ L.flatMap (fun q => pathsOf q.2) ∧ (2 ≤ (L.flatMap fun q => pathsOf q.2).count x ∨ x ∈ (L.flatMap fun q => pathsOf q.2).flatMap Sp.folders) := by
  have hmm := @run_makeMap Tryz.prog
  refine callsIn_wide.1 (callsIn_of_wp_marks (F := Fence.wide) (n := 6) Tryz.func125 rfl trivial (wpIn_wide.2 ?_) rfl)
  simp only [Tryz.ntmps125, List.size_toArray, List.length_cons, List.length_nil, Nat.reduceAdd, Nat.reduceSub, Array.replicate_succ, Array.replicate_zero, List.push_toArray, List.append_toArray, List.nil_append, List.cons_append]
  obtain ⟨⟨D, hown, hsz, hat, hhas⟩, hap, hpk⟩ := h
  go_wp2_with (at_range; refine wpList_range_own _ rfl _ 139 rfl 9 118 keyed9 Tryz.underlying139 Rv mb L.length D rfl (((hown.alloc _).alloc _).alloc _) ?_; intro w1 hr1 hg1 hs1)
  refine wp_loop_down (fun n a W => ∃ (x6 x8 x9 x14 x15 x16 x17 x18 x19 x20 x21 x22 x23 x24 x25 x26 x27 x28 x29 x30 x31 x32 x33 x34 x35 x36 x37 x38 x39 x40 : Value) (ks : List Nat) (done : List (Nat × Sp.Pk)) (left : Lit → Bool),
    a = { tmps := #[Value.map (some mb), undef, Value.slice none 0 0, Value.map (some w.heap.size), Value.pointer (some { block := w.heap.size + 2, off := 0 }), undef, x6, undef, x8, x9,
              Value.map (some w.heap.size), Value.map (some (w.heap.size + 1)), Value.map (some mb), .pointer (some ⟨w.heap.size + 3, 0, none⟩), x14, x15, x16, x17, x18, x19, x20, x21, x22, x23, x24, x25, x26, x27, x28, x29,
              x30, x31, x32, x33, x34, x35, x36, x37, x38, x39, x40, undef, undef, undef, undef, undef, undef], defers := ks.map markOf } ∧
      Rest w mb L D (done.flatMap fun q => pathsOf q.2) left n ks W ∧ CountAt W (w.heap.size + 1) ((done.flatMap fun q => pathsOf q.2).flatMap Sp.folders) ∧ done.Nodup ∧ (∀ q ∈ done, q ∈ L) ∧ (∀ q ∈ L, (left (.string q.2.name) = true ↔ q ∉ done)) ∧ n + done.length ≤ L.length) (Maps.size D) ?_ ?_
  · simp only [World.size_alloc] at hr1 hs1
    have hg3 : ∀ b, b < w.heap.size + 3 → w1.heap[b]? = (((w.alloc (.map #[] 0)).alloc (.map #[] 0)).alloc (.cells #[.map (some (w.heap.size + 1))] 269)).heap[b]? := fun b hb => hg1.block b (by simpa using hb) (by simp)
    have hlt := hown.lt
    have hRi : Rest w mb L D [] (Maps.has D) (Maps.size D) [] w1 := by
      refine ⟨hr1, ?_, ?_, ⟨List.nodup_nil, fun k hk => by cases hk⟩, ⟨hg1.os, hg1.tape, hg1.output, by omega, fun k hk => ?_⟩, by omega, hlt⟩
      · refine (CountAt.made w).block ((hg3 _ (by omega)).trans ?_)
        rw [Below.heap_alloc _ _ _ (by simp; omega), Below.heap_alloc _ _ _ (by simp)]
      · refine (World.cell?_of_block (hg3 _ (by show w.heap.size + 2 < _; omega))).trans ?_
        rw [World.cell?_alloc_at _ _ _ _ (by simp)]; rfl
      · rw [hg3 k (by omega), Below.heap_alloc _ _ _ (by simp; omega), Below.heap_alloc _ _ _ (by simp; omega), Below.heap_alloc _ _ _ hk]
    have hCi : CountAt w1 (w.heap.size + 1) [] := by
      have h1 := CountAt.made (w.alloc (.map #[] 0))
      rw [World.size_alloc] at h1
      refine h1.block ((hg3 _ (by omega)).trans ?_)
      rw [Below.heap_alloc _ _ _ (by simp)]
    exact ⟨undef, undef, undef, undef, undef, undef, undef, undef, undef, undef, undef, undef, undef, undef, undef, undef, undef, undef, undef, undef, undef, undef, undef, undef, undef, undef, undef, undef, undef, undef, [], [], Maps.has D, by simp [Act.put], hRi, hCi, List.nodup_nil, (fun q hq => by cases hq),
      (fun q hq => ⟨fun _ h => by (cases h), fun _ => has_true_of_atKey (hat q hq)⟩), by simp; omega⟩
  · rintro n a W ⟨x6, x8, x9, x14, x15, x16, x17, x18, x19, x20, x21, x22, x23, x24, x25, x26, x27, x28, x29, x30, x31, x32, x33, x34, x35, x36, x37, x38, x39, x40, ks, done, left, rfl, hR, hC, hnd, hsub, hleft, hcnt⟩
    go_wp2_with (at_next; refine wpList_next_ranges _ rfl _ rfl 9 keyed9 Rv Value.string id (fun key kl hk => str_of_key hk) (fun v _ _ => ⟨v, rfl⟩) mb (w.heap.size + 3) L.length D left n rfl hR.ranges ?_ ?_)
    · intro hn0 hl0
      have hall : ∀ q ∈ L, q ∈ done := fun q hq => Classical.byContradiction fun h => by
        have := (hleft q hq).2 h
        rw [hl0] at this; cases this
      have hnd2 : L.Nodup := hap.imp fun {q r} h e => h (by rw [e])
      have hperm : done.Perm L := (List.perm_ext_iff_of_nodup hnd hnd2).2 fun q => ⟨hsub q, hall q⟩
      have hpo := hperm.flatMap_right (fun q : Nat × Sp.Pk => pathsOf q.2)
      have hpf := hpo.flatMap_right Sp.folders
      have hol : (done.flatMap fun q => pathsOf q.2).length < 1000000 := by
        have h1 := flat_len (fun q : Nat × Sp.Pk => pathsOf q.2) 4 done (fun q hq => by unfold pathsOf; rw [List.length_map]; exact (hpk q (hsub q hq)).2.files)
        omega
      generalize ho : (done.flatMap fun q => pathsOf q.2) = own at hR hC hpo hpf hol
      generalize hf : own.flatMap Sp.folders = fol at hC hpf
      obtain ⟨Dc, hDo, hDc⟩ := hR.own
      have hdel := AnyDf.maps_DeleteFunc Tryz.delI keyed9 (plainElem Tryz.prog 3) (struck fol) 170 #[.pointer (some ⟨w.heap.size + 2, 0, none⟩)] w.heap.size own.length Dc W (enters_of Tryz.func170 (by kernel_rfl) rfl) hDo (by
        intro W' key val kl yd yp hgW hk hv
        obtain ⟨x, rfl, rfl, hxm⟩ := Maps.keyOf_str Tryz.underlying9 hk
        obtain ⟨c, rfl, hy, _⟩ := plainElem_int_inv Tryz.underlying3 hv
        obtain rfl : yd = .lit (.int .i64 c) := by simpa using (congrArg Prod.fst hy)
        have hcl := closure_any x c (w.heap.size + 2) (w.heap.size + 1) fol W' hxm (hgW.cell hR.box (by simp)) (hC.kept hgW (by simp))
        refine hcl.mono ?_
        rintro e w9 ⟨rfl, rfl⟩
        exact ⟨rfl, World.grownBy.refl _ _⟩)
      go_wp2_with (first
        | (go_at_call 169; refine hdel.mono ?_; rintro e w8 ⟨rfl, hD8, hg8⟩)
        | (go_at_call 171; refine (keysI_any _ _).mono ?_; rintro e w9 ⟨rfl, rfl⟩)
        | (go_at_call 129; refine (sortedI_any w.heap.size own.length _ _ w8 hD8 (Nat.lt_of_le_of_lt hD8.size_le (by omega))).mono ?_; rintro e w10 ⟨v, ss, rfl, hperm2, hrow, hnil2, hb10⟩))
      have hsz8 := hg8.size
      have hszR := hR.size
      have hbW8 : Below w.heap.size w w8 := ⟨hg8.os.trans hR.below.os, hg8.tape.trans hR.below.tape, hg8.output.trans hR.below.output, Nat.le_trans hR.below.size hsz8,
        fun k hk => (hg8.block k (by omega) (by simp; omega)).trans (hR.below.block k hk)⟩
      have hb10' : Below w.heap.size w w10 := hbW8.trans (hb10.mono hbW8.size)
      have hm10 : Marks w.heap.size w10 ks := ⟨hR.marks.1, fun k hk => by
        have h1 := hR.marks.lt k hk
        have h2 := (hR.marks.2 k hk).1
        refine ⟨by omega, ?_⟩
        rw [hb10.block k (by omega), hg8.block k h1 (by simp; omega)]
        exact (hR.marks.2 k hk).2⟩
      refine leaves_marks (B := w.heap.size) (a0 := w) ks w10 hm10 hb10' fun w' hb' hk' => ?_
      refine ⟨v, (by have := results_tmp (fn := Tryz.f125) rfl; exact this _ _ _), v, ss.mergeSort (fun x y => decide (x ≤ y)), rfl, hb', ?_, ?_, ?_⟩
      · refine StrsAt.of_row (B := (w8.alloc (.cells #[.map (some w.heap.size)] 269)).heap.size) (e := 9) ?_
        obtain ⟨r1, r2⟩ := hrow
        rw [(List.mergeSort_perm ss _).length_eq]
        refine ⟨r1, r2.imp id ?_⟩
        rintro ⟨g, cap, cur, rfl, r3, r4, r5⟩
        refine ⟨g, cap, cur, rfl, r3, (hk' g fun hg => ?_).trans r4, r5⟩
        have h1 := hR.marks.lt g hg
        simp at r3; omega
      · refine (List.pairwise_mergeSort (le := fun x y => decide (x ≤ y)) (fun a b c h1 h2 => ?_) (fun a b => ?_) ss).imp fun h => of_decide_eq_true h
        · simp only [decide_eq_true_eq] at h1 h2 ⊢; exact List.le_trans h1 h2
        · simp only [Bool.or_eq_true, decide_eq_true_eq]; exact List.le_total a b
      · intro x
        rw [(List.mergeSort_perm ss _).mem_iff, hperm2.mem_iff]
        refine (keys_left hDo hDc fol x).trans ?_
        rw [hpo.mem_iff, hpo.count_eq, hpf.mem_iff]
    · intro x c kl yd yp w2 cnt2 hkl hlk hRv hat2 hr2 hlt2 hg2 hs2 hen2
      have hR2 := hR.next hg2 hr2
      obtain ⟨q, hq, rfl⟩ := hhas kl (has_true_of_atKey hat2)
      obtain ⟨x', e1, e2⟩ := Maps.keyOf_string_inv Tryz.underlying9 hkl
      obtain rfl : yd = .held c := (congrArg Prod.fst (Option.some.inj hRv)).symm
      have hc := (hat2 .nil).symm.trans (hat q hq .nil)
      obtain rfl : c = .pointer (some ⟨q.1, 0, none⟩) := by injection hc
      obtain ⟨hip, hok⟩ := hpk q hq
      obtain ⟨nv, bv, fv, hS, h0, h1, h2, h3, h4, g0, g1, g2, n0, n1⟩ := hip
      have h4b := (World.cell?_of_block (a := ⟨q.1, 4, none⟩) (w := w) (hR2.below.block q.1 hS)).trans h4
      obtain ⟨a, cap, rfl, hcap, hfl⟩ := FlOn.get g2
      have HF := Lib.hid hfl
      clear hfl hcap g0 g1 g2 n0 n1 h0 h1 h2 h3
      have hC2 : CountAt w2 (w.heap.size + 1) ((done.flatMap fun q => pathsOf q.2).flatMap Sp.folders) := hC.block (hg2.block _ (by have := hR.size; omega) (by simp))
      have hfew := hok.files
      have hdl := flat_len (fun q : Nat × Sp.Pk => pathsOf q.2) 4 done (fun q hq => by unfold pathsOf; rw [List.length_map]; exact (hpk q (hsub q hq)).2.files)
      go_wp2
      refine wp_loop_down (fun m a' W => ∃ (x8 x9 x24 x25 x26 x27 x28 x29 x30 x31 x32 x33 x34 x35 x36 x37 x38 x39 x40 : Value) (ks : List Nat) (k : Nat),
        a' = { tmps := #[Value.map (some mb), undef, Value.slice none 0 0, Value.map (some w.heap.size),
          Value.pointer (some { block := w.heap.size + 2, off := 0 }), undef,
          Value.pointer (some { block := q.fst, off := 0 }), undef, x8, x9, Value.map (some w.heap.size),
          Value.map (some (w.heap.size + 1)), Value.map (some mb),
          Value.pointer (some { block := w.heap.size + 3, off := 0 }),
          Value.tuple #[Value.bool true, Value.string x, Value.pointer (some { block := q.fst, off := 0 })],
          Value.bool true, Value.tuple #[Value.string x, Value.pointer (some { block := q.fst, off := 0 })],
          Value.pointer (some { block := q.fst, off := 0 }), Value.pointer (some { block := q.fst, off := 0 }),
          Value.pointer (some { block := q.fst, off := 0 }), Value.pointer (some { block := q.fst, off := 4 }),
          Value.slice a q.snd.files.length cap, Value.int IntKind.i64 (q.snd.files.length : Int), Value.int IntKind.i64 (k : Int), x24,
          x25, x26, x27, x28, x29, x30, x31, x32, x33, x34, x35, x36, x37, x38, x39, x40, undef, undef, undef, undef,
          undef, undef], defers := ks.map markOf } ∧ k ≤ q.2.files.length ∧ m = q.2.files.length - k ∧
        Rest w mb L D ((done.flatMap fun q => pathsOf q.2) ++ (pathsOf q.2).take k) (fun z => left z && !z.sameKey (.string q.2.name)) cnt2 ks W ∧
        CountAt W (w.heap.size + 1) (((done.flatMap fun q => pathsOf q.2) ++ (pathsOf q.2).take k).flatMap Sp.folders)) q.2.files.length ?_ ?_
      · exact ⟨_, _, _, _, _, _, _, _, _, _, _, _, _, _, _, _, _, _, _, ks, 0, rfl, by omega, rfl, by simpa using hR2, by simpa using hC2⟩
      · clear hR hR2 hC hC2 h4b
        rintro m a' W2 ⟨x8, x9, x24, x25, x26, x27, x28, x29, x30, x31, x32, x33, x34, x35, x36, x37, x38, x39, x40, ks2, k, rfl, hk, rfl, hR3, hC3⟩
        by_cases hk2 : k < q.2.files.length
        · obtain ⟨b, off, rfl, hbl, hc0, hc1⟩ := HF.out k hk2
          have hd0 := (World.cell?_of_block (w := w) (a := ⟨b, off + k * 2, none⟩) (hR3.below.block b hbl)).trans hc0
          have hd1 := (World.cell?_of_block (w := w) (a := ⟨b, off + k * 2 + 1, none⟩) (hR3.below.block b hbl)).trans hc1
          generalize hpath : q.2.files[k].path = path at hd0
          unfold sv at hd0 hd1
          clear hc0 hc1
          have hpl : path.length ≤ maxLen := by
            have := hok.paths _ (List.getElem_mem hk2)
            rw [hpath] at this; unfold maxLen; omega
          have hol : ((done.flatMap fun q => pathsOf q.2) ++ (pathsOf q.2).take k).length < 800000 := by
            rw [List.length_append, List.length_take]
            unfold pathsOf at hdl ⊢
            rw [List.length_map]; omega
          have hR4 := hR3.alloc (.cells #[Value.string { data := List.toArray path }, Value.string { data := List.toArray q.snd.files[k].content }] 182)
          have hokp := hok
          have hpk1 : (pathsOf q.2).take (k + 1) = (pathsOf q.2).take k ++ [path] := by
            unfold pathsOf; rw [List.take_add_one, List.getElem?_map, List.getElem?_eq_getElem hk2, ← hpath]; rfl
          generalize hok : (done.flatMap fun q => pathsOf q.2) ++ (pathsOf q.2).take k = ownk at hR4 hC3 hol
          have hcc : ownk.count path < 1000000000 := Nat.lt_of_le_of_lt List.count_le_length (by omega)
          have HPK := Lib.hid hpk1
          have HOK := Lib.hid hok
          have hcell : (W2.alloc (.cells #[Value.string { data := List.toArray path }, Value.string { data := List.toArray q.snd.files[k].content }] 182)).cell? ⟨W2.heap.size, 0, none⟩ = some (.string ⟨path.toArray⟩) := by
            rw [World.cell?_alloc_at _ _ _ _ rfl]; rfl
          have hbne : some W2.heap.size ≠ some w.heap.size := by have := hR3.size; simp; omega
          have hk4 : k < 4 := by omega
          clear hfew hpk1 hok hR3
          go_wp2_with (first
            | (at_lookup; refine wp_cnt_get _ rfl _ _ rfl w.heap.size _ rfl hR4.own path hpl rfl ?_)
            | (at_mapUpdate; refine wp_cnt_put _ rfl _ _ _ rfl w.heap.size _ rfl hR4.own (by omega) path hpl rfl rfl ?_; intro W5 hc5 hg5; have hb5 := hg5.cell hcell hbne; have hR5 := hR4.put hg5 hc5)
            | (go_at_call 168; refine (folders_any _ _).mono ?_; rintro e W6 ⟨rfl, rfl⟩))
          have hwb : w.heap.size + 1 < W5.heap.size := by have := hR5.size; omega
          have hC5 : CountAt W5 (w.heap.size + 1) (ownk.flatMap Sp.folders) := (hC3.block (w' := W2.alloc _) (Below.heap_alloc _ _ _ hC3.lt)).kept hg5 (by simp)
          have hpath1000 : path.length < 1000 := by
            have := hokp.paths _ (List.getElem_mem hk2)
            rw [hpath] at this; omega
          have hfl5 : (ownk.flatMap Sp.folders).length < 900000000 := by
            have h1 := flat_len Sp.folders 1000 ownk (fun s hs => by
              rw [← HOK.out] at hs
              have hfs : (Sp.folders s).length ≤ s.length := by
                unfold Sp.folders; rw [List.length_map]; exact Nat.le_trans (List.length_filter_le _ _) (by simp)
              have hs2 : ∃ p : Sp.Pk, PkOk p ∧ s ∈ pathsOf p := by
                rcases List.mem_append.1 hs with hs | hs
                · obtain ⟨q', hq', hs⟩ := List.mem_flatMap.1 hs
                  exact ⟨q'.2, (hpk q' (hsub q' hq')).2, hs⟩
                · exact ⟨q.2, hokp, List.mem_of_mem_take hs⟩
              obtain ⟨p', hp', hs3⟩ := hs2
              obtain ⟨f, hf, rfl⟩ := List.mem_map.1 hs3
              have := hp'.paths f hf; omega)
            omega
          refine wpIn_wide.1 (wpIn_rangeFunc_ownG (F := Fence.wide) (n := 6) rfl (by omega) (gf := 216) (lb := #[.pointer (some ⟨W5.heap.size, 0, none⟩)]) rfl trivial (enters_of Tryz.func216 (by kernel_rfl) rfl)
            (folders_stops Fence.wide 5 trivial rfl (by omega) W5.heap.size (W5.heap.size + 1) (w.heap.size + 1) ⟨path.toArray⟩ (by rw [← bl_len, bl_mk]; omega) (W5.alloc (.cells #[.string ⟨path.toArray⟩] 9)) (by omega) (by omega) (by simp) (by rw [World.cell?_alloc_at _ _ _ _ rfl]; rfl))
            FrN.trans ?hKb (Below.refl _ _) (fun _ => rfl)
            (fun pre W => CountAt W (w.heap.size + 1) (ownk.flatMap Sp.folders ++ pre.map (·.1)) ∧ FrN (W5.heap.size + 1) (w.heap.size + 1) (W5.alloc (.cells #[.string ⟨path.toArray⟩] 9)) W) (fun _ _ _ => False) ?hI ?hIx ?h0
            (fun x2 => { tmps := #[Value.map (some mb), undef, Value.slice none 0 0, Value.map (some w.heap.size),
          Value.pointer (some { block := w.heap.size + 2, off := 0 }), undef,
          Value.pointer (some { block := q.fst, off := 0 }), undef,
          Value.pointer (some { block := W2.heap.size, off := 0 }), .string ⟨x2.1.toArray⟩, Value.map (some w.heap.size),
          Value.map (some (w.heap.size + 1)), Value.map (some mb),
          Value.pointer (some { block := w.heap.size + 3, off := 0 }),
          Value.tuple #[Value.bool true, Value.string x, Value.pointer (some { block := q.fst, off := 0 })],
          Value.bool true, Value.tuple #[Value.string x, Value.pointer (some { block := q.fst, off := 0 })],
          Value.pointer (some { block := q.fst, off := 0 }), Value.pointer (some { block := q.fst, off := 0 }),
          Value.pointer (some { block := q.fst, off := 0 }), Value.pointer (some { block := q.fst, off := 4 }),
          Value.slice (some { block := b, off := off }) q.snd.files.length cap,
          Value.int IntKind.i64 (q.snd.files.length : Int), Value.int IntKind.i64 (k : Int), Value.bool true,
          Value.pointer (some { block := b, off := off + k * 2 }),
          Value.agg
            #[Value.string { data := List.toArray path }, Value.string { data := List.toArray q.snd.files[k].content }],
          Value.map (some w.heap.size), Value.pointer (some { block := W2.heap.size, off := 0 }),
          Value.string { data := List.toArray path }, Value.int IntKind.i64 (List.count path ownk : Int),
          Value.int IntKind.i64 ((List.count path ownk : Int) + 1), Value.pointer (some { block := W2.heap.size, off := 0 }),
          Value.string { data := List.toArray path },
          Value.func (Fn.func 216) #[] #[Value.pointer (some { block := W5.heap.size, off := 0 })], .string ⟨x2.1.toArray⟩, x36, x37, x38,
          x39, x40, undef, undef, undef, undef, undef, undef], defers := [] }) ?assign ?body ?done ?stop)
          case hKb =>
            intro W l o o' hl ho _ _
            simp at hl
            exact ⟨rfl, rfl, rfl, by simp [World.putObj], fun j hj hne => World.putObj_heap_other (by omega)⟩
          case hI =>
            rintro pre A B row ⟨h1, h2⟩ hg hr
            refine ⟨h1.kept hg fun e => ?_, h2.trans ⟨hg.os, hg.tape, hg.output, hg.size, fun j hj hne => ?_⟩⟩
            · have := (hr _ e.symm).1; simp at this; omega
            · have h2s := h2.size
              simp at h2s
              refine hg.block j (by omega) fun e => ?_
              have := (hr _ e.symm).1; simp at this; omega
          case hIx => intro c s A B row h; exact h.elim
          case h0 => exact ⟨by simpa using hC5.block (w' := W5.alloc _) (Below.heap_alloc _ _ _ hC5.lt), FrN.refl _ _ _⟩
          case assign =>
            intro l x2 W K hK
            gi_wp2
            exact hK
          case stop => intro D c pre W _ _ h; exact h.elim
          case done =>
            intro D2 xs W hD2 hxs hIx hdef
            go_wp2
            have hR6 := ((hR5.alloc (.cells #[.string ⟨path.toArray⟩] 9)).frn hIx.2 (by simp))
            simp only [World.size_alloc] at hD2
            have hR7 := hR6.mark hdef (fun hm => by have := hR5.marks.lt D2 hm; omega) (by have := hR5.size; omega)
            refine ⟨q.2.files.length - (k + 1), by omega, _, _, _, _, _, _, _, _, _, _, _, _, _, _, _, _, _, _, _, D2 :: ks2, k + 1, rfl, hk2, rfl, ?_, ?_⟩
            · rw [HPK.out, ← List.append_assoc, HOK.out]; exact hR7
            · rw [HPK.out, ← List.append_assoc, HOK.out, List.flatMap_append]
              have h8 := hIx.1
              rw [hxs, bl_mk] at h8
              simpa using h8
          case body =>
            rintro l pre x2 W ⟨hc6, hf6⟩ hpre
            simp only [bl_mk] at hpre
            dsimp only
            have hb6 : W.cell? ⟨w.heap.size + 2, 0, none⟩ = some (.map (some (w.heap.size + 1))) := (hf6.cell (by show w.heap.size + 2 < _; omega) (by simp)).trans (hR5.alloc _).box
            have hlen6 : (ownk.flatMap Sp.folders ++ pre.map (·.1)).length < 1000000000 := by rw [List.length_append, List.length_map]; omega
            have hx2 : x2.1.length ≤ maxLen := by have := x2.2; unfold maxLen; omega
            generalize hfk : ownk.flatMap Sp.folders ++ pre.map (·.1) = folk at hc6 hlen6
            have hcc6 : folk.count x2.1 < 1000000000 := Nat.lt_of_le_of_lt List.count_le_length hlen6
            gi_wp2_with (first
              | (gi_at_lookup; refine wpIn_cnt_get _ rfl _ _ rfl (w.heap.size + 1) _ rfl hc6 x2.1 hx2 rfl ?_)
              | (gi_at_mapUpdate; refine wpIn_cnt_put _ rfl _ _ _ rfl (w.heap.size + 1) _ rfl hc6 hlen6 x2.1 hx2 rfl rfl ?_; intro W7 hc7 hg7))
            have hwlt : ∀ j, some (w.heap.size + 1) = some j → j < (W5.alloc (.cells #[.string ⟨path.toArray⟩] 9)).heap.size := by intro j e; cases e; simp; omega
            have hf7 : FrN (W5.heap.size + 1) (w.heap.size + 1) W W7 := ⟨hg7.os, hg7.tape, hg7.output, hg7.size, fun j hj hne => hg7.block j (by have := hf6.size; simp at this; omega) (fun e => hne (by cases e; rfl))⟩
            refine ⟨KeepsFrom.of_grownBy hg7 hwlt, hf7, ?_, hf6.trans hf7⟩
            rw [List.map_append, ← List.append_assoc, hfk]
            exact hc7
        · obtain rfl : k = q.2.files.length := by omega
          go_wp2
          refine ⟨cnt2, hlt2, _, _, _, _, _, _, _, _, _, _, _, _, _, _, _, _, _, _, _, _, _, _, _, _, _, _, _, _, _, _, ks2, done ++ [q], fun z => left z && !z.sameKey (.string q.2.name), rfl, ?_, ?_, ?_, ?_, ?_⟩
          · rw [List.flatMap_append]
            have e8 : (pathsOf q.2).take q.2.files.length = pathsOf q.2 := by unfold pathsOf; rw [← List.length_map (f := fun f : Sp.Fl => f.path), List.take_length]
            rw [e8] at hR3
            simpa using hR3
          · have e8 : (pathsOf q.2).take q.2.files.length = pathsOf q.2 := by unfold pathsOf; rw [← List.length_map (f := fun f : Sp.Fl => f.path), List.take_length]
            rw [e8] at hC3
            simpa using hC3
          · refine List.nodup_append.2 ⟨hnd, by simp, ?_⟩
            rintro r hr r' hr' rfl
            rw [List.mem_singleton] at hr'
            subst hr'
            exact ((hleft r hq).1 hlk) hr
          · intro r hr
            rcases List.mem_append.1 hr with h | h
            · exact hsub r h
            · rw [List.mem_singleton] at h; exact h ▸ hq
          · refine ⟨fun r hr => ?_, by rw [List.length_append]; simp; omega⟩
            rw [Bool.and_eq_true, hleft r hr, Bool.not_eq_true', List.mem_append, List.mem_singleton, not_or]
            refine and_congr_right fun _ => ?_
            rw [← Bool.not_eq_true, WideAt.sameKey_iff (isKey9 _ (by have := (hpk q hq).2.name; unfold maxLen; omega))]
            constructor
            · rintro h rfl; exact h rfl
            · intro h e
              injection e with e
              exact h (names_one hap r hr q hq e)
end Go.Proofs.YtfphcecjhdkcoaaGreatDoor
/-
Plain laws of paths that clash: what the program counts, and what the document asks of two.
-/
namespace Go.Proofs.YtfphcecjhdkcoaaGreatDoor
theorem mem_folders (x s : Sp.Str) : x ∈ Sp.folders s ↔ Sp.over x s = true := by
  unfold Sp.folders Sp.over
  rw [List.mem_map, List.isPrefixOf_iff_prefix]
  constructor
  · rintro ⟨i, hi, rfl⟩
    obtain ⟨hi1, hi2⟩ := List.mem_filter.1 hi
    rw [List.mem_range] at hi1
    have h47 : s[i]? = some 47 := by simpa using hi2
    have : s.take i ++ [47] = s.take (i + 1) := by rw [List.take_add_one, h47]; rfl
    rw [this]; exact List.take_prefix _ _
  · rintro ⟨r, rfl⟩
    refine ⟨x.length, List.mem_filter.2 ⟨List.mem_range.2 (by simp), ?_⟩, by simp⟩
    rw [List.append_assoc, List.getElem?_append_right (Nat.le_refl _)]; simp
theorem clash1_iff : ∀ l : List Sp.Str, Sp.clash1 l = true ↔ ∃ x ∈ l, 2 ≤ l.count x ∨ x ∈ l.flatMap Sp.folders
  | [] => by simp [Sp.clash1]
  | p :: r => by
    have hself : ∀ s : Sp.Str, s ∉ Sp.folders s := fun s h => by
      rw [mem_folders] at h
      unfold Sp.over at h
      rw [List.isPrefixOf_iff_prefix] at h
      have h9 := h.length_le
      rw [List.length_append] at h9
      exact absurd h9 (by simp)
    unfold Sp.clash1
    rw [Bool.or_eq_true, clash1_iff r, List.any_eq_true]
    constructor
    · rintro (⟨q, hq, h⟩ | ⟨x, hx, h⟩)
      · simp only [Bool.or_eq_true, beq_iff_eq] at h
        rcases h with (rfl | h) | h
        · refine ⟨p, by simp, .inl ?_⟩
          rw [List.count_cons_self]; have := List.count_pos_iff.2 hq; omega
        · exact ⟨p, by simp, .inr (List.mem_flatMap.2 ⟨q, by simp [hq], (mem_folders p q).2 h⟩)⟩
        · exact ⟨q, by simp [hq], .inr (List.mem_flatMap.2 ⟨p, by simp, (mem_folders q p).2 h⟩)⟩
      · refine ⟨x, by simp [hx], ?_⟩
        rcases h with h | h
        · left; rw [List.count_cons]; omega
        · right; rw [List.flatMap_cons]; exact List.mem_append.2 (.inr h)
    · rintro ⟨x, hx, h⟩
      rcases List.mem_cons.1 hx with rfl | hx
      · rcases h with h | h
        · rw [List.count_cons_self] at h
          exact .inl ⟨x, List.count_pos_iff.1 (by omega), by simp⟩
        · rw [List.flatMap_cons, List.mem_append] at h
          rcases h with h | h
          · exact absurd h (hself x)
          · obtain ⟨q, hq, h⟩ := List.mem_flatMap.1 h
            exact .inl ⟨q, hq, by rw [(mem_folders x q).1 h]; simp⟩
      · rcases h with h | h
        · by_cases e : p = x
          · subst e; exact .inl ⟨p, hx, by simp⟩
          · rw [List.count_cons_of_ne e] at h
            exact .inr ⟨x, hx, .inl h⟩
        · rw [List.flatMap_cons, List.mem_append] at h
          rcases h with h | h
          · exact .inl ⟨x, hx, by rw [(mem_folders x p).1 h]; simp⟩
          · exact .inr ⟨x, hx, .inr h⟩
theorem clash_none (l r : List Sp.Str) (h : ∀ x, x ∈ r ↔ x ∈ l ∧ (2 ≤ l.count x ∨ x ∈ l.flatMap Sp.folders)) : r = [] ↔ Sp.clash1 l = false := by
  rw [← Bool.not_eq_true, clash1_iff]
  constructor
  · rintro rfl ⟨x, hx, h1⟩
    exact List.not_mem_nil ((h x).2 ⟨hx, h1⟩)
  · intro hn
    refine List.eq_nil_iff_forall_not_mem.2 fun x hx => hn ⟨x, (h x).1 hx⟩
end Go.Proofs.YtfphcecjhdkcoaaGreatDoor
/-
A package while it is being read: how it lies in memory; the line that names it.
-/
namespace Go.Proofs.YtfphcecjhdkcoaaGreatDoor
open Go.RowKit
/-- The package p, being read, at block b: what hangs on it lies below m, but for its files: these are a row of its own. -/
def PackAt (w : World) (m b : Nat) (p : Sp.Pk) : Prop :=
  ∃ nv bv fv, m ≤ w.heap.size ∧ b + 1 < m ∧ w.cell? ⟨b, 0, none⟩ = some nv ∧ w.cell? ⟨b, 1, none⟩ = some bv ∧ w.cell? ⟨b, 2, none⟩ = some (sv p.name) ∧ w.cell? ⟨b, 3, none⟩ = some (sv p.ver) ∧ w.cell? ⟨b, 4, none⟩ = some fv ∧
    GsOn (fun x => x < m ∧ b + 1 < x) w nv p.needs ∧ ChOn (fun x => x < m ∧ b + 1 < x) w bv p.bars ∧ w.ownsRow m 182 2 fv p.files.length (p.files.flatMap flCells) ∧
    (p.needs = [] → nv = .slice none 0 0) ∧ (p.bars = [] → bv = .slice none 0 0) ∧ (p.files = [] → fv = .slice none 0 0) ∧ ∀ o, w.frozen? ⟨b, o, none⟩ = false
theorem PackAt.below {w w' : World} {m b : Nat} {p : Sp.Pk} (h : PackAt w m b p) (hb : Below w.heap.size w w') : PackAt w' m b p := by
  obtain ⟨nv, bv, fv, hm, hbm, h0, h1, h2, h3, h4, g0, g1, g2, n0, n1, n2, hz⟩ := h
  have hc := fun o => (bcell hb).1 b o (by omega)
  exact ⟨nv, bv, fv, Nat.le_trans hm hb.size, hbm, (hc 0).trans h0, (hc 1).trans h1, (hc 2).trans h2, (hc 3).trans h3, (hc 4).trans h4, g0.keep fun x hx => hb.block x (by omega), SlOn.keep g1 fun x hx => hb.block x (by omega), W3.row_keep g2 hb, n0, n1, n2, fun o => ((bcell hb).2 b o (by omega)).trans (hz o)⟩
theorem PackAt.setName {w : World} {m b : Nat} {p : Sp.Pk} (h : PackAt w m b p) (n : Sp.Str) : PackAt (w.setCell ⟨b, 2, none⟩ (sv n)) m b { p with name := n } := by
  obtain ⟨nv, bv, fv, hm, hbm, h0, h1, h2, h3, h4, g0, g1, g2, n0, n1, n2, hz⟩ := h
  obtain ⟨c1, c2, c3, c4, c5⟩ := set_facts w b 2 (sv n) _ h2 hz
  exact ⟨nv, bv, fv, by omega, hbm, (c2 0 (by omega)).trans h0, (c2 1 (by omega)).trans h1, c1, (c2 3 (by omega)).trans h3, (c2 4 (by omega)).trans h4, g0.keep fun x hx => c3 x (by omega), SlOn.keep g1 fun x hx => c3 x (by omega),
    row_block g2 fun k hk => c3 k (by omega), n0, n1, n2, c4⟩
theorem PackAt.setVer {w : World} {m b : Nat} {p : Sp.Pk} (h : PackAt w m b p) (n : Sp.Str) : PackAt (w.setCell ⟨b, 3, none⟩ (sv n)) m b { p with ver := n } := by
  obtain ⟨nv, bv, fv, hm, hbm, h0, h1, h2, h3, h4, g0, g1, g2, n0, n1, n2, hz⟩ := h
  obtain ⟨c1, c2, c3, c4, c5⟩ := set_facts w b 3 (sv n) _ h3 hz
  exact ⟨nv, bv, fv, by omega, hbm, (c2 0 (by omega)).trans h0, (c2 1 (by omega)).trans h1, (c2 2 (by omega)).trans h2, c1, (c2 4 (by omega)).trans h4, g0.keep fun x hx => c3 x (by omega), SlOn.keep g1 fun x hx => c3 x (by omega),
    row_block g2 fun k hk => c3 k (by omega), n0, n1, n2, c4⟩
theorem PackAt.setNeeds {w : World} {m b : Nat} {p : Sp.Pk} (h : PackAt w m b p) (hf : p.files = []) {v : Value} {gs : List (List Sp.Ch)} (hg : GsOn (fun x => x < w.heap.size ∧ b + 1 < x) w v gs) (hn : gs = [] → v = .slice none 0 0) :
    PackAt (w.setCell ⟨b, 0, none⟩ v) w.heap.size b { p with needs := gs } := by
  obtain ⟨nv, bv, fv, hm, hbm, h0, h1, h2, h3, h4, g0, g1, g2, n0, n1, n2, hz⟩ := h
  obtain ⟨c1, c2, c3, c4, c5⟩ := set_facts w b 0 v _ h0 hz
  refine ⟨v, bv, fv, by omega, by omega, c1, (c2 1 (by omega)).trans h1, (c2 2 (by omega)).trans h2, (c2 3 (by omega)).trans h3, (c2 4 (by omega)).trans h4, hg.keep fun x hx => c3 x (by omega), SlOn.keep (SlOn.mono g1 fun x hx => ⟨by omega, hx.2⟩) fun x hx => c3 x (by omega),
    ?_, hn, n1, n2, c4⟩
  rw [hf, n2 hf]; exact ⟨rfl, .inl ⟨rfl, rfl⟩⟩
theorem PackAt.setBars {w : World} {m b : Nat} {p : Sp.Pk} (h : PackAt w m b p) (hf : p.files = []) {v : Value} {cs : List Sp.Ch} (hg : ChOn (fun x => x < w.heap.size ∧ b + 1 < x) w v cs) (hn : cs = [] → v = .slice none 0 0) :
    PackAt (w.setCell ⟨b, 1, none⟩ v) w.heap.size b { p with bars := cs } := by
  obtain ⟨nv, bv, fv, hm, hbm, h0, h1, h2, h3, h4, g0, g1, g2, n0, n1, n2, hz⟩ := h
  obtain ⟨c1, c2, c3, c4, c5⟩ := set_facts w b 1 v _ h1 hz
  refine ⟨nv, v, fv, by omega, by omega, (c2 0 (by omega)).trans h0, c1, (c2 2 (by omega)).trans h2, (c2 3 (by omega)).trans h3, (c2 4 (by omega)).trans h4, (g0.mono fun x hx => ⟨by omega, hx.2⟩).keep fun x hx => c3 x (by omega), SlOn.keep hg fun x hx => c3 x (by omega),
    ?_, n0, hn, n2, c4⟩
  rw [hf, n2 hf]; exact ⟨rfl, .inl ⟨rfl, rfl⟩⟩
set_option maxRecDepth 100000 in
set_option maxHeartbeats 1000000 in
theorem line_package {G : Nat} (m b : Nat) (p : Sp.Pk) (s : ByteArray) (w : World) (hG : Glob G w) (hP : PackAt w m b p) (hs : s.size < 1000000) (a1 a2 b1 b2 : Sp.Str) (hA : Lib.cut (bl s) [32] = (a1, a2, true))
    (ha1 : (a1 == [112, 97, 99, 107, 97, 103, 101]) = true) (hB : Lib.cut a2 [32] = (b1, b2, true)) (hn : Sp.isName b1 = true) (hv : Sp.isVer b2 = true) :
    Calls Tryz.prog 103 #[.pointer (some ⟨b, 0, none⟩), .int .i64 0, .string s] w fun e w' => e = .returned (.tuple #[]) ∧ ∃ m', m ≤ m' ∧ PackAt w' m' b { p with name := b1, ver := b2 } ∧ FrN m b w w' := by
  obtain ⟨nv, bv, fv, hm, hb, h0, h1, h2, h3, h4, g0, g1, g2, n0, n1, n2, hz⟩ := hP
  have hmw := hm
  have ha2 : a2.length < 1000000 := by
    have := W2.cut_snd (bl s) [32]
    rw [hA, bl_len] at this; simp only at this; omega
  have hn' : Sp.isName (bl ⟨b1.toArray⟩) = true := by rw [bl_mk]; exact hn
  have hv' : Sp.isVer (bl ⟨b2.toArray⟩) = true := by rw [bl_mk]; exact hv
  have HN := Lib.hid hn'
  have HV := Lib.hid hv'
  have HA := Lib.hid hA
  have HB := Lib.hid hB
  clear hn hv hA hB hn' hv'
  go_enter Tryz.func103, Tryz.ntmps103
  go_wp2_with fail
  refine (cutS_any s _ w hG (by omega)).mono ?_
  rintro e w1 ⟨rfl, k, rfl⟩
  rw [show bl ⟨#[32]⟩ = [32] from rfl, HA.out]
  have hGk := hG.keep (below_drawn w k)
  go_wp2_with (first
    | (go_at_call 152; refine (must_true _).mono ?_; rintro e wx ⟨rfl, rfl⟩)
    | (go_at_call 151; refine (cutS_any _ _ _ hGk (by rw [← bl_len, bl_mk]; omega)).mono ?_; rintro e wx ⟨rfl, k2, rfl⟩; rw [show bl ⟨#[32]⟩ = [32] from rfl, bl_mk, HB.out]))
  have hbk : Below w.heap.size w (w.drewN (k + k2)) := below_drawn w _
  refine (name_yes _ _ (hG.keep hbk) HN.out).mono ?_
  rintro e w4 ⟨rfl, hb4⟩
  go_wp2_with fail
  refine (ver_yes _ _ HV.out).mono ?_
  rintro e w5 ⟨rfl, hb5⟩
  have hb5' : Below w.heap.size w w5 := hbk.trans (hb4.trans (hb5.mono hb4.size))
  have hP5 := PackAt.below ⟨nv, bv, fv, hm, hb, h0, h1, h2, h3, h4, g0, g1, g2, n0, n1, n2, hz⟩ hb5'
  clear h0 h1 h2 h3 h4 g0 g1 g2 n0 n1 n2 hz
  obtain ⟨nv, bv, fv, hm, hb, h0, h1, h2, h3, h4, g0, g1, g2, n0, n1, n2, hz⟩ := hP5
  have z2 := hz 2
  have z3 := hz 3
  have hP5 : PackAt w5 m b p := ⟨nv, bv, fv, hm, hb, h0, h1, h2, h3, h4, g0, g1, g2, n0, n1, n2, hz⟩
  clear h0 h1 h4 g0 g1 g2 n0 n1 n2 hz
  go_wp2
  go_end0
  exact ⟨rfl, m, Nat.le_refl _, (hP5.setName b1).setVer b2, (FrN.of_below hb5' hmw).trans ((FrN.set _ _ _ _ _).trans (FrN.set _ _ _ _ _))⟩
end Go.Proofs.YtfphcecjhdkcoaaGreatDoor
/-
The lines that name a package, its needs and what it bars: what they come to.
-/
namespace Go.Proofs.YtfphcecjhdkcoaaGreatDoor
open Go.RowKit
set_option maxRecDepth 100000 in
set_option maxHeartbeats 1000000 in
theorem line_no0 {G : Nat} (m b : Nat) (p : Sp.Pk) (s : ByteArray) (w : World) (hG : Glob G w) (hP : PackAt w m b p) (hs : s.size < 1000000) (i : Nat) (a1 a2 : Sp.Str) (ok c1 c2 : Bool) (hA : Lib.cut (bl s) [32] = (a1, a2, ok)) (hi : ((i : Int) == 0) = c1) (hw : (a1 == [112, 97, 99, 107, 97, 103, 101]) = c2) (h : (ok && (c1 == c2)) = false) :
    Calls Tryz.prog 103 #[.pointer (some ⟨b, 0, none⟩), .int .i64 (i : Int), .string s] w fun e w' => e = .panicked [{v := .iface 177 (.agg #[]), recovered := false}] ∧ FrN m b w w' := by
  have hPw := hP
  obtain ⟨nv, bv, fv, hmw, hbm, h0, h1, h2, h3, h4, g0, g1, g2, n0, n1, n2, hz⟩ := hP
  have ha2 : a2.length < 1000000 := by
    have := W2.cut_snd (bl s) [32]
    rw [hA, bl_len] at this; simp only at this; omega
  have HA := Lib.hid hA
  clear hA
  clear hPw h0 h1 h2 h3 h4 g0 g1 g2 n0 n1 n2 hz
  go_enter Tryz.func103, Tryz.ntmps103
  go_wp2_with fail
  refine (cutS_any s _ w hG (by omega)).mono ?_
  rintro e w1 ⟨rfl, k, rfl⟩
  rw [show bl ⟨#[32]⟩ = [32] from rfl, HA.out]
  have hbk : Below w.heap.size w (w.drewN k) := below_drawn w k
  have hGk := hG.keep hbk
  have hfin : FrN m b w (w.drewN k) := FrN.of_below hbk hmw
  cases ok with
  | false =>
    go_wp2_with fail
    refine (must_false _).mono ?_
    rintro e w3 ⟨rfl, rfl⟩
    go_wp2
    exact ⟨rfl, rfl, hfin⟩
  | true =>
    have h' : (c1 == c2) = false := by rwa [Bool.true_and] at h
    clear h
    cases c1 with
    | false =>
      cases c2 with
      | false => cases h'
      | true =>
        go_wp2_with fail
        refine (must_false _).mono ?_
        rintro e w3 ⟨rfl, rfl⟩
        go_wp2
        exact ⟨rfl, rfl, hfin⟩
    | true =>
      cases c2 with
      | true => cases h'
      | false =>
        go_wp2_with fail
        refine (must_false _).mono ?_
        rintro e w3 ⟨rfl, rfl⟩
        go_wp2
        exact ⟨rfl, rfl, hfin⟩
set_option maxRecDepth 100000 in
set_option maxHeartbeats 1000000 in
theorem line_package_no1 {G : Nat} (m b : Nat) (p : Sp.Pk) (s : ByteArray) (w : World) (hG : Glob G w) (hP : PackAt w m b p) (hs : s.size < 1000000) (i : Nat) (a1 a2 : Sp.Str) (b1 b2 : Sp.Str) (hA : Lib.cut (bl s) [32] = (a1, a2, true)) (h0i : i = 0) (hw0 : (a1 == [112, 97, 99, 107, 97, 103, 101]) = true) (hB : Lib.cut a2 [32] = (b1, b2, false)) :
    Calls Tryz.prog 103 #[.pointer (some ⟨b, 0, none⟩), .int .i64 (i : Int), .string s] w fun e w' => e = .panicked [{v := .iface 177 (.agg #[]), recovered := false}] ∧ FrN m b w w' := by
  subst h0i
  have hPw := hP
  obtain ⟨nv, bv, fv, hmw, hbm, h0, h1, h2, h3, h4, g0, g1, g2, n0, n1, n2, hz⟩ := hP
  have ha2 : a2.length < 1000000 := by
    have := W2.cut_snd (bl s) [32]
    rw [hA, bl_len] at this; simp only at this; omega
  have HA := Lib.hid hA
  have HB := Lib.hid hB
  clear hA hB
  clear hPw h0 h1 h2 h3 h4 g0 g1 g2 n0 n1 n2 hz
  go_enter Tryz.func103, Tryz.ntmps103
  go_wp2_with fail
  refine (cutS_any s _ w hG (by omega)).mono ?_
  rintro e w1 ⟨rfl, k, rfl⟩
  rw [show bl ⟨#[32]⟩ = [32] from rfl, HA.out]
  have hbk : Below w.heap.size w (w.drewN k) := below_drawn w k
  have hGk := hG.keep hbk
  go_wp2_with fail
  refine (must_true _).mono ?_
  rintro e wx ⟨rfl, rfl⟩
  go_wp2_with fail
  refine (cutS_any _ _ _ hGk (by rw [← bl_len, bl_mk]; omega)).mono ?_
  rintro e wx ⟨rfl, k2, rfl⟩
  rw [show bl ⟨#[32]⟩ = [32] from rfl, bl_mk, HB.out]
  go_wp2_with fail
  refine (must_false _).mono ?_
  rintro e w3 ⟨rfl, rfl⟩
  go_wp2
  exact ⟨rfl, rfl, FrN.of_below (below_drawn w _) hmw⟩
set_option maxRecDepth 100000 in
set_option maxHeartbeats 1000000 in
theorem line_package_no2 {G : Nat} (m b : Nat) (p : Sp.Pk) (s : ByteArray) (w : World) (hG : Glob G w) (hP : PackAt w m b p) (hs : s.size < 1000000) (i : Nat) (a1 a2 : Sp.Str) (b1 b2 : Sp.Str) (hA : Lib.cut (bl s) [32] = (a1, a2, true)) (h0i : i = 0) (hw0 : (a1 == [112, 97, 99, 107, 97, 103, 101]) = true) (hB : Lib.cut a2 [32] = (b1, b2, true)) (hn : Sp.isName b1 = false) :
    Calls Tryz.prog 103 #[.pointer (some ⟨b, 0, none⟩), .int .i64 (i : Int), .string s] w fun e w' => e = .panicked [{v := .iface 177 (.agg #[]), recovered := false}] ∧ FrN m b w w' := by
  subst h0i
  have hPw := hP
  obtain ⟨nv, bv, fv, hmw, hbm, h0, h1, h2, h3, h4, g0, g1, g2, n0, n1, n2, hz⟩ := hP
  have ha2 : a2.length < 1000000 := by
    have := W2.cut_snd (bl s) [32]
    rw [hA, bl_len] at this; simp only at this; omega
  have HA := Lib.hid hA
  have HN : Hid (Sp.isName (bl ⟨b1.toArray⟩) = false) := Lib.hid (by rw [bl_mk]; exact hn)
  clear hn
  have HB := Lib.hid hB
  clear hA hB
  clear hPw h0 h1 h2 h3 h4 g0 g1 g2 n0 n1 n2 hz
  go_enter Tryz.func103, Tryz.ntmps103
  go_wp2_with fail
  refine (cutS_any s _ w hG (by omega)).mono ?_
  rintro e w1 ⟨rfl, k, rfl⟩
  rw [show bl ⟨#[32]⟩ = [32] from rfl, HA.out]
  have hbk : Below w.heap.size w (w.drewN k) := below_drawn w k
  have hGk := hG.keep hbk
  go_wp2_with fail
  refine (must_true _).mono ?_
  rintro e wx ⟨rfl, rfl⟩
  go_wp2_with fail
  refine (cutS_any _ _ _ hGk (by rw [← bl_len, bl_mk]; omega)).mono ?_
  rintro e wx ⟨rfl, k2, rfl⟩
  rw [show bl ⟨#[32]⟩ = [32] from rfl, bl_mk, HB.out]
  go_wp2_with fail
  refine (must_true _).mono ?_
  rintro e w3 ⟨rfl, rfl⟩
  go_wp2_with fail
  refine (name_no _ _ (hG.keep (below_drawn w _)) HN.out).mono ?_
  rintro e w4 ⟨rfl, hb4⟩
  go_wp2
  exact ⟨rfl, rfl, FrN.of_below ((below_drawn w _).trans (hb4.mono (below_drawn w _).size)) hmw⟩
set_option maxRecDepth 100000 in
set_option maxHeartbeats 1000000 in
theorem line_package_no3 {G : Nat} (m b : Nat) (p : Sp.Pk) (s : ByteArray) (w : World) (hG : Glob G w) (hP : PackAt w m b p) (hs : s.size < 1000000) (i : Nat) (a1 a2 : Sp.Str) (b1 b2 : Sp.Str) (hA : Lib.cut (bl s) [32] = (a1, a2, true)) (h0i : i = 0) (hw0 : (a1 == [112, 97, 99, 107, 97, 103, 101]) = true) (hB : Lib.cut a2 [32] = (b1, b2, true)) (hn : Sp.isName b1 = true) (hv : Sp.isVer b2 = false) :
    Calls Tryz.prog 103 #[.pointer (some ⟨b, 0, none⟩), .int .i64 (i : Int), .string s] w fun e w' => e = .panicked [{v := .iface 177 (.agg #[]), recovered := false}] ∧ FrN m b w w' := by
  subst h0i
  have hPw := hP
  obtain ⟨nv, bv, fv, hmw, hbm, h0, h1, h2, h3, h4, g0, g1, g2, n0, n1, n2, hz⟩ := hP
  have ha2 : a2.length < 1000000 := by
    have := W2.cut_snd (bl s) [32]
    rw [hA, bl_len] at this; simp only at this; omega
  have HA := Lib.hid hA
  have HN : Hid (Sp.isName (bl ⟨b1.toArray⟩) = true) := Lib.hid (by rw [bl_mk]; exact hn)
  clear hn
  have HV : Hid (Sp.isVer (bl ⟨b2.toArray⟩) = false) := Lib.hid (by rw [bl_mk]; exact hv)
  clear hv
  have HB := Lib.hid hB
  clear hA hB
  clear hPw h0 h1 h2 h3 h4 g0 g1 g2 n0 n1 n2 hz
  go_enter Tryz.func103, Tryz.ntmps103
  go_wp2_with fail
  refine (cutS_any s _ w hG (by omega)).mono ?_
  rintro e w1 ⟨rfl, k, rfl⟩
  rw [show bl ⟨#[32]⟩ = [32] from rfl, HA.out]
  have hbk : Below w.heap.size w (w.drewN k) := below_drawn w k
  have hGk := hG.keep hbk
  go_wp2_with fail
  refine (must_true _).mono ?_
  rintro e wx ⟨rfl, rfl⟩
  go_wp2_with fail
  refine (cutS_any _ _ _ hGk (by rw [← bl_len, bl_mk]; omega)).mono ?_
  rintro e wx ⟨rfl, k2, rfl⟩
  rw [show bl ⟨#[32]⟩ = [32] from rfl, bl_mk, HB.out]
  go_wp2_with fail
  refine (must_true _).mono ?_
  rintro e w3 ⟨rfl, rfl⟩
  go_wp2_with fail
  refine (name_yes _ _ (hG.keep (below_drawn w _)) HN.out).mono ?_
  rintro e w4 ⟨rfl, hb4⟩
  have hb4' := (below_drawn w (k + k2)).trans (hb4.mono (below_drawn w _).size)
  go_wp2_with fail
  refine (ver_no _ _ HV.out).mono ?_
  rintro e w5 ⟨rfl, hb5⟩
  go_wp2
  exact ⟨rfl, rfl, FrN.of_below (hb4'.trans (hb5.mono hb4'.size)) hmw⟩
set_option maxRecDepth 100000 in
set_option maxHeartbeats 1000000 in
theorem line_other {G : Nat} (m b : Nat) (p : Sp.Pk) (s : ByteArray) (w : World) (hG : Glob G w) (hP : PackAt w m b p) (hs : s.size < 1000000) (i : Nat) (a1 a2 : Sp.Str) (hA : Lib.cut (bl s) [32] = (a1, a2, true)) (hi : ((i : Int) == 0) = false) (hw0 : (a1 == [112, 97, 99, 107, 97, 103, 101]) = false) (hw1 : (a1 == [110, 101, 101, 100, 115]) = false) (hw2 : (a1 == [98, 97, 114, 115]) = false) (hw3 : (a1 == [102, 105, 108, 101]) = false) :
    Calls Tryz.prog 103 #[.pointer (some ⟨b, 0, none⟩), .int .i64 (i : Int), .string s] w fun e w' => e = .panicked [{v := .iface 177 (.agg #[]), recovered := false}] ∧ FrN m b w w' := by
  have hPw := hP
  obtain ⟨nv, bv, fv, hmw, hbm, h0, h1, h2, h3, h4, g0, g1, g2, n0, n1, n2, hz⟩ := hP
  have ha2 : a2.length < 1000000 := by
    have := W2.cut_snd (bl s) [32]
    rw [hA, bl_len] at this; simp only at this; omega
  have HA := Lib.hid hA
  clear hA
  clear hPw h0 h1 h2 h3 h4 g0 g1 g2 n0 n1 n2 hz
  go_enter Tryz.func103, Tryz.ntmps103
  go_wp2_with fail
  refine (cutS_any s _ w hG (by omega)).mono ?_
  rintro e w1 ⟨rfl, k, rfl⟩
  rw [show bl ⟨#[32]⟩ = [32] from rfl, HA.out]
  have hbk : Below w.heap.size w (w.drewN k) := below_drawn w k
  have hGk := hG.keep hbk
  go_wp2_with fail
  refine (must_true _).mono ?_
  rintro e wx ⟨rfl, rfl⟩
  go_wp2
  exact ⟨rfl, rfl, FrN.of_below hbk hmw⟩
end Go.Proofs.YtfphcecjhdkcoaaGreatDoor
/-
The lines that name a package's needs and what it bars.
-/
namespace Go.Proofs.YtfphcecjhdkcoaaGreatDoor
open Go.RowKit
set_option maxRecDepth 100000 in
set_option maxHeartbeats 1000000 in
theorem line_needs_no1 {G : Nat} (m b : Nat) (p : Sp.Pk) (s : ByteArray) (w : World) (hG : Glob G w) (hP : PackAt w m b p) (hs : s.size < 1000000) (i : Nat) (a1 a2 : Sp.Str) (hA : Lib.cut (bl s) [32] = (a1, a2, true)) (hi : ((i : Int) == 0) = false) (hw0 : (a1 == [112, 97, 99, 107, 97, 103, 101]) = false) (hw1 : (a1 == [110, 101, 101, 100, 115]) = true) (hne : p.needs ≠ []) :
    Calls Tryz.prog 103 #[.pointer (some ⟨b, 0, none⟩), .int .i64 (i : Int), .string s] w fun e w' => e = .panicked [{v := .iface 177 (.agg #[]), recovered := false}] ∧ FrN m b w w' := by
  have hPw := hP
  obtain ⟨nv, bv, fv, hmw, hbm, h0, h1, h2, h3, h4, g0, g1, g2, n0, n1, n2, hz⟩ := hP
  have ha2 : a2.length < 1000000 := by
    have := W2.cut_snd (bl s) [32]
    rw [hA, bl_len] at this; simp only at this; omega
  have HA := Lib.hid hA
  have q169 : ∀ (a : Option Addr) (n c n' c' : Nat) (W : World), (binOp .eql 169 (.slice a n c) (.slice none n' c')).run Tryz.prog W = .ok (.bool a.isNone) W := fun a n c n' c' W => Lib.run_eql_slice_nil W _ _ a n c n' c' Tryz.underlying169
  have q170 : ∀ (a : Option Addr) (n c n' c' : Nat) (W : World), (binOp .eql 170 (.slice a n c) (.slice none n' c')).run Tryz.prog W = .ok (.bool a.isNone) W := fun a n c n' c' W => Lib.run_eql_slice_nil W _ _ a n c n' c' Tryz.underlying170
  have q173 : ∀ (a : Option Addr) (n c n' c' : Nat) (W : World), (binOp .eql 173 (.slice a n c) (.slice none n' c')).run Tryz.prog W = .ok (.bool a.isNone) W := fun a n c n' c' W => Lib.run_eql_slice_nil W _ _ a n c n' c' Tryz.underlying173
  obtain ⟨vs, hvs, hgr⟩ := g0
  obtain ⟨nb, no, nc, rfl⟩ := slice_some hvs (by rw [ne_eq, List.map_eq_nil_iff]; intro e; rw [e] at hgr; exact hne (List.length_eq_zero_iff.1 hgr.1.symm))
  clear hA hPw h2 h3 g1 g2 n0 n1 n2 hz
  go_enter Tryz.func103, Tryz.ntmps103
  go_wp2_with fail
  refine (cutS_any s _ w hG (by omega)).mono ?_
  rintro e w1 ⟨rfl, k, rfl⟩
  rw [show bl ⟨#[32]⟩ = [32] from rfl, HA.out]
  have hbk : Below w.heap.size w (w.drewN k) := below_drawn w k
  have hGk := hG.keep hbk
  have h0' := ((bcell hbk).1 b 0 (by omega)).trans h0
  have h1' := ((bcell hbk).1 b 1 (by omega)).trans h1
  have h4' := ((bcell hbk).1 b 4 (by omega)).trans h4
  go_wp2_with fail
  refine (must_true _).mono ?_
  rintro e wx ⟨rfl, rfl⟩
  go_wp2_with fail
  refine (must_false _).mono ?_
  rintro e w3 ⟨rfl, rfl⟩
  go_wp2
  exact ⟨rfl, rfl, FrN.of_below hbk hmw⟩
set_option maxRecDepth 100000 in
set_option maxHeartbeats 1000000 in
theorem line_needs_no2 {G : Nat} (m b : Nat) (p : Sp.Pk) (s : ByteArray) (w : World) (hG : Glob G w) (hP : PackAt w m b p) (hs : s.size < 1000000) (i : Nat) (a1 a2 : Sp.Str) (hA : Lib.cut (bl s) [32] = (a1, a2, true)) (hi : ((i : Int) == 0) = false) (hw0 : (a1 == [112, 97, 99, 107, 97, 103, 101]) = false) (hw1 : (a1 == [110, 101, 101, 100, 115]) = true) (hne : p.needs = []) (hbe : p.bars ≠ []) :
    Calls Tryz.prog 103 #[.pointer (some ⟨b, 0, none⟩), .int .i64 (i : Int), .string s] w fun e w' => e = .panicked [{v := .iface 177 (.agg #[]), recovered := false}] ∧ FrN m b w w' := by
  have hPw := hP
  obtain ⟨nv, bv, fv, hmw, hbm, h0, h1, h2, h3, h4, g0, g1, g2, n0, n1, n2, hz⟩ := hP
  have ha2 : a2.length < 1000000 := by
    have := W2.cut_snd (bl s) [32]
    rw [hA, bl_len] at this; simp only at this; omega
  have HA := Lib.hid hA
  have q169 : ∀ (a : Option Addr) (n c n' c' : Nat) (W : World), (binOp .eql 169 (.slice a n c) (.slice none n' c')).run Tryz.prog W = .ok (.bool a.isNone) W := fun a n c n' c' W => Lib.run_eql_slice_nil W _ _ a n c n' c' Tryz.underlying169
  have q170 : ∀ (a : Option Addr) (n c n' c' : Nat) (W : World), (binOp .eql 170 (.slice a n c) (.slice none n' c')).run Tryz.prog W = .ok (.bool a.isNone) W := fun a n c n' c' W => Lib.run_eql_slice_nil W _ _ a n c n' c' Tryz.underlying170
  have q173 : ∀ (a : Option Addr) (n c n' c' : Nat) (W : World), (binOp .eql 173 (.slice a n c) (.slice none n' c')).run Tryz.prog W = .ok (.bool a.isNone) W := fun a n c n' c' W => Lib.run_eql_slice_nil W _ _ a n c n' c' Tryz.underlying173
  obtain rfl := n0 hne
  obtain ⟨bb, bo, bc, rfl⟩ := slice_some g1 (by rw [ne_eq, List.map_eq_nil_iff]; exact hbe)
  clear hA hPw h2 h3 g1 g2 n0 n1 n2 hz
  go_enter Tryz.func103, Tryz.ntmps103
  go_wp2_with fail
  refine (cutS_any s _ w hG (by omega)).mono ?_
  rintro e w1 ⟨rfl, k, rfl⟩
  rw [show bl ⟨#[32]⟩ = [32] from rfl, HA.out]
  have hbk : Below w.heap.size w (w.drewN k) := below_drawn w k
  have hGk := hG.keep hbk
  have h0' := ((bcell hbk).1 b 0 (by omega)).trans h0
  have h1' := ((bcell hbk).1 b 1 (by omega)).trans h1
  have h4' := ((bcell hbk).1 b 4 (by omega)).trans h4
  go_wp2_with fail
  refine (must_true _).mono ?_
  rintro e wx ⟨rfl, rfl⟩
  go_wp2_with fail
  refine (must_false _).mono ?_
  rintro e w3 ⟨rfl, rfl⟩
  go_wp2
  exact ⟨rfl, rfl, FrN.of_below hbk hmw⟩
set_option maxRecDepth 100000 in
set_option maxHeartbeats 1000000 in
theorem line_needs_no3 {G : Nat} (m b : Nat) (p : Sp.Pk) (s : ByteArray) (w : World) (hG : Glob G w) (hP : PackAt w m b p) (hs : s.size < 1000000) (i : Nat) (a1 a2 : Sp.Str) (hA : Lib.cut (bl s) [32] = (a1, a2, true)) (hi : ((i : Int) == 0) = false) (hw0 : (a1 == [112, 97, 99, 107, 97, 103, 101]) = false) (hw1 : (a1 == [110, 101, 101, 100, 115]) = true) (hne : p.needs = []) (hbe : p.bars = []) (hfe : p.files ≠ []) :
    Calls Tryz.prog 103 #[.pointer (some ⟨b, 0, none⟩), .int .i64 (i : Int), .string s] w fun e w' => e = .panicked [{v := .iface 177 (.agg #[]), recovered := false}] ∧ FrN m b w w' := by
  have hPw := hP
  obtain ⟨nv, bv, fv, hmw, hbm, h0, h1, h2, h3, h4, g0, g1, g2, n0, n1, n2, hz⟩ := hP
  have ha2 : a2.length < 1000000 := by
    have := W2.cut_snd (bl s) [32]
    rw [hA, bl_len] at this; simp only at this; omega
  have HA := Lib.hid hA
  have q169 : ∀ (a : Option Addr) (n c n' c' : Nat) (W : World), (binOp .eql 169 (.slice a n c) (.slice none n' c')).run Tryz.prog W = .ok (.bool a.isNone) W := fun a n c n' c' W => Lib.run_eql_slice_nil W _ _ a n c n' c' Tryz.underlying169
  have q170 : ∀ (a : Option Addr) (n c n' c' : Nat) (W : World), (binOp .eql 170 (.slice a n c) (.slice none n' c')).run Tryz.prog W = .ok (.bool a.isNone) W := fun a n c n' c' W => Lib.run_eql_slice_nil W _ _ a n c n' c' Tryz.underlying170
  have q173 : ∀ (a : Option Addr) (n c n' c' : Nat) (W : World), (binOp .eql 173 (.slice a n c) (.slice none n' c')).run Tryz.prog W = .ok (.bool a.isNone) W := fun a n c n' c' W => Lib.run_eql_slice_nil W _ _ a n c n' c' Tryz.underlying173
  obtain rfl := n0 hne
  obtain rfl := n1 hbe
  obtain ⟨fb, fc, rfl⟩ := row_some g2 hfe
  clear hA hPw h2 h3 g1 g2 n0 n1 n2 hz
  go_enter Tryz.func103, Tryz.ntmps103
  go_wp2_with fail
  refine (cutS_any s _ w hG (by omega)).mono ?_
  rintro e w1 ⟨rfl, k, rfl⟩
  rw [show bl ⟨#[32]⟩ = [32] from rfl, HA.out]
  have hbk : Below w.heap.size w (w.drewN k) := below_drawn w k
  have hGk := hG.keep hbk
  have h0' := ((bcell hbk).1 b 0 (by omega)).trans h0
  have h1' := ((bcell hbk).1 b 1 (by omega)).trans h1
  have h4' := ((bcell hbk).1 b 4 (by omega)).trans h4
  go_wp2_with fail
  refine (must_true _).mono ?_
  rintro e wx ⟨rfl, rfl⟩
  go_wp2_with fail
  refine (must_false _).mono ?_
  rintro e w3 ⟨rfl, rfl⟩
  go_wp2
  exact ⟨rfl, rfl, FrN.of_below hbk hmw⟩
set_option maxRecDepth 100000 in
set_option maxHeartbeats 1000000 in
theorem line_needs_no4 {G : Nat} (m b : Nat) (p : Sp.Pk) (s : ByteArray) (w : World) (hG : Glob G w) (hP : PackAt w m b p) (hs : s.size < 1000000) (i : Nat) (a1 a2 : Sp.Str) (hA : Lib.cut (bl s) [32] = (a1, a2, true)) (hi : ((i : Int) == 0) = false) (hw0 : (a1 == [112, 97, 99, 107, 97, 103, 101]) = false) (hw1 : (a1 == [110, 101, 101, 100, 115]) = true) (hne : p.needs = []) (hbe : p.bars = []) (hfe : p.files = []) (hE : Sp.each a2 [44, 32] 3 groupO = none) :
    Calls Tryz.prog 103 #[.pointer (some ⟨b, 0, none⟩), .int .i64 (i : Int), .string s] w fun e w' => e = .panicked [{v := .iface 177 (.agg #[]), recovered := false}] ∧ FrN m b w w' := by
  have hPw := hP
  obtain ⟨nv, bv, fv, hmw, hbm, h0, h1, h2, h3, h4, g0, g1, g2, n0, n1, n2, hz⟩ := hP
  have ha2 : a2.length < 1000000 := by
    have := W2.cut_snd (bl s) [32]
    rw [hA, bl_len] at this; simp only at this; omega
  have HA := Lib.hid hA
  have q169 : ∀ (a : Option Addr) (n c n' c' : Nat) (W : World), (binOp .eql 169 (.slice a n c) (.slice none n' c')).run Tryz.prog W = .ok (.bool a.isNone) W := fun a n c n' c' W => Lib.run_eql_slice_nil W _ _ a n c n' c' Tryz.underlying169
  have q170 : ∀ (a : Option Addr) (n c n' c' : Nat) (W : World), (binOp .eql 170 (.slice a n c) (.slice none n' c')).run Tryz.prog W = .ok (.bool a.isNone) W := fun a n c n' c' W => Lib.run_eql_slice_nil W _ _ a n c n' c' Tryz.underlying170
  have q173 : ∀ (a : Option Addr) (n c n' c' : Nat) (W : World), (binOp .eql 173 (.slice a n c) (.slice none n' c')).run Tryz.prog W = .ok (.bool a.isNone) W := fun a n c n' c' W => Lib.run_eql_slice_nil W _ _ a n c n' c' Tryz.underlying173
  obtain rfl := n0 hne
  obtain rfl := n1 hbe
  obtain rfl := n2 hfe
  have HE := Lib.hid hE
  clear hA hE hPw h2 h3 g1 g2 n0 n1 n2 hz
  go_enter Tryz.func103, Tryz.ntmps103
  go_wp2_with fail
  refine (cutS_any s _ w hG (by omega)).mono ?_
  rintro e w1 ⟨rfl, k, rfl⟩
  rw [show bl ⟨#[32]⟩ = [32] from rfl, HA.out]
  have hbk : Below w.heap.size w (w.drewN k) := below_drawn w k
  have hGk := hG.keep hbk
  go_wp2_with fail
  refine (must_true _).mono ?_
  rintro e wx ⟨rfl, rfl⟩
  go_wp2_with fail
  refine (must_true _).mono ?_
  rintro e wx ⟨rfl, rfl⟩
  go_wp2_with fail
  refine (eachG_any _ _ 3 _ hGk (by rw [← bl_len, bl_mk]; omega) (by decide)).mono ?_
  rintro e w5 ⟨hb5, hE5⟩
  rw [show bl ⟨#[44, 32]⟩ = [44, 32] from rfl, bl_mk] at hE5
  rcases hE5 with ⟨l, a, cap, hE, rfl, hgs⟩ | ⟨hE, rfl⟩
  · rw [HE.out] at hE; cases hE
  · go_wp2
    exact ⟨rfl, rfl, FrN.of_below (hbk.trans (hb5.mono hbk.size)) hmw⟩
set_option maxRecDepth 100000 in
set_option maxHeartbeats 1000000 in
theorem line_needs_yes {G : Nat} (m b : Nat) (p : Sp.Pk) (s : ByteArray) (w : World) (hG : Glob G w) (hP : PackAt w m b p) (hs : s.size < 1000000) (i : Nat) (a1 a2 : Sp.Str) (hA : Lib.cut (bl s) [32] = (a1, a2, true)) (hi : ((i : Int) == 0) = false) (hw0 : (a1 == [112, 97, 99, 107, 97, 103, 101]) = false) (hw1 : (a1 == [110, 101, 101, 100, 115]) = true) (hne : p.needs = []) (hbe : p.bars = []) (hfe : p.files = []) (gs : List (List Sp.Ch)) (hE : Sp.each a2 [44, 32] 3 groupO = some gs) :
    Calls Tryz.prog 103 #[.pointer (some ⟨b, 0, none⟩), .int .i64 (i : Int), .string s] w fun e w' => e = .returned (.tuple #[]) ∧ ∃ m', m ≤ m' ∧ PackAt w' m' b { p with needs := gs } ∧ FrN m b w w' := by
  have hPw := hP
  obtain ⟨nv, bv, fv, hmw, hbm, h0, h1, h2, h3, h4, g0, g1, g2, n0, n1, n2, hz⟩ := hP
  have ha2 : a2.length < 1000000 := by
    have := W2.cut_snd (bl s) [32]
    rw [hA, bl_len] at this; simp only at this; omega
  have HA := Lib.hid hA
  have q169 : ∀ (a : Option Addr) (n c n' c' : Nat) (W : World), (binOp .eql 169 (.slice a n c) (.slice none n' c')).run Tryz.prog W = .ok (.bool a.isNone) W := fun a n c n' c' W => Lib.run_eql_slice_nil W _ _ a n c n' c' Tryz.underlying169
  have q170 : ∀ (a : Option Addr) (n c n' c' : Nat) (W : World), (binOp .eql 170 (.slice a n c) (.slice none n' c')).run Tryz.prog W = .ok (.bool a.isNone) W := fun a n c n' c' W => Lib.run_eql_slice_nil W _ _ a n c n' c' Tryz.underlying170
  have q173 : ∀ (a : Option Addr) (n c n' c' : Nat) (W : World), (binOp .eql 173 (.slice a n c) (.slice none n' c')).run Tryz.prog W = .ok (.bool a.isNone) W := fun a n c n' c' W => Lib.run_eql_slice_nil W _ _ a n c n' c' Tryz.underlying173
  obtain rfl := n0 hne
  obtain rfl := n1 hbe
  obtain rfl := n2 hfe
  have HE := Lib.hid hE
  have HP := Lib.hid hPw
  have HF := Lib.hid hfe
  clear hA hE hPw hfe h2 h3 g1 g2 n0 n1 n2
  go_enter Tryz.func103, Tryz.ntmps103
  go_wp2_with fail
  refine (cutS_any s _ w hG (by omega)).mono ?_
  rintro e w1 ⟨rfl, k, rfl⟩
  rw [show bl ⟨#[32]⟩ = [32] from rfl, HA.out]
  have hbk : Below w.heap.size w (w.drewN k) := below_drawn w k
  have hGk := hG.keep hbk
  go_wp2_with fail
  refine (must_true _).mono ?_
  rintro e wx ⟨rfl, rfl⟩
  go_wp2_with fail
  refine (must_true _).mono ?_
  rintro e wx ⟨rfl, rfl⟩
  go_wp2_with fail
  refine (eachG_any _ _ 3 _ hGk (by rw [← bl_len, bl_mk]; omega) (by decide)).mono ?_
  rintro e w5 ⟨hb5, hE5⟩
  rw [show bl ⟨#[44, 32]⟩ = [44, 32] from rfl, bl_mk] at hE5
  rcases hE5 with ⟨l, a, cap, hE, rfl, hgs⟩ | ⟨hE, rfl⟩
  · rw [HE.out] at hE
    cases hE
    have hb5' := hbk.trans (hb5.mono hbk.size)
    have hP5 := HP.out.below hb5'
    have hl := each_ne (by simp) HE.out
    have hgs' := hgs.mono (S' := fun x => x < w5.heap.size ∧ b + 1 < x) (fun x hx => ⟨hx.1, by have := hx.2; have := hbk.size; omega⟩)
    have z0 := ((bcell hb5').2 b 0 (by omega)).trans (hz 0)
    have c0 := ((bcell hb5').1 b 0 (by omega)).trans h0
    have HG := Lib.hid hgs'
    have HP5 := Lib.hid hP5
    have hsz := hb5'.size
    clear hgs hgs' hP5 hz
    go_wp2
    go_end0
    exact ⟨rfl, w5.heap.size, by omega, HP5.out.setNeeds HF.out HG.out (fun e => absurd e hl), (FrN.of_below hb5' hmw).trans (FrN.set _ _ _ _ _)⟩
  · rw [HE.out] at hE; cases hE
set_option maxRecDepth 100000 in
set_option maxHeartbeats 1000000 in
theorem line_bars_no1 {G : Nat} (m b : Nat) (p : Sp.Pk) (s : ByteArray) (w : World) (hG : Glob G w) (hP : PackAt w m b p) (hs : s.size < 1000000) (i : Nat) (a1 a2 : Sp.Str) (hA : Lib.cut (bl s) [32] = (a1, a2, true)) (hi : ((i : Int) == 0) = false) (hw0 : (a1 == [112, 97, 99, 107, 97, 103, 101]) = false) (hw1 : (a1 == [110, 101, 101, 100, 115]) = false) (hw2 : (a1 == [98, 97, 114, 115]) = true) (hbe : p.bars ≠ []) :
    Calls Tryz.prog 103 #[.pointer (some ⟨b, 0, none⟩), .int .i64 (i : Int), .string s] w fun e w' => e = .panicked [{v := .iface 177 (.agg #[]), recovered := false}] ∧ FrN m b w w' := by
  have hPw := hP
  obtain ⟨nv, bv, fv, hmw, hbm, h0, h1, h2, h3, h4, g0, g1, g2, n0, n1, n2, hz⟩ := hP
  have ha2 : a2.length < 1000000 := by
    have := W2.cut_snd (bl s) [32]
    rw [hA, bl_len] at this; simp only at this; omega
  have HA := Lib.hid hA
  have q169 : ∀ (a : Option Addr) (n c n' c' : Nat) (W : World), (binOp .eql 169 (.slice a n c) (.slice none n' c')).run Tryz.prog W = .ok (.bool a.isNone) W := fun a n c n' c' W => Lib.run_eql_slice_nil W _ _ a n c n' c' Tryz.underlying169
  have q170 : ∀ (a : Option Addr) (n c n' c' : Nat) (W : World), (binOp .eql 170 (.slice a n c) (.slice none n' c')).run Tryz.prog W = .ok (.bool a.isNone) W := fun a n c n' c' W => Lib.run_eql_slice_nil W _ _ a n c n' c' Tryz.underlying170
  have q173 : ∀ (a : Option Addr) (n c n' c' : Nat) (W : World), (binOp .eql 173 (.slice a n c) (.slice none n' c')).run Tryz.prog W = .ok (.bool a.isNone) W := fun a n c n' c' W => Lib.run_eql_slice_nil W _ _ a n c n' c' Tryz.underlying173
  obtain ⟨bb, bo, bc, rfl⟩ := slice_some g1 (by rw [ne_eq, List.map_eq_nil_iff]; exact hbe)
  clear hA hPw h2 h3 g0 g1 g2 n0 n1 n2 hz
  go_enter Tryz.func103, Tryz.ntmps103
  go_wp2_with fail
  refine (cutS_any s _ w hG (by omega)).mono ?_
  rintro e w1 ⟨rfl, k, rfl⟩
  rw [show bl ⟨#[32]⟩ = [32] from rfl, HA.out]
  have hbk : Below w.heap.size w (w.drewN k) := below_drawn w k
  have hGk := hG.keep hbk
  have h1' := ((bcell hbk).1 b 1 (by omega)).trans h1
  have h4' := ((bcell hbk).1 b 4 (by omega)).trans h4
  go_wp2_with fail
  refine (must_true _).mono ?_
  rintro e wx ⟨rfl, rfl⟩
  go_wp2_with fail
  refine (must_false _).mono ?_
  rintro e w3 ⟨rfl, rfl⟩
  go_wp2
  exact ⟨rfl, rfl, FrN.of_below hbk hmw⟩
set_option maxRecDepth 100000 in
set_option maxHeartbeats 1000000 in
theorem line_bars_no2 {G : Nat} (m b : Nat) (p : Sp.Pk) (s : ByteArray) (w : World) (hG : Glob G w) (hP : PackAt w m b p) (hs : s.size < 1000000) (i : Nat) (a1 a2 : Sp.Str) (hA : Lib.cut (bl s) [32] = (a1, a2, true)) (hi : ((i : Int) == 0) = false) (hw0 : (a1 == [112, 97, 99, 107, 97, 103, 101]) = false) (hw1 : (a1 == [110, 101, 101, 100, 115]) = false) (hw2 : (a1 == [98, 97, 114, 115]) = true) (hbe : p.bars = []) (hfe : p.files ≠ []) :
    Calls Tryz.prog 103 #[.pointer (some ⟨b, 0, none⟩), .int .i64 (i : Int), .string s] w fun e w' => e = .panicked [{v := .iface 177 (.agg #[]), recovered := false}] ∧ FrN m b w w' := by
  have hPw := hP
  obtain ⟨nv, bv, fv, hmw, hbm, h0, h1, h2, h3, h4, g0, g1, g2, n0, n1, n2, hz⟩ := hP
  have ha2 : a2.length < 1000000 := by
    have := W2.cut_snd (bl s) [32]
    rw [hA, bl_len] at this; simp only at this; omega
  have HA := Lib.hid hA
  have q169 : ∀ (a : Option Addr) (n c n' c' : Nat) (W : World), (binOp .eql 169 (.slice a n c) (.slice none n' c')).run Tryz.prog W = .ok (.bool a.isNone) W := fun a n c n' c' W => Lib.run_eql_slice_nil W _ _ a n c n' c' Tryz.underlying169
  have q170 : ∀ (a : Option Addr) (n c n' c' : Nat) (W : World), (binOp .eql 170 (.slice a n c) (.slice none n' c')).run Tryz.prog W = .ok (.bool a.isNone) W := fun a n c n' c' W => Lib.run_eql_slice_nil W _ _ a n c n' c' Tryz.underlying170
  have q173 : ∀ (a : Option Addr) (n c n' c' : Nat) (W : World), (binOp .eql 173 (.slice a n c) (.slice none n' c')).run Tryz.prog W = .ok (.bool a.isNone) W := fun a n c n' c' W => Lib.run_eql_slice_nil W _ _ a n c n' c' Tryz.underlying173
  obtain rfl := n1 hbe
  obtain ⟨fb, fc, rfl⟩ := row_some g2 hfe
  clear hA hPw h2 h3 g0 g1 g2 n0 n1 n2 hz
  go_enter Tryz.func103, Tryz.ntmps103
  go_wp2_with fail
  refine (cutS_any s _ w hG (by omega)).mono ?_
  rintro e w1 ⟨rfl, k, rfl⟩
  rw [show bl ⟨#[32]⟩ = [32] from rfl, HA.out]
  have hbk : Below w.heap.size w (w.drewN k) := below_drawn w k
  have hGk := hG.keep hbk
  have h1' := ((bcell hbk).1 b 1 (by omega)).trans h1
  have h4' := ((bcell hbk).1 b 4 (by omega)).trans h4
  go_wp2_with fail
  refine (must_true _).mono ?_
  rintro e wx ⟨rfl, rfl⟩
  go_wp2_with fail
  refine (must_false _).mono ?_
  rintro e w3 ⟨rfl, rfl⟩
  go_wp2
  exact ⟨rfl, rfl, FrN.of_below hbk hmw⟩
set_option maxRecDepth 100000 in
set_option maxHeartbeats 1000000 in
theorem line_bars_no3 {G : Nat} (m b : Nat) (p : Sp.Pk) (s : ByteArray) (w : World) (hG : Glob G w) (hP : PackAt w m b p) (hs : s.size < 1000000) (i : Nat) (a1 a2 : Sp.Str) (hA : Lib.cut (bl s) [32] = (a1, a2, true)) (hi : ((i : Int) == 0) = false) (hw0 : (a1 == [112, 97, 99, 107, 97, 103, 101]) = false) (hw1 : (a1 == [110, 101, 101, 100, 115]) = false) (hw2 : (a1 == [98, 97, 114, 115]) = true) (hbe : p.bars = []) (hfe : p.files = []) (hE : Sp.each a2 [44, 32] 3 Sp.choose = none) :
    Calls Tryz.prog 103 #[.pointer (some ⟨b, 0, none⟩), .int .i64 (i : Int), .string s] w fun e w' => e = .panicked [{v := .iface 177 (.agg #[]), recovered := false}] ∧ FrN m b w w' := by
  have hPw := hP
  obtain ⟨nv, bv, fv, hmw, hbm, h0, h1, h2, h3, h4, g0, g1, g2, n0, n1, n2, hz⟩ := hP
  have ha2 : a2.length < 1000000 := by
    have := W2.cut_snd (bl s) [32]
    rw [hA, bl_len] at this; simp only at this; omega
  have HA := Lib.hid hA
  have q169 : ∀ (a : Option Addr) (n c n' c' : Nat) (W : World), (binOp .eql 169 (.slice a n c) (.slice none n' c')).run Tryz.prog W = .ok (.bool a.isNone) W := fun a n c n' c' W => Lib.run_eql_slice_nil W _ _ a n c n' c' Tryz.underlying169
  have q170 : ∀ (a : Option Addr) (n c n' c' : Nat) (W : World), (binOp .eql 170 (.slice a n c) (.slice none n' c')).run Tryz.prog W = .ok (.bool a.isNone) W := fun a n c n' c' W => Lib.run_eql_slice_nil W _ _ a n c n' c' Tryz.underlying170
  have q173 : ∀ (a : Option Addr) (n c n' c' : Nat) (W : World), (binOp .eql 173 (.slice a n c) (.slice none n' c')).run Tryz.prog W = .ok (.bool a.isNone) W := fun a n c n' c' W => Lib.run_eql_slice_nil W _ _ a n c n' c' Tryz.underlying173
  obtain rfl := n1 hbe
  obtain rfl := n2 hfe
  have HE := Lib.hid hE
  clear hA hE hPw h2 h3 g0 g1 g2 n0 n1 n2 hz
  go_enter Tryz.func103, Tryz.ntmps103
  go_wp2_with fail
  refine (cutS_any s _ w hG (by omega)).mono ?_
  rintro e w1 ⟨rfl, k, rfl⟩
  rw [show bl ⟨#[32]⟩ = [32] from rfl, HA.out]
  have hbk : Below w.heap.size w (w.drewN k) := below_drawn w k
  have hGk := hG.keep hbk
  go_wp2_with fail
  refine (must_true _).mono ?_
  rintro e wx ⟨rfl, rfl⟩
  go_wp2_with fail
  refine (must_true _).mono ?_
  rintro e wx ⟨rfl, rfl⟩
  go_wp2_with fail
  refine (eachC_any _ _ 3 _ hGk (by rw [← bl_len, bl_mk]; omega) (by decide)).mono ?_
  rintro e w5 ⟨hb5, hE5⟩
  rw [show bl ⟨#[44, 32]⟩ = [44, 32] from rfl, bl_mk] at hE5
  rcases hE5 with ⟨l, v, hE, rfl, hgs⟩ | ⟨hE, rfl⟩
  · rw [HE.out] at hE; cases hE
  · go_wp2
    exact ⟨rfl, rfl, FrN.of_below (hbk.trans (hb5.mono hbk.size)) hmw⟩
set_option maxRecDepth 100000 in
set_option maxHeartbeats 1000000 in
theorem line_bars_yes {G : Nat} (m b : Nat) (p : Sp.Pk) (s : ByteArray) (w : World) (hG : Glob G w) (hP : PackAt w m b p) (hs : s.size < 1000000) (i : Nat) (a1 a2 : Sp.Str) (hA : Lib.cut (bl s) [32] = (a1, a2, true)) (hi : ((i : Int) == 0) = false) (hw0 : (a1 == [112, 97, 99, 107, 97, 103, 101]) = false) (hw1 : (a1 == [110, 101, 101, 100, 115]) = false) (hw2 : (a1 == [98, 97, 114, 115]) = true) (hbe : p.bars = []) (hfe : p.files = []) (cs : List Sp.Ch) (hE : Sp.each a2 [44, 32] 3 Sp.choose = some cs) :
    Calls Tryz.prog 103 #[.pointer (some ⟨b, 0, none⟩), .int .i64 (i : Int), .string s] w fun e w' => e = .returned (.tuple #[]) ∧ ∃ m', m ≤ m' ∧ PackAt w' m' b { p with bars := cs } ∧ FrN m b w w' := by
  have hPw := hP
  obtain ⟨nv, bv, fv, hmw, hbm, h0, h1, h2, h3, h4, g0, g1, g2, n0, n1, n2, hz⟩ := hP
  have ha2 : a2.length < 1000000 := by
    have := W2.cut_snd (bl s) [32]
    rw [hA, bl_len] at this; simp only at this; omega
  have HA := Lib.hid hA
  have q169 : ∀ (a : Option Addr) (n c n' c' : Nat) (W : World), (binOp .eql 169 (.slice a n c) (.slice none n' c')).run Tryz.prog W = .ok (.bool a.isNone) W := fun a n c n' c' W => Lib.run_eql_slice_nil W _ _ a n c n' c' Tryz.underlying169
  have q170 : ∀ (a : Option Addr) (n c n' c' : Nat) (W : World), (binOp .eql 170 (.slice a n c) (.slice none n' c')).run Tryz.prog W = .ok (.bool a.isNone) W := fun a n c n' c' W => Lib.run_eql_slice_nil W _ _ a n c n' c' Tryz.underlying170
  have q173 : ∀ (a : Option Addr) (n c n' c' : Nat) (W : World), (binOp .eql 173 (.slice a n c) (.slice none n' c')).run Tryz.prog W = .ok (.bool a.isNone) W := fun a n c n' c' W => Lib.run_eql_slice_nil W _ _ a n c n' c' Tryz.underlying173
  obtain rfl := n1 hbe
  obtain rfl := n2 hfe
  have HE := Lib.hid hE
  have HP := Lib.hid hPw
  have HF := Lib.hid hfe
  clear hA hE hPw hfe h2 h3 g0 g1 g2 n0 n1 n2
  go_enter Tryz.func103, Tryz.ntmps103
  go_wp2_with fail
  refine (cutS_any s _ w hG (by omega)).mono ?_
  rintro e w1 ⟨rfl, k, rfl⟩
  rw [show bl ⟨#[32]⟩ = [32] from rfl, HA.out]
  have hbk : Below w.heap.size w (w.drewN k) := below_drawn w k
  have hGk := hG.keep hbk
  go_wp2_with fail
  refine (must_true _).mono ?_
  rintro e wx ⟨rfl, rfl⟩
  go_wp2_with fail
  refine (must_true _).mono ?_
  rintro e wx ⟨rfl, rfl⟩
  go_wp2_with fail
  refine (eachC_any _ _ 3 _ hGk (by rw [← bl_len, bl_mk]; omega) (by decide)).mono ?_
  rintro e w5 ⟨hb5, hE5⟩
  rw [show bl ⟨#[44, 32]⟩ = [44, 32] from rfl, bl_mk] at hE5
  rcases hE5 with ⟨l, v, hE, rfl, hgs⟩ | ⟨hE, rfl⟩
  · rw [HE.out] at hE
    cases hE
    have hb5' := hbk.trans (hb5.mono hbk.size)
    obtain ⟨a, cap, rfl⟩ := W3.row_slice hgs
    have hP5 := HP.out.below hb5'
    have hl := each_ne (by simp) HE.out
    have hgs' := SlOn.mono (S' := fun x => x < w5.heap.size ∧ b + 1 < x) (ChOn.of_row hgs) (fun x hx => ⟨hx.1, by have := hx.2.1; have := hbk.size; omega⟩)
    have z0 := ((bcell hb5').2 b 1 (by omega)).trans (hz 1)
    have c0 := ((bcell hb5').1 b 1 (by omega)).trans h1
    have HG := Lib.hid hgs'
    have HP5 := Lib.hid hP5
    have hsz := hb5'.size
    clear hgs hgs' hP5 hz
    go_wp2
    go_end0
    exact ⟨rfl, w5.heap.size, by omega, HP5.out.setBars HF.out HG.out (fun e => absurd e hl), (FrN.of_below hb5' hmw).trans (FrN.set _ _ _ _ _)⟩
  · rw [HE.out] at hE; cases hE
end Go.Proofs.YtfphcecjhdkcoaaGreatDoor
/-
The lines that name a file: those that are none.
-/
namespace Go.Proofs.YtfphcecjhdkcoaaGreatDoor
open Go.RowKit
set_option maxRecDepth 100000 in
set_option maxHeartbeats 1000000 in
theorem line_file_no1 {G : Nat} (m b : Nat) (p : Sp.Pk) (s : ByteArray) (w : World) (hG : Glob G w) (hP : PackAt w m b p) (hs : s.size < 1000000) (i : Nat) (a1 a2 : Sp.Str) (b1 b2 : Sp.Str) (hA : Lib.cut (bl s) [32] = (a1, a2, true)) (hi : ((i : Int) == 0) = false) (hw0 : (a1 == [112, 97, 99, 107, 97, 103, 101]) = false) (hw1 : (a1 == [110, 101, 101, 100, 115]) = false) (hw2 : (a1 == [98, 97, 114, 115]) = false) (hw3 : (a1 == [102, 105, 108, 101]) = true) (hB : Lib.cut a2 [61] = (b1, b2, false))  :
    Calls Tryz.prog 103 #[.pointer (some ⟨b, 0, none⟩), .int .i64 (i : Int), .string s] w fun e w' => e = .panicked [{v := .iface 177 (.agg #[]), recovered := false}] ∧ FrN m b w w' := by
  have hPw := hP
  obtain ⟨nv, bv, fv, hmw, hbm, h0, h1, h2, h3, h4, g0, g1, g2, n0, n1, n2, hz⟩ := hP
  have ha2 : a2.length < 1000000 := by
    have := W2.cut_snd (bl s) [32]
    rw [hA, bl_len] at this; simp only at this; omega
  have HA := Lib.hid hA
  have hb2 : b2.length < 1000000 := by
    have := W2.cut_snd a2 [61]
    rw [hB] at this; simp only at this; omega
  obtain ⟨fa, fc, rfl⟩ := W3.row_slice g2
  have hc4 := ((bcell (below_drawn w 0)).1 b 4 (by omega))
  have HB := Lib.hid hB
  clear hA hB hPw h0 h1 h2 h3 g0 g1 g2 n0 n1 n2 hz
  go_enter Tryz.func103, Tryz.ntmps103
  go_wp2_with fail
  refine (cutS_any s _ w hG (by omega)).mono ?_
  rintro e w1 ⟨rfl, k, rfl⟩
  rw [show bl ⟨#[32]⟩ = [32] from rfl, HA.out]
  have hbk : Below w.heap.size w (w.drewN k) := below_drawn w k
  have hGk := hG.keep hbk
  go_wp2_with fail
  refine (must_true _).mono ?_
  rintro e wx ⟨rfl, rfl⟩
  go_wp2_with fail
  refine (cutS_any _ _ _ hGk (by rw [← bl_len, bl_mk]; omega)).mono ?_
  rintro e wx ⟨rfl, k2, rfl⟩
  rw [show bl ⟨#[61]⟩ = [61] from rfl, bl_mk, HB.out]
  go_wp2_with fail
  refine (must_false _).mono ?_
  rintro e w3 ⟨rfl, rfl⟩
  go_wp2
  exact ⟨rfl, rfl, FrN.of_below (below_drawn w _) hmw⟩
set_option maxRecDepth 100000 in
set_option maxHeartbeats 1000000 in
theorem line_file_no2 {G : Nat} (m b : Nat) (p : Sp.Pk) (s : ByteArray) (w : World) (hG : Glob G w) (hP : PackAt w m b p) (hs : s.size < 1000000) (i : Nat) (a1 a2 : Sp.Str) (b1 b2 : Sp.Str) (hA : Lib.cut (bl s) [32] = (a1, a2, true)) (hi : ((i : Int) == 0) = false) (hw0 : (a1 == [112, 97, 99, 107, 97, 103, 101]) = false) (hw1 : (a1 == [110, 101, 101, 100, 115]) = false) (hw2 : (a1 == [98, 97, 114, 115]) = false) (hw3 : (a1 == [102, 105, 108, 101]) = true) (hB : Lib.cut a2 [61] = (b1, b2, true)) (hc : 24 < b2.length) :
    Calls Tryz.prog 103 #[.pointer (some ⟨b, 0, none⟩), .int .i64 (i : Int), .string s] w fun e w' => e = .panicked [{v := .iface 177 (.agg #[]), recovered := false}] ∧ FrN m b w w' := by
  have hPw := hP
  obtain ⟨nv, bv, fv, hmw, hbm, h0, h1, h2, h3, h4, g0, g1, g2, n0, n1, n2, hz⟩ := hP
  have ha2 : a2.length < 1000000 := by
    have := W2.cut_snd (bl s) [32]
    rw [hA, bl_len] at this; simp only at this; omega
  have HA := Lib.hid hA
  have hb2 : b2.length < 1000000 := by
    have := W2.cut_snd a2 [61]
    rw [hB] at this; simp only at this; omega
  obtain ⟨fa, fc, rfl⟩ := W3.row_slice g2
  have hc4 := ((bcell (below_drawn w 0)).1 b 4 (by omega))
  have HB := Lib.hid hB
  clear hA hB hPw h0 h1 h2 h3 g0 g1 g2 n0 n1 n2 hz
  go_enter Tryz.func103, Tryz.ntmps103
  go_wp2_with fail
  refine (cutS_any s _ w hG (by omega)).mono ?_
  rintro e w1 ⟨rfl, k, rfl⟩
  rw [show bl ⟨#[32]⟩ = [32] from rfl, HA.out]
  have hbk : Below w.heap.size w (w.drewN k) := below_drawn w k
  have hGk := hG.keep hbk
  go_wp2_with fail
  refine (must_true _).mono ?_
  rintro e wx ⟨rfl, rfl⟩
  go_wp2_with fail
  refine (cutS_any _ _ _ hGk (by rw [← bl_len, bl_mk]; omega)).mono ?_
  rintro e wx ⟨rfl, k2, rfl⟩
  rw [show bl ⟨#[61]⟩ = [61] from rfl, bl_mk, HB.out]
  go_wp2_with fail
  refine (must_false _).mono ?_
  rintro e w3 ⟨rfl, rfl⟩
  go_wp2
  exact ⟨rfl, rfl, FrN.of_below (below_drawn w _) hmw⟩
set_option maxRecDepth 100000 in
set_option maxHeartbeats 1000000 in
theorem line_file_no3 {G : Nat} (m b : Nat) (p : Sp.Pk) (s : ByteArray) (w : World) (hG : Glob G w) (hP : PackAt w m b p) (hs : s.size < 1000000) (i : Nat) (a1 a2 : Sp.Str) (b1 b2 : Sp.Str) (hA : Lib.cut (bl s) [32] = (a1, a2, true)) (hi : ((i : Int) == 0) = false) (hw0 : (a1 == [112, 97, 99, 107, 97, 103, 101]) = false) (hw1 : (a1 == [110, 101, 101, 100, 115]) = false) (hw2 : (a1 == [98, 97, 114, 115]) = false) (hw3 : (a1 == [102, 105, 108, 101]) = true) (hB : Lib.cut a2 [61] = (b1, b2, true)) (hc : b2.length ≤ 24) (hfl : 4 ≤ p.files.length) :
    Calls Tryz.prog 103 #[.pointer (some ⟨b, 0, none⟩), .int .i64 (i : Int), .string s] w fun e w' => e = .panicked [{v := .iface 177 (.agg #[]), recovered := false}] ∧ FrN m b w w' := by
  have hPw := hP
  obtain ⟨nv, bv, fv, hmw, hbm, h0, h1, h2, h3, h4, g0, g1, g2, n0, n1, n2, hz⟩ := hP
  have ha2 : a2.length < 1000000 := by
    have := W2.cut_snd (bl s) [32]
    rw [hA, bl_len] at this; simp only at this; omega
  have HA := Lib.hid hA
  have hb2 : b2.length < 1000000 := by
    have := W2.cut_snd a2 [61]
    rw [hB] at this; simp only at this; omega
  obtain ⟨fa, fc, rfl⟩ := W3.row_slice g2
  have hc4 := ((bcell (below_drawn w 0)).1 b 4 (by omega))
  have HB := Lib.hid hB
  clear hA hB hPw h0 h1 h2 h3 g0 g1 g2 n0 n1 n2 hz
  go_enter Tryz.func103, Tryz.ntmps103
  go_wp2_with fail
  refine (cutS_any s _ w hG (by omega)).mono ?_
  rintro e w1 ⟨rfl, k, rfl⟩
  rw [show bl ⟨#[32]⟩ = [32] from rfl, HA.out]
  have hbk : Below w.heap.size w (w.drewN k) := below_drawn w k
  have hGk := hG.keep hbk
  go_wp2_with fail
  refine (must_true _).mono ?_
  rintro e wx ⟨rfl, rfl⟩
  go_wp2_with fail
  refine (cutS_any _ _ _ hGk (by rw [← bl_len, bl_mk]; omega)).mono ?_
  rintro e wx ⟨rfl, k2, rfl⟩
  rw [show bl ⟨#[61]⟩ = [61] from rfl, bl_mk, HB.out]
  go_wp2_with fail
  rw [show decide ((p.files.length : Int) < 4) = false from decide_eq_false (by omega)]
  refine (must_false _).mono ?_
  rintro e w3 ⟨rfl, rfl⟩
  go_wp2
  exact ⟨rfl, rfl, FrN.of_below (below_drawn w _) hmw⟩
end Go.Proofs.YtfphcecjhdkcoaaGreatDoor
/-
Walks of the program's path: its parts.
-/
namespace Go.Proofs.YtfphcecjhdkcoaaGreatDoor
open Go.RowKit
theorem pathS_arr : bl ⟨#[97, 98, 99, 100, 101, 102, 103, 104, 105, 106, 107, 108, 109, 110, 111, 112, 113, 114, 115, 116, 117, 118, 119, 120, 121, 122, 48, 49, 50, 51, 52, 53, 54, 55, 56, 57, 46, 95]⟩ = Sp.pathS := rfl
theorem part_yes (s : ByteArray) (w : World) (hn : Sp.isPart (bl s) = true) :
    Calls Tryz.prog 198 #[.string s] w fun e w' => e = .returned (.int .i64 0) ∧ Below w.heap.size w w' := by
  obtain ⟨ha, h1, h2⟩ : Sp.among (bl s) Sp.pathS 1 8 = true ∧ (s.toList == [46]) = false ∧ (s.toList == [46, 46]) = false := by
    unfold Sp.isPart at hn; simp only [Bool.and_eq_true] at hn; rw [toList_bl]; simpa [and_assoc] using hn
  have HA := Lib.hid ha
  clear ha hn
  go_enter Tryz.func198, Tryz.ntmps198
  go_wp2_with fail
  refine (among_any s _ 1 8 w (by decide) (W1.ascii_of (by decide))).mono ?_
  rintro e w1 ⟨rfl, hb⟩
  rw [pathS_arr, HA.out]
  go_wp2_with fail
  refine (must_true _).mono ?_
  rintro e w2 ⟨rfl, rfl⟩
  go_wp2
  go_ret
  exact ⟨rfl, hb⟩
theorem part_no (s : ByteArray) (w : World) (hn : Sp.isPart (bl s) = false) :
    Calls Tryz.prog 198 #[.string s] w fun e w' => e = .panicked [{v := .iface 177 (.agg #[]), recovered := false}] ∧ Below w.heap.size w w' := by
  cases ha : Sp.among (bl s) Sp.pathS 1 8 with
  | false =>
    have HA := Lib.hid ha
    clear ha hn
    go_enter Tryz.func198, Tryz.ntmps198
    go_wp2_with fail
    refine (among_any s _ 1 8 w (by decide) (W1.ascii_of (by decide))).mono ?_
    rintro e w1 ⟨rfl, hb⟩
    rw [pathS_arr, HA.out]
    go_wp2_with fail
    refine (must_false _).mono ?_
    rintro e w2 ⟨rfl, rfl⟩
    go_wp2
    exact ⟨rfl, rfl, hb⟩
  | true =>
    have HA := Lib.hid ha
    by_cases h1 : bl s = [46]
    · have h1' : (s.toList == [46]) = true := by rw [toList_bl, h1]; rfl
      clear ha hn h1
      go_enter Tryz.func198, Tryz.ntmps198
      go_wp2_with fail
      refine (among_any s _ 1 8 w (by decide) (W1.ascii_of (by decide))).mono ?_
      rintro e w1 ⟨rfl, hb⟩
      rw [pathS_arr, HA.out]
      go_wp2_with fail
      refine (must_false _).mono ?_
      rintro e w2 ⟨rfl, rfl⟩
      go_wp2
      exact ⟨rfl, rfl, hb⟩
    · have h1' : (s.toList == [46]) = false := by rw [toList_bl]; simpa using h1
      have h2' : (s.toList == [46, 46]) = true := by
        rw [toList_bl]; unfold Sp.isPart at hn; rw [ha] at hn
        have hx : (bl s != [46]) = true := by simpa using h1
        rw [hx] at hn; simpa using hn
      clear ha hn h1
      go_enter Tryz.func198, Tryz.ntmps198
      go_wp2_with fail
      refine (among_any s _ 1 8 w (by decide) (W1.ascii_of (by decide))).mono ?_
      rintro e w1 ⟨rfl, hb⟩
      rw [pathS_arr, HA.out]
      go_wp2_with fail
      refine (must_false _).mono ?_
      rintro e w2 ⟨rfl, rfl⟩
      go_wp2
      exact ⟨rfl, rfl, hb⟩
def partO (s : Sp.Str) : Option Int := if Sp.isPart s then some 0 else none
theorem partO_none {G : Nat} (s : ByteArray) (w : World) (_hG : Glob G w) (_hs : s.size < 4294967281) (h : partO (bl s) = none) :
    Calls Tryz.prog 198 #[.string s] w fun e w' => e = .panicked [{v := .iface 177 (.agg #[]), recovered := false}] ∧ Below w.heap.size w w' := by
  unfold partO at h
  split at h
  · cases h
  · rename_i hn; exact part_no s w (by simpa using hn)
theorem partO_some {G : Nat} (s : ByteArray) (w : World) (c : Int) (_hG : Glob G w) (_hs : s.size < 4294967281) (h : partO (bl s) = some c) :
    Calls Tryz.prog 198 #[.string s] w fun e w' => e = .returned (.int .i64 c) ∧ Below w.heap.size w w' := by
  unfold partO at h
  split at h
  · rename_i hn; cases h; exact part_yes s w hn
  · cases h
/-- What 'each' of parts comes to. -/
def EachI (s sep : Sp.Str) (most B : Nat) (w : World) (e : Ending) (w' : World) : Prop :=
  Below B w w' ∧ ((∃ l v, Sp.each s sep most partO = some l ∧ e = .returned v ∧ w'.ownsRow B 3 1 v l.length (l.map (Value.int .i64))) ∨ (Sp.each s sep most partO = none ∧ e = .panicked [{v := .iface 177 (.agg #[]), recovered := false}]))
set_option maxRecDepth 100000 in
set_option maxHeartbeats 400000 in
theorem eachI_any {G : Nat} (s sep : ByteArray) (most : Nat) (w : World) (hG : Glob G w) (hs : s.size < 1000000) (h0 : 0 < sep.size) :
    Calls Tryz.prog 197 #[.string s, .string sep, .int .i64 most, .func (.func 198) #[] #[]] w (EachI (bl s) (bl sep) most w.heap.size w) := by
  have htn : bl sep ≠ [] := by intro h; rw [← bl_len, h] at h0; simp at h0
  have hpl := Sp.split_length (bl s) (bl sep) htn
  rw [bl_len] at hpl
  have hpm : ∀ x ∈ Lib.split (bl s) (bl sep), x.length < 1000000 := fun x hx => by
    have := Sp.split_mem (bl s) (bl sep) x htn hx; rw [bl_len] at this; omega
  have HPM := Lib.hid hpm
  clear htn hpm
  obtain ⟨B, hB⟩ : ∃ B, w.heap.size = B := ⟨_, rfl⟩
  rw [hB]
  have hGB : G ≤ B := by rw [← hB]; exact hG.size
  have HB := Lib.hid hB
  clear hB
  go_enter Tryz.func197, Tryz.ntmps197
  go_wp2_with fail
  refine (splitS_any s sep w hG (by omega) h0).mono ?_
  rintro e w1 ⟨v, rfl, hv, hb⟩
  generalize hL : Lib.split (bl s) (bl sep) = L at *
  obtain ⟨a, cap, rfl, hcap, hget⟩ := hv.get
  have HL := Lib.hid hL.symm
  have HG := Lib.hid hget
  clear hL hv hget
  rw [HB.out] at hb
  go_wp2
  go_loopw [9, 16] (fun v i wr => ∃ (k : Nat) (done : List Int), k ≤ L.length ∧ i = .int .i64 k ∧ Sp.mapO partO (L.take k) = some done ∧ wr.ownsRow w1.heap.size 3 1 v done.length (done.map (Value.int .i64)) ∧ Below w1.heap.size w1 wr) (fun _ i _ => L.length - (intOf i).toNat)
  case atStart => exact ⟨0, [], Nat.zero_le _, rfl, rfl, World.ownsRow_nil _ _ _ _, Below.refl _ _⟩
  case round =>
    obtain ⟨k, done, hk, rfl, hdone, hown, hbel⟩ := hrel
    have hlen := W3.mapO_len _ _ _ hdone
    rw [List.length_take, Nat.min_eq_left hk] at hlen
    have HD := Lib.hid hdone
    have hn : done.length ≤ 1000000 := by omega
    have HLEN := Lib.hid hlen
    have hbw : Below B w wr := hb.trans (hbel.mono (by have := hb.size; rw [HB.out] at this; exact this))
    have hGr : Glob G wr := hG.below hbw hGB
    have hw1 : w1.heap.size ≤ wr.heap.size := hbel.size
    have hbw0 : B ≤ wr.heap.size := by have := hbw.size; rw [HB.out] at this; exact this
    clear hdone hlen
    by_cases h : k < L.length
    · obtain ⟨b, off, rfl, hbb, hcell⟩ := HG.out k h
      have hcell' := (hbel.cell (p := ⟨b, off + k, none⟩) hbb).trans hcell
      have hpiece : (⟨L[k].toArray⟩ : ByteArray).size < 4294967281 := by
        have := HPM.out L[k] (List.getElem_mem h); rw [← bl_len, bl_mk]; omega
      clear hcell HG
      cases hone : partO L[k] with
      | none =>
        have HO := Lib.hid hone
        clear hone
        go_wp2_with fail
        refine (partO_none ⟨L[k].toArray⟩ wr hGr hpiece HO.out).mono ?_
        rintro e w2 ⟨rfl, hb2⟩
        go_wp2
        exact ⟨rfl, hbw.trans (hb2.mono hbw0), .inr ⟨W3.each_stop HL.out (W3.mapO_stop _ L[k] L (List.getElem_mem h) HO.out), rfl⟩⟩
      | some c =>
        have HO := Lib.hid hone
        clear hone
        go_wp2_with fail
        refine (partO_some ⟨L[k].toArray⟩ wr c hGr hpiece HO.out).mono ?_
        rintro e w2 ⟨rfl, hb2⟩
        have hown2 := W3.row_keep hown hb2
        have hbel2 := hbel.trans (hb2.mono hw1)
        go_wp2_with (at_builtin; refine wp_app app77 w2 [.int .i64 c] rfl (by simp [Value.oneCell']) rfl _ _ rfl w1.heap.size _ _ _ rfl hown2 rfl (by omega) (by have := hb2.size; omega) ?_; intro v' w3 hown' hgrow _)
        have hbel3 := below_of_grown hbel2 hbel2.size hown2 hgrow
        go_roundw
        case rel => exact ⟨k + 1, done ++ [c], h, by go_num, W3.mapO_next h HD.out HO.out, by simpa using hown', hbel3⟩
        case measure => simp [intOf]; omega
    · obtain rfl : k = L.length := by omega
      have hdone' : Sp.mapO partO L = some done := by have := HD.out; rwa [List.take_length] at this
      have hln : (done.length : Int) = L.length := by have := HLEN.out; omega
      have HD' := Lib.hid hdone'
      have HLN := Lib.hid hln
      clear hdone' hln HG
      obtain ⟨ra, rc, rfl⟩ := W3.row_slice hown
      by_cases hmo : done.length ≤ most
      · go_wp2_with fail
        refine (must_true _).mono ?_
        rintro e w2 ⟨rfl, rfl⟩
        go_wp2
        go_ret
        exact ⟨hbw, .inl ⟨done, _, by rw [W3.each_of HL.out HD'.out, if_pos hmo], rfl, W3.row_base hown (by have := hb.size; rw [HB.out] at this; exact this)⟩⟩
      · go_wp2_with fail
        refine (must_false _).mono ?_
        rintro e w2 ⟨rfl, rfl⟩
        go_wp2
        exact ⟨rfl, hbw, .inr ⟨by rw [W3.each_of HL.out HD'.out, if_neg hmo], rfl⟩⟩
theorem mapO_part : ∀ L : List Sp.Str, L.all Sp.isPart = true → Sp.mapO partO L = some (L.map fun _ => 0)
  | [], _ => rfl
  | x :: r, h => by
    rw [List.all_cons, Bool.and_eq_true] at h
    have hx : partO x = some 0 := if_pos h.1
    simp only [Sp.mapO, mapO_part r h.2, hx]
    rfl
theorem each_path (s : Sp.Str) : Sp.isPath s = (Sp.each s [47] 3 partO).isSome := by
  cases h : (Lib.split s [47]).all Sp.isPart with
  | true =>
    rw [W3.each_of rfl (mapO_part _ h)]
    unfold Sp.isPath
    rw [h, Bool.true_and, List.length_map]
    by_cases h2 : (Lib.split s [47]).length ≤ 3
    · rw [if_pos h2]; simp [h2]
    · rw [if_neg h2]; simp [h2]
  | false =>
    obtain ⟨x, hx, hp⟩ := List.all_eq_false.1 h
    rw [W3.each_stop rfl (W3.mapO_stop partO x _ hx (if_neg hp))]
    unfold Sp.isPath
    rw [h]; rfl
theorem path_yes {G : Nat} (s : ByteArray) (w : World) (hG : Glob G w) (hs : s.size < 1000000) (h : Sp.isPath (bl s) = true) :
    Calls Tryz.prog 159 #[.string s] w fun e w' => e = .returned (.string s) ∧ Below w.heap.size w w' := by
  rw [each_path] at h
  have H := Lib.hid h
  clear h
  go_enter Tryz.func159, Tryz.ntmps159
  go_wp2_with fail
  refine (eachI_any s _ 3 w hG hs (by decide)).mono ?_
  rintro e w1 ⟨hb, ⟨l, v, _, rfl, _⟩ | ⟨hno, _⟩⟩
  · go_wp2
    go_ret
    exact ⟨rfl, hb⟩
  · exfalso
    have := H.out
    rw [show ([47] : Sp.Str) = bl ⟨#[47]⟩ from rfl, hno] at this
    cases this
theorem path_no {G : Nat} (s : ByteArray) (w : World) (hG : Glob G w) (hs : s.size < 1000000) (h : Sp.isPath (bl s) = false) :
    Calls Tryz.prog 159 #[.string s] w fun e w' => e = .panicked [{v := .iface 177 (.agg #[]), recovered := false}] ∧ Below w.heap.size w w' := by
  rw [each_path] at h
  have H := Lib.hid h
  clear h
  go_enter Tryz.func159, Tryz.ntmps159
  go_wp2_with fail
  refine (eachI_any s _ 3 w hG hs (by decide)).mono ?_
  rintro e w1 ⟨hb, ⟨l, v, hl, _, _⟩ | ⟨_, rfl⟩⟩
  · exfalso
    have := H.out
    rw [show ([47] : Sp.Str) = bl ⟨#[47]⟩ from rfl, hl] at this
    cases this
  · go_wp2
    exact ⟨rfl, rfl, hb⟩
end Go.Proofs.YtfphcecjhdkcoaaGreatDoor
namespace Go.Proofs.YtfphcecjhdkcoaaGreatDoor
open Go.RowKit
theorem cut_fst (s t : Sp.Str) : (Lib.cut s t).1.length ≤ s.length := by
  unfold Lib.cut; split
  · simp; omega
  · simp
set_option maxRecDepth 100000 in
set_option maxHeartbeats 1000000 in
theorem line_file_no4 {G : Nat} (m b : Nat) (p : Sp.Pk) (s : ByteArray) (w : World) (hG : Glob G w) (hP : PackAt w m b p) (hs : s.size < 1000000) (i : Nat) (a1 a2 : Sp.Str) (b1 b2 : Sp.Str) (hA : Lib.cut (bl s) [32] = (a1, a2, true)) (hi : ((i : Int) == 0) = false) (hw0 : (a1 == [112, 97, 99, 107, 97, 103, 101]) = false) (hw1 : (a1 == [110, 101, 101, 100, 115]) = false) (hw2 : (a1 == [98, 97, 114, 115]) = false) (hw3 : (a1 == [102, 105, 108, 101]) = true) (hB : Lib.cut a2 [61] = (b1, b2, true)) (hc : b2.length ≤ 24) (hfl : p.files.length < 4) (hp : Sp.isPath b1 = false) :
    Calls Tryz.prog 103 #[.pointer (some ⟨b, 0, none⟩), .int .i64 (i : Int), .string s] w fun e w' => e = .panicked [{v := .iface 177 (.agg #[]), recovered := false}] ∧ FrN m b w w' := by
  have hPw := hP
  obtain ⟨nv, bv, fv, hmw, hbm, h0, h1, h2, h3, h4, g0, g1, g2, n0, n1, n2, hz⟩ := hP
  have ha2 : a2.length < 1000000 := by
    have := W2.cut_snd (bl s) [32]
    rw [hA, bl_len] at this; simp only at this; omega
  have HA := Lib.hid hA
  have hb1 : (⟨b1.toArray⟩ : ByteArray).size < 1000000 := by
    rw [← bl_len, bl_mk]
    have : b1.length ≤ a2.length := by have := cut_fst a2 [61]; rw [hB] at this; exact this
    omega
  have HP : Hid (Sp.isPath (bl ⟨b1.toArray⟩) = false) := Lib.hid (by rw [bl_mk]; exact hp)
  obtain ⟨fa, fc, rfl⟩ := W3.row_slice g2
  have HB := Lib.hid hB
  clear hA hB hp hPw h0 h1 h2 h3 g0 g1 g2 n0 n1 n2 hz
  go_enter Tryz.func103, Tryz.ntmps103
  go_wp2_with fail
  refine (cutS_any s _ w hG (by omega)).mono ?_
  rintro e w1 ⟨rfl, k, rfl⟩
  rw [show bl ⟨#[32]⟩ = [32] from rfl, HA.out]
  have hbk : Below w.heap.size w (w.drewN k) := below_drawn w k
  have hGk := hG.keep hbk
  go_wp2_with fail
  refine (must_true _).mono ?_
  rintro e wx ⟨rfl, rfl⟩
  go_wp2_with fail
  refine (cutS_any _ _ _ hGk (by rw [← bl_len, bl_mk]; omega)).mono ?_
  rintro e wx ⟨rfl, k2, rfl⟩
  rw [show bl ⟨#[61]⟩ = [61] from rfl, bl_mk, HB.out]
  go_wp2_with fail
  rw [show decide ((p.files.length : Int) < 4) = true from decide_eq_true (by omega)]
  refine (must_true _).mono ?_
  rintro e wx ⟨rfl, rfl⟩
  have hpn := fun W hGW => path_no ⟨b1.toArray⟩ W (G := G) hGW hb1 HP.out
  have hGn := hG.keep (below_drawn w (k + k2))
  clear hc hfl
  go_wp2_with fail
  go_region_dies
  all_goals (refine (hpn _ (hG.keep (below_drawn w _))).mono ?_; rintro e w5 ⟨rfl, hb5⟩; exact ⟨rfl, rfl, FrN.of_below ((below_drawn w _).trans (hb5.mono (below_drawn w _).size)) hmw⟩)
end Go.Proofs.YtfphcecjhdkcoaaGreatDoor

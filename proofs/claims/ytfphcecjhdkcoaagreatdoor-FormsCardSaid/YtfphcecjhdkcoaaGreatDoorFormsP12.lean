/-
The walk of the reference's line that names what is needed.
-/
import Derived.Test.YtfphcecjhdkcoaaGreatDoorFormsP02
import Derived.Test.YtfphcecjhdkcoaaGreatDoorFormsP11
import Derived.BigQuiet
/-
The reference's package while it is read; the walks of its line: the first line, and the lines that are none.
-/
namespace Go.Proofs.YtfphcecjhdkcoaaGreatDoor
open Go.RowKit
/-- The reference's package p, being read, at block b: what hangs on it lies below m, but for its files: these are a row of its own. -/
def RPk (w : World) (m b : Nat) (p : Sp.Pk) : Prop :=
  ∃ nv bv fv, m ≤ w.heap.size ∧ b < m ∧ w.cell? ⟨b, 0, none⟩ = some (sv p.name) ∧ w.cell? ⟨b, 1, none⟩ = some (sv p.ver) ∧ w.cell? ⟨b, 2, none⟩ = some nv ∧ w.cell? ⟨b, 3, none⟩ = some bv ∧ w.cell? ⟨b, 4, none⟩ = some fv ∧
    GsOn (fun x => x < m ∧ b < x) w nv p.needs ∧ ChOn (fun x => x < m ∧ b < x) w bv p.bars ∧ w.ownsRow m 88 2 fv p.files.length (p.files.flatMap flCells) ∧
    (p.needs = [] → nv = .slice none 0 0) ∧ (p.bars = [] → bv = .slice none 0 0) ∧ (p.files = [] → fv = .slice none 0 0) ∧ ∀ o, w.frozen? ⟨b, o, none⟩ = false
theorem RPk.below {w w' : World} {m b : Nat} {p : Sp.Pk} (h : RPk w m b p) (hb : Below w.heap.size w w') : RPk w' m b p := by
  obtain ⟨nv, bv, fv, hm, hbm, h0, h1, h2, h3, h4, g0, g1, g2, n0, n1, n2, hz⟩ := h
  have hc := fun o => (bcell hb).1 b o (by omega)
  exact ⟨nv, bv, fv, Nat.le_trans hm hb.size, hbm, (hc 0).trans h0, (hc 1).trans h1, (hc 2).trans h2, (hc 3).trans h3, (hc 4).trans h4, g0.keep fun x hx => hb.block x (by omega), SlOn.keep g1 fun x hx => hb.block x (by omega), W3.row_keep g2 hb, n0, n1, n2, fun o => ((bcell hb).2 b o (by omega)).trans (hz o)⟩
theorem RPk.setName {w : World} {m b : Nat} {p : Sp.Pk} (h : RPk w m b p) (n : Sp.Str) : RPk (w.setCell ⟨b, 0, none⟩ (sv n)) m b { p with name := n } := by
  obtain ⟨nv, bv, fv, hm, hbm, h0, h1, h2, h3, h4, g0, g1, g2, n0, n1, n2, hz⟩ := h
  obtain ⟨c1, c2, c3, c4, c5⟩ := set_facts w b 0 (sv n) _ h0 hz
  exact ⟨nv, bv, fv, by omega, hbm, c1, (c2 1 (by omega)).trans h1, (c2 2 (by omega)).trans h2, (c2 3 (by omega)).trans h3, (c2 4 (by omega)).trans h4, g0.keep fun x hx => c3 x (by omega), SlOn.keep g1 fun x hx => c3 x (by omega),
    row_block g2 fun k hk => c3 k (by omega), n0, n1, n2, c4⟩
theorem RPk.setVer {w : World} {m b : Nat} {p : Sp.Pk} (h : RPk w m b p) (n : Sp.Str) : RPk (w.setCell ⟨b, 1, none⟩ (sv n)) m b { p with ver := n } := by
  obtain ⟨nv, bv, fv, hm, hbm, h0, h1, h2, h3, h4, g0, g1, g2, n0, n1, n2, hz⟩ := h
  obtain ⟨c1, c2, c3, c4, c5⟩ := set_facts w b 1 (sv n) _ h1 hz
  exact ⟨nv, bv, fv, by omega, hbm, (c2 0 (by omega)).trans h0, c1, (c2 2 (by omega)).trans h2, (c2 3 (by omega)).trans h3, (c2 4 (by omega)).trans h4, g0.keep fun x hx => c3 x (by omega), SlOn.keep g1 fun x hx => c3 x (by omega),
    row_block g2 fun k hk => c3 k (by omega), n0, n1, n2, c4⟩
theorem RPk.setBars {w : World} {m b : Nat} {p : Sp.Pk} (h : RPk w m b p) (hf : p.files = []) {v : Value} {cs : List Sp.Ch} (hg : ChOn (fun x => x < w.heap.size ∧ b < x) w v cs) (hn : cs = [] → v = .slice none 0 0) :
    RPk (w.setCell ⟨b, 3, none⟩ v) w.heap.size b { p with bars := cs } := by
  obtain ⟨nv, bv, fv, hm, hbm, h0, h1, h2, h3, h4, g0, g1, g2, n0, n1, n2, hz⟩ := h
  obtain ⟨c1, c2, c3, c4, c5⟩ := set_facts w b 3 v _ h3 hz
  refine ⟨nv, v, fv, by omega, by omega, (c2 0 (by omega)).trans h0, (c2 1 (by omega)).trans h1, (c2 2 (by omega)).trans h2, c1, (c2 4 (by omega)).trans h4, (g0.mono fun x hx => ⟨by omega, hx.2⟩).keep fun x hx => c3 x (by omega), SlOn.keep hg fun x hx => c3 x (by omega),
    ?_, n0, hn, n2, c4⟩
  rw [hf, n2 hf]; exact ⟨rfl, .inl ⟨rfl, rfl⟩⟩
theorem slice_len {S : Nat → Prop} {w : World} {sz : Nat} {v : Value} {xs : List (List Value)} (h : SlOn S w sz v xs) : ∃ a cap, v = .slice a xs.length cap := by
  obtain ⟨a, cap, hv, _⟩ := h; exact ⟨a, cap, hv⟩
/-- The lengths of the three lists, as they stand in the package's cells. -/
theorem RPk.lens {w : World} {m b : Nat} {p : Sp.Pk} (h : RPk w m b p) : ∃ na nc ba bc fa fc, b < w.heap.size ∧ w.cell? ⟨b, 2, none⟩ = some (.slice na p.needs.length nc) ∧ w.cell? ⟨b, 3, none⟩ = some (.slice ba p.bars.length bc) ∧ w.cell? ⟨b, 4, none⟩ = some (.slice fa p.files.length fc) ∧ ∀ o, w.frozen? ⟨b, o, none⟩ = false := by
  obtain ⟨nv, bv, fv, hm, hbm, h0, h1, h2, h3, h4, g0, g1, g2, n0, n1, n2, hz⟩ := h
  obtain ⟨na, nc, rfl, _⟩ := g0.get
  obtain ⟨ba, bc, rfl, _⟩ := g1.get
  obtain ⟨fa, fc, rfl⟩ := W3.row_slice g2
  exact ⟨na, nc, ba, bc, fa, fc, by omega, h2, h3, h4, hz⟩
/-- What the reference's line comes to. -/
def LineR (want : Option Sp.Pk) (m b : Nat) (w : World) (e : Ending) (w' : World) : Prop :=
  FrN m b w w' ∧ ((e = .returned (.bool false) ∧ want = none) ∨ ∃ p' m', e = .returned (.bool true) ∧ want = some p' ∧ m ≤ m' ∧ RPk w' m' b p')
set_option maxRecDepth 100000 in
set_option maxHeartbeats 1000000 in
theorem lineR_few (m b : Nat) (p : Sp.Pk) (s : ByteArray) (w : World) (hP : RPk w m b p) (hs : s.size < 1000000) (x0 : Sp.Str) (r : List Sp.Str) (hS : Lib.split (bl s) [32] = x0 :: r) (hr2 : ¬ r.length = 2) :
    Calls Tryz.prog 44 #[.pointer (some ⟨b, 0, none⟩), .int .i64 0, .string s] w (LineR (T2.firstR p (bl s)) m b w) := by
  have hc : T2.firstR p (bl s) = none := by
    unfold T2.firstR; rw [hS]
    match r, hr2 with
    | [], _ => rfl
    | [_], _ => rfl
    | [_, _], h => exact absurd rfl h
    | _ :: _ :: _ :: _, _ => rfl
  have HP := Lib.hid hS
  have HC := Lib.hid hc
  have hm : m ≤ w.heap.size := by obtain ⟨_, _, _, h, _⟩ := hP; exact h
  clear hS hc hP
  go_enter Tryz.func44, Tryz.ntmps44
  go_wp2_with fail
  refine (cut_any s _ _ (by omega) (by decide) (by decide)).mono ?_
  rintro e w1 ⟨v, rfl, hown, hb⟩
  rw [show bl ⟨#[32]⟩ = [32] from rfl, HP.out] at hown
  obtain ⟨rb, off, cap, rfl, hcap, hbb, c0⟩ := R3.strs1 (StrsAt.of_row hown)
  obtain ⟨n, hn⟩ : ∃ n, n = r.length + 1 := ⟨_, rfl⟩
  rw [← hn] at hcap ⊢
  have hn3 : ¬ n = 3 := by omega
  clear hown hn hr2
  go_wp2
  go_ret
  exact ⟨FrN.of_below hb hm, .inl ⟨rfl, HC.out⟩⟩
set_option maxRecDepth 100000 in
set_option maxHeartbeats 1000000 in
theorem lineR_three (m b : Nat) (p : Sp.Pk) (s : ByteArray) (w : World) (hP : RPk w m b p) (hs : s.size < 1000000) (x0 x1 x2 : Sp.Str) (hS : Lib.split (bl s) [32] = [x0, x1, x2]) :
    Calls Tryz.prog 44 #[.pointer (some ⟨b, 0, none⟩), .int .i64 0, .string s] w (LineR (T2.firstR p (bl s)) m b w) := by
  have h1 : x1.length ≤ s.size := by rw [← bl_len]; exact Sp.split_mem (bl s) [32] x1 (by simp) (by rw [hS]; simp)
  have h2 : x2.length ≤ s.size := by rw [← bl_len]; exact Sp.split_mem (bl s) [32] x2 (by simp) (by rw [hS]; simp)
  have hc : T2.firstR p (bl s) = if x0 == Sp.packageW && Sp.isName x1 && Sp.isVer x2 then some { p with name := x1, ver := x2 } else none := by
    unfold T2.firstR; rw [hS]
  have HP := Lib.hid hS
  have HC := Lib.hid hc
  have hm : m ≤ w.heap.size := by obtain ⟨_, _, _, h, _⟩ := hP; exact h
  clear hS hc
  go_enter Tryz.func44, Tryz.ntmps44
  go_wp2_with fail
  refine (cut_any s _ _ (by omega) (by decide) (by decide)).mono ?_
  rintro e w1 ⟨v, rfl, hown, hb⟩
  rw [show bl ⟨#[32]⟩ = [32] from rfl, HP.out] at hown
  obtain ⟨rb, off, cap, rfl, hcap, hbb, c0, c1, c2⟩ := R3.strs3 (StrsAt.of_row hown)
  have hrow : ∃ g, w.heap.size ≤ rb ∧ g = rb := by
    rcases hown.2 with ⟨e, _⟩ | ⟨g, cap', cur, e, hg, _⟩
    · cases e
    · cases e; exact ⟨_, hg, rfl⟩
  obtain ⟨_, hrb, _⟩ := hrow
  have hP1 := hP.below hb
  clear hown hP
  cases hpk : (x0 == [112, 97, 99, 107, 97, 103, 101]) with
  | false =>
    go_wp2
    go_ret
    exact ⟨FrN.of_below hb hm, .inl ⟨rfl, by rw [HC.out, show (x0 == Sp.packageW) = false from hpk]; rfl⟩⟩
  | true =>
    have hfr : FrN m b w w1 := FrN.of_below hb hm
    have hP2 := (hP1.setName x1).setVer x2
    obtain ⟨nv, bv, fv, hm1, hbm, k0, k1, _, _, _, _, _, _, _, _, _, hz⟩ := hP1
    have z0 := hz 0
    have z1 := hz 1
    have hne : ¬ rb = b := by omega
    have hne' : ¬ b = rb := by omega
    have HP2 := Lib.hid hP2
    clear hP2
    unfold sv at k0 k1
    go_wp2_with fail
    refine (isName_any _ _ (by rw [← bl_len, bl_mk]; omega)).mono ?_
    rintro e w2 ⟨rfl, rfl⟩
    rw [bl_mk]
    go_wp2_with fail
    refine (isVer_any _ _ (by rw [← bl_len, bl_mk]; omega)).mono ?_
    rintro e w2 ⟨rfl, rfl⟩
    rw [bl_mk]
    have hfr2 : FrN m b w ((w1.setCell ⟨b, 0, none⟩ (sv x1)).setCell ⟨b, 1, none⟩ (sv x2)) := hfr.trans ((FrN.set _ _ _ _ _).trans (FrN.set _ _ _ _ _))
    cases hn : Sp.isName x1 with
    | false =>
      have HN := Lib.hid hn
      clear hn
      go_wp2
      go_ret
      exact ⟨hfr2, .inl ⟨rfl, by rw [HC.out, HN.out]; simp⟩⟩
    | true =>
      have HN := Lib.hid hn
      clear hn
      cases hv : Sp.isVer x2 with
      | false =>
        have HV := Lib.hid hv
        clear hv
        go_wp2
        go_ret
        exact ⟨hfr2, .inl ⟨rfl, by rw [HC.out, HV.out]; simp⟩⟩
      | true =>
        have HV := Lib.hid hv
        clear hv
        go_wp2
        go_ret
        exact ⟨hfr2, .inr ⟨_, m, rfl, by rw [HC.out, HN.out, HV.out, show (x0 == Sp.packageW) = true from hpk]; rfl, Nat.le_refl _, HP2.out⟩⟩
theorem lineR_first (m b : Nat) (p : Sp.Pk) (s : ByteArray) (w : World) (hP : RPk w m b p) (hs : s.size < 1000000) :
    Calls Tryz.prog 44 #[.pointer (some ⟨b, 0, none⟩), .int .i64 0, .string s] w (LineR (T2.firstR p (bl s)) m b w) := by
  match hS : Lib.split (bl s) [32] with
  | [] => exact absurd hS (Sp.split_ne _ _ (by simp))
  | [x0] => exact lineR_few m b p s w hP hs x0 [] hS (by simp)
  | [x0, x1] => exact lineR_few m b p s w hP hs x0 [x1] hS (by simp)
  | [x0, x1, x2] => exact lineR_three m b p s w hP hs x0 x1 x2 hS
  | x0 :: x1 :: x2 :: x3 :: r => exact lineR_few m b p s w hP hs x0 (x1 :: x2 :: x3 :: r) hS (by simp)
end Go.Proofs.YtfphcecjhdkcoaaGreatDoor
/-
The walks of the reference's line behind the first: lines that are none; the line that names what is barred.
-/
namespace Go.Proofs.YtfphcecjhdkcoaaGreatDoor
open Go.RowKit
namespace R8
theorem pre_excl {a b s : Sp.Str} {x y : UInt8} {a' b' : Sp.Str} (ha : a = x :: a') (hb : b = y :: b') (hxy : x ≠ y) (h : a.isPrefixOf s = true) : b.isPrefixOf s = false := by
  subst ha; subst hb
  cases s with
  | nil => rfl
  | cons c r =>
    simp only [List.isPrefixOf, Bool.and_eq_true, beq_iff_eq] at h
    obtain ⟨rfl, _⟩ := h
    simp only [List.isPrefixOf]
    rw [show (y == x) = false from by simp; exact fun e => hxy e.symm]; rfl
theorem needs_not {s : Sp.Str} (h : T2.needsP.isPrefixOf s = true) : T2.barsP.isPrefixOf s = false ∧ T2.fileP.isPrefixOf s = false :=
  ⟨pre_excl (x := 110) (y := 98) rfl rfl (by decide) h, pre_excl (x := 110) (y := 102) rfl rfl (by decide) h⟩
theorem bars_not {s : Sp.Str} (h : T2.barsP.isPrefixOf s = true) : T2.fileP.isPrefixOf s = false := pre_excl (x := 98) (y := 102) rfl rfl (by decide) h
theorem pre_size {a : Sp.Str} {s : ByteArray} (h : a.isPrefixOf (bl s) = true) : a.length ≤ s.size := by
  have := (List.isPrefixOf_iff_prefix.1 h).length_le
  rwa [bl_len] at this
end R8
set_option maxRecDepth 100000 in
set_option maxHeartbeats 1000000 in
theorem lineR_none7 (m b : Nat) (p : Sp.Pk) (s : ByteArray) (w : World) (hP : RPk w m b p) (hok : PkOk p) (_hs : s.size < 1000000) (i : Nat) (hi : ((i : Int) == 0) = false) (h1 : T2.needsP.isPrefixOf (bl s) = false) (h2 : T2.barsP.isPrefixOf (bl s) = false) (h3 : T2.fileP.isPrefixOf (bl s) = false) :
    Calls Tryz.prog 44 #[.pointer (some ⟨b, 0, none⟩), .int .i64 i, .string s] w (LineR (T2.laterR p (bl s)) m b w) := by
  have hc : T2.laterR p (bl s) = none := by unfold T2.laterR; rw [h1, h2, h3]; rfl
  have hb1 := hok.needs
  have hb2 := hok.bars
  have hb3 := hok.files
  have HC := Lib.hid hc
  have H1 := Lib.hid h1
  have H2 := Lib.hid h2
  have H3 := Lib.hid h3
  have hm : m ≤ w.heap.size := by obtain ⟨_, _, _, h, _⟩ := hP; exact h
  clear hc h1 h2 h3 hP
  go_enter Tryz.func44, Tryz.ntmps44
  go_wp2_with fail
  refine (begins_any _ _ _).mono ?_
  rintro e w1 ⟨rfl, rfl⟩
  rw [show bl ⟨#[110, 101, 101, 100, 115, 32]⟩ = T2.needsP from rfl, H1.out]
  go_wp2_with fail
  refine (begins_any _ _ _).mono ?_
  rintro e w1 ⟨rfl, rfl⟩
  rw [show bl ⟨#[98, 97, 114, 115, 32]⟩ = T2.barsP from rfl, H2.out]
  go_wp2_with fail
  refine (begins_any _ _ _).mono ?_
  rintro e w1 ⟨rfl, rfl⟩
  rw [show bl ⟨#[102, 105, 108, 101, 32]⟩ = T2.fileP from rfl, H3.out]
  go_wp2
  go_quiet (fail)
  go_wp2
  go_quiet (fail)
  go_wp2
  go_ret
  exact ⟨FrN.of_below (below_drawn w _) hm, .inl ⟨rfl, HC.out⟩⟩
set_option maxRecDepth 100000 in
set_option maxHeartbeats 1000000 in
theorem lineR_none6 (m b : Nat) (p : Sp.Pk) (s : ByteArray) (w : World) (hP : RPk w m b p) (hok : PkOk p) (_hs : s.size < 1000000) (i : Nat) (hi : ((i : Int) == 0) = false) (h1 : T2.needsP.isPrefixOf (bl s) = false) (h2 : T2.barsP.isPrefixOf (bl s) = false) (h3 : T2.fileP.isPrefixOf (bl s) = true) (hl : ¬ p.files.length < 4) :
    Calls Tryz.prog 44 #[.pointer (some ⟨b, 0, none⟩), .int .i64 i, .string s] w (LineR (T2.laterR p (bl s)) m b w) := by
  have hc : T2.laterR p (bl s) = none := by unfold T2.laterR; rw [h1, h2, h3]; simp [hl]
  have hb1 := hok.needs
  have hb2 := hok.bars
  have hb3 := hok.files
  have HC := Lib.hid hc
  have H1 := Lib.hid h1
  have H2 := Lib.hid h2
  have H3 := Lib.hid h3
  have hm : m ≤ w.heap.size := by obtain ⟨_, _, _, h, _⟩ := hP; exact h
  obtain ⟨na, nc, ba, bc, fa, fc, hbs, k2, k3, k4, hz⟩ := hP.lens
  clear hc h1 h2 h3 hP k2 k3
  go_enter Tryz.func44, Tryz.ntmps44
  go_wp2_with fail
  refine (begins_any _ _ _).mono ?_
  rintro e w1 ⟨rfl, rfl⟩
  rw [show bl ⟨#[110, 101, 101, 100, 115, 32]⟩ = T2.needsP from rfl, H1.out]
  go_wp2_with fail
  refine (begins_any _ _ _).mono ?_
  rintro e w1 ⟨rfl, rfl⟩
  rw [show bl ⟨#[98, 97, 114, 115, 32]⟩ = T2.barsP from rfl, H2.out]
  go_wp2_with fail
  refine (begins_any _ _ _).mono ?_
  rintro e w1 ⟨rfl, rfl⟩
  rw [show bl ⟨#[102, 105, 108, 101, 32]⟩ = T2.fileP from rfl, H3.out]
  go_wp2
  go_quiet (fail)
  go_wp2
  go_quiet (fail)
  go_wp2
  go_ret
  exact ⟨FrN.of_below (below_drawn w _) hm, .inl ⟨rfl, HC.out⟩⟩
set_option maxRecDepth 100000 in
set_option maxHeartbeats 1000000 in
theorem lineR_none4 (m b : Nat) (p : Sp.Pk) (s : ByteArray) (w : World) (hP : RPk w m b p) (hok : PkOk p) (_hs : s.size < 1000000) (i : Nat) (hi : ((i : Int) == 0) = false) (h1 : T2.needsP.isPrefixOf (bl s) = false) (h2 : T2.barsP.isPrefixOf (bl s) = true) (hd : (((p.bars.length : Int) + (p.files.length : Int)) == 0) = false) :
    Calls Tryz.prog 44 #[.pointer (some ⟨b, 0, none⟩), .int .i64 i, .string s] w (LineR (T2.laterR p (bl s)) m b w) := by
  have h3 := R8.bars_not h2
  have hc : T2.laterR p (bl s) = none := by unfold T2.laterR; rw [h1, h2, h3, show decide (p.bars.length + p.files.length = 0) = false from decide_eq_false (by rw [beq_eq_false_iff_ne] at hd; omega)]; rfl
  have hb1 := hok.needs
  have hb2 := hok.bars
  have hb3 := hok.files
  have HC := Lib.hid hc
  have H1 := Lib.hid h1
  have H2 := Lib.hid h2
  have H3 := Lib.hid h3
  have hm : m ≤ w.heap.size := by obtain ⟨_, _, _, h, _⟩ := hP; exact h
  obtain ⟨na, nc, ba, bc, fa, fc, hbs, k2, k3, k4, hz⟩ := hP.lens
  clear hc h1 h2 h3 hP k2
  go_enter Tryz.func44, Tryz.ntmps44
  go_wp2_with fail
  refine (begins_any _ _ _).mono ?_
  rintro e w1 ⟨rfl, rfl⟩
  rw [show bl ⟨#[110, 101, 101, 100, 115, 32]⟩ = T2.needsP from rfl, H1.out]
  go_wp2_with fail
  refine (begins_any _ _ _).mono ?_
  rintro e w1 ⟨rfl, rfl⟩
  rw [show bl ⟨#[98, 97, 114, 115, 32]⟩ = T2.barsP from rfl, H2.out]
  go_wp2_with fail
  refine (begins_any _ _ _).mono ?_
  rintro e w1 ⟨rfl, rfl⟩
  rw [show bl ⟨#[102, 105, 108, 101, 32]⟩ = T2.fileP from rfl, H3.out]
  go_wp2
  go_quiet (fail)
  go_wp2
  go_quiet (fail)
  go_wp2
  go_ret
  exact ⟨FrN.of_below (below_drawn w _) hm, .inl ⟨rfl, HC.out⟩⟩
set_option maxRecDepth 100000 in
set_option maxHeartbeats 1000000 in
theorem lineR_none2 (m b : Nat) (p : Sp.Pk) (s : ByteArray) (w : World) (hP : RPk w m b p) (hok : PkOk p) (_hs : s.size < 1000000) (i : Nat) (hi : ((i : Int) == 0) = false) (h1 : T2.needsP.isPrefixOf (bl s) = true) (hd : (((p.needs.length : Int) + (p.bars.length : Int) + (p.files.length : Int)) == 0) = false) :
    Calls Tryz.prog 44 #[.pointer (some ⟨b, 0, none⟩), .int .i64 i, .string s] w (LineR (T2.laterR p (bl s)) m b w) := by
  obtain ⟨h2, h3⟩ := R8.needs_not h1
  have hc : T2.laterR p (bl s) = none := by unfold T2.laterR; rw [h1, h2, h3, show decide (p.needs.length + p.bars.length + p.files.length = 0) = false from decide_eq_false (by rw [beq_eq_false_iff_ne] at hd; omega)]; rfl
  have hb1 := hok.needs
  have hb2 := hok.bars
  have hb3 := hok.files
  have HC := Lib.hid hc
  have H1 := Lib.hid h1
  have H2 := Lib.hid h2
  have H3 := Lib.hid h3
  have hm : m ≤ w.heap.size := by obtain ⟨_, _, _, h, _⟩ := hP; exact h
  obtain ⟨na, nc, ba, bc, fa, fc, hbs, k2, k3, k4, hz⟩ := hP.lens
  clear hc h1 h2 h3 hP
  go_enter Tryz.func44, Tryz.ntmps44
  go_wp2_with fail
  refine (begins_any _ _ _).mono ?_
  rintro e w1 ⟨rfl, rfl⟩
  rw [show bl ⟨#[110, 101, 101, 100, 115, 32]⟩ = T2.needsP from rfl, H1.out]
  go_wp2_with fail
  refine (begins_any _ _ _).mono ?_
  rintro e w1 ⟨rfl, rfl⟩
  rw [show bl ⟨#[98, 97, 114, 115, 32]⟩ = T2.barsP from rfl, H2.out]
  go_wp2_with fail
  refine (begins_any _ _ _).mono ?_
  rintro e w1 ⟨rfl, rfl⟩
  rw [show bl ⟨#[102, 105, 108, 101, 32]⟩ = T2.fileP from rfl, H3.out]
  go_wp2
  go_quiet (fail)
  go_wp2
  go_quiet (fail)
  go_wp2
  go_ret
  exact ⟨FrN.of_below (below_drawn w _) hm, .inl ⟨rfl, HC.out⟩⟩
set_option maxRecDepth 100000 in
set_option maxHeartbeats 1000000 in
theorem lineR_bars (m b : Nat) (p : Sp.Pk) (s : ByteArray) (w : World) (hP : RPk w m b p) (hok : PkOk p) (hs : s.size < 1000000) (i : Nat) (hi : ((i : Int) == 0) = false) (h1 : T2.needsP.isPrefixOf (bl s) = false) (h2 : T2.barsP.isPrefixOf (bl s) = true) (hd : (((p.bars.length : Int) + (p.files.length : Int)) == 0) = true) :
    Calls Tryz.prog 44 #[.pointer (some ⟨b, 0, none⟩), .int .i64 i, .string s] w (LineR (T2.laterR p (bl s)) m b w) := by
  have h3 := R8.bars_not h2
  have hf0 : p.files = [] := List.length_eq_zero_iff.1 (by rw [beq_iff_eq] at hd; omega)
  have hc : T2.laterR p (bl s) = (Sp.each ((bl s).drop 5) [44, 32] 3 Sp.choose).map fun n => { p with bars := n } := by
    unfold T2.laterR; rw [h1, h2, show decide (p.bars.length + p.files.length = 0) = true from decide_eq_true (by rw [beq_iff_eq] at hd; omega)]; rfl
  have h5 : 5 ≤ s.size := R8.pre_size h2
  have hbm : b < m := by obtain ⟨_, _, _, _, h, _⟩ := hP; exact h
  have hb1 := hok.needs
  have hb2 := hok.bars
  have hb3 := hok.files
  have HC := Lib.hid hc
  have H1 := Lib.hid h1
  have H2 := Lib.hid h2
  have H3 := Lib.hid h3
  have hm : m ≤ w.heap.size := by obtain ⟨_, _, _, h, _⟩ := hP; exact h
  obtain ⟨na, nc, ba, bc, fa, fc, hbs, k2, k3, k4, hz⟩ := hP.lens
  have HP := Lib.hid hP
  clear hc h1 h2 h3 hP k2
  go_enter Tryz.func44, Tryz.ntmps44
  go_wp2_with fail
  refine (begins_any _ _ _).mono ?_
  rintro e w1 ⟨rfl, rfl⟩
  rw [show bl ⟨#[110, 101, 101, 100, 115, 32]⟩ = T2.needsP from rfl, H1.out]
  go_wp2_with fail
  refine (begins_any _ _ _).mono ?_
  rintro e w1 ⟨rfl, rfl⟩
  rw [show bl ⟨#[98, 97, 114, 115, 32]⟩ = T2.barsP from rfl, H2.out]
  go_wp2_with fail
  refine (begins_any _ _ _).mono ?_
  rintro e w1 ⟨rfl, rfl⟩
  rw [show bl ⟨#[102, 105, 108, 101, 32]⟩ = T2.fileP from rfl, H3.out]
  go_wp2
  go_quiet (fail)
  go_wp2
  go_quiet (fail)
  go_wp2_with fail
  refine (choices_any _ _ 3 _ (by rw [← bl_len, bl_from, List.length_drop, bl_len]; omega) (by decide) (by decide)).mono ?_
  rintro e w1 ⟨hb, l, v, ok, rfl, heach, hown⟩
  rw [bl_from, show bl ⟨#[44, 32]⟩ = [44, 32] from rfl] at heach
  have HE := Lib.hid heach
  clear heach
  have hbw : Below w.heap.size w w1 := Below.trans (below_drawn w _) (hb.mono (by simp))
  have hP1 := HP.out.below hbw
  have hs1 := hbw.size
  have hsb := hb.size
  have hk3 := ((bcell hbw).1 b 3 hbs).trans k3
  have hz3 := ((bcell hbw).2 b 3 hbs).trans (hz 3)
  have hfr : FrN m b w (w1.setCell ⟨b, 3, none⟩ v) := (FrN.of_below hbw hm).trans (FrN.set _ _ _ _ _)
  have HP1 := Lib.hid hP1
  have HO := Lib.hid hown
  clear hP1 HP k3
  obtain ⟨ra, rc, rfl⟩ := W3.row_slice hown
  cases ok with
  | false =>
    go_wp2
    go_ret
    exact ⟨hfr, .inl ⟨rfl, by rw [HC.out, HE.out]; rfl⟩⟩
  | true =>
    go_wp2
    go_ret
    have hP2 := HP1.out.setBars (v := .slice ra l.length rc) (cs := l) hf0 (SlOn.mono (sl_of_row (e := 135) (fun x hx => by obtain ⟨c, _, rfl⟩ := List.mem_map.1 hx; rfl) (by rw [List.length_map, chRow_flat]; exact HO.out)) fun x hx => ⟨hx.1, by have := hx.2.1; simp at this; omega⟩) (fun e0 => absurd e0 (each_ne (by simp) (HE.out.trans rfl)))
    exact ⟨hfr, .inr ⟨_, w1.heap.size, rfl, by rw [HC.out, HE.out]; rfl, by omega, hP2⟩⟩
end Go.Proofs.YtfphcecjhdkcoaaGreatDoor
namespace Go.Proofs.YtfphcecjhdkcoaaGreatDoor
open Go.RowKit
theorem info27 : (Tryz.prog.info? 27).map (fun i => (i.zero, i.size, i.bytes)) = some (some (.slice none 0 0), 1, 24) := by kernel_rfl
theorem app26 : AppTy 26 27 1 24 := AppTy.of Tryz.underlying26 info27 rfl (by decide) (by decide)
/-- The needs that have been read so far, in the package's cell 2. -/
structure NeedsSt (B b : Nat) (w wr : World) (v : Value) (vs : List Value) (gs : List (List Sp.Ch)) : Prop where
  cell : wr.cell? ⟨b, 2, none⟩ = some v
  own : wr.ownsRow B 27 1 v vs.length vs
  grp : GrpsOn (fun x => x < wr.heap.size ∧ B ≤ x ∧ v.ownBlock ≠ some x) wr vs gs
  frn : FrN B b w wr
  others : ∀ o, o ≠ 2 → wr.cell? ⟨b, o, none⟩ = w.cell? ⟨b, o, none⟩
  frz : ∀ o, wr.frozen? ⟨b, o, none⟩ = false
theorem NeedsSt.next {B b : Nat} {w wr w2 w3 : World} {v v' x : Value} {vs : List Value} {gs : List (List Sp.Ch)} {l : List Sp.Ch} (h : NeedsSt B b w wr v vs gs) (hbB : b < B) (hBr : B ≤ wr.heap.size)
    (hx : w2.ownsRow wr.heap.size 135 3 x l.length (chRow l)) (hb : Below wr.heap.size wr w2) (hown : w3.ownsRow B 27 1 v' (vs.length + 1) (vs ++ [x])) (hg : w2.grownBy w3 v.ownBlock)
    (hat : v'.ownBlock = v.ownBlock ∨ ∃ g, v'.ownBlock = some g ∧ w2.heap.size ≤ g) : NeedsSt B b w (w3.setCell ⟨b, 2, none⟩ v') v' (vs ++ [x]) (gs ++ [l]) := by
  obtain ⟨h1, h2, h3, h4, h5, h6⟩ := h
  have hv : ∀ k, v.ownBlock = some k → k < wr.heap.size := fun k hk => (h2.lt k hk).2
  have hvB : ∀ k, v.ownBlock = some k → B ≤ k := fun k hk => (h2.lt k hk).1
  have hs2 := hb.size
  have hs3 := hg.size
  have hb2 : Below B wr w2 := hb.mono hBr
  have hb3 : Below B wr w3 := hb2.grown hg (by omega) hvB
  have hcells : ∀ o, w3.cell? ⟨b, o, none⟩ = wr.cell? ⟨b, o, none⟩ := fun o => hb3.cell (p := ⟨b, o, none⟩) hbB
  have hfrz : ∀ o, w3.frozen? ⟨b, o, none⟩ = false := fun o => (hb3.frozen (p := ⟨b, o, none⟩) hbB).trans (h6 o)
  obtain ⟨c1, c2, c3, c4, c5⟩ := set_facts w3 b 2 v' _ ((hcells 2).trans h1) hfrz
  have hch : ChOn (fun y => y < w2.heap.size ∧ wr.heap.size ≤ y) w2 x l :=
    SlOn.mono (sl_of_row (e := 135) (fun y hy => by obtain ⟨c, _, rfl⟩ := List.mem_map.1 hy; rfl) (by rw [List.length_map, chRow_flat]; exact hx)) fun y hy => ⟨hy.1, hy.2.1⟩
  have hgr := GrpsOn.app (m := B) (v := v) (v' := v') (x := x) (c := l) h3 hch hb hBr hv hg hat
  refine ⟨c1, ?_, ?_, ?_, fun o ho => (c2 o ho).trans ((hcells o).trans (h5 o ho)), c4⟩
  · rw [List.length_append]
    exact row_block hown fun k hk => c3 k (by omega)
  · exact (hgr.keep fun y hy => c3 y (by omega)).mono fun y hy => ⟨by omega, hy.2⟩
  · exact h4.trans (FrN.trans ⟨hb3.os, hb3.tape, hb3.output, hb3.size, fun k hk _ => hb3.block k hk⟩ (FrN.set _ _ _ _ _))
set_option maxRecDepth 100000 in
set_option maxHeartbeats 1000000 in
theorem lineR_needs (m b : Nat) (p : Sp.Pk) (s : ByteArray) (w : World) (hP : RPk w m b p) (_hok : PkOk p) (hs : s.size < 1000000) (i : Nat) (hi : ((i : Int) == 0) = false) (h1 : T2.needsP.isPrefixOf (bl s) = true) (hd : (((p.needs.length : Int) + (p.bars.length : Int) + (p.files.length : Int)) == 0) = true) :
    Calls Tryz.prog 44 #[.pointer (some ⟨b, 0, none⟩), .int .i64 i, .string s] w (LineR (T2.laterR p (bl s)) m b w) := by
  obtain ⟨h2, h3⟩ := R8.needs_not h1
  have hd' : p.needs.length + p.bars.length + p.files.length = 0 := by rw [beq_iff_eq] at hd; omega
  have hn0 : p.needs = [] := List.length_eq_zero_iff.1 (by omega)
  have hb0 : p.bars = [] := List.length_eq_zero_iff.1 (by omega)
  have hf0 : p.files = [] := List.length_eq_zero_iff.1 (by omega)
  have hc : T2.laterR p (bl s) = (Sp.each ((bl s).drop 6) [44, 32] 3 groupO).map fun n => { p with needs := n } := by
    unfold T2.laterR; rw [h1, show decide (p.needs.length + p.bars.length + p.files.length = 0) = true from decide_eq_true hd']; rfl
  have h6 : 6 ≤ s.size := R8.pre_size h1
  obtain ⟨nv, bv, fv, hm, hbm, k0, k1, k2, k3, k4, g0, g1, g2, n0, n1, n2, hz⟩ := hP
  obtain rfl := n0 hn0
  obtain rfl := n1 hb0
  obtain rfl := n2 hf0
  have hbs : b < w.heap.size := by omega
  have HC := Lib.hid hc
  have H1 := Lib.hid h1
  have H2 := Lib.hid h2
  have H3 := Lib.hid h3
  have HN0 := Lib.hid hn0
  have HB0 := Lib.hid hb0
  have HF0 := Lib.hid hf0
  clear hc h1 h2 h3 g0 g1 g2 n0 n1 n2 hn0 hb0 hf0 hd hd'
  go_enter Tryz.func44, Tryz.ntmps44
  go_wp2_with fail
  refine (begins_any _ _ _).mono ?_
  rintro e w1 ⟨rfl, rfl⟩
  rw [show bl ⟨#[110, 101, 101, 100, 115, 32]⟩ = T2.needsP from rfl, H1.out]
  go_wp2_with fail
  refine (begins_any _ _ _).mono ?_
  rintro e w1 ⟨rfl, rfl⟩
  rw [show bl ⟨#[98, 97, 114, 115, 32]⟩ = T2.barsP from rfl, H2.out]
  go_wp2_with fail
  refine (begins_any _ _ _).mono ?_
  rintro e w1 ⟨rfl, rfl⟩
  rw [show bl ⟨#[102, 105, 108, 101, 32]⟩ = T2.fileP from rfl, H3.out]
  go_wp2
  go_quiet (fail)
  go_wp2_with fail
  refine (cut_any _ _ _ (by rw [← bl_len, bl_from, List.length_drop, bl_len]; omega) (by decide) (by decide)).mono ?_
  rintro e w1 ⟨v, rfl, hown, hb⟩
  rw [bl_from, show bl ⟨#[44, 32]⟩ = [44, 32] from rfl] at hown
  have hv := StrsAt.of_row hown
  have hpl := Sp.split_length ((bl s).drop 6) [44, 32] (by simp)
  rw [List.length_drop, bl_len] at hpl
  have hpm : ∀ x ∈ Lib.split ((bl s).drop 6) [44, 32], x.length < 1000000 := fun x hx => by
    have := Sp.split_mem ((bl s).drop 6) [44, 32] x (by simp) hx; rw [List.length_drop, bl_len] at this; omega
  have HPM := Lib.hid hpm
  clear hpm
  generalize hL : Lib.split ((bl s).drop 6) [44, 32] = L at *
  obtain ⟨a, cap, rfl, hcap, hget⟩ := hv.get
  have hab : ∀ lb off, a = some ⟨lb, off, none⟩ → w.heap.size ≤ lb := by
    intro lb off e
    rcases hown.2 with ⟨e', _⟩ | ⟨g, cap', cur, e', hg, _⟩
    · simp only [Value.slice.injEq] at e'
      rw [e'.1] at e; cases e
    · simp only [Value.slice.injEq] at e'
      rw [e'.1] at e; cases e; exact hg
  have HL := Lib.hid hL.symm
  have HG := Lib.hid hget
  have HAB := Lib.hid hab
  have hbw : Below w.heap.size w w1 := Below.trans (below_drawn w _) (hb.mono (by simp))
  have hs1 := hbw.size
  have hst : NeedsSt w1.heap.size b w1 w1 (.slice none 0 0) [] [] := ⟨((bcell hbw).1 b 2 hbs).trans k2, World.ownsRow_nil _ _ _ _, GrpsOn.nil _ _, FrN.refl _ _ _, fun _ _ => rfl, fun o => ((bcell hbw).2 b o hbs).trans (hz o)⟩
  have j0 := ((bcell hbw).1 b 0 hbs).trans k0
  have j1 := ((bcell hbw).1 b 1 hbs).trans k1
  have j3 := ((bcell hbw).1 b 3 hbs).trans k3
  have j4 := ((bcell hbw).1 b 4 hbs).trans k4
  have J0 := Lib.hid j0
  have J1 := Lib.hid j1
  have J3 := Lib.hid j3
  have J4 := Lib.hid j4
  clear hL hv hget hown hab k0 k1 k2 k3 k4 hz j0 j1 j3 j4
  go_wp2
  go_loopw [14, 15, 16] (fun i _ _ wr => ∃ (k : Nat) (gs : List (List Sp.Ch)) (v : Value) (vs : List Value), k ≤ L.length ∧ i = .int .i64 k ∧ Sp.mapO groupO (L.take k) = some gs ∧ NeedsSt w1.heap.size b w1 wr v vs gs) (fun i _ _ _ => L.length - (intOf i).toNat)
  case atStart => exact ⟨0, [], _, [], Nat.zero_le _, rfl, rfl, hst⟩
  case round =>
    obtain ⟨k, gs, v, vs, hk, rfl, hdone, hst2⟩ := hrel
    have hlen := W3.mapO_len _ _ _ hdone
    rw [List.length_take, Nat.min_eq_left hk] at hlen
    have hvl := hst2.grp.1
    have HD := Lib.hid hdone
    have HLEN := Lib.hid hlen
    have HVL := Lib.hid hvl
    have hvn : vs.length ≤ 1000000 := by omega
    have hwr : w1.heap.size ≤ wr.heap.size := hst2.frn.size
    have hfr0 : FrN m b w wr := (FrN.of_below hbw hm).trans ⟨hst2.frn.os, hst2.frn.tape, hst2.frn.output, hst2.frn.size, fun x hx hne => hst2.frn.block x (by omega) hne⟩
    clear hdone hlen hvl hst
    by_cases h : k < L.length
    · obtain ⟨lb, off, rfl, hlb, hcell⟩ := HG.out k h
      have hlb2 : w.heap.size ≤ lb := HAB.out lb off rfl
      have hcell' := (hst2.frn.cell (p := ⟨lb, off + k, none⟩) hlb (by show lb ≠ b; omega)).trans hcell
      have hpiece : (⟨L[k].toArray⟩ : ByteArray).size < 1000000 := by
        have := HPM.out L[k] (List.getElem_mem h); rw [← bl_len, bl_mk]; omega
      clear hcell HG
      go_wp2_with fail
      refine (choices_any ⟨L[k].toArray⟩ _ 3 wr hpiece (by decide) (by decide)).mono ?_
      rintro e w2 ⟨hb2, l, x, ok, rfl, hch, hx⟩
      rw [bl_mk, show bl ⟨#[32, 124, 32]⟩ = [32, 124, 32] from rfl] at hch
      have HCH : Hid (groupO L[k] = if ok then some l else none) := Lib.hid hch
      clear hch
      obtain ⟨xa, xc, rfl⟩ := W3.row_slice hx
      cases ok with
      | false =>
        go_wp2
        go_ret
        refine ⟨hfr0.trans (FrN.of_below hb2 (by omega)), .inl ⟨rfl, ?_⟩⟩
        rw [HC.out, W3.each_stop HL.out (W3.mapO_stop _ L[k] L (List.getElem_mem h) HCH.out)]; rfl
      | true =>
        obtain ⟨va, vc, rfl⟩ := W3.row_slice hst2.own
        have hs2 := hb2.size
        have hk2 := ((bcell hb2).1 b 2 (by omega)).trans hst2.cell
        have hz2 := ((bcell hb2).2 b 2 (by omega)).trans (hst2.frz 2)
        have hown2 := W3.row_keep hst2.own hb2
        have hone : ∀ u ∈ [Value.slice xa l.length xc], u.oneCell' = true := by simp [Value.oneCell']
        have hb23 : w1.heap.size ≤ w2.heap.size := by omega
        have hvn2 : vs.length < 1099511627776 := by omega
        have hbw2 : ∀ w3, w2.grownBy w3 (Value.slice va vs.length vc).ownBlock → Below w1.heap.size w2 w3 := fun w3 hg => below_of_grown (Below.refl w1.heap.size w2) hb23 hown2 hg
        have hk3 : ∀ w3, w2.grownBy w3 (Value.slice va vs.length vc).ownBlock → w3.cell? ⟨b, 2, none⟩ = some (.slice va vs.length vc) := fun w3 hg => ((hbw2 w3 hg).cell (p := ⟨b, 2, none⟩) (show b < w1.heap.size by omega)).trans hk2
        have hz3 : ∀ w3, w2.grownBy w3 (Value.slice va vs.length vc).ownBlock → w3.frozen? ⟨b, 2, none⟩ = false := fun w3 hg => ((hbw2 w3 hg).frozen (p := ⟨b, 2, none⟩) (show b < w1.heap.size by omega)).trans hz2
        have HK3 := Lib.hid hk3
        have HZ3 := Lib.hid hz3
        clear hk3 hz3 hbw2
        go_wp2_with (at_builtin; refine wp_app_at app26 w2 [.slice xa l.length xc] rfl hone rfl _ _ rfl w1.heap.size _ _ _ rfl hown2 rfl hvn2 hb23 ?_; intro v' w3 hown' hgrow hgc hat; obtain ⟨vg, vcap, rfl⟩ := hgc; have hk3 := HK3.out w3 hgrow; have hz3 := HZ3.out w3 hgrow)
        go_roundw
        case rel => exact ⟨k + 1, gs ++ [l], _, _, h, by go_num, W3.mapO_next h HD.out HCH.out, hst2.next (by omega) hwr hx hb2 hown' hgrow hat⟩
        case measure => simp [intOf]; omega
    · obtain rfl : k = L.length := by omega
      have hdone' : Sp.mapO groupO L = some gs := by have := HD.out; rwa [List.take_length] at this
      have HD' := Lib.hid hdone'
      obtain ⟨va, vc, rfl⟩ := W3.row_slice hst2.own
      have hkc := hst2.cell
      clear hdone' HG
      have hfin : ∀ hle : gs.length ≤ 3, RPk wr wr.heap.size b { p with needs := gs } := fun hle => by
        obtain ⟨q1, q2, q3, q4, q5, q6⟩ := hst2
        have hne : gs ≠ [] := each_ne (s := (bl s).drop 6) (sep := [44, 32]) (most := 3) (one := groupO) (by simp) (by rw [W3.each_of HL.out HD'.out, if_pos hle])
        refine ⟨_, _, _, Nat.le_refl _, by omega, (q5 0 (by omega)).trans J0.out, (q5 1 (by omega)).trans J1.out, q1, (q5 3 (by omega)).trans J3.out, (q5 4 (by omega)).trans J4.out, ⟨vs, ?_, ?_⟩, ?_, ?_, fun e => absurd e hne, fun _ => rfl, fun _ => rfl, q6⟩
        · exact (one_row rfl q2).mono fun x hx => ⟨hx.1, by have := hx.2.1; omega⟩
        · exact q3.mono fun x hx => ⟨hx.1, by have := hx.2.1; omega⟩
        · show ChOn _ _ _ p.bars
          rw [HB0.out]; exact SlOn.nil _ _ _
        · show wr.ownsRow _ _ _ _ p.files.length (p.files.flatMap flCells)
          rw [HF0.out]; exact World.ownsRow_nil _ _ _ _
      have HFIN := Lib.hid hfin
      clear hfin
      by_cases hmo : vs.length ≤ 3
      · go_wp2
        go_ret
        have hvg : vs.length = gs.length := HVL.out
        have hmo' : gs.length ≤ 3 := by omega
        exact ⟨hfr0, .inr ⟨_, wr.heap.size, ret_bool (decide_eq_true (by omega)), by rw [HC.out, W3.each_of HL.out HD'.out, if_pos hmo']; rfl, by omega, HFIN.out hmo'⟩⟩
      · go_wp2
        go_ret
        have hvg : vs.length = gs.length := HVL.out
        have hmo' : ¬ gs.length ≤ 3 := by omega
        exact ⟨hfr0, .inl ⟨ret_bool (decide_eq_false (by omega)), by rw [HC.out, W3.each_of HL.out HD'.out, if_neg hmo']; rfl⟩⟩
end Go.Proofs.YtfphcecjhdkcoaaGreatDoor

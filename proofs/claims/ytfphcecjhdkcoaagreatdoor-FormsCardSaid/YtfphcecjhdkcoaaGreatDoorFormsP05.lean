/-
The lines that name a file: those whose path is none; the others.
-/
import Derived.Test.YtfphcecjhdkcoaaGreatDoorFormsP03
import Derived.Test.YtfphcecjhdkcoaaGreatDoorFormsP04
import Derived.Deep.RegionWith
import Derived.RegionDies
import Derived.Deep.RegionLaw
import Derived.Deep.AppendLies
import Derived.Deep.DeepCutAuto
/-
The lines that name a package's needs and what it bars.
-/
namespace Go.Proofs.YtfphcecjhdkcoaaGreatDoor
open Go.RowKit
set_option maxRecDepth 100000 in
set_option maxHeartbeats 1000000 in
theorem line_needs_no1 {G : Nat} (m b : Nat) (p : Sp.Pk) (s : ByteArray) (w : World) (hG : Glob G w) (hP : PackAt w m b p) (hs : s.size < 1000000) (i : Nat) (a1 a2 : Sp.Str) (hA : Lib.cut (bl s) [32] = (a1, a2, true)) (hi : ((i : Int) == 0) = false) (hw0 : (a1 == [112, 97, 99, 107, 97, 103, 101]) = false) (hw1 : (a1 == [110, 101, 101, 100, 115]) = true) (hne : p.needs ≠ []) :
    Calls Tryz.prog 103 #[.pointer (some ⟨b, 0, none⟩), .int .i64 (i : Int), .string s] w fun e w' => e = .panicked [{v := .iface 177 (.agg #[]), recovered := false}] ∧ FrN m b w w' := by
  have hPw := hP
  obtain ⟨nv, bv, fv, hmw, hbm, h0, h1, h2, h3, h4, g0, g1, g2, n0, n1, n2, hz⟩ := hP
  have ha2 : a2.length < 1000000 := by
    have := W2.cut_snd (bl s) [32]
    rw [hA, bl_len] at this; simp only at this; omega
  have HA := Lib.hid hA
  have q169 : ∀ (a : Option Addr) (n c n' c' : Nat) (W : World), (binOp .eql 169 (.slice a n c) (.slice none n' c')).run Tryz.prog W = .ok (.bool a.isNone) W := fun a n c n' c' W => Lib.run_eql_slice_nil W _ _ a n c n' c' Tryz.underlying169
  have q170 : ∀ (a : Option Addr) (n c n' c' : Nat) (W : World), (binOp .eql 170 (.slice a n c) (.slice none n' c')).run Tryz.prog W = .ok (.bool a.isNone) W := fun a n c n' c' W => Lib.run_eql_slice_nil W _ _ a n c n' c' Tryz.underlying170
  have q173 : ∀ (a : Option Addr) (n c n' c' : Nat) (W : World), (binOp .eql 173 (.slice a n c) (.slice none n' c')).run Tryz.prog W = .ok (.bool a.isNone) W := fun a n c n' c' W => Lib.run_eql_slice_nil W _ _ a n c n' c' Tryz.underlying173
  obtain ⟨vs, hvs, hgr⟩ := g0
  obtain ⟨nb, no, nc, rfl⟩ := slice_some hvs (by rw [ne_eq, List.map_eq_nil_iff]; intro e; rw [e] at hgr; exact hne (List.length_eq_zero_iff.1 hgr.1.symm))
  clear hA hPw h2 h3 g1 g2 n0 n1 n2 hz
  go_enter Tryz.func103, Tryz.ntmps103
  go_wp2_with fail
  refine (cutS_any s _ w hG (by omega)).mono ?_
  rintro e w1 ⟨rfl, k, rfl⟩
  rw [show bl ⟨#[32]⟩ = [32] from rfl, HA.out]
  have hbk : Below w.heap.size w (w.drewN k) := below_drawn w k
  have hGk := hG.keep hbk
  have h0' := ((bcell hbk).1 b 0 (by omega)).trans h0
  have h1' := ((bcell hbk).1 b 1 (by omega)).trans h1
  have h4' := ((bcell hbk).1 b 4 (by omega)).trans h4
  go_wp2_with fail
  refine (must_true _).mono ?_
  rintro e wx ⟨rfl, rfl⟩
  go_wp2_with fail
  refine (must_false _).mono ?_
  rintro e w3 ⟨rfl, rfl⟩
  go_wp2
  exact ⟨rfl, rfl, FrN.of_below hbk hmw⟩
set_option maxRecDepth 100000 in
set_option maxHeartbeats 1000000 in
theorem line_needs_no2 {G : Nat} (m b : Nat) (p : Sp.Pk) (s : ByteArray) (w : World) (hG : Glob G w) (hP : PackAt w m b p) (hs : s.size < 1000000) (i : Nat) (a1 a2 : Sp.Str) (hA : Lib.cut (bl s) [32] = (a1, a2, true)) (hi : ((i : Int) == 0) = false) (hw0 : (a1 == [112, 97, 99, 107, 97, 103, 101]) = false) (hw1 : (a1 == [110, 101, 101, 100, 115]) = true) (hne : p.needs = []) (hbe : p.bars ≠ []) :
    Calls Tryz.prog 103 #[.pointer (some ⟨b, 0, none⟩), .int .i64 (i : Int), .string s] w fun e w' => e = .panicked [{v := .iface 177 (.agg #[]), recovered := false}] ∧ FrN m b w w' := by
  have hPw := hP
  obtain ⟨nv, bv, fv, hmw, hbm, h0, h1, h2, h3, h4, g0, g1, g2, n0, n1, n2, hz⟩ := hP
  have ha2 : a2.length < 1000000 := by
    have := W2.cut_snd (bl s) [32]
    rw [hA, bl_len] at this; simp only at this; omega
  have HA := Lib.hid hA
  have q169 : ∀ (a : Option Addr) (n c n' c' : Nat) (W : World), (binOp .eql 169 (.slice a n c) (.slice none n' c')).run Tryz.prog W = .ok (.bool a.isNone) W := fun a n c n' c' W => Lib.run_eql_slice_nil W _ _ a n c n' c' Tryz.underlying169
  have q170 : ∀ (a : Option Addr) (n c n' c' : Nat) (W : World), (binOp .eql 170 (.slice a n c) (.slice none n' c')).run Tryz.prog W = .ok (.bool a.isNone) W := fun a n c n' c' W => Lib.run_eql_slice_nil W _ _ a n c n' c' Tryz.underlying170
  have q173 : ∀ (a : Option Addr) (n c n' c' : Nat) (W : World), (binOp .eql 173 (.slice a n c) (.slice none n' c')).run Tryz.prog W = .ok (.bool a.isNone) W := fun a n c n' c' W => Lib.run_eql_slice_nil W _ _ a n c n' c' Tryz.underlying173
  obtain rfl := n0 hne
  obtain ⟨bb, bo, bc, rfl⟩ := slice_some g1 (by rw [ne_eq, List.map_eq_nil_iff]; exact hbe)
  clear hA hPw h2 h3 g1 g2 n0 n1 n2 hz
  go_enter Tryz.func103, Tryz.ntmps103
  go_wp2_with fail
  refine (cutS_any s _ w hG (by omega)).mono ?_
  rintro e w1 ⟨rfl, k, rfl⟩
  rw [show bl ⟨#[32]⟩ = [32] from rfl, HA.out]
  have hbk : Below w.heap.size w (w.drewN k) := below_drawn w k
  have hGk := hG.keep hbk
  have h0' := ((bcell hbk).1 b 0 (by omega)).trans h0
  have h1' := ((bcell hbk).1 b 1 (by omega)).trans h1
  have h4' := ((bcell hbk).1 b 4 (by omega)).trans h4
  go_wp2_with fail
  refine (must_true _).mono ?_
  rintro e wx ⟨rfl, rfl⟩
  go_wp2_with fail
  refine (must_false _).mono ?_
  rintro e w3 ⟨rfl, rfl⟩
  go_wp2
  exact ⟨rfl, rfl, FrN.of_below hbk hmw⟩
set_option maxRecDepth 100000 in
set_option maxHeartbeats 1000000 in
theorem line_needs_no3 {G : Nat} (m b : Nat) (p : Sp.Pk) (s : ByteArray) (w : World) (hG : Glob G w) (hP : PackAt w m b p) (hs : s.size < 1000000) (i : Nat) (a1 a2 : Sp.Str) (hA : Lib.cut (bl s) [32] = (a1, a2, true)) (hi : ((i : Int) == 0) = false) (hw0 : (a1 == [112, 97, 99, 107, 97, 103, 101]) = false) (hw1 : (a1 == [110, 101, 101, 100, 115]) = true) (hne : p.needs = []) (hbe : p.bars = []) (hfe : p.files ≠ []) :
    Calls Tryz.prog 103 #[.pointer (some ⟨b, 0, none⟩), .int .i64 (i : Int), .string s] w fun e w' => e = .panicked [{v := .iface 177 (.agg #[]), recovered := false}] ∧ FrN m b w w' := by
  have hPw := hP
  obtain ⟨nv, bv, fv, hmw, hbm, h0, h1, h2, h3, h4, g0, g1, g2, n0, n1, n2, hz⟩ := hP
  have ha2 : a2.length < 1000000 := by
    have := W2.cut_snd (bl s) [32]
    rw [hA, bl_len] at this; simp only at this; omega
  have HA := Lib.hid hA
  have q169 : ∀ (a : Option Addr) (n c n' c' : Nat) (W : World), (binOp .eql 169 (.slice a n c) (.slice none n' c')).run Tryz.prog W = .ok (.bool a.isNone) W := fun a n c n' c' W => Lib.run_eql_slice_nil W _ _ a n c n' c' Tryz.underlying169
  have q170 : ∀ (a : Option Addr) (n c n' c' : Nat) (W : World), (binOp .eql 170 (.slice a n c) (.slice none n' c')).run Tryz.prog W = .ok (.bool a.isNone) W := fun a n c n' c' W => Lib.run_eql_slice_nil W _ _ a n c n' c' Tryz.underlying170
  have q173 : ∀ (a : Option Addr) (n c n' c' : Nat) (W : World), (binOp .eql 173 (.slice a n c) (.slice none n' c')).run Tryz.prog W = .ok (.bool a.isNone) W := fun a n c n' c' W => Lib.run_eql_slice_nil W _ _ a n c n' c' Tryz.underlying173
  obtain rfl := n0 hne
  obtain rfl := n1 hbe
  obtain ⟨fb, fc, rfl⟩ := row_some g2 hfe
  clear hA hPw h2 h3 g1 g2 n0 n1 n2 hz
  go_enter Tryz.func103, Tryz.ntmps103
  go_wp2_with fail
  refine (cutS_any s _ w hG (by omega)).mono ?_
  rintro e w1 ⟨rfl, k, rfl⟩
  rw [show bl ⟨#[32]⟩ = [32] from rfl, HA.out]
  have hbk : Below w.heap.size w (w.drewN k) := below_drawn w k
  have hGk := hG.keep hbk
  have h0' := ((bcell hbk).1 b 0 (by omega)).trans h0
  have h1' := ((bcell hbk).1 b 1 (by omega)).trans h1
  have h4' := ((bcell hbk).1 b 4 (by omega)).trans h4
  go_wp2_with fail
  refine (must_true _).mono ?_
  rintro e wx ⟨rfl, rfl⟩
  go_wp2_with fail
  refine (must_false _).mono ?_
  rintro e w3 ⟨rfl, rfl⟩
  go_wp2
  exact ⟨rfl, rfl, FrN.of_below hbk hmw⟩
set_option maxRecDepth 100000 in
set_option maxHeartbeats 1000000 in
theorem line_needs_no4 {G : Nat} (m b : Nat) (p : Sp.Pk) (s : ByteArray) (w : World) (hG : Glob G w) (hP : PackAt w m b p) (hs : s.size < 1000000) (i : Nat) (a1 a2 : Sp.Str) (hA : Lib.cut (bl s) [32] = (a1, a2, true)) (hi : ((i : Int) == 0) = false) (hw0 : (a1 == [112, 97, 99, 107, 97, 103, 101]) = false) (hw1 : (a1 == [110, 101, 101, 100, 115]) = true) (hne : p.needs = []) (hbe : p.bars = []) (hfe : p.files = []) (hE : Sp.each a2 [44, 32] 3 groupO = none) :
    Calls Tryz.prog 103 #[.pointer (some ⟨b, 0, none⟩), .int .i64 (i : Int), .string s] w fun e w' => e = .panicked [{v := .iface 177 (.agg #[]), recovered := false}] ∧ FrN m b w w' := by
  have hPw := hP
  obtain ⟨nv, bv, fv, hmw, hbm, h0, h1, h2, h3, h4, g0, g1, g2, n0, n1, n2, hz⟩ := hP
  have ha2 : a2.length < 1000000 := by
    have := W2.cut_snd (bl s) [32]
    rw [hA, bl_len] at this; simp only at this; omega
  have HA := Lib.hid hA
  have q169 : ∀ (a : Option Addr) (n c n' c' : Nat) (W : World), (binOp .eql 169 (.slice a n c) (.slice none n' c')).run Tryz.prog W = .ok (.bool a.isNone) W := fun a n c n' c' W => Lib.run_eql_slice_nil W _ _ a n c n' c' Tryz.underlying169
  have q170 : ∀ (a : Option Addr) (n c n' c' : Nat) (W : World), (binOp .eql 170 (.slice a n c) (.slice none n' c')).run Tryz.prog W = .ok (.bool a.isNone) W := fun a n c n' c' W => Lib.run_eql_slice_nil W _ _ a n c n' c' Tryz.underlying170
  have q173 : ∀ (a : Option Addr) (n c n' c' : Nat) (W : World), (binOp .eql 173 (.slice a n c) (.slice none n' c')).run Tryz.prog W = .ok (.bool a.isNone) W := fun a n c n' c' W => Lib.run_eql_slice_nil W _ _ a n c n' c' Tryz.underlying173
  obtain rfl := n0 hne
  obtain rfl := n1 hbe
  obtain rfl := n2 hfe
  have HE := Lib.hid hE
  clear hA hE hPw h2 h3 g1 g2 n0 n1 n2 hz
  go_enter Tryz.func103, Tryz.ntmps103
  go_wp2_with fail
  refine (cutS_any s _ w hG (by omega)).mono ?_
  rintro e w1 ⟨rfl, k, rfl⟩
  rw [show bl ⟨#[32]⟩ = [32] from rfl, HA.out]
  have hbk : Below w.heap.size w (w.drewN k) := below_drawn w k
  have hGk := hG.keep hbk
  go_wp2_with fail
  refine (must_true _).mono ?_
  rintro e wx ⟨rfl, rfl⟩
  go_wp2_with fail
  refine (must_true _).mono ?_
  rintro e wx ⟨rfl, rfl⟩
  go_wp2_with fail
  refine (eachG_any _ _ 3 _ hGk (by rw [← bl_len, bl_mk]; omega) (by decide)).mono ?_
  rintro e w5 ⟨hb5, hE5⟩
  rw [show bl ⟨#[44, 32]⟩ = [44, 32] from rfl, bl_mk] at hE5
  rcases hE5 with ⟨l, a, cap, hE, rfl, hgs⟩ | ⟨hE, rfl⟩
  · rw [HE.out] at hE; cases hE
  · go_wp2
    exact ⟨rfl, rfl, FrN.of_below (hbk.trans (hb5.mono hbk.size)) hmw⟩
set_option maxRecDepth 100000 in
set_option maxHeartbeats 1000000 in
theorem line_needs_yes {G : Nat} (m b : Nat) (p : Sp.Pk) (s : ByteArray) (w : World) (hG : Glob G w) (hP : PackAt w m b p) (hs : s.size < 1000000) (i : Nat) (a1 a2 : Sp.Str) (hA : Lib.cut (bl s) [32] = (a1, a2, true)) (hi : ((i : Int) == 0) = false) (hw0 : (a1 == [112, 97, 99, 107, 97, 103, 101]) = false) (hw1 : (a1 == [110, 101, 101, 100, 115]) = true) (hne : p.needs = []) (hbe : p.bars = []) (hfe : p.files = []) (gs : List (List Sp.Ch)) (hE : Sp.each a2 [44, 32] 3 groupO = some gs) :
    Calls Tryz.prog 103 #[.pointer (some ⟨b, 0, none⟩), .int .i64 (i : Int), .string s] w fun e w' => e = .returned (.tuple #[]) ∧ ∃ m', m ≤ m' ∧ PackAt w' m' b { p with needs := gs } ∧ FrN m b w w' := by
  have hPw := hP
  obtain ⟨nv, bv, fv, hmw, hbm, h0, h1, h2, h3, h4, g0, g1, g2, n0, n1, n2, hz⟩ := hP
  have ha2 : a2.length < 1000000 := by
    have := W2.cut_snd (bl s) [32]
    rw [hA, bl_len] at this; simp only at this; omega
  have HA := Lib.hid hA
  have q169 : ∀ (a : Option Addr) (n c n' c' : Nat) (W : World), (binOp .eql 169 (.slice a n c) (.slice none n' c')).run Tryz.prog W = .ok (.bool a.isNone) W := fun a n c n' c' W => Lib.run_eql_slice_nil W _ _ a n c n' c' Tryz.underlying169
  have q170 : ∀ (a : Option Addr) (n c n' c' : Nat) (W : World), (binOp .eql 170 (.slice a n c) (.slice none n' c')).run Tryz.prog W = .ok (.bool a.isNone) W := fun a n c n' c' W => Lib.run_eql_slice_nil W _ _ a n c n' c' Tryz.underlying170
  have q173 : ∀ (a : Option Addr) (n c n' c' : Nat) (W : World), (binOp .eql 173 (.slice a n c) (.slice none n' c')).run Tryz.prog W = .ok (.bool a.isNone) W := fun a n c n' c' W => Lib.run_eql_slice_nil W _ _ a n c n' c' Tryz.underlying173
  obtain rfl := n0 hne
  obtain rfl := n1 hbe
  obtain rfl := n2 hfe
  have HE := Lib.hid hE
  have HP := Lib.hid hPw
  have HF := Lib.hid hfe
  clear hA hE hPw hfe h2 h3 g1 g2 n0 n1 n2
  go_enter Tryz.func103, Tryz.ntmps103
  go_wp2_with fail
  refine (cutS_any s _ w hG (by omega)).mono ?_
  rintro e w1 ⟨rfl, k, rfl⟩
  rw [show bl ⟨#[32]⟩ = [32] from rfl, HA.out]
  have hbk : Below w.heap.size w (w.drewN k) := below_drawn w k
  have hGk := hG.keep hbk
  go_wp2_with fail
  refine (must_true _).mono ?_
  rintro e wx ⟨rfl, rfl⟩
  go_wp2_with fail
  refine (must_true _).mono ?_
  rintro e wx ⟨rfl, rfl⟩
  go_wp2_with fail
  refine (eachG_any _ _ 3 _ hGk (by rw [← bl_len, bl_mk]; omega) (by decide)).mono ?_
  rintro e w5 ⟨hb5, hE5⟩
  rw [show bl ⟨#[44, 32]⟩ = [44, 32] from rfl, bl_mk] at hE5
  rcases hE5 with ⟨l, a, cap, hE, rfl, hgs⟩ | ⟨hE, rfl⟩
  · rw [HE.out] at hE
    cases hE
    have hb5' := hbk.trans (hb5.mono hbk.size)
    have hP5 := HP.out.below hb5'
    have hl := each_ne (by simp) HE.out
    have hgs' := hgs.mono (S' := fun x => x < w5.heap.size ∧ b + 1 < x) (fun x hx => ⟨hx.1, by have := hx.2; have := hbk.size; omega⟩)
    have z0 := ((bcell hb5').2 b 0 (by omega)).trans (hz 0)
    have c0 := ((bcell hb5').1 b 0 (by omega)).trans h0
    have HG := Lib.hid hgs'
    have HP5 := Lib.hid hP5
    have hsz := hb5'.size
    clear hgs hgs' hP5 hz
    go_wp2
    go_end0
    exact ⟨rfl, w5.heap.size, by omega, HP5.out.setNeeds HF.out HG.out (fun e => absurd e hl), (FrN.of_below hb5' hmw).trans (FrN.set _ _ _ _ _)⟩
  · rw [HE.out] at hE; cases hE
set_option maxRecDepth 100000 in
set_option maxHeartbeats 1000000 in
theorem line_bars_no1 {G : Nat} (m b : Nat) (p : Sp.Pk) (s : ByteArray) (w : World) (hG : Glob G w) (hP : PackAt w m b p) (hs : s.size < 1000000) (i : Nat) (a1 a2 : Sp.Str) (hA : Lib.cut (bl s) [32] = (a1, a2, true)) (hi : ((i : Int) == 0) = false) (hw0 : (a1 == [112, 97, 99, 107, 97, 103, 101]) = false) (hw1 : (a1 == [110, 101, 101, 100, 115]) = false) (hw2 : (a1 == [98, 97, 114, 115]) = true) (hbe : p.bars ≠ []) :
    Calls Tryz.prog 103 #[.pointer (some ⟨b, 0, none⟩), .int .i64 (i : Int), .string s] w fun e w' => e = .panicked [{v := .iface 177 (.agg #[]), recovered := false}] ∧ FrN m b w w' := by
  have hPw := hP
  obtain ⟨nv, bv, fv, hmw, hbm, h0, h1, h2, h3, h4, g0, g1, g2, n0, n1, n2, hz⟩ := hP
  have ha2 : a2.length < 1000000 := by
    have := W2.cut_snd (bl s) [32]
    rw [hA, bl_len] at this; simp only at this; omega
  have HA := Lib.hid hA
  have q169 : ∀ (a : Option Addr) (n c n' c' : Nat) (W : World), (binOp .eql 169 (.slice a n c) (.slice none n' c')).run Tryz.prog W = .ok (.bool a.isNone) W := fun a n c n' c' W => Lib.run_eql_slice_nil W _ _ a n c n' c' Tryz.underlying169
  have q170 : ∀ (a : Option Addr) (n c n' c' : Nat) (W : World), (binOp .eql 170 (.slice a n c) (.slice none n' c')).run Tryz.prog W = .ok (.bool a.isNone) W := fun a n c n' c' W => Lib.run_eql_slice_nil W _ _ a n c n' c' Tryz.underlying170
  have q173 : ∀ (a : Option Addr) (n c n' c' : Nat) (W : World), (binOp .eql 173 (.slice a n c) (.slice none n' c')).run Tryz.prog W = .ok (.bool a.isNone) W := fun a n c n' c' W => Lib.run_eql_slice_nil W _ _ a n c n' c' Tryz.underlying173
  obtain ⟨bb, bo, bc, rfl⟩ := slice_some g1 (by rw [ne_eq, List.map_eq_nil_iff]; exact hbe)
  clear hA hPw h2 h3 g0 g1 g2 n0 n1 n2 hz
  go_enter Tryz.func103, Tryz.ntmps103
  go_wp2_with fail
  refine (cutS_any s _ w hG (by omega)).mono ?_
  rintro e w1 ⟨rfl, k, rfl⟩
  rw [show bl ⟨#[32]⟩ = [32] from rfl, HA.out]
  have hbk : Below w.heap.size w (w.drewN k) := below_drawn w k
  have hGk := hG.keep hbk
  have h1' := ((bcell hbk).1 b 1 (by omega)).trans h1
  have h4' := ((bcell hbk).1 b 4 (by omega)).trans h4
  go_wp2_with fail
  refine (must_true _).mono ?_
  rintro e wx ⟨rfl, rfl⟩
  go_wp2_with fail
  refine (must_false _).mono ?_
  rintro e w3 ⟨rfl, rfl⟩
  go_wp2
  exact ⟨rfl, rfl, FrN.of_below hbk hmw⟩
set_option maxRecDepth 100000 in
set_option maxHeartbeats 1000000 in
theorem line_bars_no2 {G : Nat} (m b : Nat) (p : Sp.Pk) (s : ByteArray) (w : World) (hG : Glob G w) (hP : PackAt w m b p) (hs : s.size < 1000000) (i : Nat) (a1 a2 : Sp.Str) (hA : Lib.cut (bl s) [32] = (a1, a2, true)) (hi : ((i : Int) == 0) = false) (hw0 : (a1 == [112, 97, 99, 107, 97, 103, 101]) = false) (hw1 : (a1 == [110, 101, 101, 100, 115]) = false) (hw2 : (a1 == [98, 97, 114, 115]) = true) (hbe : p.bars = []) (hfe : p.files ≠ []) :
    Calls Tryz.prog 103 #[.pointer (some ⟨b, 0, none⟩), .int .i64 (i : Int), .string s] w fun e w' => e = .panicked [{v := .iface 177 (.agg #[]), recovered := false}] ∧ FrN m b w w' := by
  have hPw := hP
  obtain ⟨nv, bv, fv, hmw, hbm, h0, h1, h2, h3, h4, g0, g1, g2, n0, n1, n2, hz⟩ := hP
  have ha2 : a2.length < 1000000 := by
    have := W2.cut_snd (bl s) [32]
    rw [hA, bl_len] at this; simp only at this; omega
  have HA := Lib.hid hA
  have q169 : ∀ (a : Option Addr) (n c n' c' : Nat) (W : World), (binOp .eql 169 (.slice a n c) (.slice none n' c')).run Tryz.prog W = .ok (.bool a.isNone) W := fun a n c n' c' W => Lib.run_eql_slice_nil W _ _ a n c n' c' Tryz.underlying169
  have q170 : ∀ (a : Option Addr) (n c n' c' : Nat) (W : World), (binOp .eql 170 (.slice a n c) (.slice none n' c')).run Tryz.prog W = .ok (.bool a.isNone) W := fun a n c n' c' W => Lib.run_eql_slice_nil W _ _ a n c n' c' Tryz.underlying170
  have q173 : ∀ (a : Option Addr) (n c n' c' : Nat) (W : World), (binOp .eql 173 (.slice a n c) (.slice none n' c')).run Tryz.prog W = .ok (.bool a.isNone) W := fun a n c n' c' W => Lib.run_eql_slice_nil W _ _ a n c n' c' Tryz.underlying173
  obtain rfl := n1 hbe
  obtain ⟨fb, fc, rfl⟩ := row_some g2 hfe
  clear hA hPw h2 h3 g0 g1 g2 n0 n1 n2 hz
  go_enter Tryz.func103, Tryz.ntmps103
  go_wp2_with fail
  refine (cutS_any s _ w hG (by omega)).mono ?_
  rintro e w1 ⟨rfl, k, rfl⟩
  rw [show bl ⟨#[32]⟩ = [32] from rfl, HA.out]
  have hbk : Below w.heap.size w (w.drewN k) := below_drawn w k
  have hGk := hG.keep hbk
  have h1' := ((bcell hbk).1 b 1 (by omega)).trans h1
  have h4' := ((bcell hbk).1 b 4 (by omega)).trans h4
  go_wp2_with fail
  refine (must_true _).mono ?_
  rintro e wx ⟨rfl, rfl⟩
  go_wp2_with fail
  refine (must_false _).mono ?_
  rintro e w3 ⟨rfl, rfl⟩
  go_wp2
  exact ⟨rfl, rfl, FrN.of_below hbk hmw⟩
set_option maxRecDepth 100000 in
set_option maxHeartbeats 1000000 in
theorem line_bars_no3 {G : Nat} (m b : Nat) (p : Sp.Pk) (s : ByteArray) (w : World) (hG : Glob G w) (hP : PackAt w m b p) (hs : s.size < 1000000) (i : Nat) (a1 a2 : Sp.Str) (hA : Lib.cut (bl s) [32] = (a1, a2, true)) (hi : ((i : Int) == 0) = false) (hw0 : (a1 == [112, 97, 99, 107, 97, 103, 101]) = false) (hw1 : (a1 == [110, 101, 101, 100, 115]) = false) (hw2 : (a1 == [98, 97, 114, 115]) = true) (hbe : p.bars = []) (hfe : p.files = []) (hE : Sp.each a2 [44, 32] 3 Sp.choose = none) :
    Calls Tryz.prog 103 #[.pointer (some ⟨b, 0, none⟩), .int .i64 (i : Int), .string s] w fun e w' => e = .panicked [{v := .iface 177 (.agg #[]), recovered := false}] ∧ FrN m b w w' := by
  have hPw := hP
  obtain ⟨nv, bv, fv, hmw, hbm, h0, h1, h2, h3, h4, g0, g1, g2, n0, n1, n2, hz⟩ := hP
  have ha2 : a2.length < 1000000 := by
    have := W2.cut_snd (bl s) [32]
    rw [hA, bl_len] at this; simp only at this; omega
  have HA := Lib.hid hA
  have q169 : ∀ (a : Option Addr) (n c n' c' : Nat) (W : World), (binOp .eql 169 (.slice a n c) (.slice none n' c')).run Tryz.prog W = .ok (.bool a.isNone) W := fun a n c n' c' W => Lib.run_eql_slice_nil W _ _ a n c n' c' Tryz.underlying169
  have q170 : ∀ (a : Option Addr) (n c n' c' : Nat) (W : World), (binOp .eql 170 (.slice a n c) (.slice none n' c')).run Tryz.prog W = .ok (.bool a.isNone) W := fun a n c n' c' W => Lib.run_eql_slice_nil W _ _ a n c n' c' Tryz.underlying170
  have q173 : ∀ (a : Option Addr) (n c n' c' : Nat) (W : World), (binOp .eql 173 (.slice a n c) (.slice none n' c')).run Tryz.prog W = .ok (.bool a.isNone) W := fun a n c n' c' W => Lib.run_eql_slice_nil W _ _ a n c n' c' Tryz.underlying173
  obtain rfl := n1 hbe
  obtain rfl := n2 hfe
  have HE := Lib.hid hE
  clear hA hE hPw h2 h3 g0 g1 g2 n0 n1 n2 hz
  go_enter Tryz.func103, Tryz.ntmps103
  go_wp2_with fail
  refine (cutS_any s _ w hG (by omega)).mono ?_
  rintro e w1 ⟨rfl, k, rfl⟩
  rw [show bl ⟨#[32]⟩ = [32] from rfl, HA.out]
  have hbk : Below w.heap.size w (w.drewN k) := below_drawn w k
  have hGk := hG.keep hbk
  go_wp2_with fail
  refine (must_true _).mono ?_
  rintro e wx ⟨rfl, rfl⟩
  go_wp2_with fail
  refine (must_true _).mono ?_
  rintro e wx ⟨rfl, rfl⟩
  go_wp2_with fail
  refine (eachC_any _ _ 3 _ hGk (by rw [← bl_len, bl_mk]; omega) (by decide)).mono ?_
  rintro e w5 ⟨hb5, hE5⟩
  rw [show bl ⟨#[44, 32]⟩ = [44, 32] from rfl, bl_mk] at hE5
  rcases hE5 with ⟨l, v, hE, rfl, hgs⟩ | ⟨hE, rfl⟩
  · rw [HE.out] at hE; cases hE
  · go_wp2
    exact ⟨rfl, rfl, FrN.of_below (hbk.trans (hb5.mono hbk.size)) hmw⟩
set_option maxRecDepth 100000 in
set_option maxHeartbeats 1000000 in
theorem line_bars_yes {G : Nat} (m b : Nat) (p : Sp.Pk) (s : ByteArray) (w : World) (hG : Glob G w) (hP : PackAt w m b p) (hs : s.size < 1000000) (i : Nat) (a1 a2 : Sp.Str) (hA : Lib.cut (bl s) [32] = (a1, a2, true)) (hi : ((i : Int) == 0) = false) (hw0 : (a1 == [112, 97, 99, 107, 97, 103, 101]) = false) (hw1 : (a1 == [110, 101, 101, 100, 115]) = false) (hw2 : (a1 == [98, 97, 114, 115]) = true) (hbe : p.bars = []) (hfe : p.files = []) (cs : List Sp.Ch) (hE : Sp.each a2 [44, 32] 3 Sp.choose = some cs) :
    Calls Tryz.prog 103 #[.pointer (some ⟨b, 0, none⟩), .int .i64 (i : Int), .string s] w fun e w' => e = .returned (.tuple #[]) ∧ ∃ m', m ≤ m' ∧ PackAt w' m' b { p with bars := cs } ∧ FrN m b w w' := by
  have hPw := hP
  obtain ⟨nv, bv, fv, hmw, hbm, h0, h1, h2, h3, h4, g0, g1, g2, n0, n1, n2, hz⟩ := hP
  have ha2 : a2.length < 1000000 := by
    have := W2.cut_snd (bl s) [32]
    rw [hA, bl_len] at this; simp only at this; omega
  have HA := Lib.hid hA
  have q169 : ∀ (a : Option Addr) (n c n' c' : Nat) (W : World), (binOp .eql 169 (.slice a n c) (.slice none n' c')).run Tryz.prog W = .ok (.bool a.isNone) W := fun a n c n' c' W => Lib.run_eql_slice_nil W _ _ a n c n' c' Tryz.underlying169
  have q170 : ∀ (a : Option Addr) (n c n' c' : Nat) (W : World), (binOp .eql 170 (.slice a n c) (.slice none n' c')).run Tryz.prog W = .ok (.bool a.isNone) W := fun a n c n' c' W => Lib.run_eql_slice_nil W _ _ a n c n' c' Tryz.underlying170
  have q173 : ∀ (a : Option Addr) (n c n' c' : Nat) (W : World), (binOp .eql 173 (.slice a n c) (.slice none n' c')).run Tryz.prog W = .ok (.bool a.isNone) W := fun a n c n' c' W => Lib.run_eql_slice_nil W _ _ a n c n' c' Tryz.underlying173
  obtain rfl := n1 hbe
  obtain rfl := n2 hfe
  have HE := Lib.hid hE
  have HP := Lib.hid hPw
  have HF := Lib.hid hfe
  clear hA hE hPw hfe h2 h3 g0 g1 g2 n0 n1 n2
  go_enter Tryz.func103, Tryz.ntmps103
  go_wp2_with fail
  refine (cutS_any s _ w hG (by omega)).mono ?_
  rintro e w1 ⟨rfl, k, rfl⟩
  rw [show bl ⟨#[32]⟩ = [32] from rfl, HA.out]
  have hbk : Below w.heap.size w (w.drewN k) := below_drawn w k
  have hGk := hG.keep hbk
  go_wp2_with fail
  refine (must_true _).mono ?_
  rintro e wx ⟨rfl, rfl⟩
  go_wp2_with fail
  refine (must_true _).mono ?_
  rintro e wx ⟨rfl, rfl⟩
  go_wp2_with fail
  refine (eachC_any _ _ 3 _ hGk (by rw [← bl_len, bl_mk]; omega) (by decide)).mono ?_
  rintro e w5 ⟨hb5, hE5⟩
  rw [show bl ⟨#[44, 32]⟩ = [44, 32] from rfl, bl_mk] at hE5
  rcases hE5 with ⟨l, v, hE, rfl, hgs⟩ | ⟨hE, rfl⟩
  · rw [HE.out] at hE
    cases hE
    have hb5' := hbk.trans (hb5.mono hbk.size)
    obtain ⟨a, cap, rfl⟩ := W3.row_slice hgs
    have hP5 := HP.out.below hb5'
    have hl := each_ne (by simp) HE.out
    have hgs' := SlOn.mono (S' := fun x => x < w5.heap.size ∧ b + 1 < x) (ChOn.of_row hgs) (fun x hx => ⟨hx.1, by have := hx.2.1; have := hbk.size; omega⟩)
    have z0 := ((bcell hb5').2 b 1 (by omega)).trans (hz 1)
    have c0 := ((bcell hb5').1 b 1 (by omega)).trans h1
    have HG := Lib.hid hgs'
    have HP5 := Lib.hid hP5
    have hsz := hb5'.size
    clear hgs hgs' hP5 hz
    go_wp2
    go_end0
    exact ⟨rfl, w5.heap.size, by omega, HP5.out.setBars HF.out HG.out (fun e => absurd e hl), (FrN.of_below hb5' hmw).trans (FrN.set _ _ _ _ _)⟩
  · rw [HE.out] at hE; cases hE
end Go.Proofs.YtfphcecjhdkcoaaGreatDoor
/-
The lines that name a file: those that are none.
-/
namespace Go.Proofs.YtfphcecjhdkcoaaGreatDoor
open Go.RowKit
set_option maxRecDepth 100000 in
set_option maxHeartbeats 1000000 in
theorem line_file_no1 {G : Nat} (m b : Nat) (p : Sp.Pk) (s : ByteArray) (w : World) (hG : Glob G w) (hP : PackAt w m b p) (hs : s.size < 1000000) (i : Nat) (a1 a2 : Sp.Str) (b1 b2 : Sp.Str) (hA : Lib.cut (bl s) [32] = (a1, a2, true)) (hi : ((i : Int) == 0) = false) (hw0 : (a1 == [112, 97, 99, 107, 97, 103, 101]) = false) (hw1 : (a1 == [110, 101, 101, 100, 115]) = false) (hw2 : (a1 == [98, 97, 114, 115]) = false) (hw3 : (a1 == [102, 105, 108, 101]) = true) (hB : Lib.cut a2 [61] = (b1, b2, false))  :
    Calls Tryz.prog 103 #[.pointer (some ⟨b, 0, none⟩), .int .i64 (i : Int), .string s] w fun e w' => e = .panicked [{v := .iface 177 (.agg #[]), recovered := false}] ∧ FrN m b w w' := by
  have hPw := hP
  obtain ⟨nv, bv, fv, hmw, hbm, h0, h1, h2, h3, h4, g0, g1, g2, n0, n1, n2, hz⟩ := hP
  have ha2 : a2.length < 1000000 := by
    have := W2.cut_snd (bl s) [32]
    rw [hA, bl_len] at this; simp only at this; omega
  have HA := Lib.hid hA
  have hb2 : b2.length < 1000000 := by
    have := W2.cut_snd a2 [61]
    rw [hB] at this; simp only at this; omega
  obtain ⟨fa, fc, rfl⟩ := W3.row_slice g2
  have hc4 := ((bcell (below_drawn w 0)).1 b 4 (by omega))
  have HB := Lib.hid hB
  clear hA hB hPw h0 h1 h2 h3 g0 g1 g2 n0 n1 n2 hz
  go_enter Tryz.func103, Tryz.ntmps103
  go_wp2_with fail
  refine (cutS_any s _ w hG (by omega)).mono ?_
  rintro e w1 ⟨rfl, k, rfl⟩
  rw [show bl ⟨#[32]⟩ = [32] from rfl, HA.out]
  have hbk : Below w.heap.size w (w.drewN k) := below_drawn w k
  have hGk := hG.keep hbk
  go_wp2_with fail
  refine (must_true _).mono ?_
  rintro e wx ⟨rfl, rfl⟩
  go_wp2_with fail
  refine (cutS_any _ _ _ hGk (by rw [← bl_len, bl_mk]; omega)).mono ?_
  rintro e wx ⟨rfl, k2, rfl⟩
  rw [show bl ⟨#[61]⟩ = [61] from rfl, bl_mk, HB.out]
  go_wp2_with fail
  refine (must_false _).mono ?_
  rintro e w3 ⟨rfl, rfl⟩
  go_wp2
  exact ⟨rfl, rfl, FrN.of_below (below_drawn w _) hmw⟩
set_option maxRecDepth 100000 in
set_option maxHeartbeats 1000000 in
theorem line_file_no2 {G : Nat} (m b : Nat) (p : Sp.Pk) (s : ByteArray) (w : World) (hG : Glob G w) (hP : PackAt w m b p) (hs : s.size < 1000000) (i : Nat) (a1 a2 : Sp.Str) (b1 b2 : Sp.Str) (hA : Lib.cut (bl s) [32] = (a1, a2, true)) (hi : ((i : Int) == 0) = false) (hw0 : (a1 == [112, 97, 99, 107, 97, 103, 101]) = false) (hw1 : (a1 == [110, 101, 101, 100, 115]) = false) (hw2 : (a1 == [98, 97, 114, 115]) = false) (hw3 : (a1 == [102, 105, 108, 101]) = true) (hB : Lib.cut a2 [61] = (b1, b2, true)) (hc : 24 < b2.length) :
    Calls Tryz.prog 103 #[.pointer (some ⟨b, 0, none⟩), .int .i64 (i : Int), .string s] w fun e w' => e = .panicked [{v := .iface 177 (.agg #[]), recovered := false}] ∧ FrN m b w w' := by
  have hPw := hP
  obtain ⟨nv, bv, fv, hmw, hbm, h0, h1, h2, h3, h4, g0, g1, g2, n0, n1, n2, hz⟩ := hP
  have ha2 : a2.length < 1000000 := by
    have := W2.cut_snd (bl s) [32]
    rw [hA, bl_len] at this; simp only at this; omega
  have HA := Lib.hid hA
  have hb2 : b2.length < 1000000 := by
    have := W2.cut_snd a2 [61]
    rw [hB] at this; simp only at this; omega
  obtain ⟨fa, fc, rfl⟩ := W3.row_slice g2
  have hc4 := ((bcell (below_drawn w 0)).1 b 4 (by omega))
  have HB := Lib.hid hB
  clear hA hB hPw h0 h1 h2 h3 g0 g1 g2 n0 n1 n2 hz
  go_enter Tryz.func103, Tryz.ntmps103
  go_wp2_with fail
  refine (cutS_any s _ w hG (by omega)).mono ?_
  rintro e w1 ⟨rfl, k, rfl⟩
  rw [show bl ⟨#[32]⟩ = [32] from rfl, HA.out]
  have hbk : Below w.heap.size w (w.drewN k) := below_drawn w k
  have hGk := hG.keep hbk
  go_wp2_with fail
  refine (must_true _).mono ?_
  rintro e wx ⟨rfl, rfl⟩
  go_wp2_with fail
  refine (cutS_any _ _ _ hGk (by rw [← bl_len, bl_mk]; omega)).mono ?_
  rintro e wx ⟨rfl, k2, rfl⟩
  rw [show bl ⟨#[61]⟩ = [61] from rfl, bl_mk, HB.out]
  go_wp2_with fail
  refine (must_false _).mono ?_
  rintro e w3 ⟨rfl, rfl⟩
  go_wp2
  exact ⟨rfl, rfl, FrN.of_below (below_drawn w _) hmw⟩
set_option maxRecDepth 100000 in
set_option maxHeartbeats 1000000 in
theorem line_file_no3 {G : Nat} (m b : Nat) (p : Sp.Pk) (s : ByteArray) (w : World) (hG : Glob G w) (hP : PackAt w m b p) (hs : s.size < 1000000) (i : Nat) (a1 a2 : Sp.Str) (b1 b2 : Sp.Str) (hA : Lib.cut (bl s) [32] = (a1, a2, true)) (hi : ((i : Int) == 0) = false) (hw0 : (a1 == [112, 97, 99, 107, 97, 103, 101]) = false) (hw1 : (a1 == [110, 101, 101, 100, 115]) = false) (hw2 : (a1 == [98, 97, 114, 115]) = false) (hw3 : (a1 == [102, 105, 108, 101]) = true) (hB : Lib.cut a2 [61] = (b1, b2, true)) (hc : b2.length ≤ 24) (hfl : 4 ≤ p.files.length) :
    Calls Tryz.prog 103 #[.pointer (some ⟨b, 0, none⟩), .int .i64 (i : Int), .string s] w fun e w' => e = .panicked [{v := .iface 177 (.agg #[]), recovered := false}] ∧ FrN m b w w' := by
  have hPw := hP
  obtain ⟨nv, bv, fv, hmw, hbm, h0, h1, h2, h3, h4, g0, g1, g2, n0, n1, n2, hz⟩ := hP
  have ha2 : a2.length < 1000000 := by
    have := W2.cut_snd (bl s) [32]
    rw [hA, bl_len] at this; simp only at this; omega
  have HA := Lib.hid hA
  have hb2 : b2.length < 1000000 := by
    have := W2.cut_snd a2 [61]
    rw [hB] at this; simp only at this; omega
  obtain ⟨fa, fc, rfl⟩ := W3.row_slice g2
  have hc4 := ((bcell (below_drawn w 0)).1 b 4 (by omega))
  have HB := Lib.hid hB
  clear hA hB hPw h0 h1 h2 h3 g0 g1 g2 n0 n1 n2 hz
  go_enter Tryz.func103, Tryz.ntmps103
  go_wp2_with fail
  refine (cutS_any s _ w hG (by omega)).mono ?_
  rintro e w1 ⟨rfl, k, rfl⟩
  rw [show bl ⟨#[32]⟩ = [32] from rfl, HA.out]
  have hbk : Below w.heap.size w (w.drewN k) := below_drawn w k
  have hGk := hG.keep hbk
  go_wp2_with fail
  refine (must_true _).mono ?_
  rintro e wx ⟨rfl, rfl⟩
  go_wp2_with fail
  refine (cutS_any _ _ _ hGk (by rw [← bl_len, bl_mk]; omega)).mono ?_
  rintro e wx ⟨rfl, k2, rfl⟩
  rw [show bl ⟨#[61]⟩ = [61] from rfl, bl_mk, HB.out]
  go_wp2_with fail
  rw [show decide ((p.files.length : Int) < 4) = false from decide_eq_false (by omega)]
  refine (must_false _).mono ?_
  rintro e w3 ⟨rfl, rfl⟩
  go_wp2
  exact ⟨rfl, rfl, FrN.of_below (below_drawn w _) hmw⟩
end Go.Proofs.YtfphcecjhdkcoaaGreatDoor
/-
Walks of the program's path: its parts.
-/
namespace Go.Proofs.YtfphcecjhdkcoaaGreatDoor
open Go.RowKit
theorem pathS_arr : bl ⟨#[97, 98, 99, 100, 101, 102, 103, 104, 105, 106, 107, 108, 109, 110, 111, 112, 113, 114, 115, 116, 117, 118, 119, 120, 121, 122, 48, 49, 50, 51, 52, 53, 54, 55, 56, 57, 46, 95]⟩ = Sp.pathS := rfl
theorem part_yes (s : ByteArray) (w : World) (hn : Sp.isPart (bl s) = true) :
    Calls Tryz.prog 198 #[.string s] w fun e w' => e = .returned (.int .i64 0) ∧ Below w.heap.size w w' := by
  obtain ⟨ha, h1, h2⟩ : Sp.among (bl s) Sp.pathS 1 8 = true ∧ (s.toList == [46]) = false ∧ (s.toList == [46, 46]) = false := by
    unfold Sp.isPart at hn; simp only [Bool.and_eq_true] at hn; rw [toList_bl]; simpa [and_assoc] using hn
  have HA := Lib.hid ha
  clear ha hn
  go_enter Tryz.func198, Tryz.ntmps198
  go_wp2_with fail
  refine (among_any s _ 1 8 w (by decide) (W1.ascii_of (by decide))).mono ?_
  rintro e w1 ⟨rfl, hb⟩
  rw [pathS_arr, HA.out]
  go_wp2_with fail
  refine (must_true _).mono ?_
  rintro e w2 ⟨rfl, rfl⟩
  go_wp2
  go_ret
  exact ⟨rfl, hb⟩
theorem part_no (s : ByteArray) (w : World) (hn : Sp.isPart (bl s) = false) :
    Calls Tryz.prog 198 #[.string s] w fun e w' => e = .panicked [{v := .iface 177 (.agg #[]), recovered := false}] ∧ Below w.heap.size w w' := by
  cases ha : Sp.among (bl s) Sp.pathS 1 8 with
  | false =>
    have HA := Lib.hid ha
    clear ha hn
    go_enter Tryz.func198, Tryz.ntmps198
    go_wp2_with fail
    refine (among_any s _ 1 8 w (by decide) (W1.ascii_of (by decide))).mono ?_
    rintro e w1 ⟨rfl, hb⟩
    rw [pathS_arr, HA.out]
    go_wp2_with fail
    refine (must_false _).mono ?_
    rintro e w2 ⟨rfl, rfl⟩
    go_wp2
    exact ⟨rfl, rfl, hb⟩
  | true =>
    have HA := Lib.hid ha
    by_cases h1 : bl s = [46]
    · have h1' : (s.toList == [46]) = true := by rw [toList_bl, h1]; rfl
      clear ha hn h1
      go_enter Tryz.func198, Tryz.ntmps198
      go_wp2_with fail
      refine (among_any s _ 1 8 w (by decide) (W1.ascii_of (by decide))).mono ?_
      rintro e w1 ⟨rfl, hb⟩
      rw [pathS_arr, HA.out]
      go_wp2_with fail
      refine (must_false _).mono ?_
      rintro e w2 ⟨rfl, rfl⟩
      go_wp2
      exact ⟨rfl, rfl, hb⟩
    · have h1' : (s.toList == [46]) = false := by rw [toList_bl]; simpa using h1
      have h2' : (s.toList == [46, 46]) = true := by
        rw [toList_bl]; unfold Sp.isPart at hn; rw [ha] at hn
        have hx : (bl s != [46]) = true := by simpa using h1
        rw [hx] at hn; simpa using hn
      clear ha hn h1
      go_enter Tryz.func198, Tryz.ntmps198
      go_wp2_with fail
      refine (among_any s _ 1 8 w (by decide) (W1.ascii_of (by decide))).mono ?_
      rintro e w1 ⟨rfl, hb⟩
      rw [pathS_arr, HA.out]
      go_wp2_with fail
      refine (must_false _).mono ?_
      rintro e w2 ⟨rfl, rfl⟩
      go_wp2
      exact ⟨rfl, rfl, hb⟩
def partO (s : Sp.Str) : Option Int := if Sp.isPart s then some 0 else none
theorem partO_none {G : Nat} (s : ByteArray) (w : World) (_hG : Glob G w) (_hs : s.size < 4294967281) (h : partO (bl s) = none) :
    Calls Tryz.prog 198 #[.string s] w fun e w' => e = .panicked [{v := .iface 177 (.agg #[]), recovered := false}] ∧ Below w.heap.size w w' := by
  unfold partO at h
  split at h
  · cases h
  · rename_i hn; exact part_no s w (by simpa using hn)
theorem partO_some {G : Nat} (s : ByteArray) (w : World) (c : Int) (_hG : Glob G w) (_hs : s.size < 4294967281) (h : partO (bl s) = some c) :
    Calls Tryz.prog 198 #[.string s] w fun e w' => e = .returned (.int .i64 c) ∧ Below w.heap.size w w' := by
  unfold partO at h
  split at h
  · rename_i hn; cases h; exact part_yes s w hn
  · cases h
/-- What 'each' of parts comes to. -/
def EachI (s sep : Sp.Str) (most B : Nat) (w : World) (e : Ending) (w' : World) : Prop :=
  Below B w w' ∧ ((∃ l v, Sp.each s sep most partO = some l ∧ e = .returned v ∧ w'.ownsRow B 3 1 v l.length (l.map (Value.int .i64))) ∨ (Sp.each s sep most partO = none ∧ e = .panicked [{v := .iface 177 (.agg #[]), recovered := false}]))
set_option maxRecDepth 100000 in
set_option maxHeartbeats 400000 in
theorem eachI_any {G : Nat} (s sep : ByteArray) (most : Nat) (w : World) (hG : Glob G w) (hs : s.size < 1000000) (h0 : 0 < sep.size) :
    Calls Tryz.prog 197 #[.string s, .string sep, .int .i64 most, .func (.func 198) #[] #[]] w (EachI (bl s) (bl sep) most w.heap.size w) := by
  have htn : bl sep ≠ [] := by intro h; rw [← bl_len, h] at h0; simp at h0
  have hpl := Sp.split_length (bl s) (bl sep) htn
  rw [bl_len] at hpl
  have hpm : ∀ x ∈ Lib.split (bl s) (bl sep), x.length < 1000000 := fun x hx => by
    have := Sp.split_mem (bl s) (bl sep) x htn hx; rw [bl_len] at this; omega
  have HPM := Lib.hid hpm
  clear htn hpm
  obtain ⟨B, hB⟩ : ∃ B, w.heap.size = B := ⟨_, rfl⟩
  rw [hB]
  have hGB : G ≤ B := by rw [← hB]; exact hG.size
  have HB := Lib.hid hB
  clear hB
  go_enter Tryz.func197, Tryz.ntmps197
  go_wp2_with fail
  refine (splitS_any s sep w hG (by omega) h0).mono ?_
  rintro e w1 ⟨v, rfl, hv, hb⟩
  generalize hL : Lib.split (bl s) (bl sep) = L at *
  obtain ⟨a, cap, rfl, hcap, hget⟩ := hv.get
  have HL := Lib.hid hL.symm
  have HG := Lib.hid hget
  clear hL hv hget
  rw [HB.out] at hb
  go_wp2
  go_loopw [9, 16] (fun v i wr => ∃ (k : Nat) (done : List Int), k ≤ L.length ∧ i = .int .i64 k ∧ Sp.mapO partO (L.take k) = some done ∧ wr.ownsRow w1.heap.size 3 1 v done.length (done.map (Value.int .i64)) ∧ Below w1.heap.size w1 wr) (fun _ i _ => L.length - (intOf i).toNat)
  case atStart => exact ⟨0, [], Nat.zero_le _, rfl, rfl, World.ownsRow_nil _ _ _ _, Below.refl _ _⟩
  case round =>
    obtain ⟨k, done, hk, rfl, hdone, hown, hbel⟩ := hrel
    have hlen := W3.mapO_len _ _ _ hdone
    rw [List.length_take, Nat.min_eq_left hk] at hlen
    have HD := Lib.hid hdone
    have hn : done.length ≤ 1000000 := by omega
    have HLEN := Lib.hid hlen
    have hbw : Below B w wr := hb.trans (hbel.mono (by have := hb.size; rw [HB.out] at this; exact this))
    have hGr : Glob G wr := hG.below hbw hGB
    have hw1 : w1.heap.size ≤ wr.heap.size := hbel.size
    have hbw0 : B ≤ wr.heap.size := by have := hbw.size; rw [HB.out] at this; exact this
    clear hdone hlen
    by_cases h : k < L.length
    · obtain ⟨b, off, rfl, hbb, hcell⟩ := HG.out k h
      have hcell' := (hbel.cell (p := ⟨b, off + k, none⟩) hbb).trans hcell
      have hpiece : (⟨L[k].toArray⟩ : ByteArray).size < 4294967281 := by
        have := HPM.out L[k] (List.getElem_mem h); rw [← bl_len, bl_mk]; omega
      clear hcell HG
      cases hone : partO L[k] with
      | none =>
        have HO := Lib.hid hone
        clear hone
        go_wp2_with fail
        refine (partO_none ⟨L[k].toArray⟩ wr hGr hpiece HO.out).mono ?_
        rintro e w2 ⟨rfl, hb2⟩
        go_wp2
        exact ⟨rfl, hbw.trans (hb2.mono hbw0), .inr ⟨W3.each_stop HL.out (W3.mapO_stop _ L[k] L (List.getElem_mem h) HO.out), rfl⟩⟩
      | some c =>
        have HO := Lib.hid hone
        clear hone
        go_wp2_with fail
        refine (partO_some ⟨L[k].toArray⟩ wr c hGr hpiece HO.out).mono ?_
        rintro e w2 ⟨rfl, hb2⟩
        have hown2 := W3.row_keep hown hb2
        have hbel2 := hbel.trans (hb2.mono hw1)
        go_wp2_with (at_builtin; refine wp_app app77 w2 [.int .i64 c] rfl (by simp [Value.oneCell']) rfl _ _ rfl w1.heap.size _ _ _ rfl hown2 rfl (by omega) (by have := hb2.size; omega) ?_; intro v' w3 hown' hgrow _)
        have hbel3 := below_of_grown hbel2 hbel2.size hown2 hgrow
        go_roundw
        case rel => exact ⟨k + 1, done ++ [c], h, by go_num, W3.mapO_next h HD.out HO.out, by simpa using hown', hbel3⟩
        case measure => simp [intOf]; omega
    · obtain rfl : k = L.length := by omega
      have hdone' : Sp.mapO partO L = some done := by have := HD.out; rwa [List.take_length] at this
      have hln : (done.length : Int) = L.length := by have := HLEN.out; omega
      have HD' := Lib.hid hdone'
      have HLN := Lib.hid hln
      clear hdone' hln HG
      obtain ⟨ra, rc, rfl⟩ := W3.row_slice hown
      by_cases hmo : done.length ≤ most
      · go_wp2_with fail
        refine (must_true _).mono ?_
        rintro e w2 ⟨rfl, rfl⟩
        go_wp2
        go_ret
        exact ⟨hbw, .inl ⟨done, _, by rw [W3.each_of HL.out HD'.out, if_pos hmo], rfl, W3.row_base hown (by have := hb.size; rw [HB.out] at this; exact this)⟩⟩
      · go_wp2_with fail
        refine (must_false _).mono ?_
        rintro e w2 ⟨rfl, rfl⟩
        go_wp2
        exact ⟨rfl, hbw, .inr ⟨by rw [W3.each_of HL.out HD'.out, if_neg hmo], rfl⟩⟩
theorem mapO_part : ∀ L : List Sp.Str, L.all Sp.isPart = true → Sp.mapO partO L = some (L.map fun _ => 0)
  | [], _ => rfl
  | x :: r, h => by
    rw [List.all_cons, Bool.and_eq_true] at h
    have hx : partO x = some 0 := if_pos h.1
    simp only [Sp.mapO, mapO_part r h.2, hx]
    rfl
theorem each_path (s : Sp.Str) : Sp.isPath s = (Sp.each s [47] 3 partO).isSome := by
  cases h : (Lib.split s [47]).all Sp.isPart with
  | true =>
    rw [W3.each_of rfl (mapO_part _ h)]
    unfold Sp.isPath
    rw [h, Bool.true_and, List.length_map]
    by_cases h2 : (Lib.split s [47]).length ≤ 3
    · rw [if_pos h2]; simp [h2]
    · rw [if_neg h2]; simp [h2]
  | false =>
    obtain ⟨x, hx, hp⟩ := List.all_eq_false.1 h
    rw [W3.each_stop rfl (W3.mapO_stop partO x _ hx (if_neg hp))]
    unfold Sp.isPath
    rw [h]; rfl
theorem path_yes {G : Nat} (s : ByteArray) (w : World) (hG : Glob G w) (hs : s.size < 1000000) (h : Sp.isPath (bl s) = true) :
    Calls Tryz.prog 159 #[.string s] w fun e w' => e = .returned (.string s) ∧ Below w.heap.size w w' := by
  rw [each_path] at h
  have H := Lib.hid h
  clear h
  go_enter Tryz.func159, Tryz.ntmps159
  go_wp2_with fail
  refine (eachI_any s _ 3 w hG hs (by decide)).mono ?_
  rintro e w1 ⟨hb, ⟨l, v, _, rfl, _⟩ | ⟨hno, _⟩⟩
  · go_wp2
    go_ret
    exact ⟨rfl, hb⟩
  · exfalso
    have := H.out
    rw [show ([47] : Sp.Str) = bl ⟨#[47]⟩ from rfl, hno] at this
    cases this
theorem path_no {G : Nat} (s : ByteArray) (w : World) (hG : Glob G w) (hs : s.size < 1000000) (h : Sp.isPath (bl s) = false) :
    Calls Tryz.prog 159 #[.string s] w fun e w' => e = .panicked [{v := .iface 177 (.agg #[]), recovered := false}] ∧ Below w.heap.size w w' := by
  rw [each_path] at h
  have H := Lib.hid h
  clear h
  go_enter Tryz.func159, Tryz.ntmps159
  go_wp2_with fail
  refine (eachI_any s _ 3 w hG hs (by decide)).mono ?_
  rintro e w1 ⟨hb, ⟨l, v, hl, _, _⟩ | ⟨_, rfl⟩⟩
  · exfalso
    have := H.out
    rw [show ([47] : Sp.Str) = bl ⟨#[47]⟩ from rfl, hl] at this
    cases this
  · go_wp2
    exact ⟨rfl, rfl, hb⟩
end Go.Proofs.YtfphcecjhdkcoaaGreatDoor
namespace Go.Proofs.YtfphcecjhdkcoaaGreatDoor
open Go.RowKit
theorem cut_fst (s t : Sp.Str) : (Lib.cut s t).1.length ≤ s.length := by
  unfold Lib.cut; split
  · simp; omega
  · simp
set_option maxRecDepth 100000 in
set_option maxHeartbeats 1000000 in
theorem line_file_no4 {G : Nat} (m b : Nat) (p : Sp.Pk) (s : ByteArray) (w : World) (hG : Glob G w) (hP : PackAt w m b p) (hs : s.size < 1000000) (i : Nat) (a1 a2 : Sp.Str) (b1 b2 : Sp.Str) (hA : Lib.cut (bl s) [32] = (a1, a2, true)) (hi : ((i : Int) == 0) = false) (hw0 : (a1 == [112, 97, 99, 107, 97, 103, 101]) = false) (hw1 : (a1 == [110, 101, 101, 100, 115]) = false) (hw2 : (a1 == [98, 97, 114, 115]) = false) (hw3 : (a1 == [102, 105, 108, 101]) = true) (hB : Lib.cut a2 [61] = (b1, b2, true)) (hc : b2.length ≤ 24) (hfl : p.files.length < 4) (hp : Sp.isPath b1 = false) :
    Calls Tryz.prog 103 #[.pointer (some ⟨b, 0, none⟩), .int .i64 (i : Int), .string s] w fun e w' => e = .panicked [{v := .iface 177 (.agg #[]), recovered := false}] ∧ FrN m b w w' := by
  have hPw := hP
  obtain ⟨nv, bv, fv, hmw, hbm, h0, h1, h2, h3, h4, g0, g1, g2, n0, n1, n2, hz⟩ := hP
  have ha2 : a2.length < 1000000 := by
    have := W2.cut_snd (bl s) [32]
    rw [hA, bl_len] at this; simp only at this; omega
  have HA := Lib.hid hA
  have hb1 : (⟨b1.toArray⟩ : ByteArray).size < 1000000 := by
    rw [← bl_len, bl_mk]
    have : b1.length ≤ a2.length := by have := cut_fst a2 [61]; rw [hB] at this; exact this
    omega
  have HP : Hid (Sp.isPath (bl ⟨b1.toArray⟩) = false) := Lib.hid (by rw [bl_mk]; exact hp)
  obtain ⟨fa, fc, rfl⟩ := W3.row_slice g2
  have HB := Lib.hid hB
  clear hA hB hp hPw h0 h1 h2 h3 g0 g1 g2 n0 n1 n2 hz
  go_enter Tryz.func103, Tryz.ntmps103
  go_wp2_with fail
  refine (cutS_any s _ w hG (by omega)).mono ?_
  rintro e w1 ⟨rfl, k, rfl⟩
  rw [show bl ⟨#[32]⟩ = [32] from rfl, HA.out]
  have hbk : Below w.heap.size w (w.drewN k) := below_drawn w k
  have hGk := hG.keep hbk
  go_wp2_with fail
  refine (must_true _).mono ?_
  rintro e wx ⟨rfl, rfl⟩
  go_wp2_with fail
  refine (cutS_any _ _ _ hGk (by rw [← bl_len, bl_mk]; omega)).mono ?_
  rintro e wx ⟨rfl, k2, rfl⟩
  rw [show bl ⟨#[61]⟩ = [61] from rfl, bl_mk, HB.out]
  go_wp2_with fail
  rw [show decide ((p.files.length : Int) < 4) = true from decide_eq_true (by omega)]
  refine (must_true _).mono ?_
  rintro e wx ⟨rfl, rfl⟩
  have hpn := fun W hGW => path_no ⟨b1.toArray⟩ W (G := G) hGW hb1 HP.out
  have hGn := hG.keep (below_drawn w (k + k2))
  clear hc hfl
  go_wp2_with fail
  go_region_dies
  all_goals (refine (hpn _ (hG.keep (below_drawn w _))).mono ?_; rintro e w5 ⟨rfl, hb5⟩; exact ⟨rfl, rfl, FrN.of_below ((below_drawn w _).trans (hb5.mono (below_drawn w _).size)) hmw⟩)
end Go.Proofs.YtfphcecjhdkcoaaGreatDoor

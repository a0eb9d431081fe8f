/-
The reference's line, whole; the reference's Read.
-/
import Derived.Test.YtfphcecjhdkcoaaGreatDoorFormsP12
import Derived.Deep.RegionWith
import Derived.Deep.RegionLaw
import Derived.Deep.DeepCutAuto
/-
The walk of the reference's line that names a file; the reference's line, whole.
-/
namespace Go.Proofs.YtfphcecjhdkcoaaGreatDoor
open Go.RowKit
theorem info88 : (Tryz.prog.info? 88).map (fun i => (i.zero, i.size, i.bytes)) = some (some (.agg #[.string ⟨#[]⟩, .string ⟨#[]⟩]), 2, 32) := by kernel_rfl
theorem app28 : AppTy 28 88 2 32 := AppTy.of Tryz.underlying28 info88 rfl (by decide) (by decide)
theorem RPk.addFile {w w6 : World} {m b : Nat} {p : Sp.Pk} (h : RPk w m b p) (f : Sp.Fl) (g cap : Nat)
    (hown : w6.ownsRow m 88 2 (.slice (some ⟨g, 0, none⟩) (p.files.length + 1) cap) (p.files.length + 1) (p.files.flatMap flCells ++ flCells f)) (hg : Below m w w6) :
    RPk (w6.setCell ⟨b, 4, none⟩ (.slice (some ⟨g, 0, none⟩) (p.files.length + 1) cap)) m b { p with files := p.files ++ [f] } := by
  obtain ⟨nv, bv, fv', hm, hbm, h0, h1, h2, h3, h4, g0, g1, g2, n0, n1, n2, hz⟩ := h
  have hc : ∀ o, w6.cell? ⟨b, o, none⟩ = w.cell? ⟨b, o, none⟩ := fun o => hg.cell (p := ⟨b, o, none⟩) (show b < m by omega)
  have hf : ∀ o, w6.frozen? ⟨b, o, none⟩ = false := fun o => (hg.frozen (p := ⟨b, o, none⟩) (show b < m by omega)).trans (hz o)
  obtain ⟨c1, c2, c3, c4, c5⟩ := set_facts w6 b 4 (.slice (some ⟨g, 0, none⟩) (p.files.length + 1) cap) _ ((hc 4).trans h4) hf
  have hsz := hg.size
  refine ⟨nv, bv, _, by omega, hbm, ((c2 0 (by omega)).trans (hc 0)).trans h0, ((c2 1 (by omega)).trans (hc 1)).trans h1, ((c2 2 (by omega)).trans (hc 2)).trans h2, ((c2 3 (by omega)).trans (hc 3)).trans h3, c1,
    g0.keep fun x hx => (c3 x (by omega)).trans (hg.block x hx.1), SlOn.keep g1 fun x hx => (c3 x (by omega)).trans (hg.block x hx.1), ?_, n0, n1, fun e => by simp at e, c4⟩
  rw [List.length_append, List.flatMap_append]
  have : [f].flatMap flCells = flCells f := by simp
  rw [this]
  exact row_block hown fun k hk => c3 k (by omega)
namespace R10
def chk (f : Sp.Fl) (g : Sp.Fl) : Bool := !Sp.over f.path g.path && !Sp.over g.path f.path && f.path != g.path
theorem fileR_eq (fs : List Sp.Fl) (t : Sp.Str) (f : Sp.Fl) (ok : Bool) (h : fileO t = if ok then some f else none) : T2.fileR fs t = if ok && fs.all (chk f) then some f else none := by
  unfold fileO at h
  unfold T2.fileR
  generalize Lib.cut t [61] = c at h
  obtain ⟨c1, c2, c3⟩ := c
  simp only at h ⊢
  cases ok with
  | false =>
    simp only [Bool.false_eq_true, if_false] at h
    have : (c3 && Sp.isPath c1 && decide (c2.length ≤ 24)) = false := by
      rw [Bool.eq_false_iff]; intro e; rw [if_pos e] at h; cases h
    rw [this]; rfl
  | true =>
    simp only [if_true] at h
    split at h
    · rename_i hh
      cases h
      rw [hh]; rfl
    · cases h
theorem row_get {w : World} {m : Nat} {fv : Value} {fs : List Sp.Fl} (h : w.ownsRow m 88 2 fv fs.length (fs.flatMap flCells)) : FlOn (fun x => x < w.heap.size ∧ m ≤ x ∧ fv.ownBlock = some x) w fv fs := by
  refine sl_of_row (B := m) (e := 88) (fun x hx => ?_) ?_
  · obtain ⟨f, _, rfl⟩ := List.mem_map.1 hx; rfl
  · rw [List.length_map]
    have : (fs.map flCells).flatten = fs.flatMap flCells := by simp [List.flatMap]
    rw [this]; exact h
end R10
set_option maxRecDepth 100000 in
set_option maxHeartbeats 1000000 in
theorem lineR_file (m b : Nat) (p : Sp.Pk) (s : ByteArray) (w : World) (hP : RPk w m b p) (hok : PkOk p) (hs : s.size < 1000000) (i : Nat) (hi : ((i : Int) == 0) = false) (h1 : T2.needsP.isPrefixOf (bl s) = false) (h2 : T2.barsP.isPrefixOf (bl s) = false) (h3 : T2.fileP.isPrefixOf (bl s) = true) (hl : p.files.length < 4) :
    Calls Tryz.prog 44 #[.pointer (some ⟨b, 0, none⟩), .int .i64 i, .string s] w (LineR (T2.laterR p (bl s)) m b w) := by
  have hc : T2.laterR p (bl s) = (T2.fileR p.files ((bl s).drop 5)).map fun f => { p with files := p.files ++ [f] } := by
    unfold T2.laterR; rw [h1, h2, h3, show decide (p.files.length < 4) = true from decide_eq_true hl]; rfl
  have h5 : 5 ≤ s.size := R8.pre_size h3
  have hPw := hP
  obtain ⟨nv, bv, fv, hm, hbm, k0, k1, k2, k3, k4, g0, g1, g2, n0, n1, n2, hz⟩ := hP
  have hgf := (R10.row_get g2).get
  obtain ⟨fa, fc, rfl, hfc, hget⟩ := hgf
  have hbs : b < w.heap.size := by omega
  have HC := Lib.hid hc
  have H1 := Lib.hid h1
  have H2 := Lib.hid h2
  have H3 := Lib.hid h3
  have HPW := Lib.hid hPw
  have HG := Lib.hid hget
  have HG2 := Lib.hid g2
  have HK4 := Lib.hid k4
  have HZ := Lib.hid hz
  clear hc h1 h2 h3 g0 g1 g2 n0 n1 n2 hPw hget k0 k1 k2 k3 hz
  go_enter Tryz.func44, Tryz.ntmps44
  go_wp2_with fail
  refine (begins_any _ _ _).mono ?_
  rintro e w1 ⟨rfl, rfl⟩
  rw [show bl ⟨#[110, 101, 101, 100, 115, 32]⟩ = T2.needsP from rfl, H1.out]
  go_wp2_with fail
  refine (begins_any _ _ _).mono ?_
  rintro e w1 ⟨rfl, rfl⟩
  rw [show bl ⟨#[98, 97, 114, 115, 32]⟩ = T2.barsP from rfl, H2.out]
  go_wp2_with fail
  refine (begins_any _ _ _).mono ?_
  rintro e w1 ⟨rfl, rfl⟩
  rw [show bl ⟨#[102, 105, 108, 101, 32]⟩ = T2.fileP from rfl, H3.out]
  go_wp2
  go_quiet (fail)
  go_wp2
  go_quiet (fail)
  go_wp2_with fail
  refine (file_any _ _ (by rw [← bl_len, bl_from, List.length_drop, bl_len]; omega)).mono ?_
  rintro e w1 ⟨hb, f, fok, rfl, hfo, hflen⟩
  rw [bl_from] at hfo hflen
  have hfl : f.path.length < 1000000 := by rw [List.length_drop, bl_len] at hflen; omega
  have HFR := Lib.hid (R10.fileR_eq p.files _ f fok hfo)
  have hbw : Below w.heap.size w w1 := Below.trans (below_drawn w _) (hb.mono (by simp))
  have hs1 := hbw.size
  have j4 := ((bcell hbw).1 b 4 hbs).trans HK4.out
  have z4 := ((bcell hbw).2 b 4 hbs).trans (HZ.out 4)
  have hb3 : Below w.heap.size w (w1.alloc (.cells #[.string ⟨f.path.toArray⟩, .string ⟨f.content.toArray⟩] 88)) := hbw.alloc hs1 _
  clear hfo hflen k4
  unfold sv
  have hov := fun (x y : Sp.Str) (W : World) (hx : x.length < 1000000) => over_any ⟨x.toArray⟩ ⟨y.toArray⟩ W (by rw [← bl_len, bl_mk]; exact hx)
  have HOV := Lib.hid hov
  clear hov
  have hpl : ∀ k, (hk : k < p.files.length) → p.files[k].path.length < 1000000 := fun k hk => by have := hok.paths p.files[k] (List.getElem_mem hk); omega
  have HPL := Lib.hid hpl
  clear hpl
  obtain ⟨w3, hw3⟩ : ∃ w3, w3 = w1.alloc (.cells #[.string ⟨f.path.toArray⟩, .string ⟨f.content.toArray⟩] 88) := ⟨_, rfl⟩
  have hf0 : w3.cell? ⟨w1.heap.size, 0, none⟩ = some (.string ⟨f.path.toArray⟩) := by rw [hw3, World.cell?_alloc_at _ _ _ _ rfl]; rfl
  have hf1 : w3.cell? ⟨w1.heap.size, 1, none⟩ = some (.string ⟨f.content.toArray⟩) := by rw [hw3, World.cell?_alloc_at _ _ _ _ rfl]; rfl
  have hs3 : w3.heap.size = w1.heap.size + 1 := by rw [hw3]; simp
  rw [← hw3] at hb3
  have i4 := ((bcell hb3).1 b 4 hbs).trans HK4.out
  have y4 := ((bcell hb3).2 b 4 hbs).trans (HZ.out 4)
  have HW3 := Lib.hid hw3
  have HS3 := Lib.hid hs3
  clear j4 z4
  go_wp2_with fail
  rw [← HW3.out]
  clear hw3 hs3
  go_loopw [20, 21, 22, 23] (fun acc i _ _ wr => ∃ (k n : Nat), k ≤ p.files.length ∧ i = .int .i64 k ∧ acc = .bool (fok && (p.files.take k).all (R10.chk f)) ∧ wr = w3.drewN n) (fun _ i _ _ _ => p.files.length - (intOf i).toNat)
  case atStart => exact ⟨0, 0, Nat.zero_le _, rfl, by simp, rfl⟩
  case round =>
    obtain ⟨k, n, hk, rfl, rfl, hwr⟩ := hrel
    have hcw : ∀ a, wr.cell? a = w3.cell? a := fun a => by rw [hwr]; rfl
    have hfw : ∀ a, wr.frozen? a = w3.frozen? a := fun a => by rw [hwr]; rfl
    have hg0 := (hcw ⟨w1.heap.size, 0, none⟩).trans hf0
    have hg1 := (hcw ⟨w1.heap.size, 1, none⟩).trans hf1
    have hg4 := (hcw ⟨b, 4, none⟩).trans i4
    have hgz := (hfw ⟨b, 4, none⟩).trans y4
    have hbwr : Below w.heap.size w wr := by rw [hwr]; exact below_drewN hb3 n
    have HWR := Lib.hid hwr
    clear hcw hfw hf0 hf1 i4 y4 hwr
    by_cases h : k < p.files.length
    · obtain ⟨fb, fo, rfl, ⟨hfb, _, _⟩, c0, c1⟩ := HG.out k h
      have d0 := (hbwr.cell (p := ⟨fb, fo + k * 2, none⟩) hfb).trans c0
      unfold sv at d0
      clear c0 c1 HG
      generalize hacc : (fok && (p.files.take k).all (R10.chk f)) = acc
      have HA := Lib.hid hacc
      clear hacc
      go_wp2
      go_quiet (first | (go_at_call 72; exact ((HOV.out f.path p.files[k].path _ hfl).mono fun e w' h => ⟨h.1, _, h.2.symm⟩)))
      rw [bl_mk, bl_mk]
      go_wp2
      go_quiet (first | (go_at_call 72; exact ((HOV.out p.files[k].path f.path _ (HPL.out k h)).mono fun e w' h => ⟨h.1, _, h.2.symm⟩)))
      rw [bl_mk, bl_mk]
      go_wp2_with fail
      have hnext : ∀ (acc' : Bool), acc' = (acc && R10.chk f p.files[k]) → acc' = (fok && (p.files.take (k + 1)).all (R10.chk f)) := fun acc' e => by
        rw [e, ← HA.out, List.take_succ_eq_append_getElem h, List.all_append]
        simp [Bool.and_assoc]
      have HX := Lib.hid hnext
      clear hnext
      generalize h1 : Sp.over f.path p.files[k].path = o1
      generalize h2 : Sp.over p.files[k].path f.path = o2
      have H1' := Lib.hid h1
      have H2' := Lib.hid h2
      clear h1 h2
      have hgen : ∀ N, wr.drewN N = w3.drewN (n + N) := fun N => by rw [HWR.out, World.drewN_drewN]
      have HGEN := Lib.hid hgen
      clear hgen
      cases acc with
      | false =>
        go_quiet (fail)
        go_wp2
        go_roundw
        case rel => exact ⟨k + 1, _, h, by go_num, by rw [← HX.out false rfl], HGEN.out _⟩
        case measure => simp [intOf]; omega
      | true =>
        cases o1 with
        | true =>
          go_quiet (fail)
          go_wp2
          go_roundw
          case rel => exact ⟨k + 1, _, h, by go_num, by rw [← HX.out false (by unfold R10.chk; rw [H1'.out]; rfl)], HGEN.out _⟩
          case measure => simp [intOf]; omega
        | false =>
          cases o2 with
          | true =>
            go_quiet (fail)
            go_wp2
            go_roundw
            case rel => exact ⟨k + 1, _, h, by go_num, by rw [← HX.out false (by unfold R10.chk; rw [H1'.out, H2'.out]; rfl)], HGEN.out _⟩
            case measure => simp [intOf]; omega
          | false =>
            go_quiet (fail)
            go_wp2
            go_roundw
            case rel => exact ⟨k + 1, _, h, by go_num, by rw [← HX.out (f.path != p.files[k].path) (by unfold R10.chk; rw [H1'.out, H2'.out]; rfl)]; rfl, HGEN.out _⟩
            case measure => simp [intOf]; omega
    · obtain rfl : k = p.files.length := by omega
      rw [List.take_length]
      clear HG
      generalize hacc : (fok && p.files.all (R10.chk f)) = acc
      have HA := Lib.hid hacc
      clear hacc
      have hown4 := W3.row_keep HG2.out hbwr
      have hswr := hbwr.size
      have hmr : m ≤ wr.heap.size := by omega
      have hbwr2 : b < wr.heap.size := by omega
      have hfwr : w1.heap.size < wr.heap.size := by rw [HWR.out]; have := HS3.out; simp; omega
      go_wp2_with fail
      go_cut [] (fun wx => RPk wx m b { p with files := p.files ++ [f] } ∧ FrN m b w wx)
      case first =>
        go_region_law (first
          | (refine step_app_drew app28 _ [_, _] rfl (by simp [Value.oneCell']) rfl _ _ rfl m _ _ _ rfl hown4 rfl (by omega) hmr ?_; intro g cap w6 hown6 hg6; have hb6 : Below m wr w6 := Below.trans (Below.drew (Below.refl _ _)) (below_of_grown (Below.refl m _) hmr hown4.drew hg6); have hc6 := (hb6.cell (p := ⟨b, 4, none⟩) (show b < m by omega)).trans hg4; have hf6 := (hb6.frozen (p := ⟨b, 4, none⟩) (show b < m by omega)).trans hgz))
        all_goals
          go_wp2_with fail
          go_meet
          exact ⟨(HPW.out.below hbwr).addFile f g cap hown6 hb6, (FrN.of_below hbwr hm).trans (FrN.trans ⟨hb6.os, hb6.tape, hb6.output, hb6.size, fun k hk _ => hb6.block k hk⟩ (FrN.set _ _ _ _ _))⟩
      case rest =>
        obtain ⟨hP6, hF6⟩ := hcut
        have HP6 := Lib.hid hP6
        clear hP6
        go_wp2
        go_ret
        refine ⟨hF6, ?_⟩
        cases acc with
        | false => exact .inl ⟨rfl, by rw [HC.out, HFR.out, HA.out]; rfl⟩
        | true => exact .inr ⟨_, m, rfl, by rw [HC.out, HFR.out, HA.out]; rfl, Nat.le_refl _, HP6.out⟩
end Go.Proofs.YtfphcecjhdkcoaaGreatDoor
namespace Go.Proofs.YtfphcecjhdkcoaaGreatDoor
open Go.RowKit
theorem lineR_later (m b : Nat) (p : Sp.Pk) (s : ByteArray) (w : World) (hP : RPk w m b p) (hok : PkOk p) (hs : s.size < 1000000) (i : Nat) (hi : ((i : Int) == 0) = false) :
    Calls Tryz.prog 44 #[.pointer (some ⟨b, 0, none⟩), .int .i64 i, .string s] w (LineR (T2.laterR p (bl s)) m b w) := by
  cases h1 : T2.needsP.isPrefixOf (bl s) with
  | true =>
    cases hd : (((p.needs.length : Int) + (p.bars.length : Int) + (p.files.length : Int)) == 0) with
    | true => exact lineR_needs m b p s w hP hok hs i hi h1 hd
    | false => exact lineR_none2 m b p s w hP hok hs i hi h1 hd
  | false =>
    cases h2 : T2.barsP.isPrefixOf (bl s) with
    | true =>
      cases hd : (((p.bars.length : Int) + (p.files.length : Int)) == 0) with
      | true => exact lineR_bars m b p s w hP hok hs i hi h1 h2 hd
      | false => exact lineR_none4 m b p s w hP hok hs i hi h1 h2 hd
    | false =>
      cases h3 : T2.fileP.isPrefixOf (bl s) with
      | true =>
        by_cases hl : p.files.length < 4
        · exact lineR_file m b p s w hP hok hs i hi h1 h2 h3 hl
        · exact lineR_none6 m b p s w hP hok hs i hi h1 h2 h3 hl
      | false => exact lineR_none7 m b p s w hP hok hs i hi h1 h2 h3
theorem lineR_any (m b : Nat) (p : Sp.Pk) (s : ByteArray) (w : World) (hP : RPk w m b p) (hok : PkOk p) (hs : s.size < 1000000) (hc : Sp.clash1 (p.files.map (·.path)) = false) (i : Nat) :
    Calls Tryz.prog 44 #[.pointer (some ⟨b, 0, none⟩), .int .i64 i, .string s] w (LineR (Sp.line p (i == 0) (bl s)) m b w) := by
  by_cases h : i = 0
  · subst h
    rw [show ((0 : Nat) == 0) = true from rfl, ← T2.first_eq]
    exact lineR_first m b p s w hP hs
  · rw [show (i == 0) = false from by simpa using h, ← T2.later_eq p (bl s) hc]
    exact lineR_later m b p s w hP hok hs i (by rw [beq_eq_false_iff_ne]; omega)
end Go.Proofs.YtfphcecjhdkcoaaGreatDoor

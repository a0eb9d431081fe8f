/-
The walks of the reference's printing.
-/
import Derived.Test.YtfphcecjhdkcoaaGreatDoorFormsP07
import Derived.Test.YtfphcecjhdkcoaaGreatDoorFormsP12
import Derived.Test.YtfphcecjhdkcoaaGreatDoorFormsP13
/-
The reference's Read: the lines of a text, one behind the other.
-/
namespace Go.Proofs.YtfphcecjhdkcoaaGreatDoor
open Go.RowKit
/-- What the reference's Read comes to. -/
def ReadR (s : Sp.Str) (w : World) (e : Ending) (w' : World) : Prop :=
  Below w.heap.size w w' ∧ ((∃ n, Sp.parse s = .inl n ∧ e = .returned (.tuple #[.agg #[.string ⟨#[]⟩, .string ⟨#[]⟩, .slice none 0 0, .slice none 0 0, .slice none 0 0], .int .i64 (n : Int)])) ∨
    ∃ p nv bv fv, Sp.parse s = .inr p ∧ e = .returned (.tuple #[.agg #[sv p.name, sv p.ver, nv, bv, fv], .int .i64 (-1)]) ∧ PkOk p ∧
      GsOn (fun x => x < w'.heap.size) w' nv p.needs ∧ ChOn (fun x => x < w'.heap.size) w' bv p.bars ∧ FlOn (fun x => x < w'.heap.size) w' fv p.files)
theorem info30 : (Tryz.prog.info? 30).map (fun i => (i.zero, i.size, i.bytes)) = some (some (.agg #[.string ⟨#[]⟩, .string ⟨#[]⟩, .slice none 0 0, .slice none 0 0, .slice none 0 0]), 5, 104) := by kernel_rfl
theorem readR_long (s : ByteArray) (w : World) (h : 300 < s.size) : Calls Tryz.prog 16 #[.string s] w (ReadR (bl s) w) := by
  go_enter Tryz.func16, Tryz.ntmps16
  go_wp2
  refine bodyPost_ret (v := .tuple #[.agg #[.string ⟨#[]⟩, .string ⟨#[]⟩, .slice none 0 0, .slice none 0 0, .slice none 0 0], .int .i64 0]) (by simp [results, Tryz.results16, go_sem]) rfl ?_
  refine ⟨(Below.refl _ _).alloc (Nat.le_refl _) _, .inl ⟨0, ?_, rfl⟩⟩
  unfold Sp.parse
  rw [if_pos (by rw [bl_len]; exact h)]
namespace R12
theorem less_lt : ∀ a b : Sp.Str, Op.bytesLess a b = Sp.strLt a b
  | [], [] => rfl
  | [], _ :: _ => rfl
  | _ :: _, [] => rfl
  | a :: x, b :: y => by
    unfold Op.bytesLess Sp.strLt
    rw [less_lt x y]
    by_cases h1 : a < b
    · simp [h1]
    · by_cases h2 : b < a
      · have : (a == b) = false := by simp; intro e; subst e; exact absurd h2 (UInt8.lt_irrefl _)
        simp [h1, h2, this]
      · have : a = b := UInt8.le_antisymm (UInt8.not_lt.1 h2) (UInt8.not_lt.1 h1)
        simp [this]
theorem last_yes {s : ByteArray} (h : 0 < s.size) (hc : ((s[s.size - 1].toNat : Int) == 10) = true) : s.extract 0 (s.size - 1) = ⟨(Lib.trimSuffix (bl s) [10]).toArray⟩ := by
  refine bl_inj ?_
  rw [bl_to]
  show (bl s).take (s.size - 1) = Lib.trimSuffix (bl s) [10]
  have e : (bl s).drop ((bl s).length - 1) = [10] := by
    rw [bl_len, List.drop_eq_getElem_cons (by rw [bl_len]; omega), List.drop_eq_nil_of_le (by rw [bl_len]; omega)]
    have : (bl s)[s.size - 1]'(by rw [bl_len]; omega) = s[s.size - 1] := rfl
    rw [this]
    simp only [beq_iff_eq] at hc
    congr 1
    rw [← UInt8.toNat_inj]
    show s[s.size - 1].toNat = 10
    omega
  unfold Lib.trimSuffix
  have hs : Lib.hasSuffix (bl s) [10] = true := by
    unfold Lib.hasSuffix
    rw [List.isSuffixOf_iff_suffix, List.suffix_iff_eq_drop]
    exact e.symm
  rw [hs, if_pos rfl, bl_len]; rfl
theorem last_no {s : ByteArray} (h : 0 < s.size) (hc : ((s[s.size - 1].toNat : Int) == 10) = false) : s = ⟨(Lib.trimSuffix (bl s) [10]).toArray⟩ := by
  refine bl_inj ?_
  show bl s = Lib.trimSuffix (bl s) [10]
  unfold Lib.trimSuffix
  have hs : Lib.hasSuffix (bl s) [10] = false := by
    rw [Bool.eq_false_iff]; intro hh
    unfold Lib.hasSuffix at hh
    rw [List.isSuffixOf_iff_suffix, List.suffix_iff_eq_drop] at hh
    have e : (bl s).drop ((bl s).length - 1) = [(bl s)[s.size - 1]'(by rw [bl_len]; omega)] := by
      have e0 : (bl s).length - 1 = s.size - 1 := by rw [bl_len]
      rw [e0, List.drop_eq_getElem_cons (by rw [bl_len]; omega), List.drop_eq_nil_of_le (by rw [bl_len]; omega)]
    have hh' : [(10 : UInt8)] = (bl s).drop ((bl s).length - 1) := hh
    rw [e] at hh'
    have : (bl s)[s.size - 1]'(by rw [bl_len]; omega) = s[s.size - 1] := rfl
    rw [this] at hh'
    have h10 : (10 : UInt8) = s[s.size - 1] := (List.cons.inj hh').1
    rw [← h10] at hc
    cases hc
  rw [hs]; rfl
theorem empty_no {s : ByteArray} (h : ¬ 0 < s.size) : s = ⟨(Lib.trimSuffix (bl s) [10]).toArray⟩ := by
  refine bl_inj ?_
  have : bl s = [] := List.length_eq_zero_iff.1 (by rw [bl_len]; omega)
  show bl s = Lib.trimSuffix (bl s) [10]
  rw [this]; rfl
theorem done {s : Sp.Str} {w W : World} {b r : Nat} {p : Sp.Pk} {nv bv fv : Value} (hr : w.heap.size ≤ r) (hrb : r < b) (hbel : Below w.heap.size w W) (g0 : GsOn (fun x => x < W.heap.size ∧ b < x) W nv p.needs) (g1 : ChOn (fun x => x < W.heap.size ∧ b < x) W bv p.bars) (g2 : FlOn (fun x => x < W.heap.size ∧ b < x) W fv p.files)
    (hok : PkOk p) (hp : Sp.parse s = .inr p) :
    ReadR s w (.returned (.tuple #[.agg #[sv p.name, sv p.ver, nv, bv, fv], .int .i64 (-1)])) (((((W.setCell ⟨r, 0, none⟩ (sv p.name)).setCell ⟨r, 1, none⟩ (sv p.ver)).setCell ⟨r, 2, none⟩ nv).setCell ⟨r, 3, none⟩ bv).setCell ⟨r, 4, none⟩ fv) := by
  generalize hF : (((((W.setCell ⟨r, 0, none⟩ (sv p.name)).setCell ⟨r, 1, none⟩ (sv p.ver)).setCell ⟨r, 2, none⟩ nv).setCell ⟨r, 3, none⟩ bv).setCell ⟨r, 4, none⟩ fv) = F
  have hk : ∀ x, x ≠ r → F.heap[x]? = W.heap[x]? := fun x hx => by
    rw [← hF, Below.heap_setCell _ _ _ _ hx, Below.heap_setCell _ _ _ _ hx, Below.heap_setCell _ _ _ _ hx, Below.heap_setCell _ _ _ _ hx, Below.heap_setCell _ _ _ _ hx]
  have hsz : F.heap.size = W.heap.size := by rw [← hF]; simp
  refine ⟨?_, .inr ⟨p, nv, bv, fv, hp, rfl, hok, ?_, ?_, ?_⟩⟩
  · rw [← hF]
    repeat' (first | exact hbel | refine Below.setCell ?_ hr _)
  · exact (g0.keep fun x hx => hk x (by omega)).mono fun x hx => by omega
  · exact (SlOn.keep g1 fun x hx => hk x (by omega)).mono fun x hx => by omega
  · exact (SlOn.keep g2 fun x hx => hk x (by omega)).mono fun x hx => by omega
end R12
set_option maxRecDepth 100000 in
set_option maxHeartbeats 1000000 in
theorem readR_short (s : ByteArray) (w : World) (h : ¬ 300 < s.size) (h0 : 0 < s.size) : Calls Tryz.prog 16 #[.string s] w (ReadR (bl s) w) := by
  generalize hc : ((s[s.size - 1].toNat : Int) == 10) = c
  have HC := Lib.hid hc
  go_enter Tryz.func16, Tryz.ntmps16
  go_upto_if 25 with (fail)
  clear hc
  go_cut [0] (fun t wx => t = .string ⟨(Lib.trimSuffix (bl s) [10]).toArray⟩ ∧ wx = w.alloc (.cells #[.string ⟨#[]⟩, .string ⟨#[]⟩, .slice none 0 0, .slice none 0 0, .slice none 0 0] 30))
  case first =>
    cases c with
    | true =>
      have HX := Lib.hid (R12.last_yes h0 HC.out)
      go_wp2_with fail
      go_meet
      case rel => exact ⟨by rw [HX.out], rfl⟩
    | false =>
      have HX := Lib.hid (R12.last_no h0 HC.out)
      go_wp2_with fail
      go_meet
      case rel => exact ⟨congrArg Value.string HX.out, rfl⟩
  case rest =>
    obtain ⟨rfl, rfl⟩ := hcut
    have htl : (Lib.trimSuffix (bl s) [10]).length ≤ 300 := by
      have : (Lib.trimSuffix (bl s) [10]).length ≤ (bl s).length := by
        unfold Lib.trimSuffix; split
        · rw [List.length_take]; omega
        · exact Nat.le_refl _
      rw [bl_len] at this; omega
    go_wp2_with fail
    refine (cut_any _ _ _ (by rw [← bl_len, bl_mk]; omega) (by decide) (by decide)).mono ?_
    rintro e w1 ⟨v, rfl, hown, hb⟩
    rw [bl_mk, show bl ⟨#[10]⟩ = [10] from rfl] at hown
    have hv := StrsAt.of_row hown
    have hpl := Sp.split_length (Lib.trimSuffix (bl s) [10]) [10] (by simp)
    have hpm : ∀ x ∈ Lib.split (Lib.trimSuffix (bl s) [10]) [10], x.length ≤ 300 := fun x hx => by
      have := Sp.split_mem _ [10] x (by simp) hx; omega
    have HPM := Lib.hid hpm
    have hparse : Sp.parse (bl s) = match Sp.lines Sp.nothing 0 (Lib.split (Lib.trimSuffix (bl s) [10]) [10]) with
      | .inl n => .inl n
      | .inr p => .inr { p with files := Sp.sortF p.files } := by
      unfold Sp.parse; rw [if_neg (by rw [bl_len]; exact h)]; rfl
    clear hpm
    generalize hL : Lib.split (Lib.trimSuffix (bl s) [10]) [10] = L at *
    obtain ⟨a, cap, rfl, hcap, hget⟩ := hv.get
    have HL := Lib.hid hL.symm
    have HG := Lib.hid hget
    have HPA := Lib.hid hparse
    have hbw : Below w.heap.size w w1 := Below.trans ((Below.refl _ _).alloc (Nat.le_refl _) _) (hb.mono (by simp))
    have hs1 : w.heap.size < w1.heap.size := by have := hb.size; simp at this; omega
    obtain ⟨hrc, hrf⟩ := bcell hb
    obtain ⟨b, hbe⟩ : ∃ b, b = w1.heap.size := ⟨_, rfl⟩
    obtain ⟨w2, hw2⟩ : ∃ w2, w2 = w1.alloc (.cells #[.string ⟨#[]⟩, .string ⟨#[]⟩, .slice none 0 0, .slice none 0 0, .slice none 0 0] 30) := ⟨_, rfl⟩
    have hs2 : w2.heap.size = b + 1 := by rw [hw2, hbe]; simp
    have hc2 : ∀ o, w2.cell? ⟨b, o, none⟩ = (#[.string ⟨#[]⟩, .string ⟨#[]⟩, .slice none 0 0, .slice none 0 0, .slice none 0 0] : Array Value)[o]? := fun o => by rw [hw2, hbe, World.cell?_alloc_at _ _ _ _ rfl]
    have hP0 : RPk w2 (b + 1) b Sp.nothing := ⟨.slice none 0 0, .slice none 0 0, .slice none 0 0, by omega, by omega, hc2 0, hc2 1, hc2 2, hc2 3, hc2 4, ⟨[], SlOn.nil _ _ _, GrpsOn.nil _ _⟩, SlOn.nil _ _ _, World.ownsRow_nil _ _ _ _, fun _ => rfl, fun _ => rfl, fun _ => rfl, fun o => by rw [hw2, hbe]; simp⟩
    have hok0 : PkOk Sp.nothing := ⟨by decide, by decide, by decide, fun g hg => (by cases hg), by decide, fun c hc => (by cases hc), by decide, fun f hf => (by cases hf)⟩
    have hb2 : Below w1.heap.size w1 w2 := by rw [hw2]; exact (Below.refl _ _).alloc (Nat.le_refl _) _
    have HW2 := Lib.hid hw2
    have HBE := Lib.hid hbe
    have HS2 := Lib.hid hs2
    have hres : ∀ W, FrN (b + 1) b w2 W → (∀ o, W.cell? ⟨w.heap.size, o, none⟩ = (#[.string ⟨#[]⟩, .string ⟨#[]⟩, .slice none 0 0, .slice none 0 0, .slice none 0 0] : Array Value)[o]?) ∧ (∀ o, W.frozen? ⟨w.heap.size, o, none⟩ = false) := fun W hW => by
      have hblk : W.heap[w.heap.size]? = (w.alloc (.cells #[.string ⟨#[]⟩, .string ⟨#[]⟩, .slice none 0 0, .slice none 0 0, .slice none 0 0] 30)).heap[w.heap.size]? :=
        (hW.block _ (by omega) (by omega)).trans ((hb2.block _ hs1).trans (hb.block _ (by simp)))
      refine ⟨fun o => ?_, fun o => ?_⟩
      · rw [World.cell?_of_block (w := w.alloc (.cells #[.string ⟨#[]⟩, .string ⟨#[]⟩, .slice none 0 0, .slice none 0 0, .slice none 0 0] 30)) hblk, World.cell?_alloc_at _ _ _ _ rfl]
      · rw [World.frozen?_of_block (w := w.alloc (.cells #[.string ⟨#[]⟩, .string ⟨#[]⟩, .slice none 0 0, .slice none 0 0, .slice none 0 0] 30)) hblk]; simp
    have HRES := Lib.hid hres
    have hbelow : ∀ W, FrN (b + 1) b w2 W → Below w.heap.size w W := fun W hW =>
      hbw.trans ((hb2.mono (by omega)).trans ⟨hW.os, hW.tape, hW.output, hW.size, fun x hx => hW.block x (by omega) (by omega)⟩)
    have HBEL := Lib.hid hbelow
    clear hL hv hget hown hparse hc2 hres hrc hrf hbelow
    go_wp2_with fail
    rw [← HW2.out, ← HBE.out]
    clear hw2 hbe hs2
    go_loopw [6, 7] (fun i _ wr => ∃ (k m : Nat) (p : Sp.Pk), k ≤ L.length ∧ i = .int .i64 k ∧ Sp.lines Sp.nothing 0 L = Sp.lines p k (L.drop k) ∧ RPk wr m b p ∧ PkOk p ∧ Sp.clash1 (p.files.map (·.path)) = false ∧ b + 1 ≤ m ∧ FrN (b + 1) b w2 wr) (fun i _ _ => L.length - (intOf i).toNat)
    case atStart => exact ⟨0, b + 1, Sp.nothing, Nat.zero_le _, rfl, rfl, hP0, hok0, rfl, Nat.le_refl _, FrN.refl _ _ _⟩
    case round =>
      obtain ⟨k, m, p, hk, rfl, hlines, hP, hok, hcl, hbm, hfr⟩ := hrel
      have HLI := Lib.hid hlines
      have HCL := Lib.hid hcl
      clear hlines hcl hP0 hok0
      by_cases h : k < L.length
      · obtain ⟨lb, off, rfl, hlb, hcell⟩ := HG.out k h
        have hlb2 : lb < b := by rw [HBE.out]; exact hlb
        have hcell' := (hfr.cell (p := ⟨lb, off + k, none⟩) (by show lb < b + 1; omega) (by show lb ≠ b; omega)).trans (((bcell hb2).1 lb (off + k) hlb).trans hcell)
        have hpiece := HPM.out L[k] (List.getElem_mem h)
        have hpiece2 : (⟨L[k].toArray⟩ : ByteArray).size < 1000000 := by rw [← bl_len, bl_mk]; omega
        have hdr : L.drop k = L[k] :: L.drop (k + 1) := List.drop_eq_getElem_cons h
        have HDR := Lib.hid hdr
        clear hcell HG hdr
        go_wp2_with fail
        refine (lineR_any m b p ⟨L[k].toArray⟩ wr hP hok hpiece2 HCL.out k).mono ?_
        rintro e w3 ⟨hfr3, ⟨rfl, hno⟩ | ⟨p', m', rfl, hyes, hmm, hP'⟩⟩
        · rw [bl_mk] at hno
          have HNO := Lib.hid hno
          clear hno
          have hfr4 : FrN (b + 1) b w2 w3 := hfr.trans ⟨hfr3.os, hfr3.tape, hfr3.output, hfr3.size, fun x hx hne => hfr3.block x (by omega) hne⟩
          obtain ⟨hrc, hrz⟩ := HRES.out w3 hfr4
          have c0 := hrc 0
          have c1 := hrc 1
          have c2 := hrc 2
          have c3 := hrc 3
          have c4 := hrc 4
          have z0 := hrz 0
          have z1 := hrz 1
          have z2 := hrz 2
          have z3 := hrz 3
          have z4 := hrz 4
          simp only [List.getElem?_toArray, List.getElem?_cons_zero, List.getElem?_cons_succ] at c0 c1 c2 c3 c4
          clear hrc hrz
          have hbel := HBEL.out w3 hfr4
          go_wp2
          refine bodyPost_ret (v := .tuple #[.agg #[.string ⟨#[]⟩, .string ⟨#[]⟩, .slice none 0 0, .slice none 0 0, .slice none 0 0], .int .i64 (k + 1)]) (by simp [results, Tryz.results16, go_sem, c0, c1, c2, c3, c4]) rfl ?_
          refine ⟨?_, .inl ⟨k + 1, ?_, by rw [show (((k + 1 : Nat)) : Int) = (k : Int) + 1 from by omega]⟩⟩
          · repeat' (first | exact hbel | refine Below.setCell ?_ (by simp) _)
          · rw [HPA.out, HLI.out, HDR.out]
            show (match (match Sp.line p (k == 0) L[k] with | some p' => Sp.lines p' (k + 1) (L.drop (k + 1)) | none => .inl (k + 1)) with | .inl n => Sum.inl n | .inr p => .inr { p with files := Sp.sortF p.files }) = _
            rw [HNO.out]
        · rw [bl_mk] at hyes
          have HY := Lib.hid hyes
          clear hyes
          go_wp2
          go_roundw
          case rel => exact ⟨k + 1, m', p', h, by go_num, by rw [HLI.out, HDR.out]; show (match Sp.line p (k == 0) L[k] with | some p' => Sp.lines p' (k + 1) (L.drop (k + 1)) | none => .inl (k + 1)) = _; rw [HY.out], hP', P2.line_ok hok hpiece HY.out, T2.line_clash HY.out HCL.out, by omega, hfr.trans ⟨hfr3.os, hfr3.tape, hfr3.output, hfr3.size, fun x hx hne => hfr3.block x (by omega) hne⟩⟩
          case measure => simp [intOf]; omega
      · obtain rfl : k = L.length := by omega
        have hlin : Sp.lines Sp.nothing 0 L = .inr p := by rw [HLI.out, List.drop_length]; rfl
        have HLN := Lib.hid hlin
        clear hlin HG
        have hn4 := hok.files
        obtain ⟨nv, bv, fv, hm, hbm2, k0, k1, k2, k3, k4, g0, g1, g2, n0, n1, n2, hz⟩ := hP
        obtain ⟨na, nc, rfl, _⟩ := g0.get
        obtain ⟨ba, bc, rfl, _⟩ := g1.get
        obtain ⟨hrc, hrz⟩ := HRES.out wr hfr
        have c0 := hrc 0
        have c1 := hrc 1
        have c2 := hrc 2
        have c3 := hrc 3
        have c4 := hrc 4
        have z0 := hrz 0
        have z1 := hrz 1
        have z2 := hrz 2
        have z3 := hrz 3
        have z4 := hrz 4
        simp only [List.getElem?_toArray, List.getElem?_cons_zero, List.getElem?_cons_succ] at c0 c1 c2 c3 c4
        have hbel := HBEL.out wr hfr
        have hrb : w.heap.size < b := by rw [HBE.out]; exact hs1
        have G0 := Lib.hid g0
        have G1 := Lib.hid g1
        have G2 := Lib.hid g2
        have HOK := Lib.hid hok
        unfold sv at k0 k1
        clear hrc hrz g0 g1 g2 n0 n1 hz hok
        by_cases hn0 : p.files = []
        · obtain rfl := n2 hn0
          have hn0' : p.files.length = 0 := by rw [hn0]; rfl
          have HN := Lib.hid hn0
          clear hn0 n2 hn0'
          go_wp2_with fail
          refine wp_loop_rounds 1 ?_
          rw [rounds_succ]
          go_wp2_with fail
          refine bodyPost_ret (v := .tuple #[.agg #[.string ⟨p.name.toArray⟩, .string ⟨p.ver.toArray⟩, .slice na p.needs.length nc, .slice ba p.bars.length bc, .slice none 0 0], .int .i64 (-1)]) (by simp [results, Tryz.results16, go_sem, c0, c1, c2, c3, c4]) rfl ?_
          have hfl : p.files = [] := HN.out
          exact R12.done (p := p) (Nat.le_refl _) hrb hbel (G0.out.mono fun x hx => by omega) (SlOn.mono G1.out fun x hx => by omega) (by rw [hfl]; exact SlOn.nil _ _ _) HOK.out (by rw [HPA.out, HLN.out]; show Sum.inr { p with files := Sp.sortF p.files } = _; rw [hfl]; show _ = Sum.inr p; obtain ⟨_, _, _, _, _⟩ := p; cases hfl; rfl)
        · generalize wr = wA at *
          obtain ⟨g, fc, rfl⟩ := row_some G2.out hn0
          obtain ⟨hF0, hmg, _⟩ := files_of_row G2.out
          have hgs : g < wA.heap.size := hF0.2.2
          have hcap : p.files.length ≤ fc := by
            rcases G2.out.2 with ⟨e, _⟩ | ⟨g', cap2, cur, e, _, _, hle, _⟩
            · cases e
            · cases e; exact hle
          have hk4 : ∀ W, FrN wA.heap.size g wA W → W.cell? ⟨b, 4, none⟩ = some (.slice (some ⟨g, 0, none⟩) p.files.length fc) := fun W hW => (hW.cell (p := ⟨b, 4, none⟩) (show b < wA.heap.size by omega) (show b ≠ g by omega)).trans k4
          have HK4 := Lib.hid hk4
          generalize hl0 : p.files = l0 at *
          have HL0 := Lib.hid hl0
          have hpos : 0 < l0.length := List.length_pos_iff.2 hn0
          clear hk4 n2 hl0 hn0
          go_wp2_with fail
          go_loopw [8, 9, 10] (fun i _ _ wS => ∃ (j : Nat) (l : List Sp.Fl), 1 ≤ j ∧ j ≤ 5 ∧ j ≤ l0.length ∧ i = .int .i64 j ∧ l = Sp.sortF (l0.take j) ++ l0.drop j ∧ l.length = l0.length ∧ FilesAt wS g l ∧ FrN wA.heap.size g wA wS) (fun i _ _ _ => 5 - (intOf i).toNat)
          case atStart => exact ⟨1, l0, Nat.le_refl _, by omega, hpos, rfl, sort_start l0, rfl, hF0, FrN.refl _ _ _⟩
          case round =>
            obtain ⟨j, l, hj1, hj5, hjl, rfl, hl, hlen, hF, hfr5⟩ := hrel
            have j4 := HK4.out wr hfr5
            by_cases hlt : j < l0.length
            · have hS := P3.sortF_ord (l0.take j)
              have hSl : (Sp.sortF (l0.take j)).length = j := by rw [P3.sortF_len, List.length_take]; omega
              have hdrop : l0.drop j = l0[j] :: l0.drop (j + 1) := List.drop_eq_getElem_cons hlt
              have htake : l0.take (j + 1) = l0.take j ++ [l0[j]] := by rw [List.take_add_one, List.getElem?_eq_getElem hlt]; rfl
              generalize hf : l0[j] = f at hdrop htake
              generalize hr : l0.drop (j + 1) = rest at hdrop
              generalize hSe : Sp.sortF (l0.take j) = S at hS hSl hl
              have HT := Lib.hid htake
              have HR := Lib.hid hr
              have HS := Lib.hid hS
              have HSe := Lib.hid hSe
              rw [hdrop] at hl
              subst hl
              clear htake hr hS hSe hdrop hf
              generalize wr = wB at *
              have hpos0 : 0 < j := hj1
              go_wp2_with fail
              go_loopw [9, 10] (fun k _ wI => ∃ (kk : Nat) (pre moved : List Sp.Fl), k = .int .i64 kk ∧ pre.length = kk ∧ kk ≤ j ∧ pre ++ moved = S ∧ (∀ y r, moved = y :: r → Sp.strLt f.path y.path = true) ∧ FilesAt wI g (pre ++ f :: (moved ++ rest)) ∧ FrN wA.heap.size g wA wI) (fun k _ _ => (intOf k).toNat)
              case atStart => exact ⟨j, S, [], rfl, hSl, Nat.le_refl _, List.append_nil _, (fun y r e => by cases e), hF, hfr5⟩
              case round =>
                obtain ⟨kk, pre, moved, rfl, hpl, hkj, hpm, hmv, hF2, hfr6⟩ := hrel
                have i4 := HK4.out wr hfr6
                clear hF hfr5 j4
                cases kk with
                | zero =>
                  obtain rfl := List.length_eq_zero_iff.1 hpl
                  rw [show ((0 : Nat) : Int) = 0 from rfl]
                  have hend : Sp.sortF (l0.take (j + 1)) ++ l0.drop (j + 1) = f :: (moved ++ rest) := by
                    rw [HT.out, P3.sortF_snoc, HSe.out, ← hpm, P3.ins_stop (by rw [hpm]; exact HS.out) hmv (.inl rfl), HR.out]; simp
                  have HE := Lib.hid hend
                  have HF2 := Lib.hid hF2
                  clear hmv hend hF2 hpm hlen
                  go_wp2_with fail
                  go_quiet (fail)
                  go_wp2_with fail
                  have hbq : Below wr.heap.size wr (wr.drewN nq) := below_drawn wr nq
                  go_roundw
                  case rel => exact ⟨j + 1, _, by omega, by omega, by omega, by go_num, rfl, by simp [P3.sortF_len]; omega, (by rw [HE.out]; exact HF2.out.below hbq), hfr6.trans (FrN.of_below hbq hfr6.size)⟩
                  case measure => simp [intOf]; omega
                | succ m' =>
                  obtain ⟨pre', x, rfl⟩ : ∃ p x, pre = p ++ [x] := ⟨pre.dropLast, pre.getLast (by intro e; rw [e] at hpl; cases hpl), (List.dropLast_concat_getLast _).symm⟩
                  have hpl' : pre'.length = m' := by simpa using hpl
                  have hLL : (pre' ++ [x]) ++ f :: (moved ++ rest) = pre' ++ x :: f :: (moved ++ rest) := by simp
                  rw [hLL] at hF2
                  have gx := hF2.1 m' (by simp; omega)
                  have gf := hF2.1 (m' + 1) (by simp; omega)
                  have ex : (pre' ++ x :: f :: (moved ++ rest))[m']'(by simp; omega) = x := by simp [← hpl']
                  have ef : (pre' ++ x :: f :: (moved ++ rest))[m' + 1]'(by simp; omega) = f := by simp [← hpl']
                  rw [ex] at gx
                  rw [ef] at gf
                  obtain ⟨gx0, gx1⟩ := gx
                  obtain ⟨gf0, gf1⟩ := gf
                  have hml : m' + 1 < l0.length := by omega
                  rw [show (((m' + 1 : Nat)) : Int) = (m' : Int) + 1 from by omega]
                  have q1 : decide ((0 : Int) < (m' : Int) + 1) = true := decide_eq_true (by omega)
                  have q2 : (m' : Int) + 1 - 1 = m' := by omega
                  have q3 : IntKind.i64.wrap ((m' : Int)) = (m' : Int) := IntWalk.i64_in _ ⟨by omega, by omega⟩
                  have q4 : ((m' : Int) + 1).toNat = m' + 1 := by omega
                  have q5 : (0 : Int) ≤ (m' : Int) + 1 := by omega
                  have q6 : (m' : Int) + 1 < (l0.length : Int) := by omega
                  have q7 : (m' : Int) < (l0.length : Int) := by omega
                  have hgw : g < wr.heap.size := hF2.2.2
                  have hz0 := hF2.2.1 (m' * 2)
                  have hz1 := hF2.2.1 (m' * 2 + 1)
                  have hz2 := hF2.2.1 ((m' + 1) * 2)
                  have hz3 := hF2.2.1 ((m' + 1) * 2 + 1)
                  have hbw4 : b < wr.heap.size := by have := hfr6.size; omega
                  unfold sv at gx0 gx1 gf0 gf1
                  cases hlt2 : Sp.strLt f.path x.path with
                  | false =>
                    have hbl : Op.bytesLess f.path x.path = false := by rw [R12.less_lt, hlt2]
                    have hend : Sp.sortF (l0.take (j + 1)) ++ l0.drop (j + 1) = (pre' ++ [x]) ++ f :: (moved ++ rest) := by
                      rw [HT.out, P3.sortF_snoc, HSe.out, ← hpm, P3.ins_stop (by rw [hpm]; exact HS.out) hmv (.inr ⟨pre', x, rfl, hlt2⟩), HR.out]; simp
                    have HE := Lib.hid hend
                    have HF2 := Lib.hid hF2
                    clear hmv hend hF2 hpm hlen hlt2
                    go_wp2_with fail
                    go_quiet (fail)
                    go_wp2_with fail
                    have hbq : Below wr.heap.size wr (wr.drewN nq) := below_drawn wr nq
                    exact ⟨⟨j + 1, _, by omega, by omega, by omega, by go_num, rfl, by simp [P3.sortF_len]; omega, (by rw [HE.out, hLL]; exact HF2.out.below hbq), hfr6.trans (FrN.of_below hbq hfr6.size)⟩, by simp [intOf]; omega⟩
                  | true =>
                    have hbl : Op.bytesLess f.path x.path = true := by rw [R12.less_lt, hlt2]
                    have hmv' : ∀ (y : Sp.Fl) (r : List Sp.Fl), x :: moved = y :: r → Sp.strLt f.path y.path = true := by
                      intro y r e; cases e; exact hlt2
                    have HMV := Lib.hid hmv'
                    have HF2 := Lib.hid hF2
                    clear hF2 hmv hmv' hlt2
                    go_wp2_with fail
                    go_quiet (fail)
                    have hbq : Below wr.heap.size wr (wr.drewN nq) := below_drawn wr nq
                    have hFq := HF2.out.below hbq
                    have hfrq : FrN wA.heap.size g wA (wr.drewN nq) := hfr6.trans (FrN.of_below hbq hfr6.size)
                    have t0 : (wr.drewN nq).cell? ⟨g, m' * 2, none⟩ = some (.string ⟨x.path.toArray⟩) := gx0
                    have t1 : (wr.drewN nq).cell? ⟨g, m' * 2 + 1, none⟩ = some (.string ⟨x.content.toArray⟩) := gx1
                    have t2 : (wr.drewN nq).cell? ⟨g, (m' + 1) * 2, none⟩ = some (.string ⟨f.path.toArray⟩) := gf0
                    have t3 : (wr.drewN nq).cell? ⟨g, (m' + 1) * 2 + 1, none⟩ = some (.string ⟨f.content.toArray⟩) := gf1
                    have t4 : (wr.drewN nq).cell? ⟨b, 4, none⟩ = some (.slice (some ⟨g, 0, none⟩) l0.length fc) := i4
                    have u0 : (wr.drewN nq).frozen? ⟨g, m' * 2, none⟩ = false := hz0
                    have u1 : (wr.drewN nq).frozen? ⟨g, m' * 2 + 1, none⟩ = false := hz1
                    have u2 : (wr.drewN nq).frozen? ⟨g, (m' + 1) * 2, none⟩ = false := hz2
                    have u3 : (wr.drewN nq).frozen? ⟨g, (m' + 1) * 2 + 1, none⟩ = false := hz3
                    have v0 : g < (wr.drewN nq).heap.size := hgw
                    have v1 : b < (wr.drewN nq).heap.size := hbw4
                    clear gx0 gx1 gf0 gf1 i4 hz0 hz1 hz2 hz3 hgw hbw4 HF2 hbq
                    generalize wr.drewN nq = wq at *
                    have HFQ := Lib.hid hFq
                    clear hFq
                    go_wp2_with fail
                    go_region
                    go_wp2_with fail
                    have hsw := files_swap (A := pre') (x := x) (f := f) (B := moved ++ rest) HFQ.out hpl'
                    have hsA := hfrq.size
                    refine ⟨⟨m', pre', x :: moved, rfl, hpl', by omega, by rw [← hpm]; simp, HMV.out, hsw.1.below (Below.drew ((Below.refl _ _).alloc (Nat.le_refl _) _)), (hfrq.trans (hsw.2 _)).trans (FrN.of_below (Below.drew ((Below.refl _ _).alloc (Nat.le_refl _) _)) (by simp; omega))⟩, by simp [intOf]⟩
            · have hdone : Sp.sortF (l0.take j) ++ l0.drop j = Sp.sortF l0 := by
                rw [List.take_of_length_le (by omega), List.drop_eq_nil_of_le (by omega), List.append_nil]
              rw [hl, hdone] at hF
              clear hl
              have hbg : b ≠ g := by omega
              have hrg : w.heap.size ≠ g := by omega
              have hbA : b < wA.heap.size := by omega
              have e0 := (hfr5.cell (p := ⟨b, 0, none⟩) hbA hbg).trans k0
              have e1 := (hfr5.cell (p := ⟨b, 1, none⟩) hbA hbg).trans k1
              have e2 := (hfr5.cell (p := ⟨b, 2, none⟩) hbA hbg).trans k2
              have e3 := (hfr5.cell (p := ⟨b, 3, none⟩) hbA hbg).trans k3
              have hfr7 : FrN (b + 1) b w2 wr := hfr.trans ⟨hfr5.os, hfr5.tape, hfr5.output, hfr5.size, fun x hx hne => hfr5.block x (by omega) (by omega)⟩
              obtain ⟨hrc, hrz⟩ := HRES.out wr hfr7
              have d0 := hrc 0
              have d1 := hrc 1
              have d2 := hrc 2
              have d3 := hrc 3
              have d4 := hrc 4
              have y0 := hrz 0
              have y1 := hrz 1
              have y2 := hrz 2
              have y3 := hrz 3
              have y4 := hrz 4
              simp only [List.getElem?_toArray, List.getElem?_cons_zero, List.getElem?_cons_succ] at d0 d1 d2 d3 d4
              have hbel7 := HBEL.out wr hfr7
              clear hrc hrz k0 k1 k2 k3 k4 c0 c1 c2 c3 c4 z0 z1 z2 z3 z4 hbel
              have HF := Lib.hid hF
              clear hF
              go_wp2_with fail
              refine bodyPost_ret (v := .tuple #[.agg #[.string ⟨p.name.toArray⟩, .string ⟨p.ver.toArray⟩, .slice na p.needs.length nc, .slice ba p.bars.length bc, .slice (some ⟨g, 0, none⟩) l0.length fc], .int .i64 (-1)]) (by simp [results, Tryz.results16, go_sem, d0, d1, d2, d3, d4]) rfl ?_
              have hgA : ∀ x, x < m ∧ b < x → wr.heap[x]? = wA.heap[x]? := fun x hx => hfr5.block x (by omega) (by omega)
              have hsz5 := hfr5.size
              have hfo := FilesAt.flOn (m := m) (cap := fc) HF.out hmg (by rw [P3.sortF_len]; exact hcap)
              rw [P3.sortF_len] at hfo
              exact R12.done (p := { p with files := Sp.sortF l0 }) (Nat.le_refl _) hrb hbel7 ((G0.out.keep hgA).mono fun x hx => by omega) ((SlOn.keep G1.out hgA).mono fun x hx => by omega) (hfo.mono fun x hx => by omega)
                (by have := sorted_ok HOK.out; rw [HL0.out] at this; exact this) (by rw [HPA.out, HLN.out]; show Sum.inr { p with files := Sp.sortF p.files } = _; rw [HL0.out])
end Go.Proofs.YtfphcecjhdkcoaaGreatDoor
/-
The reference's Read, whole.
-/
namespace Go.Proofs.YtfphcecjhdkcoaaGreatDoor
open Go.RowKit
set_option maxRecDepth 100000 in
set_option maxHeartbeats 1000000 in
theorem readR_empty (s : ByteArray) (w : World) (h0 : ¬ 0 < s.size) : Calls Tryz.prog 16 #[.string s] w (ReadR (bl s) w) := by
  have hs : bl s = [] := List.length_eq_zero_iff.1 (by rw [bl_len]; omega)
  have hz0 : s.size < 10 := by omega
  have HS := Lib.hid hs
  clear hs
  go_enter Tryz.func16, Tryz.ntmps16
  go_wp2_with fail
  refine (cut_any s _ _ (by omega) (by decide) (by decide)).mono ?_
  rintro e w1 ⟨v, rfl, hown, hb⟩
  rw [show bl ⟨#[10]⟩ = [10] from rfl, HS.out, show Lib.split [] [10] = [[]] from rfl] at hown
  obtain ⟨lb, off, cap, rfl, hcap, hbb, c0⟩ := R3.strs1 (StrsAt.of_row hown)
  have hbw : Below w.heap.size w w1 := Below.trans ((Below.refl _ _).alloc (Nat.le_refl _) _) (hb.mono (by simp))
  have hs1 : w.heap.size < w1.heap.size := by have := hb.size; simp at this; omega
  obtain ⟨b, hbe⟩ : ∃ b, b = w1.heap.size := ⟨_, rfl⟩
  obtain ⟨w2, hw2⟩ : ∃ w2, w2 = w1.alloc (.cells #[.string ⟨#[]⟩, .string ⟨#[]⟩, .slice none 0 0, .slice none 0 0, .slice none 0 0] 30) := ⟨_, rfl⟩
  have hs2 : w2.heap.size = b + 1 := by rw [hw2, hbe]; simp
  have hc2 : ∀ o, w2.cell? ⟨b, o, none⟩ = (#[.string ⟨#[]⟩, .string ⟨#[]⟩, .slice none 0 0, .slice none 0 0, .slice none 0 0] : Array Value)[o]? := fun o => by rw [hw2, hbe, World.cell?_alloc_at _ _ _ _ rfl]
  have hP0 : RPk w2 (b + 1) b Sp.nothing := ⟨.slice none 0 0, .slice none 0 0, .slice none 0 0, by omega, by omega, hc2 0, hc2 1, hc2 2, hc2 3, hc2 4, ⟨[], SlOn.nil _ _ _, GrpsOn.nil _ _⟩, SlOn.nil _ _ _, World.ownsRow_nil _ _ _ _, fun _ => rfl, fun _ => rfl, fun _ => rfl, fun o => by rw [hw2, hbe]; simp⟩
  have hok0 : PkOk Sp.nothing := ⟨by decide, by decide, by decide, fun g hg => (by cases hg), by decide, fun c hc => (by cases hc), by decide, fun f hf => (by cases hf)⟩
  have hb2 : Below w1.heap.size w1 w2 := by rw [hw2]; exact (Below.refl _ _).alloc (Nat.le_refl _) _
  have hcl2 := (hb2.cell (p := ⟨lb, off, none⟩) hbb).trans c0
  have hres : ∀ W, FrN (b + 1) b w2 W → (∀ o, W.cell? ⟨w.heap.size, o, none⟩ = (#[.string ⟨#[]⟩, .string ⟨#[]⟩, .slice none 0 0, .slice none 0 0, .slice none 0 0] : Array Value)[o]?) ∧ (∀ o, W.frozen? ⟨w.heap.size, o, none⟩ = false) := fun W hW => by
    have hblk : W.heap[w.heap.size]? = (w.alloc (.cells #[.string ⟨#[]⟩, .string ⟨#[]⟩, .slice none 0 0, .slice none 0 0, .slice none 0 0] 30)).heap[w.heap.size]? :=
      (hW.block _ (by omega) (by omega)).trans ((hb2.block _ hs1).trans (hb.block _ (by simp)))
    refine ⟨fun o => ?_, fun o => ?_⟩
    · rw [World.cell?_of_block (w := w.alloc (.cells #[.string ⟨#[]⟩, .string ⟨#[]⟩, .slice none 0 0, .slice none 0 0, .slice none 0 0] 30)) hblk, World.cell?_alloc_at _ _ _ _ rfl]
    · rw [World.frozen?_of_block (w := w.alloc (.cells #[.string ⟨#[]⟩, .string ⟨#[]⟩, .slice none 0 0, .slice none 0 0, .slice none 0 0] 30)) hblk]; simp
  have hbelow : ∀ W, FrN (b + 1) b w2 W → Below w.heap.size w W := fun W hW =>
    hbw.trans ((hb2.mono (by omega)).trans ⟨hW.os, hW.tape, hW.output, hW.size, fun x hx => hW.block x (by omega) (by omega)⟩)
  have HBEL := Lib.hid hbelow
  have HRES := Lib.hid hres
  have HW2 := Lib.hid hw2
  have HBE := Lib.hid hbe
  clear hown hc2 hres hbelow c0
  simp only [List.length_nil, Nat.zero_add]
  go_wp2_with fail
  rw [← HW2.out, ← HBE.out]
  clear hw2 hbe hs2
  refine wp_loop_rounds 1 ?_
  rw [rounds_succ]
  go_wp2_with fail
  refine (lineR_any (b + 1) b Sp.nothing _ w2 hP0 hok0 (by decide) rfl 0).mono ?_
  rintro e w3 ⟨hfr3, ⟨rfl, _⟩ | ⟨p', m', rfl, hyes, _⟩⟩
  · obtain ⟨hrc, hrz⟩ := HRES.out w3 hfr3
    have c0 := hrc 0
    have c1 := hrc 1
    have c2 := hrc 2
    have c3 := hrc 3
    have c4 := hrc 4
    have z0 := hrz 0
    have z1 := hrz 1
    have z2 := hrz 2
    have z3 := hrz 3
    have z4 := hrz 4
    simp only [List.getElem?_toArray, List.getElem?_cons_zero, List.getElem?_cons_succ] at c0 c1 c2 c3 c4
    have hbel := HBEL.out w3 hfr3
    clear hrc hrz
    go_wp2
    refine bodyPost_ret (v := .tuple #[.agg #[.string ⟨#[]⟩, .string ⟨#[]⟩, .slice none 0 0, .slice none 0 0, .slice none 0 0], .int .i64 1]) (by simp [results, Tryz.results16, go_sem, c0, c1, c2, c3, c4]) rfl ?_
    refine ⟨?_, .inl ⟨1, by rw [HS.out]; rfl, rfl⟩⟩
    repeat' (first | exact hbel | refine Below.setCell ?_ (by simp) _)
  · exfalso
    cases hyes
theorem readR_any (s : ByteArray) (w : World) : Calls Tryz.prog 16 #[.string s] w (ReadR (bl s) w) := by
  by_cases h : 300 < s.size
  · exact readR_long s w h
  · by_cases h0 : 0 < s.size
    · exact readR_short s w h h0
    · exact readR_empty s w h0
end Go.Proofs.YtfphcecjhdkcoaaGreatDoor
namespace Go.Proofs.YtfphcecjhdkcoaaGreatDoor
open Go.RowKit
namespace R14
theorem join_snoc (xs : List Sp.Str) (x sep : Sp.Str) : Lib.join (xs ++ [x]) sep = if xs.isEmpty then x else Lib.join xs sep ++ sep ++ x := by
  cases xs with
  | nil => rw [List.nil_append, Lib.join_one]; rfl
  | cons a r =>
    rw [List.cons_append, Lib.join_cons, Lib.join_cons]
    have h := Lib.joinTail_take_succ sep (r ++ [x]) r.length x (by simp)
    rw [List.take_of_length_le (by simp), List.take_left'  rfl] at h
    rw [h]; simp
def joined (cs : List Sp.Ch) (sep : Sp.Str) (k : Nat) : Sp.Str := Lib.join ((cs.take k).map Sp.printC) sep
theorem joined_next (cs : List Sp.Ch) (sep : Sp.Str) (k : Nat) (h : k < cs.length) : joined cs sep (k + 1) = (if k = 0 then [] else joined cs sep k ++ sep) ++ Sp.printC cs[k] := by
  unfold joined
  rw [List.take_succ_eq_append_getElem h, List.map_append, List.map_cons, List.map_nil, join_snoc]
  by_cases hk : k = 0
  · subst hk; simp
  · have : ((cs.take k).map Sp.printC).isEmpty = false := by
      rw [List.isEmpty_eq_false_iff]; intro e
      have := congrArg List.length e
      rw [List.length_map, List.length_take] at this
      simp only [List.length_nil] at this
      omega
    rw [this, if_neg hk]; simp
theorem joined_len (cs : List Sp.Ch) (sep : Sp.Str) (k : Nat) (hn : cs.length ≤ 3) (h : ∀ c ∈ cs, ChOk c) (hs : sep.length ≤ 10) : (joined cs sep k).length ≤ 3060 := by
  have := W8.join_bound sep 1010 3 ((cs.take k).map Sp.printC) (fun x hx => by obtain ⟨c, hc, rfl⟩ := List.mem_map.1 hx; exact printC_len c (h c (List.mem_of_mem_take hc))) (by rw [List.length_map, List.length_take]; omega)
  unfold joined
  have h2 : 3 * (1010 + sep.length) ≤ 3060 := by omega
  omega
theorem key (J n s v : Sp.Str) : ((((((J ++ n) ++ [32, 40]) ++ s) ++ [32]) ++ v) ++ [41]) = J ++ (n ++ [32, 40] ++ s ++ [32] ++ v ++ [41]) := by simp
end R14
set_option maxRecDepth 100000 in
set_option maxHeartbeats 1000000 in
theorem printed_any (v : Value) (cs : List Sp.Ch) (sep : ByteArray) (w : World) (hv : ChOn (fun b => b < w.heap.size) w v cs) (hn : cs.length ≤ 3) (hcs : ∀ c ∈ cs, ChOk c) (hs : sep.size ≤ 10) :
    Calls Tryz.prog 45 #[v, .string sep] w fun e w' => e = .returned (sv (Lib.join (cs.map Sp.printC) (bl sep))) ∧ Below w.heap.size w w' := by
  obtain ⟨a, cap, rfl, hcap, hget⟩ := hv.get
  have hjl : ∀ k, (R14.joined cs (bl sep) k).length ≤ 3060 := fun k => R14.joined_len cs (bl sep) k hn hcs (by rw [bl_len]; exact hs)
  have HG := Lib.hid hget
  have HC := Lib.hid hcs
  have HJ := Lib.hid hjl
  clear hv hget hcs hjl
  go_enter Tryz.func45, Tryz.ntmps45
  go_wp2
  go_loopw [5, 6] (fun s i wr => ∃ (k : Nat), k ≤ cs.length ∧ i = .int .i64 k ∧ s = .string ⟨(R14.joined cs (bl sep) k).toArray⟩ ∧ Below w.heap.size w wr) (fun _ i _ => cs.length - (intOf i).toNat)
  case atStart => exact ⟨0, Nat.zero_le _, rfl, rfl, Below.refl _ _⟩
  case round =>
    obtain ⟨k, hk, rfl, rfl, hbel⟩ := hrel
    have hlen := HJ.out k
    by_cases h : k < cs.length
    · obtain ⟨b, off, rfl, hb, h0, h1, h2⟩ := HG.out k h
      have g0 := (hbel.cell (p := ⟨b, off + k * 3, none⟩) hb).trans h0
      have g1 := (hbel.cell (p := ⟨b, off + k * 3 + 1, none⟩) hb).trans h1
      have g2 := (hbel.cell (p := ⟨b, off + k * 3 + 1 + 1, none⟩) hb).trans h2
      have hok := HC.out cs[k] (List.getElem_mem h)
      unfold ChOk at hok
      have HNX := Lib.hid (R14.joined_next cs (bl sep) k h)
      unfold sv at g0 g1 g2
      generalize hc : cs[k] = c at *
      have HCC := Lib.hid hc
      clear h0 h1 h2 HG hc
      by_cases hk0 : k = 0
      · subst hk0
        simp only [Nat.zero_mul, Nat.add_zero] at g0 g1 g2
        have hz : decide ((0 : Int) < ((0 : Nat) : Int)) = false := by decide
        by_cases hs0 : c.sign = []
        · have hs1 : c.sign.isEmpty = true := by rw [hs0]; rfl
          have HP := Lib.hid (W6.printC_bare c hs0)
          clear hs0
          go_wp2
          go_roundw
          case rel => exact ⟨1, h, rfl, str_eq (by rw [bl_app, HNX.out, HP.out]; rfl), hbel⟩
          case measure => simp [intOf]; omega
        · have hs1 : c.sign.isEmpty = false := by simpa using hs0
          have HP := Lib.hid (W6.printC_more c hs0)
          clear hs0
          go_wp2
          go_quiet (fail)
          go_wp2
          go_roundw
          case rel => exact ⟨1, h, rfl, str_eq (by simp only [bl_app]; rw [HNX.out, HP.out]; exact R14.key [] _ _ _), below_drewN hbel _⟩
          case measure => simp [intOf]; omega
      · have hz : decide ((0 : Int) < (k : Int)) = true := by simp; omega
        have hkp : 0 < k := by omega
        by_cases hs0 : c.sign = []
        · have hs1 : c.sign.isEmpty = true := by rw [hs0]; rfl
          have HP := Lib.hid (W6.printC_bare c hs0)
          clear hs0
          go_wp2
          go_roundw
          case rel => exact ⟨k + 1, h, by go_num, str_eq (by rw [bl_app, bl_app, HNX.out, HP.out, if_neg hk0]; rfl), hbel⟩
          case measure => simp [intOf]; omega
        · have hs1 : c.sign.isEmpty = false := by simpa using hs0
          have HP := Lib.hid (W6.printC_more c hs0)
          clear hs0
          go_wp2
          go_quiet (fail)
          go_wp2
          go_roundw
          case rel => exact ⟨k + 1, h, by go_num, str_eq (by simp only [bl_app]; rw [HNX.out, HP.out, if_neg hk0]; exact R14.key _ _ _ _), below_drewN hbel _⟩
          case measure => simp [intOf]; omega
    · obtain rfl : k = cs.length := by omega
      clear HG
      go_wp2
      go_ret
      exact ⟨ret_str (by show R14.joined _ _ _ = Lib.join _ _; unfold R14.joined; rw [List.take_length]), hbel⟩
end Go.Proofs.YtfphcecjhdkcoaaGreatDoor

/-
The plain Read of a text that is none; the law Forms on its way: sameFault.
-/
import Derived.Test.YtfphcecjhdkcoaaGreatDoorFormedP02
import Derived.Test.YtfphcecjhdkcoaaGreatDoorFormedP05
import Derived.BigQuiet
/-
The document's plain form of errors: no error; the plain Read of a text that is one.
-/
namespace Go.Proofs.YtfphcecjhdkcoaaGreatDoor
open Go.RowKit
theorem parts_nil (w : World) : Calls Tryz.prog 42 #[.nilIface] w fun e w' => e = .returned (.agg #[.int .i64 0, .int .i64 0, .int .i64 0, .string ⟨#[]⟩]) ∧ Below w.heap.size w w' := by
  go_enter Tryz.func42, Tryz.ntmps42
  go_wp2
  refine bodyPost_ret (v := .agg #[.int .i64 0, .int .i64 0, .int .i64 0, .string ⟨#[]⟩]) (by simp [results, Tryz.results42, go_sem]) rfl ⟨rfl, ?_⟩
  exact (Below.refl _ _).alloc (Nat.le_refl _) _
theorem print_ne (p : Sp.Pk) : (Sp.print p == []) = false := by
  unfold Sp.print; rfl
set_option maxHeartbeats 1000000 in
theorem plainRead_some {G : Nat} (s : ByteArray) (p : Sp.Pk) (w : World) (hG : Glob G w) (h : Sp.parse (bl s) = .inr p) :
    Calls Tryz.prog 15 #[.string s] w fun e w' => e = .returned (.tuple #[sv (Sp.print p), .agg #[.int .i64 0, .int .i64 0, .int .i64 0, .string ⟨#[]⟩]]) ∧ Below w.heap.size w w' := by
  have hne := print_ne p
  have HP := Lib.hid h
  clear h
  go_enter Tryz.func15, Tryz.ntmps15
  go_wp2_with fail
  refine (read_any s _ (hG.keep ((Below.refl _ _).alloc (Nat.le_refl _) _))).mono ?_
  rintro e w1 ⟨hb1, ⟨n, b, hp, _⟩ | ⟨q, hp, rfl, _⟩⟩
  · rw [HP.out] at hp; cases hp
  · rw [HP.out] at hp
    cases hp
    obtain ⟨hc, hf⟩ := bcell hb1
    have hz1 : w.heap.size < w1.heap.size := by have := hb1.size; simp at this; omega
    unfold sv
    go_wp2_with fail
    refine (parts_nil _).mono ?_
    rintro e w2 ⟨rfl, hb2⟩
    obtain ⟨hc2, hf2⟩ := bcell hb2
    have hz2 : w.heap.size < w2.heap.size := by have := hb2.size; omega
    have k0 : w2.cell? ⟨w.heap.size, 0, none⟩ = some (.int .i64 0) := by rw [hc2 _ _ hz1, hc _ _ (by simp), World.cell?_alloc_at _ _ _ _ rfl]; rfl
    have k1 : w2.cell? ⟨w.heap.size, 1, none⟩ = some (.int .i64 0) := by rw [hc2 _ _ hz1, hc _ _ (by simp), World.cell?_alloc_at _ _ _ _ rfl]; rfl
    have k2 : w2.cell? ⟨w.heap.size, 2, none⟩ = some (.int .i64 0) := by rw [hc2 _ _ hz1, hc _ _ (by simp), World.cell?_alloc_at _ _ _ _ rfl]; rfl
    have k3 : w2.cell? ⟨w.heap.size, 3, none⟩ = some (.string ⟨#[]⟩) := by rw [hc2 _ _ hz1, hc _ _ (by simp), World.cell?_alloc_at _ _ _ _ rfl]; rfl
    have f0 : ∀ o, w2.frozen? ⟨w.heap.size, o, none⟩ = false := fun o => by rw [hf2 _ _ hz1, hf _ _ (by simp)]; simp
    have f00 := f0 0
    have f01 := f0 1
    have f02 := f0 2
    have f03 := f0 3
    have hbb : Below w.heap.size w w2 := ((Below.refl _ w).alloc (Nat.le_refl _) _).trans ((hb1.trans (hb2.mono hb1.size)).mono (by simp))
    clear hc hf hc2 hf2 f0
    go_wp2_with fail
    go_region
    go_wp2_with fail
    refine bodyPost_ret (v := .tuple #[sv (Sp.print p), .agg #[.int .i64 0, .int .i64 0, .int .i64 0, .string ⟨#[]⟩]]) (by simp [results, Tryz.results15, go_sem, sv, hz2, k0, k1, k2, k3]) rfl ⟨rfl, ?_⟩
    refine ⟨hbb.os, hbb.tape, hbb.output, by have := hbb.size; simp; omega, fun k hk => ?_⟩
    refine Eq.trans ?_ (hbb.block k hk)
    show (World.alloc _ _).heap[k]? = _
    rw [Below.heap_alloc _ _ _ (by simp; omega), Below.heap_setCell _ _ _ _ (by show k ≠ w.heap.size; omega), Below.heap_setCell _ _ _ _ (by show k ≠ w.heap.size; omega), Below.heap_setCell _ _ _ _ (by show k ≠ w.heap.size; omega), Below.heap_setCell _ _ _ _ (by show k ≠ w.heap.size; omega)]
end Go.Proofs.YtfphcecjhdkcoaaGreatDoor
/-
The document's plain form of errors at a fault of the program's.
-/
namespace Go.Proofs.YtfphcecjhdkcoaaGreatDoor
open Go.RowKit
/-- What the package-level variable errors.errorType holds. -/
def ErrT (w : World) : Prop := w.cell? ⟨0, 0, none⟩ = some (.iface 251 (.agg #[.pointer (some ⟨6, 81, none⟩)]))
/-- A fault lies at block b. -/
structure FaultAt (w : World) (b : Nat) (k which line : Int) (name : Sp.Str) : Prop where
  lt : b < w.heap.size
  kind : w.cell? ⟨b, 0, none⟩ = some (.int .i64 k)
  wh : w.cell? ⟨b, 1, none⟩ = some (.int .i64 which)
  ln : w.cell? ⟨b, 2, none⟩ = some (.int .i64 line)
  nm : w.cell? ⟨b, 3, none⟩ = some (sv name)
theorem as_any (e : Addr) (t : Nat) (old : Value) (w : World) (hg : ErrT w) (ht0 : w.cell? ⟨t, 0, none⟩ = some old) (hf0 : ∀ o, w.frozen? ⟨t, o, none⟩ = false) (_ht : 0 < t) :
    Calls Tryz.prog 65 #[.iface 121 (.pointer (some e)), .iface 127 (.pointer (some ⟨t, 0, none⟩))] w fun ev w' => ev = .returned (.bool true) ∧ FrN w.heap.size t w w' ∧ w'.cell? ⟨t, 0, none⟩ = some (.pointer (some e)) := by
  have hlt : t < w.heap.size := by
    rcases Nat.lt_or_ge t w.heap.size with h | h
    · exact h
    · simp [World.cell?, Array.getElem?_eq_none h] at ht0
  refine (as_hit e ⟨t, 0, none⟩ old w hg ht0 (hf0 0)).mono ?_
  rintro ev w' ⟨rfl, rfl⟩
  have hb : ∀ W, Below w.heap.size w W → W.cell? ⟨t, 0, none⟩ = some old ∧ ∀ o, W.frozen? ⟨t, o, none⟩ = false := fun W hW => ⟨((bcell hW).1 t 0 hlt).trans ht0, fun o => ((bcell hW).2 t o hlt).trans (hf0 o)⟩
  have hbel := ((((Below.refl w.heap.size w).alloc (Nat.le_refl _) (.cells #[.pointer (some ⟨t, 0, none⟩)] 127)).alloc (by simp) (.cells #[.pointer (some ⟨6, 127, none⟩), .pointer (some ⟨w.heap.size, 0, none⟩), .int .u64 150] 193)).alloc (by simp; omega) (.cells #[.pointer (some ⟨6, 127, none⟩), .pointer (some ⟨w.heap.size, 0, none⟩), .int .u64 150] 193)).alloc (by simp; omega) (.cells #[.pointer (some e)] 121)
  obtain ⟨h1, h2⟩ := hb _ hbel
  obtain ⟨s1, _⟩ := set_facts _ t 0 (.pointer (some e)) _ h1 h2
  exact ⟨rfl, (FrN.of_below hbel (Nat.le_refl _)).trans (FrN.set _ _ _ _ _), s1⟩
set_option maxRecDepth 100000 in
set_option maxHeartbeats 2000000 in
theorem parts_fault (b : Nat) (k which line : Int) (name : Sp.Str) (w : World) (hg : ErrT w) (hF : FaultAt w b k which line name) (hk1 : 1 ≤ k) (hk8 : k ≤ 8) :
    Calls Tryz.prog 42 #[.iface 121 (.pointer (some ⟨b, 0, none⟩))] w fun e w' => e = .returned (.agg #[.int .i64 k, .int .i64 which, .int .i64 line, sv name]) ∧ Below w.heap.size w w' := by
  obtain ⟨hbl, f0, f1, f2, f3⟩ := hF
  have h0 : 0 < w.heap.size := by omega
  have H0 := Lib.hid f0
  have H1 := Lib.hid f1
  have H2 := Lib.hid f2
  have H3 := Lib.hid f3
  clear f0 f1 f2 f3
  unfold sv
  go_enter Tryz.func42, Tryz.ntmps42
  have q0 : (k == 0) = false := by rw [beq_eq_false_iff_ne]; omega
  go_wp2_with fail
  generalize hw0 : ((w.alloc (Obj.cells #[Value.int IntKind.i64 0, Value.int IntKind.i64 0, Value.int IntKind.i64 0, Value.string ⟨#[]⟩] 23)).alloc (Obj.cells #[Value.pointer none] 121)) = w0
  have hs0 : w0.heap.size = w.heap.size + 2 := by rw [← hw0]; simp
  have hb0 : Below w.heap.size w w0 := by rw [← hw0]; exact ((Below.refl _ _).alloc (Nat.le_refl _) _).alloc (by simp) _
  have hr0 : ∀ o, w0.cell? ⟨w.heap.size, o, none⟩ = (#[Value.int IntKind.i64 0, Value.int IntKind.i64 0, Value.int IntKind.i64 0, Value.string ⟨#[]⟩] : Array Value)[o]? := fun o => by
    rw [← hw0, World.cell?_alloc_lt _ _ ⟨w.heap.size, o, none⟩ (by simp), World.cell?_alloc_at _ _ _ _ rfl]
  have hz0 : ∀ o, w0.frozen? ⟨w.heap.size, o, none⟩ = false := fun o => by rw [← hw0]; simp
  have ht0 : w0.cell? ⟨w.heap.size + 1, 0, none⟩ = some (.pointer none) := by rw [← hw0, World.cell?_alloc_at _ _ _ _ (by simp)]; rfl
  have hzt : ∀ o, w0.frozen? ⟨w.heap.size + 1, o, none⟩ = false := fun o => by rw [← hw0]; simp
  have hg0 : ErrT w0 := (hb0.cell (p := ⟨0, 0, none⟩) h0).trans hg
  refine (as_any ⟨b, 0, none⟩ (w.heap.size + 1) _ w0 hg0 ht0 hzt (by omega)).mono ?_
  rintro e w1 ⟨rfl, hfr, ct⟩
  have hs1 := hfr.size
  have c0 := ((hfr.cell (p := ⟨b, 0, none⟩) (show b < w0.heap.size by omega) (show b ≠ w.heap.size + 1 by omega)).trans (hb0.cell (p := ⟨b, 0, none⟩) hbl)).trans H0.out
  have c1 := ((hfr.cell (p := ⟨b, 1, none⟩) (show b < w0.heap.size by omega) (show b ≠ w.heap.size + 1 by omega)).trans (hb0.cell (p := ⟨b, 1, none⟩) hbl)).trans H1.out
  have c2 := ((hfr.cell (p := ⟨b, 2, none⟩) (show b < w0.heap.size by omega) (show b ≠ w.heap.size + 1 by omega)).trans (hb0.cell (p := ⟨b, 2, none⟩) hbl)).trans H2.out
  have c3 := ((hfr.cell (p := ⟨b, 3, none⟩) (show b < w0.heap.size by omega) (show b ≠ w.heap.size + 1 by omega)).trans (hb0.cell (p := ⟨b, 3, none⟩) hbl)).trans H3.out
  have r0 := (hfr.cell (p := ⟨w.heap.size, 0, none⟩) (show w.heap.size < w0.heap.size by omega) (show w.heap.size ≠ w.heap.size + 1 by omega)).trans (hr0 0)
  have r1 := (hfr.cell (p := ⟨w.heap.size, 1, none⟩) (show w.heap.size < w0.heap.size by omega) (show w.heap.size ≠ w.heap.size + 1 by omega)).trans (hr0 1)
  have r2 := (hfr.cell (p := ⟨w.heap.size, 2, none⟩) (show w.heap.size < w0.heap.size by omega) (show w.heap.size ≠ w.heap.size + 1 by omega)).trans (hr0 2)
  have r3 := (hfr.cell (p := ⟨w.heap.size, 3, none⟩) (show w.heap.size < w0.heap.size by omega) (show w.heap.size ≠ w.heap.size + 1 by omega)).trans (hr0 3)
  simp only [List.getElem?_toArray, List.getElem?_cons_zero, List.getElem?_cons_succ] at r0 r1 r2 r3
  have hblk := hfr.block w.heap.size (by omega) (by omega)
  have zz : ∀ o, w1.frozen? ⟨w.heap.size, o, none⟩ = false := fun o => (World.frozen?_of_block (w := w0) (a := ⟨w.heap.size, o, none⟩) hblk).trans (hz0 o)
  have z0 := zz 0
  have z1 := zz 1
  have z2 := zz 2
  have z3 := zz 3
  have hbel : Below w.heap.size w w1 := hb0.trans ⟨hfr.os, hfr.tape, hfr.output, hfr.size, fun x hx => hfr.block x (by omega) (by omega)⟩
  have HIS := Lib.hid (fun (j : Int) (W : World) (hW : W.cell? ⟨b, 0, none⟩ = some (.int .i64 k)) => is_any b k j W hW)
  unfold sv at c3
  clear hw0 hr0 hz0 ht0 hzt hg0 hblk zz hfr hb0 H0 H1 H2 H3 hg
  go_wp2_with fail
  go_loopw [4] (fun i wr => ∃ j n : Nat, j ≤ 9 ∧ i = .int .i64 j ∧ wr = w1.drewN n) (fun i _ => 9 - (intOf i).toNat)
  case atStart => exact ⟨0, 0, by omega, rfl, rfl⟩
  case round =>
    obtain ⟨j, n, hj, rfl, hwr⟩ := hrel
    have e0 : wr.cell? ⟨b, 0, none⟩ = some (.int .i64 k) := by rw [hwr]; exact c0
    have et : wr.cell? ⟨w.heap.size + 1, 0, none⟩ = some (.pointer (some ⟨b, 0, none⟩)) := by rw [hwr]; exact ct
    by_cases h : j ≤ 8
    · have HWR := Lib.hid hwr
      have hgen : ∀ N, wr.drewN N = w1.drewN (n + N) := fun N => by rw [hwr, World.drewN_drewN]
      have HGEN := Lib.hid hgen
      clear hwr hgen
      have hjk : ((j : Int) == k) = (k == (j : Int)) := by rw [Bool.eq_iff_iff]; simp; exact ⟨fun h => h.symm, fun h => h.symm⟩
      have HJK := Lib.hid hjk
      clear hjk
      go_wp2_with fail
      go_quiet (first | (go_at_call 66; refine (HIS.out _ _ ?_).mono fun e w' h => ⟨h.1, _, h.2⟩; exact e0))
      rw [HJK.out]
      cases (k == (j : Int)) <;> (go_wp2_with fail; exact ⟨⟨j + 1, _, by omega, by go_num, HGEN.out _⟩, by simp [intOf]; omega⟩)
    · obtain rfl : j = 9 := by omega
      have t0 : wr.cell? ⟨b, 1, none⟩ = some (.int .i64 which) := by rw [hwr]; exact c1
      have t1 : wr.cell? ⟨b, 2, none⟩ = some (.int .i64 line) := by rw [hwr]; exact c2
      have t2 : wr.cell? ⟨b, 3, none⟩ = some (.string ⟨name.toArray⟩) := by rw [hwr]; exact c3
      have s0 : wr.cell? ⟨w.heap.size, 0, none⟩ = some (.int .i64 0) := by rw [hwr]; exact r0
      have s1 : wr.cell? ⟨w.heap.size, 1, none⟩ = some (.int .i64 0) := by rw [hwr]; exact r1
      have s2 : wr.cell? ⟨w.heap.size, 2, none⟩ = some (.int .i64 0) := by rw [hwr]; exact r2
      have s3 : wr.cell? ⟨w.heap.size, 3, none⟩ = some (.string ⟨#[]⟩) := by rw [hwr]; exact r3
      have y0 : wr.frozen? ⟨w.heap.size, 0, none⟩ = false := by rw [hwr]; exact z0
      have y1 : wr.frozen? ⟨w.heap.size, 1, none⟩ = false := by rw [hwr]; exact z1
      have y2 : wr.frozen? ⟨w.heap.size, 2, none⟩ = false := by rw [hwr]; exact z2
      have y3 : wr.frozen? ⟨w.heap.size, 3, none⟩ = false := by rw [hwr]; exact z3
      have hbr : Below w.heap.size w wr := by rw [hwr]; exact below_drewN hbel n
      clear hwr c0 c1 c2 c3 r0 r1 r2 r3 z0 z1 z2 z3 ct
      go_wp2_with fail
      go_region
      go_wp2_with fail
      refine bodyPost_ret (v := .agg #[.int .i64 k, .int .i64 which, .int .i64 line, .string ⟨name.toArray⟩]) (by simp [results, Tryz.results42, go_sem, s0, s1, s2, s3]) rfl ⟨rfl, ?_⟩
      refine Below.drew ?_
      repeat' (first | exact hbr | refine Below.setCell ?_ (by simp) _)
end Go.Proofs.YtfphcecjhdkcoaaGreatDoor
namespace Go.Proofs.YtfphcecjhdkcoaaGreatDoor
open Go.RowKit
theorem ErrT.keep {w w' : World} (h : ErrT w) (hb : Below w.heap.size w w') (h0 : 0 < w.heap.size) : ErrT w' := (hb.cell (p := ⟨0, 0, none⟩) h0).trans h
set_option maxRecDepth 100000 in
set_option maxHeartbeats 1000000 in
theorem plainRead_none {G : Nat} (s : ByteArray) (n : Nat) (w : World) (hG : Glob G w) (hE : ErrT w) (h : Sp.parse (bl s) = .inl n) :
    Calls Tryz.prog 15 #[.string s] w fun e w' => e = .returned (.tuple #[.string ⟨#[]⟩, .agg #[.int .i64 1, .int .i64 0, .int .i64 (n : Int), .string ⟨#[]⟩]]) ∧ Below w.heap.size w w' := by
  have HP := Lib.hid h
  have hpos : 0 < w.heap.size := by have := hG.size; have := hG.six; omega
  clear h
  go_enter Tryz.func15, Tryz.ntmps15
  go_wp2_with fail
  refine (read_any s _ (hG.keep ((Below.refl _ _).alloc (Nat.le_refl _) _))).mono ?_
  rintro e w1 ⟨hb1, ⟨n', b, hp, rfl, hbl, hbu, f0, f1, f2, f3⟩ | ⟨q, hp, _⟩⟩
  · rw [HP.out] at hp
    cases hp
    obtain ⟨hc, hf⟩ := bcell hb1
    have hz1 : w.heap.size < w1.heap.size := by have := hb1.size; simp at this; omega
    have hE1 : ErrT w1 := (hE.keep ((Below.refl _ _).alloc (Nat.le_refl _) (Obj.cells #[Value.int IntKind.i64 0, Value.int IntKind.i64 0, Value.int IntKind.i64 0, Value.string ⟨#[]⟩] 23)) hpos).keep hb1 (by simp)
    go_wp2_with fail
    refine (parts_fault b 1 0 n [] w1 hE1 ⟨hbu, f0, f1, f2, f3⟩ (by decide) (by decide)).mono ?_
    rintro e w2 ⟨rfl, hb2⟩
    obtain ⟨hc2, hf2⟩ := bcell hb2
    have hz2 : w.heap.size < w2.heap.size := by have := hb2.size; omega
    have k0 : w2.cell? ⟨w.heap.size, 0, none⟩ = some (.int .i64 0) := by rw [hc2 _ _ hz1, hc _ _ (by simp), World.cell?_alloc_at _ _ _ _ rfl]; rfl
    have k1 : w2.cell? ⟨w.heap.size, 1, none⟩ = some (.int .i64 0) := by rw [hc2 _ _ hz1, hc _ _ (by simp), World.cell?_alloc_at _ _ _ _ rfl]; rfl
    have k2 : w2.cell? ⟨w.heap.size, 2, none⟩ = some (.int .i64 0) := by rw [hc2 _ _ hz1, hc _ _ (by simp), World.cell?_alloc_at _ _ _ _ rfl]; rfl
    have k3 : w2.cell? ⟨w.heap.size, 3, none⟩ = some (.string ⟨#[]⟩) := by rw [hc2 _ _ hz1, hc _ _ (by simp), World.cell?_alloc_at _ _ _ _ rfl]; rfl
    have g0 : ∀ o, w2.frozen? ⟨w.heap.size, o, none⟩ = false := fun o => by rw [hf2 _ _ hz1, hf _ _ (by simp)]; simp
    have g00 := g0 0
    have g01 := g0 1
    have g02 := g0 2
    have g03 := g0 3
    have hbb : Below w.heap.size w w2 := ((Below.refl _ w).alloc (Nat.le_refl _) _).trans ((hb1.trans (hb2.mono hb1.size)).mono (by simp))
    clear hc hf hc2 hf2 g0 f0 f1 f2 f3
    unfold sv
    go_wp2_with fail
    go_region
    go_wp2_with fail
    refine bodyPost_ret (v := .tuple #[.string ⟨#[]⟩, .agg #[.int .i64 1, .int .i64 0, .int .i64 (n : Int), .string ⟨#[]⟩]]) (by simp [results, Tryz.results15, go_sem, hz2, k0, k1, k2, k3]) rfl ⟨rfl, ?_⟩
    refine ⟨hbb.os, hbb.tape, hbb.output, by have := hbb.size; simp; omega, fun k hk => ?_⟩
    refine Eq.trans ?_ (hbb.block k hk)
    show (World.alloc _ _).heap[k]? = _
    rw [Below.heap_alloc _ _ _ (by simp; omega), Below.heap_setCell _ _ _ _ (by show k ≠ w.heap.size; omega), Below.heap_setCell _ _ _ _ (by show k ≠ w.heap.size; omega), Below.heap_setCell _ _ _ _ (by show k ≠ w.heap.size; omega), Below.heap_setCell _ _ _ _ (by show k ≠ w.heap.size; omega)]
  · rw [HP.out] at hp; cases hp
theorem sameFault_same (k which line : Int) (w : World) :
    Calls Tryz.prog 17 #[.agg #[.int .i64 k, .int .i64 which, .int .i64 line, .string ⟨#[]⟩], .agg #[.int .i64 k, .int .i64 which, .int .i64 line, .string ⟨#[]⟩]] w fun e w' => e = .returned (.bool true) ∧ Below w.heap.size w w' := by
  go_enter Tryz.func17, Tryz.ntmps17
  go_wp2
  go_ret
  exact ⟨rfl, ((Below.refl _ _).alloc (Nat.le_refl _) _).alloc (by simp) _⟩
end Go.Proofs.YtfphcecjhdkcoaaGreatDoor

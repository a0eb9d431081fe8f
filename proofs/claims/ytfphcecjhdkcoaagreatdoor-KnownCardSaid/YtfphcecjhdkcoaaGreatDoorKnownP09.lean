/-
What the walk of the program's order stands on: the packages that are left, each with those for which it waits.
-/
import Derived.Test.YtfphcecjhdkcoaaGreatDoorKnownP05
import Derived.Test.YtfphcecjhdkcoaaGreatDoorKnownP06
import Derived.Test.YtfphcecjhdkcoaaGreatDoorKnownP08
import Derived.BigQuiet
import Derived.Shelf.SlMaps.Clone
import Derived.Ground.SlmcProg
import Derived.LaidEql
/-
The document's plain form of errors at a fault of the program's.
-/
namespace Go.Proofs.YtfphcecjhdkcoaaGreatDoor
open Go.RowKit
/-- What the package-level variable errors.errorType holds. -/
def ErrT (w : World) : Prop := w.cell? ⟨0, 0, none⟩ = some (.iface 251 (.agg #[.pointer (some ⟨6, 81, none⟩)]))
/-- A fault lies at block b. -/
structure FaultAt (w : World) (b : Nat) (k which line : Int) (name : Sp.Str) : Prop where
  lt : b < w.heap.size
  kind : w.cell? ⟨b, 0, none⟩ = some (.int .i64 k)
  wh : w.cell? ⟨b, 1, none⟩ = some (.int .i64 which)
  ln : w.cell? ⟨b, 2, none⟩ = some (.int .i64 line)
  nm : w.cell? ⟨b, 3, none⟩ = some (sv name)
theorem as_any (e : Addr) (t : Nat) (old : Value) (w : World) (hg : ErrT w) (ht0 : w.cell? ⟨t, 0, none⟩ = some old) (hf0 : ∀ o, w.frozen? ⟨t, o, none⟩ = false) (_ht : 0 < t) :
    Calls Tryz.prog 65 #[.iface 121 (.pointer (some e)), .iface 127 (.pointer (some ⟨t, 0, none⟩))] w fun ev w' => ev = .returned (.bool true) ∧ FrN w.heap.size t w w' ∧ w'.cell? ⟨t, 0, none⟩ = some (.pointer (some e)) := by
  have hlt : t < w.heap.size := by
    rcases Nat.lt_or_ge t w.heap.size with h | h
    · exact h
    · simp [World.cell?, Array.getElem?_eq_none h] at ht0
  refine (as_hit e ⟨t, 0, none⟩ old w hg ht0 (hf0 0)).mono ?_
  rintro ev w' ⟨rfl, rfl⟩
  have hb : ∀ W, Below w.heap.size w W → W.cell? ⟨t, 0, none⟩ = some old ∧ ∀ o, W.frozen? ⟨t, o, none⟩ = false := fun W hW => ⟨((bcell hW).1 t 0 hlt).trans ht0, fun o => ((bcell hW).2 t o hlt).trans (hf0 o)⟩
  have hbel := ((((Below.refl w.heap.size w).alloc (Nat.le_refl _) (.cells #[.pointer (some ⟨t, 0, none⟩)] 127)).alloc (by simp) (.cells #[.pointer (some ⟨6, 127, none⟩), .pointer (some ⟨w.heap.size, 0, none⟩), .int .u64 150] 193)).alloc (by simp; omega) (.cells #[.pointer (some ⟨6, 127, none⟩), .pointer (some ⟨w.heap.size, 0, none⟩), .int .u64 150] 193)).alloc (by simp; omega) (.cells #[.pointer (some e)] 121)
  obtain ⟨h1, h2⟩ := hb _ hbel
  obtain ⟨s1, _⟩ := set_facts _ t 0 (.pointer (some e)) _ h1 h2
  exact ⟨rfl, (FrN.of_below hbel (Nat.le_refl _)).trans (FrN.set _ _ _ _ _), s1⟩
set_option maxRecDepth 100000 in
set_option maxHeartbeats 2000000 in
theorem parts_fault (b : Nat) (k which line : Int) (name : Sp.Str) (w : World) (hg : ErrT w) (hF : FaultAt w b k which line name) (hk1 : 1 ≤ k) (hk8 : k ≤ 8) :
    Calls Tryz.prog 42 #[.iface 121 (.pointer (some ⟨b, 0, none⟩))] w fun e w' => e = .returned (.agg #[.int .i64 k, .int .i64 which, .int .i64 line, sv name]) ∧ Below w.heap.size w w' := by
  obtain ⟨hbl, f0, f1, f2, f3⟩ := hF
  have h0 : 0 < w.heap.size := by omega
  have H0 := Lib.hid f0
  have H1 := Lib.hid f1
  have H2 := Lib.hid f2
  have H3 := Lib.hid f3
  clear f0 f1 f2 f3
  unfold sv
  go_enter Tryz.func42, Tryz.ntmps42
  have q0 : (k == 0) = false := by rw [beq_eq_false_iff_ne]; omega
  go_wp2_with fail
  generalize hw0 : ((w.alloc (Obj.cells #[Value.int IntKind.i64 0, Value.int IntKind.i64 0, Value.int IntKind.i64 0, Value.string ⟨#[]⟩] 23)).alloc (Obj.cells #[Value.pointer none] 121)) = w0
  have hs0 : w0.heap.size = w.heap.size + 2 := by rw [← hw0]; simp
  have hb0 : Below w.heap.size w w0 := by rw [← hw0]; exact ((Below.refl _ _).alloc (Nat.le_refl _) _).alloc (by simp) _
  have hr0 : ∀ o, w0.cell? ⟨w.heap.size, o, none⟩ = (#[Value.int IntKind.i64 0, Value.int IntKind.i64 0, Value.int IntKind.i64 0, Value.string ⟨#[]⟩] : Array Value)[o]? := fun o => by
    rw [← hw0, World.cell?_alloc_lt _ _ ⟨w.heap.size, o, none⟩ (by simp), World.cell?_alloc_at _ _ _ _ rfl]
  have hz0 : ∀ o, w0.frozen? ⟨w.heap.size, o, none⟩ = false := fun o => by rw [← hw0]; simp
  have ht0 : w0.cell? ⟨w.heap.size + 1, 0, none⟩ = some (.pointer none) := by rw [← hw0, World.cell?_alloc_at _ _ _ _ (by simp)]; rfl
  have hzt : ∀ o, w0.frozen? ⟨w.heap.size + 1, o, none⟩ = false := fun o => by rw [← hw0]; simp
  have hg0 : ErrT w0 := (hb0.cell (p := ⟨0, 0, none⟩) h0).trans hg
  refine (as_any ⟨b, 0, none⟩ (w.heap.size + 1) _ w0 hg0 ht0 hzt (by omega)).mono ?_
  rintro e w1 ⟨rfl, hfr, ct⟩
  have hs1 := hfr.size
  have c0 := ((hfr.cell (p := ⟨b, 0, none⟩) (show b < w0.heap.size by omega) (show b ≠ w.heap.size + 1 by omega)).trans (hb0.cell (p := ⟨b, 0, none⟩) hbl)).trans H0.out
  have c1 := ((hfr.cell (p := ⟨b, 1, none⟩) (show b < w0.heap.size by omega) (show b ≠ w.heap.size + 1 by omega)).trans (hb0.cell (p := ⟨b, 1, none⟩) hbl)).trans H1.out
  have c2 := ((hfr.cell (p := ⟨b, 2, none⟩) (show b < w0.heap.size by omega) (show b ≠ w.heap.size + 1 by omega)).trans (hb0.cell (p := ⟨b, 2, none⟩) hbl)).trans H2.out
  have c3 := ((hfr.cell (p := ⟨b, 3, none⟩) (show b < w0.heap.size by omega) (show b ≠ w.heap.size + 1 by omega)).trans (hb0.cell (p := ⟨b, 3, none⟩) hbl)).trans H3.out
  have r0 := (hfr.cell (p := ⟨w.heap.size, 0, none⟩) (show w.heap.size < w0.heap.size by omega) (show w.heap.size ≠ w.heap.size + 1 by omega)).trans (hr0 0)
  have r1 := (hfr.cell (p := ⟨w.heap.size, 1, none⟩) (show w.heap.size < w0.heap.size by omega) (show w.heap.size ≠ w.heap.size + 1 by omega)).trans (hr0 1)
  have r2 := (hfr.cell (p := ⟨w.heap.size, 2, none⟩) (show w.heap.size < w0.heap.size by omega) (show w.heap.size ≠ w.heap.size + 1 by omega)).trans (hr0 2)
  have r3 := (hfr.cell (p := ⟨w.heap.size, 3, none⟩) (show w.heap.size < w0.heap.size by omega) (show w.heap.size ≠ w.heap.size + 1 by omega)).trans (hr0 3)
  simp only [List.getElem?_toArray, List.getElem?_cons_zero, List.getElem?_cons_succ] at r0 r1 r2 r3
  have hblk := hfr.block w.heap.size (by omega) (by omega)
  have zz : ∀ o, w1.frozen? ⟨w.heap.size, o, none⟩ = false := fun o => (World.frozen?_of_block (w := w0) (a := ⟨w.heap.size, o, none⟩) hblk).trans (hz0 o)
  have z0 := zz 0
  have z1 := zz 1
  have z2 := zz 2
  have z3 := zz 3
  have hbel : Below w.heap.size w w1 := hb0.trans ⟨hfr.os, hfr.tape, hfr.output, hfr.size, fun x hx => hfr.block x (by omega) (by omega)⟩
  have HIS := Lib.hid (fun (j : Int) (W : World) (hW : W.cell? ⟨b, 0, none⟩ = some (.int .i64 k)) => is_any b k j W hW)
  unfold sv at c3
  clear hw0 hr0 hz0 ht0 hzt hg0 hblk zz hfr hb0 H0 H1 H2 H3 hg
  go_wp2_with fail
  go_loopw [4] (fun i wr => ∃ j n : Nat, j ≤ 9 ∧ i = .int .i64 j ∧ wr = w1.drewN n) (fun i _ => 9 - (intOf i).toNat)
  case atStart => exact ⟨0, 0, by omega, rfl, rfl⟩
  case round =>
    obtain ⟨j, n, hj, rfl, hwr⟩ := hrel
    have e0 : wr.cell? ⟨b, 0, none⟩ = some (.int .i64 k) := by rw [hwr]; exact c0
    have et : wr.cell? ⟨w.heap.size + 1, 0, none⟩ = some (.pointer (some ⟨b, 0, none⟩)) := by rw [hwr]; exact ct
    by_cases h : j ≤ 8
    · have HWR := Lib.hid hwr
      have hgen : ∀ N, wr.drewN N = w1.drewN (n + N) := fun N => by rw [hwr, World.drewN_drewN]
      have HGEN := Lib.hid hgen
      clear hwr hgen
      have hjk : ((j : Int) == k) = (k == (j : Int)) := by rw [Bool.eq_iff_iff]; simp; exact ⟨fun h => h.symm, fun h => h.symm⟩
      have HJK := Lib.hid hjk
      clear hjk
      go_wp2_with fail
      go_quiet (first | (go_at_call 66; refine (HIS.out _ _ ?_).mono fun e w' h => ⟨h.1, _, h.2⟩; exact e0))
      rw [HJK.out]
      cases (k == (j : Int)) <;> (go_wp2_with fail; exact ⟨⟨j + 1, _, by omega, by go_num, HGEN.out _⟩, by simp [intOf]; omega⟩)
    · obtain rfl : j = 9 := by omega
      have t0 : wr.cell? ⟨b, 1, none⟩ = some (.int .i64 which) := by rw [hwr]; exact c1
      have t1 : wr.cell? ⟨b, 2, none⟩ = some (.int .i64 line) := by rw [hwr]; exact c2
      have t2 : wr.cell? ⟨b, 3, none⟩ = some (.string ⟨name.toArray⟩) := by rw [hwr]; exact c3
      have s0 : wr.cell? ⟨w.heap.size, 0, none⟩ = some (.int .i64 0) := by rw [hwr]; exact r0
      have s1 : wr.cell? ⟨w.heap.size, 1, none⟩ = some (.int .i64 0) := by rw [hwr]; exact r1
      have s2 : wr.cell? ⟨w.heap.size, 2, none⟩ = some (.int .i64 0) := by rw [hwr]; exact r2
      have s3 : wr.cell? ⟨w.heap.size, 3, none⟩ = some (.string ⟨#[]⟩) := by rw [hwr]; exact r3
      have y0 : wr.frozen? ⟨w.heap.size, 0, none⟩ = false := by rw [hwr]; exact z0
      have y1 : wr.frozen? ⟨w.heap.size, 1, none⟩ = false := by rw [hwr]; exact z1
      have y2 : wr.frozen? ⟨w.heap.size, 2, none⟩ = false := by rw [hwr]; exact z2
      have y3 : wr.frozen? ⟨w.heap.size, 3, none⟩ = false := by rw [hwr]; exact z3
      have hbr : Below w.heap.size w wr := by rw [hwr]; exact below_drewN hbel n
      clear hwr c0 c1 c2 c3 r0 r1 r2 r3 z0 z1 z2 z3 ct
      go_wp2_with fail
      go_region
      go_wp2_with fail
      refine bodyPost_ret (v := .agg #[.int .i64 k, .int .i64 which, .int .i64 line, .string ⟨name.toArray⟩]) (by simp [results, Tryz.results42, go_sem, s0, s1, s2, s3]) rfl ⟨rfl, ?_⟩
      refine Below.drew ?_
      repeat' (first | exact hbr | refine Below.setCell ?_ (by simp) _)
end Go.Proofs.YtfphcecjhdkcoaaGreatDoor
/-
Sets of packages: a copy; whether two are one; the first path that clashes; an error about a package.
-/
namespace Go.Proofs
open Go.Shelf
def Tryz.cloneI_ren : Go.Shelf.Ren := ⟨fun | 5 => 78 | 7 => 131 | n => n, fun | 23 => 140 | 25 => 9 | 3 => 118 | 4 => 4 | 20 => 20 | n => n, fun | n => n⟩
theorem Tryz.cloneI : Go.Proofs.SlLaysW.n5 Tryz.prog Tryz.cloneI_ren := {
  mixed := by kernel_rfl
  f5 := ⟨Tryz.f78.name, by decide, Tryz.func78.trans (congrArg some (by kernel_rfl))⟩
  f7 := Tryz.func131.trans (congrArg some (by kernel_rfl))
  t4 := Tryz.underlying4
  a4 := Tryz.isAgg4
  z4 := Tryz.sizeOf4
  v4 := Tryz.zeroValue4
  t20 := Tryz.underlying20
  a20 := Tryz.isAgg20
  z20 := Tryz.sizeOf20
  v20 := Tryz.zeroValue20
  t23 := Tryz.underlying140
  a23 := Tryz.isAgg140
  z23 := Tryz.sizeOf140
  v23 := Tryz.zeroValue140 }
end Go.Proofs
namespace Go.Proofs.YtfphcecjhdkcoaaGreatDoor
open Go.RowKit Go.Maps
theorem clone_map (b : Nat) (kv : KV) (w : World) (h : MapAt w b kv) : Calls Tryz.prog 78 #[.map (some b)] w fun e w' => e = .returned (.map (some w.heap.size)) ∧ MapAt w' w.heap.size kv ∧ Below w.heap.size w w' := by
  obtain ⟨D, h1, h2⟩ := h
  refine (AnyW.maps_Clone_owns Tryz.cloneI 9 Rv b _ D w h1).mono ?_
  rintro e w' ⟨rfl, h3, _, hb⟩
  exact ⟨rfl, ⟨D, h3, h2⟩, hb⟩
theorem equal_len (b1 b2 : Nat) (kv1 kv2 : KV) (w : World) (h1 : MapAt w b1 kv1) (h2 : MapAt w b2 kv2) (hn : kv1.length ≠ kv2.length) :
    Calls Tryz.prog 127 #[.map (some b1), .map (some b2)] w fun e w' => e = .returned (.bool false) ∧ Below w.heap.size w w' := by
  have l1 := fun ty => h1.len Tryz.underlying140 ty
  have l2 := fun ty => h2.len Tryz.underlying140 ty
  have hne : ¬ ((kv1.length : Int) = (kv2.length : Int)) := fun e => hn (by exact_mod_cast e)
  go_enter Tryz.func127, Tryz.ntmps127
  go_wp2
  go_ret
  exact ⟨rfl, Below.refl _ _⟩
theorem same_ptr (a : Addr) (W : World) : (binOp .neq 118 (.pointer (some a)) (.pointer (some a))).run Tryz.prog W = .ok (.bool false) W := by
  have hi : ∃ j, Tryz.prog.info? 175 = some j := by
    cases h : Tryz.prog.info? 175 with
    | none => exact absurd (congrArg Option.isSome h) (by rw [show (Tryz.prog.info? 175).isSome = true by kernel_rfl]; decide)
    | some j => exact ⟨j, rfl⟩
  obtain ⟨j, hte⟩ := hi
  have h : ∀ d : Nat, (Op.equalIn (d + 1) 118 (.pointer (some a)) (.pointer (some a))).run Tryz.prog W = .ok true W := fun d => by
    simp [Op.equalIn, run_underlying Tryz.underlying118, sizeOf, typeInfo, hte, run_sameAddr_same]
  simp only [binOp]
  simp [Op.equal, Op.maxDepth, h 9999]
set_option maxRecDepth 100000 in
set_option maxHeartbeats 1000000 in
theorem equal_same {S1 S2 : Nat → Prop} (b1 b2 : Nat) (L : List (Nat × Sp.Pk)) (w : World) (h1 : SetOn S1 w b1 L) (h2 : SetOn S2 w b2 L) :
    Calls Tryz.prog 127 #[.map (some b1), .map (some b2)] w fun e w' => e = .returned (.bool true) ∧ Below w.heap.size w w' := by
  have l1 := fun ty => h1.map.len Tryz.underlying140 ty
  have l2 := fun ty => h2.map.len Tryz.underlying140 ty
  have hlt1 := h1.map.lt
  have hlt2 := h2.map.lt
  have HL := Lib.hid (fun (W : World) (hW : Below w.heap.size w W) (q : Nat × Sp.Pk) (hq : q ∈ L) => (h2.map.below hW hlt2).look_ok Tryz.underlying140 zero118 q.2.name (by have := (h2.2.2 q hq).2.name; unfold maxLen; omega))
  have HK := Lib.hid (fun (q : Nat × Sp.Pk) (hq : q ∈ L) => MP.kv_at h2.2.1 hq)
  have HH := Lib.hid (fun (q : Nat × Sp.Pk) (hq : q ∈ L) => MP.has_iff (kv := kvOf L) (x := q.2.name).2 ⟨(q.2.name, .pointer (some ⟨q.1, 0, none⟩)), List.mem_map.2 ⟨q, hq, rfl⟩, rfl⟩)
  have hsp := same_ptr
  clear h2
  go_enter Tryz.func127, Tryz.ntmps127
  go_wp2_with (at_range; refine wp_set_range _ 140 118 rfl _ rfl Tryz.underlying140 b1 L rfl h1 ?_; intro w1 hr1 hg1 hs1)
  go_frame
  have hb1 : Below w.heap.size w w1 := ⟨hg1.os, hg1.tape, hg1.output, by omega, fun k hk => hg1.block k hk (by simp)⟩
  clear h1 hg1 l1 l2
  go_loopw [16] (fun _ wr => ∃ (T : List (Nat × Sp.Pk)), RangeS wr b1 w.heap.size L T ∧ Below w.heap.size w wr) (fun _ wr => wr.rangeLeft b1 w.heap.size)
  case atStart => exact ⟨L, hr1, hb1⟩
  case round =>
    obtain ⟨T, hr, hbel⟩ := hrel
    go_wp2_with (at_next; refine wp_set_next _ rfl _ rfl b1 w.heap.size L T rfl hr ?_ ?_)
    · intro hT
      go_wp2
      go_ret
      exact ⟨rfl, hbel⟩
    · intro tb tp w2 ht hr2 hg2 hs2 hen hleft
      have hq := hr.sub (tb, tp) ht
      have hbel2 : Below w.heap.size w w2 := hbel.trans (grown_below hg2 (Nat.le_refl _) hbel.size)
      have hlk := HL.out w2 hbel2 (tb, tp) hq
      rw [HK.out (tb, tp) hq, HH.out (tb, tp) hq] at hlk
      clear hr
      go_wp2
      go_roundw
      case rel => exact ⟨_, hr2, hbel2⟩
      case measure => exact hleft
theorem planned1_any (mb : Nat) (L : List (Nat × Sp.Pk)) (w : World) (h : SetOn (fun b => b < w.heap.size) w mb L) (hL : L.length ≤ 100000) (hgood : ∀ p ∈ pks L, Sp.clash1 (p.files.map (·.path)) = false ∧ ∀ f ∈ p.files, f.path ≠ []) :
    Calls Tryz.prog 124 #[.map (some mb)] w fun e w' => e = .returned (sv (Sp.clash (pks L))) ∧ Below w.heap.size w w' := by
  have hc := clashes_any mb L w h hL
  have hpaths : (L.flatMap fun q => pathsOf q.2) = Sp.paths (pks L) := by unfold Sp.paths pks pathsOf; rw [List.flatMap_map]
  rw [hpaths] at hc
  have hne : ∀ x ∈ Sp.paths (pks L), x ≠ [] := fun x hx => by
    unfold Sp.paths at hx
    obtain ⟨p, hp, hx⟩ := List.mem_flatMap.1 hx
    obtain ⟨f, hf, rfl⟩ := List.mem_map.1 hx
    exact (hgood p hp).2 f hf
  have key : ∀ l : List Sp.Str, l.Pairwise (· ≤ ·) → (∀ x : Sp.Str, x ∈ l ↔ x ∈ Sp.paths (pks L) ∧ (2 ≤ (Sp.paths (pks L)).count x ∨ x ∈ (Sp.paths (pks L)).flatMap Sp.folders)) → Sp.clash (pks L) = l.head?.getD [] := by
    intro l ho hm
    have he : ∀ x, x ∈ (Sp.paths (pks L)).filter (Sp.clashAt (pks L)) ↔ x ∈ l := by
      intro x
      rw [hm, List.mem_filter]
      refine and_congr_right fun _ => ?_
      unfold Sp.clashAt
      rw [Bool.or_eq_true, decide_eq_true_eq, List.mem_flatMap, List.any_eq_true, or_comm]
      refine or_congr_right ⟨fun ⟨q, hq, h⟩ => ⟨q, hq, (mem_folders x q).2 h⟩, fun ⟨q, hq, h⟩ => ⟨q, hq, (mem_folders x q).1 h⟩⟩
    have hnf : ∀ x ∈ (Sp.paths (pks L)).filter (Sp.clashAt (pks L)), x ≠ [] := fun x hx => hne x (List.mem_filter.1 hx).1
    unfold Sp.clash
    cases l with
    | nil => rw [(V5.least_none hnf).2 (List.eq_nil_iff_forall_not_mem.2 fun x hx => by have := (he x).1 hx; cases this)]; rfl
    | cons a r =>
      refine V5.least_eq hnf ((he a).2 (by simp)) fun x hx => ?_
      rcases List.mem_cons.1 ((he x).1 hx) with rfl | hx
      · exact List.le_refl _
      · exact (List.pairwise_cons.1 ho).1 x hx
  have HC := Lib.hid hc
  have HKEY := Lib.hid key
  clear hc key hne hpaths hgood h
  go_enter Tryz.func124, Tryz.ntmps124
  go_wp2_with fail
  refine HC.out.mono ?_
  rintro e w1 ⟨v, l, rfl, hb1, hv, ho, hm⟩
  have hk := HKEY.out l ho hm
  have HK := Lib.hid hk
  obtain ⟨a, cap, rfl, hcap, hget⟩ := hv.get
  clear hk hv ho hm HC HKEY
  cases l with
  | nil =>
    go_wp2
    go_ret
    exact ⟨by rw [HK.out]; rfl, hb1⟩
  | cons x r =>
    obtain ⟨b, off, rfl, hbb, hcell⟩ := hget 0 (by simp)
    have hcell' : w1.cell? ⟨b, off, none⟩ = some (.string ⟨x.toArray⟩) := hcell
    have hlen : (r.length : Int) + 1 ≠ 0 := by omega
    have hlen2 : (0 : Int) < (r.length : Int) + 1 := by omega
    go_wp2
    go_ret
    exact ⟨by rw [HK.out]; rfl, hb1⟩
theorem fault_any (k which : Int) (name : Sp.Str) (w : World) : Calls Tryz.prog 79 #[.int .i64 k, .int .i64 which, sv name] w fun e w' => e = .returned (.pointer (some ⟨w.heap.size, 0, none⟩)) ∧ FaultAt w' w.heap.size k which 0 name ∧ Below w.heap.size w w' := by
  unfold sv
  go_enter Tryz.func79, Tryz.ntmps79
  go_wp2
  go_ret
  refine ⟨rfl, ⟨by simp, ?_, ?_, ?_, ?_⟩, (Below.refl _ _).alloc (Nat.le_refl _) _⟩ <;> rw [World.cell?_alloc_at _ _ _ _ rfl] <;> rfl
end Go.Proofs.YtfphcecjhdkcoaaGreatDoor
/-
The walk of the program's waits: for which of the new packages a new one waits.
-/
namespace Go.Proofs.YtfphcecjhdkcoaaGreatDoor
open Go.RowKit Go.Maps
namespace MP
def needs1 (there : List Sp.Pk) (p : Sp.Pk) (g : List Sp.Ch) : Bool := !Sp.any1 g there && !Sp.any1 g [p]
theorem waits_eq (there : List Sp.Pk) (p q : Sp.Pk) : Sp.waitsFor there p q = p.needs.any fun g => needs1 there p g && Sp.any1 g [q] := rfl
theorem any1_one (g : List Sp.Ch) (q : Sp.Pk) : Sp.any1 g [q] = g.any fun c => Sp.fits c q := by
  unfold Sp.any1
  congr 1; funext c
  simp
/-- Which of F are picked. -/
structure Pick (F O : List (Nat × Sp.Pk)) (P : Sp.Pk → Bool) : Prop where
  sub : ∀ q ∈ O, q ∈ F
  apart : O.Pairwise fun q r => q.2.name ≠ r.2.name
  iff_ : ∀ q ∈ F, q ∈ O ↔ P q.2 = true
theorem Pick.nil (F : List (Nat × Sp.Pk)) {P : Sp.Pk → Bool} (h : ∀ q ∈ F, P q.2 = false) : Pick F [] P := ⟨fun q hq => by (cases hq), List.Pairwise.nil, fun q hq => by rw [h q hq]; simp⟩
theorem Pick.congr {F O : List (Nat × Sp.Pk)} {P Q : Sp.Pk → Bool} (h : Pick F O P) (he : ∀ q ∈ F, P q.2 = Q q.2) : Pick F O Q := ⟨h.sub, h.apart, fun q hq => by rw [h.iff_ q hq, he q hq]⟩
theorem Pick.perm {F O : List (Nat × Sp.Pk)} {P : Sp.Pk → Bool} (hF : F.Pairwise fun q r => q.2.name ≠ r.2.name) (h : Pick F O P) : O.Perm (F.filter fun q => P q.2) := by
  have hnd : O.Nodup := h.apart.imp fun hab e => hab (by rw [e])
  have hnf : F.Nodup := hF.imp fun hab e => hab (by rw [e])
  refine (List.perm_ext_iff_of_nodup hnd (hnf.sublist List.filter_sublist)).2 fun q => ?_
  rw [List.mem_filter]
  exact ⟨fun hq => ⟨h.sub q hq, (h.iff_ q (h.sub q hq)).1 hq⟩, fun hq => (h.iff_ q hq.1).2 hq.2⟩
theorem Pick.len {F O : List (Nat × Sp.Pk)} {P : Sp.Pk → Bool} (hF : F.Pairwise fun q r => q.2.name ≠ r.2.name) (h : Pick F O P) : O.length ≤ F.length := by
  rw [(h.perm hF).length_eq]; exact List.length_filter_le _ _
theorem Pick.add {F O : List (Nat × Sp.Pk)} {P Q : Sp.Pk → Bool} (hF : F.Pairwise fun q r => q.2.name ≠ r.2.name) (h : Pick F O P) {q0 : Nat × Sp.Pk} (h0 : q0 ∈ F) (hn : q0 ∉ O) (he : ∀ q ∈ F, Q q.2 = true ↔ P q.2 = true ∨ q = q0) : Pick F (O ++ [q0]) Q := by
  refine ⟨fun q hq => ?_, ?_, fun q hq => ?_⟩
  · rcases List.mem_append.1 hq with hq | hq
    · exact h.sub q hq
    · rw [List.mem_singleton] at hq; exact hq ▸ h0
  · rw [List.pairwise_append]
    refine ⟨h.apart, by simp, fun q hq r hr => ?_⟩
    rw [List.mem_singleton] at hr; subst hr
    intro e
    exact hn (names_one hF q (h.sub q hq) r h0 e ▸ hq)
  · rw [List.mem_append, List.mem_singleton, he q hq, h.iff_ q hq]
theorem Pick.same {F O : List (Nat × Sp.Pk)} {P Q : Sp.Pk → Bool} (h : Pick F O P) {q0 : Nat × Sp.Pk} (h0 : q0 ∈ O) (he : ∀ q ∈ F, Q q.2 = true ↔ P q.2 = true ∨ q = q0) : Pick F O Q := by
  refine ⟨h.sub, h.apart, fun q hq => ?_⟩
  rw [he q hq, ← h.iff_ q hq]
  exact ⟨fun h => .inl h, fun h => h.elim id fun e => e ▸ h0⟩
theorem has_kv {O : List (Nat × Sp.Pk)} {n : Sp.Str} : hasKV (kvOf O) n = true ↔ ∃ q ∈ O, q.2.name = n := by
  rw [has_iff]
  constructor
  · rintro ⟨x, hx, rfl⟩; obtain ⟨q, hq, rfl⟩ := List.mem_map.1 hx; exact ⟨q, hq, rfl⟩
  · rintro ⟨q, hq, rfl⟩; exact ⟨_, List.mem_map.2 ⟨q, hq, rfl⟩, rfl⟩
theorem fits_iff {F : List (Nat × Sp.Pk)} (hF : F.Pairwise fun q r => q.2.name ≠ r.2.name) {c : Sp.Ch} {q0 : Nat × Sp.Pk} (h0 : q0 ∈ F) (hn : q0.2.name = c.name) (hf : Sp.fits c q0.2 = true) : ∀ q ∈ F, Sp.fits c q.2 = true ↔ q = q0 := by
  intro q hq
  constructor
  · intro h
    unfold Sp.fits at h
    rw [Bool.and_eq_true] at h
    exact names_one hF q hq q0 h0 ((eq_of_beq h.1).symm.trans hn.symm)
  · rintro rfl; exact hf
theorem take_any {α : Type} {l : List α} {f : α → Bool} {k : Nat} (hk : k < l.length) : (l.take (k + 1)).any f = ((l.take k).any f || f l[k]) := by
  rw [List.take_succ_eq_append_getElem hk, List.any_append]; simp
end MP
theorem kv_snoc (O : List (Nat × Sp.Pk)) (q : Nat × Sp.Pk) : kvOf (O ++ [q]) = kvOf O ++ [(q.2.name, .pointer (some ⟨q.1, 0, none⟩))] := by simp [kvOf]
set_option maxRecDepth 100000 in
set_option maxHeartbeats 2000000 in
theorem waits_any (pb mt mf : Nat) (p : Sp.Pk) (L F : List (Nat × Sp.Pk)) (w : World) (hT : SetOn (fun b => b < w.heap.size) w mt L) (hF : SetOn (fun b => b < w.heap.size) w mf F) (hp : IsPack (fun b => b < w.heap.size) w pb p) (hok : PkOk p) (hmax : F.length < 100000000) :
    Calls Tryz.prog 172 #[.pointer (some ⟨pb, 0, none⟩), .map (some mt), .map (some mf)] w fun e w' => e = .returned (.map (some w.heap.size)) ∧ (∃ O, MapAt w' w.heap.size (kvOf O) ∧ MP.Pick F O (Sp.waitsFor (pks L) p)) ∧ Below w.heap.size w w' := by
  have hmm := @run_makeMap Tryz.prog
  have hap := hF.2.1
  have hmtl := hT.map.lt
  have hmfl := hF.map.lt
  have HT := Lib.hid hT
  have HF := Lib.hid hF
  have HP := Lib.hid hp
  have HOK := Lib.hid hok
  have HAP := Lib.hid hap
  obtain ⟨nv, bv, fv, hS, h0, h1, h2, h3, h4, g0, g1, g2, n0, n1⟩ := hp
  obtain ⟨na, nc, rfl, hnc, gn⟩ := g0.get
  have GN := Lib.hid gn
  have hnl := hok.needs
  have hnm := hok.name
  clear hT hF hap g0 g1 g2 n0 n1 gn h1 h3 h4 hok
  unfold sv at h2
  go_enter Tryz.func172, Tryz.ntmps172
  go_wp2
  go_loopw [20] (fun i wr => ∃ (k : Nat) (O : List (Nat × Sp.Pk)), k ≤ p.needs.length ∧ i = .int .i64 k ∧ MapAt wr w.heap.size (kvOf O) ∧ MP.Pick F O (fun q => (p.needs.take k).any fun g => MP.needs1 (pks L) p g && Sp.any1 g [q]) ∧ Below w.heap.size w wr) (fun i _ => p.needs.length + 1 - (intOf i).toNat)
  case atStart => exact ⟨0, [], Nat.zero_le _, rfl, MapAt.made w, MP.Pick.nil F (fun _ _ => rfl), (Below.refl _ _).alloc (Nat.le_refl _) _⟩
  case round =>
    obtain ⟨k, O, hk, rfl, hO, hpick, hbel⟩ := hrel
    have HO := Lib.hid hO
    have HPI := Lib.hid hpick
    clear hO hpick
    by_cases h : k < p.needs.length
    · obtain ⟨gb, goff, x, rfl, hgb, hgc, hgch⟩ := GN.out k h
      have hgc' := (hbel.cell (p := ⟨gb, goff + k, none⟩) hgb).trans hgc
      obtain ⟨hgl, hgok⟩ := HOK.out.groups _ (List.getElem_mem h)
      have HGC := Lib.hid hgch
      have HGO := Lib.hid hgok
      have hws := hbel.size
      have hcall := has_any x p.needs[k] mt L wr (HT.out.below hbel) ((SlOn.keep hgch fun y hy => hbel.block y hy).mono fun y hy => Nat.lt_of_lt_of_le hy hws) hgl hgok
      have HCALL := Lib.hid hcall
      have HNX := Lib.hid (fun f => MP.take_any (f := f) h)
      clear hcall hgc hgch hgok
      generalize hgk : p.needs[k] = g at *
      have HGK := Lib.hid hgk
      clear hgk
      have HBW := Lib.hid (fun (W : World) (hW : Below wr.heap.size wr W) => hbel.trans (hW.mono hws))
      cases hg1 : Sp.any1 g (pks L) with
      | true =>
        have HG1 := Lib.hid hg1
        clear hg1
        go_wp2_with fail
        refine HCALL.out.mono ?_
        rintro e w1 ⟨rfl, hb1⟩
        rw [HG1.out]
        go_wp2
        go_roundw
        case rel => exact ⟨k + 1, O, h, by go_num, HO.out.below hb1 HO.out.lt, HPI.out.congr fun q _ => by rw [HNX.out]; simp [MP.needs1, HG1.out], HBW.out _ hb1⟩
        case measure => simp [intOf]; omega
      | false =>
        have HG1 := Lib.hid hg1
        clear hg1
        go_wp2_with fail
        refine HCALL.out.mono ?_
        rintro e w1 ⟨rfl, hb1⟩
        rw [HG1.out]
        have hws1 := hb1.size
        obtain ⟨w7, hins, hown7, hg7⟩ := (MapAt.made w1).put (t := 140) Tryz.underlying140 (by decide) p.name (by unfold maxLen; omega) rfl (.pointer (some ⟨pb, 0, none⟩))
        have hs7 := hg7.size
        simp only [World.size_alloc] at hs7
        have hb7 : Below w1.heap.size w1 w7 := ⟨hg7.os, hg7.tape, hg7.output, by omega, fun k hk => (hg7.block k (by simp; omega) (by simp; omega)).trans (Below.heap_alloc _ _ _ hk)⟩
        have hb17 : Below wr.heap.size wr w7 := hb1.trans (hb7.mono hws1)
        have hone : SetOn (fun b => b < w7.heap.size) w7 w1.heap.size [(pb, p)] := SetOn.of_map hown7 fun q hq => by
          rw [List.mem_singleton] at hq; subst hq
          exact ⟨(HP.out.keep fun y hy => (hbel.trans (hb17.mono hws)).block y hy).mono fun y hy => Nat.lt_of_lt_of_le hy (hbel.trans (hb17.mono hws)).size, HOK.out⟩
        have hcall2 := has_any x g w1.heap.size [(pb, p)] w7 hone ((SlOn.keep HGC.out fun y hy => (hbel.trans (hb17.mono hws)).block y hy).mono fun y hy => Nat.lt_of_lt_of_le hy (hbel.trans (hb17.mono hws)).size) hgl HGO.out
        have HCALL2 := Lib.hid hcall2
        have h2' := ((hbel.trans (hb1.mono hws)).cell (p := ⟨pb, 2, none⟩) hS).trans h2
        have hSw : pb < w1.heap.size := by omega
        clear hcall2 hone hown7 hg7
        cases hg2 : Sp.any1 g [p] with
        | true =>
          have HG2 := Lib.hid hg2
          clear hg2
          go_wp2_with fail
          refine HCALL2.out.mono ?_
          rintro e w2 ⟨rfl, hb2⟩
          rw [show pks [(pb, p)] = [p] from rfl, HG2.out]
          have hbA : Below wr.heap.size wr w2 := hb17.trans (hb2.mono hb17.size)
          go_wp2
          go_roundw
          case rel => exact ⟨k + 1, O, h, by go_num, HO.out.below hbA HO.out.lt, HPI.out.congr fun q _ => by rw [HNX.out]; simp [MP.needs1, HG2.out], HBW.out _ hbA⟩
          case measure => simp [intOf]; omega
        | false =>
          have HG2 := Lib.hid hg2
          clear hg2
          go_wp2_with fail
          refine HCALL2.out.mono ?_
          rintro e w2 ⟨rfl, hb2⟩
          rw [show pks [(pb, p)] = [p] from rfl, HG2.out]
          have hbA : Below wr.heap.size wr w2 := hb17.trans (hb2.mono hb17.size)
          have hO2 := HO.out.below hbA HO.out.lt
          have hb2w := HBW.out _ hbA
          obtain ⟨ca, cc, rfl, hcc, hcg⟩ := HGC.out.get
          have HCG := Lib.hid hcg
          have HO2 := Lib.hid hO2
          clear hcg hO2 HO HCALL HCALL2 hins h2' hb7 hb1 hb17 hb2
          go_wp2
          go_loopw [40] (fun i wi => ∃ (j : Nat) (O' : List (Nat × Sp.Pk)), j ≤ g.length ∧ i = .int .i64 j ∧ MapAt wi w.heap.size (kvOf O') ∧ MP.Pick F O' (fun q => ((p.needs.take k).any fun g => MP.needs1 (pks L) p g && Sp.any1 g [q]) || (g.take j).any fun c => Sp.fits c q) ∧ Below w.heap.size w wi) (fun i _ => g.length + 1 - (intOf i).toNat)
          case atStart => exact ⟨0, O, Nat.zero_le _, rfl, HO2.out, HPI.out.congr fun q _ => by simp, hb2w⟩
          case round =>
            obtain ⟨j, O', hj, rfl, hO', hpick', hbi⟩ := hrel
            have HO' := Lib.hid hO'
            have HPI' := Lib.hid hpick'
            have hwi := hbi.size
            clear hO' hpick'
            by_cases hjl : j < g.length
            · obtain ⟨cb, coff, rfl, hcb, hc0, hc1, hc2⟩ := HCG.out j hjl
              have d0 := (hbi.cell (p := ⟨cb, coff + j * 3, none⟩) hcb).trans hc0
              have d1 := (hbi.cell (p := ⟨cb, coff + j * 3 + 1, none⟩) hcb).trans hc1
              have d2 := (hbi.cell (p := ⟨cb, coff + j * 3 + 2, none⟩) hcb).trans hc2
              have hcok := HGO.out _ (List.getElem_mem hjl)
              have HNJ := Lib.hid (fun f => MP.take_any (f := f) hjl)
              have hbA : Below wr.heap.size wr (wr.alloc (.cells #[sv g[j].name, sv g[j].sign, sv g[j].ver] 187)) := (Below.refl _ wr).alloc (Nat.le_refl _) _
              have hFr := HF.out.below hbi
              have hcall := fits_look g[j] mf F wr hFr hcok _ hbA
              have hlk2 := (hFr.map.below hbA hFr.map.lt).look Tryz.underlying140 zero118 g[j].name (by unfold ChOk at hcok; unfold maxLen; omega)
              have HCALL := Lib.hid hcall
              have hOA := HO'.out.below hbA HO'.out.lt
              have hol := HPI'.out.len HAP.out
              have hOL := HO'.out.lt
              clear hcall hc0 hc1 hc2 HCG hFr
              unfold sv at d0 d1 d2 hlk2 HCALL hbA hOA
              generalize hcj : g[j] = c at *
              have HCJ := Lib.hid hcj
              clear hcj
              rcases MP.kv_get (L := F) c.name with ⟨h1, h2'⟩ | ⟨q0, hq0, hqn, h2'⟩
              · have hf : (pks F).any (Sp.fits c) = false := MP.none_fits c h2'
                have HFF := Lib.hid hf
                rw [h1] at hlk2 HCALL
                clear hf h2' h1
                go_wp2_with fail
                refine HCALL.out.mono ?_
                rintro e w3 ⟨rfl, hb3⟩
                rw [HFF.out]
                have hs3 := hb3.size
                have hbA3 := hbA.trans (hb3.mono hbA.size)
                go_wp2
                go_roundw
                case rel => exact ⟨j + 1, O', hjl, by go_num, hOA.below hb3 hOA.lt, HPI'.out.congr fun q hq => by
                    have hfq : Sp.fits c q.2 = false := by
                      have := HFF.out
                      rw [List.any_eq_false] at this
                      simpa using this q.2 (List.mem_map.2 ⟨q, hq, rfl⟩)
                    rw [HNJ.out, hfq, Bool.or_false], hbi.trans (hbA3.mono hwi)⟩
                case measure => simp [intOf]; omega
              · rw [h2'] at hlk2 HCALL
                clear h2'
                cases hf : (pks F).any (Sp.fits c) with
                | false =>
                  have HFF := Lib.hid hf
                  clear hf
                  go_wp2_with fail
                  refine HCALL.out.mono ?_
                  rintro e w3 ⟨rfl, hb3⟩
                  rw [HFF.out]
                  have hs3 := hb3.size
                  have hbA3 := hbA.trans (hb3.mono hbA.size)
                  go_wp2
                  go_roundw
                  case rel => exact ⟨j + 1, O', hjl, by go_num, hOA.below hb3 hOA.lt, HPI'.out.congr fun q hq => by
                      have hfq : Sp.fits c q.2 = false := by
                        have := HFF.out
                        rw [List.any_eq_false] at this
                        simpa using this q.2 (List.mem_map.2 ⟨q, hq, rfl⟩)
                      rw [HNJ.out, hfq, Bool.or_false], hbi.trans (hbA3.mono hwi)⟩
                  case measure => simp [intOf]; omega
                | true =>
                  have hf0 := (MP.any_fits HAP.out c hq0 hqn).symm.trans hf
                  have hfi := MP.fits_iff HAP.out hq0 hqn hf0
                  have HFF := Lib.hid hf
                  have HFI := Lib.hid hfi
                  have hcn : c.name.length ≤ maxLen := by unfold ChOk at hcok; unfold maxLen; omega
                  clear hf hf0 hfi
                  by_cases hin : q0 ∈ O'
                  · go_wp2_with fail
                    refine HCALL.out.mono ?_
                    rintro e w3 ⟨rfl, hb3⟩
                    rw [HFF.out]
                    have hs3 := hb3.size
                    have hbA3 := hbA.trans (hb3.mono hbA.size)
                    have hO3 := hOA.below hb3 hOA.lt
                    have k0 := hb3.cell (p := ⟨wr.heap.size, 0, none⟩) (show wr.heap.size < _ by simp)
                    rw [World.cell?_alloc_at _ _ _ _ rfl] at k0
                    simp only [List.getElem?_toArray, List.getElem?_cons_zero] at k0
                    go_wp2_with (at_mapUpdate; refine wp_map_same _ 140 118 rfl _ _ _ rfl Tryz.underlying140 w.heap.size (kvOf O') rfl hO3 (by unfold kvOf; rw [List.length_map]; omega) c.name (.pointer (some ⟨q0.1, 0, none⟩)) (by rw [← hqn]; exact List.mem_map.2 ⟨q0, hin, rfl⟩) rfl rfl ?_; intro w4 hO4 hg4)
                    have hb4 : Below w.heap.size w3 w4 := grown_below hg4 (Nat.le_refl _) (by have := hbA3.size; omega)
                    go_roundw
                    case rel => exact ⟨j + 1, O', hjl, by go_num, hO4, HPI'.out.same hin fun q hq => by rw [HNJ.out, Bool.or_eq_true, Bool.or_eq_true, Bool.or_eq_true, HFI.out q hq, or_assoc], (hbi.trans (hbA3.mono hwi)).trans hb4⟩
                    case measure => simp [intOf]; omega
                  · have hnew : hasKV (kvOf O') c.name = false := by
                      rw [← Bool.not_eq_true, MP.has_kv]
                      rintro ⟨q, hq, hqc⟩
                      have := names_one HAP.out q (HPI'.out.sub q hq) q0 hq0 (hqc.trans hqn.symm)
                      exact hin (this ▸ hq)
                    go_wp2_with fail
                    refine HCALL.out.mono ?_
                    rintro e w3 ⟨rfl, hb3⟩
                    rw [HFF.out]
                    have hs3 := hb3.size
                    have hbA3 := hbA.trans (hb3.mono hbA.size)
                    have hO3 := hOA.below hb3 hOA.lt
                    have k0 := hb3.cell (p := ⟨wr.heap.size, 0, none⟩) (show wr.heap.size < _ by simp)
                    rw [World.cell?_alloc_at _ _ _ _ rfl] at k0
                    simp only [List.getElem?_toArray, List.getElem?_cons_zero] at k0
                    go_wp2_with (at_mapUpdate; refine wp_map_put _ 140 118 rfl _ _ _ rfl Tryz.underlying140 w.heap.size (kvOf O') rfl hO3 (by unfold kvOf; rw [List.length_map]; omega) c.name hcn hnew rfl (.pointer (some ⟨q0.1, 0, none⟩)) rfl ?_; intro w4 hO4 hg4)
                    have hb4 : Below w.heap.size w3 w4 := grown_below hg4 (Nat.le_refl _) (by have := hbA3.size; omega)
                    have hO5 : MapAt w4 w.heap.size (kvOf (O' ++ [q0])) := by rw [kv_snoc, hqn]; exact hO4
                    go_roundw
                    case rel => exact ⟨j + 1, O' ++ [q0], hjl, by go_num, hO5, HPI'.out.add HAP.out hq0 hin fun q hq => by rw [HNJ.out, Bool.or_eq_true, Bool.or_eq_true, Bool.or_eq_true, HFI.out q hq, or_assoc], (hbi.trans (hbA3.mono hwi)).trans hb4⟩
                    case measure => simp [intOf]; omega
            · obtain rfl : j = g.length := by omega
              go_wp2
              go_roundw
              case rel => exact ⟨k + 1, O', h, by go_num, HO'.out, HPI'.out.congr fun q _ => by rw [HNX.out, List.take_length]; simp [MP.needs1, HG1.out, HG2.out, MP.any1_one], hbi⟩
              case measure => simp [intOf]; omega
    · obtain rfl : k = p.needs.length := by omega
      go_wp2
      go_ret
      exact ⟨rfl, ⟨O, HO.out, HPI.out.congr fun q _ => by rw [List.take_length, MP.waits_eq]⟩, hbel⟩
end Go.Proofs.YtfphcecjhdkcoaaGreatDoor
namespace Go.Proofs.YtfphcecjhdkcoaaGreatDoor
open Go.RowKit Go.Maps
/-- Packages that are left, each with the block of the map of those for which it waits. -/
abbrev LM := List ((Nat × Sp.Pk) × Nat)
def lkv (M : LM) : KV := M.map fun m => (m.1.2.name, .map (some m.2))
def remOf (M : LM) : List (Nat × Sp.Pk) := M.map (·.1)
def dropM (M : LM) (n : Sp.Str) : LM := M.filter fun m => m.1.2.name != n
theorem zero140 (w : World) : (zeroValue 140).run Tryz.prog w = .ok (.map none) w := by kernel_rfl
theorem drop_lkv (M : LM) (n : Sp.Str) : dropKV (lkv M) n = lkv (dropM M n) := by
  unfold dropKV lkv dropM
  rw [List.filter_map]; rfl
theorem drop_rem (M : LM) (n : Sp.Str) : remOf (dropM M n) = MP.dropL (remOf M) n := by
  unfold remOf dropM MP.dropL
  rw [List.filter_map]; rfl
theorem lkv_names (M : LM) : (lkv M).map (·.1) = Sp.names (pks (remOf M)) := by
  unfold lkv Sp.names pks remOf
  rw [List.map_map, List.map_map, List.map_map]; rfl
theorem lkv_len (M : LM) : (lkv M).length = M.length := by unfold lkv; rw [List.length_map]
theorem MP.Pick.drop {F O : List (Nat × Sp.Pk)} {P : Sp.Pk → Bool} (h : MP.Pick F O P) (n : Sp.Str) : MP.Pick (MP.dropL F n) (MP.dropL O n) P := by
  unfold MP.dropL
  refine ⟨fun q hq => ?_, h.apart.sublist List.filter_sublist, fun q hq => ?_⟩
  · obtain ⟨h1, h2⟩ := List.mem_filter.1 hq
    exact List.mem_filter.2 ⟨h.sub q h1, h2⟩
  · obtain ⟨h1, h2⟩ := List.mem_filter.1 hq
    rw [List.mem_filter, h.iff_ q h1]
    exact ⟨fun h => h.1, fun h => ⟨h, h2⟩⟩
/-- What is left lies in memory, in blocks from b0 up to below B. -/
structure LeftAt (w : World) (lb b0 B : Nat) (there : List Sp.Pk) (M : LM) : Prop where
  map : MapAt w lb (lkv M)
  each : ∀ m ∈ M, ∃ O, MapAt w m.2 (kvOf O) ∧ MP.Pick (remOf M) O (Sp.waitsFor there m.1.2)
  apart : M.Pairwise fun m n => m.1.2.name ≠ n.1.2.name
  blocks : M.Pairwise fun m n => m.2 ≠ n.2
  lb_ : b0 ≤ lb ∧ lb < B
  obs : ∀ m ∈ M, b0 ≤ m.2 ∧ m.2 < B ∧ m.2 ≠ lb
theorem LeftAt.keep {w w' : World} {lb b0 B : Nat} {there : List Sp.Pk} {M : LM} (h : LeftAt w lb b0 B there M) (hb : ∀ k, k < B → w'.heap[k]? = w.heap[k]?) : LeftAt w' lb b0 B there M :=
  ⟨h.map.block (hb _ h.lb_.2), fun m hm => by
    obtain ⟨O, h1, h2⟩ := h.each m hm
    exact ⟨O, h1.block (hb _ (h.obs m hm).2.1), h2⟩, h.apart, h.blocks, h.lb_, h.obs⟩
theorem LeftAt.rem_apart {w : World} {lb b0 B : Nat} {there : List Sp.Pk} {M : LM} (h : LeftAt w lb b0 B there M) : (remOf M).Pairwise fun q r => q.2.name ≠ r.2.name := List.pairwise_map.2 h.apart
/-- Is a package free: does it wait for nobody that is left? -/
def freeB (there : List Sp.Pk) (M : LM) (p : Sp.Pk) : Bool := !(pks (remOf M)).any (Sp.waitsFor there p)
theorem pick_free {there : List Sp.Pk} {M : LM} {O : List (Nat × Sp.Pk)} {p : Sp.Pk} (h : MP.Pick (remOf M) O (Sp.waitsFor there p)) : O = [] ↔ freeB there M p = true := by
  unfold freeB
  rw [Bool.not_eq_true', List.any_eq_false]
  constructor
  · rintro rfl q hq hw
    obtain ⟨r, hr, rfl⟩ := List.mem_map.1 hq
    have := (h.iff_ r hr).2 hw
    cases this
  · intro hall
    refine List.eq_nil_iff_forall_not_mem.2 fun q hq => ?_
    exact hall q.2 (List.mem_map.2 ⟨q, h.sub q hq, rfl⟩) ((h.iff_ q (h.sub q hq)).1 hq)
/-- Where one is free, the first by name is set up next. -/
theorem order_step {there : List Sp.Pk} {l : List Sp.Pk} {n : Nat} {m : Sp.Str} (hm : Sp.least ((Sp.free there l).map (·.name)) = m) (hne : m ≠ []) :
    Sp.orderN there (n + 1) l = (m :: (Sp.orderN there n (l.filter fun p => p.name != m)).1, (Sp.orderN there n (l.filter fun p => p.name != m)).2) := by
  have he : m.isEmpty = false := by
    cases m with
    | nil => exact absurd rfl hne
    | cons a b => rfl
  rw [Sp.orderN, hm, he]
  rfl
theorem order_stuck {there : List Sp.Pk} {l : List Sp.Pk} (n : Nat) (hm : Sp.least ((Sp.free there l).map (·.name)) = []) : Sp.orderN there n l = ([], l) := by
  cases n with
  | zero => rfl
  | succ n => rw [Sp.orderN, hm]; rfl
theorem free_least {L : List (Nat × Sp.Pk)} (ha : L.Pairwise fun q r => q.2.name ≠ r.2.name) (hn : ∀ p ∈ pks L, p.name ≠ []) (there : List Sp.Pk) :
    Sp.least ((Sp.free there (pks L)).map (·.name)) = ((Sp.sorted (Sp.names (pks L))).find? (MP.byN L fun p => !(pks L).any (Sp.waitsFor there p))).getD [] := MP.first_of ha hn _
theorem row_mid {wa w' : World} {B : Nat} {e : TypeId} {size n : Nat} {v : Value} {xs : List Value} (h : wa.ownsRow B e size v n xs) (hb : ∀ k, B ≤ k → k < wa.heap.size → w'.heap[k]? = wa.heap[k]?) : w'.ownsRow B e size v n xs := by
  obtain ⟨hl, h⟩ := h
  refine ⟨hl, ?_⟩
  rcases h with h | ⟨g, cap, cur, hv, hg, hh, r⟩
  · exact .inl h
  · exact .inr ⟨g, cap, cur, hv, hg, (hb g hg (Array.getElem?_eq_some_iff.1 hh).1).trans hh, r⟩
end Go.Proofs.YtfphcecjhdkcoaaGreatDoor

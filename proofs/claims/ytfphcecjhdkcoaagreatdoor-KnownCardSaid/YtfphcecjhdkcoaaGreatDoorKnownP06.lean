/-
The lines that name a file: those that are none.
-/
import Derived.Test.YtfphcecjhdkcoaaGreatDoorKnownP03
import Derived.Test.YtfphcecjhdkcoaaGreatDoorKnownP05
import Derived.LaidEql
/-
errors.Is at a fault of the program's and an error number.
-/
namespace Go
section
variable {P : Program} (w : World)
theorem run_equalIn_iface_int (d : Nat) {ti tn : TypeId} {ms : Array (String × TypeId)} {i : TypeInfo} {k : IntKind} (a b : Int)
    (hi : P.underlying ti = some (.interface ms)) (hn : P.underlying tn = some (.int k)) (hinfo : P.info? tn = some i) (hcomp : i.comparable = true) :
    (Op.equalIn (d + 2) ti (.iface tn (.int k a)) (.iface tn (.int k b))).run P w = .ok (a == b) w := by
  simp [Op.equalIn, run_underlying hi, run_underlying hn, typeInfo, hinfo, hcomp]
theorem run_eql_iface_int {ti tn : TypeId} {ms : Array (String × TypeId)} {i : TypeInfo} {k : IntKind} (a b : Int)
    (hi : P.underlying ti = some (.interface ms)) (hn : P.underlying tn = some (.int k)) (hinfo : P.info? tn = some i) (hcomp : i.comparable = true) :
    (binOp .eql ti (.iface tn (.int k a)) (.iface tn (.int k b))).run P w = .ok (.bool (a == b)) w := by
  simp only [binOp]
  simp [Op.equal, Op.maxDepth, run_equalIn_iface_int w 9998 a b hi hn hinfo hcomp]
end
end Go
namespace Go.Proofs.YtfphcecjhdkcoaaGreatDoor
open Go.RowKit Go.Extern.Stop Go.Stop Go.Extern
theorem Tryz.isTypeOf (v : Value) (w : World) : (Extern.ReflectliteType.typeOf #[.iface 122 v]).run Tryz.prog w = .ok (.iface 251 (.agg #[.pointer (some ⟨6, 122, none⟩)])) w := by kernel_rfl
theorem Tryz.isComparable (w : World) : ((Extern.ReflectliteType.method fun t => do Extern.Rtype.noPackHeld "Comparable" t; (fun a => Value.bool a.comparable) <$> typeInfo t) #[.agg #[.pointer (some ⟨6, 122, none⟩)]]).run Tryz.prog w = .ok (.bool true) w := by kernel_rfl
theorem Tryz.isMethodComparable (v : Value) (w : World) : (Go.method 496 251 v "Comparable").run Tryz.prog w = .ok (309, v) w := by kernel_rfl
theorem Tryz.isComp : (Tryz.prog.info? 122).map (·.comparable) = some true := by kernel_rfl
theorem Tryz.noIsF (v : Value) (xT : TypeId) (w : World) : (Instr.typeAssert (.iface 121 v) xT 263 true).run Tryz.prog w = .ok (.tuple #[.nilIface, .bool false]) w := run_typeAssert_lacksB Tryz.underlying263 (by kernel_rfl) (by kernel_rfl) v xT w
theorem Tryz.noIsE (v : Value) (xT : TypeId) (w : World) : (Instr.typeAssert (.iface 122 v) xT 263 true).run Tryz.prog w = .ok (.tuple #[.nilIface, .bool false]) w := run_typeAssert_lacksB Tryz.underlying263 (by kernel_rfl) (by kernel_rfl) v xT w
theorem Tryz.noUnwrapE (v : Value) (xT : TypeId) (w : World) : (Instr.typeAssert (.iface 122 v) xT 258 true).run Tryz.prog w = .ok (.tuple #[.nilIface, .bool false]) w := run_typeAssert_lacksB Tryz.underlying258 (by kernel_rfl) (by kernel_rfl) v xT w
theorem Tryz.noUnwrapsE (v : Value) (xT : TypeId) (w : World) : (Instr.typeAssert (.iface 122 v) xT 260 true).run Tryz.prog w = .ok (.tuple #[.nilIface, .bool false]) w := run_typeAssert_lacksB Tryz.underlying260 (by kernel_rfl) (by kernel_rfl) v xT w
theorem Tryz.hasUnwrapF (v : Value) (xT : TypeId) (w : World) : (Instr.typeAssert (.iface 121 v) xT 258 true).run Tryz.prog w = .ok (.tuple #[.iface 121 v, .bool true]) w := run_typeAssert_hasB Tryz.underlying258 (by kernel_rfl) v xT w
theorem Tryz.methodUnwrap (v : Value) (w : World) : (Go.method 496 121 v "Unwrap").run Tryz.prog w = .ok (302, v) w := by kernel_rfl
set_option maxRecDepth 100000 in
set_option maxHeartbeats 2000000 in
theorem is_same (eb : Nat) (k : Int) (w : World) (hk : w.cell? ⟨eb, 0, none⟩ = some (.int .i64 k)) :
    Calls Tryz.prog 66 #[.iface 121 (.pointer (some ⟨eb, 0, none⟩)), .iface 122 (.int .i64 k)] w fun e w' => e = .returned (.bool true) ∧ w' = w := by
  obtain ⟨i, hi, hcmp⟩ := Option.map_eq_some_iff.1 Tryz.isComp
  have h8 := @run_callFunc_extern Tryz.prog 115 _ Extern.ReflectliteType.typeOf Tryz.func115 (by kernel_rfl) (by kernel_rfl) (by kernel_rfl) (by kernel_rfl)
  have h32 := @run_callFunc_extern Tryz.prog 309 _ (Extern.ReflectliteType.method fun t => do Extern.Rtype.noPackHeld "Comparable" t; pure (.bool (← typeInfo t).comparable)) Tryz.func309 (by kernel_rfl) (by kernel_rfl) (by kernel_rfl) (by kernel_rfl)
  have tT := Tryz.isTypeOf
  have cT := Tryz.isComparable
  have mR := Tryz.isMethodComparable
  have nF := Tryz.noIsF
  have nE := Tryz.noIsE
  have uF := Tryz.hasUnwrapF
  have mU := Tryz.methodUnwrap
  have heq := fun W => run_eql_iface_int (P := Tryz.prog) W (k := .i64) k k Tryz.underlying81 Tryz.underlying122 hi hcmp
  have hty := fun W => run_eql_iface_types (P := Tryz.prog) 121 122 (.pointer (some ⟨eb, 0, none⟩)) (.int .i64 k) Tryz.underlying81 (by decide) W
  go_enter Tryz.func66, Tryz.ntmps66
  go_wp2
  refine wp_loop_rounds 2 ?_
  rw [rounds_succ]
  go_wp2
  rw [rounds_succ]
  go_wp2
  go_ret
  exact ⟨rfl, rfl⟩
set_option maxRecDepth 100000 in
set_option maxHeartbeats 2000000 in
theorem is_other (eb : Nat) (k j : Int) (w : World) (hk : w.cell? ⟨eb, 0, none⟩ = some (.int .i64 k)) (hne : (k == j) = false) :
    Calls Tryz.prog 66 #[.iface 121 (.pointer (some ⟨eb, 0, none⟩)), .iface 122 (.int .i64 j)] w fun e w' => e = .returned (.bool false) ∧ w' = w := by
  obtain ⟨i, hi, hcmp⟩ := Option.map_eq_some_iff.1 Tryz.isComp
  have h8 := @run_callFunc_extern Tryz.prog 115 _ Extern.ReflectliteType.typeOf Tryz.func115 (by kernel_rfl) (by kernel_rfl) (by kernel_rfl) (by kernel_rfl)
  have h32 := @run_callFunc_extern Tryz.prog 309 _ (Extern.ReflectliteType.method fun t => do Extern.Rtype.noPackHeld "Comparable" t; pure (.bool (← typeInfo t).comparable)) Tryz.func309 (by kernel_rfl) (by kernel_rfl) (by kernel_rfl) (by kernel_rfl)
  have tT := Tryz.isTypeOf
  have cT := Tryz.isComparable
  have mR := Tryz.isMethodComparable
  have nF := Tryz.noIsF
  have nE := Tryz.noIsE
  have uE := Tryz.noUnwrapE
  have vE := Tryz.noUnwrapsE
  have uF := Tryz.hasUnwrapF
  have mU := Tryz.methodUnwrap
  have heq := fun W => run_eql_iface_int (P := Tryz.prog) W (k := .i64) k j Tryz.underlying81 Tryz.underlying122 hi hcmp
  have hty := fun W => run_eql_iface_types (P := Tryz.prog) 121 122 (.pointer (some ⟨eb, 0, none⟩)) (.int .i64 j) Tryz.underlying81 (by decide) W
  go_enter Tryz.func66, Tryz.ntmps66
  go_wp2
  refine wp_loop_rounds 2 ?_
  rw [rounds_succ]
  go_wp2
  rw [rounds_succ]
  go_wp2
  go_ret
  exact ⟨rfl, rfl⟩
theorem is_any (eb : Nat) (k j : Int) (w : World) (hk : w.cell? ⟨eb, 0, none⟩ = some (.int .i64 k)) :
    Calls Tryz.prog 66 #[.iface 121 (.pointer (some ⟨eb, 0, none⟩)), .iface 122 (.int .i64 j)] w fun e w' => e = .returned (.bool (k == j)) ∧ w' = w := by
  cases h : (k == j) with
  | true =>
    have : k = j := by simpa using h
    subst this
    exact is_same eb k w hk
  | false => exact is_other eb k j w hk h
end Go.Proofs.YtfphcecjhdkcoaaGreatDoor
/-
A package while it is being read: how it lies in memory; the line that names it.
-/
namespace Go.Proofs.YtfphcecjhdkcoaaGreatDoor
open Go.RowKit
/-- The package p, being read, at block b: what hangs on it lies below m, but for its files: these are a row of its own. -/
def PackAt (w : World) (m b : Nat) (p : Sp.Pk) : Prop :=
  ∃ nv bv fv, m ≤ w.heap.size ∧ b + 1 < m ∧ w.cell? ⟨b, 0, none⟩ = some nv ∧ w.cell? ⟨b, 1, none⟩ = some bv ∧ w.cell? ⟨b, 2, none⟩ = some (sv p.name) ∧ w.cell? ⟨b, 3, none⟩ = some (sv p.ver) ∧ w.cell? ⟨b, 4, none⟩ = some fv ∧
    GsOn (fun x => x < m ∧ b + 1 < x) w nv p.needs ∧ ChOn (fun x => x < m ∧ b + 1 < x) w bv p.bars ∧ w.ownsRow m 182 2 fv p.files.length (p.files.flatMap flCells) ∧
    (p.needs = [] → nv = .slice none 0 0) ∧ (p.bars = [] → bv = .slice none 0 0) ∧ (p.files = [] → fv = .slice none 0 0) ∧ ∀ o, w.frozen? ⟨b, o, none⟩ = false
theorem PackAt.below {w w' : World} {m b : Nat} {p : Sp.Pk} (h : PackAt w m b p) (hb : Below w.heap.size w w') : PackAt w' m b p := by
  obtain ⟨nv, bv, fv, hm, hbm, h0, h1, h2, h3, h4, g0, g1, g2, n0, n1, n2, hz⟩ := h
  have hc := fun o => (bcell hb).1 b o (by omega)
  exact ⟨nv, bv, fv, Nat.le_trans hm hb.size, hbm, (hc 0).trans h0, (hc 1).trans h1, (hc 2).trans h2, (hc 3).trans h3, (hc 4).trans h4, g0.keep fun x hx => hb.block x (by omega), SlOn.keep g1 fun x hx => hb.block x (by omega), W3.row_keep g2 hb, n0, n1, n2, fun o => ((bcell hb).2 b o (by omega)).trans (hz o)⟩
theorem PackAt.setName {w : World} {m b : Nat} {p : Sp.Pk} (h : PackAt w m b p) (n : Sp.Str) : PackAt (w.setCell ⟨b, 2, none⟩ (sv n)) m b { p with name := n } := by
  obtain ⟨nv, bv, fv, hm, hbm, h0, h1, h2, h3, h4, g0, g1, g2, n0, n1, n2, hz⟩ := h
  obtain ⟨c1, c2, c3, c4, c5⟩ := set_facts w b 2 (sv n) _ h2 hz
  exact ⟨nv, bv, fv, by omega, hbm, (c2 0 (by omega)).trans h0, (c2 1 (by omega)).trans h1, c1, (c2 3 (by omega)).trans h3, (c2 4 (by omega)).trans h4, g0.keep fun x hx => c3 x (by omega), SlOn.keep g1 fun x hx => c3 x (by omega),
    row_block g2 fun k hk => c3 k (by omega), n0, n1, n2, c4⟩
theorem PackAt.setVer {w : World} {m b : Nat} {p : Sp.Pk} (h : PackAt w m b p) (n : Sp.Str) : PackAt (w.setCell ⟨b, 3, none⟩ (sv n)) m b { p with ver := n } := by
  obtain ⟨nv, bv, fv, hm, hbm, h0, h1, h2, h3, h4, g0, g1, g2, n0, n1, n2, hz⟩ := h
  obtain ⟨c1, c2, c3, c4, c5⟩ := set_facts w b 3 (sv n) _ h3 hz
  exact ⟨nv, bv, fv, by omega, hbm, (c2 0 (by omega)).trans h0, (c2 1 (by omega)).trans h1, (c2 2 (by omega)).trans h2, c1, (c2 4 (by omega)).trans h4, g0.keep fun x hx => c3 x (by omega), SlOn.keep g1 fun x hx => c3 x (by omega),
    row_block g2 fun k hk => c3 k (by omega), n0, n1, n2, c4⟩
theorem PackAt.setNeeds {w : World} {m b : Nat} {p : Sp.Pk} (h : PackAt w m b p) (hf : p.files = []) {v : Value} {gs : List (List Sp.Ch)} (hg : GsOn (fun x => x < w.heap.size ∧ b + 1 < x) w v gs) (hn : gs = [] → v = .slice none 0 0) :
    PackAt (w.setCell ⟨b, 0, none⟩ v) w.heap.size b { p with needs := gs } := by
  obtain ⟨nv, bv, fv, hm, hbm, h0, h1, h2, h3, h4, g0, g1, g2, n0, n1, n2, hz⟩ := h
  obtain ⟨c1, c2, c3, c4, c5⟩ := set_facts w b 0 v _ h0 hz
  refine ⟨v, bv, fv, by omega, by omega, c1, (c2 1 (by omega)).trans h1, (c2 2 (by omega)).trans h2, (c2 3 (by omega)).trans h3, (c2 4 (by omega)).trans h4, hg.keep fun x hx => c3 x (by omega), SlOn.keep (SlOn.mono g1 fun x hx => ⟨by omega, hx.2⟩) fun x hx => c3 x (by omega),
    ?_, hn, n1, n2, c4⟩
  rw [hf, n2 hf]; exact ⟨rfl, .inl ⟨rfl, rfl⟩⟩
theorem PackAt.setBars {w : World} {m b : Nat} {p : Sp.Pk} (h : PackAt w m b p) (hf : p.files = []) {v : Value} {cs : List Sp.Ch} (hg : ChOn (fun x => x < w.heap.size ∧ b + 1 < x) w v cs) (hn : cs = [] → v = .slice none 0 0) :
    PackAt (w.setCell ⟨b, 1, none⟩ v) w.heap.size b { p with bars := cs } := by
  obtain ⟨nv, bv, fv, hm, hbm, h0, h1, h2, h3, h4, g0, g1, g2, n0, n1, n2, hz⟩ := h
  obtain ⟨c1, c2, c3, c4, c5⟩ := set_facts w b 1 v _ h1 hz
  refine ⟨nv, v, fv, by omega, by omega, (c2 0 (by omega)).trans h0, c1, (c2 2 (by omega)).trans h2, (c2 3 (by omega)).trans h3, (c2 4 (by omega)).trans h4, (g0.mono fun x hx => ⟨by omega, hx.2⟩).keep fun x hx => c3 x (by omega), SlOn.keep hg fun x hx => c3 x (by omega),
    ?_, n0, hn, n2, c4⟩
  rw [hf, n2 hf]; exact ⟨rfl, .inl ⟨rfl, rfl⟩⟩
set_option maxRecDepth 100000 in
set_option maxHeartbeats 1000000 in
theorem line_package {G : Nat} (m b : Nat) (p : Sp.Pk) (s : ByteArray) (w : World) (hG : Glob G w) (hP : PackAt w m b p) (hs : s.size < 1000000) (a1 a2 b1 b2 : Sp.Str) (hA : Lib.cut (bl s) [32] = (a1, a2, true))
    (ha1 : (a1 == [112, 97, 99, 107, 97, 103, 101]) = true) (hB : Lib.cut a2 [32] = (b1, b2, true)) (hn : Sp.isName b1 = true) (hv : Sp.isVer b2 = true) :
    Calls Tryz.prog 103 #[.pointer (some ⟨b, 0, none⟩), .int .i64 0, .string s] w fun e w' => e = .returned (.tuple #[]) ∧ ∃ m', m ≤ m' ∧ PackAt w' m' b { p with name := b1, ver := b2 } ∧ FrN m b w w' := by
  obtain ⟨nv, bv, fv, hm, hb, h0, h1, h2, h3, h4, g0, g1, g2, n0, n1, n2, hz⟩ := hP
  have hmw := hm
  have ha2 : a2.length < 1000000 := by
    have := W2.cut_snd (bl s) [32]
    rw [hA, bl_len] at this; simp only at this; omega
  have hn' : Sp.isName (bl ⟨b1.toArray⟩) = true := by rw [bl_mk]; exact hn
  have hv' : Sp.isVer (bl ⟨b2.toArray⟩) = true := by rw [bl_mk]; exact hv
  have HN := Lib.hid hn'
  have HV := Lib.hid hv'
  have HA := Lib.hid hA
  have HB := Lib.hid hB
  clear hn hv hA hB hn' hv'
  go_enter Tryz.func103, Tryz.ntmps103
  go_wp2_with fail
  refine (cutS_any s _ w hG (by omega)).mono ?_
  rintro e w1 ⟨rfl, k, rfl⟩
  rw [show bl ⟨#[32]⟩ = [32] from rfl, HA.out]
  have hGk := hG.keep (below_drawn w k)
  go_wp2_with (first
    | (go_at_call 152; refine (must_true _).mono ?_; rintro e wx ⟨rfl, rfl⟩)
    | (go_at_call 151; refine (cutS_any _ _ _ hGk (by rw [← bl_len, bl_mk]; omega)).mono ?_; rintro e wx ⟨rfl, k2, rfl⟩; rw [show bl ⟨#[32]⟩ = [32] from rfl, bl_mk, HB.out]))
  have hbk : Below w.heap.size w (w.drewN (k + k2)) := below_drawn w _
  refine (name_yes _ _ (hG.keep hbk) HN.out).mono ?_
  rintro e w4 ⟨rfl, hb4⟩
  go_wp2_with fail
  refine (ver_yes _ _ HV.out).mono ?_
  rintro e w5 ⟨rfl, hb5⟩
  have hb5' : Below w.heap.size w w5 := hbk.trans (hb4.trans (hb5.mono hb4.size))
  have hP5 := PackAt.below ⟨nv, bv, fv, hm, hb, h0, h1, h2, h3, h4, g0, g1, g2, n0, n1, n2, hz⟩ hb5'
  clear h0 h1 h2 h3 h4 g0 g1 g2 n0 n1 n2 hz
  obtain ⟨nv, bv, fv, hm, hb, h0, h1, h2, h3, h4, g0, g1, g2, n0, n1, n2, hz⟩ := hP5
  have z2 := hz 2
  have z3 := hz 3
  have hP5 : PackAt w5 m b p := ⟨nv, bv, fv, hm, hb, h0, h1, h2, h3, h4, g0, g1, g2, n0, n1, n2, hz⟩
  clear h0 h1 h4 g0 g1 g2 n0 n1 n2 hz
  go_wp2
  go_end0
  exact ⟨rfl, m, Nat.le_refl _, (hP5.setName b1).setVer b2, (FrN.of_below hb5' hmw).trans ((FrN.set _ _ _ _ _).trans (FrN.set _ _ _ _ _))⟩
end Go.Proofs.YtfphcecjhdkcoaaGreatDoor
/-
The lines that name a package, its needs and what it bars: what they come to.
-/
namespace Go.Proofs.YtfphcecjhdkcoaaGreatDoor
open Go.RowKit
set_option maxRecDepth 100000 in
set_option maxHeartbeats 1000000 in
theorem line_no0 {G : Nat} (m b : Nat) (p : Sp.Pk) (s : ByteArray) (w : World) (hG : Glob G w) (hP : PackAt w m b p) (hs : s.size < 1000000) (i : Nat) (a1 a2 : Sp.Str) (ok c1 c2 : Bool) (hA : Lib.cut (bl s) [32] = (a1, a2, ok)) (hi : ((i : Int) == 0) = c1) (hw : (a1 == [112, 97, 99, 107, 97, 103, 101]) = c2) (h : (ok && (c1 == c2)) = false) :
    Calls Tryz.prog 103 #[.pointer (some ⟨b, 0, none⟩), .int .i64 (i : Int), .string s] w fun e w' => e = .panicked [{v := .iface 177 (.agg #[]), recovered := false}] ∧ FrN m b w w' := by
  have hPw := hP
  obtain ⟨nv, bv, fv, hmw, hbm, h0, h1, h2, h3, h4, g0, g1, g2, n0, n1, n2, hz⟩ := hP
  have ha2 : a2.length < 1000000 := by
    have := W2.cut_snd (bl s) [32]
    rw [hA, bl_len] at this; simp only at this; omega
  have HA := Lib.hid hA
  clear hA
  clear hPw h0 h1 h2 h3 h4 g0 g1 g2 n0 n1 n2 hz
  go_enter Tryz.func103, Tryz.ntmps103
  go_wp2_with fail
  refine (cutS_any s _ w hG (by omega)).mono ?_
  rintro e w1 ⟨rfl, k, rfl⟩
  rw [show bl ⟨#[32]⟩ = [32] from rfl, HA.out]
  have hbk : Below w.heap.size w (w.drewN k) := below_drawn w k
  have hGk := hG.keep hbk
  have hfin : FrN m b w (w.drewN k) := FrN.of_below hbk hmw
  cases ok with
  | false =>
    go_wp2_with fail
    refine (must_false _).mono ?_
    rintro e w3 ⟨rfl, rfl⟩
    go_wp2
    exact ⟨rfl, rfl, hfin⟩
  | true =>
    have h' : (c1 == c2) = false := by rwa [Bool.true_and] at h
    clear h
    cases c1 with
    | false =>
      cases c2 with
      | false => cases h'
      | true =>
        go_wp2_with fail
        refine (must_false _).mono ?_
        rintro e w3 ⟨rfl, rfl⟩
        go_wp2
        exact ⟨rfl, rfl, hfin⟩
    | true =>
      cases c2 with
      | true => cases h'
      | false =>
        go_wp2_with fail
        refine (must_false _).mono ?_
        rintro e w3 ⟨rfl, rfl⟩
        go_wp2
        exact ⟨rfl, rfl, hfin⟩
set_option maxRecDepth 100000 in
set_option maxHeartbeats 1000000 in
theorem line_package_no1 {G : Nat} (m b : Nat) (p : Sp.Pk) (s : ByteArray) (w : World) (hG : Glob G w) (hP : PackAt w m b p) (hs : s.size < 1000000) (i : Nat) (a1 a2 : Sp.Str) (b1 b2 : Sp.Str) (hA : Lib.cut (bl s) [32] = (a1, a2, true)) (h0i : i = 0) (hw0 : (a1 == [112, 97, 99, 107, 97, 103, 101]) = true) (hB : Lib.cut a2 [32] = (b1, b2, false)) :
    Calls Tryz.prog 103 #[.pointer (some ⟨b, 0, none⟩), .int .i64 (i : Int), .string s] w fun e w' => e = .panicked [{v := .iface 177 (.agg #[]), recovered := false}] ∧ FrN m b w w' := by
  subst h0i
  have hPw := hP
  obtain ⟨nv, bv, fv, hmw, hbm, h0, h1, h2, h3, h4, g0, g1, g2, n0, n1, n2, hz⟩ := hP
  have ha2 : a2.length < 1000000 := by
    have := W2.cut_snd (bl s) [32]
    rw [hA, bl_len] at this; simp only at this; omega
  have HA := Lib.hid hA
  have HB := Lib.hid hB
  clear hA hB
  clear hPw h0 h1 h2 h3 h4 g0 g1 g2 n0 n1 n2 hz
  go_enter Tryz.func103, Tryz.ntmps103
  go_wp2_with fail
  refine (cutS_any s _ w hG (by omega)).mono ?_
  rintro e w1 ⟨rfl, k, rfl⟩
  rw [show bl ⟨#[32]⟩ = [32] from rfl, HA.out]
  have hbk : Below w.heap.size w (w.drewN k) := below_drawn w k
  have hGk := hG.keep hbk
  go_wp2_with fail
  refine (must_true _).mono ?_
  rintro e wx ⟨rfl, rfl⟩
  go_wp2_with fail
  refine (cutS_any _ _ _ hGk (by rw [← bl_len, bl_mk]; omega)).mono ?_
  rintro e wx ⟨rfl, k2, rfl⟩
  rw [show bl ⟨#[32]⟩ = [32] from rfl, bl_mk, HB.out]
  go_wp2_with fail
  refine (must_false _).mono ?_
  rintro e w3 ⟨rfl, rfl⟩
  go_wp2
  exact ⟨rfl, rfl, FrN.of_below (below_drawn w _) hmw⟩
set_option maxRecDepth 100000 in
set_option maxHeartbeats 1000000 in
theorem line_package_no2 {G : Nat} (m b : Nat) (p : Sp.Pk) (s : ByteArray) (w : World) (hG : Glob G w) (hP : PackAt w m b p) (hs : s.size < 1000000) (i : Nat) (a1 a2 : Sp.Str) (b1 b2 : Sp.Str) (hA : Lib.cut (bl s) [32] = (a1, a2, true)) (h0i : i = 0) (hw0 : (a1 == [112, 97, 99, 107, 97, 103, 101]) = true) (hB : Lib.cut a2 [32] = (b1, b2, true)) (hn : Sp.isName b1 = false) :
    Calls Tryz.prog 103 #[.pointer (some ⟨b, 0, none⟩), .int .i64 (i : Int), .string s] w fun e w' => e = .panicked [{v := .iface 177 (.agg #[]), recovered := false}] ∧ FrN m b w w' := by
  subst h0i
  have hPw := hP
  obtain ⟨nv, bv, fv, hmw, hbm, h0, h1, h2, h3, h4, g0, g1, g2, n0, n1, n2, hz⟩ := hP
  have ha2 : a2.length < 1000000 := by
    have := W2.cut_snd (bl s) [32]
    rw [hA, bl_len] at this; simp only at this; omega
  have HA := Lib.hid hA
  have HN : Hid (Sp.isName (bl ⟨b1.toArray⟩) = false) := Lib.hid (by rw [bl_mk]; exact hn)
  clear hn
  have HB := Lib.hid hB
  clear hA hB
  clear hPw h0 h1 h2 h3 h4 g0 g1 g2 n0 n1 n2 hz
  go_enter Tryz.func103, Tryz.ntmps103
  go_wp2_with fail
  refine (cutS_any s _ w hG (by omega)).mono ?_
  rintro e w1 ⟨rfl, k, rfl⟩
  rw [show bl ⟨#[32]⟩ = [32] from rfl, HA.out]
  have hbk : Below w.heap.size w (w.drewN k) := below_drawn w k
  have hGk := hG.keep hbk
  go_wp2_with fail
  refine (must_true _).mono ?_
  rintro e wx ⟨rfl, rfl⟩
  go_wp2_with fail
  refine (cutS_any _ _ _ hGk (by rw [← bl_len, bl_mk]; omega)).mono ?_
  rintro e wx ⟨rfl, k2, rfl⟩
  rw [show bl ⟨#[32]⟩ = [32] from rfl, bl_mk, HB.out]
  go_wp2_with fail
  refine (must_true _).mono ?_
  rintro e w3 ⟨rfl, rfl⟩
  go_wp2_with fail
  refine (name_no _ _ (hG.keep (below_drawn w _)) HN.out).mono ?_
  rintro e w4 ⟨rfl, hb4⟩
  go_wp2
  exact ⟨rfl, rfl, FrN.of_below ((below_drawn w _).trans (hb4.mono (below_drawn w _).size)) hmw⟩
set_option maxRecDepth 100000 in
set_option maxHeartbeats 1000000 in
theorem line_package_no3 {G : Nat} (m b : Nat) (p : Sp.Pk) (s : ByteArray) (w : World) (hG : Glob G w) (hP : PackAt w m b p) (hs : s.size < 1000000) (i : Nat) (a1 a2 : Sp.Str) (b1 b2 : Sp.Str) (hA : Lib.cut (bl s) [32] = (a1, a2, true)) (h0i : i = 0) (hw0 : (a1 == [112, 97, 99, 107, 97, 103, 101]) = true) (hB : Lib.cut a2 [32] = (b1, b2, true)) (hn : Sp.isName b1 = true) (hv : Sp.isVer b2 = false) :
    Calls Tryz.prog 103 #[.pointer (some ⟨b, 0, none⟩), .int .i64 (i : Int), .string s] w fun e w' => e = .panicked [{v := .iface 177 (.agg #[]), recovered := false}] ∧ FrN m b w w' := by
  subst h0i
  have hPw := hP
  obtain ⟨nv, bv, fv, hmw, hbm, h0, h1, h2, h3, h4, g0, g1, g2, n0, n1, n2, hz⟩ := hP
  have ha2 : a2.length < 1000000 := by
    have := W2.cut_snd (bl s) [32]
    rw [hA, bl_len] at this; simp only at this; omega
  have HA := Lib.hid hA
  have HN : Hid (Sp.isName (bl ⟨b1.toArray⟩) = true) := Lib.hid (by rw [bl_mk]; exact hn)
  clear hn
  have HV : Hid (Sp.isVer (bl ⟨b2.toArray⟩) = false) := Lib.hid (by rw [bl_mk]; exact hv)
  clear hv
  have HB := Lib.hid hB
  clear hA hB
  clear hPw h0 h1 h2 h3 h4 g0 g1 g2 n0 n1 n2 hz
  go_enter Tryz.func103, Tryz.ntmps103
  go_wp2_with fail
  refine (cutS_any s _ w hG (by omega)).mono ?_
  rintro e w1 ⟨rfl, k, rfl⟩
  rw [show bl ⟨#[32]⟩ = [32] from rfl, HA.out]
  have hbk : Below w.heap.size w (w.drewN k) := below_drawn w k
  have hGk := hG.keep hbk
  go_wp2_with fail
  refine (must_true _).mono ?_
  rintro e wx ⟨rfl, rfl⟩
  go_wp2_with fail
  refine (cutS_any _ _ _ hGk (by rw [← bl_len, bl_mk]; omega)).mono ?_
  rintro e wx ⟨rfl, k2, rfl⟩
  rw [show bl ⟨#[32]⟩ = [32] from rfl, bl_mk, HB.out]
  go_wp2_with fail
  refine (must_true _).mono ?_
  rintro e w3 ⟨rfl, rfl⟩
  go_wp2_with fail
  refine (name_yes _ _ (hG.keep (below_drawn w _)) HN.out).mono ?_
  rintro e w4 ⟨rfl, hb4⟩
  have hb4' := (below_drawn w (k + k2)).trans (hb4.mono (below_drawn w _).size)
  go_wp2_with fail
  refine (ver_no _ _ HV.out).mono ?_
  rintro e w5 ⟨rfl, hb5⟩
  go_wp2
  exact ⟨rfl, rfl, FrN.of_below (hb4'.trans (hb5.mono hb4'.size)) hmw⟩
set_option maxRecDepth 100000 in
set_option maxHeartbeats 1000000 in
theorem line_other {G : Nat} (m b : Nat) (p : Sp.Pk) (s : ByteArray) (w : World) (hG : Glob G w) (hP : PackAt w m b p) (hs : s.size < 1000000) (i : Nat) (a1 a2 : Sp.Str) (hA : Lib.cut (bl s) [32] = (a1, a2, true)) (hi : ((i : Int) == 0) = false) (hw0 : (a1 == [112, 97, 99, 107, 97, 103, 101]) = false) (hw1 : (a1 == [110, 101, 101, 100, 115]) = false) (hw2 : (a1 == [98, 97, 114, 115]) = false) (hw3 : (a1 == [102, 105, 108, 101]) = false) :
    Calls Tryz.prog 103 #[.pointer (some ⟨b, 0, none⟩), .int .i64 (i : Int), .string s] w fun e w' => e = .panicked [{v := .iface 177 (.agg #[]), recovered := false}] ∧ FrN m b w w' := by
  have hPw := hP
  obtain ⟨nv, bv, fv, hmw, hbm, h0, h1, h2, h3, h4, g0, g1, g2, n0, n1, n2, hz⟩ := hP
  have ha2 : a2.length < 1000000 := by
    have := W2.cut_snd (bl s) [32]
    rw [hA, bl_len] at this; simp only at this; omega
  have HA := Lib.hid hA
  clear hA
  clear hPw h0 h1 h2 h3 h4 g0 g1 g2 n0 n1 n2 hz
  go_enter Tryz.func103, Tryz.ntmps103
  go_wp2_with fail
  refine (cutS_any s _ w hG (by omega)).mono ?_
  rintro e w1 ⟨rfl, k, rfl⟩
  rw [show bl ⟨#[32]⟩ = [32] from rfl, HA.out]
  have hbk : Below w.heap.size w (w.drewN k) := below_drawn w k
  have hGk := hG.keep hbk
  go_wp2_with fail
  refine (must_true _).mono ?_
  rintro e wx ⟨rfl, rfl⟩
  go_wp2
  exact ⟨rfl, rfl, FrN.of_below hbk hmw⟩
end Go.Proofs.YtfphcecjhdkcoaaGreatDoor
/-
The lines that name a package's needs and what it bars.
-/
namespace Go.Proofs.YtfphcecjhdkcoaaGreatDoor
open Go.RowKit
set_option maxRecDepth 100000 in
set_option maxHeartbeats 1000000 in
theorem line_needs_no1 {G : Nat} (m b : Nat) (p : Sp.Pk) (s : ByteArray) (w : World) (hG : Glob G w) (hP : PackAt w m b p) (hs : s.size < 1000000) (i : Nat) (a1 a2 : Sp.Str) (hA : Lib.cut (bl s) [32] = (a1, a2, true)) (hi : ((i : Int) == 0) = false) (hw0 : (a1 == [112, 97, 99, 107, 97, 103, 101]) = false) (hw1 : (a1 == [110, 101, 101, 100, 115]) = true) (hne : p.needs ≠ []) :
    Calls Tryz.prog 103 #[.pointer (some ⟨b, 0, none⟩), .int .i64 (i : Int), .string s] w fun e w' => e = .panicked [{v := .iface 177 (.agg #[]), recovered := false}] ∧ FrN m b w w' := by
  have hPw := hP
  obtain ⟨nv, bv, fv, hmw, hbm, h0, h1, h2, h3, h4, g0, g1, g2, n0, n1, n2, hz⟩ := hP
  have ha2 : a2.length < 1000000 := by
    have := W2.cut_snd (bl s) [32]
    rw [hA, bl_len] at this; simp only at this; omega
  have HA := Lib.hid hA
  have q169 : ∀ (a : Option Addr) (n c n' c' : Nat) (W : World), (binOp .eql 169 (.slice a n c) (.slice none n' c')).run Tryz.prog W = .ok (.bool a.isNone) W := fun a n c n' c' W => Lib.run_eql_slice_nil W _ _ a n c n' c' Tryz.underlying169
  have q170 : ∀ (a : Option Addr) (n c n' c' : Nat) (W : World), (binOp .eql 170 (.slice a n c) (.slice none n' c')).run Tryz.prog W = .ok (.bool a.isNone) W := fun a n c n' c' W => Lib.run_eql_slice_nil W _ _ a n c n' c' Tryz.underlying170
  have q173 : ∀ (a : Option Addr) (n c n' c' : Nat) (W : World), (binOp .eql 173 (.slice a n c) (.slice none n' c')).run Tryz.prog W = .ok (.bool a.isNone) W := fun a n c n' c' W => Lib.run_eql_slice_nil W _ _ a n c n' c' Tryz.underlying173
  obtain ⟨vs, hvs, hgr⟩ := g0
  obtain ⟨nb, no, nc, rfl⟩ := slice_some hvs (by rw [ne_eq, List.map_eq_nil_iff]; intro e; rw [e] at hgr; exact hne (List.length_eq_zero_iff.1 hgr.1.symm))
  clear hA hPw h2 h3 g1 g2 n0 n1 n2 hz
  go_enter Tryz.func103, Tryz.ntmps103
  go_wp2_with fail
  refine (cutS_any s _ w hG (by omega)).mono ?_
  rintro e w1 ⟨rfl, k, rfl⟩
  rw [show bl ⟨#[32]⟩ = [32] from rfl, HA.out]
  have hbk : Below w.heap.size w (w.drewN k) := below_drawn w k
  have hGk := hG.keep hbk
  have h0' := ((bcell hbk).1 b 0 (by omega)).trans h0
  have h1' := ((bcell hbk).1 b 1 (by omega)).trans h1
  have h4' := ((bcell hbk).1 b 4 (by omega)).trans h4
  go_wp2_with fail
  refine (must_true _).mono ?_
  rintro e wx ⟨rfl, rfl⟩
  go_wp2_with fail
  refine (must_false _).mono ?_
  rintro e w3 ⟨rfl, rfl⟩
  go_wp2
  exact ⟨rfl, rfl, FrN.of_below hbk hmw⟩
set_option maxRecDepth 100000 in
set_option maxHeartbeats 1000000 in
theorem line_needs_no2 {G : Nat} (m b : Nat) (p : Sp.Pk) (s : ByteArray) (w : World) (hG : Glob G w) (hP : PackAt w m b p) (hs : s.size < 1000000) (i : Nat) (a1 a2 : Sp.Str) (hA : Lib.cut (bl s) [32] = (a1, a2, true)) (hi : ((i : Int) == 0) = false) (hw0 : (a1 == [112, 97, 99, 107, 97, 103, 101]) = false) (hw1 : (a1 == [110, 101, 101, 100, 115]) = true) (hne : p.needs = []) (hbe : p.bars ≠ []) :
    Calls Tryz.prog 103 #[.pointer (some ⟨b, 0, none⟩), .int .i64 (i : Int), .string s] w fun e w' => e = .panicked [{v := .iface 177 (.agg #[]), recovered := false}] ∧ FrN m b w w' := by
  have hPw := hP
  obtain ⟨nv, bv, fv, hmw, hbm, h0, h1, h2, h3, h4, g0, g1, g2, n0, n1, n2, hz⟩ := hP
  have ha2 : a2.length < 1000000 := by
    have := W2.cut_snd (bl s) [32]
    rw [hA, bl_len] at this; simp only at this; omega
  have HA := Lib.hid hA
  have q169 : ∀ (a : Option Addr) (n c n' c' : Nat) (W : World), (binOp .eql 169 (.slice a n c) (.slice none n' c')).run Tryz.prog W = .ok (.bool a.isNone) W := fun a n c n' c' W => Lib.run_eql_slice_nil W _ _ a n c n' c' Tryz.underlying169
  have q170 : ∀ (a : Option Addr) (n c n' c' : Nat) (W : World), (binOp .eql 170 (.slice a n c) (.slice none n' c')).run Tryz.prog W = .ok (.bool a.isNone) W := fun a n c n' c' W => Lib.run_eql_slice_nil W _ _ a n c n' c' Tryz.underlying170
  have q173 : ∀ (a : Option Addr) (n c n' c' : Nat) (W : World), (binOp .eql 173 (.slice a n c) (.slice none n' c')).run Tryz.prog W = .ok (.bool a.isNone) W := fun a n c n' c' W => Lib.run_eql_slice_nil W _ _ a n c n' c' Tryz.underlying173
  obtain rfl := n0 hne
  obtain ⟨bb, bo, bc, rfl⟩ := slice_some g1 (by rw [ne_eq, List.map_eq_nil_iff]; exact hbe)
  clear hA hPw h2 h3 g1 g2 n0 n1 n2 hz
  go_enter Tryz.func103, Tryz.ntmps103
  go_wp2_with fail
  refine (cutS_any s _ w hG (by omega)).mono ?_
  rintro e w1 ⟨rfl, k, rfl⟩
  rw [show bl ⟨#[32]⟩ = [32] from rfl, HA.out]
  have hbk : Below w.heap.size w (w.drewN k) := below_drawn w k
  have hGk := hG.keep hbk
  have h0' := ((bcell hbk).1 b 0 (by omega)).trans h0
  have h1' := ((bcell hbk).1 b 1 (by omega)).trans h1
  have h4' := ((bcell hbk).1 b 4 (by omega)).trans h4
  go_wp2_with fail
  refine (must_true _).mono ?_
  rintro e wx ⟨rfl, rfl⟩
  go_wp2_with fail
  refine (must_false _).mono ?_
  rintro e w3 ⟨rfl, rfl⟩
  go_wp2
  exact ⟨rfl, rfl, FrN.of_below hbk hmw⟩
set_option maxRecDepth 100000 in
set_option maxHeartbeats 1000000 in
theorem line_needs_no3 {G : Nat} (m b : Nat) (p : Sp.Pk) (s : ByteArray) (w : World) (hG : Glob G w) (hP : PackAt w m b p) (hs : s.size < 1000000) (i : Nat) (a1 a2 : Sp.Str) (hA : Lib.cut (bl s) [32] = (a1, a2, true)) (hi : ((i : Int) == 0) = false) (hw0 : (a1 == [112, 97, 99, 107, 97, 103, 101]) = false) (hw1 : (a1 == [110, 101, 101, 100, 115]) = true) (hne : p.needs = []) (hbe : p.bars = []) (hfe : p.files ≠ []) :
    Calls Tryz.prog 103 #[.pointer (some ⟨b, 0, none⟩), .int .i64 (i : Int), .string s] w fun e w' => e = .panicked [{v := .iface 177 (.agg #[]), recovered := false}] ∧ FrN m b w w' := by
  have hPw := hP
  obtain ⟨nv, bv, fv, hmw, hbm, h0, h1, h2, h3, h4, g0, g1, g2, n0, n1, n2, hz⟩ := hP
  have ha2 : a2.length < 1000000 := by
    have := W2.cut_snd (bl s) [32]
    rw [hA, bl_len] at this; simp only at this; omega
  have HA := Lib.hid hA
  have q169 : ∀ (a : Option Addr) (n c n' c' : Nat) (W : World), (binOp .eql 169 (.slice a n c) (.slice none n' c')).run Tryz.prog W = .ok (.bool a.isNone) W := fun a n c n' c' W => Lib.run_eql_slice_nil W _ _ a n c n' c' Tryz.underlying169
  have q170 : ∀ (a : Option Addr) (n c n' c' : Nat) (W : World), (binOp .eql 170 (.slice a n c) (.slice none n' c')).run Tryz.prog W = .ok (.bool a.isNone) W := fun a n c n' c' W => Lib.run_eql_slice_nil W _ _ a n c n' c' Tryz.underlying170
  have q173 : ∀ (a : Option Addr) (n c n' c' : Nat) (W : World), (binOp .eql 173 (.slice a n c) (.slice none n' c')).run Tryz.prog W = .ok (.bool a.isNone) W := fun a n c n' c' W => Lib.run_eql_slice_nil W _ _ a n c n' c' Tryz.underlying173
  obtain rfl := n0 hne
  obtain rfl := n1 hbe
  obtain ⟨fb, fc, rfl⟩ := row_some g2 hfe
  clear hA hPw h2 h3 g1 g2 n0 n1 n2 hz
  go_enter Tryz.func103, Tryz.ntmps103
  go_wp2_with fail
  refine (cutS_any s _ w hG (by omega)).mono ?_
  rintro e w1 ⟨rfl, k, rfl⟩
  rw [show bl ⟨#[32]⟩ = [32] from rfl, HA.out]
  have hbk : Below w.heap.size w (w.drewN k) := below_drawn w k
  have hGk := hG.keep hbk
  have h0' := ((bcell hbk).1 b 0 (by omega)).trans h0
  have h1' := ((bcell hbk).1 b 1 (by omega)).trans h1
  have h4' := ((bcell hbk).1 b 4 (by omega)).trans h4
  go_wp2_with fail
  refine (must_true _).mono ?_
  rintro e wx ⟨rfl, rfl⟩
  go_wp2_with fail
  refine (must_false _).mono ?_
  rintro e w3 ⟨rfl, rfl⟩
  go_wp2
  exact ⟨rfl, rfl, FrN.of_below hbk hmw⟩
set_option maxRecDepth 100000 in
set_option maxHeartbeats 1000000 in
theorem line_needs_no4 {G : Nat} (m b : Nat) (p : Sp.Pk) (s : ByteArray) (w : World) (hG : Glob G w) (hP : PackAt w m b p) (hs : s.size < 1000000) (i : Nat) (a1 a2 : Sp.Str) (hA : Lib.cut (bl s) [32] = (a1, a2, true)) (hi : ((i : Int) == 0) = false) (hw0 : (a1 == [112, 97, 99, 107, 97, 103, 101]) = false) (hw1 : (a1 == [110, 101, 101, 100, 115]) = true) (hne : p.needs = []) (hbe : p.bars = []) (hfe : p.files = []) (hE : Sp.each a2 [44, 32] 3 groupO = none) :
    Calls Tryz.prog 103 #[.pointer (some ⟨b, 0, none⟩), .int .i64 (i : Int), .string s] w fun e w' => e = .panicked [{v := .iface 177 (.agg #[]), recovered := false}] ∧ FrN m b w w' := by
  have hPw := hP
  obtain ⟨nv, bv, fv, hmw, hbm, h0, h1, h2, h3, h4, g0, g1, g2, n0, n1, n2, hz⟩ := hP
  have ha2 : a2.length < 1000000 := by
    have := W2.cut_snd (bl s) [32]
    rw [hA, bl_len] at this; simp only at this; omega
  have HA := Lib.hid hA
  have q169 : ∀ (a : Option Addr) (n c n' c' : Nat) (W : World), (binOp .eql 169 (.slice a n c) (.slice none n' c')).run Tryz.prog W = .ok (.bool a.isNone) W := fun a n c n' c' W => Lib.run_eql_slice_nil W _ _ a n c n' c' Tryz.underlying169
  have q170 : ∀ (a : Option Addr) (n c n' c' : Nat) (W : World), (binOp .eql 170 (.slice a n c) (.slice none n' c')).run Tryz.prog W = .ok (.bool a.isNone) W := fun a n c n' c' W => Lib.run_eql_slice_nil W _ _ a n c n' c' Tryz.underlying170
  have q173 : ∀ (a : Option Addr) (n c n' c' : Nat) (W : World), (binOp .eql 173 (.slice a n c) (.slice none n' c')).run Tryz.prog W = .ok (.bool a.isNone) W := fun a n c n' c' W => Lib.run_eql_slice_nil W _ _ a n c n' c' Tryz.underlying173
  obtain rfl := n0 hne
  obtain rfl := n1 hbe
  obtain rfl := n2 hfe
  have HE := Lib.hid hE
  clear hA hE hPw h2 h3 g1 g2 n0 n1 n2 hz
  go_enter Tryz.func103, Tryz.ntmps103
  go_wp2_with fail
  refine (cutS_any s _ w hG (by omega)).mono ?_
  rintro e w1 ⟨rfl, k, rfl⟩
  rw [show bl ⟨#[32]⟩ = [32] from rfl, HA.out]
  have hbk : Below w.heap.size w (w.drewN k) := below_drawn w k
  have hGk := hG.keep hbk
  go_wp2_with fail
  refine (must_true _).mono ?_
  rintro e wx ⟨rfl, rfl⟩
  go_wp2_with fail
  refine (must_true _).mono ?_
  rintro e wx ⟨rfl, rfl⟩
  go_wp2_with fail
  refine (eachG_any _ _ 3 _ hGk (by rw [← bl_len, bl_mk]; omega) (by decide)).mono ?_
  rintro e w5 ⟨hb5, hE5⟩
  rw [show bl ⟨#[44, 32]⟩ = [44, 32] from rfl, bl_mk] at hE5
  rcases hE5 with ⟨l, a, cap, hE, rfl, hgs⟩ | ⟨hE, rfl⟩
  · rw [HE.out] at hE; cases hE
  · go_wp2
    exact ⟨rfl, rfl, FrN.of_below (hbk.trans (hb5.mono hbk.size)) hmw⟩
set_option maxRecDepth 100000 in
set_option maxHeartbeats 1000000 in
theorem line_needs_yes {G : Nat} (m b : Nat) (p : Sp.Pk) (s : ByteArray) (w : World) (hG : Glob G w) (hP : PackAt w m b p) (hs : s.size < 1000000) (i : Nat) (a1 a2 : Sp.Str) (hA : Lib.cut (bl s) [32] = (a1, a2, true)) (hi : ((i : Int) == 0) = false) (hw0 : (a1 == [112, 97, 99, 107, 97, 103, 101]) = false) (hw1 : (a1 == [110, 101, 101, 100, 115]) = true) (hne : p.needs = []) (hbe : p.bars = []) (hfe : p.files = []) (gs : List (List Sp.Ch)) (hE : Sp.each a2 [44, 32] 3 groupO = some gs) :
    Calls Tryz.prog 103 #[.pointer (some ⟨b, 0, none⟩), .int .i64 (i : Int), .string s] w fun e w' => e = .returned (.tuple #[]) ∧ ∃ m', m ≤ m' ∧ PackAt w' m' b { p with needs := gs } ∧ FrN m b w w' := by
  have hPw := hP
  obtain ⟨nv, bv, fv, hmw, hbm, h0, h1, h2, h3, h4, g0, g1, g2, n0, n1, n2, hz⟩ := hP
  have ha2 : a2.length < 1000000 := by
    have := W2.cut_snd (bl s) [32]
    rw [hA, bl_len] at this; simp only at this; omega
  have HA := Lib.hid hA
  have q169 : ∀ (a : Option Addr) (n c n' c' : Nat) (W : World), (binOp .eql 169 (.slice a n c) (.slice none n' c')).run Tryz.prog W = .ok (.bool a.isNone) W := fun a n c n' c' W => Lib.run_eql_slice_nil W _ _ a n c n' c' Tryz.underlying169
  have q170 : ∀ (a : Option Addr) (n c n' c' : Nat) (W : World), (binOp .eql 170 (.slice a n c) (.slice none n' c')).run Tryz.prog W = .ok (.bool a.isNone) W := fun a n c n' c' W => Lib.run_eql_slice_nil W _ _ a n c n' c' Tryz.underlying170
  have q173 : ∀ (a : Option Addr) (n c n' c' : Nat) (W : World), (binOp .eql 173 (.slice a n c) (.slice none n' c')).run Tryz.prog W = .ok (.bool a.isNone) W := fun a n c n' c' W => Lib.run_eql_slice_nil W _ _ a n c n' c' Tryz.underlying173
  obtain rfl := n0 hne
  obtain rfl := n1 hbe
  obtain rfl := n2 hfe
  have HE := Lib.hid hE
  have HP := Lib.hid hPw
  have HF := Lib.hid hfe
  clear hA hE hPw hfe h2 h3 g1 g2 n0 n1 n2
  go_enter Tryz.func103, Tryz.ntmps103
  go_wp2_with fail
  refine (cutS_any s _ w hG (by omega)).mono ?_
  rintro e w1 ⟨rfl, k, rfl⟩
  rw [show bl ⟨#[32]⟩ = [32] from rfl, HA.out]
  have hbk : Below w.heap.size w (w.drewN k) := below_drawn w k
  have hGk := hG.keep hbk
  go_wp2_with fail
  refine (must_true _).mono ?_
  rintro e wx ⟨rfl, rfl⟩
  go_wp2_with fail
  refine (must_true _).mono ?_
  rintro e wx ⟨rfl, rfl⟩
  go_wp2_with fail
  refine (eachG_any _ _ 3 _ hGk (by rw [← bl_len, bl_mk]; omega) (by decide)).mono ?_
  rintro e w5 ⟨hb5, hE5⟩
  rw [show bl ⟨#[44, 32]⟩ = [44, 32] from rfl, bl_mk] at hE5
  rcases hE5 with ⟨l, a, cap, hE, rfl, hgs⟩ | ⟨hE, rfl⟩
  · rw [HE.out] at hE
    cases hE
    have hb5' := hbk.trans (hb5.mono hbk.size)
    have hP5 := HP.out.below hb5'
    have hl := each_ne (by simp) HE.out
    have hgs' := hgs.mono (S' := fun x => x < w5.heap.size ∧ b + 1 < x) (fun x hx => ⟨hx.1, by have := hx.2; have := hbk.size; omega⟩)
    have z0 := ((bcell hb5').2 b 0 (by omega)).trans (hz 0)
    have c0 := ((bcell hb5').1 b 0 (by omega)).trans h0
    have HG := Lib.hid hgs'
    have HP5 := Lib.hid hP5
    have hsz := hb5'.size
    clear hgs hgs' hP5 hz
    go_wp2
    go_end0
    exact ⟨rfl, w5.heap.size, by omega, HP5.out.setNeeds HF.out HG.out (fun e => absurd e hl), (FrN.of_below hb5' hmw).trans (FrN.set _ _ _ _ _)⟩
  · rw [HE.out] at hE; cases hE
set_option maxRecDepth 100000 in
set_option maxHeartbeats 1000000 in
theorem line_bars_no1 {G : Nat} (m b : Nat) (p : Sp.Pk) (s : ByteArray) (w : World) (hG : Glob G w) (hP : PackAt w m b p) (hs : s.size < 1000000) (i : Nat) (a1 a2 : Sp.Str) (hA : Lib.cut (bl s) [32] = (a1, a2, true)) (hi : ((i : Int) == 0) = false) (hw0 : (a1 == [112, 97, 99, 107, 97, 103, 101]) = false) (hw1 : (a1 == [110, 101, 101, 100, 115]) = false) (hw2 : (a1 == [98, 97, 114, 115]) = true) (hbe : p.bars ≠ []) :
    Calls Tryz.prog 103 #[.pointer (some ⟨b, 0, none⟩), .int .i64 (i : Int), .string s] w fun e w' => e = .panicked [{v := .iface 177 (.agg #[]), recovered := false}] ∧ FrN m b w w' := by
  have hPw := hP
  obtain ⟨nv, bv, fv, hmw, hbm, h0, h1, h2, h3, h4, g0, g1, g2, n0, n1, n2, hz⟩ := hP
  have ha2 : a2.length < 1000000 := by
    have := W2.cut_snd (bl s) [32]
    rw [hA, bl_len] at this; simp only at this; omega
  have HA := Lib.hid hA
  have q169 : ∀ (a : Option Addr) (n c n' c' : Nat) (W : World), (binOp .eql 169 (.slice a n c) (.slice none n' c')).run Tryz.prog W = .ok (.bool a.isNone) W := fun a n c n' c' W => Lib.run_eql_slice_nil W _ _ a n c n' c' Tryz.underlying169
  have q170 : ∀ (a : Option Addr) (n c n' c' : Nat) (W : World), (binOp .eql 170 (.slice a n c) (.slice none n' c')).run Tryz.prog W = .ok (.bool a.isNone) W := fun a n c n' c' W => Lib.run_eql_slice_nil W _ _ a n c n' c' Tryz.underlying170
  have q173 : ∀ (a : Option Addr) (n c n' c' : Nat) (W : World), (binOp .eql 173 (.slice a n c) (.slice none n' c')).run Tryz.prog W = .ok (.bool a.isNone) W := fun a n c n' c' W => Lib.run_eql_slice_nil W _ _ a n c n' c' Tryz.underlying173
  obtain ⟨bb, bo, bc, rfl⟩ := slice_some g1 (by rw [ne_eq, List.map_eq_nil_iff]; exact hbe)
  clear hA hPw h2 h3 g0 g1 g2 n0 n1 n2 hz
  go_enter Tryz.func103, Tryz.ntmps103
  go_wp2_with fail
  refine (cutS_any s _ w hG (by omega)).mono ?_
  rintro e w1 ⟨rfl, k, rfl⟩
  rw [show bl ⟨#[32]⟩ = [32] from rfl, HA.out]
  have hbk : Below w.heap.size w (w.drewN k) := below_drawn w k
  have hGk := hG.keep hbk
  have h1' := ((bcell hbk).1 b 1 (by omega)).trans h1
  have h4' := ((bcell hbk).1 b 4 (by omega)).trans h4
  go_wp2_with fail
  refine (must_true _).mono ?_
  rintro e wx ⟨rfl, rfl⟩
  go_wp2_with fail
  refine (must_false _).mono ?_
  rintro e w3 ⟨rfl, rfl⟩
  go_wp2
  exact ⟨rfl, rfl, FrN.of_below hbk hmw⟩
set_option maxRecDepth 100000 in
set_option maxHeartbeats 1000000 in
theorem line_bars_no2 {G : Nat} (m b : Nat) (p : Sp.Pk) (s : ByteArray) (w : World) (hG : Glob G w) (hP : PackAt w m b p) (hs : s.size < 1000000) (i : Nat) (a1 a2 : Sp.Str) (hA : Lib.cut (bl s) [32] = (a1, a2, true)) (hi : ((i : Int) == 0) = false) (hw0 : (a1 == [112, 97, 99, 107, 97, 103, 101]) = false) (hw1 : (a1 == [110, 101, 101, 100, 115]) = false) (hw2 : (a1 == [98, 97, 114, 115]) = true) (hbe : p.bars = []) (hfe : p.files ≠ []) :
    Calls Tryz.prog 103 #[.pointer (some ⟨b, 0, none⟩), .int .i64 (i : Int), .string s] w fun e w' => e = .panicked [{v := .iface 177 (.agg #[]), recovered := false}] ∧ FrN m b w w' := by
  have hPw := hP
  obtain ⟨nv, bv, fv, hmw, hbm, h0, h1, h2, h3, h4, g0, g1, g2, n0, n1, n2, hz⟩ := hP
  have ha2 : a2.length < 1000000 := by
    have := W2.cut_snd (bl s) [32]
    rw [hA, bl_len] at this; simp only at this; omega
  have HA := Lib.hid hA
  have q169 : ∀ (a : Option Addr) (n c n' c' : Nat) (W : World), (binOp .eql 169 (.slice a n c) (.slice none n' c')).run Tryz.prog W = .ok (.bool a.isNone) W := fun a n c n' c' W => Lib.run_eql_slice_nil W _ _ a n c n' c' Tryz.underlying169
  have q170 : ∀ (a : Option Addr) (n c n' c' : Nat) (W : World), (binOp .eql 170 (.slice a n c) (.slice none n' c')).run Tryz.prog W = .ok (.bool a.isNone) W := fun a n c n' c' W => Lib.run_eql_slice_nil W _ _ a n c n' c' Tryz.underlying170
  have q173 : ∀ (a : Option Addr) (n c n' c' : Nat) (W : World), (binOp .eql 173 (.slice a n c) (.slice none n' c')).run Tryz.prog W = .ok (.bool a.isNone) W := fun a n c n' c' W => Lib.run_eql_slice_nil W _ _ a n c n' c' Tryz.underlying173
  obtain rfl := n1 hbe
  obtain ⟨fb, fc, rfl⟩ := row_some g2 hfe
  clear hA hPw h2 h3 g0 g1 g2 n0 n1 n2 hz
  go_enter Tryz.func103, Tryz.ntmps103
  go_wp2_with fail
  refine (cutS_any s _ w hG (by omega)).mono ?_
  rintro e w1 ⟨rfl, k, rfl⟩
  rw [show bl ⟨#[32]⟩ = [32] from rfl, HA.out]
  have hbk : Below w.heap.size w (w.drewN k) := below_drawn w k
  have hGk := hG.keep hbk
  have h1' := ((bcell hbk).1 b 1 (by omega)).trans h1
  have h4' := ((bcell hbk).1 b 4 (by omega)).trans h4
  go_wp2_with fail
  refine (must_true _).mono ?_
  rintro e wx ⟨rfl, rfl⟩
  go_wp2_with fail
  refine (must_false _).mono ?_
  rintro e w3 ⟨rfl, rfl⟩
  go_wp2
  exact ⟨rfl, rfl, FrN.of_below hbk hmw⟩
set_option maxRecDepth 100000 in
set_option maxHeartbeats 1000000 in
theorem line_bars_no3 {G : Nat} (m b : Nat) (p : Sp.Pk) (s : ByteArray) (w : World) (hG : Glob G w) (hP : PackAt w m b p) (hs : s.size < 1000000) (i : Nat) (a1 a2 : Sp.Str) (hA : Lib.cut (bl s) [32] = (a1, a2, true)) (hi : ((i : Int) == 0) = false) (hw0 : (a1 == [112, 97, 99, 107, 97, 103, 101]) = false) (hw1 : (a1 == [110, 101, 101, 100, 115]) = false) (hw2 : (a1 == [98, 97, 114, 115]) = true) (hbe : p.bars = []) (hfe : p.files = []) (hE : Sp.each a2 [44, 32] 3 Sp.choose = none) :
    Calls Tryz.prog 103 #[.pointer (some ⟨b, 0, none⟩), .int .i64 (i : Int), .string s] w fun e w' => e = .panicked [{v := .iface 177 (.agg #[]), recovered := false}] ∧ FrN m b w w' := by
  have hPw := hP
  obtain ⟨nv, bv, fv, hmw, hbm, h0, h1, h2, h3, h4, g0, g1, g2, n0, n1, n2, hz⟩ := hP
  have ha2 : a2.length < 1000000 := by
    have := W2.cut_snd (bl s) [32]
    rw [hA, bl_len] at this; simp only at this; omega
  have HA := Lib.hid hA
  have q169 : ∀ (a : Option Addr) (n c n' c' : Nat) (W : World), (binOp .eql 169 (.slice a n c) (.slice none n' c')).run Tryz.prog W = .ok (.bool a.isNone) W := fun a n c n' c' W => Lib.run_eql_slice_nil W _ _ a n c n' c' Tryz.underlying169
  have q170 : ∀ (a : Option Addr) (n c n' c' : Nat) (W : World), (binOp .eql 170 (.slice a n c) (.slice none n' c')).run Tryz.prog W = .ok (.bool a.isNone) W := fun a n c n' c' W => Lib.run_eql_slice_nil W _ _ a n c n' c' Tryz.underlying170
  have q173 : ∀ (a : Option Addr) (n c n' c' : Nat) (W : World), (binOp .eql 173 (.slice a n c) (.slice none n' c')).run Tryz.prog W = .ok (.bool a.isNone) W := fun a n c n' c' W => Lib.run_eql_slice_nil W _ _ a n c n' c' Tryz.underlying173
  obtain rfl := n1 hbe
  obtain rfl := n2 hfe
  have HE := Lib.hid hE
  clear hA hE hPw h2 h3 g0 g1 g2 n0 n1 n2 hz
  go_enter Tryz.func103, Tryz.ntmps103
  go_wp2_with fail
  refine (cutS_any s _ w hG (by omega)).mono ?_
  rintro e w1 ⟨rfl, k, rfl⟩
  rw [show bl ⟨#[32]⟩ = [32] from rfl, HA.out]
  have hbk : Below w.heap.size w (w.drewN k) := below_drawn w k
  have hGk := hG.keep hbk
  go_wp2_with fail
  refine (must_true _).mono ?_
  rintro e wx ⟨rfl, rfl⟩
  go_wp2_with fail
  refine (must_true _).mono ?_
  rintro e wx ⟨rfl, rfl⟩
  go_wp2_with fail
  refine (eachC_any _ _ 3 _ hGk (by rw [← bl_len, bl_mk]; omega) (by decide)).mono ?_
  rintro e w5 ⟨hb5, hE5⟩
  rw [show bl ⟨#[44, 32]⟩ = [44, 32] from rfl, bl_mk] at hE5
  rcases hE5 with ⟨l, v, hE, rfl, hgs⟩ | ⟨hE, rfl⟩
  · rw [HE.out] at hE; cases hE
  · go_wp2
    exact ⟨rfl, rfl, FrN.of_below (hbk.trans (hb5.mono hbk.size)) hmw⟩
set_option maxRecDepth 100000 in
set_option maxHeartbeats 1000000 in
theorem line_bars_yes {G : Nat} (m b : Nat) (p : Sp.Pk) (s : ByteArray) (w : World) (hG : Glob G w) (hP : PackAt w m b p) (hs : s.size < 1000000) (i : Nat) (a1 a2 : Sp.Str) (hA : Lib.cut (bl s) [32] = (a1, a2, true)) (hi : ((i : Int) == 0) = false) (hw0 : (a1 == [112, 97, 99, 107, 97, 103, 101]) = false) (hw1 : (a1 == [110, 101, 101, 100, 115]) = false) (hw2 : (a1 == [98, 97, 114, 115]) = true) (hbe : p.bars = []) (hfe : p.files = []) (cs : List Sp.Ch) (hE : Sp.each a2 [44, 32] 3 Sp.choose = some cs) :
    Calls Tryz.prog 103 #[.pointer (some ⟨b, 0, none⟩), .int .i64 (i : Int), .string s] w fun e w' => e = .returned (.tuple #[]) ∧ ∃ m', m ≤ m' ∧ PackAt w' m' b { p with bars := cs } ∧ FrN m b w w' := by
  have hPw := hP
  obtain ⟨nv, bv, fv, hmw, hbm, h0, h1, h2, h3, h4, g0, g1, g2, n0, n1, n2, hz⟩ := hP
  have ha2 : a2.length < 1000000 := by
    have := W2.cut_snd (bl s) [32]
    rw [hA, bl_len] at this; simp only at this; omega
  have HA := Lib.hid hA
  have q169 : ∀ (a : Option Addr) (n c n' c' : Nat) (W : World), (binOp .eql 169 (.slice a n c) (.slice none n' c')).run Tryz.prog W = .ok (.bool a.isNone) W := fun a n c n' c' W => Lib.run_eql_slice_nil W _ _ a n c n' c' Tryz.underlying169
  have q170 : ∀ (a : Option Addr) (n c n' c' : Nat) (W : World), (binOp .eql 170 (.slice a n c) (.slice none n' c')).run Tryz.prog W = .ok (.bool a.isNone) W := fun a n c n' c' W => Lib.run_eql_slice_nil W _ _ a n c n' c' Tryz.underlying170
  have q173 : ∀ (a : Option Addr) (n c n' c' : Nat) (W : World), (binOp .eql 173 (.slice a n c) (.slice none n' c')).run Tryz.prog W = .ok (.bool a.isNone) W := fun a n c n' c' W => Lib.run_eql_slice_nil W _ _ a n c n' c' Tryz.underlying173
  obtain rfl := n1 hbe
  obtain rfl := n2 hfe
  have HE := Lib.hid hE
  have HP := Lib.hid hPw
  have HF := Lib.hid hfe
  clear hA hE hPw hfe h2 h3 g0 g1 g2 n0 n1 n2
  go_enter Tryz.func103, Tryz.ntmps103
  go_wp2_with fail
  refine (cutS_any s _ w hG (by omega)).mono ?_
  rintro e w1 ⟨rfl, k, rfl⟩
  rw [show bl ⟨#[32]⟩ = [32] from rfl, HA.out]
  have hbk : Below w.heap.size w (w.drewN k) := below_drawn w k
  have hGk := hG.keep hbk
  go_wp2_with fail
  refine (must_true _).mono ?_
  rintro e wx ⟨rfl, rfl⟩
  go_wp2_with fail
  refine (must_true _).mono ?_
  rintro e wx ⟨rfl, rfl⟩
  go_wp2_with fail
  refine (eachC_any _ _ 3 _ hGk (by rw [← bl_len, bl_mk]; omega) (by decide)).mono ?_
  rintro e w5 ⟨hb5, hE5⟩
  rw [show bl ⟨#[44, 32]⟩ = [44, 32] from rfl, bl_mk] at hE5
  rcases hE5 with ⟨l, v, hE, rfl, hgs⟩ | ⟨hE, rfl⟩
  · rw [HE.out] at hE
    cases hE
    have hb5' := hbk.trans (hb5.mono hbk.size)
    obtain ⟨a, cap, rfl⟩ := W3.row_slice hgs
    have hP5 := HP.out.below hb5'
    have hl := each_ne (by simp) HE.out
    have hgs' := SlOn.mono (S' := fun x => x < w5.heap.size ∧ b + 1 < x) (ChOn.of_row hgs) (fun x hx => ⟨hx.1, by have := hx.2.1; have := hbk.size; omega⟩)
    have z0 := ((bcell hb5').2 b 1 (by omega)).trans (hz 1)
    have c0 := ((bcell hb5').1 b 1 (by omega)).trans h1
    have HG := Lib.hid hgs'
    have HP5 := Lib.hid hP5
    have hsz := hb5'.size
    clear hgs hgs' hP5 hz
    go_wp2
    go_end0
    exact ⟨rfl, w5.heap.size, by omega, HP5.out.setBars HF.out HG.out (fun e => absurd e hl), (FrN.of_below hb5' hmw).trans (FrN.set _ _ _ _ _)⟩
  · rw [HE.out] at hE; cases hE
end Go.Proofs.YtfphcecjhdkcoaaGreatDoor
namespace Go.Proofs.YtfphcecjhdkcoaaGreatDoor
open Go.RowKit
set_option maxRecDepth 100000 in
set_option maxHeartbeats 1000000 in
theorem line_file_no1 {G : Nat} (m b : Nat) (p : Sp.Pk) (s : ByteArray) (w : World) (hG : Glob G w) (hP : PackAt w m b p) (hs : s.size < 1000000) (i : Nat) (a1 a2 : Sp.Str) (b1 b2 : Sp.Str) (hA : Lib.cut (bl s) [32] = (a1, a2, true)) (hi : ((i : Int) == 0) = false) (hw0 : (a1 == [112, 97, 99, 107, 97, 103, 101]) = false) (hw1 : (a1 == [110, 101, 101, 100, 115]) = false) (hw2 : (a1 == [98, 97, 114, 115]) = false) (hw3 : (a1 == [102, 105, 108, 101]) = true) (hB : Lib.cut a2 [61] = (b1, b2, false))  :
    Calls Tryz.prog 103 #[.pointer (some ⟨b, 0, none⟩), .int .i64 (i : Int), .string s] w fun e w' => e = .panicked [{v := .iface 177 (.agg #[]), recovered := false}] ∧ FrN m b w w' := by
  have hPw := hP
  obtain ⟨nv, bv, fv, hmw, hbm, h0, h1, h2, h3, h4, g0, g1, g2, n0, n1, n2, hz⟩ := hP
  have ha2 : a2.length < 1000000 := by
    have := W2.cut_snd (bl s) [32]
    rw [hA, bl_len] at this; simp only at this; omega
  have HA := Lib.hid hA
  have hb2 : b2.length < 1000000 := by
    have := W2.cut_snd a2 [61]
    rw [hB] at this; simp only at this; omega
  obtain ⟨fa, fc, rfl⟩ := W3.row_slice g2
  have hc4 := ((bcell (below_drawn w 0)).1 b 4 (by omega))
  have HB := Lib.hid hB
  clear hA hB hPw h0 h1 h2 h3 g0 g1 g2 n0 n1 n2 hz
  go_enter Tryz.func103, Tryz.ntmps103
  go_wp2_with fail
  refine (cutS_any s _ w hG (by omega)).mono ?_
  rintro e w1 ⟨rfl, k, rfl⟩
  rw [show bl ⟨#[32]⟩ = [32] from rfl, HA.out]
  have hbk : Below w.heap.size w (w.drewN k) := below_drawn w k
  have hGk := hG.keep hbk
  go_wp2_with fail
  refine (must_true _).mono ?_
  rintro e wx ⟨rfl, rfl⟩
  go_wp2_with fail
  refine (cutS_any _ _ _ hGk (by rw [← bl_len, bl_mk]; omega)).mono ?_
  rintro e wx ⟨rfl, k2, rfl⟩
  rw [show bl ⟨#[61]⟩ = [61] from rfl, bl_mk, HB.out]
  go_wp2_with fail
  refine (must_false _).mono ?_
  rintro e w3 ⟨rfl, rfl⟩
  go_wp2
  exact ⟨rfl, rfl, FrN.of_below (below_drawn w _) hmw⟩
set_option maxRecDepth 100000 in
set_option maxHeartbeats 1000000 in
theorem line_file_no2 {G : Nat} (m b : Nat) (p : Sp.Pk) (s : ByteArray) (w : World) (hG : Glob G w) (hP : PackAt w m b p) (hs : s.size < 1000000) (i : Nat) (a1 a2 : Sp.Str) (b1 b2 : Sp.Str) (hA : Lib.cut (bl s) [32] = (a1, a2, true)) (hi : ((i : Int) == 0) = false) (hw0 : (a1 == [112, 97, 99, 107, 97, 103, 101]) = false) (hw1 : (a1 == [110, 101, 101, 100, 115]) = false) (hw2 : (a1 == [98, 97, 114, 115]) = false) (hw3 : (a1 == [102, 105, 108, 101]) = true) (hB : Lib.cut a2 [61] = (b1, b2, true)) (hc : 24 < b2.length) :
    Calls Tryz.prog 103 #[.pointer (some ⟨b, 0, none⟩), .int .i64 (i : Int), .string s] w fun e w' => e = .panicked [{v := .iface 177 (.agg #[]), recovered := false}] ∧ FrN m b w w' := by
  have hPw := hP
  obtain ⟨nv, bv, fv, hmw, hbm, h0, h1, h2, h3, h4, g0, g1, g2, n0, n1, n2, hz⟩ := hP
  have ha2 : a2.length < 1000000 := by
    have := W2.cut_snd (bl s) [32]
    rw [hA, bl_len] at this; simp only at this; omega
  have HA := Lib.hid hA
  have hb2 : b2.length < 1000000 := by
    have := W2.cut_snd a2 [61]
    rw [hB] at this; simp only at this; omega
  obtain ⟨fa, fc, rfl⟩ := W3.row_slice g2
  have hc4 := ((bcell (below_drawn w 0)).1 b 4 (by omega))
  have HB := Lib.hid hB
  clear hA hB hPw h0 h1 h2 h3 g0 g1 g2 n0 n1 n2 hz
  go_enter Tryz.func103, Tryz.ntmps103
  go_wp2_with fail
  refine (cutS_any s _ w hG (by omega)).mono ?_
  rintro e w1 ⟨rfl, k, rfl⟩
  rw [show bl ⟨#[32]⟩ = [32] from rfl, HA.out]
  have hbk : Below w.heap.size w (w.drewN k) := below_drawn w k
  have hGk := hG.keep hbk
  go_wp2_with fail
  refine (must_true _).mono ?_
  rintro e wx ⟨rfl, rfl⟩
  go_wp2_with fail
  refine (cutS_any _ _ _ hGk (by rw [← bl_len, bl_mk]; omega)).mono ?_
  rintro e wx ⟨rfl, k2, rfl⟩
  rw [show bl ⟨#[61]⟩ = [61] from rfl, bl_mk, HB.out]
  go_wp2_with fail
  refine (must_false _).mono ?_
  rintro e w3 ⟨rfl, rfl⟩
  go_wp2
  exact ⟨rfl, rfl, FrN.of_below (below_drawn w _) hmw⟩
set_option maxRecDepth 100000 in
set_option maxHeartbeats 1000000 in
theorem line_file_no3 {G : Nat} (m b : Nat) (p : Sp.Pk) (s : ByteArray) (w : World) (hG : Glob G w) (hP : PackAt w m b p) (hs : s.size < 1000000) (i : Nat) (a1 a2 : Sp.Str) (b1 b2 : Sp.Str) (hA : Lib.cut (bl s) [32] = (a1, a2, true)) (hi : ((i : Int) == 0) = false) (hw0 : (a1 == [112, 97, 99, 107, 97, 103, 101]) = false) (hw1 : (a1 == [110, 101, 101, 100, 115]) = false) (hw2 : (a1 == [98, 97, 114, 115]) = false) (hw3 : (a1 == [102, 105, 108, 101]) = true) (hB : Lib.cut a2 [61] = (b1, b2, true)) (hc : b2.length ≤ 24) (hfl : 4 ≤ p.files.length) :
    Calls Tryz.prog 103 #[.pointer (some ⟨b, 0, none⟩), .int .i64 (i : Int), .string s] w fun e w' => e = .panicked [{v := .iface 177 (.agg #[]), recovered := false}] ∧ FrN m b w w' := by
  have hPw := hP
  obtain ⟨nv, bv, fv, hmw, hbm, h0, h1, h2, h3, h4, g0, g1, g2, n0, n1, n2, hz⟩ := hP
  have ha2 : a2.length < 1000000 := by
    have := W2.cut_snd (bl s) [32]
    rw [hA, bl_len] at this; simp only at this; omega
  have HA := Lib.hid hA
  have hb2 : b2.length < 1000000 := by
    have := W2.cut_snd a2 [61]
    rw [hB] at this; simp only at this; omega
  obtain ⟨fa, fc, rfl⟩ := W3.row_slice g2
  have hc4 := ((bcell (below_drawn w 0)).1 b 4 (by omega))
  have HB := Lib.hid hB
  clear hA hB hPw h0 h1 h2 h3 g0 g1 g2 n0 n1 n2 hz
  go_enter Tryz.func103, Tryz.ntmps103
  go_wp2_with fail
  refine (cutS_any s _ w hG (by omega)).mono ?_
  rintro e w1 ⟨rfl, k, rfl⟩
  rw [show bl ⟨#[32]⟩ = [32] from rfl, HA.out]
  have hbk : Below w.heap.size w (w.drewN k) := below_drawn w k
  have hGk := hG.keep hbk
  go_wp2_with fail
  refine (must_true _).mono ?_
  rintro e wx ⟨rfl, rfl⟩
  go_wp2_with fail
  refine (cutS_any _ _ _ hGk (by rw [← bl_len, bl_mk]; omega)).mono ?_
  rintro e wx ⟨rfl, k2, rfl⟩
  rw [show bl ⟨#[61]⟩ = [61] from rfl, bl_mk, HB.out]
  go_wp2_with fail
  rw [show decide ((p.files.length : Int) < 4) = false from decide_eq_false (by omega)]
  refine (must_false _).mono ?_
  rintro e w3 ⟨rfl, rfl⟩
  go_wp2
  exact ⟨rfl, rfl, FrN.of_below (below_drawn w _) hmw⟩
end Go.Proofs.YtfphcecjhdkcoaaGreatDoor

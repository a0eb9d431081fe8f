/-
The document's plain form of errors at a fault of the program's.
-/
import Derived.Test.YtfphcecjhdkcoaaGreatDoorFormsP02
import Derived.Test.YtfphcecjhdkcoaaGreatDoorFormsP06
import Derived.BigQuiet
/-
The walk of the program's parsed.
-/
namespace Go.Proofs.YtfphcecjhdkcoaaGreatDoor
open Go.RowKit
theorem splitS_at {G : Nat} (s p : ByteArray) (w : World) (hG : Glob G w) (hs : s.size < 4294967281) (hp : 0 < p.size) :
    Calls Tryz.prog 101 #[.string s, .string p] w fun e w' => (∃ cap, e = .returned (.slice (some ⟨w.heap.size, 0, none⟩) (Lib.split (bl s) (bl p)).length cap)) ∧
      (∀ k, (hk : k < (Lib.split (bl s) (bl p)).length) → w'.cell? ⟨w.heap.size, k, none⟩ = some (.string ⟨((Lib.split (bl s) (bl p))[k]).toArray⟩)) ∧ Below w.heap.size w w' ∧ w'.heap.size = w.heap.size + 1 := by
  obtain ⟨m, hm⟩ := hG.maxlen
  refine (Tryz.strings_Split s p m w hs hm hp).mono fun e w' ⟨h1, h2⟩ => ?_
  subst h1; subst h2
  have hlen : (Lib.splitB p 0 (Lib.countB s p) s).length = Lib.countB s p + 1 := Lib.splitB_all p hp 0 _ s rfl
  have hdat : (Lib.splitB p 0 (Lib.countB s p) s).map bl = Lib.split (bl s) (bl p) := Lib.splitB_data p 0 (Lib.countB s p) s
  have hl2 : (Lib.split (bl s) (bl p)).length = Lib.countB s p + 1 := by rw [← hdat, List.length_map, hlen]
  refine ⟨⟨_, by rw [hl2]⟩, fun k hk => ?_, (Below.refl _ _).alloc (Nat.le_refl _) _, by simp⟩
  have hq : (Lib.split (bl s) (bl p))[k]? = some (Lib.split (bl s) (bl p))[k] := List.getElem?_eq_getElem hk
  generalize (Lib.split (bl s) (bl p))[k] = q at hq
  rw [← hdat, List.getElem?_map, Option.map_eq_some_iff] at hq
  obtain ⟨y, hy, rfl⟩ := hq
  rw [World.cell?_alloc_at _ _ _ _ rfl]
  simp only [List.getElem?_toArray, List.getElem?_map, hy, Option.map_some]
  rw [mk_bl]
theorem PackAt.beside {w w' : World} {m b : Nat} {p : Sp.Pk} (h : PackAt w m b p) (hb : ∀ k, k ≠ b + 1 → w'.heap[k]? = w.heap[k]?) (hs : w'.heap.size = w.heap.size) : PackAt w' m b p := by
  obtain ⟨nv, bv, fv, hm, hbm, h0, h1, h2, h3, h4, g0, g1, g2, n0, n1, n2, hz⟩ := h
  have hc : ∀ o, w'.cell? ⟨b, o, none⟩ = w.cell? ⟨b, o, none⟩ := fun o => World.cell?_of_block (w := w) (hb b (by omega))
  have hf : ∀ o, w'.frozen? ⟨b, o, none⟩ = w.frozen? ⟨b, o, none⟩ := fun o => by unfold World.frozen?; rw [hb b (by omega)]
  exact ⟨nv, bv, fv, by omega, hbm, (hc 0).trans h0, (hc 1).trans h1, (hc 2).trans h2, (hc 3).trans h3, (hc 4).trans h4, g0.keep fun x hx => hb x (by omega), SlOn.keep g1 fun x hx => hb x (by omega),
    row_block g2 fun k hk => hb k (by omega), n0, n1, n2, fun o => (hf o).trans (hz o)⟩
theorem FrN.froz {n b : Nat} {A B : World} (h : FrN n b A B) {p : Addr} (hp : p.block < n) (hb : p.block ≠ b) : B.frozen? p = A.frozen? p := by
  unfold World.frozen?; rw [h.block p.block hp hb]
structure PSt (w0 : World) (LS : List Sp.Str) (a : Int) (m : Nat) (p : Sp.Pk) (W : World) : Prop where
  big : w0.heap.size + 5 ≤ m
  pack : PackAt W m (w0.heap.size + 2) p
  c0 : W.cell? ⟨w0.heap.size, 0, none⟩ = some (.pointer (some ⟨w0.heap.size + 2, 0, none⟩))
  c1 : W.cell? ⟨w0.heap.size + 1, 0, none⟩ = some (.int .i64 0)
  c3 : W.cell? ⟨w0.heap.size + 3, 0, none⟩ = some (.int .i64 a)
  z0 : W.frozen? ⟨w0.heap.size, 0, none⟩ = false
  z1 : W.frozen? ⟨w0.heap.size + 1, 0, none⟩ = false
  z3 : W.frozen? ⟨w0.heap.size + 3, 0, none⟩ = false
  arr : ∀ k, (hk : k < LS.length) → W.cell? ⟨w0.heap.size + 4, k, none⟩ = some (.string ⟨(LS[k]).toArray⟩)
  below : Below w0.heap.size w0 W
theorem PSt.setAt {w0 W : World} {LS : List Sp.Str} {a : Int} {m : Nat} {p : Sp.Pk} (h : PSt w0 LS a m p W) (a' : Int) : PSt w0 LS a' m p (W.setCell ⟨w0.heap.size + 3, 0, none⟩ (.int .i64 a')) := by
  have hb : ∀ k, k ≠ w0.heap.size + 3 → (W.setCell ⟨w0.heap.size + 3, 0, none⟩ (.int .i64 a')).heap[k]? = W.heap[k]? := fun k hk => Below.heap_setCell _ _ _ _ hk
  have hc : ∀ (x o : Nat), x ≠ w0.heap.size + 3 → (W.setCell ⟨w0.heap.size + 3, 0, none⟩ (.int .i64 a')).cell? ⟨x, o, none⟩ = W.cell? ⟨x, o, none⟩ := fun x o hx => World.cell?_of_block (w := W) (hb x hx)
  exact ⟨h.big, h.pack.beside (fun k hk => hb k hk) (by simp), (hc _ _ (by omega)).trans h.c0, (hc _ _ (by omega)).trans h.c1, World.cell?_setCell_same _ _ _ h.c3, by simp [h.z0], by simp [h.z1], by simp [h.z3],
    fun k hk => (hc _ _ (by omega)).trans (h.arr k hk), ⟨h.below.os, h.below.tape, h.below.output, by simpa using h.below.size, fun k hk => (hb k (by omega)).trans (h.below.block k hk)⟩⟩
theorem PSt.frn {w0 W W' : World} {LS : List Sp.Str} {a : Int} {m m' : Nat} {p p' : Sp.Pk} (h : PSt w0 LS a m p W) (hf : FrN m (w0.heap.size + 2) W W') (hm : m ≤ m') (hp : PackAt W' m' (w0.heap.size + 2) p') : PSt w0 LS a m' p' W' := by
  have hbig := h.big
  have hb : ∀ k, k < m → k ≠ w0.heap.size + 2 → W'.heap[k]? = W.heap[k]? := hf.block
  have hc : ∀ (x o : Nat), x < m → x ≠ w0.heap.size + 2 → W'.cell? ⟨x, o, none⟩ = W.cell? ⟨x, o, none⟩ := fun x o h1 h2 => World.cell?_of_block (w := W) (hb x h1 h2)
  have hz : ∀ (x o : Nat), x < m → x ≠ w0.heap.size + 2 → W'.frozen? ⟨x, o, none⟩ = W.frozen? ⟨x, o, none⟩ := fun x o h1 h2 => by unfold World.frozen?; rw [hb x h1 h2]
  exact ⟨by omega, hp, (hc _ _ (by omega) (by omega)).trans h.c0, (hc _ _ (by omega) (by omega)).trans h.c1, (hc _ _ (by omega) (by omega)).trans h.c3,
    (hz _ _ (by omega) (by omega)).trans h.z0, (hz _ _ (by omega) (by omega)).trans h.z1, (hz _ _ (by omega) (by omega)).trans h.z3, fun k hk => (hc _ _ (by omega) (by omega)).trans (h.arr k hk),
    ⟨hf.os.trans h.below.os, hf.tape.trans h.below.tape, hf.output.trans h.below.output, Nat.le_trans h.below.size hf.size, fun k hk => (hb k (by omega) (by omega)).trans (h.below.block k hk)⟩⟩
theorem sort_none (w : World) : Calls Tryz.prog 104 #[.slice none 0 0, .func (.func 105) #[] #[]] w fun e w' => e = .returned (.tuple #[]) ∧ w = w' := by
  have hi : Calls Tryz.prog 199 #[.slice none 0 0, .int .i64 0, .int .i64 0, .func (.func 105) #[] #[]] w fun e w' => e = .returned (.tuple #[]) ∧ w = w' := by
    go_enter Tryz.func199, Tryz.ntmps199
    go_wp2_with fail
    refine wp_loop_rounds 1 ?_
    rw [rounds_succ]
    go_wp2_with fail
    go_end0
    exact ⟨rfl, rfl⟩
  have hp : ∀ x, Calls Tryz.prog 160 #[.slice none 0 0, .int .i64 0, .int .i64 0, .int .i64 x, .func (.func 105) #[] #[]] w fun e w' => e = .returned (.tuple #[]) ∧ w = w' := by
    intro x
    go_enter Tryz.func160, Tryz.ntmps160
    go_wp2_with fail
    refine wp_loop_rounds 1 ?_
    rw [rounds_succ]
    go_wp2_with (go_at_call 199; refine hi.mono ?_; rintro e w1 ⟨rfl, rfl⟩)
    first
      | go_end0
      | refine bodyPost_ret (results_none rfl _ _ _) rfl ?_
    exact ⟨rfl, rfl⟩
  have hb := Tryz.bits_Len 0 w (by omega) (by omega)
  go_enter Tryz.func104, Tryz.ntmps104
  go_wp2_with (first
    | (go_at_call 161; refine hb.mono ?_; rintro e w1 ⟨rfl, rfl⟩)
    | (go_at_call 160; refine (hp _).mono ?_; rintro e w1 ⟨rfl, rfl⟩))
  go_end0
  exact ⟨rfl, rfl⟩
theorem files_of_row {w : World} {e : TypeId} {m g n cap : Nat} {fs : List Sp.Fl} (h : w.ownsRow m e 2 (.slice (some ⟨g, 0, none⟩) n cap) fs.length (fs.flatMap flCells)) : FilesAt w g fs ∧ m ≤ g ∧ n = fs.length := by
  have hsl := sl_of_row (w := w) (B := m) (sz := 2) (e := e) (v := .slice (some ⟨g, 0, none⟩) n cap) (xs := fs.map flCells) (fun x hx => by obtain ⟨f, _, rfl⟩ := List.mem_map.1 hx; rfl) (by
    rw [List.length_map]
    have : (fs.map flCells).flatten = fs.flatMap flCells := by simp [List.flatMap]
    rw [this]; exact h)
  obtain ⟨a, cap', hv, _, hx⟩ := hsl
  rcases h.2 with ⟨hv2, _⟩ | ⟨g', cap2, cur, hv2, hg, hh, _⟩
  · cases hv2
  · injection hv2 with e1 e2 e3
    injection e1 with e1
    injection e1 with e1
    subst e1
    injection hv with f1 f2 f3
    refine ⟨⟨fun k hk => ?_, fun o => ?_, (Array.getElem?_eq_some_iff.1 hh).1⟩, hg, e2⟩
    · obtain ⟨b, off, ha, _, hc⟩ := hx k (flCells fs[k]) (by rw [List.getElem?_map, List.getElem?_eq_getElem hk]; rfl)
      rw [← f1] at ha
      injection ha with ha
      injection ha with ha1 ha2
      subst ha1; subst ha2
      have h0 := hc 0 _ rfl
      have h1 := hc 1 _ rfl
      simp only [Nat.zero_add, Nat.add_zero] at h0 h1
      exact ⟨h0, h1⟩
    · unfold World.frozen?; rw [hh]; simp
theorem FilesAt.flOn {w : World} {m g cap : Nat} {fs : List Sp.Fl} (h : FilesAt w g fs) (hg : m ≤ g) (hc : fs.length ≤ cap) : FlOn (fun x => m ≤ x ∧ x < w.heap.size) w (.slice (some ⟨g, 0, none⟩) fs.length cap) fs := by
  refine ⟨some ⟨g, 0, none⟩, cap, by rw [List.length_map], by rw [List.length_map]; exact hc, fun k x hk => ?_⟩
  rw [List.getElem?_map, Option.map_eq_some_iff] at hk
  obtain ⟨f, hf, rfl⟩ := hk
  obtain ⟨hk', rfl⟩ := List.getElem?_eq_some_iff.1 hf
  obtain ⟨c0, c1⟩ := h.1 k hk'
  refine ⟨g, 0, rfl, ⟨hg, h.2.2⟩, fun j u hj => ?_⟩
  match j, hj with
  | 0, hj => have e : sv fs[k].path = u := by simpa [flCells] using hj
             subst e; simpa using c0
  | 1, hj => have e : sv fs[k].content = u := by simpa [flCells] using hj
             subst e; simpa using c1
theorem sort_pack {W : World} {m b : Nat} {p : Sp.Pk} (h : PackAt W m b p) (hn : p.files.length ≤ 4) {fv : Value} (hfv : W.cell? ⟨b, 4, none⟩ = some fv) :
    (∃ a n c, fv = .slice a n c) ∧ Calls Tryz.prog 104 #[fv, .func (.func 105) #[] #[]] W fun e w2 => e = .returned (.tuple #[]) ∧ Below m W w2 ∧ FlOn (fun x => m ≤ x ∧ x < w2.heap.size) w2 fv (Sp.sortF p.files) := by
  obtain ⟨nv, bv, fv', hm, hbm, h0, h1, h2, h3, h4, g0, g1, g2, n0, n1, n2, hz⟩ := h
  obtain rfl : fv' = fv := Option.some.inj (h4.symm.trans hfv)
  by_cases hf : p.files = []
  · obtain rfl := n2 hf
    refine ⟨⟨_, _, _, rfl⟩, (sort_none W).mono ?_⟩
    rintro e w2 ⟨rfl, rfl⟩
    rw [hf]
    exact ⟨rfl, Below.refl _ _, SlOn.nil _ _ _⟩
  · obtain ⟨g, cap, rfl⟩ := row_some g2 hf
    obtain ⟨hfl, hg, _⟩ := files_of_row g2
    have hcap : p.files.length ≤ cap := by
      rcases g2.2 with ⟨hv2, _⟩ | ⟨g', cap2, cur, hv2, _, _, hle, _⟩
      · cases hv2
      · injection hv2 with e1 e2 e3; omega
    refine ⟨⟨_, _, _, rfl⟩, (sort_any g cap p.files W hfl hn).mono ?_⟩
    rintro e w2 ⟨rfl, h5, h6⟩
    refine ⟨rfl, ⟨h6.os, h6.tape, h6.output, h6.size, fun k hk => h6.block k (by omega) (by omega)⟩, ?_⟩
    have := h5.flOn hg (cap := cap) (by rw [P3.sortF_len]; exact hcap)
    rw [P3.sortF_len] at this
    exact this
theorem PackAt.sorted {w w' : World} {m b : Nat} {p : Sp.Pk} (h : PackAt w m b p) (hb : ∀ x, x < m → (x = b ∨ b + 1 < x) → w'.heap[x]? = w.heap[x]?) (hs : w.heap.size ≤ w'.heap.size) {fv : Value} (hfv : w.cell? ⟨b, 4, none⟩ = some fv)
    (hfl : FlOn (fun x => x < w'.heap.size) w' fv (Sp.sortF p.files)) : IsPack (fun x => x < w'.heap.size) w' b { p with files := Sp.sortF p.files } := by
  obtain ⟨nv, bv, fv', hm, hbm, h0, h1, h2, h3, h4, g0, g1, g2, n0, n1, n2, hz⟩ := h
  obtain rfl : fv' = fv := Option.some.inj (h4.symm.trans hfv)
  have hc : ∀ o, w'.cell? ⟨b, o, none⟩ = w.cell? ⟨b, o, none⟩ := fun o => World.cell?_of_block (w := w) (hb b (by omega) (.inl rfl))
  exact ⟨nv, bv, fv', by omega, (hc 0).trans h0, (hc 1).trans h1, (hc 2).trans h2, (hc 3).trans h3, (hc 4).trans h4,
    (g0.keep fun x hx => hb x hx.1 (.inr hx.2)).mono fun x hx => by omega, SlOn.mono (SlOn.keep g1 fun x hx => hb x hx.1 (.inr hx.2)) fun x hx => by omega, hfl, n0, n1⟩
theorem sorted_ok {p : Sp.Pk} (h : PkOk p) : PkOk { p with files := Sp.sortF p.files } :=
  ⟨h.name, h.ver, h.needs, h.groups, h.bars, h.barred, by show (Sp.sortF p.files).length ≤ 4; rw [P3.sortF_len]; exact h.files, fun f hf => h.paths f ((P3.sortF_mem _ _).1 hf)⟩
theorem parsed_long (s : ByteArray) (w : World) (h : 300 < s.size) :
    Calls Tryz.prog 63 #[.string s] w fun e w' => e = .returned (.tuple #[.pointer none, .int .i64 0]) ∧ Below w.heap.size w w' := by
  have hmf : ∀ (fn : Fn) (first cap : Array Value) (w : World), (Instr.makeFunc fn first cap).run Tryz.prog w = .ok (.func fn first cap) w := fun _ _ _ _ => rfl
  have hd : decide ((300 : Int) < (s.size : Int)) = true := decide_eq_true (by omega)
  go_enter_defers Tryz.func63, Tryz.ntmps63
  go_wp2_with fail
  simp [bodyPostD, Leaves, results, Tryz.results63, go_sem]
  exact ((Below.refl _ _).alloc (Nat.le_refl _) _).alloc (by simp) _
/-- What parsed comes to. -/
def ParseRes (s : Sp.Str) (w : World) (e : Ending) (w' : World) : Prop :=
  Below w.heap.size w w' ∧ ((∃ n, Sp.parse s = .inl n ∧ e = .returned (.tuple #[.pointer none, .int .i64 (n : Int)])) ∨
    (∃ p b, Sp.parse s = .inr p ∧ e = .returned (.tuple #[.pointer (some ⟨b, 0, none⟩), .int .i64 (-1)]) ∧ IsPack (fun x => x < w'.heap.size) w' b p ∧ PkOk p))
set_option maxRecDepth 100000 in
set_option maxHeartbeats 2000000 in
theorem parsed_short {G : Nat} (s : ByteArray) (w : World) (hG : Glob G w) (h : s.size ≤ 300) :
    Calls Tryz.prog 63 #[.string s] w (ParseRes (bl s) w) := by
  have hmf : ∀ (fn : Fn) (first cap : Array Value) (w : World), (Instr.makeFunc fn first cap).run Tryz.prog w = .ok (.func fn first cap) w := fun _ _ _ _ => rfl
  have hd : decide ((300 : Int) < (s.size : Int)) = false := decide_eq_false (by omega)
  have htl : (Lib.trimSuffix (bl s) [10]).length ≤ 300 := by
    rw [← bl_len] at h
    unfold Lib.trimSuffix; split
    · rw [List.length_take]; omega
    · exact h
  generalize hLS : Lib.split (Lib.trimSuffix (bl s) [10]) [10] = LS
  have hlens : ∀ x ∈ LS, x.length ≤ 300 := fun x hx => by
    rw [← hLS] at hx
    exact Nat.le_trans (Sp.split_mem _ _ x (by simp) hx) htl
  have hcount : LS.length ≤ 301 := by
    rw [← hLS]; exact Nat.le_trans (Sp.split_length _ _ (by simp)) (by omega)
  have HLS := Lib.hid hLS
  have HLE := Lib.hid hlens
  clear hLS hlens
  go_enter_defers Tryz.func63, Tryz.ntmps63
  go_wp2_with fail
  refine (trim_any s _ _ (by omega)).mono ?_
  rintro e w1 ⟨rfl, rfl⟩
  rw [show bl ⟨#[10]⟩ = [10] from rfl]
  go_wp2_with fail
  have hb4 : Below w.heap.size w ((((w.alloc (Obj.cells #[Value.pointer (some { block := w.heap.size + 1 + 1, off := 0 })] 118)).alloc (Obj.cells #[Value.int IntKind.i64 0] 3)).alloc
    (Obj.cells #[Value.slice none 0 0, Value.slice none 0 0, Value.string { data := #[] }, Value.string { data := #[] }, Value.slice none 0 0] 175)).alloc (Obj.cells #[Value.int IntKind.i64 0] 3)) :=
    ((((Below.refl _ w).alloc (Nat.le_refl _) _).alloc (by simp) _).alloc (by simp; omega) _).alloc (by simp; omega) _
  refine (splitS_at _ _ _ (hG.keep hb4) (by rw [← bl_len, bl_mk]; omega) (by decide)).mono ?_
  rintro e w6 ⟨⟨cap, rfl⟩, harr, hb6, hs6⟩
  rw [show bl ⟨#[10]⟩ = [10] from rfl, bl_mk, HLS.out] at harr ⊢
  have c6 := (bcell hb6).1
  have z6 := (bcell hb6).2
  simp only [World.size_alloc] at harr hs6 c6 z6
  have hP0 : PSt w LS 0 (w.heap.size + 5) Sp.nothing w6 := by
    refine ⟨Nat.le_refl _, ⟨.slice none 0 0, .slice none 0 0, .slice none 0 0, by omega, by omega, (c6 _ _ (by omega)).trans ?_, (c6 _ _ (by omega)).trans ?_, (c6 _ _ (by omega)).trans ?_, (c6 _ _ (by omega)).trans ?_, (c6 _ _ (by omega)).trans ?_,
      ⟨[], SlOn.nil _ _ _, GrpsOn.nil _ _⟩, SlOn.nil _ _ _, ⟨rfl, .inl ⟨rfl, rfl⟩⟩, fun _ => rfl, fun _ => rfl, fun _ => rfl, fun o => (z6 _ _ (by omega)).trans ?_⟩,
      (c6 _ _ (by omega)).trans ?_, (c6 _ _ (by omega)).trans ?_, (c6 _ _ (by omega)).trans ?_, (z6 _ _ (by omega)).trans ?_, (z6 _ _ (by omega)).trans ?_, (z6 _ _ (by omega)).trans ?_, harr, hb4.trans (hb6.mono hb4.size)⟩
    all_goals simp [go_sem, sv, Sp.nothing]
  have HC := Lib.hid hP0
  clear hP0 harr c6 z6
  go_wp2_with fail
  refine wp_loop_down (fun n a W => ∃ (x5 x6 x18 x19 x20 x21 x22 x23 x24 x25 x26 x27 x28 : Value) (k m : Nat) (p : Sp.Pk) (q : Int), a = { tmps := #[Value.string s, undef, Value.pointer (some ⟨w.heap.size, 0, none⟩), Value.pointer (some ⟨w.heap.size + 1, 0, none⟩), Value.pointer (some ⟨w.heap.size + 3, 0, none⟩), x5, x6, Value.string s, Value.int .i64 (s.size : Int), Value.bool false, Value.agg #[.slice none 0 0, .slice none 0 0, .string ⟨#[]⟩, .string ⟨#[]⟩, .slice none 0 0], Value.pointer (some ⟨w.heap.size + 2, 0, none⟩), Value.func (.func 100) #[] #[.pointer (some ⟨w.heap.size + 3, 0, none⟩), .pointer (some ⟨w.heap.size, 0, none⟩), .pointer (some ⟨w.heap.size + 1, 0, none⟩)], Value.string s, Value.string ⟨(Lib.trimSuffix (bl s) [10]).toArray⟩, Value.slice (some ⟨w.heap.size + 4, 0, none⟩) LS.length cap, Value.int .i64 (LS.length : Int), Value.int .i64 (k : Int), x18, x19, x20, x21, x22, x23, x24, x25, x26, x27, x28, undef, undef, undef, undef, undef, undef], defers := [{ target := Target.fn (.func 100) #[.pointer (some ⟨w.heap.size + 3, 0, none⟩), .pointer (some ⟨w.heap.size, 0, none⟩), .pointer (some ⟨w.heap.size + 1, 0, none⟩)], args := #[] }] } ∧
    k ≤ LS.length ∧ n = LS.length - k ∧ PSt w LS q m p W ∧ PkOk p ∧ Sp.lines Sp.nothing 0 LS = Sp.lines p k (LS.drop k)) LS.length ?_ ?_
  · exact ⟨_, _, _, _, _, _, _, _, _, _, _, _, _, 0, w.heap.size + 5, Sp.nothing, 0, rfl, by omega, rfl, HC.out, ⟨by decide, by decide, by decide, (fun g hg => by cases hg), by decide, (fun g hg => by cases hg), by decide, (fun g hg => by cases hg)⟩, rfl⟩
  · rintro n a W ⟨x5, x6, x18, x19, x20, x21, x22, x23, x24, x25, x26, x27, x28, k, m, p, q, rfl, hk, rfl, hS, hok, hlin⟩
    dsimp only
    have hp := hS.pack
    have c0 := hS.c0
    have c1 := hS.c1
    have z0 := hS.z0
    have z1 := hS.z1
    have c3 := hS.c3
    have z3 := hS.z3
    have hbel := hS.below
    by_cases hk2 : k < LS.length
    · have harr := hS.arr k hk2
      have hln : LS.drop k = LS[k] :: LS.drop (k + 1) := List.drop_eq_getElem_cons hk2
      have hxl := HLE.out _ (List.getElem_mem hk2)
      rw [hln] at hlin
      have HLN := Lib.hid hlin
      clear hlin hln
      generalize LS[k] = x at harr hxl HLN
      have hS2 := hS.setAt ((k : Int) + 1)
      have hline := line_any m (w.heap.size + 2) k p ⟨x.toArray⟩ _ (hG.keep hS2.below) hS2.pack hok (by rw [bl_mk]; exact hxl)
      have HS2 := Lib.hid hS2
      clear hS2 hS hp hbel
      go_wp2_with fail
      refine hline.mono ?_
      rintro e w8 ⟨hF8, hres⟩
      rw [bl_mk] at hres
      rcases hres with ⟨p', hl', rfl, m', hm', hP'⟩ | ⟨hl', rfl⟩
      · have hS8 := HS2.out.frn hF8 hm' hP'
        have hok' := P2.line_ok hok hxl hl'
        have hlin' : Sp.lines Sp.nothing 0 LS = Sp.lines p' (k + 1) (LS.drop (k + 1)) := by
          rw [HLN.out]; show (match Sp.line p (k == 0) x with | some p' => Sp.lines p' (k + 1) (LS.drop (k + 1)) | none => .inl (k + 1)) = _
          rw [hl']
        have HL' := Lib.hid hlin'
        have HS8 := Lib.hid hS8
        clear hlin' hS8 hl' hP' hF8 hline c0 c1 c3 z0 z1 z3 harr
        go_wp2_with fail
        exact ⟨LS.length - (k + 1), by omega, _, _, _, _, _, _, _, _, _, _, _, _, _, k + 1, m', p', (k : Int) + 1, rfl, by omega, rfl, HS8.out, hok', HL'.out⟩
      · have hlin' : Sp.lines Sp.nothing 0 LS = .inl (k + 1) := by
          rw [HLN.out]; show (match Sp.line p (k == 0) x with | some p' => Sp.lines p' (k + 1) (LS.drop (k + 1)) | none => .inl (k + 1)) = _
          rw [hl']
        have hpar : Sp.parse (bl s) = .inl (k + 1) := by
          unfold Sp.parse
          rw [if_neg (by rw [bl_len]; omega), HLS.out, hlin']
        have HPAR := Lib.hid hpar
        have hbig := HS2.out.big
        have hsz8 : w.heap.size + 5 ≤ w8.heap.size := by
          obtain ⟨_, _, _, hm8, _⟩ := HS2.out.pack
          have := hF8.size; omega
        have d0 := (hF8.cell (p := ⟨w.heap.size, 0, none⟩) (by show w.heap.size < m; omega) (by show w.heap.size ≠ w.heap.size + 2; omega)).trans HS2.out.c0
        have d1 := (hF8.cell (p := ⟨w.heap.size + 1, 0, none⟩) (by show w.heap.size + 1 < m; omega) (by show w.heap.size + 1 ≠ w.heap.size + 2; omega)).trans HS2.out.c1
        have d3 := (hF8.cell (p := ⟨w.heap.size + 3, 0, none⟩) (by show w.heap.size + 3 < m; omega) (by show w.heap.size + 3 ≠ w.heap.size + 2; omega)).trans HS2.out.c3
        have y0 := (hF8.froz (p := ⟨w.heap.size, 0, none⟩) (by show w.heap.size < m; omega) (by show w.heap.size ≠ w.heap.size + 2; omega)).trans HS2.out.z0
        have y1 := (hF8.froz (p := ⟨w.heap.size + 1, 0, none⟩) (by show w.heap.size + 1 < m; omega) (by show w.heap.size + 1 ≠ w.heap.size + 2; omega)).trans HS2.out.z1
        have hb8 : Below w.heap.size w w8 := ⟨hF8.os.trans HS2.out.below.os, hF8.tape.trans HS2.out.below.tape, hF8.output.trans HS2.out.below.output, Nat.le_trans HS2.out.below.size hF8.size, fun j hj => (hF8.block j (by omega) (by omega)).trans (HS2.out.below.block j hj)⟩
        clear hlin' hpar hl' hline c0 c1 c3 z0 z1 z3 harr
        go_wp2_with fail
        refine leaves_cons (f := 100) (args := #[.pointer (some ⟨w.heap.size + 3, 0, none⟩), .pointer (some ⟨w.heap.size, 0, none⟩), .pointer (some ⟨w.heap.size + 1, 0, none⟩)]) (by simp) (by simp [go_sem]) ?_
        refine (catch_bad (w.heap.size + 3) w.heap.size (w.heap.size + 1) ((k : Int) + 1) _ _ w8 d3 d0 d1 y0 y1 (by omega) (by omega) (by omega) (by omega)).mono ?_
        rintro e u' w9 ⟨rfl, rfl, rfl⟩
        have r0 : (((w8.setCell ⟨w.heap.size, 0, none⟩ (.pointer none)).setCell ⟨w.heap.size + 1, 0, none⟩ (.int .i64 ((k : Int) + 1))).alloc (.cells #[] 177)).cell? ⟨w.heap.size, 0, none⟩ = some (.pointer none) := by
          rw [World.cell?_alloc_lt _ _ _ (by show w.heap.size < _; simp; omega), World.cell?_setCell_other _ _ _ _ (by simp), World.cell?_setCell_same _ _ _ d0]
        have r1 : (((w8.setCell ⟨w.heap.size, 0, none⟩ (.pointer none)).setCell ⟨w.heap.size + 1, 0, none⟩ (.int .i64 ((k : Int) + 1))).alloc (.cells #[] 177)).cell? ⟨w.heap.size + 1, 0, none⟩ = some (.int .i64 ((k : Int) + 1)) := by
          rw [World.cell?_alloc_lt _ _ _ (by show w.heap.size + 1 < _; simp; omega), World.cell?_setCell_same _ _ _ ((World.cell?_setCell_other _ _ _ _ (by simp)).trans d1)]
        have hb9 : Below w.heap.size w (((w8.setCell ⟨w.heap.size, 0, none⟩ (.pointer none)).setCell ⟨w.heap.size + 1, 0, none⟩ (.int .i64 ((k : Int) + 1))).alloc (.cells #[] 177)) := by
          refine ⟨hb8.os, hb8.tape, hb8.output, by simp; omega, fun j hj => ?_⟩
          rw [Below.heap_alloc _ _ _ (by simp; omega), Below.heap_setCell _ _ _ _ (by show j ≠ w.heap.size + 1; omega), Below.heap_setCell _ _ _ _ (by show j ≠ w.heap.size; omega)]
          exact hb8.block j hj
        generalize (((w8.setCell ⟨w.heap.size, 0, none⟩ (.pointer none)).setCell ⟨w.heap.size + 1, 0, none⟩ (.int .i64 ((k : Int) + 1))).alloc (.cells #[] 177)) = w9 at r0 r1 hb9
        simp [Leaves, settle, results, Tryz.results63, go_sem, r0, r1]
        exact ⟨hb9, .inl ⟨k + 1, HPAR.out, rfl⟩⟩
    · obtain rfl : k = LS.length := by omega
      rw [List.drop_eq_nil_of_le (Nat.le_refl _)] at hlin
      have hpar : Sp.parse (bl s) = .inr { p with files := Sp.sortF p.files } := by
        unfold Sp.parse
        rw [if_neg (by rw [bl_len]; omega), HLS.out, hlin]; rfl
      have HPAR := Lib.hid hpar
      have hbig := hS.big
      obtain ⟨_, _, fv, hmW, _, _, _, _, _, h4, _⟩ := hS.pack
      obtain ⟨⟨fa, fn, fc, rfl⟩, hsort⟩ := sort_pack hp hok.files h4
      have HP := Lib.hid hp
      clear hpar hlin hp hS hk hk2
      go_wp2_with fail
      refine hsort.mono ?_
      rintro e w2 ⟨rfl, hb2, hfl2⟩
      have d0 := (hb2.cell (p := ⟨w.heap.size, 0, none⟩) (by show w.heap.size < m; omega)).trans c0
      have d1 := (hb2.cell (p := ⟨w.heap.size + 1, 0, none⟩) (by show w.heap.size + 1 < m; omega)).trans c1
      have y0 := (hb2.frozen (p := ⟨w.heap.size, 0, none⟩) (by show w.heap.size < m; omega)).trans z0
      have y1 := (hb2.frozen (p := ⟨w.heap.size + 1, 0, none⟩) (by show w.heap.size + 1 < m; omega)).trans z1
      have hs2 := hb2.size
      have HFL := Lib.hid hfl2
      clear hfl2 hsort c0 c1 c3 z0 z1 z3
      go_wp2_with fail
      refine leaves_cons (f := 100) (args := #[.pointer (some ⟨w.heap.size + 3, 0, none⟩), .pointer (some ⟨w.heap.size, 0, none⟩), .pointer (some ⟨w.heap.size + 1, 0, none⟩)]) (by simp) (by simp [go_sem]) ?_
      refine (catch_idle _ _ _ _).mono ?_
      rintro e u' w9 ⟨rfl, rfl, rfl⟩
      have hwb : ∀ x, x ≠ w.heap.size → x ≠ w.heap.size + 1 → ((w2.setCell ⟨w.heap.size, 0, none⟩ (.pointer (some ⟨w.heap.size + 2, 0, none⟩))).setCell ⟨w.heap.size + 1, 0, none⟩ (.int .i64 (-1))).heap[x]? = w2.heap[x]? := fun x h1 h2 => by
        rw [Below.heap_setCell _ _ _ _ h2, Below.heap_setCell _ _ _ _ h1]
      have hws : ((w2.setCell ⟨w.heap.size, 0, none⟩ (.pointer (some ⟨w.heap.size + 2, 0, none⟩))).setCell ⟨w.heap.size + 1, 0, none⟩ (.int .i64 (-1))).heap.size = w2.heap.size := by simp
      have hwo : ((w2.setCell ⟨w.heap.size, 0, none⟩ (.pointer (some ⟨w.heap.size + 2, 0, none⟩))).setCell ⟨w.heap.size + 1, 0, none⟩ (.int .i64 (-1))).os = w2.os ∧ ((w2.setCell ⟨w.heap.size, 0, none⟩ (.pointer (some ⟨w.heap.size + 2, 0, none⟩))).setCell ⟨w.heap.size + 1, 0, none⟩ (.int .i64 (-1))).tape = w2.tape ∧
        ((w2.setCell ⟨w.heap.size, 0, none⟩ (.pointer (some ⟨w.heap.size + 2, 0, none⟩))).setCell ⟨w.heap.size + 1, 0, none⟩ (.int .i64 (-1))).output = w2.output := ⟨rfl, rfl, rfl⟩
      have r0 : ((w2.setCell ⟨w.heap.size, 0, none⟩ (.pointer (some ⟨w.heap.size + 2, 0, none⟩))).setCell ⟨w.heap.size + 1, 0, none⟩ (.int .i64 (-1))).cell? ⟨w.heap.size, 0, none⟩ = some (.pointer (some ⟨w.heap.size + 2, 0, none⟩)) := by
        rw [World.cell?_setCell_other _ _ _ _ (by simp), World.cell?_setCell_same _ _ _ d0]
      have r1 : ((w2.setCell ⟨w.heap.size, 0, none⟩ (.pointer (some ⟨w.heap.size + 2, 0, none⟩))).setCell ⟨w.heap.size + 1, 0, none⟩ (.int .i64 (-1))).cell? ⟨w.heap.size + 1, 0, none⟩ = some (.int .i64 (-1)) :=
        World.cell?_setCell_same _ _ _ ((World.cell?_setCell_other _ _ _ _ (by simp)).trans d1)
      generalize ((w2.setCell ⟨w.heap.size, 0, none⟩ (.pointer (some ⟨w.heap.size + 2, 0, none⟩))).setCell ⟨w.heap.size + 1, 0, none⟩ (.int .i64 (-1))) = w9 at hwb hws hwo r0 r1
      have hb9 : Below w.heap.size w w9 := by
        refine ⟨hwo.1.trans (hb2.os.trans hbel.os), hwo.2.1.trans (hb2.tape.trans hbel.tape), hwo.2.2.trans (hb2.output.trans hbel.output), by have := hbel.size; omega, fun j hj => ?_⟩
        rw [hwb j (by omega) (by omega), hb2.block j (by omega)]
        exact hbel.block j hj
      have hfl9 : FlOn (fun x => x < w9.heap.size) w9 (.slice fa fn fc) (Sp.sortF p.files) := SlOn.mono (SlOn.keep HFL.out fun x hx => hwb x (by omega) (by omega)) fun x hx => by omega
      have hpk := HP.out.sorted (w' := w9) (fun x hx hor => (hwb x (by omega) (by omega)).trans (hb2.block x hx)) (by omega) h4 hfl9
      simp [Leaves, settle, results, Tryz.results63, go_sem, r0, r1]
      exact ⟨hb9, .inr ⟨_, _, HPAR.out, rfl, hpk, sorted_ok hok⟩⟩
end Go.Proofs.YtfphcecjhdkcoaaGreatDoor
/-
The program's parsed, whatever text comes; its Read.
-/
namespace Go.Proofs.YtfphcecjhdkcoaaGreatDoor
open Go.RowKit
theorem parsed_any {G : Nat} (s : ByteArray) (w : World) (hG : Glob G w) : Calls Tryz.prog 63 #[.string s] w (ParseRes (bl s) w) := by
  by_cases h : s.size ≤ 300
  · exact parsed_short s w hG h
  · refine (parsed_long s w (by omega)).mono ?_
    rintro e w' ⟨rfl, hb⟩
    refine ⟨hb, .inl ⟨0, ?_, rfl⟩⟩
    unfold Sp.parse
    rw [if_pos (by rw [bl_len]; omega)]
/-- What Read comes to: the text in its one form, or a fault that names a line. -/
def ReadRes (s : Sp.Str) (w : World) (e : Ending) (w' : World) : Prop :=
  Below w.heap.size w w' ∧ ((∃ n b, Sp.parse s = .inl n ∧ e = .returned (.tuple #[.string ⟨#[]⟩, .iface 121 (.pointer (some ⟨b, 0, none⟩))]) ∧ w.heap.size ≤ b ∧ b < w'.heap.size ∧
      w'.cell? ⟨b, 0, none⟩ = some (.int .i64 1) ∧ w'.cell? ⟨b, 1, none⟩ = some (.int .i64 0) ∧ w'.cell? ⟨b, 2, none⟩ = some (.int .i64 (n : Int)) ∧ w'.cell? ⟨b, 3, none⟩ = some (.string ⟨#[]⟩)) ∨
    (∃ p, Sp.parse s = .inr p ∧ e = .returned (.tuple #[sv (Sp.print p), .nilIface]) ∧ PkOk p))
set_option maxRecDepth 100000 in
set_option maxHeartbeats 1000000 in
theorem read_any {G : Nat} (s : ByteArray) (w : World) (hG : Glob G w) :
    Calls Tryz.prog 41 #[.string s] w (ReadRes (bl s) w) := by
  go_enter Tryz.func41, Tryz.ntmps41
  go_wp2_with fail
  refine (parsed_any s _ hG).mono ?_
  rintro e w1 ⟨hb1, ⟨n, hp, rfl⟩ | ⟨p, b, hp, rfl, hpk, hok⟩⟩
  · have HP := Lib.hid hp
    clear hp
    go_wp2_with fail
    go_ret2
    have hsz := hb1.size
    refine ⟨hb1.alloc hsz _, .inl ⟨n, w1.heap.size, HP.out, rfl, hsz, by simp, ?_, ?_, ?_, ?_⟩⟩ <;> (rw [World.cell?_alloc_at _ _ _ _ rfl]; rfl)
  · have HP := Lib.hid hp
    clear hp
    go_wp2_with fail
    refine (print_any b p w1 hpk hok).mono ?_
    rintro e w2 ⟨rfl, hb2⟩
    unfold sv
    go_wp2_with fail
    go_ret2
    exact ⟨hb1.trans (hb2.mono hb1.size), .inr ⟨p, HP.out, rfl, hok⟩⟩
end Go.Proofs.YtfphcecjhdkcoaaGreatDoor
/-
The document's plain form of errors: no error; the plain Read of a text that is one.
-/
namespace Go.Proofs.YtfphcecjhdkcoaaGreatDoor
open Go.RowKit
theorem parts_nil (w : World) : Calls Tryz.prog 42 #[.nilIface] w fun e w' => e = .returned (.agg #[.int .i64 0, .int .i64 0, .int .i64 0, .string ⟨#[]⟩]) ∧ Below w.heap.size w w' := by
  go_enter Tryz.func42, Tryz.ntmps42
  go_wp2
  refine bodyPost_ret (v := .agg #[.int .i64 0, .int .i64 0, .int .i64 0, .string ⟨#[]⟩]) (by simp [results, Tryz.results42, go_sem]) rfl ⟨rfl, ?_⟩
  exact (Below.refl _ _).alloc (Nat.le_refl _) _
theorem print_ne (p : Sp.Pk) : (Sp.print p == []) = false := by
  unfold Sp.print; rfl
set_option maxHeartbeats 1000000 in
theorem plainRead_some {G : Nat} (s : ByteArray) (p : Sp.Pk) (w : World) (hG : Glob G w) (h : Sp.parse (bl s) = .inr p) :
    Calls Tryz.prog 15 #[.string s] w fun e w' => e = .returned (.tuple #[sv (Sp.print p), .agg #[.int .i64 0, .int .i64 0, .int .i64 0, .string ⟨#[]⟩]]) ∧ Below w.heap.size w w' := by
  have hne := print_ne p
  have HP := Lib.hid h
  clear h
  go_enter Tryz.func15, Tryz.ntmps15
  go_wp2_with fail
  refine (read_any s _ (hG.keep ((Below.refl _ _).alloc (Nat.le_refl _) _))).mono ?_
  rintro e w1 ⟨hb1, ⟨n, b, hp, _⟩ | ⟨q, hp, rfl, _⟩⟩
  · rw [HP.out] at hp; cases hp
  · rw [HP.out] at hp
    cases hp
    obtain ⟨hc, hf⟩ := bcell hb1
    have hz1 : w.heap.size < w1.heap.size := by have := hb1.size; simp at this; omega
    unfold sv
    go_wp2_with fail
    refine (parts_nil _).mono ?_
    rintro e w2 ⟨rfl, hb2⟩
    obtain ⟨hc2, hf2⟩ := bcell hb2
    have hz2 : w.heap.size < w2.heap.size := by have := hb2.size; omega
    have k0 : w2.cell? ⟨w.heap.size, 0, none⟩ = some (.int .i64 0) := by rw [hc2 _ _ hz1, hc _ _ (by simp), World.cell?_alloc_at _ _ _ _ rfl]; rfl
    have k1 : w2.cell? ⟨w.heap.size, 1, none⟩ = some (.int .i64 0) := by rw [hc2 _ _ hz1, hc _ _ (by simp), World.cell?_alloc_at _ _ _ _ rfl]; rfl
    have k2 : w2.cell? ⟨w.heap.size, 2, none⟩ = some (.int .i64 0) := by rw [hc2 _ _ hz1, hc _ _ (by simp), World.cell?_alloc_at _ _ _ _ rfl]; rfl
    have k3 : w2.cell? ⟨w.heap.size, 3, none⟩ = some (.string ⟨#[]⟩) := by rw [hc2 _ _ hz1, hc _ _ (by simp), World.cell?_alloc_at _ _ _ _ rfl]; rfl
    have f0 : ∀ o, w2.frozen? ⟨w.heap.size, o, none⟩ = false := fun o => by rw [hf2 _ _ hz1, hf _ _ (by simp)]; simp
    have f00 := f0 0
    have f01 := f0 1
    have f02 := f0 2
    have f03 := f0 3
    have hbb : Below w.heap.size w w2 := ((Below.refl _ w).alloc (Nat.le_refl _) _).trans ((hb1.trans (hb2.mono hb1.size)).mono (by simp))
    clear hc hf hc2 hf2 f0
    go_wp2_with fail
    go_region
    go_wp2_with fail
    refine bodyPost_ret (v := .tuple #[sv (Sp.print p), .agg #[.int .i64 0, .int .i64 0, .int .i64 0, .string ⟨#[]⟩]]) (by simp [results, Tryz.results15, go_sem, sv, hz2, k0, k1, k2, k3]) rfl ⟨rfl, ?_⟩
    refine ⟨hbb.os, hbb.tape, hbb.output, by have := hbb.size; simp; omega, fun k hk => ?_⟩
    refine Eq.trans ?_ (hbb.block k hk)
    show (World.alloc _ _).heap[k]? = _
    rw [Below.heap_alloc _ _ _ (by simp; omega), Below.heap_setCell _ _ _ _ (by show k ≠ w.heap.size; omega), Below.heap_setCell _ _ _ _ (by show k ≠ w.heap.size; omega), Below.heap_setCell _ _ _ _ (by show k ≠ w.heap.size; omega), Below.heap_setCell _ _ _ _ (by show k ≠ w.heap.size; omega)]
end Go.Proofs.YtfphcecjhdkcoaaGreatDoor
namespace Go.Proofs.YtfphcecjhdkcoaaGreatDoor
open Go.RowKit
/-- What the package-level variable errors.errorType holds. -/
def ErrT (w : World) : Prop := w.cell? ⟨0, 0, none⟩ = some (.iface 251 (.agg #[.pointer (some ⟨6, 81, none⟩)]))
/-- A fault lies at block b. -/
structure FaultAt (w : World) (b : Nat) (k which line : Int) (name : Sp.Str) : Prop where
  lt : b < w.heap.size
  kind : w.cell? ⟨b, 0, none⟩ = some (.int .i64 k)
  wh : w.cell? ⟨b, 1, none⟩ = some (.int .i64 which)
  ln : w.cell? ⟨b, 2, none⟩ = some (.int .i64 line)
  nm : w.cell? ⟨b, 3, none⟩ = some (sv name)
theorem as_any (e : Addr) (t : Nat) (old : Value) (w : World) (hg : ErrT w) (ht0 : w.cell? ⟨t, 0, none⟩ = some old) (hf0 : ∀ o, w.frozen? ⟨t, o, none⟩ = false) (_ht : 0 < t) :
    Calls Tryz.prog 65 #[.iface 121 (.pointer (some e)), .iface 127 (.pointer (some ⟨t, 0, none⟩))] w fun ev w' => ev = .returned (.bool true) ∧ FrN w.heap.size t w w' ∧ w'.cell? ⟨t, 0, none⟩ = some (.pointer (some e)) := by
  have hlt : t < w.heap.size := by
    rcases Nat.lt_or_ge t w.heap.size with h | h
    · exact h
    · simp [World.cell?, Array.getElem?_eq_none h] at ht0
  refine (as_hit e ⟨t, 0, none⟩ old w hg ht0 (hf0 0)).mono ?_
  rintro ev w' ⟨rfl, rfl⟩
  have hb : ∀ W, Below w.heap.size w W → W.cell? ⟨t, 0, none⟩ = some old ∧ ∀ o, W.frozen? ⟨t, o, none⟩ = false := fun W hW => ⟨((bcell hW).1 t 0 hlt).trans ht0, fun o => ((bcell hW).2 t o hlt).trans (hf0 o)⟩
  have hbel := ((((Below.refl w.heap.size w).alloc (Nat.le_refl _) (.cells #[.pointer (some ⟨t, 0, none⟩)] 127)).alloc (by simp) (.cells #[.pointer (some ⟨6, 127, none⟩), .pointer (some ⟨w.heap.size, 0, none⟩), .int .u64 150] 193)).alloc (by simp; omega) (.cells #[.pointer (some ⟨6, 127, none⟩), .pointer (some ⟨w.heap.size, 0, none⟩), .int .u64 150] 193)).alloc (by simp; omega) (.cells #[.pointer (some e)] 121)
  obtain ⟨h1, h2⟩ := hb _ hbel
  obtain ⟨s1, _⟩ := set_facts _ t 0 (.pointer (some e)) _ h1 h2
  exact ⟨rfl, (FrN.of_below hbel (Nat.le_refl _)).trans (FrN.set _ _ _ _ _), s1⟩
set_option maxRecDepth 100000 in
set_option maxHeartbeats 2000000 in
theorem parts_fault (b : Nat) (k which line : Int) (name : Sp.Str) (w : World) (hg : ErrT w) (hF : FaultAt w b k which line name) (hk1 : 1 ≤ k) (hk8 : k ≤ 8) :
    Calls Tryz.prog 42 #[.iface 121 (.pointer (some ⟨b, 0, none⟩))] w fun e w' => e = .returned (.agg #[.int .i64 k, .int .i64 which, .int .i64 line, sv name]) ∧ Below w.heap.size w w' := by
  obtain ⟨hbl, f0, f1, f2, f3⟩ := hF
  have h0 : 0 < w.heap.size := by omega
  have H0 := Lib.hid f0
  have H1 := Lib.hid f1
  have H2 := Lib.hid f2
  have H3 := Lib.hid f3
  clear f0 f1 f2 f3
  unfold sv
  go_enter Tryz.func42, Tryz.ntmps42
  have q0 : (k == 0) = false := by rw [beq_eq_false_iff_ne]; omega
  go_wp2_with fail
  generalize hw0 : ((w.alloc (Obj.cells #[Value.int IntKind.i64 0, Value.int IntKind.i64 0, Value.int IntKind.i64 0, Value.string ⟨#[]⟩] 23)).alloc (Obj.cells #[Value.pointer none] 121)) = w0
  have hs0 : w0.heap.size = w.heap.size + 2 := by rw [← hw0]; simp
  have hb0 : Below w.heap.size w w0 := by rw [← hw0]; exact ((Below.refl _ _).alloc (Nat.le_refl _) _).alloc (by simp) _
  have hr0 : ∀ o, w0.cell? ⟨w.heap.size, o, none⟩ = (#[Value.int IntKind.i64 0, Value.int IntKind.i64 0, Value.int IntKind.i64 0, Value.string ⟨#[]⟩] : Array Value)[o]? := fun o => by
    rw [← hw0, World.cell?_alloc_lt _ _ ⟨w.heap.size, o, none⟩ (by simp), World.cell?_alloc_at _ _ _ _ rfl]
  have hz0 : ∀ o, w0.frozen? ⟨w.heap.size, o, none⟩ = false := fun o => by rw [← hw0]; simp
  have ht0 : w0.cell? ⟨w.heap.size + 1, 0, none⟩ = some (.pointer none) := by rw [← hw0, World.cell?_alloc_at _ _ _ _ (by simp)]; rfl
  have hzt : ∀ o, w0.frozen? ⟨w.heap.size + 1, o, none⟩ = false := fun o => by rw [← hw0]; simp
  have hg0 : ErrT w0 := (hb0.cell (p := ⟨0, 0, none⟩) h0).trans hg
  refine (as_any ⟨b, 0, none⟩ (w.heap.size + 1) _ w0 hg0 ht0 hzt (by omega)).mono ?_
  rintro e w1 ⟨rfl, hfr, ct⟩
  have hs1 := hfr.size
  have c0 := ((hfr.cell (p := ⟨b, 0, none⟩) (show b < w0.heap.size by omega) (show b ≠ w.heap.size + 1 by omega)).trans (hb0.cell (p := ⟨b, 0, none⟩) hbl)).trans H0.out
  have c1 := ((hfr.cell (p := ⟨b, 1, none⟩) (show b < w0.heap.size by omega) (show b ≠ w.heap.size + 1 by omega)).trans (hb0.cell (p := ⟨b, 1, none⟩) hbl)).trans H1.out
  have c2 := ((hfr.cell (p := ⟨b, 2, none⟩) (show b < w0.heap.size by omega) (show b ≠ w.heap.size + 1 by omega)).trans (hb0.cell (p := ⟨b, 2, none⟩) hbl)).trans H2.out
  have c3 := ((hfr.cell (p := ⟨b, 3, none⟩) (show b < w0.heap.size by omega) (show b ≠ w.heap.size + 1 by omega)).trans (hb0.cell (p := ⟨b, 3, none⟩) hbl)).trans H3.out
  have r0 := (hfr.cell (p := ⟨w.heap.size, 0, none⟩) (show w.heap.size < w0.heap.size by omega) (show w.heap.size ≠ w.heap.size + 1 by omega)).trans (hr0 0)
  have r1 := (hfr.cell (p := ⟨w.heap.size, 1, none⟩) (show w.heap.size < w0.heap.size by omega) (show w.heap.size ≠ w.heap.size + 1 by omega)).trans (hr0 1)
  have r2 := (hfr.cell (p := ⟨w.heap.size, 2, none⟩) (show w.heap.size < w0.heap.size by omega) (show w.heap.size ≠ w.heap.size + 1 by omega)).trans (hr0 2)
  have r3 := (hfr.cell (p := ⟨w.heap.size, 3, none⟩) (show w.heap.size < w0.heap.size by omega) (show w.heap.size ≠ w.heap.size + 1 by omega)).trans (hr0 3)
  simp only [List.getElem?_toArray, List.getElem?_cons_zero, List.getElem?_cons_succ] at r0 r1 r2 r3
  have hblk := hfr.block w.heap.size (by omega) (by omega)
  have zz : ∀ o, w1.frozen? ⟨w.heap.size, o, none⟩ = false := fun o => (World.frozen?_of_block (w := w0) (a := ⟨w.heap.size, o, none⟩) hblk).trans (hz0 o)
  have z0 := zz 0
  have z1 := zz 1
  have z2 := zz 2
  have z3 := zz 3
  have hbel : Below w.heap.size w w1 := hb0.trans ⟨hfr.os, hfr.tape, hfr.output, hfr.size, fun x hx => hfr.block x (by omega) (by omega)⟩
  have HIS := Lib.hid (fun (j : Int) (W : World) (hW : W.cell? ⟨b, 0, none⟩ = some (.int .i64 k)) => is_any b k j W hW)
  unfold sv at c3
  clear hw0 hr0 hz0 ht0 hzt hg0 hblk zz hfr hb0 H0 H1 H2 H3 hg
  go_wp2_with fail
  go_loopw [4] (fun i wr => ∃ j n : Nat, j ≤ 9 ∧ i = .int .i64 j ∧ wr = w1.drewN n) (fun i _ => 9 - (intOf i).toNat)
  case atStart => exact ⟨0, 0, by omega, rfl, rfl⟩
  case round =>
    obtain ⟨j, n, hj, rfl, hwr⟩ := hrel
    have e0 : wr.cell? ⟨b, 0, none⟩ = some (.int .i64 k) := by rw [hwr]; exact c0
    have et : wr.cell? ⟨w.heap.size + 1, 0, none⟩ = some (.pointer (some ⟨b, 0, none⟩)) := by rw [hwr]; exact ct
    by_cases h : j ≤ 8
    · have HWR := Lib.hid hwr
      have hgen : ∀ N, wr.drewN N = w1.drewN (n + N) := fun N => by rw [hwr, World.drewN_drewN]
      have HGEN := Lib.hid hgen
      clear hwr hgen
      have hjk : ((j : Int) == k) = (k == (j : Int)) := by rw [Bool.eq_iff_iff]; simp; exact ⟨fun h => h.symm, fun h => h.symm⟩
      have HJK := Lib.hid hjk
      clear hjk
      go_wp2_with fail
      go_quiet (first | (go_at_call 66; refine (HIS.out _ _ ?_).mono fun e w' h => ⟨h.1, _, h.2⟩; exact e0))
      rw [HJK.out]
      cases (k == (j : Int)) <;> (go_wp2_with fail; exact ⟨⟨j + 1, _, by omega, by go_num, HGEN.out _⟩, by simp [intOf]; omega⟩)
    · obtain rfl : j = 9 := by omega
      have t0 : wr.cell? ⟨b, 1, none⟩ = some (.int .i64 which) := by rw [hwr]; exact c1
      have t1 : wr.cell? ⟨b, 2, none⟩ = some (.int .i64 line) := by rw [hwr]; exact c2
      have t2 : wr.cell? ⟨b, 3, none⟩ = some (.string ⟨name.toArray⟩) := by rw [hwr]; exact c3
      have s0 : wr.cell? ⟨w.heap.size, 0, none⟩ = some (.int .i64 0) := by rw [hwr]; exact r0
      have s1 : wr.cell? ⟨w.heap.size, 1, none⟩ = some (.int .i64 0) := by rw [hwr]; exact r1
      have s2 : wr.cell? ⟨w.heap.size, 2, none⟩ = some (.int .i64 0) := by rw [hwr]; exact r2
      have s3 : wr.cell? ⟨w.heap.size, 3, none⟩ = some (.string ⟨#[]⟩) := by rw [hwr]; exact r3
      have y0 : wr.frozen? ⟨w.heap.size, 0, none⟩ = false := by rw [hwr]; exact z0
      have y1 : wr.frozen? ⟨w.heap.size, 1, none⟩ = false := by rw [hwr]; exact z1
      have y2 : wr.frozen? ⟨w.heap.size, 2, none⟩ = false := by rw [hwr]; exact z2
      have y3 : wr.frozen? ⟨w.heap.size, 3, none⟩ = false := by rw [hwr]; exact z3
      have hbr : Below w.heap.size w wr := by rw [hwr]; exact below_drewN hbel n
      clear hwr c0 c1 c2 c3 r0 r1 r2 r3 z0 z1 z2 z3 ct
      go_wp2_with fail
      go_region
      go_wp2_with fail
      refine bodyPost_ret (v := .agg #[.int .i64 k, .int .i64 which, .int .i64 line, .string ⟨name.toArray⟩]) (by simp [results, Tryz.results42, go_sem, s0, s1, s2, s3]) rfl ⟨rfl, ?_⟩
      refine Below.drew ?_
      repeat' (first | exact hbr | refine Below.setCell ?_ (by simp) _)
end Go.Proofs.YtfphcecjhdkcoaaGreatDoor

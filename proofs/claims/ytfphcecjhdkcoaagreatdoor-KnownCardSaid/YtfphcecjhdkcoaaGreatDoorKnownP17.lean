/-
What the rows with more parameters open.
-/
import Derived.Test.YtfphcecjhdkcoaaGreatDoorKnownP14
import Derived.Test.YtfphcecjhdkcoaaGreatDoorKnownP15
import Derived.Test.YtfphcecjhdkcoaaGreatDoorKnownP16
import Derived.Carry
import Derived.SizedLaws
/-
What the rows of the statements on sessions open: the wrap with the reach handed on; a slice of texts among the arguments; the arguments handed back, all at once.
-/
namespace Go.Proofs.YtfphcecjhdkcoaaGreatDoor
open Go.ChangeShapes Go.WideShapes Go.ChangeAt Go.RowKit
theorem wrap_sized {H : Type} {enc : TypeId × Value → H} {a : Assume} {C : Checked} {os : Os} {f : FuncId} {fn : Func} {s : ChangeSpec} {conds : List PathCond} {apart fresh handsOn again : Bool} {X : World → Array Value → Prop}
    (hX : ∀ (w w' : World) (args : Array Value), w.heap = w'.heap → X w args → X w' args)
    (own : ownKnob C.prog.godebug = none) (started : os.Started) (noInit : C.prog.inits.idxOf? f = none) (hfn : C.prog.funcs[f]? = some fn)
    (witness : ∃ (w : World) (tape : Tape) (i : Input), w.os = os ∧ (w.forCall tape i).Shaped C.prog ∧ i.vars = [] ∧ Input.okWide C.prog (w.forCall tape i) .any w.heap.size f i ∧
      ((s.pre enc C.prog fn conds apart (w.forCall tape i).memory i.args ∧ X (w.forCall tape i).memory i.args) ∧ sizedMet enc C.prog fn (OpenSpec.ofChange s) apart (w.forCall tape i).memory i.args) ∧ a.holds C.prog (lone (Frame.enter C.prog f i.args .normal) [] (w.forCall tape i)))
    (contract : ∀ (W : World) (base : Nat) (args : Array Value) (ds gs : List (DataW H)) (before : List MemPlace),
      (∀ (j : Nat) t v, fn.params[j]? = some t → args[j]? = some v → Value.okWide C.prog W .any base t v) →
      DataW.Whole enc C.prog fn.params.toList s.vars apart W args.toList ds gs before →
      X W args → W.ShapedOpen C.prog →
      (DataW.weightsEach C.prog (fn.params.toList ++ s.plain.varTypes C.prog) (ds ++ gs)).all (· ≤ reachBytes) = true →
      Calls C.prog f args W fun e W' => ∃ v, e = .returned v ∧ s.post enc C.prog fn apart fresh handsOn again W args v W') :
    ReturnsInHanded a C os f .any (fun w args => (s.pre enc C.prog fn conds apart w args ∧ X w args) ∧ sizedMet enc C.prog fn (OpenSpec.ofChange s) apart w args) (s.post enc C.prog fn apart fresh handsOn again) := by
  refine returnsInHanded_of_calls own started noInit witness ?_
  intro w tape i _ hsh _ hok hpre hholds
  obtain ⟨_, _, _, fn', hfn', _, _, _, _, hval⟩ := hok
  have e : fn' = fn := Option.some.inj (hfn'.symm.trans hfn)
  subst e
  obtain ⟨⟨⟨ds, gs, before, hw, hc⟩, hx⟩, hz⟩ := hpre
  have hw' := DataW.Whole.of_heap (w' := w.forCall tape i) (by rfl) hw
  refine (contract (w.forCall tape i) w.heap.size i.args ds gs before hval hw' (hX _ _ _ (by rfl) hx) hsh (hz.weights hw)).mono fun e W' ⟨v, he, hp⟩ => ?_
  subst he
  exact ChangeSpec.post_blind hp
theorem weightsAll_mem {H : Type} {P : Program} {e : TypeId} : ∀ {ds : List (DataW H)} {d : DataW H}, d ∈ ds → ∀ n ∈ d.weights P e, n ∈ DataW.weightsAll P e ds
  | d0 :: ds, d, h, n, hn => by
    simp only [DataW.weightsAll, List.mem_append]
    rcases List.mem_cons.1 h with rfl | h
    · exact Or.inl hn
    · exact Or.inr (weightsAll_mem h n hn)
theorem bytes9 : Tryz.prog.bytesOf 9 = 16 := by kernel_rfl
theorem carry_all {H : Type} {enc : TypeId × Value → H} {P : Program} (hl : laidOutB P = true) {W W' : World} (hb : Below W.heap.size W W') : ∀ {ts : List TypeId} {vs : List Value} {ds : List (DataW H)} {p : List MemPlace}, (∀ t ∈ ts, P.readableRec t = true ∧ t < P.types.size) → DataW.TrodAll enc P W 0 (fun _ => true) true ts vs ds p → (∀ x ∈ p, x.block < W.heap.size) →
    DataW.TrodAll enc P W' 0 (fun b => decide (b < W.heap.size)) true ts vs ds p
  | [], vs, ds, p, _, h, _ => by
    obtain ⟨rfl, rfl, rfl⟩ := trodAll_nil h
    rfl
  | t :: ts, vs, ds, p, ht, h, hlt => by
    obtain ⟨v, vs', d, ds', p1, q, rfl, rfl, rfl, hd, hrest⟩ := trodAll_cons h
    exact trodAll_cons_mk (Below.trod hl (ht t (by simp)).1 (ht t (by simp)).2 hd hb fun x hx => hlt x (by simp [hx]))
      (carry_all hl hb (fun u hu => ht u (by simp [hu])) hrest fun x hx => hlt x (by simp [hx]))
theorem read3 : Tryz.prog.readableRec 3 = true ∧ 3 < Tryz.prog.types.size := ⟨by kernel_rfl, of_decide_eq_true (by kernel_rfl)⟩
theorem read9 : Tryz.prog.readableRec 9 = true ∧ 9 < Tryz.prog.types.size := ⟨by kernel_rfl, of_decide_eq_true (by kernel_rfl)⟩
theorem read38 : Tryz.prog.readableRec 38 = true ∧ 38 < Tryz.prog.types.size := ⟨by kernel_rfl, of_decide_eq_true (by kernel_rfl)⟩
theorem readAll : ∀ t ∈ [3, 9, 38], Tryz.prog.readableRec t = true ∧ t < Tryz.prog.types.size := by
  intro t ht
  simp only [List.mem_cons, List.not_mem_nil, or_false] at ht
  rcases ht with rfl | rfl | rfl
  · exact read3
  · exact read9
  · exact read38
set_option maxRecDepth 100000 in
theorem open_texts {H : Type} {enc : TypeId × Value → H} {W : World} {base : Nat} {v : Value} {d : DataW H} {p : List MemPlace} (hval : Value.okWide Tryz.prog W .any base 38 v) (h : DataW.Trod enc Tryz.prog W 0 (fun _ => true) true 38 v d p)
    (hsz : ∀ n ∈ d.weights Tryz.prog 38, n ≤ reachBytes) :
    ∃ l : List Sp.Str, StrsAt W v l ∧ l.length ≤ 2305843009213693952 ∧ ∀ s ∈ l, s.length ≤ 2305843009213693952 := by
  obtain ⟨a0, len, cap, rfl⟩ := okWide_slice Tryz.underlying38 hval
  obtain ⟨fuel, hf⟩ := h
  rcases open_strings Tryz.underlying38 Tryz.underlying9 cells9 hf with ⟨hcs, hx⟩ | ⟨a, len', cap', zs, hcs, _, hl, hm, hz, hx, hcell, hwz⟩
  · simp [Value.cells] at hcs
    obtain ⟨rfl, rfl, rfl⟩ := hcs
    exact ⟨[], SlAt.nil _ _ _, by simp, fun s hs => (by cases hs)⟩
  · simp [Value.cells] at hcs
    obtain ⟨rfl, rfl, rfl⟩ := hcs
    simp only [if_true] at hz
    simp only [Prod.mk.injEq] at hx
    obtain ⟨rfl, rfl⟩ := hx
    have hrb : reachBytes = 140737488351232 := rfl
    have h1 : len ≤ 2305843009213693952 := by
      have := hsz _ (show ((strs (H := H) (zs.take len)).length + (strs (H := H) (zs.drop len)).length) * Tryz.prog.bytesOf 9 ∈ _ by simp [DataW.weights, Tryz.underlying38])
      rw [bytes9] at this
      simp only [strs, List.length_map, List.length_take, List.length_drop] at this
      omega
    have h2 : ∀ z ∈ zs.take len, z.size ≤ 2305843009213693952 := fun z hz1 => by
      have := hsz z.size (by
        simp only [DataW.weights, Tryz.underlying38, List.mem_cons, List.mem_append]
        refine Or.inr (Or.inl (weightsAll_mem (d := .lit (.string z.data.toList)) (List.mem_map.2 ⟨z, hz1, rfl⟩) _ ?_))
        simp [DataW.weights])
      omega
    have hll : ((zs.take len).map bl).length = len := by rw [List.length_map, List.length_take]; omega
    refine ⟨(zs.take len).map bl, ⟨some a, cap, by rw [List.length_map, hll], by rw [List.length_map, hll]; exact hl, fun k x hk => ?_⟩, by rw [hll]; omega, fun s hs => ?_⟩
    · rw [List.getElem?_map] at hk
      have hk2 : k < len := by
        rcases Nat.lt_or_ge k len with h | h
        · exact h
        · rw [List.getElem?_eq_none (by rw [hll]; exact h)] at hk; cases hk
      have hkz : k < zs.length := by omega
      have hc := hcell k hkz
      obtain ⟨b, off, spot⟩ := a
      have hspot : spot = none := by simpa [Addr.add] using World.cell?_spot (hcell 0 (by omega))
      subst hspot
      rw [List.getElem?_map, List.getElem?_take, if_pos hk2, List.getElem?_eq_getElem hkz] at hk
      simp only [Option.map_some, Option.some.injEq] at hk
      subst hk
      have hadd : ((⟨b, off, none⟩ : Addr).add k) = ⟨b, off + k, none⟩ := DK.addr_add b off k
      rw [hadd] at hc
      refine ⟨b, off, rfl, ?_, fun j u hj => ?_⟩
      · obtain ⟨o, ho, _⟩ := cells_of_cell hc
        exact (Array.getElem?_eq_some_iff.1 ho).1
      · cases j with
        | zero =>
          have hu : sv (bl zs[k]) = u := by simpa using hj
          subst hu
          rw [Nat.mul_one, Nat.add_zero, hc]
          unfold sv
          rw [mk_bl, List.getD_eq_getElem?_getD, List.getElem?_eq_getElem hkz]; rfl
        | succ j => simp at hj
    · obtain ⟨z, hz1, rfl⟩ := List.mem_map.1 hs
      rw [bl_len]
      exact h2 z hz1
end Go.Proofs.YtfphcecjhdkcoaaGreatDoor
namespace Go.Proofs.YtfphcecjhdkcoaaGreatDoor
open Go.ChangeShapes Go.WideShapes Go.ChangeAt Go.RowKit
theorem trodAll_six {H : Type} {enc : TypeId × Value → H} {P : Program} {w : World} {base : Nat} {spare : Nat → Bool} {held : Bool} {t0 t1 t2 t3 t4 t5 : TypeId} {args : Array Value} {ds : List (DataW H)} {ps : List MemPlace} (h : DataW.TrodAll enc P w base spare held [t0, t1, t2, t3, t4, t5] args.toList ds ps) :
    ∃ v0 v1 v2 v3 v4 v5 d0 d1 d2 d3 d4 d5 p0 p1 p2 p3 p4 p5, args = #[v0, v1, v2, v3, v4, v5] ∧ ds = [d0, d1, d2, d3, d4, d5] ∧ ps = p0 ++ (p1 ++ (p2 ++ (p3 ++ (p4 ++ p5)))) ∧ DataW.Trod enc P w base spare held t0 v0 d0 p0 ∧ DataW.Trod enc P w base spare held t1 v1 d1 p1 ∧ DataW.Trod enc P w base spare held t2 v2 d2 p2 ∧ DataW.Trod enc P w base spare held t3 v3 d3 p3 ∧ DataW.Trod enc P w base spare held t4 v4 d4 p4 ∧ DataW.Trod enc P w base spare held t5 v5 d5 p5 := by
  obtain ⟨v0, _, d0, _, p0, _, hargs, rfl, rfl, h0, r⟩ := trodAll_cons h
  obtain ⟨v1, _, d1, _, p1, _, rfl, rfl, rfl, h1, r⟩ := trodAll_cons r
  obtain ⟨v2, _, d2, _, p2, _, rfl, rfl, rfl, h2, r⟩ := trodAll_cons r
  obtain ⟨v3, _, d3, _, p3, _, rfl, rfl, rfl, h3, r⟩ := trodAll_cons r
  obtain ⟨v4, _, d4, _, p4, _, rfl, rfl, rfl, h4, r⟩ := trodAll_cons r
  obtain ⟨v5, _, d5, _, p5, _, rfl, rfl, rfl, h5, r⟩ := trodAll_cons r
  obtain ⟨rfl, rfl, rfl⟩ := trodAll_nil r
  exact ⟨v0, v1, v2, v3, v4, v5, d0, d1, d2, d3, d4, d5, p0, p1, p2, p3, p4, p5, by cases args; simp_all, rfl, by simp, h0, h1, h2, h3, h4, h5⟩
theorem wf64 {n : Int} (h : (Lit.int .i64 n).wf = true) : -9223372036854775808 ≤ n ∧ n ≤ 9223372036854775807 := by
  have h1 : (decide (IntKind.i64.min ≤ n) && decide (n ≤ IntKind.i64.max)) = true := h
  rw [Bool.and_eq_true, decide_eq_true_eq, decide_eq_true_eq] at h1
  have e1 : IntKind.i64.min = -9223372036854775808 := by decide
  have e2 : IntKind.i64.max = 9223372036854775807 := by decide
  rw [e1, e2] at h1
  exact h1
end Go.Proofs.YtfphcecjhdkcoaaGreatDoor

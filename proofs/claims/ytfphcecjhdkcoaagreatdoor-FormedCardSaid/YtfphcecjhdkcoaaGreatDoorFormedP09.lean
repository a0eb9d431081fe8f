/-
Plain: which of two versions is the earlier one; the program's way and the document's way.
-/
import Derived.Test.YtfphcecjhdkcoaaGreatDoorFormedP02
import Derived.Test.YtfphcecjhdkcoaaGreatDoorFormedP04
import Derived.Test.YtfphcecjhdkcoaaGreatDoorFormedP08
import Derived.Maps.OwnSet
/-
Closed facts of the row Formed: each a theorem of its own.
-/
namespace Go.Proofs.YtfphcecjhdkcoaaGreatDoor
open Go.ChangeShapes Go.WideShapes Go.ChangeAt Go.RowKit
theorem f4place : Tryz.prog.inPlace 4 = Rows.formedRow.inPlace := by kernel_rfl
theorem f4unf : Tryz.prog.unfollowed 4 = true := by kernel_rfl
theorem f4rec : Tryz.prog.recurses 4 = true := by kernel_rfl
theorem f4named : Tryz.prog.varsNamed 4 = Rows.formedRow.named := by kernel_rfl
theorem f4fun : Tryz.prog.funcNamed "parcels/parcelskeep.Formed" = some 4 := by kernel_rfl
theorem f4inst : Tryz.f4.isInstance Tryz.prog Rows.formedRow.origin Rows.formedRow.targs := of_decide_eq_true (by kernel_rfl)
theorem f4wrap : Tryz.f4.isWrapper Tryz.prog Rows.formedRow.wrapper Rows.formedRow.mainSum := by unfold Func.isWrapper; rw [if_neg (of_decide_eq_false (by kernel_rfl))]; exact ⟨rfl, rfl⟩
theorem f4facts : joinedFacts Tryz.prog 4 Tryz.f4 Rows.formedSpec Rows.formedRow = true := by
  unfold joinedFacts
  rw [cLaid, cMaps, cStops, cKnobs, cLifted, cMake, cKeys, cHeard, cEnter, f4place, f4unf, f4rec, f4named]
  kernel_rfl
end Go.Proofs.YtfphcecjhdkcoaaGreatDoor
/-
Maps from texts to values, in memory: as lists of keys with their values.
-/
namespace Go.Proofs.YtfphcecjhdkcoaaGreatDoor
open Go.RowKit Go.Maps
abbrev KV := List (Sp.Str × Value)
def getKV (kv : KV) (x : Sp.Str) (z : Value) : Value := match kv.find? (fun q => q.1 == x) with
  | some q => q.2
  | none => z
def hasKV (kv : KV) (x : Sp.Str) : Bool := kv.any fun q => q.1 == x
def dropKV (kv : KV) (x : Sp.Str) : KV := kv.filter fun q => q.1 != x
/-- Block b's datum shows these keys, with these values. -/
structure Shows (D : DataW Value) (kv : KV) : Prop where
  tidy : Maps.Tidy D
  at_ : ∀ q ∈ kv, ∀ z, D.atKey (.string q.1) z = .held q.2
  has_ : ∀ k, Maps.has D k = true ↔ ∃ q ∈ kv, k = .string q.1
  size_ : Maps.size D = kv.length
  apart : kv.Pairwise fun p q => p.1 ≠ q.1
  keys : ∀ q ∈ kv, q.1.length ≤ maxLen
def MapAt (w : World) (b : Nat) (kv : KV) : Prop := ∃ D, w.ownsMap Tryz.prog 9 Rv b kv.length D ∧ Shows D kv
namespace MP
theorem get_mem {kv : KV} (ha : kv.Pairwise fun p q => p.1 ≠ q.1) {q : Sp.Str × Value} (hq : q ∈ kv) (z : Value) : getKV kv q.1 z = q.2 := by
  unfold getKV
  have : kv.find? (fun p => p.1 == q.1) = some q := by
    induction kv with
    | nil => cases hq
    | cons p r ih =>
      obtain ⟨h1, h2⟩ := List.pairwise_cons.1 ha
      rcases List.mem_cons.1 hq with rfl | hq
      · rw [List.find?_cons_of_pos (by simp)]
      · rw [List.find?_cons_of_neg (by simpa using h1 q hq)]
        exact ih h2 hq
  rw [this]
theorem has_iff {kv : KV} {x : Sp.Str} : hasKV kv x = true ↔ ∃ q ∈ kv, q.1 = x := by
  unfold hasKV; rw [List.any_eq_true]; simp
theorem get_none {kv : KV} {x : Sp.Str} (h : hasKV kv x = false) (z : Value) : getKV kv x z = z := by
  unfold getKV
  have : kv.find? (fun p => p.1 == x) = none := by
    rw [List.find?_eq_none]
    intro q hq he
    rw [← Bool.not_eq_true, has_iff] at h
    exact h ⟨q, hq, by simpa using he⟩
  rw [this]
theorem has_lit {D : DataW Value} {kv : KV} (h : Shows D kv) (x : Sp.Str) : Maps.has D (.string x) = hasKV kv x := by
  rw [Bool.eq_iff_iff, h.has_, has_iff]
  exact ⟨fun ⟨q, hq, e⟩ => ⟨q, hq, by injection e with e; exact e.symm⟩, fun ⟨q, hq, e⟩ => ⟨q, hq, by rw [e]⟩⟩
theorem at_lit {D : DataW Value} {kv : KV} (h : Shows D kv) (x : Sp.Str) (z : Value) : D.atKey (.string x) (.held z) = .held (getKV kv x z) := by
  cases hh : hasKV kv x with
  | true =>
    obtain ⟨q, hq, rfl⟩ := has_iff.1 hh
    rw [h.at_ q hq, get_mem h.apart hq]
  | false =>
    rw [get_none hh, Maps.atKey_of_not_has (by rw [has_lit h, hh])]
theorem shows_nil : Shows (.map []) [] := ⟨Maps.tidy_empty, (fun q hq => by cases hq), (fun k => by simp [Maps.has]), rfl, List.Pairwise.nil, (fun q hq => by cases hq)⟩
theorem shows_perm {D : DataW Value} {kv kv' : KV} (h : Shows D kv) (hp : kv.Perm kv') : Shows D kv' :=
  ⟨h.tidy, fun q hq => h.at_ q (hp.mem_iff.2 hq), fun k => (h.has_ k).trans ⟨fun ⟨q, hq, e⟩ => ⟨q, hp.mem_iff.1 hq, e⟩, fun ⟨q, hq, e⟩ => ⟨q, hp.mem_iff.2 hq, e⟩⟩, h.size_.trans hp.length_eq, (hp.pairwise_iff (fun hab => fun e => hab e.symm)).1 h.apart, fun q hq => h.keys q (hp.mem_iff.2 hq)⟩
theorem shows_new {D : DataW Value} {kv : KV} (h : Shows D kv) {x : Sp.Str} (hx : x.length ≤ maxLen) (hn : hasKV kv x = false) (v : Value) : Shows (D.put (.string x) (.held v)) (kv ++ [(x, v)]) := by
  have hne : ∀ q ∈ kv, q.1 ≠ x := fun q hq e => by
    rw [← Bool.not_eq_true, has_iff] at hn; exact hn ⟨q, hq, e⟩
  refine ⟨h.tidy.put (isKey9 x hx) _, fun q hq z => ?_, fun k => ?_, ?_, ?_, fun q hq => ?_⟩
  · rcases List.mem_append.1 hq with hq | hq
    · rw [Maps.atKey_put_other (fun e => hne q hq (by injection e)), h.at_ q hq]
    · rw [List.mem_singleton] at hq; subst hq
      exact Maps.atKey_put_same h.tidy.isMap (isKey9 x hx) _ _
  · by_cases e : k = .string x
    · subst e
      rw [Maps.has_put_same h.tidy.isMap (isKey9 x hx)]
      exact ⟨fun _ => ⟨(x, v), by simp, rfl⟩, fun _ => rfl⟩
    · rw [Maps.has_put_other e, h.has_]
      constructor
      · rintro ⟨q, hq, e⟩; exact ⟨q, by simp [hq], e⟩
      · rintro ⟨q, hq, e2⟩
        rcases List.mem_append.1 hq with hq | hq
        · exact ⟨q, hq, e2⟩
        · rw [List.mem_singleton] at hq; subst hq; exact absurd e2 e
  · rw [Maps.size_put h.tidy, has_lit h, hn, h.size_]; simp
  · rw [List.pairwise_append]
    refine ⟨h.apart, by simp, fun p hp q hq => ?_⟩
    rw [List.mem_singleton] at hq; subst hq
    exact hne p hp
  · rcases List.mem_append.1 hq with hq | hq
    · exact h.keys q hq
    · rw [List.mem_singleton] at hq; subst hq; exact hx
/-- The same value once more. -/
theorem shows_same {D : DataW Value} {kv : KV} (h : Shows D kv) {q : Sp.Str × Value} (hq : q ∈ kv) : Shows (D.put (.string q.1) (.held q.2)) kv := by
  have hx := h.keys q hq
  have hh : Maps.has D (.string q.1) = true := (h.has_ _).2 ⟨q, hq, rfl⟩
  refine ⟨h.tidy.put (isKey9 _ hx) _, fun p hp z => ?_, fun k => ?_, ?_, h.apart, h.keys⟩
  · by_cases e : p.1 = q.1
    · have : p = q := by
        have h1 := get_mem h.apart hp .nilIface
        have h2 := get_mem h.apart hq .nilIface
        rw [e, h2] at h1
        exact Prod.ext e h1.symm
      subst this
      exact Maps.atKey_put_same h.tidy.isMap (isKey9 _ hx) _ _
    · rw [Maps.atKey_put_other (fun e2 => e (by injection e2)), h.at_ p hp]
  · by_cases e : k = .string q.1
    · subst e
      rw [Maps.has_put_same h.tidy.isMap (isKey9 _ hx)]
      exact ⟨fun _ => ⟨q, hq, rfl⟩, fun _ => rfl⟩
    · rw [Maps.has_put_other e, h.has_]
  · rw [Maps.size_put h.tidy, hh, h.size_]; rfl
theorem mem_drop {kv : KV} {x : Sp.Str} {q : Sp.Str × Value} : q ∈ dropKV kv x ↔ q ∈ kv ∧ q.1 ≠ x := by
  unfold dropKV; rw [List.mem_filter]; simp
theorem shows_del {D : DataW Value} {kv : KV} (h : Shows D kv) (x : Sp.Str) : Shows (D.del (.string x)) (dropKV kv x) := by
  refine ⟨h.tidy.del _, fun q hq z => ?_, fun k => ?_, ?_, h.apart.sublist List.filter_sublist, fun q hq => h.keys q (mem_drop.1 hq).1⟩
  · obtain ⟨h1, h2⟩ := mem_drop.1 hq
    rw [Maps.atKey_del_other (fun e => h2 (by injection e)), h.at_ q h1]
  · by_cases e : k = .string x
    · subst e
      rw [Maps.has_del_same]
      constructor
      · intro hh; cases hh
      · rintro ⟨q, hq, e⟩
        exact absurd (by injection e with e; exact e.symm) (mem_drop.1 hq).2
    · rw [Maps.has_del_other e, h.has_]
      constructor
      · rintro ⟨q, hq, rfl⟩; exact ⟨q, mem_drop.2 ⟨hq, fun e2 => e (by rw [e2])⟩, rfl⟩
      · rintro ⟨q, hq, e2⟩; exact ⟨q, (mem_drop.1 hq).1, e2⟩
  · have h1 := Maps.size_del (k := .string x) h.tidy
    rw [has_lit h, h.size_] at h1
    have h2 : (dropKV kv x).length + (if hasKV kv x then 1 else 0) = kv.length := by
      have ha := h.apart
      clear h h1
      induction kv with
      | nil => rfl
      | cons p r ih =>
        obtain ⟨h1, h2⟩ := List.pairwise_cons.1 ha
        have hi := ih h2
        unfold dropKV hasKV at hi ⊢
        by_cases e : p.1 = x
        · have hr : r.any (fun q => q.1 == x) = false := by
            rw [List.any_eq_false]; intro q hq; have := h1 q hq; rw [e] at this; simp; exact fun e2 => this e2.symm
          rw [hr] at hi
          rw [List.filter_cons_of_neg (by simp [e]), List.any_cons, hr]
          simp [e] at hi ⊢; omega
        · rw [List.filter_cons_of_pos (by simp [e]), List.any_cons]
          have : (p.1 == x) = false := by simpa using e
          rw [this, Bool.false_or, List.length_cons, List.length_cons]; omega
    omega
theorem drop_perm {kv : KV} (ha : kv.Pairwise fun p q => p.1 ≠ q.1) {q : Sp.Str × Value} (hq : q ∈ kv) : kv.Perm (q :: dropKV kv q.1) := by
  induction kv with
  | nil => cases hq
  | cons p r ih =>
    obtain ⟨h1, h2⟩ := List.pairwise_cons.1 ha
    unfold dropKV at ih ⊢
    rcases List.mem_cons.1 hq with rfl | hq
    · rw [List.filter_cons_of_neg (by simp)]
      have : r.filter (fun p => p.1 != q.1) = r := by
        rw [List.filter_eq_self]; intro p hp; simpa using fun e => h1 p hp e.symm
      rw [this]
    · rw [List.filter_cons_of_pos (by simpa using h1 q hq)]
      exact ((ih h2 hq).cons p).trans (List.Perm.swap q p _)
end MP
theorem MapAt.lt {w : World} {b : Nat} {kv : KV} (h : MapAt w b kv) : b < w.heap.size := by obtain ⟨D, h1, _⟩ := h; exact h1.lt
theorem MapAt.block {w w' : World} {b : Nat} {kv : KV} (h : MapAt w b kv) (hb : w'.heap[b]? = w.heap[b]?) : MapAt w' b kv := by
  obtain ⟨D, ⟨es, clock, h1, r⟩, h2⟩ := h; exact ⟨D, ⟨es, clock, by rw [hb]; exact h1, r⟩, h2⟩
theorem MapAt.below {w w' : World} {b B : Nat} {kv : KV} (h : MapAt w b kv) (hb : Below B w w') (hB : b < B) : MapAt w' b kv := h.block (hb.block b hB)
theorem MapAt.perm {w : World} {b : Nat} {kv kv' : KV} (h : MapAt w b kv) (hp : kv.Perm kv') : MapAt w b kv' := by
  obtain ⟨D, h1, h2⟩ := h; exact ⟨D, by rw [← hp.length_eq]; exact h1, MP.shows_perm h2 hp⟩
theorem MapAt.apart {w : World} {b : Nat} {kv : KV} (h : MapAt w b kv) : kv.Pairwise fun p q => p.1 ≠ q.1 := by obtain ⟨_, _, h2⟩ := h; exact h2.apart
theorem MapAt.keys {w : World} {b : Nat} {kv : KV} (h : MapAt w b kv) : ∀ q ∈ kv, q.1.length ≤ maxLen := by obtain ⟨_, _, h2⟩ := h; exact h2.keys
theorem MapAt.made (w : World) : MapAt (w.alloc (.map #[] 0)) w.heap.size [] := ⟨.map [], World.ownsMap_made w Tryz.prog 9 _, MP.shows_nil⟩
theorem MapAt.look {w : World} {b : Nat} {kv : KV} {t e : TypeId} {z : Value} (h : MapAt w b kv) (ht : Tryz.prog.underlying t = some (.map 9 e)) (hz : ∀ w, (zeroValue e).run Tryz.prog w = .ok z w) (x : Sp.Str) (hx : x.length ≤ maxLen) :
    (Instr.lookup t (.map (some b)) (.string ⟨x.toArray⟩) false).run Tryz.prog w = .ok (getKV kv x z) w := by
  obtain ⟨D, h1, h2⟩ := h
  obtain ⟨v, ps, hrun, hv⟩ := h1.lookup keyed9 ht (hz w) (zd := .held z) (zp := []) rfl (keyOf9 x hx)
  rw [hrun]
  have e := congrArg Prod.fst (Option.some.inj hv)
  rw [MP.at_lit h2] at e
  have : v = getKV kv x z := by simpa using e
  rw [this]
theorem MapAt.look_ok {w : World} {b : Nat} {kv : KV} {t e : TypeId} {z : Value} (h : MapAt w b kv) (ht : Tryz.prog.underlying t = some (.map 9 e)) (hz : ∀ w, (zeroValue e).run Tryz.prog w = .ok z w) (x : Sp.Str) (hx : x.length ≤ maxLen) :
    (Instr.lookup t (.map (some b)) (.string ⟨x.toArray⟩) true).run Tryz.prog w = .ok (.tuple #[getKV kv x z, .bool (hasKV kv x)]) w := by
  obtain ⟨D, h1, h2⟩ := h
  obtain ⟨v, ps, hrun, hv⟩ := h1.look_ok keyed9 ht (hz w) (zd := .held z) (zp := []) rfl (keyOf9 x hx)
  rw [hrun, MP.has_lit h2]
  have e := congrArg Prod.fst (Option.some.inj hv)
  rw [MP.at_lit h2] at e
  have : v = getKV kv x z := by simpa using e
  rw [this]
theorem MapAt.len {w : World} {b : Nat} {kv : KV} {t e : TypeId} (h : MapAt w b kv) (ht : Tryz.prog.underlying t = some (.map 9 e)) (ty : TypeId) : (Builtin.len_ #[t] ty #[.map (some b)]).run Tryz.prog w = .ok (.int .i64 kv.length) w := by
  obtain ⟨D, h1, h2⟩ := h
  rw [h1.len ht ty, h2.size_]
theorem MapAt.put {w : World} {b : Nat} {kv : KV} {t e : TypeId} (h : MapAt w b kv) (ht : Tryz.prog.underlying t = some (.map 9 e)) (hn : kv.length < 1000000000) (x : Sp.Str) (hx : x.length ≤ maxLen) (hnew : hasKV kv x = false) (v : Value) :
    ∃ w', (Instr.mapUpdate t (.map (some b)) (.string ⟨x.toArray⟩) v).run Tryz.prog w = .ok () w' ∧ MapAt w' b (kv ++ [(x, v)]) ∧ w.grownBy w' (some b) := by
  obtain ⟨D, h1, h2⟩ := h
  obtain ⟨w', r1, r2, r3⟩ := h1.update keyed9 ht (by unfold maxLen; omega) (d := .held v) (ps := []) (keyOf9 x hx) rfl
  exact ⟨w', r1, ⟨_, by rw [List.length_append]; exact r2, MP.shows_new h2 hx hnew v⟩, r3⟩
section
variable (w : World) {ops : Array Oper} {rest : List Oper} {o : Oper} {a : Act} {Q : Exit → Act → World → Prop}
theorem wp_map_put (t e : TypeId) (hg : o.guard = none) (m x v : Operand) (hop : o.op = Op.mapUpdate t m x v) (ht : Tryz.prog.underlying t = some (.map 9 e)) (b : Nat) (kv : KV) (hm : a.eval m = .map (some b)) (h : MapAt w b kv) (hn : kv.length < 1000000000) (s : Sp.Str) (hs : s.length ≤ maxLen)
    (hnew : hasKV kv s = false) (hx : a.eval x = .string ⟨s.toArray⟩) (u : Value) (hv : a.eval v = u)
    (K : ∀ w', MapAt w' b (kv ++ [(s, u)]) → w.grownBy w' (some b) → wpList Tryz.prog ops Q rest (a.put o.dst undef) w') : wpList Tryz.prog ops Q (o :: rest) a w := by
  obtain ⟨D, h1, h2⟩ := h
  refine wpList_mapUpdate_own w hg m x v t hop 9 e keyed9 ht _ b _ D hm h1 (by unfold maxLen; omega) _ _ _ hx hv (keyOf9 s hs) (.held u) [] rfl fun w' h3 h4 => K w' ⟨_, ?_, MP.shows_new h2 hs hnew u⟩ h4
  rw [List.length_append]; exact h3
theorem wp_map_same (t e : TypeId) (hg : o.guard = none) (m x v : Operand) (hop : o.op = Op.mapUpdate t m x v) (ht : Tryz.prog.underlying t = some (.map 9 e)) (b : Nat) (kv : KV) (hm : a.eval m = .map (some b)) (h : MapAt w b kv) (hn : kv.length < 1000000000) (s : Sp.Str)
    (u : Value) (hold : (s, u) ∈ kv) (hx : a.eval x = .string ⟨s.toArray⟩) (hv : a.eval v = u)
    (K : ∀ w', MapAt w' b kv → w.grownBy w' (some b) → wpList Tryz.prog ops Q rest (a.put o.dst undef) w') : wpList Tryz.prog ops Q (o :: rest) a w := by
  obtain ⟨D, h1, h2⟩ := h
  refine wpList_mapUpdate_own w hg m x v t hop 9 e keyed9 ht _ b _ D hm h1 (by unfold maxLen; omega) _ _ _ hx hv (keyOf9 s (h2.keys _ hold)) (.held u) [] rfl fun w' h3 h4 => K w' ⟨_, ?_, MP.shows_same h2 hold⟩ h4
  obtain ⟨es, clock, k1, k2, k3, k4⟩ := h3
  refine ⟨es, clock, k1, k2, ?_, k4⟩
  have hs := (MP.shows_same h2 hold).size_
  rw [k4] at hs
  have : es.size = kv.length := by rw [← hs]; simp [Maps.size, Go.length_sorted]
  omega
theorem wp_map_del (t e : TypeId) (hg : o.guard = none) (m x : Operand) (hop : o.op = Op.call { callee := Callee.builtin Builtin.delete, args := #[m, x], argTypes := #[t, 9] }) (ht : Tryz.prog.underlying t = some (.map 9 e)) (b : Nat) (kv : KV) (hm : a.eval m = .map (some b)) (h : MapAt w b kv) (s : Sp.Str) (hs : s.length ≤ maxLen)
    (hx : a.eval x = .string ⟨s.toArray⟩)
    (K : ∀ w', MapAt w' b (dropKV kv s) → w.grownBy w' (some b) → wpList Tryz.prog ops Q rest (a.put o.dst (.tuple #[])) w') : wpList Tryz.prog ops Q (o :: rest) a w := by
  obtain ⟨D, h1, h2⟩ := h
  refine wpList_delete_own w hg m x t 9 hop e keyed9 ht _ b _ D hm h1 _ _ hx (keyOf9 s hs) fun w' h3 h4 => K w' ⟨_, ?_, MP.shows_del h2 s⟩ h4.grown
  obtain ⟨es, clock, k1, k2, k3, k4⟩ := h3
  refine ⟨es, clock, k1, k2, ?_, k4⟩
  have hz := (MP.shows_del h2 s).size_
  rw [k4] at hz
  have : es.size = (dropKV kv s).length := by rw [← hz]; simp [Maps.size, Go.length_sorted]
  omega
end
/-- A range over a map: what is still to come. -/
def RangeAt (w : World) (b r : Nat) (kv todo : KV) : Prop :=
  ∃ D left cnt, w.ranges Tryz.prog 9 Rv b r kv.length D left cnt ∧ Shows D kv ∧ (∀ x, left (.string x) = hasKV todo x) ∧ (∀ q ∈ todo, q ∈ kv) ∧ todo.Pairwise fun p q => p.1 ≠ q.1
theorem RangeAt.map {w : World} {b r : Nat} {kv todo : KV} (h : RangeAt w b r kv todo) : MapAt w b kv := by
  obtain ⟨D, left, cnt, h1, h2, _⟩ := h; exact ⟨D, h1.owns, h2⟩
theorem RangeAt.lt {w : World} {b r : Nat} {kv todo : KV} (h : RangeAt w b r kv todo) : r < w.heap.size := by
  obtain ⟨D, left, cnt, h1, h2, _⟩ := h; exact h1.lt
theorem RangeAt.block {w w' : World} {b r : Nat} {kv todo : KV} (h : RangeAt w b r kv todo) (hb : w'.heap[b]? = w.heap[b]?) (hr : w'.heap[r]? = w.heap[r]?) : RangeAt w' b r kv todo := by
  obtain ⟨D, left, cnt, h1, h2, h3⟩ := h; exact ⟨D, left, cnt, ranges_block h1 hb hr, h2, h3⟩
theorem rangeLeft_block {w w' : World} {b r : Nat} (hb : w'.heap[b]? = w.heap[b]?) (hr : w'.heap[r]? = w.heap[r]?) : w'.rangeLeft b r = w.rangeLeft b r := by unfold World.rangeLeft; rw [hb, hr]
theorem RangeAt.sub {w : World} {b r : Nat} {kv todo : KV} (h : RangeAt w b r kv todo) : ∀ q ∈ todo, q ∈ kv := by
  obtain ⟨D, left, cnt, h1, h2, h3, h4, h5⟩ := h; exact h4
theorem RangeAt.apart {w : World} {b r : Nat} {kv todo : KV} (h : RangeAt w b r kv todo) : todo.Pairwise fun p q => p.1 ≠ q.1 := by
  obtain ⟨D, left, cnt, h1, h2, h3, h4, h5⟩ := h; exact h5
section
variable (w : World) {ops : Array Oper} {rest : List Oper} {o : Oper} {a : Act} {Q : Exit → Act → World → Prop}
theorem wp_map_range (t e : TypeId) (hg : o.guard = none) (m : Operand) (hop : o.op = Op.range t m) (ht : Tryz.prog.underlying t = some (.map 9 e)) (b : Nat) (kv : KV) (hm : a.eval m = .map (some b)) (h : MapAt w b kv)
    (K : ∀ w', RangeAt w' b w.heap.size kv kv → w.grownBy w' none → w'.heap.size = w.heap.size + 1 → wpList Tryz.prog ops Q rest (a.put o.dst (.pointer (some ⟨w.heap.size, 0, none⟩))) w') : wpList Tryz.prog ops Q (o :: rest) a w := by
  obtain ⟨D, h1, h2⟩ := h
  exact wpList_range_own w hg m t hop 9 e keyed9 ht _ b _ D hm h1 fun w' r1 r2 r3 => K w' ⟨D, _, _, r1, h2, fun x => MP.has_lit h2 x, fun q hq => hq, h2.apart⟩ r2 r3
theorem wp_map_next (hg : o.guard = none) (it : Operand) (hop : o.op = Op.next it false) (b r : Nat) (kv todo : KV) (hit : a.eval it = .pointer (some ⟨r, 0, none⟩)) (h : RangeAt w b r kv todo)
    (hDone : todo = [] → wpList Tryz.prog ops Q rest (a.put o.dst (.tuple #[.bool false])) w)
    (hMore : ∀ (q : Sp.Str × Value) (w' : World), q ∈ todo → RangeAt w' b r kv (dropKV todo q.1) → w.grownBy w' (some r) → w'.heap.size = w.heap.size →
      (Instr.entry (.pointer (some ⟨r, 0, none⟩))).run Tryz.prog w' = .ok (.tuple #[.string ⟨q.1.toArray⟩, q.2]) w' → w'.rangeLeft b r < w.rangeLeft b r → wpList Tryz.prog ops Q rest (a.put o.dst (.tuple #[.bool true, .string ⟨q.1.toArray⟩, q.2])) w') : wpList Tryz.prog ops Q (o :: rest) a w := by
  obtain ⟨D, left, cnt, h1, h2, h3, h4, h5⟩ := h
  refine wpList_next_ranges w hg it hop 9 keyed9 Rv Value.string (fun v : Value => v) (fun key kl hkey => str_of_key hkey) (fun v y _ => ⟨v, rfl⟩) b r _ D left cnt hit h1 (fun _ hl => hDone ?_) ?_
  · refine List.eq_nil_iff_forall_not_mem.2 fun q hq => ?_
    have := hl (.string q.1)
    rw [h3, MP.has_iff.2 ⟨q, hq, rfl⟩] at this; cases this
  · intro x c kl y w' cnt' hkl hlk hRv hat hr2 hltc hg2 hs2 hen
    have hkl2 : kl = .string (bl x) := by
      by_cases hx : x.size ≤ maxLen
      · have h9 := WideMaps.keyOf_string_mk Tryz.underlying9 hx
        rw [hkl] at h9
        exact Option.some.inj h9
      · simp [keyOf, Tryz.underlying9, mapKey, hx] at hkl
    subst hkl2
    rw [h3] at hlk
    obtain ⟨q, hq, hqx⟩ := MP.has_iff.1 hlk
    have hx : (⟨q.1.toArray⟩ : ByteArray) = x := by rw [hqx]; exact mk_bl x
    obtain rfl : y = (.held c, []) := (Option.some.inj hRv).symm
    have hc : q.2 = c := by
      have h6 := h2.at_ q (h4 q hq) .nil
      rw [hqx, hat .nil] at h6
      exact (DataW.held.inj h6).symm
    have := hMore q w' hq ⟨D, _, cnt', hr2, h2, fun z => ?_, fun p hp => h4 p (MP.mem_drop.1 hp).1, h5.sublist List.filter_sublist⟩ hg2 hs2 (by rw [hx, hc]; exact hen) (by rw [hr2.left_eq, h1.left_eq]; exact hltc)
    · rw [hx, hc] at this; exact this
    · rw [h3, Bool.eq_iff_iff, Bool.and_eq_true, MP.has_iff, MP.has_iff, Bool.not_eq_true', ← Bool.not_eq_true]
      have hk : (Lit.string z).sameKey (Lit.string (bl x)) = true ↔ z = bl x := by
        rw [WideAt.sameKey_iff (isKey9 _ (by rw [← hqx]; exact h2.keys q (h4 q hq)))]
        exact ⟨fun e => by injection e, fun e => by rw [e]⟩
      constructor
      · rintro ⟨⟨p, hp, rfl⟩, hne⟩
        exact ⟨p, MP.mem_drop.2 ⟨hp, fun e => hne (hk.2 (by rw [e, hqx]))⟩, rfl⟩
      · rintro ⟨p, hp, rfl⟩
        obtain ⟨h6, h7⟩ := MP.mem_drop.1 hp
        exact ⟨⟨p, h6, rfl⟩, fun e => h7 (by rw [hk.1 e, hqx])⟩
end
end Go.Proofs.YtfphcecjhdkcoaaGreatDoor
/-
Plain laws: the reference's way of taking a choice and a line apart comes to what Sp says.
-/
namespace Go.Proofs.YtfphcecjhdkcoaaGreatDoor
namespace T1
open Sp (Str)
theorem index1 (c : UInt8) : ∀ s : Str, (c ∉ s ∧ Lib.index s [c] = -1) ∨ ∃ a r, s = a ++ c :: r ∧ c ∉ a ∧ Lib.index s [c] = (a.length : Nat)
  | [] => .inl ⟨by simp, rfl⟩
  | b :: l => by
    by_cases h : b = c
    · subst h
      refine .inr ⟨[], l, rfl, by simp, ?_⟩
      unfold Lib.index; rw [if_pos (by simp [List.isPrefixOf])]; rfl
    · have hp : ¬ [c].isPrefixOf (b :: l) = true := by simp [List.isPrefixOf]; exact fun e => h e.symm
      rcases index1 c l with ⟨h1, h2⟩ | ⟨a, r, h1, h2, h3⟩
      · refine .inl ⟨by simp [h1]; exact fun e => h e.symm, ?_⟩
        unfold Lib.index; rw [if_neg hp, h2]; rfl
      · refine .inr ⟨b :: a, r, by rw [h1]; rfl, by simp [h2]; exact fun e => h e.symm, ?_⟩
        unfold Lib.index; rw [if_neg hp, h3, if_neg (by simp)]; simp
theorem byte1 (c : UInt8) (s : Str) : (c ∉ s ∧ Lib.split s [c] = [s] ∧ Lib.cut s [c] = (s, [], false)) ∨ ∃ a r, s = a ++ c :: r ∧ c ∉ a ∧ Lib.split s [c] = a :: Lib.split r [c] ∧ Lib.cut s [c] = (a, r, true) := by
  rcases index1 c s with ⟨h1, h2⟩ | ⟨a, r, h1, h2, h3⟩
  · refine .inl ⟨h1, Sp.split_miss s [c] (by simp) h2, ?_⟩
    unfold Lib.cut; rw [h2, if_neg (by omega)]
  · have e1 : s.take a.length = a := by rw [h1]; simp
    have e2 : s.drop (a.length + [c].length) = r := by rw [h1]; simp
    refine .inr ⟨a, r, h1, h2, ?_, ?_⟩
    · rw [Sp.split_hit s [c] (by simp) a.length h3, e1, e2]
    · unfold Lib.cut; rw [h3, if_pos (by omega), Int.toNat_natCast, e1, e2]
theorem occ_no {a r t : Str} {c : UInt8} {j : Nat} (h : c ∉ a) (hj : j < a.length) : Lib.occAt (a ++ r) (c :: t) j = false := by
  unfold Lib.occAt
  rw [List.drop_append_of_le_length (by omega)]
  have : (c == a[j]) = false := by simp; intro e; exact h (e ▸ List.getElem_mem hj)
  rw [List.drop_eq_getElem_cons hj, List.cons_append, List.isPrefixOf, this, Bool.false_and]
theorem cut2_none {s : Str} (h : (32 : UInt8) ∉ s) : Lib.cut s [32, 40] = (s, [], false) := by
  unfold Lib.cut
  rw [Lib.index_none, if_neg (by omega)]
  intro j hj
  by_cases hl : j < s.length
  · have := occ_no (r := []) (t := [40]) h hl; simpa using this
  · obtain rfl : j = s.length := by omega
    simp [Lib.occAt]
theorem cut2_here {a r : Str} (h : (32 : UInt8) ∉ a) : Lib.cut (a ++ 32 :: 40 :: r) [32, 40] = (a, r, true) := by
  have hi : Lib.index (a ++ 32 :: 40 :: r) [32, 40] = (a.length : Nat) := by
    refine Lib.index_first (by simp) ?_ (fun j hj => occ_no h hj)
    unfold Lib.occAt; simp [List.isPrefixOf]
  unfold Lib.cut
  rw [hi, if_pos (by omega), Int.toNat_natCast]
  simp
theorem cut2_later {a r : Str} (h : (32 : UInt8) ∉ a) (hr : r.head? ≠ some 40) : (32 : UInt8) ∈ (Lib.cut (a ++ 32 :: r) [32, 40]).1 := by
  rcases Sp.index_range (a ++ 32 :: r) [32, 40] (by simp) with h1 | ⟨i, h1, h2, h3, h4⟩
  · unfold Lib.cut; rw [h1, if_neg (by omega)]; simp
  · have hlt : a.length < i := by
      rcases Nat.lt_trichotomy i a.length with hlt | heq | hgt
      · rw [occ_no h hlt] at h3; cases h3
      · subst heq
        unfold Lib.occAt at h3
        rw [List.drop_left] at h3
        cases r with
        | nil => simp [List.isPrefixOf] at h3
        | cons b q =>
          simp [List.isPrefixOf] at h3
          exact absurd (by rw [← h3]; rfl) hr
      · exact hgt
    unfold Lib.cut
    rw [h1, if_pos (by omega), Int.toNat_natCast]
    simp only
    rw [List.take_append, show i - a.length = (i - a.length - 1) + 1 from by omega, List.take_succ_cons]
    simp
theorem mem_all {s set : Str} {c : UInt8} {m n : Nat} (h : c ∈ s) (hc : set.contains c = false) : Sp.among s set m n = false := by
  unfold Sp.among
  have : s.all (fun c => set.contains c) = false := by
    rw [Bool.eq_false_iff]; intro ha
    rw [List.all_eq_true] at ha
    rw [ha c h] at hc; cases hc
  rw [this]; rfl
theorem name_space {s : Str} (h : (32 : UInt8) ∈ s) : Sp.isName s = false := by
  unfold Sp.isName; rw [mem_all h (by decide)]; rfl
theorem ver_space {s : Str} (h : (32 : UInt8) ∈ s) : Sp.isVer s = false := by
  unfold Sp.isVer; rw [mem_all h (by decide)]; rfl
/-- The reference's choice. -/
def sgn (b : Str) : Bool := b == [40, 60, 60] || b == [40, 60, 61] || b == [40, 61] || b == [40, 62, 61] || b == [40, 62, 62]
def choiceR (s : Str) : Option Sp.Ch :=
  match Lib.split s [32] with
  | [_] => if Sp.isName s then some ⟨s, [], []⟩ else none
  | [a, b, c] => if Sp.isName a && !c.isEmpty && Sp.isVer (c.take (c.length - 1)) && sgn b && (c.drop (c.length - 1) == [41]) then some ⟨a, b.drop 1, c.take (c.length - 1)⟩ else none
  | _ => none
theorem sgn_cons (b : Str) : sgn (40 :: b) = Sp.signs.contains b := by
  unfold sgn Sp.signs
  simp [List.contains, List.elem]
  cases h1 : (b == [60, 60]) <;> cases h2 : (b == [60, 61]) <;> cases h3 : (b == [61]) <;> cases h4 : (b == [62, 61]) <;> cases h5 : (b == [62, 62]) <;> simp_all
theorem sgn_head {b : Str} (h : b.head? ≠ some 40) : sgn b = false := by
  cases b with
  | nil => rfl
  | cons x r =>
    have : x ≠ 40 := fun e => h (by rw [e]; rfl)
    unfold sgn; simp [this]
theorem suffix_last (c : Str) : Lib.hasSuffix c [41] = (!c.isEmpty && (c.drop (c.length - 1) == [41])) := by
  unfold Lib.hasSuffix
  cases c with
  | nil => rfl
  | cons x r =>
    rw [Bool.eq_iff_iff, List.isSuffixOf_iff_suffix, List.suffix_iff_eq_drop]
    simp only [List.isEmpty_cons, Bool.not_false, Bool.true_and, beq_iff_eq]
    exact ⟨fun h => h.symm, fun h => h.symm⟩
theorem trim_last (c : Str) (h : (c.drop (c.length - 1) == [41]) = true) (hc : c.isEmpty = false) : Lib.trimSuffix c [41] = c.take (c.length - 1) := by
  unfold Lib.trimSuffix
  rw [suffix_last, h, hc]
  simp
theorem choice_eq (s : Str) : choiceR s = Sp.choose s := by
  unfold choiceR
  rcases byte1 32 s with ⟨h1, h2, _⟩ | ⟨a, r, rfl, ha, h2, _⟩
  · rw [h2]
    unfold Sp.choose
    rw [cut2_none h1]
    simp
  · rw [h2]
    by_cases hr : r.head? = some 40
    · obtain ⟨r', rfl⟩ : ∃ r', r = 40 :: r' := by
        cases r with
        | nil => cases hr
        | cons x q => exact ⟨q, by simp at hr; rw [hr]⟩
      unfold Sp.choose
      rw [cut2_here ha]
      rcases byte1 32 r' with ⟨g1, g2, g3⟩ | ⟨b, v, rfl, hb, g2, g3⟩
      · have g4 : Lib.split (40 :: r') [32] = [40 :: r'] := by
          rcases byte1 32 (40 :: r') with ⟨_, k, _⟩ | ⟨x, y, e, _⟩
          · exact k
          · exfalso
            have : (32 : UInt8) ∈ (40 :: r') := by rw [e]; simp
            simp [g1] at this
        rw [g4, g3]
        simp
      · have g4 : Lib.split (40 :: (b ++ 32 :: v)) [32] = (40 :: b) :: Lib.split v [32] := by
          refine (Sp.split_hit _ [32] (by simp) (b.length + 1) ?_).trans ?_
          · refine Lib.index_first (by simp) ?_ fun j hj => ?_
            · unfold Lib.occAt; simp [List.isPrefixOf]
            · exact occ_no (a := 40 :: b) (r := 32 :: v) (by simp [hb]) (by simpa using hj)
          · simp
        rw [g4, g3]
        rcases byte1 32 v with ⟨k1, k2, _⟩ | ⟨x, y, rfl, _, k2, _⟩
        · rw [k2]
          simp only [List.drop_succ_cons, List.drop_zero, sgn_cons, suffix_last]
          cases e1 : Sp.isName a with
          | false => simp
          | true =>
            cases e2 : v.isEmpty with
            | true => simp
            | false =>
              cases e3 : (v.drop (v.length - 1) == [41]) with
              | false => simp
              | true =>
                rw [trim_last v e3 e2]
                cases e4 : Sp.isVer (v.take (v.length - 1)) <;> cases e5 : Sp.signs.contains b <;> simp
        · rw [k2]
          obtain ⟨z, zs, hz⟩ : ∃ z zs, Lib.split y [32] = z :: zs := by
            cases h : Lib.split y [32] with
            | nil => exact absurd h (Sp.split_ne _ _ (by simp))
            | cons z zs => exact ⟨z, zs, rfl⟩
          rw [hz]
          have hv : Lib.hasSuffix (x ++ 32 :: y) [41] = true → Sp.isVer (Lib.trimSuffix (x ++ 32 :: y) [41]) = false := by
            intro h
            refine ver_space ?_
            have h' := h
            rw [suffix_last] at h'
            simp only [Bool.and_eq_true] at h'
            rw [trim_last _ h'.2 (by cases x <;> rfl)]
            cases y with
            | nil =>
              have := h'.2
              simp at this
            | cons q qs =>
              have e : (x ++ 32 :: q :: qs).length - 1 = x.length + (qs.length + 1) := by simp
              rw [e, List.take_length_add_append, List.take_succ_cons]
              simp
          simp only
          cases e1 : Sp.isName a with
          | false => simp
          | true =>
            cases e2 : Lib.hasSuffix (x ++ 32 :: y) [41] with
            | false => simp
            | true => rw [hv e2]; simp
    · have hn : Sp.choose (a ++ 32 :: r) = none := by
        unfold Sp.choose
        rw [name_space (cut2_later ha hr)]
        simp
      rw [hn]
      rcases byte1 32 r with ⟨g1, g2, g3⟩ | ⟨b, v, rfl, hb, g2, g3⟩
      · rw [g2]
      · rw [g2]
        have hb' : b.head? ≠ some 40 := by
          intro e
          cases b with
          | nil => cases e
          | cons x q => exact hr e
        cases hv : Lib.split v [32] with
        | nil => rfl
        | cons z zs =>
          cases zs with
          | nil => simp [sgn_head hb']
          | cons _ _ => rfl
end T1
end Go.Proofs.YtfphcecjhdkcoaaGreatDoor
/-
Plain laws: the reference's line is Sp's, where no two files clash yet; and the files of what was read never do.
-/
namespace Go.Proofs.YtfphcecjhdkcoaaGreatDoor
namespace T2
open Sp (Str)
theorem word_prefix (w s : Str) (hw : (32 : UInt8) ∉ w) : (w ++ [32]).isPrefixOf s = ((Lib.cut s [32]).2.2 && (Lib.cut s [32]).1 == w) ∧ ((w ++ [32]).isPrefixOf s = true → (Lib.cut s [32]).2.1 = s.drop (w.length + 1)) := by
  rcases T1.byte1 32 s with ⟨h1, _, h3⟩ | ⟨a, r, rfl, ha, _, h3⟩
  · rw [h3]
    have : (w ++ [32]).isPrefixOf s = false := by
      rw [Bool.eq_false_iff]; intro e
      obtain ⟨t, ht⟩ := List.isPrefixOf_iff_prefix.1 e
      exact h1 (by rw [← ht]; simp)
    rw [this]; simp
  · rw [h3]
    simp only [Bool.true_and]
    have key : (w ++ [32]).isPrefixOf (a ++ 32 :: r) = true ↔ a = w := by
      constructor
      · intro e
        obtain ⟨t, ht⟩ := List.isPrefixOf_iff_prefix.1 e
        have ht' : w ++ 32 :: t = a ++ 32 :: r := by rw [← ht]; simp
        rcases List.append_eq_append_iff.1 ht' with ⟨x, e1, e2⟩ | ⟨x, e1, e2⟩
        · cases x with
          | nil => simpa using e1
          | cons y q =>
            exfalso
            have : (32 : UInt8) = y := by simpa using (List.cons.inj e2).1
            subst this
            exact ha (by rw [e1]; simp)
        · cases x with
          | nil => simpa using e1.symm
          | cons y q =>
            exfalso
            have : (32 : UInt8) = y := by simpa using (List.cons.inj e2).1
            subst this
            exact hw (by rw [e1]; simp)
      · rintro rfl
        exact List.isPrefixOf_iff_prefix.2 ⟨r, by simp⟩
    refine ⟨?_, fun e => ?_⟩
    · rw [Bool.eq_iff_iff, key]; simp
    · have := key.1 e
      subst this
      simp
theorem clash_snoc (q : Str) : ∀ l : List Str, Sp.clash1 (l ++ [q]) = (Sp.clash1 l || l.any (fun p => p == q || Sp.over p q || Sp.over q p))
  | [] => rfl
  | a :: r => by
    simp only [List.cons_append, Sp.clash1, clash_snoc q r, List.any_append, List.any_cons, List.any_nil, Bool.or_false]
    cases r.any (fun q => a == q || Sp.over a q || Sp.over q a) <;> cases Sp.clash1 r <;> cases (a == q || Sp.over a q || Sp.over q a) <;> rfl
/-- The reference's line. -/
def needsP : Str := [110, 101, 101, 100, 115, 32]
def barsP : Str := [98, 97, 114, 115, 32]
def fileP : Str := [102, 105, 108, 101, 32]
def fileR (fs : List Sp.Fl) (t : Str) : Option Sp.Fl :=
  if (Lib.cut t [61]).2.2 && Sp.isPath (Lib.cut t [61]).1 && decide ((Lib.cut t [61]).2.1.length ≤ 24) && fs.all (fun g => !Sp.over (Lib.cut t [61]).1 g.path && !Sp.over g.path (Lib.cut t [61]).1 && (Lib.cut t [61]).1 != g.path)
  then some ⟨(Lib.cut t [61]).1, (Lib.cut t [61]).2.1⟩ else none
def firstR (p : Sp.Pk) (s : Str) : Option Sp.Pk :=
  match Lib.split s [32] with
  | [a, b, c] => if a == Sp.packageW && Sp.isName b && Sp.isVer c then some { p with name := b, ver := c } else none
  | _ => none
def laterR (p : Sp.Pk) (s : Str) : Option Sp.Pk :=
  if needsP.isPrefixOf s && decide (p.needs.length + p.bars.length + p.files.length = 0) then (Sp.each (s.drop 6) [44, 32] 3 (fun g => Sp.each g [32, 124, 32] 3 Sp.choose)).map fun n => { p with needs := n }
  else if barsP.isPrefixOf s && decide (p.bars.length + p.files.length = 0) then (Sp.each (s.drop 5) [44, 32] 3 Sp.choose).map fun n => { p with bars := n }
  else if fileP.isPrefixOf s && decide (p.files.length < 4) then (fileR p.files (s.drop 5)).map fun f => { p with files := p.files ++ [f] }
  else none
theorem first_eq (p : Sp.Pk) (s : Str) : firstR p s = Sp.line p true s := by
  unfold firstR Sp.line
  rcases T1.byte1 32 s with ⟨h1, h2, h3⟩ | ⟨a, r, rfl, ha, h2, h3⟩
  · rw [h2, h3]; simp
  · rw [h2, h3]
    rcases T1.byte1 32 r with ⟨g1, g2, g3⟩ | ⟨b, v, rfl, hb, g2, g3⟩
    · rw [g2, g3]; cases h : (a == Sp.packageW) <;> simp
    · rw [g2, g3]
      rcases T1.byte1 32 v with ⟨k1, k2, k3⟩ | ⟨x, y, rfl, hx, k2, k3⟩
      · rw [k2]
        simp only [Bool.true_and]
        cases h : (a == Sp.packageW) <;> simp
      · rw [k2]
        obtain ⟨z, zs, hz⟩ : ∃ z zs, Lib.split y [32] = z :: zs := by
          cases h : Lib.split y [32] with
          | nil => exact absurd h (Sp.split_ne _ _ (by simp))
          | cons z zs => exact ⟨z, zs, rfl⟩
        rw [hz, T1.ver_space (s := x ++ 32 :: y) (by simp)]
        cases h : (a == Sp.packageW) <;> simp
theorem any_all (q : Str) (fs : List Sp.Fl) : (fs.map (·.path)).any (fun p => p == q || Sp.over p q || Sp.over q p) = !fs.all (fun g => !Sp.over q g.path && !Sp.over g.path q && q != g.path) := by
  induction fs with
  | nil => rfl
  | cons f r ih =>
    simp only [List.map_cons, List.any_cons, List.all_cons, ih]
    have : (f.path == q) = !(q != f.path) := by
      rw [Bool.eq_iff_iff]; simp; exact ⟨fun h => h.symm, fun h => h.symm⟩
    rw [this]
    cases Sp.over q f.path <;> cases Sp.over f.path q <;> cases (q != f.path) <;> simp
theorem later_eq (p : Sp.Pk) (s : Str) (hc : Sp.clash1 (p.files.map (·.path)) = false) : laterR p s = Sp.line p false s := by
  obtain ⟨n1, n2⟩ := word_prefix Sp.needsW s (by decide)
  obtain ⟨b1, b2⟩ := word_prefix Sp.barsW s (by decide)
  obtain ⟨f1, f2⟩ := word_prefix Sp.fileW s (by decide)
  have en : Sp.needsW ++ [32] = needsP := rfl
  have eb : Sp.barsW ++ [32] = barsP := rfl
  have ef : Sp.fileW ++ [32] = fileP := rfl
  rw [en] at n1 n2
  rw [eb] at b1 b2
  rw [ef] at f1 f2
  unfold laterR Sp.line
  rw [n1, b1, f1]
  rw [n1] at n2
  rw [b1] at b2
  rw [f1] at f2
  rcases hcut : Lib.cut s [32] with ⟨a, r, ok⟩
  rw [hcut] at n2 b2 f2
  simp only at n2 b2 f2 ⊢
  cases ok with
  | false => simp
  | true =>
    simp only [Bool.true_and] at n2 b2 f2 ⊢
    by_cases hp : a = Sp.packageW
    · subst hp; simp [Sp.packageW, Sp.needsW, Sp.barsW, Sp.fileW]
    · have hp' : (a == Sp.packageW) = false := by simpa using hp
      rw [hp']
      by_cases hn : a = Sp.needsW
      · subst hn
        have := n2 (by simp)
        subst this
        have e1 : (Sp.needsW == Sp.barsW) = false := by decide
        have e2 : (Sp.needsW == Sp.fileW) = false := by decide
        rw [e1, e2]
        have : decide (p.needs.length + p.bars.length + p.files.length = 0) = (p.needs.isEmpty && p.bars.isEmpty && p.files.isEmpty) := by
          rw [Bool.eq_iff_iff]; simp [List.isEmpty_iff]
        rw [this]
        simp [Sp.needsW]
      · have hn' : (a == Sp.needsW) = false := by simpa using hn
        rw [hn']
        by_cases hb : a = Sp.barsW
        · subst hb
          have := b2 (by simp)
          subst this
          have e2 : (Sp.barsW == Sp.fileW) = false := by decide
          rw [e2]
          have : decide (p.bars.length + p.files.length = 0) = (p.bars.isEmpty && p.files.isEmpty) := by
            rw [Bool.eq_iff_iff]; simp [List.isEmpty_iff]
          rw [this]
          simp [Sp.barsW]
        · have hb' : (a == Sp.barsW) = false := by simpa using hb
          rw [hb']
          by_cases hf : a = Sp.fileW
          · subst hf
            have := f2 (by simp)
            subst this
            unfold fileR
            rw [clash_snoc, hc, Bool.false_or, any_all, Bool.not_not]
            have e4 : Sp.fileW.length + 1 = 5 := rfl
            rw [e4]
            by_cases q1 : (Lib.cut (List.drop 5 s) [61]).2.2 = true <;> by_cases q2 : Sp.isPath (Lib.cut (List.drop 5 s) [61]).1 = true <;> by_cases q3 : (Lib.cut (List.drop 5 s) [61]).2.1.length ≤ 24 <;> by_cases q4 : p.files.length < 4 <;> by_cases q5 : (p.files.all fun g => !Sp.over (Lib.cut (List.drop 5 s) [61]).1 g.path && !Sp.over g.path (Lib.cut (List.drop 5 s) [61]).1 && (Lib.cut (List.drop 5 s) [61]).1 != g.path) = true <;> simp only [q1, q2, q3, q4, q5, decide_true, decide_false, Bool.and_true, Bool.and_false, Bool.false_and, if_true, if_false, Bool.false_eq_true, Option.map_some, Option.map_none, BEq.rfl, Bool.not_true] <;> simp
          · have hf' : (a == Sp.fileW) = false := by simpa using hf
            rw [hf']; simp
theorem line_clash {p p' : Sp.Pk} {first : Bool} {s : Str} (h : Sp.line p first s = some p') (hc : Sp.clash1 (p.files.map (·.path)) = false) : Sp.clash1 (p'.files.map (·.path)) = false := by
  unfold Sp.line at h
  split at h
  · cases h
  · split at h
    · split at h
      · cases h; exact hc
      · cases h
    · split at h
      · split at h
        · cases he : (Sp.each (Lib.cut s [32]).2.1 [44, 32] 3 fun g => Sp.each g [32, 124, 32] 3 Sp.choose) with
          | none => rw [he] at h; cases h
          | some n => rw [he] at h; cases h; exact hc
        · cases h
      · split at h
        · split at h
          · cases he : Sp.each (Lib.cut s [32]).2.1 [44, 32] 3 Sp.choose with
            | none => rw [he] at h; cases h
            | some n => rw [he] at h; cases h; exact hc
          · cases h
        · split at h
          · split at h
            · rename_i hh
              cases h
              simp only [Bool.and_eq_true, Bool.not_eq_true'] at hh
              rw [List.map_append]
              exact hh.2
            · cases h
          · cases h
end T2
end Go.Proofs.YtfphcecjhdkcoaaGreatDoor
/-
Plain laws: texts joined and cut again; a choice printed and read again.
-/
namespace Go.Proofs.YtfphcecjhdkcoaaGreatDoor
namespace V1
open Sp (Str)
theorem join_cons2 (x y : Str) (r : List Str) (t : Str) : Lib.join (x :: y :: r) t = x ++ t ++ Lib.join (y :: r) t := by
  rw [Lib.join_cons, Lib.join_cons]; simp [Lib.joinTail]
theorem join_ne (x : Str) {r : List Str} (hr : r ≠ []) (t : Str) : Lib.join (x :: r) t = x ++ t ++ Lib.join r t := by
  cases r with
  | nil => exact absurd rfl hr
  | cons y r => exact join_cons2 x y r t
theorem join_split_n (t : Str) (ht : t ≠ []) : ∀ (n : Nat) (s : Str), s.length ≤ n → Lib.join (Lib.split s t) t = s := by
  intro n
  induction n with
  | zero =>
    intro s hs
    have : s = [] := List.length_eq_zero_iff.1 (by omega)
    subst this
    rw [Sp.split_end [] t ht 0 (by simp; exact List.length_pos_iff.2 ht) (fun j h => absurd h (Nat.not_lt_zero _)), Lib.join_one]
  | succ n ih =>
    intro s hs
    rcases Sp.index_range s t ht with h | ⟨i, h, h1, h2, _⟩
    · rw [Sp.split_miss s t ht h, Lib.join_one]
    · rw [Sp.split_hit s t ht i h, join_ne _ (Sp.split_ne _ t ht), ih _ (by rw [List.length_drop]; have := List.length_pos_iff.2 ht; omega)]
      rw [Sp.occ_take s t i h1] at h2
      have e : (s.drop i).take t.length = t := by simpa using h2
      have e2 : s = s.take i ++ (t ++ s.drop (i + t.length)) := by
        rw [← List.drop_drop]
        have := List.take_append_drop t.length (s.drop i)
        rw [e] at this
        rw [this, List.take_append_drop]
      rw [List.append_assoc]
      exact e2.symm
theorem join_split (s t : Str) (ht : t ≠ []) : Lib.join (Lib.split s t) t = s := join_split_n t ht s.length s (Nat.le_refl _)
theorem mem_join {c : UInt8} {t : Str} : ∀ {xs : List Str}, c ∈ Lib.join xs t → c ∈ t ∨ ∃ x ∈ xs, c ∈ x
  | [], h => by simp [Lib.join_nil] at h
  | [x], h => by rw [Lib.join_one] at h; exact .inr ⟨x, by simp, h⟩
  | x :: y :: r, h => by
    rw [join_cons2] at h
    rcases List.mem_append.1 h with h | h
    · rcases List.mem_append.1 h with h | h
      · exact .inr ⟨x, by simp, h⟩
      · exact .inl h
    · rcases mem_join h with h | ⟨z, hz, h⟩
      · exact .inl h
      · exact .inr ⟨z, List.mem_cons_of_mem _ hz, h⟩
theorem split_pieces (c : UInt8) : ∀ (n : Nat) (s : Str), s.length ≤ n → ∀ x ∈ Lib.split s [c], c ∉ x := by
  intro n
  induction n with
  | zero =>
    intro s hs
    have : s = [] := List.length_eq_zero_iff.1 (by omega)
    subst this
    rw [Sp.split_end [] [c] (by simp) 0 (by simp) (fun j h => absurd h (Nat.not_lt_zero _))]
    simp
  | succ n ih =>
    intro s hs x hx
    rcases T1.byte1 c s with ⟨h1, h2, _⟩ | ⟨a, r, rfl, ha, h2, _⟩
    · rw [h2] at hx; rw [List.mem_singleton] at hx; subst hx; exact h1
    · rw [h2] at hx
      rcases List.mem_cons.1 hx with rfl | hx
      · exact ha
      · exact ih r (by simp at hs; omega) x hx
theorem split_no (c : UInt8) (s x : Str) (hx : x ∈ Lib.split s [c]) : c ∉ x := split_pieces c s.length s (Nat.le_refl _) x hx
theorem occ_get {s t : Str} {j i : Nat} {c : UInt8} (h : Lib.occAt s t j = true) (hc : t[i]? = some c) : s[j + i]? = some c := by
  unfold Lib.occAt at h
  obtain ⟨r, hr⟩ := List.isPrefixOf_iff_prefix.1 h
  have hi : i < t.length := (List.getElem?_eq_some_iff.1 hc).1
  have : (s.drop j)[i]? = some c := by rw [← hr, List.getElem?_append_left hi]; exact hc
  rwa [List.getElem?_drop] at this
/-- A text between which c stands once (at i): what is joined by it is cut again by it. -/
theorem split_join (c : UInt8) (t : Str) (i : Nat) (hc : t[i]? = some c) (hu : ∀ j, t[j]? = some c → j = i) :
    ∀ xs : List Str, xs ≠ [] → (∀ x ∈ xs, c ∉ x) → Lib.split (Lib.join xs t) t = xs
  | [], h, _ => absurd rfl h
  | [x], _, h => by
    have ht : t ≠ [] := by rintro rfl; simp at hc
    rw [Lib.join_one]
    refine Sp.split_miss x t ht (Lib.index_none fun j _ => ?_)
    rw [Bool.eq_false_iff]; intro ho
    exact h x (by simp) (List.mem_of_getElem? (occ_get ho hc))
  | x :: y :: r, _, h => by
    have ht : t ≠ [] := by rintro rfl; simp at hc
    have hi : i < t.length := (List.getElem?_eq_some_iff.1 hc).1
    rw [join_cons2, List.append_assoc]
    rw [Sp.split_at _ t ht x.length (by simp) ?_ ?_]
    · have e1 : (x ++ (t ++ Lib.join (y :: r) t)).take x.length = x := by simp
      have e2 : (x ++ (t ++ Lib.join (y :: r) t)).drop (x.length + t.length) = Lib.join (y :: r) t := by
        rw [← List.append_assoc, ← List.length_append]; simp
      rw [e1, e2, split_join c t i hc hu (y :: r) (by simp) fun z hz => h z (List.mem_cons_of_mem _ hz)]
    · unfold Lib.occAt
      rw [List.drop_left]
      exact List.isPrefixOf_iff_prefix.2 (List.prefix_append _ _)
    · intro j hj
      rw [Bool.eq_false_iff]; intro ho
      have hg := occ_get ho hc
      by_cases hlt : j + i < x.length
      · rw [List.getElem?_append_left hlt] at hg
        exact h x (by simp) (List.mem_of_getElem? hg)
      · rw [List.getElem?_append_right (by omega), List.getElem?_append_left (by omega)] at hg
        have := hu _ hg
        omega
theorem mapO_map {α : Type} {one : Str → Option α} {pr : α → Str} : ∀ {l : List α}, (∀ x ∈ l, one (pr x) = some x) → Sp.mapO one (l.map pr) = some l
  | [], _ => rfl
  | x :: r, h => by
    rw [List.map_cons]
    unfold Sp.mapO
    rw [h x (by simp), mapO_map fun y hy => h y (List.mem_cons_of_mem _ hy)]
theorem mapO_inv {α : Type} {one : Str → Option α} {pr : α → Str} {Q : α → Prop} (hone : ∀ x y, one x = some y → pr y = x ∧ Q y) : ∀ {xs : List Str} {l : List α}, Sp.mapO one xs = some l → l.map pr = xs ∧ ∀ y ∈ l, Q y
  | [], l, h => by cases h; exact ⟨rfl, fun y hy => by cases hy⟩
  | x :: xs, l, h => by
    unfold Sp.mapO at h
    split at h
    · rename_i y ys h1 h2
      cases h
      obtain ⟨i1, i2⟩ := mapO_inv hone h2
      obtain ⟨j1, j2⟩ := hone x y h1
      exact ⟨by rw [List.map_cons, i1, j1], fun z hz => by
        rcases List.mem_cons.1 hz with rfl | hz
        · exact j2
        · exact i2 z hz⟩
    · cases h
theorem each_print {α : Type} {one : Str → Option α} {pr : α → Str} {c : UInt8} {t : Str} {i most : Nat} (hc : t[i]? = some c) (hu : ∀ j, t[j]? = some c → j = i) {l : List α} (hne : l ≠ []) (hl : l.length ≤ most)
    (h : ∀ x ∈ l, one (pr x) = some x ∧ c ∉ pr x) : Sp.each (Lib.join (l.map pr) t) t most one = some l := by
  unfold Sp.each
  rw [split_join c t i hc hu (l.map pr) (by simpa using hne) (fun x hx => by obtain ⟨y, hy, rfl⟩ := List.mem_map.1 hx; exact (h y hy).2), mapO_map fun x hx => (h x hx).1]
  simp only
  rw [if_pos hl]
theorem each_inv {α : Type} {one : Str → Option α} {pr : α → Str} {Q : α → Prop} (hone : ∀ x y, one x = some y → pr y = x ∧ Q y) {s t : Str} (ht : t ≠ []) {most : Nat} {l : List α} (h : Sp.each s t most one = some l) :
    Lib.join (l.map pr) t = s ∧ l ≠ [] ∧ l.length ≤ most ∧ ∀ y ∈ l, Q y := by
  unfold Sp.each at h
  split at h
  · rename_i l' hl
    split at h
    · rename_i hm
      cases h
      obtain ⟨h1, h2⟩ := mapO_inv hone hl
      refine ⟨by rw [h1, join_split s t ht], ?_, hm, h2⟩
      rintro rfl
      exact Sp.split_ne s t ht h1.symm
    · cases h
  · cases h
theorem among_no {s set : Str} {a b : Nat} {c : UInt8} (h : Sp.among s set a b = true) (hc : set.contains c = false) : c ∉ s := by
  intro hm
  rw [T1.mem_all hm hc] at h; cases h
theorem name_no {s : Str} {c : UInt8} (h : Sp.isName s = true) (hc : Sp.nameS.contains c = false) : c ∉ s := by
  unfold Sp.isName at h; rw [Bool.and_eq_true] at h; exact among_no h.1 hc
theorem ver_no {s : Str} {c : UInt8} (h : Sp.isVer s = true) (hc : Sp.verS.contains c = false) : c ∉ s := by
  unfold Sp.isVer at h; rw [Bool.and_eq_true] at h; exact among_no h.1 hc
theorem name_ne {s : Str} (h : Sp.isName s = true) : s ≠ [] := by rintro rfl; cases h
theorem path_no {s : Str} {c : UInt8} (h : Sp.isPath s = true) (hc : Sp.pathS.contains c = false) (h47 : c ≠ 47) : c ∉ s := by
  intro hm
  unfold Sp.isPath at h
  rw [Bool.and_eq_true, List.all_eq_true] at h
  rw [← join_split s [47] (by simp)] at hm
  rcases mem_join hm with hm | ⟨x, hx, hm⟩
  · simp at hm; exact h47 hm
  · have := h.1 x hx
    unfold Sp.isPart at this
    rw [Bool.and_eq_true, Bool.and_eq_true] at this
    exact among_no this.1.1 hc hm
/-- A choice that has the form. -/
def WfC (c : Sp.Ch) : Prop := Sp.isName c.name = true ∧ ((c.sign = [] ∧ c.ver = []) ∨ (Sp.signs.contains c.sign = true ∧ Sp.isVer c.ver = true))
theorem sign_no {s : Str} {c : UInt8} (h : Sp.signs.contains s = true) (hc : c ≠ 60 ∧ c ≠ 61 ∧ c ≠ 62) : c ∉ s := by
  rw [List.contains_iff_mem] at h
  intro hm
  have : ∀ x ∈ Sp.signs, ∀ b ∈ x, b = 60 ∨ b = 61 ∨ b = 62 := by decide
  rcases this s h c hm with rfl | rfl | rfl
  · exact hc.1 rfl
  · exact hc.2.1 rfl
  · exact hc.2.2 rfl
theorem sign_ne {s : Str} (h : Sp.signs.contains s = true) : s.isEmpty = false := by
  rw [List.contains_iff_mem] at h
  have : ∀ x ∈ Sp.signs, x.isEmpty = false := by decide
  exact this s h
theorem cut_hit {s t a r : Str} (ht : t ≠ []) (h : Lib.cut s t = (a, r, true)) : s = a ++ t ++ r := by
  unfold Lib.cut at h
  rcases Sp.index_range s t ht with h1 | ⟨i, h1, h2, h3, _⟩
  · rw [h1, if_neg (by omega)] at h; simp at h
  · rw [h1, if_pos (by omega), Int.toNat_natCast] at h
    simp only [Prod.mk.injEq, and_true] at h
    obtain ⟨rfl, rfl⟩ := h
    rw [Sp.occ_take s t i h2] at h3
    have e : (s.drop i).take t.length = t := by simpa using h3
    have := List.take_append_drop t.length (s.drop i)
    rw [e, List.drop_drop] at this
    rw [List.append_assoc, this, List.take_append_drop]
theorem cut_mk (c : UInt8) {a r : Str} (h : c ∉ a) : Lib.cut (a ++ c :: r) [c] = (a, r, true) := by
  have hi : Lib.index (a ++ c :: r) [c] = (a.length : Nat) := by
    refine Lib.index_first (by simp) ?_ (fun j hj => T1.occ_no h hj)
    unfold Lib.occAt; simp [List.isPrefixOf]
  unfold Lib.cut
  rw [hi, if_pos (by omega), Int.toNat_natCast]
  simp
theorem suffix_split {v : Str} (h : Lib.hasSuffix v [41] = true) : Lib.trimSuffix v [41] ++ [41] = v := by
  unfold Lib.trimSuffix
  rw [if_pos h]
  unfold Lib.hasSuffix at h
  obtain ⟨r, rfl⟩ := List.isSuffixOf_iff_suffix.1 h
  simp
theorem suffix_mk (v : Str) : Lib.hasSuffix (v ++ [41]) [41] = true ∧ Lib.trimSuffix (v ++ [41]) [41] = v := by
  have h : Lib.hasSuffix (v ++ [41]) [41] = true := List.isSuffixOf_iff_suffix.2 (List.suffix_append _ _)
  refine ⟨h, ?_⟩
  unfold Lib.trimSuffix
  rw [if_pos h]; simp
theorem choose_print {c : Sp.Ch} (h : WfC c) : Sp.choose (Sp.printC c) = some c := by
  obtain ⟨n, s, v⟩ := c
  obtain ⟨hn, hs⟩ := h
  simp only at hn hs
  have n32 : (32 : UInt8) ∉ n := name_no hn (by decide)
  unfold Sp.printC
  simp only
  rcases hs with ⟨rfl, rfl⟩ | ⟨hs, hv⟩
  · unfold Sp.choose
    simp only [List.isEmpty_nil, if_true]
    rw [T1.cut2_none n32]
    simp [hn]
  · rw [sign_ne hs]
    have e : n ++ [32, 40] ++ s ++ [32] ++ v ++ [41] = n ++ 32 :: 40 :: (s ++ 32 :: (v ++ [41])) := by simp
    rw [if_neg (by simp), e]
    unfold Sp.choose
    rw [T1.cut2_here n32]
    simp only
    rw [cut_mk 32 (sign_no hs (by decide))]
    simp only [hn, hs, (suffix_mk v).1, (suffix_mk v).2, hv, if_true, Bool.and_self]
theorem choose_inv {s : Str} {c : Sp.Ch} (h : Sp.choose s = some c) : Sp.printC c = s ∧ WfC c := by
  unfold Sp.choose at h
  rcases hcut : Lib.cut s [32, 40] with ⟨a, r, ok⟩
  rw [hcut] at h
  simp only at h
  split at h
  · rename_i hn
    split at h
    · rename_i hok
      subst hok
      rcases hcut2 : Lib.cut r [32] with ⟨b, q, ok2⟩
      rw [hcut2] at h
      simp only at h
      split at h
      · rename_i hm
        simp only [Bool.and_eq_true] at hm
        obtain ⟨⟨⟨rfl, h2⟩, h3⟩, h4⟩ := hm
        cases h
        refine ⟨?_, hn, .inr ⟨h2, h4⟩⟩
        unfold Sp.printC
        simp only
        rw [sign_ne h2, if_neg (by simp), cut_hit (by simp) hcut, cut_hit (by simp) hcut2]
        have := suffix_split h3
        simp only [List.append_assoc] at this ⊢
        rw [this]
      · cases h
    · rename_i hok
      cases h
      refine ⟨?_, hn, .inl ⟨rfl, rfl⟩⟩
      unfold Sp.printC
      simp only [List.isEmpty_nil, if_true]
      unfold Lib.cut at hcut
      split at hcut
      · exact absurd (congrArg (fun z => z.2.2) hcut).symm hok
      · simp only [Prod.mk.injEq] at hcut; exact hcut.1.symm
  · cases h
theorem printC_no {c : Sp.Ch} (h : WfC c) {x : UInt8} (hn : Sp.nameS.contains x = false) (hv : Sp.verS.contains x = false) (hx : x ≠ 60 ∧ x ≠ 61 ∧ x ≠ 62) (hy : x ≠ 32 ∧ x ≠ 40 ∧ x ≠ 41) : x ∉ Sp.printC c := by
  obtain ⟨h1, h2⟩ := h
  have a1 := name_no h1 hn
  unfold Sp.printC
  rcases h2 with ⟨h2, h3⟩ | ⟨h2, h3⟩
  · rw [h2]; simpa using a1
  · rw [sign_ne h2, if_neg (by simp)]
    have a2 := sign_no h2 hx
    have a3 := ver_no h3 hv
    simp [a1, a2, a3, hy.1, hy.2.1, hy.2.2]
end V1
end Go.Proofs.YtfphcecjhdkcoaaGreatDoor
/-
Plain laws: what was read is printed as its own lines; what is printed is read as what it was.
-/
namespace Go.Proofs.YtfphcecjhdkcoaaGreatDoor
namespace V2
open Sp (Str)
open V1
def WfF (f : Sp.Fl) : Prop := Sp.isPath f.path = true ∧ f.content.length ≤ 24 ∧ (10 : UInt8) ∉ f.content
/-- A package that has the form. -/
structure WfP (p : Sp.Pk) : Prop where
  name : Sp.isName p.name = true
  ver : Sp.isVer p.ver = true
  needs : p.needs.length ≤ 3
  groups : ∀ g ∈ p.needs, g ≠ [] ∧ g.length ≤ 3 ∧ ∀ c ∈ g, WfC c
  bars : p.bars.length ≤ 3
  barred : ∀ c ∈ p.bars, WfC c
  files : p.files.length ≤ 4
  paths : ∀ f ∈ p.files, WfF f
  clash : Sp.clash1 (p.files.map (·.path)) = false
def pkL (p : Sp.Pk) : Str := Sp.packageW ++ 32 :: (p.name ++ 32 :: p.ver)
def groupT (g : List Sp.Ch) : Str := Lib.join (g.map Sp.printC) [32, 124, 32]
def needsL (ns : List (List Sp.Ch)) : Str := Sp.needsW ++ 32 :: Lib.join (ns.map groupT) [44, 32]
def barsL (bs : List Sp.Ch) : Str := Sp.barsW ++ 32 :: Lib.join (bs.map Sp.printC) [44, 32]
def fileL (f : Sp.Fl) : Str := Sp.fileW ++ 32 :: (f.path ++ 61 :: f.content)
def needsLs (ns : List (List Sp.Ch)) : List Str := if ns.isEmpty then [] else [needsL ns]
def barsLs (bs : List Sp.Ch) : List Str := if bs.isEmpty then [] else [barsL bs]
def linesOf (p : Sp.Pk) : List Str := pkL p :: (needsLs p.needs ++ (barsLs p.bars ++ p.files.map fileL))
theorem joinTail_append (t : Str) (a b : List Str) : Lib.joinTail t (a ++ b) = Lib.joinTail t a ++ Lib.joinTail t b := by simp [Lib.joinTail]
theorem print_join (p : Sp.Pk) : Sp.print p = Lib.join (linesOf p) [10] := by
  unfold linesOf
  rw [Lib.join_cons, joinTail_append, joinTail_append]
  unfold Sp.print
  have e1 : [112, 97, 99, 107, 97, 103, 101, 32] ++ p.name ++ [32] ++ p.ver = pkL p := by simp [pkL, Sp.packageW]
  have e2 : (if p.needs.isEmpty then [] else [10, 110, 101, 101, 100, 115, 32] ++ Lib.join (p.needs.map fun g => Lib.join (g.map Sp.printC) [32, 124, 32]) [44, 32]) = Lib.joinTail [10] (needsLs p.needs) := by
    unfold needsLs
    split
    · rfl
    · simp [Lib.joinTail, needsL, Sp.needsW]
      rfl
  have e3 : (if p.bars.isEmpty then [] else [10, 98, 97, 114, 115, 32] ++ Lib.join (p.bars.map Sp.printC) [44, 32]) = Lib.joinTail [10] (barsLs p.bars) := by
    unfold barsLs
    split
    · rfl
    · simp [Lib.joinTail, barsL, Sp.barsW]
  have e4 : (p.files.map Sp.printF).flatten = Lib.joinTail [10] (p.files.map fileL) := by
    unfold Lib.joinTail
    rw [List.map_map]
    congr 2
    funext f
    simp [Sp.printF, fileL, Sp.fileW]
  rw [e1, e2, e3, e4]
  simp only [List.append_assoc]
theorem group_inv {s : Str} {g : List Sp.Ch} (h : Sp.each s [32, 124, 32] 3 Sp.choose = some g) : groupT g = s ∧ g ≠ [] ∧ g.length ≤ 3 ∧ ∀ c ∈ g, WfC c :=
  each_inv (Q := WfC) (pr := Sp.printC) (fun _ _ => choose_inv) (by simp) h
theorem u124 : ∀ j : Nat, ([32, 124, 32] : Str)[j]? = some 124 → j = 1
  | 0, h => by simp at h
  | 1, _ => rfl
  | 2, h => by simp at h
  | (n + 3), h => by simp at h
theorem u44 : ∀ j : Nat, ([44, 32] : Str)[j]? = some 44 → j = 0
  | 0, _ => rfl
  | 1, h => by simp at h
  | (n + 2), h => by simp at h
theorem u10 : ∀ j : Nat, ([10] : Str)[j]? = some 10 → j = 0
  | 0, _ => rfl
  | (n + 1), h => by simp at h
theorem group_print {g : List Sp.Ch} (h1 : g ≠ []) (h2 : g.length ≤ 3) (h3 : ∀ c ∈ g, WfC c) : Sp.each (groupT g) [32, 124, 32] 3 Sp.choose = some g :=
  each_print (c := 124) (i := 1) rfl u124 h1 h2 fun c hc => ⟨choose_print (h3 c hc), printC_no (h3 c hc) (by decide) (by decide) (by decide) (by decide)⟩
theorem group_no {g : List Sp.Ch} (h3 : ∀ c ∈ g, WfC c) {x : UInt8} (hn : Sp.nameS.contains x = false) (hv : Sp.verS.contains x = false) (hx : x ≠ 60 ∧ x ≠ 61 ∧ x ≠ 62) (hy : x ≠ 32 ∧ x ≠ 40 ∧ x ≠ 41) (h124 : x ≠ 124) : x ∉ groupT g := by
  intro hm
  rcases mem_join hm with hm | ⟨s, hs, hm⟩
  · simp at hm; exact hm.elim hy.1 fun e => e.elim h124 hy.1
  · obtain ⟨c, hc, rfl⟩ := List.mem_map.1 hs
    exact printC_no (h3 c hc) hn hv hx hy hm
theorem needs_print {ns : List (List Sp.Ch)} (h1 : ns ≠ []) (h2 : ns.length ≤ 3) (h3 : ∀ g ∈ ns, g ≠ [] ∧ g.length ≤ 3 ∧ ∀ c ∈ g, WfC c) :
    Sp.each (Lib.join (ns.map groupT) [44, 32]) [44, 32] 3 (fun g => Sp.each g [32, 124, 32] 3 Sp.choose) = some ns :=
  each_print (c := 44) (i := 0) rfl u44 h1 h2 fun g hg => ⟨group_print (h3 g hg).1 (h3 g hg).2.1 (h3 g hg).2.2, group_no (h3 g hg).2.2 (by decide) (by decide) (by decide) (by decide) (by decide)⟩
theorem bars_print {bs : List Sp.Ch} (h1 : bs ≠ []) (h2 : bs.length ≤ 3) (h3 : ∀ c ∈ bs, WfC c) : Sp.each (Lib.join (bs.map Sp.printC) [44, 32]) [44, 32] 3 Sp.choose = some bs :=
  each_print (c := 44) (i := 0) rfl u44 h1 h2 fun c hc => ⟨choose_print (h3 c hc), printC_no (h3 c hc) (by decide) (by decide) (by decide) (by decide)⟩
theorem needs_inv {s : Str} {ns : List (List Sp.Ch)} (h : Sp.each s [44, 32] 3 (fun g => Sp.each g [32, 124, 32] 3 Sp.choose) = some ns) :
    Lib.join (ns.map groupT) [44, 32] = s ∧ ns ≠ [] ∧ ns.length ≤ 3 ∧ ∀ g ∈ ns, g ≠ [] ∧ g.length ≤ 3 ∧ ∀ c ∈ g, WfC c :=
  each_inv (Q := fun g => g ≠ [] ∧ g.length ≤ 3 ∧ ∀ c ∈ g, WfC c) (pr := groupT) (fun _ _ => group_inv) (by simp) h
theorem bars_inv {s : Str} {bs : List Sp.Ch} (h : Sp.each s [44, 32] 3 Sp.choose = some bs) : Lib.join (bs.map Sp.printC) [44, 32] = s ∧ bs ≠ [] ∧ bs.length ≤ 3 ∧ ∀ c ∈ bs, WfC c :=
  each_inv (Q := WfC) (pr := Sp.printC) (fun _ _ => choose_inv) (by simp) h
theorem isEmpty_nil {α : Type} {l : List α} (h : l.isEmpty = true) : l = [] := List.isEmpty_iff.1 h
theorem isEmpty_ne {α : Type} {l : List α} (h : l ≠ []) : l.isEmpty = false := by cases l; exact absurd rfl h; rfl
theorem first_inv {p' : Sp.Pk} {s : Str} (h : Sp.line Sp.nothing true s = some p') : WfP p' ∧ linesOf p' = [s] := by
  rcases hcut : Lib.cut s [32] with ⟨a, r, ok⟩
  unfold Sp.line at h
  rw [hcut] at h
  simp only at h
  split at h
  · cases h
  · rename_i h0
    have h0' : ok = true ∧ (a == Sp.packageW) = true := by
      simp only [Bool.not_eq_true, Bool.not_eq_false', Bool.and_eq_true] at h0
      exact ⟨h0.1, by have := h0.2; cases hh : (a == Sp.packageW) <;> rw [hh] at this <;> simp_all⟩
    obtain ⟨rfl, ha⟩ := h0'
    rw [if_pos ha] at h
    rcases hcut2 : Lib.cut r [32] with ⟨n, v, ok2⟩
    rw [hcut2] at h
    simp only at h
    split at h
    · rename_i hm
      simp only [Bool.and_eq_true] at hm
      obtain ⟨⟨rfl, h2⟩, h3⟩ := hm
      cases h
      refine ⟨⟨h2, h3, by simp [Sp.nothing], fun g hg => by simp [Sp.nothing] at hg, by simp [Sp.nothing], fun c hc => by simp [Sp.nothing] at hc, by simp [Sp.nothing], fun f hf => by simp [Sp.nothing] at hf, rfl⟩, ?_⟩
      have ha' : a = Sp.packageW := by simpa using ha
      subst ha'
      rw [cut_hit (by simp) hcut, cut_hit (by simp) hcut2]
      simp [linesOf, pkL, Sp.nothing, needsLs, barsLs]
    · cases h
theorem later_inv {p p' : Sp.Pk} {s : Str} (hp : WfP p) (hs : (10 : UInt8) ∉ s) (h : Sp.line p false s = some p') : WfP p' ∧ linesOf p' = linesOf p ++ [s] := by
  rcases hcut : Lib.cut s [32] with ⟨a, r, ok⟩
  unfold Sp.line at h
  rw [hcut] at h
  simp only at h
  split at h
  · cases h
  · rename_i h0
    have h0' : ok = true ∧ (a == Sp.packageW) = false := by
      simp only [Bool.not_eq_true, Bool.not_eq_false', Bool.and_eq_true] at h0
      exact ⟨h0.1, by have := h0.2; cases hh : (a == Sp.packageW) <;> rw [hh] at this <;> simp_all⟩
    obtain ⟨rfl, ha⟩ := h0'
    rw [ha] at h
    have es := cut_hit (by simp) hcut
    rw [if_neg (by simp)] at h
    split at h
    · rename_i hw
      have ha' : a = Sp.needsW := by simpa using hw
      split at h
      · rename_i he
        simp only [Bool.and_eq_true] at he
        obtain ⟨⟨e1, e2⟩, e3⟩ := he
        obtain ⟨ns, hns, rfl⟩ := Option.map_eq_some_iff.1 h
        obtain ⟨i1, i2, i3, i4⟩ := needs_inv hns
        refine ⟨⟨hp.name, hp.ver, i3, i4, hp.bars, hp.barred, hp.files, hp.paths, hp.clash⟩, ?_⟩
        unfold linesOf
        simp only [isEmpty_nil e1, isEmpty_nil e2, isEmpty_nil e3]
        have : needsLs ns = [s] := by
          unfold needsLs needsL
          rw [isEmpty_ne i2, i1, es, ha']; simp
        rw [this]; simp [needsLs, barsLs, pkL]
      · cases h
    · split at h
      · rename_i hw
        have ha' : a = Sp.barsW := by simpa using hw
        split at h
        · rename_i he
          simp only [Bool.and_eq_true] at he
          obtain ⟨e2, e3⟩ := he
          obtain ⟨ns, hns, rfl⟩ := Option.map_eq_some_iff.1 h
          obtain ⟨i1, i2, i3, i4⟩ := bars_inv hns
          refine ⟨⟨hp.name, hp.ver, hp.needs, hp.groups, i3, i4, hp.files, hp.paths, hp.clash⟩, ?_⟩
          unfold linesOf
          simp only [isEmpty_nil e2, isEmpty_nil e3]
          have : barsLs ns = [s] := by
            unfold barsLs barsL
            rw [isEmpty_ne i2, i1, es, ha']; simp
          rw [this]; simp [barsLs, pkL]
        · cases h
      · split at h
        · rename_i hw
          have ha' : a = Sp.fileW := by simpa using hw
          split at h
          · rename_i he
            rcases hcut2 : Lib.cut r [61] with ⟨f, c, ok2⟩
            rw [hcut2] at he h
            simp only [Bool.and_eq_true, decide_eq_true_eq, Bool.not_eq_true'] at he
            obtain ⟨⟨⟨⟨rfl, e2⟩, e3⟩, e4⟩, e5⟩ := he
            cases h
            have er := cut_hit (by simp) hcut2
            refine ⟨⟨hp.name, hp.ver, hp.needs, hp.groups, hp.bars, hp.barred, by simp; omega, fun g hg => ?_, by rw [List.map_append]; exact e5⟩, ?_⟩
            · rcases List.mem_append.1 hg with hg | hg
              · exact hp.paths g hg
              · rw [List.mem_singleton] at hg; subst hg
                refine ⟨e4, e2, fun hm => hs ?_⟩
                rw [es, er]; simp; exact .inr (.inr hm)
            · unfold linesOf
              simp only [List.map_append, List.map_cons, List.map_nil]
              have : fileL ⟨f, c⟩ = s := by rw [es, er, ha']; simp [fileL]
              rw [this]; simp [pkL]
          · cases h
        · cases h
theorem lines_inv : ∀ (ls : List Str) (p p' : Sp.Pk) (i : Nat), WfP p → (∀ s ∈ ls, (10 : UInt8) ∉ s) → Sp.lines p (i + 1) ls = .inr p' → WfP p' ∧ linesOf p' = linesOf p ++ ls
  | [], p, p', i, hp, _, h => by cases h; exact ⟨hp, by simp⟩
  | s :: r, p, p', i, hp, hs, h => by
    unfold Sp.lines at h
    have e0 : (i + 1 == 0) = false := by simp
    rw [e0] at h
    split at h
    · rename_i q hq
      obtain ⟨h1, h2⟩ := later_inv hp (hs s (by simp)) hq
      obtain ⟨h3, h4⟩ := lines_inv r q p' (i + 1) h1 (fun x hx => hs x (List.mem_cons_of_mem _ hx)) h
      exact ⟨h3, by rw [h4, h2]; simp⟩
    · cases h
theorem all_inv {ls : List Str} {p : Sp.Pk} (hne : ls ≠ []) (hs : ∀ s ∈ ls, (10 : UInt8) ∉ s) (h : Sp.lines Sp.nothing 0 ls = .inr p) : WfP p ∧ linesOf p = ls := by
  cases ls with
  | nil => exact absurd rfl hne
  | cons s r =>
    unfold Sp.lines at h
    have e0 : ((0 : Nat) == 0) = true := rfl
    rw [e0] at h
    split at h
    · rename_i q hq
      obtain ⟨h1, h2⟩ := first_inv hq
      obtain ⟨h3, h4⟩ := lines_inv r q p 0 h1 (fun x hx => hs x (List.mem_cons_of_mem _ hx)) h
      exact ⟨h3, by rw [h4, h2]; rfl⟩
    · cases h
theorem ins_perm (f : Sp.Fl) : ∀ l : List Sp.Fl, (Sp.insertF f l).Perm (f :: l)
  | [] => List.Perm.refl _
  | g :: r => by
    unfold Sp.insertF
    split
    · exact List.Perm.refl _
    · exact ((ins_perm f r).cons g).trans (List.Perm.swap f g r)
theorem sort_perm (l : List Sp.Fl) : ∀ acc, (l.foldl (fun a f => Sp.insertF f a) acc).Perm (acc ++ l) := by
  induction l with
  | nil => intro acc; simp
  | cons x r ih =>
    intro acc
    rw [List.foldl_cons]
    exact (ih _).trans (((ins_perm x acc).append_right r).trans (by rw [List.cons_append]; exact List.perm_middle.symm))
theorem sortF_perm (l : List Sp.Fl) : (Sp.sortF l).Perm l := by unfold Sp.sortF; simpa using sort_perm l []
theorem sort_id : ∀ (l acc : List Sp.Fl), P3.Ord (acc ++ l) → l.foldl (fun a f => Sp.insertF f a) acc = acc ++ l
  | [], acc, _ => by simp
  | x :: r, acc, h => by
    have e : acc ++ x :: r = (acc ++ [x]) ++ r := by simp
    have e2 : Sp.insertF x acc = acc ++ [x] := by
      obtain ⟨_, _, h3⟩ := List.pairwise_append.1 h
      have := P3.ins_mid x acc [] (fun g hg => by
        rw [← Bool.not_eq_true, P3.lt_iff]
        exact List.not_lt.2 (h3 g hg x (by simp))) (fun g r h => by cases h)
      simpa using this
    rw [List.foldl_cons, e2, e]
    exact sort_id r (acc ++ [x]) (by rw [← e]; exact h)
theorem sortF_id (l : List Sp.Fl) (h : P3.Ord l) : Sp.sortF l = l := sort_id l [] h
theorem clash_perm {l r : List Str} (h : l.Perm r) : Sp.clash1 l = Sp.clash1 r := by
  have key : ∀ {l r : List Str}, l.Perm r → Sp.clash1 l = true → Sp.clash1 r = true := by
    intro l r h hc
    rw [clash1_iff] at hc ⊢
    obtain ⟨x, hx, h1⟩ := hc
    refine ⟨x, h.mem_iff.1 hx, ?_⟩
    rcases h1 with h1 | h1
    · exact .inl (by rw [← h.count_eq]; exact h1)
    · right
      obtain ⟨y, hy, hf⟩ := List.mem_flatMap.1 h1
      exact List.mem_flatMap.2 ⟨y, h.mem_iff.1 hy, hf⟩
  rw [Bool.eq_iff_iff]
  exact ⟨key h, key h.symm⟩
theorem WfP.sorted {p : Sp.Pk} (h : WfP p) : WfP { p with files := Sp.sortF p.files } :=
  ⟨h.name, h.ver, h.needs, h.groups, h.bars, h.barred, by rw [P3.sortF_len]; exact h.files, fun f hf => h.paths f ((P3.sortF_mem _ _).1 hf), by
    rw [clash_perm ((sortF_perm p.files).map _)]; exact h.clash⟩
theorem line_pk {p : Sp.Pk} (hn : Sp.isName p.name = true) (hv : Sp.isVer p.ver = true) (q : Sp.Pk) : Sp.line q true (pkL p) = some { q with name := p.name, ver := p.ver } := by
  unfold Sp.line pkL
  rw [cut_mk 32 (by decide)]
  simp only
  rw [cut_mk 32 (V1.name_no hn (by decide))]
  simp [hn, hv]
theorem line_needs {q : Sp.Pk} (h1 : q.needs = []) (h2 : q.bars = []) (h3 : q.files = []) {ns : List (List Sp.Ch)} (i1 : ns ≠ []) (i2 : ns.length ≤ 3) (i3 : ∀ g ∈ ns, g ≠ [] ∧ g.length ≤ 3 ∧ ∀ c ∈ g, WfC c) :
    Sp.line q false (needsL ns) = some { q with needs := ns } := by
  unfold Sp.line needsL
  rw [cut_mk 32 (by decide)]
  simp only [needs_print i1 i2 i3, h1, h2, h3]
  rfl
theorem line_bars {q : Sp.Pk} (h2 : q.bars = []) (h3 : q.files = []) {bs : List Sp.Ch} (i1 : bs ≠ []) (i2 : bs.length ≤ 3) (i3 : ∀ c ∈ bs, WfC c) :
    Sp.line q false (barsL bs) = some { q with bars := bs } := by
  unfold Sp.line barsL
  rw [cut_mk 32 (by decide)]
  simp only [bars_print i1 i2 i3, h2, h3]
  rfl
theorem line_file {q : Sp.Pk} {f : Sp.Fl} (hf : WfF f) (h4 : q.files.length < 4) (hc : Sp.clash1 (q.files.map (·.path) ++ [f.path]) = false) : Sp.line q false (fileL f) = some { q with files := q.files ++ [f] } := by
  unfold Sp.line fileL
  rw [cut_mk 32 (by decide)]
  simp only
  rw [cut_mk 61 (V1.path_no hf.1 (by decide) (by decide))]
  simp only [hf.1, hc, decide_eq_true hf.2.1, decide_eq_true h4, Bool.not_false, Bool.and_self, if_true]
  rfl
theorem clash_prefix (a b : List Str) (h : Sp.clash1 (a ++ b) = false) : Sp.clash1 a = false := by
  induction a with
  | nil => rfl
  | cons x r ih =>
    rw [List.cons_append] at h
    unfold Sp.clash1 at h ⊢
    rw [Bool.or_eq_false_iff] at h ⊢
    rw [List.any_append, Bool.or_eq_false_iff] at h
    exact ⟨h.1.1, ih h.2⟩
theorem lines_files : ∀ (fs : List Sp.Fl) (q : Sp.Pk) (i : Nat), (∀ f ∈ fs, WfF f) → q.files.length + fs.length ≤ 4 → Sp.clash1 ((q.files ++ fs).map (·.path)) = false → Sp.lines q (i + 1) (fs.map fileL) = .inr { q with files := q.files ++ fs }
  | [], q, i, _, _, _ => by simp [Sp.lines]
  | f :: r, q, i, h1, h2, h3 => by
    rw [List.map_cons]
    unfold Sp.lines
    have e0 : (i + 1 == 0) = false := by simp
    simp only [List.length_cons] at h2
    have e1 : (q.files ++ f :: r).map (·.path) = (q.files.map (·.path) ++ [f.path]) ++ r.map (·.path) := by simp
    rw [e0, line_file (h1 f (by simp)) (by omega) (clash_prefix _ _ (e1 ▸ h3))]
    simp only
    rw [lines_files r _ (i + 1) (fun x hx => h1 x (List.mem_cons_of_mem _ hx)) (by simp; omega) (by simpa using h3)]
    simp
theorem lines_bars {p q : Sp.Pk} (hp : WfP p) (hb : q.bars = []) (hf : q.files = []) (i : Nat) : Sp.lines q (i + 1) (barsLs p.bars ++ p.files.map fileL) = .inr { q with bars := p.bars, files := p.files } := by
  have e0 : (i + 1 == 0) = false := by simp
  unfold barsLs
  split
  · rename_i h
    rw [List.nil_append, lines_files p.files q i hp.paths (by rw [hf]; simpa using hp.files) (by rw [hf]; exact hp.clash), hf, isEmpty_nil h, ← hb]
    rfl
  · rename_i h
    rw [List.singleton_append]
    unfold Sp.lines
    rw [e0, line_bars hb hf (by rintro e; rw [e] at h; exact h rfl) hp.bars hp.barred]
    simp only
    rw [lines_files p.files _ (i + 1) hp.paths (by simp [hf]; exact hp.files) (by simpa [hf] using hp.clash)]
    simp [hf]
theorem lines_print {p : Sp.Pk} (hp : WfP p) : Sp.lines Sp.nothing 0 (linesOf p) = .inr p := by
  have e0 : ((0 : Nat) == 0) = true := rfl
  unfold linesOf Sp.lines
  rw [e0, line_pk hp.name hp.ver]
  simp only
  unfold needsLs
  split
  · rename_i h
    rw [List.nil_append, lines_bars hp rfl rfl]
    obtain ⟨pn, pb, pna, pv, pf⟩ := p
    simp only at h ⊢
    rw [isEmpty_nil h]; rfl
  · rename_i h
    rw [List.singleton_append]
    unfold Sp.lines
    have e1 : (0 + 1 == 0) = false := rfl
    rw [e1, line_needs rfl rfl rfl (by rintro e; rw [e] at h; exact h rfl) hp.needs hp.groups]
    simp only
    rw [lines_bars hp rfl rfl]
end V2
end Go.Proofs.YtfphcecjhdkcoaaGreatDoor
/-
Plain laws: the one form of a package is its own, no longer than the text; texts laid behind each other with an empty line between are taken apart again.
-/
namespace Go.Proofs.YtfphcecjhdkcoaaGreatDoor
namespace V3
open Sp (Str)
open V1 V2
/-- What was read: of the form, its files by path. -/
structure Good (p : Sp.Pk) : Prop where
  wf : WfP p
  ord : P3.Ord p.files
  len : (Sp.print p).length ≤ 300
theorem no10_lines {p : Sp.Pk} (h : WfP p) : ∀ s ∈ linesOf p, (10 : UInt8) ∉ s ∧ s ≠ [] := by
  intro s hs
  unfold linesOf at hs
  rcases List.mem_cons.1 hs with rfl | hs
  · unfold pkL
    have a1 := V1.name_no h.name (c := 10) (by decide)
    have a2 := V1.ver_no h.ver (c := 10) (by decide)
    exact ⟨by simp [Sp.packageW, a1, a2], by simp [Sp.packageW]⟩
  · rcases List.mem_append.1 hs with hs | hs
    · unfold needsLs at hs
      split at hs
      · cases hs
      · rw [List.mem_singleton] at hs; subst hs
        unfold needsL
        refine ⟨fun hm => ?_, by simp [Sp.needsW]⟩
        have : (10 : UInt8) ∈ Lib.join (p.needs.map groupT) [44, 32] := by simpa [Sp.needsW] using hm
        rcases mem_join this with hm | ⟨x, hx, hm⟩
        · simp at hm
        · obtain ⟨g, hg, rfl⟩ := List.mem_map.1 hx
          exact group_no (h.groups g hg).2.2 (by decide) (by decide) (by decide) (by decide) (by decide) hm
    · rcases List.mem_append.1 hs with hs | hs
      · unfold barsLs at hs
        split at hs
        · cases hs
        · rw [List.mem_singleton] at hs; subst hs
          unfold barsL
          refine ⟨fun hm => ?_, by simp [Sp.barsW]⟩
          have : (10 : UInt8) ∈ Lib.join (p.bars.map Sp.printC) [44, 32] := by simpa [Sp.barsW] using hm
          rcases mem_join this with hm | ⟨x, hx, hm⟩
          · simp at hm
          · obtain ⟨c, hc, rfl⟩ := List.mem_map.1 hx
            exact printC_no (h.barred c hc) (by decide) (by decide) (by decide) (by decide) hm
      · obtain ⟨f, hf, rfl⟩ := List.mem_map.1 hs
        unfold fileL
        have a1 := V1.path_no (h.paths f hf).1 (c := 10) (by decide) (by decide)
        have a2 := (h.paths f hf).2.2
        exact ⟨by simp [Sp.fileW, a1, a2], by simp [Sp.fileW]⟩
theorem linesOf_ne (p : Sp.Pk) : linesOf p ≠ [] := by simp [linesOf]
theorem linesOf_perm {p : Sp.Pk} {fs : List Sp.Fl} (h : fs.Perm p.files) : (linesOf { p with files := fs }).Perm (linesOf p) := by
  unfold linesOf
  exact (((h.map fileL).append_left _).append_left _).cons _
theorem join_len (t : Str) : ∀ {a b : List Str}, a.Perm b → (Lib.join a t).length = (Lib.join b t).length := by
  intro a b h
  have hl := h.length_eq
  have hs : Lib.lens a = Lib.lens b := by unfold Lib.lens; exact (h.map _).sum_nat
  cases a with
  | nil => rw [List.nil_perm.1 h]
  | cons x r =>
    cases b with
    | nil => simp at hl
    | cons y q =>
      rw [Lib.join_length, Lib.join_length, hs]
      simp at hl; rw [hl]
theorem join_last : ∀ {ls : List Str}, ls ≠ [] → (∀ s ∈ ls, (10 : UInt8) ∉ s ∧ s ≠ []) → Lib.hasSuffix (Lib.join ls [10]) [10] = false
  | [], h, _ => absurd rfl h
  | [x], _, h => by
    rw [Lib.join_one, Bool.eq_false_iff]
    intro hs
    exact (h x (by simp)).1 ((List.isSuffixOf_iff_suffix.1 hs).subset (by simp))
  | x :: y :: r, _, h => by
    have ih := join_last (ls := y :: r) (by simp) fun s hs => h s (List.mem_cons_of_mem _ hs)
    rw [join_cons2, Bool.eq_false_iff]
    intro hs
    have hne : Lib.join (y :: r) [10] ≠ [] := by
      rw [Lib.join_cons]
      have := (h y (by simp)).2
      cases y with
      | nil => exact absurd rfl this
      | cons a b => simp
    have h1 := List.isSuffixOf_iff_suffix.1 hs
    have : [10] <:+ Lib.join (y :: r) [10] := List.suffix_of_suffix_length_le h1 (List.suffix_append _ _) (by
      have := List.length_pos_iff.2 hne; simp only [List.length_singleton]; omega)
    rw [show Lib.hasSuffix (Lib.join (y :: r) [10]) [10] = true from List.isSuffixOf_iff_suffix.2 this] at ih
    cases ih
theorem trim_len (t : Str) : (Lib.trimSuffix t [10]).length ≤ t.length := Lib.trimSuffix_le t [10]
theorem parse_good {t : Str} {p : Sp.Pk} (h : Sp.parse t = .inr p) : Good p ∧ (Sp.print p).length ≤ t.length := by
  unfold Sp.parse at h
  split at h
  · cases h
  · rename_i hl
    split at h
    · cases h
    · rename_i q hq
      cases h
      obtain ⟨h1, h2⟩ := all_inv (Sp.split_ne _ _ (by simp)) (fun s hs => split_no 10 _ s hs) hq
      have e1 : Sp.print q = Lib.trimSuffix t [10] := by rw [print_join, h2, join_split _ _ (by simp)]
      have e2 : (Sp.print { q with files := Sp.sortF q.files }).length = (Sp.print q).length := by
        rw [print_join, print_join]
        exact join_len _ (linesOf_perm (sortF_perm q.files))
      have e3 := trim_len t
      rw [e1] at e2
      exact ⟨⟨h1.sorted, P3.sortF_ord _, by omega⟩, by omega⟩
/-- The one form is its own. -/
theorem parse_print {p : Sp.Pk} (h : Good p) : Sp.parse (Sp.print p) = .inr p := by
  have hn := no10_lines h.wf
  have e1 : Lib.trimSuffix (Sp.print p) [10] = Sp.print p := by
    unfold Lib.trimSuffix
    rw [print_join, join_last (linesOf_ne p) hn]; simp
  unfold Sp.parse
  rw [if_neg (by have := h.len; omega), e1, print_join, split_join 10 [10] 0 rfl u10 (linesOf p) (linesOf_ne p) fun s hs => (hn s hs).1, lines_print h.wf]
  simp only
  rw [sortF_id _ h.ord]
theorem print_head (p : Sp.Pk) : ∃ r, Sp.print p = [112, 97, 99, 107, 97, 103, 101, 32] ++ (p.name ++ 32 :: r) ∧ p.ver <+: r := by
  unfold Sp.print
  simp only [List.append_assoc, List.cons_append, List.nil_append]
  exact ⟨_, rfl, List.prefix_append _ _⟩
theorem print_ne (p : Sp.Pk) : Sp.print p ≠ [] := by
  obtain ⟨r, h, _⟩ := print_head p
  rw [h]; simp
/-- Two line ends in a row. -/
def dbl : Str → Bool
  | [] => false
  | [_] => false
  | a :: b :: r => (a == 10 && b == 10) || dbl (b :: r)
theorem dbl_no : ∀ {s : Str}, (10 : UInt8) ∉ s → dbl s = false
  | [], _ => rfl
  | [_], _ => rfl
  | a :: b :: r, h => by
    unfold dbl
    have h1 : (a == 10) = false := by simp; rintro rfl; exact h (by simp)
    rw [h1, dbl_no (s := b :: r) fun hm => h (List.mem_cons_of_mem _ hm)]; rfl
theorem dbl_join : ∀ {x : Str} {y : Str}, x ≠ [] → (10 : UInt8) ∉ x → y.head? ≠ some 10 → dbl (x ++ 10 :: y) = dbl y
  | [], _, h, _, _ => absurd rfl h
  | [a], y, _, h, hy => by
    have h1 : (a == 10) = false := by simp; rintro rfl; exact h (by simp)
    cases y with
    | nil => simp [dbl, h1]
    | cons b r =>
      have h2 : (b == 10) = false := by simp; rintro rfl; exact hy rfl
      simp [dbl, h1, h2]
  | a :: b :: x, y, _, h, hy => by
    have h1 : (a == 10) = false := by simp; rintro rfl; exact h (by simp)
    have ih := dbl_join (x := b :: x) (y := y) (by simp) (fun hm => h (List.mem_cons_of_mem _ hm)) hy
    simp only [List.cons_append] at ih ⊢
    rw [dbl, h1, ih]; rfl
theorem dbl_lines : ∀ {ls : List Str}, (∀ s ∈ ls, (10 : UInt8) ∉ s ∧ s ≠ []) → dbl (Lib.join ls [10]) = false ∧ (Lib.join ls [10]).head? ≠ some 10
  | [], _ => by simp [Lib.join_nil, dbl]
  | [x], h => by
    have := h x (by simp)
    rw [Lib.join_one]
    exact ⟨dbl_no this.1, fun e => this.1 (List.mem_of_mem_head? e)⟩
  | x :: y :: r, h => by
    obtain ⟨h1, h2⟩ := dbl_lines (ls := y :: r) fun s hs => h s (List.mem_cons_of_mem _ hs)
    have hx := h x (by simp)
    rw [join_cons2, List.append_assoc, List.singleton_append, dbl_join hx.2 hx.1 h2]
    refine ⟨h1, ?_⟩
    cases x with
    | nil => exact absurd rfl hx.2
    | cons a b => simp; rintro rfl; exact hx.1 (by simp)
theorem dbl_occ {s : Str} {j : Nat} (h : Lib.occAt s [10, 10] j = true) : dbl s = true := by
  induction j generalizing s with
  | zero =>
    unfold Lib.occAt at h
    obtain ⟨r, hr⟩ := List.isPrefixOf_iff_prefix.1 h
    rw [List.drop_zero] at hr
    rw [← hr]; simp [dbl]
  | succ j ih =>
    cases s with
    | nil => unfold Lib.occAt at h; simp at h
    | cons a r =>
      have := ih (s := r) (by unfold Lib.occAt at h ⊢; simpa using h)
      cases r with
      | nil => simp [dbl] at this
      | cons b q => unfold dbl; rw [this]; simp
/-- Texts of the form: no empty line, and no line end at their ends. -/
structure Tame (s : Str) : Prop where
  ne : s ≠ []
  head : s.head? ≠ some 10
  last : Lib.hasSuffix s [10] = false
  dbl : V3.dbl s = false
theorem tame_print {p : Sp.Pk} (h : WfP p) : Tame (Sp.print p) := by
  have hn := no10_lines h
  rw [print_join]
  obtain ⟨h1, h2⟩ := dbl_lines hn
  exact ⟨by rw [← print_join]; exact print_ne p, h2, join_last (linesOf_ne p) hn, h1⟩
theorem tame_occ {x y : Str} (hx : Tame x) {j : Nat} (hj : j < x.length) : Lib.occAt (x ++ y) [10, 10] j = false := by
  rw [Bool.eq_false_iff]; intro ho
  by_cases h1 : j + 1 < x.length
  · have : Lib.occAt x [10, 10] j = true := by
      rw [Sp.occ_take _ _ _ (by simp; omega)]
      rw [Sp.occ_take _ _ _ (by simp; omega)] at ho
      rwa [List.drop_append_of_le_length (by omega), List.take_append_of_le_length (by rw [List.length_drop]; simp; omega)] at ho
    have := dbl_occ this
    rw [hx.dbl] at this; cases this
  · have hl : j = x.length - 1 := by omega
    have hg := occ_get (i := 0) (c := 10) ho rfl
    rw [List.getElem?_append_left (by omega)] at hg
    have hlast := hx.last
    have : Lib.hasSuffix x [10] = true := by
      unfold Lib.hasSuffix
      rw [List.isSuffixOf_iff_suffix, List.suffix_iff_eq_drop]
      have hd : x.drop (x.length - 1) = [10] := by
        rw [← hl]
        have hjx : j < x.length := hj
        rw [List.drop_eq_getElem_cons hjx]
        have : x[j] = 10 := by simpa [List.getElem?_eq_getElem hjx] using hg
        rw [this, List.drop_eq_nil_of_le (by omega)]
      simpa using hd.symm
    rw [this] at hlast; cases hlast
theorem split_tame : ∀ xs : List Str, xs ≠ [] → (∀ x ∈ xs, Tame x) → Lib.split (Lib.join xs [10, 10]) [10, 10] = xs
  | [], h, _ => absurd rfl h
  | [x], _, h => by
    rw [Lib.join_one]
    have hx := h x (by simp)
    refine Sp.split_miss x _ (by simp) (Lib.index_none fun j _ => ?_)
    rw [Bool.eq_false_iff]; intro ho
    have := dbl_occ ho
    rw [hx.dbl] at this; cases this
  | x :: y :: r, _, h => by
    rw [join_cons2, List.append_assoc]
    rw [Sp.split_at _ [10, 10] (by simp) x.length (by simp) ?_ ?_]
    · have e1 : (x ++ ([10, 10] ++ Lib.join (y :: r) [10, 10])).take x.length = x := by simp
      have e2 : (x ++ ([10, 10] ++ Lib.join (y :: r) [10, 10])).drop (x.length + ([10, 10] : Str).length) = Lib.join (y :: r) [10, 10] := by
        rw [← List.append_assoc, List.drop_append_of_le_length (by simp), List.drop_eq_nil_of_le (by simp)]; rfl
      rw [e1, e2, split_tame (y :: r) (by simp) fun z hz => h z (List.mem_cons_of_mem _ hz)]
    · unfold Lib.occAt
      rw [List.drop_left]
      exact List.isPrefixOf_iff_prefix.2 (List.prefix_append _ _)
    · intro j hj
      exact tame_occ (h x (by simp)) hj
end V3
end Go.Proofs.YtfphcecjhdkcoaaGreatDoor
namespace Go.Proofs.YtfphcecjhdkcoaaGreatDoor
namespace Sp
/-- How a byte that is no digit is ordered. -/
def weight (c : UInt8) : Int :=
  if c = 126 then -1 else if (97 ≤ c.toNat ∧ c.toNat ≤ 122) ∨ (65 ≤ c.toNat ∧ c.toNat ≤ 90) then c.toNat else c.toNat + 256
def sgn (n : Int) : Int := if n < 0 then -1 else if 0 < n then 1 else 0
/-- The first difference of two rows of weights, the shorter filled up with noughts. -/
def diffW (wt : UInt8 → Int) : Str → Str → Int
  | [], [] => 0
  | a :: x, [] => if sgn (wt a) = 0 then diffW wt x [] else sgn (wt a)
  | [], b :: y => if sgn (0 - wt b) = 0 then diffW wt [] y else sgn (0 - wt b)
  | a :: x, b :: y => if sgn (wt a - wt b) = 0 then diffW wt x y else sgn (wt a - wt b)
def cmpS (a b : Str) : Int := if strLt a b then -1 else if strLt b a then 1 else 0
def bare (s : Str) : Str := s.dropWhile (· == 48)
/-- Two rows of digits as numbers. -/
def diffD (a b : Str) : Int := if (bare a).length = (bare b).length then cmpS (bare a) (bare b) else sgn ((bare a).length - (bare b).length : Int)
def notDig (c : UInt8) : Bool := !isDig c
def cmpN (wt : UInt8 → Int) : Nat → Str → Str → Int
  | 0, _, _ => 0
  | n + 1, a, b =>
    if a.isEmpty && b.isEmpty then 0
    else if diffW wt (a.takeWhile notDig) (b.takeWhile notDig) = 0 then
      if diffD ((a.dropWhile notDig).takeWhile isDig) ((b.dropWhile notDig).takeWhile isDig) = 0 then cmpN wt n ((a.dropWhile notDig).dropWhile isDig) ((b.dropWhile notDig).dropWhile isDig)
      else diffD ((a.dropWhile notDig).takeWhile isDig) ((b.dropWhile notDig).takeWhile isDig)
    else diffW wt (a.takeWhile notDig) (b.takeWhile notDig)
/-- Which of two versions is the earlier. -/
def cmp (a b : Str) : Int := cmpN weight (a.length + b.length) a b
end Sp
namespace V4
open Sp
/-- The document's weight. -/
def letter (c : UInt8) : Int :=
  if c = 126 then -1 else if ((smallS ++ greatS).contains c) && decide (c.toNat < 128) then c.toNat else c.toNat + 1000
theorem sgn_pos {n : Int} (h : 0 < n) : sgn n = 1 := by unfold sgn; rw [if_neg (by omega), if_pos h]
theorem sgn_neg {n : Int} (h : n < 0) : sgn n = -1 := by unfold sgn; rw [if_pos h]
theorem sgn_zero : sgn 0 = 0 := rfl
theorem sgn_range (n : Int) : sgn n = -1 ∨ sgn n = 0 ∨ sgn n = 1 := by
  unfold sgn; split
  · exact .inl rfl
  · split
    · exact .inr (.inr rfl)
    · exact .inr (.inl rfl)
/-- Of a byte: its class. -/
theorem all256 {P : UInt8 → Prop} (h : ∀ n : Fin 256, P (UInt8.ofNat n)) (c : UInt8) : P c := by
  have := h ⟨c.toNat, c.toNat_lt⟩
  simpa using this
theorem letter_cls : ∀ c : UInt8, (c = 126 ∧ weight c = -1 ∧ letter c = -1) ∨ (65 ≤ c.toNat ∧ c.toNat ≤ 122 ∧ weight c = c.toNat ∧ letter c = c.toNat) ∨ (weight c = c.toNat + 256 ∧ letter c = c.toNat + 1000) :=
  all256 (by decide +kernel)
theorem sgn_letter2 (a b : UInt8) : sgn (letter a - letter b) = sgn (weight a - weight b) := by
  have ha := a.toNat_lt
  have hb := b.toNat_lt
  rcases letter_cls a with ⟨_, h1, h2⟩ | ⟨h3, h4, h1, h2⟩ | ⟨h1, h2⟩ <;> rcases letter_cls b with ⟨_, k1, k2⟩ | ⟨k3, k4, k1, k2⟩ | ⟨k1, k2⟩ <;> rw [h1, h2, k1, k2] <;> unfold sgn <;> (repeat' split) <;> first | rfl | omega
theorem sgn_letter (a : UInt8) : sgn (letter a) = sgn (weight a) := by
  have ha := a.toNat_lt
  rcases letter_cls a with ⟨_, h1, h2⟩ | ⟨h3, h4, h1, h2⟩ | ⟨h1, h2⟩ <;> rw [h1, h2] <;> unfold sgn <;> (repeat' split) <;> first | rfl | omega
theorem sgn_letter0 (a : UInt8) : sgn (0 - letter a) = sgn (0 - weight a) := by
  have ha := a.toNat_lt
  rcases letter_cls a with ⟨_, h1, h2⟩ | ⟨h3, h4, h1, h2⟩ | ⟨h1, h2⟩ <;> rw [h1, h2] <;> unfold sgn <;> (repeat' split) <;> first | rfl | omega
theorem diff_letter : ∀ x y : Str, diffW letter x y = diffW weight x y
  | [], [] => by unfold diffW; rfl
  | a :: x, [] => by unfold diffW; rw [sgn_letter, diff_letter x []]
  | [], b :: y => by unfold diffW; rw [sgn_letter0, diff_letter [] y]
  | a :: x, b :: y => by unfold diffW; rw [sgn_letter2, diff_letter x y]
theorem cmpN_letter : ∀ (n : Nat) (a b : Str), cmpN letter n a b = cmpN weight n a b
  | 0, _, _ => rfl
  | n + 1, a, b => by
    unfold cmpN
    rw [diff_letter, cmpN_letter n]
theorem drop_lt {a : Str} (h : a ≠ []) : ((a.dropWhile notDig).dropWhile isDig).length < a.length := by
  have key : ∀ (p : UInt8 → Bool) (l : Str), (l.dropWhile p).length ≤ l.length := fun p l => (List.dropWhile_suffix p).length_le
  cases a with
  | nil => exact absurd rfl h
  | cons c r =>
    cases hc : isDig c with
    | true =>
      rw [List.dropWhile_cons_of_neg (by simp [notDig, hc]), List.dropWhile_cons_of_pos hc]
      have := key isDig r
      simp; omega
    | false =>
      rw [List.dropWhile_cons_of_pos (by simp [notDig, hc])]
      have h1 := key notDig r
      have h2 := key isDig (r.dropWhile notDig)
      simp; omega
theorem drop_le (a : Str) : ((a.dropWhile notDig).dropWhile isDig).length ≤ a.length := by
  by_cases h : a = []
  · subst h; simp
  · exact Nat.le_of_lt (drop_lt h)
/-- The number of rounds does not matter, once it is enough. -/
theorem cmpN_more (wt : UInt8 → Int) : ∀ (n m : Nat) (a b : Str), a.length + b.length ≤ n → a.length + b.length ≤ m → cmpN wt n a b = cmpN wt m a b
  | 0, 0, _, _, _, _ => rfl
  | 0, m + 1, a, b, h1, _ => by
    have ha : a = [] := List.length_eq_zero_iff.1 (by omega)
    have hb : b = [] := List.length_eq_zero_iff.1 (by omega)
    subst ha; subst hb
    rfl
  | n + 1, 0, a, b, _, h2 => by
    have ha : a = [] := List.length_eq_zero_iff.1 (by omega)
    have hb : b = [] := List.length_eq_zero_iff.1 (by omega)
    subst ha; subst hb
    rfl
  | n + 1, m + 1, a, b, h1, h2 => by
    unfold cmpN
    by_cases he : (a.isEmpty && b.isEmpty) = true
    · rw [if_pos he, if_pos he]
    · rw [if_neg he, if_neg he]
      have hlt : ((a.dropWhile notDig).dropWhile isDig).length + ((b.dropWhile notDig).dropWhile isDig).length < a.length + b.length := by
        have ha := drop_le a
        have hb := drop_le b
        by_cases h : a = []
        · have hb' : b ≠ [] := by rintro rfl; rw [h] at he; exact he rfl
          have := drop_lt hb'; omega
        · have := drop_lt h; omega
      rw [cmpN_more wt n m _ _ (by omega) (by omega)]
theorem cmp_of (n : Nat) (a b : Str) (h : a.length + b.length ≤ n) : cmp a b = cmpN weight n a b := cmpN_more _ _ _ _ _ (Nat.le_refl _) h
theorem cmp_letter (n : Nat) (a b : Str) (h : a.length + b.length ≤ n) : cmp a b = cmpN letter n a b := by rw [cmpN_letter, cmp_of n a b h]
/-- One round. -/
theorem cmp_step (a b : Str) (h : (a.isEmpty && b.isEmpty) = false) : cmp a b =
    if diffW weight (a.takeWhile notDig) (b.takeWhile notDig) = 0 then
      if diffD ((a.dropWhile notDig).takeWhile isDig) ((b.dropWhile notDig).takeWhile isDig) = 0 then cmp ((a.dropWhile notDig).dropWhile isDig) ((b.dropWhile notDig).dropWhile isDig)
      else diffD ((a.dropWhile notDig).takeWhile isDig) ((b.dropWhile notDig).takeWhile isDig)
    else diffW weight (a.takeWhile notDig) (b.takeWhile notDig) := by
  have ha := drop_le a
  have hb := drop_le b
  rw [cmp_of (a.length + b.length + 1) a b (by omega), cmp_of (a.length + b.length) ((a.dropWhile notDig).dropWhile isDig) _ (by omega)]
  conv => lhs; unfold cmpN
  rw [h, if_neg (by simp)]
theorem strLt_irrefl : ∀ a : Str, strLt a a = false
  | [] => rfl
  | a :: x => by unfold strLt; rw [if_neg (UInt8.lt_irrefl _), if_neg (UInt8.lt_irrefl _), strLt_irrefl x]
theorem strLt_append (z : Str) : ∀ {a b : Str}, strLt (z ++ a) (z ++ b) = strLt a b := by
  induction z with
  | nil => intros; rfl
  | cons c r ih => intro a b; rw [List.cons_append, List.cons_append, strLt, if_neg (UInt8.lt_irrefl _), if_neg (UInt8.lt_irrefl _), ih]
/-- Rows of digits of one length, compared byte by byte: as numbers. -/
theorem diff_pad (a b : Str) (ha : ∀ c ∈ a, isDig c = true) (hb : ∀ c ∈ b, isDig c = true) (n : Nat) (h1 : a.length ≤ n) (h2 : b.length ≤ n) :
    cmpS (List.replicate (n - a.length) 48 ++ a) (List.replicate (n - b.length) 48 ++ b) = diffD a b := by
  have key : ∀ s : Str, (∀ c ∈ s, isDig c = true) → s.length ≤ n → List.replicate (n - s.length) 48 ++ s = List.replicate (n - (bare s).length) 48 ++ bare s ∧ (bare s).length ≤ s.length ∧ (∀ c r, bare s = c :: r → (48 : UInt8) < c) := by
    intro s
    induction s with
    | nil => intro _ _; exact ⟨rfl, Nat.le_refl _, fun c r h => by simp [bare] at h⟩
    | cons c r ih =>
      intro hd hn
      by_cases hc : c = 48
      · subst hc
        have hb : bare (48 :: r) = bare r := by unfold bare; rw [List.dropWhile_cons_of_pos (by rfl)]
        obtain ⟨i1, i2, i3⟩ := ih (fun c hc => hd c (List.mem_cons_of_mem _ hc)) (by simp at hn; omega)
        refine ⟨?_, by rw [hb]; simp; omega, by rw [hb]; exact i3⟩
        rw [hb, ← i1]
        simp only [List.length_cons] at hn ⊢
        rw [show n - r.length = (n - (r.length + 1)) + 1 from by omega, List.replicate_succ']
        simp
      · have hb : bare (c :: r) = c :: r := by unfold bare; rw [List.dropWhile_cons_of_neg (by simpa using hc)]
        refine ⟨by rw [hb], by rw [hb]; exact Nat.le_refl _, fun d q h => ?_⟩
        rw [hb] at h
        cases h
        have := hd c (by simp)
        unfold isDig at this
        simp only [Bool.and_eq_true, decide_eq_true_eq] at this
        rw [UInt8.lt_iff_toNat_lt]
        have hne : c.toNat ≠ 48 := fun e => hc (UInt8.toNat_inj.1 e)
        show 48 < c.toNat
        omega
  obtain ⟨a1, a2, a3⟩ := key a ha h1
  obtain ⟨b1, b2, b3⟩ := key b hb h2
  rw [a1, b1]
  unfold diffD
  have lt : ∀ x y : Str, x.length < y.length → y.length ≤ n → (∀ c r, y = c :: r → (48 : UInt8) < c) → strLt (List.replicate (n - x.length) 48 ++ x) (List.replicate (n - y.length) 48 ++ y) = true ∧ strLt (List.replicate (n - y.length) 48 ++ y) (List.replicate (n - x.length) 48 ++ x) = false := by
    intro x y hxy hy hc
    obtain ⟨k, hk⟩ : ∃ k, n - x.length = (n - y.length) + (k + 1) := ⟨y.length - x.length - 1, by omega⟩
    rw [hk, ← List.replicate_append_replicate, List.append_assoc, strLt_append, strLt_append]
    cases y with
    | nil => simp at hxy
    | cons c r =>
      have := hc c r rfl
      rw [List.replicate_succ, List.cons_append]
      constructor
      · unfold strLt; rw [if_pos this]
      · unfold strLt; rw [if_neg (UInt8.lt_asymm this), if_pos this]
  split
  · rename_i he
    rw [he]
    unfold cmpS
    rw [strLt_append, strLt_append]
  · rename_i he
    unfold cmpS
    rcases Nat.lt_or_gt_of_ne he with hlt | hlt
    · rw [if_pos (lt _ _ hlt (by omega) b3).1, sgn_neg (by omega)]
    · obtain ⟨l1, l2⟩ := lt _ _ hlt (by omega) a3
      rw [l2, l1, if_neg (by simp), if_pos rfl, sgn_pos (by omega)]
end V4
end Go.Proofs.YtfphcecjhdkcoaaGreatDoor

/-
The walk of the statement's versions: a table in memory.
-/
import Derived.Test.YtfphcecjhdkcoaaGreatDoorKnownP01
import Derived.Test.YtfphcecjhdkcoaaGreatDoorKnownP18
/-
Plain: the second word of a package's text, its lines, whose its paths are.
-/
namespace Go.Proofs.YtfphcecjhdkcoaaGreatDoor
namespace Sp
/-- The second word of a package's text. -/
def word2 (s : Str) : Str := if s.length < 8 then [] else (s.drop 8).takeWhile (fun c => c != 32)
/-- The path that a line names. -/
def fileOf (s : Str) : Option Str := if s.length < 5 || s.take 5 != [102, 105, 108, 101, 32] then none else some ((s.drop 5).takeWhile (fun c => c != 61))
end Sp
namespace V15
open Sp (Str Pk Dk St)
open V2 V3
theorem take_no {c : UInt8} : ∀ {a : Str} (r : Str), c ∉ a → (a ++ c :: r).takeWhile (fun x => x != c) = a
  | [], r, _ => by simp
  | x :: a, r, h => by
    have h1 : x ≠ c := fun e => h (by rw [e]; simp)
    have h2 : c ∉ a := fun e => h (List.mem_cons_of_mem _ e)
    rw [List.cons_append, List.takeWhile_cons_of_pos (by simpa using h1), take_no r h2]
theorem word2_print {p : Pk} (h : V3.Good p) : Sp.word2 (Sp.print p) = p.name := by
  obtain ⟨r, hr, _⟩ := print_head p
  unfold Sp.word2
  rw [hr, if_neg (by simp)]
  show (p.name ++ 32 :: r).takeWhile _ = _
  exact take_no r (V1.name_no h.wf.name (by decide))
theorem split_print {p : Pk} (h : V3.Good p) : Lib.split (Sp.print p) [10] = linesOf p := by
  have hn := no10_lines h.wf
  rw [print_join, V1.split_join 10 [10] 0 rfl u10 (linesOf p) (linesOf_ne p) fun s hs => (hn s hs).1]
theorem fileOf_fileL {f : Sp.Fl} (h : WfF f) : Sp.fileOf (fileL f) = some f.path := by
  unfold Sp.fileOf fileL Sp.fileW
  have e : ([102, 105, 108, 101] ++ 32 :: (f.path ++ 61 :: f.content) : Str) = 102 :: 105 :: 108 :: 101 :: 32 :: (f.path ++ 61 :: f.content) := rfl
  rw [e]
  rw [if_neg (by simp)]
  show some ((f.path ++ 61 :: f.content).takeWhile _) = _
  rw [take_no _ (V1.path_no h.1 (by decide) (by decide))]
theorem fileOf_other {a : UInt8} {s : Str} (h : a ≠ 102) : Sp.fileOf (a :: s) = none := by
  unfold Sp.fileOf
  rw [if_pos]
  cases s with
  | nil => rfl
  | cons b r => simp [h]
/-- The paths that a package's lines name are its files'. -/
theorem lines_files {p : Pk} (h : V3.Good p) : ∀ s ∈ Lib.split (Sp.print p) [10], ∀ x, Sp.fileOf s = some x → x ∈ p.files.map (·.path) := by
  intro s hs x hx
  rw [split_print h] at hs
  unfold linesOf at hs
  rcases List.mem_cons.1 hs with rfl | hs
  · rw [show pkL p = 112 :: _ from rfl, fileOf_other (by decide)] at hx; cases hx
  · rcases List.mem_append.1 hs with hs | hs
    · unfold needsLs at hs
      split at hs
      · cases hs
      · rw [List.mem_singleton] at hs; subst hs
        rw [show needsL p.needs = 110 :: _ from rfl, fileOf_other (by decide)] at hx; cases hx
    · rcases List.mem_append.1 hs with hs | hs
      · unfold barsLs at hs
        split at hs
        · cases hs
        · rw [List.mem_singleton] at hs; subst hs
          rw [show barsL p.bars = 98 :: _ from rfl, fileOf_other (by decide)] at hx; cases hx
      · obtain ⟨f, hf, rfl⟩ := List.mem_map.1 hs
        rw [fileOf_fileL (h.wf.paths f hf)] at hx
        injection hx with hx
        exact List.mem_map.2 ⟨f, hf, hx⟩
/-- Among what goes together a path is one package's. -/
theorem path_one {L : List Pk} (h : Sp.Ok L) {p q : Pk} (hp : p ∈ L) (hq : q ∈ L) {x : Str} (h1 : x ∈ p.files.map (·.path)) (h2 : x ∈ q.files.map (·.path)) : p = q := by
  have hn := V9.paths_nodup h
  clear h
  induction L with
  | nil => cases hp
  | cons a r ih =>
    have e : Sp.paths (a :: r) = a.files.map (·.path) ++ Sp.paths r := by unfold Sp.paths; rw [List.flatMap_cons]
    rw [e, List.nodup_append] at hn
    have hr : ∀ {b : Pk}, b ∈ r → x ∈ b.files.map (·.path) → x ∈ Sp.paths r := fun hb hx => by unfold Sp.paths; exact List.mem_flatMap.2 ⟨_, hb, hx⟩
    rcases List.mem_cons.1 hp with e1 | hp1
    · rcases List.mem_cons.1 hq with e2 | hq1
      · rw [e1, e2]
      · subst e1; exact absurd rfl (hn.2.2 x h1 x (hr hq1 h2))
    · rcases List.mem_cons.1 hq with e2 | hq1
      · subst e2; exact absurd rfl (hn.2.2 x h2 x (hr hp1 h1))
      · exact ih hp1 hq1 hn.2.1
theorem owner_of {L : List Pk} (h : Sp.Ok L) {p : Pk} (hp : p ∈ L) {x : Str} (hx : x ∈ p.files.map (·.path)) : Sp.owner L x = p.name := by
  unfold Sp.owner
  cases hf : L.find? (fun p => (p.files.map (·.path)).contains x) with
  | none =>
    rw [List.find?_eq_none] at hf
    exact absurd (List.contains_iff_mem.2 hx) (hf p hp)
  | some q =>
    have h1 := List.mem_of_find?_eq_some hf
    have h2 := List.find?_some hf
    simp only
    rw [path_one h h1 hp (List.contains_iff_mem.1 h2) hx]
theorem owner_none {L : List Pk} {x : Str} (hx : ∀ p ∈ L, x ∉ p.files.map (·.path)) : Sp.owner L x = [] := by
  unfold Sp.owner
  have hf : L.find? (fun p => (p.files.map (·.path)).contains x) = none := by
    rw [List.find?_eq_none]
    intro p hp hc
    exact hx p hp (List.contains_iff_mem.1 hc)
  rw [hf]
/-- What a session tells of a text: its names, one behind the other. -/
theorem read_words {ts : List Str} {i : Nat} {F : List Pk} (h : Sp.readAll i ts = .inr F) (k : Nat) (hk : k < ts.length) : ∃ p, Sp.parse ts[k] = .inr p ∧ V3.Good p ∧ (Sp.names F)[k]? = some p.name := by
  have hm := (V9.readAll_map ts i F).1 h
  have hl := V9.read_len h
  have h1 : (ts.map Sp.parse)[k]? = some (Sp.parse ts[k]) := by rw [List.getElem?_map, List.getElem?_eq_getElem hk]; rfl
  rw [hm, List.getElem?_map, List.getElem?_eq_getElem (by omega)] at h1
  injection h1 with h1
  refine ⟨F[k], h1.symm, V9.read_good h _ (List.getElem_mem _), ?_⟩
  unfold Sp.names
  rw [List.getElem?_map, List.getElem?_eq_getElem (by omega)]; rfl
end V15
end Go.Proofs.YtfphcecjhdkcoaaGreatDoor
/-
Plain: what is planned, removed, owned does not hang on the order of what is there; texts tell the packages.
-/
namespace Go.Proofs.YtfphcecjhdkcoaaGreatDoor
namespace V18
open Sp (Str Pk Dk St)
theorem names_contains {T U : List Pk} (hp : T.Perm U) (n : Str) : (Sp.names T).contains n = (Sp.names U).contains n := by
  rw [Bool.eq_iff_iff, List.contains_iff_mem, List.contains_iff_mem]
  exact (hp.map _).mem_iff
theorem add_congr : ∀ (F : List Pk) (i : Nat) {T U : List Pk}, T.Perm U → (∃ f, Sp.addAll i T F = .inl f ∧ Sp.addAll i U F = .inl f) ∨ (∃ A B, Sp.addAll i T F = .inr A ∧ Sp.addAll i U F = .inr B ∧ A.Perm B)
  | [], i, T, U, hp => .inr ⟨T, U, rfl, rfl, hp⟩
  | p :: r, i, T, U, hp => by
    rw [Sp.addAll, Sp.addAll, names_contains hp]
    split
    · exact .inl ⟨_, rfl, rfl⟩
    · exact add_congr r (i + 1) (hp.append_right [p])
theorem judged_congr {T U F A B : List Pk} (hT : T.Perm U) (hA : A.Perm B) (hgA : ∀ p ∈ A, V3.Good p) (hgF : ∀ p ∈ F, V3.Good p) : Sp.judged T F A = Sp.judged U F B := by
  have hn := V9.names_ne hgA
  have h1 := V5.lacking_perm hn fun p => hA.mem_iff
  have h2 := V5.barring_perm hn fun p => hA.mem_iff
  have h3 := V5.clash_perm (V9.paths_ne hgA) hA
  obtain ⟨h4, h5⟩ := V5.order_perm (fun p => hT.mem_iff) F.length (V9.names_ne hgF) (List.Perm.refl F)
  have h4' : (Sp.order T F).1 = (Sp.order U F).1 := h4
  have h5' : (Sp.order T F).2.Perm (Sp.order U F).2 := h5
  have h6 : (Sp.order T F).2.isEmpty = (Sp.order U F).2.isEmpty := by
    rw [Bool.eq_iff_iff, List.isEmpty_iff, List.isEmpty_iff]
    exact ⟨fun e => by rw [e] at h5'; exact List.nil_perm.1 h5', fun e => by rw [e] at h5'; exact List.perm_nil.1 h5'⟩
  have h7 : Sp.least (Sp.names (Sp.order T F).2) = Sp.least (Sp.names (Sp.order U F).2) := by
    refine V5.least_congr (fun x hx => ?_) fun x => (h5'.map _).mem_iff
    obtain ⟨p, hp, rfl⟩ := List.mem_map.1 hx
    have hs : ∀ (T : List Pk) (n : Nat) (l : List Pk), ∀ p ∈ (Sp.orderN T n l).2, p ∈ l := by
      intro T n
      induction n with
      | zero => intro l p hp; exact hp
      | succ n ih =>
        intro l p hp
        unfold Sp.orderN at hp
        split at hp
        · exact hp
        · exact (List.mem_filter.1 (ih _ p hp)).1
    exact V9.names_ne hgF p (hs _ _ _ p hp)
  unfold Sp.judged
  rw [h1, h2, h3, h4', h6, h7]
theorem planned_congr {T U : List Pk} (hT : Sp.Set T) (hp : T.Perm U) (ts : List Str) :
    (∃ f, Sp.planned T ts = .inl f ∧ Sp.planned U ts = .inl f) ∨ (∃ A B o, Sp.planned T ts = .inr (A, o) ∧ Sp.planned U ts = .inr (B, o) ∧ A.Perm B) := by
  unfold Sp.planned
  cases hr : Sp.readAll 0 ts with
  | inl f => exact .inl ⟨f, rfl, rfl⟩
  | inr F =>
    simp only
    have hgF := fun p hp => V9.read_good hr p hp
    rcases add_congr F 0 hp with ⟨f, h1, h2⟩ | ⟨A, B, h1, h2, h3⟩
    · rw [h1, h2]; exact .inl ⟨f, rfl, rfl⟩
    · rw [h1, h2]
      simp only
      obtain ⟨a1, a2, a3⟩ := (V9.add_iff _ _ _ _).1 h1
      have hgA : ∀ p ∈ A, V3.Good p := by rw [a1]; exact (V9.set_append hT hgF a2 a3).good
      rw [judged_congr (F := F) hp h3 hgA hgF]
      cases Sp.judged U F B with
      | inl f => exact .inl ⟨f, rfl, rfl⟩
      | inr o => exact .inr ⟨A, B, o, rfl, rfl, h3⟩
theorem size_perm {A B : List Pk} (h : A.Perm B) : Sp.size A = Sp.size B := by unfold Sp.size; exact (h.map _).sum_nat
theorem installed_congr {T U : List Pk} (hT : Sp.Set T) (hp : T.Perm U) (ts : List Str) (r : Nat) :
    (∃ f, Sp.installed T ts r = .inl f ∧ Sp.installed U ts r = .inl f) ∨ (∃ A B o, Sp.installed T ts r = .inr A ∧ Sp.planned U ts = .inr (B, o) ∧ Sp.size B ≤ r ∧ Sp.installed U ts r = .inr B ∧ A.Perm B) := by
  unfold Sp.installed
  rcases planned_congr hT hp ts with ⟨f, h1, h2⟩ | ⟨A, B, o, h1, h2, h3⟩
  · rw [h1, h2]; exact .inl ⟨f, rfl, rfl⟩
  · rw [h1, h2]
    simp only
    rw [size_perm h3]
    by_cases hr : r < Sp.size B
    · rw [if_pos hr, if_pos hr]; exact .inl ⟨_, rfl, rfl⟩
    · rw [if_neg hr, if_neg hr]; exact .inr ⟨A, B, o, rfl, rfl, by omega, rfl, h3⟩
theorem removeAll_congr : ∀ (ns : List Str) (i : Nat) {T U : List Pk}, T.Perm U → (∃ f, Sp.removeAll i T ns = .inl f ∧ Sp.removeAll i U ns = .inl f) ∨ (∃ A B, Sp.removeAll i T ns = .inr A ∧ Sp.removeAll i U ns = .inr B ∧ A.Perm B)
  | [], i, T, U, hp => .inr ⟨T, U, rfl, rfl, hp⟩
  | n :: r, i, T, U, hp => by
    rw [Sp.removeAll, Sp.removeAll, names_contains hp]
    split
    · exact removeAll_congr r (i + 1) (hp.filter _)
    · exact .inl ⟨_, rfl, rfl⟩
theorem removed_congr {T U : List Pk} (hT : Sp.Set T) (hp : T.Perm U) (ns : List Str) :
    (∃ f, Sp.removed T ns = .inl f ∧ Sp.removed U ns = .inl f) ∨ (∃ A B, Sp.removed T ns = .inr A ∧ Sp.removed U ns = .inr B ∧ A.Perm B) := by
  unfold Sp.removed
  rcases removeAll_congr ns 0 hp with ⟨f, h1, h2⟩ | ⟨A, B, h1, h2, h3⟩
  · rw [h1, h2]; exact .inl ⟨f, rfl, rfl⟩
  · rw [h1, h2]
    simp only
    have hn : ∀ p ∈ A, p.name ≠ [] := fun p hp => V9.names_ne hT.good p ((V9.remove_sub ns 0 h1).subset hp)
    rw [V5.lacking_perm hn fun p => h3.mem_iff]
    split
    · exact .inl ⟨_, rfl, rfl⟩
    · exact .inr ⟨A, B, rfl, rfl, h3⟩
/-- Who tells the same texts has the same packages. -/
theorem texts_inj {T U : List Pk} (hT : Sp.Set T) (hU : Sp.Set U) (h : Sp.texts T = Sp.texts U) : T.Perm U := by
  rw [V8.texts_byName, V8.texts_byName] at h
  have hb : V8.byName T = V8.byName U := by
    have hg1 : ∀ p ∈ V8.byName T, V3.Good p := fun p hp => hT.good p ((V8.byName_mem hT p).1 hp)
    have hg2 : ∀ p ∈ V8.byName U, V3.Good p := fun p hp => hU.good p ((V8.byName_mem hU p).1 hp)
    generalize V8.byName T = a at *
    generalize V8.byName U = b at *
    clear hT hU
    induction a generalizing b with
    | nil => cases b with
      | nil => rfl
      | cons q r => cases h
    | cons p r ih => cases b with
      | nil => cases h
      | cons q s =>
        rw [List.map_cons, List.map_cons] at h
        injection h with h1 h2
        have e1 := V3.parse_print (hg1 p (by simp))
        have e2 := V3.parse_print (hg2 q (by simp))
        rw [h1, e2] at e1
        injection e1 with e1
        have k2 : ∀ x ∈ s, V3.Good x := fun x hx => hg2 x (List.mem_cons_of_mem _ hx)
        have k1 := ih (fun x hx => hg1 x (List.mem_cons_of_mem _ hx)) s
        have k3 : r = s := by first | exact k1 h2 k2 | exact k1 k2 h2
        rw [e1, k3]
  exact (V8.byName_perm hT).symm.trans (hb ▸ V8.byName_perm hU)
/-- A path's owner is the same, whatever the order. -/
theorem owner_congr {T U : List Pk} (hT : Sp.Ok T) (hp : T.Perm U) (x : Str) : Sp.owner T x = Sp.owner U x := by
  have hU := V9.ok_perm hT hp
  unfold Sp.owner
  cases h1 : T.find? fun p => (p.files.map (·.path)).contains x with
  | none =>
    have h2 : (U.find? fun p => (p.files.map (·.path)).contains x) = none := by
      rw [List.find?_eq_none] at h1 ⊢
      intro p hm; exact h1 p (hp.mem_iff.2 hm)
    rw [h2]
  | some p =>
    have hpm := List.mem_of_find?_eq_some h1
    have hpx := List.find?_some h1
    cases h2 : U.find? fun p => (p.files.map (·.path)).contains x with
    | none =>
      rw [List.find?_eq_none] at h2
      exact absurd hpx (h2 p (hp.mem_iff.1 hpm))
    | some q =>
      have hqm := hp.mem_iff.2 (List.mem_of_find?_eq_some h2)
      have hqx := List.find?_some h2
      have := V15.owner_of hT hpm (List.contains_iff_mem.1 hpx)
      have h3 := V15.owner_of hT hqm (List.contains_iff_mem.1 hqx)
      show p.name = q.name
      rw [← this, ← h3]
end V18
end Go.Proofs.YtfphcecjhdkcoaaGreatDoor
/-
Plain: a script: what the statement holds beside the store, step for step.
-/
namespace Go.Proofs.YtfphcecjhdkcoaaGreatDoor
namespace V19
open Sp (Str Pk Dk St)
/-- The store; what should be there; what may be there too; whether it may. -/
structure PW where
  x : St
  T : List Pk
  O : List Pk
  maybe : Bool
/-- The power is there. -/
structure Alive (S k : Nat) (nocut : Bool) (s : PW) : Prop where
  live : V10.Live S s.x
  perm : s.T.Perm s.x.L
  sure : s.maybe = false
  last : s.x.last ≤ k
  left : nocut = true → V11.Sure S s.x
/-- The power is gone, in the middle of the last change. -/
structure Dead (S k : Nat) (s : PW) : Prop where
  maybe : s.maybe = true
  gone : ∃ n L A, V14.Gone S n L A s.x ∧ s.O.Perm L ∧ s.T.Perm A ∧ n + 1 ≤ k
def Inv (S k : Nat) (nocut : Bool) (s : PW) : Prop := Alive S k nocut s ∨ (nocut = false ∧ Dead S k s)
theorem Alive.ok {S k : Nat} {b : Bool} {s : PW} (h : Alive S k b s) : Sp.Ok s.T := V9.ok_perm h.live.ok h.perm.symm
theorem Alive.dead {S k : Nat} {b : Bool} {s : PW} (h : Alive S k b s) : s.x.d.dead = false := h.live.calm.dead
theorem Dead.dead {S k : Nat} {s : PW} (h : Dead S k s) : s.x.d.dead = true := by
  obtain ⟨n, L, A, hg, _⟩ := h.gone; exact hg.torn.dead
theorem Alive.mono {S k j : Nat} {b : Bool} {s : PW} (h : Alive S k b s) (hk : k ≤ j) : Alive S j b s := ⟨h.live, h.perm, h.sure, Nat.le_trans h.last hk, h.left⟩
theorem Inv.mono {S k j : Nat} {b : Bool} {s : PW} (h : Inv S k b s) (hk : k ≤ j) : Inv S j b s := by
  rcases h with h | ⟨h0, h1, n, L, A, h2, h3, h4, h5⟩
  · exact .inl (h.mono hk)
  · exact .inr ⟨h0, h1, n, L, A, h2, h3, h4, by omega⟩
theorem new {S : Nat} (hS : 16 ≤ S ∧ S ≤ 256) (b : Bool) : Alive S 0 b ⟨St.new S, [], [], false⟩ := by
  obtain ⟨h1, h2, h3⟩ := V11.new_sure hS
  exact ⟨h1.live, by show ([] : List Pk).Perm (St.new S).L; rw [h3], rfl, by show (St.new S).last ≤ 0; omega, fun _ => h1⟩
theorem texts_ok {S k : Nat} {b : Bool} {s : PW} (h : Alive S k b s) : Sp.texts s.T = Sp.texts s.x.L := V8.texts_eq h.ok.set h.perm
/-- A change that went well. -/
theorem change {S k : Nat} {b : Bool} {s : PW} (h : Alive S k b s) (hk : k < 1000000) {A B : List Pk} (hp : A.Perm B) (hB : Sp.Ok B) (hr : Sp.size B ≤ Sp.room S) (hl : B.length = s.x.L.length → B.Perm s.x.L) :
    Inv S (k + 1) b ⟨s.x.become B, A, s.T, (s.x.become B).d.dead⟩ := by
  have hn : s.x.last + 1 < 18446744073709551616 := by have := h.last; omega
  obtain ⟨e1, e2⟩ := V14.become_L s.x B
  have hpm : A.Perm (s.x.become B).L := by rw [e1]; exact hp
  have hls : (s.x.become B).last ≤ k + 1 := by have := h.last; omega
  cases b with
  | true =>
    have hs := (V11.become_sure (h.left rfl) hB hr hn hl)
    exact .inl ⟨hs.1.live, hpm, hs.1.live.calm.dead, hls, fun _ => hs.1⟩
  | false =>
    rcases V14.become_cases h.live hB hr hn hl with ⟨h1, h2⟩ | ⟨h1, h2⟩
    · exact .inl ⟨h2, hpm, h1, hls, fun e => by cases e⟩
    · exact .inr ⟨rfl, h1, s.x.last, s.x.L, B, h2, h.perm, hp, by have := h.last; omega⟩
/-- An installation: what both say. -/
theorem install {S k : Nat} {b : Bool} {s : PW} (h : Alive S k b s) (hk : k < 1000000) (ts : List Str) :
    (∃ f, 1 ≤ f.kind ∧ Sp.installed s.T ts (Sp.room S) = .inl f ∧ s.x.install ts = (f, s.x)) ∨
    (∃ A B, Sp.installed s.T ts (Sp.room S) = .inr A ∧ s.x.install ts = (Sp.okF, s.x.become B) ∧ A.Perm B ∧ Inv S (k + 1) b ⟨s.x.become B, A, s.T, (s.x.become B).d.dead⟩) := by
  have hn : s.x.last + 1 < 18446744073709551616 := by have := h.last; omega
  rcases V18.planned_congr h.ok.set h.perm ts with ⟨f, h1, h2⟩ | ⟨A, B, o, h1, h2, h3⟩
  · have := V11.planned_kind h2
    exact .inl ⟨f, this.1, by unfold Sp.installed; rw [h1], V10.install_no h2⟩
  · by_cases hr : Sp.room S < Sp.size B
    · exact .inl ⟨⟨8, 0, 0, []⟩, by simp, by unfold Sp.installed; rw [h1]; simp only; rw [V18.size_perm h3, if_pos hr], V10.install_full h.live h2 hr⟩
    · obtain ⟨e, hB, _⟩ := V10.install_yes h.live hn h2 (by omega)
      obtain ⟨_, F, rfl, _⟩ := V9.planned_ok h.live.ok.set h2
      refine .inr ⟨A, _, by unfold Sp.installed; rw [h1]; simp only; rw [V18.size_perm h3, if_neg hr], e, h3, change h hk h3 hB (by omega) fun e => by rw [V10.perm_of_len e, List.append_nil]⟩
theorem remove {S k : Nat} {b : Bool} {s : PW} (h : Alive S k b s) (hk : k < 1000000) (ns : List Str) :
    (∃ f, 1 ≤ f.kind ∧ Sp.removed s.T ns = .inl f ∧ s.x.remove ns = (f, s.x)) ∨
    (∃ A B, Sp.removed s.T ns = .inr A ∧ s.x.remove ns = (Sp.okF, s.x.become B) ∧ A.Perm B ∧ Inv S (k + 1) b ⟨s.x.become B, A, s.T, (s.x.become B).d.dead⟩) := by
  rcases V18.removed_congr h.ok.set h.perm ns with ⟨f, h1, h2⟩ | ⟨A, B, h1, h2, h3⟩
  · have := V11.removed_kind h2
    exact .inl ⟨f, by omega, h1, by unfold St.remove; rw [h2]⟩
  · obtain ⟨hB, hsub⟩ := V9.removed_ok h.live.ok h2
    have hsz : Sp.size B ≤ Sp.room S := by
      refine Nat.le_trans ?_ h.live.room
      unfold Sp.size
      exact V11.sum_sub (hsub.map _)
    have e : s.x.remove ns = (Sp.okF, s.x.become B) := by unfold St.remove; rw [h2, h.live.seen]; simp only; rw [if_neg (by omega)]
    exact .inr ⟨A, B, h1, e, h3, change h hk h3 hB hsz fun e => by rw [V11.filter_len hsub e]⟩
theorem plan {S k : Nat} {b : Bool} {s : PW} (h : Alive S k b s) (ts : List Str) :
    (∃ f, Sp.planned s.T ts = .inl f ∧ s.x.plan ts = (f, [])) ∨ (∃ A o, Sp.planned s.T ts = .inr (A, o) ∧ s.x.plan ts = (Sp.okF, o)) := by
  rcases V18.planned_congr h.ok.set h.perm ts with ⟨f, h1, h2⟩ | ⟨A, B, o, h1, h2, h3⟩
  · exact .inl ⟨f, h1, by unfold St.plan; rw [h2]⟩
  · exact .inr ⟨A, o, h1, by unfold St.plan; rw [h2]⟩
theorem cut {S k : Nat} {s : PW} (h : Inv S k false s) (c : Int) : Inv S k false ⟨s.x.cut c, s.T, s.O, s.maybe⟩ := by
  rcases h with h | ⟨_, h1, n, L, A, h2, h3, h4, h5⟩
  · exact .inl ⟨V10.cut_live h.live c, h.perm, h.sure, h.last, fun e => by cases e⟩
  · exact .inr ⟨rfl, h1, n, L, A, V14.gone_cut h2 c, h3, h4, h5⟩
/-- Opened anew: what should be there is; or what was ahead of it. -/
theorem reopen {S k : Nat} {s : PW} (h : Inv S k false s) (mask after : Int) :
    V10.Live S (s.x.reopen mask after) ∧ s.x.d.late.length < 900000 ∧ s.x.d.seen.length = S ∧
      ((Sp.texts (s.x.reopen mask after).L = Sp.texts s.T ∧ Alive S k false ⟨s.x.reopen mask after, s.T, s.O, false⟩) ∨
       (Sp.texts (s.x.reopen mask after).L ≠ Sp.texts s.T ∧ s.maybe = true ∧ Sp.texts (s.x.reopen mask after).L = Sp.texts s.O ∧ Alive S k false ⟨s.x.reopen mask after, s.O, s.O, false⟩)) := by
  rcases h with h | ⟨_, h1, n, L, A, h2, h3, h4, h5⟩
  · obtain ⟨r1, r2, r3⟩ := V10.reopen_live h.live mask after
    refine ⟨r1, by rw [h.live.calm.late]; decide, h.live.seen, .inl ⟨by rw [r3, V14.texts_byName h.live.ok.set, texts_ok h], r1, ?_, rfl, by show (s.x.reopen mask after).last ≤ k; rw [r2]; exact h.last, fun e => by cases e⟩⟩
    show s.T.Perm (s.x.reopen mask after).L
    rw [r3]
    exact h.perm.trans (V8.byName_perm h.live.ok.set).symm
  · obtain ⟨r1, r2⟩ := V14.gone_reopen h2 mask after
    have hlast : (s.x.reopen mask after).last ≤ k := by rcases r2 with ⟨r2, _⟩ | ⟨r2, _⟩ <;> omega
    have hT : Sp.Ok s.T := V9.ok_perm h2.okA h4.symm
    have hO : Sp.Ok s.O := V9.ok_perm h2.okL h3.symm
    refine ⟨r1, h2.late, h2.torn.slen, ?_⟩
    by_cases ht : Sp.texts (s.x.reopen mask after).L = Sp.texts s.T
    · exact .inl ⟨ht, r1, (V18.texts_inj r1.ok.set hT.set ht).symm, rfl, hlast, fun e => by cases e⟩
    · rcases r2 with ⟨_, r2⟩ | ⟨_, r2⟩
      · have e : Sp.texts (s.x.reopen mask after).L = Sp.texts s.O := by rw [r2, V14.texts_byName h2.okL.set, V8.texts_eq hO.set h3]
        exact .inr ⟨ht, h1, e, r1, (V18.texts_inj r1.ok.set hO.set e).symm, rfl, hlast, fun e => by cases e⟩
      · exact absurd (by rw [r2, V14.texts_byName h2.okA.set, V8.texts_eq hT.set h4]) ht
end V19
end Go.Proofs.YtfphcecjhdkcoaaGreatDoor
/-
Plain: a script: what the statement's steps ask of both.
-/
namespace Go.Proofs.YtfphcecjhdkcoaaGreatDoor
namespace V20
open Sp (Str Pk Dk St)
open V19 (PW Alive Dead Inv)
theorem alive_few {S k : Nat} {b : Bool} {s : PW} (h : Alive S k b s) : Sp.Set s.T ∧ s.T.length ≤ 600 :=
  ⟨h.ok.set, by rw [h.perm.length_eq]; exact V14.live_few h.live⟩
theorem inv_few {S k : Nat} {b : Bool} {s : PW} (h : Inv S k b s) : Sp.Set s.T ∧ s.T.length ≤ 600 := by
  rcases h with h | ⟨_, _, n, L, A, h2, _, h4, _⟩
  · exact alive_few h
  · exact ⟨(V9.ok_perm h2.okA h4.symm).set, by rw [h4.length_eq]; exact (V10.room_small h2.okA.set h2.big h2.roomA).2.2⟩
theorem alive_size {S k : Nat} {b : Bool} {s : PW} (h : Alive S k b s) : Sp.size s.T = Sp.size s.x.L := V18.size_perm h.perm
theorem alive_owner {S k : Nat} {b : Bool} {s : PW} (h : Alive S k b s) (x : Str) : Sp.owner s.T x = Sp.owner s.x.L x := V18.owner_congr h.ok h.perm x
/-- The power is gone or it is there. -/
theorem inv_cases {S k : Nat} {b : Bool} {s : PW} (h : Inv S k b s) : (s.x.d.dead = false ∧ Alive S k b s) ∨ (s.x.d.dead = true ∧ b = false ∧ Dead S k s) := by
  rcases h with h | ⟨h0, h⟩
  · exact .inl ⟨h.dead, h⟩
  · exact .inr ⟨h.dead, h0, h⟩
theorem inv_seen {S k : Nat} {b : Bool} {s : PW} (h : Inv S k b s) (hb : b = true) : Alive S k b s := by
  rcases h with h | ⟨h0, _⟩
  · exact h
  · rw [hb] at h0; cases h0
theorem inv_big {S k : Nat} {b : Bool} {s : PW} (h : Inv S k b s) : 16 ≤ S ∧ S ≤ 256 := by
  rcases h with h | ⟨_, _, n, L, A, h2, _⟩
  · exact h.live.big
  · exact h2.big
end V20
end Go.Proofs.YtfphcecjhdkcoaaGreatDoor
/-
Plain: the tables of the statement Known, and that each row is right.
-/
namespace Go.Proofs.YtfphcecjhdkcoaaGreatDoor
namespace V21
open Sp (Str Pk Dk St)
/-- Two texts and a number. -/
structure Row3 where
  a : Str
  b : Str
  o : Int
/-- Texts, their order, or the error. -/
structure RowP where
  ts : List Str
  os : List Str
  f : Sp.Fault
def vers0 : List Row3 := [
  ⟨[49], [49], 0⟩,
  ⟨[49, 46, 57], [49, 46, 49, 48], -1⟩,
  ⟨[49, 46, 48], [49], 1⟩,
  ⟨[49, 46, 48], [49, 46, 48, 48], 0⟩,
  ⟨[50, 126, 114, 99, 49], [50], -1⟩,
  ⟨[50, 126], [50, 126, 126], 1⟩,
  ⟨[50, 126, 126], [50, 126, 114, 99, 49], -1⟩,
  ⟨[49, 97], [49], 1⟩]
def vers1 : List Row3 := [
  ⟨[49, 97], [49, 43], -1⟩,
  ⟨[49, 97], [49, 65], 1⟩,
  ⟨[49, 46], [49, 45], 1⟩,
  ⟨[49, 48], [57], 1⟩,
  ⟨[48, 48, 55], [55], 0⟩,
  ⟨[49, 46, 48, 45, 49], [49, 46, 48], 1⟩,
  ⟨[49, 46, 48, 126], [49, 46, 48, 45, 49], -1⟩,
  ⟨[49, 46, 50, 46, 51], [49, 46, 50], 1⟩]
def vers2 : List Row3 := [
  ⟨[49, 98, 49], [49, 98, 49, 48], -1⟩,
  ⟨[57, 57, 57, 57, 57, 57, 57, 57, 57, 57, 57, 57, 57, 57, 57, 57, 57, 57, 57, 57], [49, 48, 48, 48, 48, 48, 48, 48, 48, 48, 48, 48, 48, 48, 48, 48, 48, 48, 48, 48, 48], -1⟩,
  ⟨[], [48], 0⟩,
  ⟨[], [126], 1⟩,
  ⟨[97], [], 1⟩]
def vers : List Row3 := vers0 ++ vers1 ++ vers2
def forms0 : List Row3 := [
  ⟨[112, 97, 99, 107, 97, 103, 101, 32, 97, 32, 49], [112, 97, 99, 107, 97, 103, 101, 32, 97, 32, 49], -1⟩,
  ⟨[112, 97, 99, 107, 97, 103, 101, 32, 97, 32, 49, 10], [112, 97, 99, 107, 97, 103, 101, 32, 97, 32, 49], -1⟩,
  ⟨[112, 97, 99, 107, 97, 103, 101, 32, 108, 105, 98, 45, 120, 32, 50, 126, 114, 99, 49, 10, 110, 101, 101, 100, 115, 32, 97, 32, 40, 62, 61, 32, 49, 46, 48, 41, 32, 124, 32, 98, 44, 32, 99, 10, 98, 97, 114, 115, 32, 100, 32, 40, 60, 60, 32, 50, 41, 44, 32, 101, 10, 102, 105, 108, 101, 32, 122, 47, 98, 61, 116, 119, 111, 32, 119, 111, 114, 100, 115, 10, 102, 105, 108, 101, 32, 98, 105, 110, 47, 120, 61], [112, 97, 99, 107, 97, 103, 101, 32, 108, 105, 98, 45, 120, 32, 50, 126, 114, 99, 49, 10, 110, 101, 101, 100, 115, 32, 97, 32, 40, 62, 61, 32, 49, 46, 48, 41, 32, 124, 32, 98, 44, 32, 99, 10, 98, 97, 114, 115, 32, 100, 32, 40, 60, 60, 32, 50, 41, 44, 32, 101, 10, 102, 105, 108, 101, 32, 98, 105, 110, 47, 120, 61, 10, 102, 105, 108, 101, 32, 122, 47, 98, 61, 116, 119, 111, 32, 119, 111, 114, 100, 115], -1⟩,
  ⟨[112, 97, 99, 107, 97, 103, 101, 32, 97, 32, 49, 10, 102, 105, 108, 101, 32, 120, 61, 97, 61, 98], [112, 97, 99, 107, 97, 103, 101, 32, 97, 32, 49, 10, 102, 105, 108, 101, 32, 120, 61, 97, 61, 98], -1⟩,
  ⟨[], [], 1⟩,
  ⟨[112, 97, 99, 107, 97, 103, 101, 32, 97], [], 1⟩,
  ⟨[112, 97, 99, 107, 97, 103, 101, 32, 65, 32, 49], [], 1⟩,
  ⟨[112, 97, 99, 107, 97, 103, 101, 32, 45, 97, 32, 49], [], 1⟩]
def forms1 : List Row3 := [
  ⟨[112, 97, 99, 107, 97, 103, 101, 32, 97, 32, 118, 49], [], 1⟩,
  ⟨[112, 97, 99, 107, 97, 103, 101, 32, 97, 32, 32, 49], [], 1⟩,
  ⟨[112, 97, 99, 107, 97, 103, 101, 32, 97, 32, 49, 32], [], 1⟩,
  ⟨[112, 97, 99, 107, 97, 103, 101, 32, 116, 119, 101, 108, 118, 101, 45, 99, 104, 97, 114, 115, 32, 49, 50, 51, 52, 53, 54, 55, 56, 57, 48, 49, 50, 51, 52, 53, 54], [112, 97, 99, 107, 97, 103, 101, 32, 116, 119, 101, 108, 118, 101, 45, 99, 104, 97, 114, 115, 32, 49, 50, 51, 52, 53, 54, 55, 56, 57, 48, 49, 50, 51, 52, 53, 54], -1⟩,
  ⟨[112, 97, 99, 107, 97, 103, 101, 32, 116, 104, 105, 114, 116, 101, 101, 110, 99, 104, 97, 114, 115, 32, 49], [], 1⟩,
  ⟨[112, 97, 99, 107, 97, 103, 101, 32, 97, 32, 49, 50, 51, 52, 53, 54, 55, 56, 57, 48, 49, 50, 51, 52, 53, 54, 55], [], 1⟩,
  ⟨[112, 97, 99, 107, 97, 103, 101, 32, 97, 32, 49, 10, 10], [], 2⟩,
  ⟨[112, 97, 99, 107, 97, 103, 101, 32, 97, 32, 49, 10, 110, 101, 101, 100, 115], [], 2⟩]
def forms2 : List Row3 := [
  ⟨[112, 97, 99, 107, 97, 103, 101, 32, 97, 32, 49, 10, 110, 101, 101, 100, 115, 32, 98, 44, 99], [], 2⟩,
  ⟨[112, 97, 99, 107, 97, 103, 101, 32, 97, 32, 49, 10, 110, 101, 101, 100, 115, 32, 98, 32, 124, 32, 99, 32, 124, 32, 100, 44, 32, 101, 44, 32, 102, 32, 40, 61, 32, 49, 41], [112, 97, 99, 107, 97, 103, 101, 32, 97, 32, 49, 10, 110, 101, 101, 100, 115, 32, 98, 32, 124, 32, 99, 32, 124, 32, 100, 44, 32, 101, 44, 32, 102, 32, 40, 61, 32, 49, 41], -1⟩,
  ⟨[112, 97, 99, 107, 97, 103, 101, 32, 97, 32, 49, 10, 110, 101, 101, 100, 115, 32, 98, 32, 124, 32, 99, 32, 124, 32, 100, 32, 124, 32, 101], [], 2⟩,
  ⟨[112, 97, 99, 107, 97, 103, 101, 32, 97, 32, 49, 10, 110, 101, 101, 100, 115, 32, 98, 44, 32, 99, 44, 32, 100, 44, 32, 101], [], 2⟩,
  ⟨[112, 97, 99, 107, 97, 103, 101, 32, 97, 32, 49, 10, 110, 101, 101, 100, 115, 32, 98, 32, 40, 49, 41], [], 2⟩,
  ⟨[112, 97, 99, 107, 97, 103, 101, 32, 97, 32, 49, 10, 110, 101, 101, 100, 115, 32, 98, 32, 40, 62, 32, 49, 41], [], 2⟩,
  ⟨[112, 97, 99, 107, 97, 103, 101, 32, 97, 32, 49, 10, 110, 101, 101, 100, 115, 32, 98, 32, 40, 61, 32, 49], [], 2⟩,
  ⟨[112, 97, 99, 107, 97, 103, 101, 32, 97, 32, 49, 10, 110, 101, 101, 100, 115, 32, 98, 40, 61, 32, 49, 41], [], 2⟩]
def forms3 : List Row3 := [
  ⟨[112, 97, 99, 107, 97, 103, 101, 32, 97, 32, 49, 10, 98, 97, 114, 115, 32, 98, 32, 124, 32, 99], [], 2⟩,
  ⟨[112, 97, 99, 107, 97, 103, 101, 32, 97, 32, 49, 10, 98, 97, 114, 115, 32, 98, 10, 110, 101, 101, 100, 115, 32, 99], [], 3⟩,
  ⟨[112, 97, 99, 107, 97, 103, 101, 32, 97, 32, 49, 10, 110, 101, 101, 100, 115, 32, 98, 10, 110, 101, 101, 100, 115, 32, 99], [], 3⟩,
  ⟨[112, 97, 99, 107, 97, 103, 101, 32, 97, 32, 49, 10, 102, 105, 108, 101, 32, 120, 61, 49, 10, 98, 97, 114, 115, 32, 98], [], 3⟩,
  ⟨[112, 97, 99, 107, 97, 103, 101, 32, 97, 32, 49, 10, 102, 105, 108, 101, 32, 120], [], 2⟩,
  ⟨[112, 97, 99, 107, 97, 103, 101, 32, 97, 32, 49, 10, 102, 105, 108, 101, 32, 61, 49], [], 2⟩,
  ⟨[112, 97, 99, 107, 97, 103, 101, 32, 97, 32, 49, 10, 102, 105, 108, 101, 32, 47, 120, 61, 49], [], 2⟩,
  ⟨[112, 97, 99, 107, 97, 103, 101, 32, 97, 32, 49, 10, 102, 105, 108, 101, 32, 120, 47, 46, 46, 47, 121, 61, 49], [], 2⟩]
def forms4 : List Row3 := [
  ⟨[112, 97, 99, 107, 97, 103, 101, 32, 97, 32, 49, 10, 102, 105, 108, 101, 32, 120, 47, 121, 47, 122, 61, 49], [112, 97, 99, 107, 97, 103, 101, 32, 97, 32, 49, 10, 102, 105, 108, 101, 32, 120, 47, 121, 47, 122, 61, 49], -1⟩,
  ⟨[112, 97, 99, 107, 97, 103, 101, 32, 97, 32, 49, 10, 102, 105, 108, 101, 32, 119, 47, 120, 47, 121, 47, 122, 61, 49], [], 2⟩,
  ⟨[112, 97, 99, 107, 97, 103, 101, 32, 97, 32, 49, 10, 102, 105, 108, 101, 32, 110, 105, 110, 101, 99, 104, 97, 114, 115, 61, 49], [], 2⟩,
  ⟨[112, 97, 99, 107, 97, 103, 101, 32, 97, 32, 49, 10, 102, 105, 108, 101, 32, 120, 61, 49, 10, 102, 105, 108, 101, 32, 120, 61, 50], [], 3⟩,
  ⟨[112, 97, 99, 107, 97, 103, 101, 32, 97, 32, 49, 10, 102, 105, 108, 101, 32, 120, 61, 49, 10, 102, 105, 108, 101, 32, 120, 47, 121, 61, 50], [], 3⟩,
  ⟨[112, 97, 99, 107, 97, 103, 101, 32, 97, 32, 49, 10, 102, 105, 108, 101, 32, 120, 47, 121, 61, 49, 10, 102, 105, 108, 101, 32, 120, 61, 50], [], 3⟩,
  ⟨[112, 97, 99, 107, 97, 103, 101, 32, 97, 32, 49, 10, 102, 105, 108, 101, 32, 97, 61, 49, 10, 102, 105, 108, 101, 32, 98, 61, 49, 10, 102, 105, 108, 101, 32, 99, 61, 49, 10, 102, 105, 108, 101, 32, 100, 61, 49, 10, 102, 105, 108, 101, 32, 101, 61, 49], [], 6⟩,
  ⟨[112, 97, 99, 107, 97, 103, 101, 32, 97, 32, 49, 10, 102, 105, 108, 101, 32, 120, 61, 49, 50, 51, 52, 53, 54, 55, 56, 57, 48, 49, 50, 51, 52, 53, 54, 55, 56, 57, 48, 49, 50, 51, 52, 53], [], 2⟩]
def forms5 : List Row3 := [
  ⟨[112, 97, 99, 107, 97, 103, 101, 32, 97, 32, 49, 10, 102, 111, 108, 100, 101, 114, 32, 120], [], 2⟩,
  ⟨[112, 97, 99, 107, 97, 103, 101, 32, 97, 32, 49, 10, 112, 97, 99, 107, 97, 103, 101, 32, 98, 32, 49], [], 2⟩]
def forms : List Row3 := forms0 ++ forms1 ++ forms2 ++ forms3 ++ forms4 ++ forms5
def plans0 : List RowP := [
  ⟨[[112, 97, 99, 107, 97, 103, 101, 32, 98, 32, 49, 10, 110, 101, 101, 100, 115, 32, 97], [112, 97, 99, 107, 97, 103, 101, 32, 97, 32, 49]], [[97], [98]], ⟨0, 0, 0, []⟩⟩,
  ⟨[[112, 97, 99, 107, 97, 103, 101, 32, 97, 32, 49], [112, 97, 99, 107, 97, 103, 101, 32, 99, 32, 49], [112, 97, 99, 107, 97, 103, 101, 32, 98, 32, 49]], [[97], [98], [99]], ⟨0, 0, 0, []⟩⟩,
  ⟨[[112, 97, 99, 107, 97, 103, 101, 32, 97, 32, 49, 10, 110, 101, 101, 100, 115, 32, 98], [112, 97, 99, 107, 97, 103, 101, 32, 98, 32, 49, 10, 110, 101, 101, 100, 115, 32, 99], [112, 97, 99, 107, 97, 103, 101, 32, 99, 32, 49]], [[99], [98], [97]], ⟨0, 0, 0, []⟩⟩,
  ⟨[[112, 97, 99, 107, 97, 103, 101, 32, 97, 32, 49, 10, 110, 101, 101, 100, 115, 32, 97]], [[97]], ⟨0, 0, 0, []⟩⟩,
  ⟨[[112, 97, 99, 107, 97, 103, 101, 32, 97, 32, 49, 10, 110, 101, 101, 100, 115, 32, 98, 32, 124, 32, 99], [112, 97, 99, 107, 97, 103, 101, 32, 98, 32, 49, 10, 110, 101, 101, 100, 115, 32, 99], [112, 97, 99, 107, 97, 103, 101, 32, 99, 32, 49]], [[99], [98], [97]], ⟨0, 0, 0, []⟩⟩,
  ⟨[], [], ⟨0, 0, 0, []⟩⟩,
  ⟨[[112, 97, 99, 107, 97, 103, 101, 32, 97, 32, 49, 10, 110, 101, 101, 100, 115, 32, 98]], [], ⟨4, 0, 0, [97]⟩⟩,
  ⟨[[112, 97, 99, 107, 97, 103, 101, 32, 97, 32, 49, 10, 110, 101, 101, 100, 115, 32, 98, 32, 40, 62, 61, 32, 50, 41], [112, 97, 99, 107, 97, 103, 101, 32, 98, 32, 49]], [], ⟨4, 0, 0, [97]⟩⟩]
def plans1 : List RowP := [
  ⟨[[112, 97, 99, 107, 97, 103, 101, 32, 97, 32, 49, 10, 110, 101, 101, 100, 115, 32, 98, 32, 40, 62, 61, 32, 50, 41, 32, 124, 32, 98, 32, 40, 61, 32, 49, 41], [112, 97, 99, 107, 97, 103, 101, 32, 98, 32, 49]], [[98], [97]], ⟨0, 0, 0, []⟩⟩,
  ⟨[[112, 97, 99, 107, 97, 103, 101, 32, 99, 32, 49, 10, 110, 101, 101, 100, 115, 32, 120], [112, 97, 99, 107, 97, 103, 101, 32, 98, 32, 49, 10, 110, 101, 101, 100, 115, 32, 120]], [], ⟨4, 0, 0, [98]⟩⟩,
  ⟨[[112, 97, 99, 107, 97, 103, 101, 32, 97, 32, 49, 10, 98, 97, 114, 115, 32, 98], [112, 97, 99, 107, 97, 103, 101, 32, 98, 32, 49]], [], ⟨5, 0, 0, [97]⟩⟩,
  ⟨[[112, 97, 99, 107, 97, 103, 101, 32, 97, 32, 49, 10, 98, 97, 114, 115, 32, 98, 32, 40, 60, 60, 32, 49, 41], [112, 97, 99, 107, 97, 103, 101, 32, 98, 32, 49]], [[97], [98]], ⟨0, 0, 0, []⟩⟩,
  ⟨[[112, 97, 99, 107, 97, 103, 101, 32, 97, 32, 49, 10, 98, 97, 114, 115, 32, 97]], [[97]], ⟨0, 0, 0, []⟩⟩,
  ⟨[[112, 97, 99, 107, 97, 103, 101, 32, 97, 32, 49, 10, 102, 105, 108, 101, 32, 120, 61, 49], [112, 97, 99, 107, 97, 103, 101, 32, 98, 32, 49, 10, 102, 105, 108, 101, 32, 120, 61, 49]], [], ⟨6, 0, 0, [120]⟩⟩,
  ⟨[[112, 97, 99, 107, 97, 103, 101, 32, 97, 32, 49, 10, 102, 105, 108, 101, 32, 120, 47, 121, 61, 49], [112, 97, 99, 107, 97, 103, 101, 32, 98, 32, 49, 10, 102, 105, 108, 101, 32, 120, 61, 49]], [], ⟨6, 0, 0, [120]⟩⟩,
  ⟨[[112, 97, 99, 107, 97, 103, 101, 32, 97, 32, 49, 10, 102, 105, 108, 101, 32, 120, 47, 121, 61, 49], [112, 97, 99, 107, 97, 103, 101, 32, 98, 32, 49, 10, 102, 105, 108, 101, 32, 120, 47, 122, 61, 49]], [[97], [98]], ⟨0, 0, 0, []⟩⟩]
def plans2 : List RowP := [
  ⟨[[112, 97, 99, 107, 97, 103, 101, 32, 97, 32, 49, 10, 110, 101, 101, 100, 115, 32, 98], [112, 97, 99, 107, 97, 103, 101, 32, 98, 32, 49, 10, 110, 101, 101, 100, 115, 32, 97]], [], ⟨7, 0, 0, [97]⟩⟩,
  ⟨[[112, 97, 99, 107, 97, 103, 101, 32, 99, 32, 49, 10, 110, 101, 101, 100, 115, 32, 98], [112, 97, 99, 107, 97, 103, 101, 32, 98, 32, 49, 10, 110, 101, 101, 100, 115, 32, 99], [112, 97, 99, 107, 97, 103, 101, 32, 97, 32, 49, 10, 110, 101, 101, 100, 115, 32, 98]], [], ⟨7, 0, 0, [97]⟩⟩,
  ⟨[[112, 97, 99, 107, 97, 103, 101, 32, 97, 32, 49], [112, 97, 99, 107, 97, 103, 101, 32, 97, 32, 50]], [], ⟨2, 1, 0, [97]⟩⟩,
  ⟨[[112, 97, 99, 107, 97, 103, 101, 32, 97, 32, 49], [112, 97, 99, 107, 97, 103, 101], [112, 97, 99, 107, 97, 103, 101, 32, 98]], [], ⟨1, 1, 1, []⟩⟩,
  ⟨[[112, 97, 99, 107, 97, 103, 101, 32, 97, 32, 49, 10, 110, 101, 101, 100, 115, 32, 122], [120]], [], ⟨1, 1, 1, []⟩⟩,
  ⟨[[112, 97, 99, 107, 97, 103, 101, 32, 97, 32, 49], [112, 97, 99, 107, 97, 103, 101, 32, 97, 32, 49, 10, 110, 101, 101, 100, 115, 32, 122]], [], ⟨2, 1, 0, [97]⟩⟩,
  ⟨[[112, 97, 99, 107, 97, 103, 101, 32, 97, 32, 49, 10, 110, 101, 101, 100, 115, 32, 122, 10, 98, 97, 114, 115, 32, 98], [112, 97, 99, 107, 97, 103, 101, 32, 98, 32, 49]], [], ⟨4, 0, 0, [97]⟩⟩,
  ⟨[[112, 97, 99, 107, 97, 103, 101, 32, 97, 32, 49, 10, 98, 97, 114, 115, 32, 98, 10, 102, 105, 108, 101, 32, 120, 61, 49], [112, 97, 99, 107, 97, 103, 101, 32, 98, 32, 49, 10, 102, 105, 108, 101, 32, 120, 61, 49]], [], ⟨5, 0, 0, [97]⟩⟩]
def plans : List RowP := plans0 ++ plans1 ++ plans2
def formOk (r : Row3) : Bool := match Sp.parse r.a with
  | .inl n => decide (r.o = (n : Int)) && decide (1 ≤ n)
  | .inr p => decide (r.o = -1) && Sp.print p == r.b
def faultEq (f g : Sp.Fault) : Bool := f.kind == g.kind && f.which == g.which && f.line == g.line && f.name == g.name
def planOk (r : RowP) : Bool := match Sp.planned [] r.ts with
  | .inl f => faultEq f r.f && r.os == []
  | .inr (_, o) => faultEq Sp.okF r.f && r.os == o
theorem vers_len : vers.length = 21 := rfl
theorem forms_len : forms.length = 42 := rfl
theorem plans_len : plans.length = 24 := rfl
theorem vers_ok : vers.all (fun r => decide (Sp.cmp r.a r.b = r.o)) = true := by decide +kernel
theorem forms_ok : forms.all formOk = true := by decide +kernel
theorem plans_ok : plans.all planOk = true := by decide +kernel
theorem vers_small : vers.all (fun r => decide (r.a.length ≤ 300 ∧ r.b.length ≤ 300)) = true := by decide +kernel
theorem forms_small : forms.all (fun r => decide (r.a.length ≤ 300 ∧ r.b.length ≤ 300)) = true := by decide +kernel
theorem plans_small : plans.all (fun r => decide (r.ts.length ≤ 300 ∧ r.os.length ≤ 300 ∧ ∀ t ∈ r.ts, t.length ≤ 300)) = true := by decide +kernel
end V21
end Go.Proofs.YtfphcecjhdkcoaaGreatDoor
namespace Go.Proofs.YtfphcecjhdkcoaaGreatDoor
open Go.RowKit
namespace V21
def Row3.cells (r : Row3) : List Value := [sv r.a, sv r.b, .int .i64 r.o]
end V21
theorem flat_get {sz j : Nat} {x : List Value} {u : Value} (hj : x[j]? = some u) : ∀ (xs : List (List Value)) (k : Nat), (∀ x ∈ xs, x.length = sz) → xs[k]? = some x → xs.flatten[k * sz + j]? = some u := by
  intro xs
  induction xs with
  | nil => intro k _ hk; simp at hk
  | cons y r ih =>
    intro k hxs hk
    have hy := hxs y List.mem_cons_self
    cases k with
    | zero =>
      have e : y = x := by simpa using hk
      subst e
      have hj' : j < y.length := (List.getElem?_eq_some_iff.1 hj).1
      rw [List.flatten_cons, List.getElem?_append_left (by omega)]
      simpa using hj
    | succ k =>
      rw [List.flatten_cons, List.getElem?_append_right (by rw [hy, Nat.succ_mul]; omega), hy, show (k + 1) * sz + j - sz = k * sz + j from by rw [Nat.succ_mul]; omega]
      exact ih k (fun z hz => hxs z (List.mem_cons_of_mem _ hz)) (by simpa using hk)
/-- The elements of a block, from its head on. -/
theorem sl_of_block {w : World} {sz b n : Nat} {e : TypeId} {xs : List (List Value)} {cs : Array Value} (hn : n = xs.length) (hxs : ∀ x ∈ xs, x.length = sz) (hb : w.heap[b]? = some (.cells cs e (0, 0))) (hc : cs = xs.flatten.toArray) :
    SlOn (fun k => k = b) w sz (.slice (some ⟨b, 0, none⟩) n n) xs := by
  subst hn
  subst hc
  refine ⟨_, _, rfl, Nat.le_refl _, fun k x hk => ⟨b, 0, rfl, rfl, fun j u hj => ?_⟩⟩
  rw [cell_of_row _ _ _ _ _ _ hb, List.getElem?_toArray, Nat.zero_add]
  exact flat_get hj xs k hxs hk
set_option maxRecDepth 100000 in
set_option maxHeartbeats 4000000 in
theorem versions_any (w : World) : Calls Tryz.prog 35 #[] w fun e w' => ∃ v, e = .returned v ∧ SlOn (fun k => k = w.heap.size) w' 3 v (V21.vers.map V21.Row3.cells) ∧ Below w.heap.size w w' := by
  go_enter Tryz.func35, Tryz.ntmps35
  go_wp2_with fail
  go_ret
  refine ⟨_, rfl, sl_of_block (by kernel_rfl) ?_ (heap_alloc_new _ _) (by kernel_rfl), (Below.refl _ _).alloc (Nat.le_refl _) _⟩
  intro x hx
  obtain ⟨r, _, rfl⟩ := List.mem_map.1 hx
  rfl
end Go.Proofs.YtfphcecjhdkcoaaGreatDoor

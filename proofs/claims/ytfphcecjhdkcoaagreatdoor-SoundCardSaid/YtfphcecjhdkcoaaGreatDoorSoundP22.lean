/-
The walks of a store's and a session's Fill.
-/
import Derived.Test.YtfphcecjhdkcoaaGreatDoorSoundP16
import Derived.Test.YtfphcecjhdkcoaaGreatDoorSoundP21
import Ieee.Arith
import Derived.Lib.Strings
import Derived.Laws.FloatArith
/-
Plain: a store whose power may go: alive, or gone in the middle of a change; and opened anew.
-/
namespace Go.Proofs.YtfphcecjhdkcoaaGreatDoor
namespace V14
open Sp (Str Pk Dk St)
/-- The power is gone in the middle of a change from L to A. -/
structure Gone (S n : Nat) (L A : List Pk) (x : St) : Prop where
  torn : V7.Torn S (V10.Two n L A) x.d
  okL : Sp.Ok L
  okA : Sp.Ok A
  roomL : Sp.size L ≤ Sp.room S
  roomA : Sp.size A ≤ Sp.room S
  big : 16 ≤ S ∧ S ≤ 256
  late : x.d.late.length < 900000
  few : n + 1 < 18446744073709551616
theorem save_late (d : Dk) (last : Nat) (b : Str) : (Sp.save d last b).late.length ≤ d.late.length + (b.length + 63) / 64 + 1 := by
  unfold Sp.save
  have h1 := V12.writes_len (Sp.chunks b) (Sp.areaFrom d.seen.length (last + 1)) d
  have h2 := V12.sync_len (d.writes (Sp.areaFrom d.seen.length (last + 1)) (Sp.chunks b))
  have h3 := V12.write_len ((d.writes (Sp.areaFrom d.seen.length (last + 1)) (Sp.chunks b)).sync) ((last + 1) % 2) (Sp.headB (last + 1) b.length (Sp.sum b))
  have h4 := V12.sync_len (((d.writes (Sp.areaFrom d.seen.length (last + 1)) (Sp.chunks b)).sync).write ((last + 1) % 2) (Sp.headB (last + 1) b.length (Sp.sum b)))
  rw [V6.chunks_len] at h1
  omega
theorem become_L (x : St) (A : List Pk) : (x.become A).L = A ∧ (x.become A).last ≤ x.last + 1 := by
  unfold St.become; split <;> exact ⟨rfl, by simp⟩
/-- A change: done, or the power went in the middle of it. -/
theorem become_cases {S : Nat} {x : St} (h : V10.Live S x) {A : List Pk} (hA : Sp.Ok A) (hr : Sp.size A ≤ Sp.room S) (hn : x.last + 1 < 18446744073709551616) (hp : A.length = x.L.length → A.Perm x.L) :
    ((x.become A).d.dead = false ∧ V10.Live S (x.become A)) ∨ ((x.become A).d.dead = true ∧ Gone S x.last x.L A (x.become A)) := by
  rcases V10.become_live h hA hr hn hp with h1 | h1
  · exact .inl h1
  · refine .inr ⟨h1.dead, h1, h.ok, hA, h.room, hr, h.big, ?_, hn⟩
    unfold St.become
    split
    · rw [h.calm.late]; decide
    · have h2 := save_late x.d x.last (Sp.joined A)
      have h3 := (V10.room_small hA.set h.big hr).1
      have h4 := h.big
      show (Sp.save x.d x.last (Sp.joined A)).late.length < 900000
      rw [h.calm.late] at h2
      unfold Sp.areaN at h3
      simp only [List.length_nil] at h2
      omega
theorem install_live {S : Nat} {x : St} (h : V10.Live S x) (hn : x.last + 1 < 18446744073709551616) (ts : List Str) :
    ((x.install ts).1.kind ≠ 0 ∧ (x.install ts).2 = x ∧ ∀ y : St, y.L = x.L → y.d.seen.length = x.d.seen.length → (y.install ts).1 = (x.install ts).1 ∧ (y.install ts).2 = y) ∨
    ∃ A o, Sp.planned x.L ts = .inr (A, o) ∧ Sp.size A ≤ Sp.room S ∧ (x.install ts).1 = Sp.okF ∧ (x.install ts).2 = x.become A ∧ Sp.Ok A ∧
      (((x.become A).d.dead = false ∧ V10.Live S (x.become A)) ∨ ((x.become A).d.dead = true ∧ Gone S x.last x.L A (x.become A))) := by
  cases hp : Sp.planned x.L ts with
  | inl f =>
    have := V11.planned_kind hp
    rw [V10.install_no hp]
    refine .inl ⟨by show f.kind ≠ 0; omega, rfl, fun y hy _ => ?_⟩
    rw [V10.install_no (x := y) (by rw [hy]; exact hp)]
    exact ⟨rfl, rfl⟩
  | inr Ao =>
    obtain ⟨A, o⟩ := Ao
    by_cases hr : Sp.room S < Sp.size A
    · have e := V10.install_full h hp hr
      rw [e]
      refine .inl ⟨by simp, rfl, fun y hy hl => ?_⟩
      have e2 : y.install ts = (⟨8, 0, 0, []⟩, y) := by unfold St.install; rw [hy, hp]; simp only; rw [hl, h.seen, if_pos hr]
      rw [e2]; exact ⟨rfl, rfl⟩
    · obtain ⟨e, hA, _⟩ := V10.install_yes h hn hp (by omega)
      obtain ⟨_, F, rfl, _⟩ := V9.planned_ok h.ok.set hp
      rw [e]
      exact .inr ⟨_, o, rfl, by omega, rfl, rfl, hA, become_cases h hA (by omega) hn fun e => by rw [V10.perm_of_len e, List.append_nil]⟩
theorem remove_live {S : Nat} {x : St} (h : V10.Live S x) (hn : x.last + 1 < 18446744073709551616) (ns : List Str) :
    ((x.remove ns).1.kind ≠ 0 ∧ (x.remove ns).2 = x ∧ ∃ f, Sp.removed x.L ns = .inl f ∧ (x.remove ns).1 = f) ∨
    ∃ A, Sp.removed x.L ns = .inr A ∧ Sp.size A ≤ Sp.room S ∧ (x.remove ns).1 = Sp.okF ∧ (x.remove ns).2 = x.become A ∧ Sp.Ok A ∧
      (((x.become A).d.dead = false ∧ V10.Live S (x.become A)) ∨ ((x.become A).d.dead = true ∧ Gone S x.last x.L A (x.become A))) := by
  cases hp : Sp.removed x.L ns with
  | inl f =>
    have e : x.remove ns = (f, x) := by unfold St.remove; rw [hp]
    rw [e]
    have := V11.removed_kind hp
    exact .inl ⟨by show f.kind ≠ 0; omega, rfl, f, rfl, rfl⟩
  | inr A =>
    obtain ⟨hA, hsub⟩ := V9.removed_ok h.ok hp
    have hsz : Sp.size A ≤ Sp.room S := by
      refine Nat.le_trans ?_ h.room
      unfold Sp.size
      exact V11.sum_sub (hsub.map _)
    have e : x.remove ns = (Sp.okF, x.become A) := by unfold St.remove; rw [hp, h.seen]; simp only; rw [if_neg (by omega)]
    rw [e]
    exact .inr ⟨A, rfl, hsz, rfl, rfl, hA, become_cases h hA hsz hn fun e => by rw [V11.filter_len hsub e]⟩
theorem gone_reopen {S n : Nat} {L A : List Pk} {x : St} (h : Gone S n L A x) (mask after : Int) :
    V10.Live S (x.reopen mask after) ∧ (((x.reopen mask after).last = n ∧ (x.reopen mask after).L = V8.byName L) ∨ ((x.reopen mask after).last = n + 1 ∧ (x.reopen mask after).L = V8.byName A)) :=
  V10.reopen_torn h.torn h.okL h.okA h.roomL h.roomA h.big mask after
theorem gone_cut {S n : Nat} {L A : List Pk} {x : St} (h : Gone S n L A x) (k : Int) : Gone S n L A (x.cut k) :=
  ⟨h.torn.cut k, h.okL, h.okA, h.roomL, h.roomA, h.big, h.late, h.few⟩
theorem texts_byName {L : List Pk} (h : Sp.Set L) : Sp.texts (V8.byName L) = Sp.texts L := (V8.texts_eq h (V8.byName_perm h).symm).symm
theorem live_few {S : Nat} {x : St} (h : V10.Live S x) : x.L.length ≤ 600 := by
  have h1 := V8.size_count h.ok.set.good
  have h2 := h.room
  have h3 := h.big
  unfold Sp.room at h2
  omega
/-- The power goes in the middle of an installation, and of opening: all of it is there, or what was. -/
theorem survives_law {S : Nat} {x : St} (h : V11.Sure S x) (hn : x.last + 1 < 18446744073709551616) (ts : List Str) (c mask after m2 : Int) :
    let z1 := ((x.cut c).install ts).2
    (z1.d.late.length < 900000 ∧ z1.d.seen.length = S ∧ V10.Live S (z1.reopen mask after) ∧ V10.Live S ((z1.reopen mask after).reopen m2 (-1)) ∧ V10.Live S (((z1.reopen mask after).reopen m2 (-1)).reopen 0 (-1))) ∧
    (Sp.texts (((z1.reopen mask after).reopen m2 (-1)).reopen 0 (-1)).L = Sp.texts (x.install ts).2.L ∨ (z1.d.dead = true ∧ Sp.texts (((z1.reopen mask after).reopen m2 (-1)).reopen 0 (-1)).L = Sp.texts x.L)) := by
  intro z1
  have hz : V10.Live S (x.cut c) := V10.cut_live h.live c
  have two : ∀ (y : St), V10.Live S y → V10.Live S (y.reopen m2 (-1)) ∧ V10.Live S ((y.reopen m2 (-1)).reopen 0 (-1)) ∧ Sp.texts (((y.reopen m2 (-1)).reopen 0 (-1)).L) = Sp.texts y.L := by
    intro y hy
    obtain ⟨b1, _, b3⟩ := V10.reopen_live hy m2 (-1)
    obtain ⟨c1, _, c3⟩ := V10.reopen_live b1 0 (-1)
    exact ⟨b1, c1, by rw [c3, texts_byName b1.ok.set, b3, texts_byName hy.ok.set]⟩
  have three : ∀ (y : St), V10.Live S y → (y.d.late.length < 900000 ∧ y.d.seen.length = S ∧ V10.Live S (y.reopen mask after) ∧ V10.Live S ((y.reopen mask after).reopen m2 (-1)) ∧ V10.Live S (((y.reopen mask after).reopen m2 (-1)).reopen 0 (-1))) ∧ Sp.texts ((((y.reopen mask after).reopen m2 (-1)).reopen 0 (-1)).L) = Sp.texts y.L := by
    intro y hy
    obtain ⟨a1, _, a3⟩ := V10.reopen_live hy mask after
    obtain ⟨b1, b2, b3⟩ := two _ a1
    exact ⟨⟨by rw [hy.calm.late]; decide, hy.seen, a1, b1, b2⟩, by rw [b3, a3, texts_byName hy.ok.set]⟩
  rcases install_live hz hn ts with ⟨_, e1, e2⟩ | ⟨A, o, hp, hr, _, e1, hA, hc⟩
  · obtain ⟨_, e3⟩ := e2 x rfl rfl
    have e1' : z1 = x.cut c := e1
    rw [e1', e3]
    obtain ⟨t1, t2⟩ := three _ hz
    exact ⟨t1, .inl t2⟩
  · have e3 : (x.install ts).2 = x.become A := by
      obtain ⟨i1, _, _⟩ := V10.install_yes h.live hn hp hr
      rw [i1]
    have e1' : z1 = (x.cut c).become A := e1
    rw [e3, (become_L x A).1, e1']
    rcases hc with ⟨_, hl⟩ | ⟨hd, hg⟩
    · obtain ⟨t1, t2⟩ := three _ hl
      exact ⟨t1, .inl (by rw [t2, (become_L _ A).1])⟩
    · obtain ⟨r1, r2⟩ := gone_reopen hg mask after
      obtain ⟨b1, b2, b3⟩ := two _ r1
      refine ⟨⟨hg.late, hg.torn.slen, r1, b1, b2⟩, ?_⟩
      rw [b3]
      rcases r2 with ⟨_, r2⟩ | ⟨_, r2⟩
      · exact .inr ⟨hd, by rw [r2, texts_byName hg.okL.set]; rfl⟩
      · exact .inl (by rw [r2, texts_byName hg.okA.set])
end V14
end Go.Proofs.YtfphcecjhdkcoaaGreatDoor
/-
Plain: the second word of a package's text, its lines, whose its paths are.
-/
namespace Go.Proofs.YtfphcecjhdkcoaaGreatDoor
namespace Sp
/-- The second word of a package's text. -/
def word2 (s : Str) : Str := if s.length < 8 then [] else (s.drop 8).takeWhile (fun c => c != 32)
/-- The path that a line names. -/
def fileOf (s : Str) : Option Str := if s.length < 5 || s.take 5 != [102, 105, 108, 101, 32] then none else some ((s.drop 5).takeWhile (fun c => c != 61))
end Sp
namespace V15
open Sp (Str Pk Dk St)
open V2 V3
theorem take_no {c : UInt8} : ∀ {a : Str} (r : Str), c ∉ a → (a ++ c :: r).takeWhile (fun x => x != c) = a
  | [], r, _ => by simp
  | x :: a, r, h => by
    have h1 : x ≠ c := fun e => h (by rw [e]; simp)
    have h2 : c ∉ a := fun e => h (List.mem_cons_of_mem _ e)
    rw [List.cons_append, List.takeWhile_cons_of_pos (by simpa using h1), take_no r h2]
theorem word2_print {p : Pk} (h : V3.Good p) : Sp.word2 (Sp.print p) = p.name := by
  obtain ⟨r, hr, _⟩ := print_head p
  unfold Sp.word2
  rw [hr, if_neg (by simp)]
  show (p.name ++ 32 :: r).takeWhile _ = _
  exact take_no r (V1.name_no h.wf.name (by decide))
theorem split_print {p : Pk} (h : V3.Good p) : Lib.split (Sp.print p) [10] = linesOf p := by
  have hn := no10_lines h.wf
  rw [print_join, V1.split_join 10 [10] 0 rfl u10 (linesOf p) (linesOf_ne p) fun s hs => (hn s hs).1]
theorem fileOf_fileL {f : Sp.Fl} (h : WfF f) : Sp.fileOf (fileL f) = some f.path := by
  unfold Sp.fileOf fileL Sp.fileW
  have e : ([102, 105, 108, 101] ++ 32 :: (f.path ++ 61 :: f.content) : Str) = 102 :: 105 :: 108 :: 101 :: 32 :: (f.path ++ 61 :: f.content) := rfl
  rw [e]
  rw [if_neg (by simp)]
  show some ((f.path ++ 61 :: f.content).takeWhile _) = _
  rw [take_no _ (V1.path_no h.1 (by decide) (by decide))]
theorem fileOf_other {a : UInt8} {s : Str} (h : a ≠ 102) : Sp.fileOf (a :: s) = none := by
  unfold Sp.fileOf
  rw [if_pos]
  cases s with
  | nil => rfl
  | cons b r => simp [h]
/-- The paths that a package's lines name are its files'. -/
theorem lines_files {p : Pk} (h : V3.Good p) : ∀ s ∈ Lib.split (Sp.print p) [10], ∀ x, Sp.fileOf s = some x → x ∈ p.files.map (·.path) := by
  intro s hs x hx
  rw [split_print h] at hs
  unfold linesOf at hs
  rcases List.mem_cons.1 hs with rfl | hs
  · rw [show pkL p = 112 :: _ from rfl, fileOf_other (by decide)] at hx; cases hx
  · rcases List.mem_append.1 hs with hs | hs
    · unfold needsLs at hs
      split at hs
      · cases hs
      · rw [List.mem_singleton] at hs; subst hs
        rw [show needsL p.needs = 110 :: _ from rfl, fileOf_other (by decide)] at hx; cases hx
    · rcases List.mem_append.1 hs with hs | hs
      · unfold barsLs at hs
        split at hs
        · cases hs
        · rw [List.mem_singleton] at hs; subst hs
          rw [show barsL p.bars = 98 :: _ from rfl, fileOf_other (by decide)] at hx; cases hx
      · obtain ⟨f, hf, rfl⟩ := List.mem_map.1 hs
        rw [fileOf_fileL (h.wf.paths f hf)] at hx
        injection hx with hx
        exact List.mem_map.2 ⟨f, hf, hx⟩
/-- Among what goes together a path is one package's. -/
theorem path_one {L : List Pk} (h : Sp.Ok L) {p q : Pk} (hp : p ∈ L) (hq : q ∈ L) {x : Str} (h1 : x ∈ p.files.map (·.path)) (h2 : x ∈ q.files.map (·.path)) : p = q := by
  have hn := V9.paths_nodup h
  clear h
  induction L with
  | nil => cases hp
  | cons a r ih =>
    have e : Sp.paths (a :: r) = a.files.map (·.path) ++ Sp.paths r := by unfold Sp.paths; rw [List.flatMap_cons]
    rw [e, List.nodup_append] at hn
    have hr : ∀ {b : Pk}, b ∈ r → x ∈ b.files.map (·.path) → x ∈ Sp.paths r := fun hb hx => by unfold Sp.paths; exact List.mem_flatMap.2 ⟨_, hb, hx⟩
    rcases List.mem_cons.1 hp with e1 | hp1
    · rcases List.mem_cons.1 hq with e2 | hq1
      · rw [e1, e2]
      · subst e1; exact absurd rfl (hn.2.2 x h1 x (hr hq1 h2))
    · rcases List.mem_cons.1 hq with e2 | hq1
      · subst e2; exact absurd rfl (hn.2.2 x h2 x (hr hp1 h1))
      · exact ih hp1 hq1 hn.2.1
theorem owner_of {L : List Pk} (h : Sp.Ok L) {p : Pk} (hp : p ∈ L) {x : Str} (hx : x ∈ p.files.map (·.path)) : Sp.owner L x = p.name := by
  unfold Sp.owner
  cases hf : L.find? (fun p => (p.files.map (·.path)).contains x) with
  | none =>
    rw [List.find?_eq_none] at hf
    exact absurd (List.contains_iff_mem.2 hx) (hf p hp)
  | some q =>
    have h1 := List.mem_of_find?_eq_some hf
    have h2 := List.find?_some hf
    simp only
    rw [path_one h h1 hp (List.contains_iff_mem.1 h2) hx]
theorem owner_none {L : List Pk} {x : Str} (hx : ∀ p ∈ L, x ∉ p.files.map (·.path)) : Sp.owner L x = [] := by
  unfold Sp.owner
  have hf : L.find? (fun p => (p.files.map (·.path)).contains x) = none := by
    rw [List.find?_eq_none]
    intro p hp hc
    exact hx p hp (List.contains_iff_mem.1 hc)
  rw [hf]
/-- What a session tells of a text: its names, one behind the other. -/
theorem read_words {ts : List Str} {i : Nat} {F : List Pk} (h : Sp.readAll i ts = .inr F) (k : Nat) (hk : k < ts.length) : ∃ p, Sp.parse ts[k] = .inr p ∧ V3.Good p ∧ (Sp.names F)[k]? = some p.name := by
  have hm := (V9.readAll_map ts i F).1 h
  have hl := V9.read_len h
  have h1 : (ts.map Sp.parse)[k]? = some (Sp.parse ts[k]) := by rw [List.getElem?_map, List.getElem?_eq_getElem hk]; rfl
  rw [hm, List.getElem?_map, List.getElem?_eq_getElem (by omega)] at h1
  injection h1 with h1
  refine ⟨F[k], h1.symm, V9.read_good h _ (List.getElem_mem _), ?_⟩
  unfold Sp.names
  rw [List.getElem?_map, List.getElem?_eq_getElem (by omega)]; rfl
end V15
end Go.Proofs.YtfphcecjhdkcoaaGreatDoor
/-
Walks of the statements' name (a package's second word) and lines (of a text).
-/
namespace Go.Proofs.YtfphcecjhdkcoaaGreatDoor
open Go.RowKit Go.Maps
namespace KW
theorem ne_of {s : ByteArray} {k : Nat} {c : UInt8} (h : k < s.size) (hne : s[k] ≠ c) : ((s[k].toNat : Int) != (c.toNat : Int)) = true := by
  simp only [bne_iff_ne]
  intro h'
  apply hne
  rw [← UInt8.toNat_inj]
  omega
theorem eq_of {s : ByteArray} {k : Nat} {c : UInt8} (h : k < s.size) (he : s[k] = c) : ((s[k].toNat : Int) != (c.toNat : Int)) = false := by
  rw [he]; simp
/-- A word has been gone through up to k. -/
theorem word_stop {s : ByteArray} {c : UInt8} {a k : Nat} (hak : a ≤ k) (hk : k ≤ s.size) (h : ∀ x ∈ ((bl s).drop a).take (k - a), (x != c) = true) (hs : k = s.size ∨ ∃ h : k < s.size, s[k] = c) :
    ((bl s).drop a).takeWhile (fun x => x != c) = ((bl s).drop a).take (k - a) := by
  have e : (bl s).drop a = ((bl s).drop a).take (k - a) ++ (bl s).drop k := by
    conv => lhs; rw [← List.take_append_drop (k - a) ((bl s).drop a)]
    rw [List.drop_drop, show a + (k - a) = k from by omega]
  rw [e, List.take_append_of_le_length (by rw [List.length_take, List.length_drop, bl_len]; omega), List.take_take, Nat.min_self, List.takeWhile_append_of_pos h]
  rcases hs with hs | ⟨hlt, he⟩
  · have hn : (bl s).drop k = [] := List.drop_eq_nil_of_le (by rw [bl_len]; omega)
    rw [hn]; simp
  · have hl : k < (bl s).length := by rw [bl_len]; exact hlt
    rw [List.drop_eq_getElem_cons hl, List.takeWhile_cons_of_neg]
    · simp
    · have : (bl s)[k] = c := he
      simp [this]
theorem word_next {s : ByteArray} {c : UInt8} {a k : Nat} (hak : a ≤ k) (hk : k < s.size) (h : ∀ x ∈ ((bl s).drop a).take (k - a), (x != c) = true) (hne : s[k] ≠ c) :
    ∀ x ∈ ((bl s).drop a).take (k + 1 - a), (x != c) = true := by
  have hl : k - a < ((bl s).drop a).length := by rw [List.length_drop, bl_len]; omega
  have e : ((bl s).drop a).take (k + 1 - a) = ((bl s).drop a).take (k - a) ++ [s[k]] := by
    rw [show k + 1 - a = k - a + 1 from by omega, List.take_succ_eq_append_getElem hl]
    congr 2
    rw [List.getElem_drop]
    show _ = (bl s)[k]'(by rw [bl_len]; exact hk)
    congr 1; omega
  intro x hx
  rw [e] at hx
  rcases List.mem_append.1 hx with hx | hx
  · exact h x hx
  · rw [List.mem_singleton] at hx; subst hx; simpa using hne
end KW
set_option maxRecDepth 100000 in
set_option maxHeartbeats 1000000 in
theorem name_any (s : ByteArray) (w : World) (hs : s.size ≤ 4611686018427387904) :
    Calls Tryz.prog 31 #[.string s] w fun e w' => e = .returned (sv (Sp.word2 (bl s))) ∧ w' = w := by
  by_cases h8 : s.size < 8
  · have hw : Sp.word2 (bl s) = [] := by unfold Sp.word2; rw [bl_len, if_pos h8]
    have HW := Lib.hid hw
    have h8i : ¬ (8 : Int) < (s.size : Int) := by omega
    clear hw
    go_enter Tryz.func31, Tryz.ntmps31
    go_wp2
    refine wp_loop_rounds 1 ?_
    rw [rounds_succ]
    go_wp2
    go_ret
    exact ⟨by rw [HW.out]; rfl, rfl⟩
  · have hw : Sp.word2 (bl s) = ((bl s).drop 8).takeWhile (fun x => x != 32) := by unfold Sp.word2; rw [bl_len, if_neg h8]
    have HW := Lib.hid hw
    clear hw
    go_enter Tryz.func31, Tryz.ntmps31
    go_wp2
    go_loop [3] (fun i => ∃ k : Nat, 8 ≤ k ∧ k ≤ s.size ∧ i = .int .i64 k ∧ ∀ x ∈ ((bl s).drop 8).take (k - 8), (x != 32) = true) (fun i => s.size - (intOf i).toNat)
    case atStart => exact ⟨8, Nat.le_refl _, by omega, rfl, fun x hx => by simp at hx⟩
    case round =>
      obtain ⟨k, hk8, hk, rfl, hd⟩ := hrel
      have HD := Lib.hid hd
      clear hd
      by_cases h : k < s.size
      · by_cases hc : s[k] = 32
        · have he := KW.eq_of h hc
          rw [show ((32 : UInt8).toNat : Int) = 32 from rfl] at he
          have HC := Lib.hid hc
          clear hc
          go_wp2
          go_ret
          refine ⟨?_, rfl⟩
          rw [HW.out, KW.word_stop hk8 hk HD.out (.inr ⟨h, HC.out⟩)]
          exact ret_str (by rw [bl_ext]; rfl)
        · have hne := KW.ne_of h hc
          rw [show ((32 : UInt8).toNat : Int) = 32 from rfl] at hne
          have HC := Lib.hid hc
          clear hc
          go_wp2
          go_round
          case rel => exact ⟨k + 1, by omega, h, by go_num, KW.word_next hk8 h HD.out HC.out⟩
          case measure => simp [intOf]; omega
      · have hke : k = s.size := by omega
        have HKE := Lib.hid hke
        clear hke
        go_wp2
        go_ret
        refine ⟨?_, rfl⟩
        rw [HW.out, KW.word_stop hk8 hk HD.out (.inl HKE.out)]
        exact ret_str (by rw [bl_ext]; rfl)
set_option maxRecDepth 100000 in
set_option maxHeartbeats 1000000 in
theorem lines_any (s : ByteArray) (w : World) (hs : s.size < 1099511627776) :
    Calls Tryz.prog 55 #[.string s] w fun e w' => ∃ v, e = .returned v ∧ w'.ownsRow w.heap.size 9 1 v (Lib.split (bl s) [10]).length ((Lib.split (bl s) [10]).map sv) ∧ Below w.heap.size w w' := by
  have h10 : ([10] : Sp.Str) ≠ [] := by decide
  have HT := Lib.hid h10
  clear h10
  obtain ⟨B, hB⟩ : ∃ B, w.heap.size = B := ⟨_, rfl⟩
  rw [hB]
  have HB := Lib.hid hB
  clear hB
  go_enter Tryz.func55, Tryz.ntmps55
  go_wp2
  go_loopw [3, 4, 5] (fun v f i wr => ∃ (done : List Sp.Str) (a b : Nat), f = .int .i64 a ∧ i = .int .i64 b ∧ b ≤ s.size + 1 ∧ a ≤ s.size + 1 ∧ done.length ≤ s.size + 1 ∧ (b ≤ s.size → R2.Far (bl s) [10] done a b) ∧ (s.size < b → done = Lib.split (bl s) [10]) ∧ wr.ownsRow B 9 1 v done.length (done.map sv) ∧ Below B w wr) (fun _ _ i _ => s.size + 2 - (intOf i).toNat)
  case atStart => exact ⟨[], 0, 0, rfl, rfl, Nat.zero_le _, Nat.zero_le _, Nat.zero_le _, fun _ => R2.far0 _ _, fun h => by omega, World.ownsRow_nil _ _ _ _, Below.refl _ _⟩
  case round =>
    obtain ⟨done, a, b, rfl, rfl, hb, ha, hdl, hfar, hend, hown, hbel⟩ := hrel
    have HF := Lib.hid hfar
    have HE := Lib.hid hend
    clear hfar hend
    have hB' : B ≤ wr.heap.size := by have := hbel.size; rw [HB.out] at this; exact this
    by_cases hle : b ≤ s.size
    · have hfar := HF.out hle
      have h1 : a ≤ b := hfar.1
      have h3 : done.length ≤ s.size := by have := R2.far_len HT.out hfar; rw [bl_len] at this; exact this
      have HF := Lib.hid hfar
      clear hfar
      by_cases hlt : b < s.size
      · have hne : ¬ ((b : Int) = (s.size : Int)) := by omega
        by_cases hc : s[b] = 10
        · have he : ((s[b].toNat : Int) == 10) = true := by rw [hc]; rfl
          have hq : (((bl s).drop b).take 1 == [10]) = true := by
            have := bl_one s b hlt
            rw [bl_ext, show b + 1 - b = 1 from by omega] at this
            rw [this, hc]; rfl
          have HQ := Lib.hid hq
          clear hc hq
          go_wp2_with (at_builtin; refine wp_app app38 wr [.string (s.extract a b)] rfl (by simp [Value.oneCell']) rfl _ _ rfl B _ _ _ rfl hown rfl (by omega) hB' ?_; intro v' w1 hown' hgrow _)
          have hb1 := below_of_grown hbel hB' hown hgrow
          go_roundw
          case rel =>
            have hf := R2.far_hit HT.out HF.out (by rw [bl_len]; exact hlt) HQ.out
            have e : [Value.string (s.extract a b)] = [sv ((List.drop a (bl s)).take (b - a))] := by rw [← bl_ext]; unfold sv; rw [mk_bl]
            rw [e] at hown'
            exact ⟨_, b + 1, b + 1, by go_num, by go_num, by omega, by omega, by simp; omega, fun _ => hf, fun h => by omega, by simpa using hown', hb1⟩
          case measure => simp [intOf]; omega
        · have he : ((s[b].toNat : Int) == 10) = false := by
            rw [beq_eq_false_iff_ne]; intro h'; apply hc; rw [← UInt8.toNat_inj]; show s[b].toNat = 10; omega
          have hq : (((bl s).drop b).take 1 == [10]) = false := by
            have := bl_one s b hlt
            rw [bl_ext, show b + 1 - b = 1 from by omega] at this
            rw [this]; simpa using hc
          have HQ := Lib.hid hq
          clear hc hq
          go_wp2
          go_roundw
          case rel => exact ⟨done, a, b + 1, rfl, by go_num, by omega, by omega, by omega, fun _ => R2.far_miss HF.out HT.out (by rw [bl_len]; exact hlt) HQ.out, fun h => by omega, hown, hbel⟩
          case measure => simp [intOf]; omega
      · obtain rfl : b = s.size := by omega
        go_wp2_with (at_builtin; refine wp_app app38 wr [.string (s.extract a s.size)] rfl (by simp [Value.oneCell']) rfl _ _ rfl B _ _ _ rfl hown rfl (by omega) hB' ?_; intro v' w1 hown' hgrow _)
        have hb1 := below_of_grown hbel hB' hown hgrow
        go_roundw
        case rel =>
          have hf := R2.far_end HT.out HF.out (by simp [bl_len])
          have e : [Value.string (s.extract a s.size)] = [sv (List.drop a (bl s))] := by rw [← bl_from]; unfold sv; rw [mk_bl]
          rw [e] at hown'
          exact ⟨done ++ [List.drop a (bl s)], s.size + 1, s.size + 1, by go_num, by go_num, by omega, by omega, by simp; omega, fun h => by omega, fun _ => hf.symm, by simpa using hown', hb1⟩
        case measure => simp [intOf]
    · have hd := HE.out (by omega)
      have HDN := Lib.hid hd
      clear hd
      go_wp2
      go_ret
      exact ⟨_, rfl, by rw [← HDN.out]; exact hown, hbel⟩
end Go.Proofs.YtfphcecjhdkcoaaGreatDoor
/-
What the walks of the statements on sessions whose power may go carry along.
-/
namespace Go.Proofs.YtfphcecjhdkcoaaGreatDoor
open Go.RowKit Go.Maps
/-- A session in memory: all of it lies in O, from block B on. -/
structure Bare (B : Nat) (O : Nat → Prop) (w : World) (x : Nat) (st : Sp.St) : Prop where
  ses : Ses O w x st
  low : ∀ k, O k → B ≤ k ∧ k < w.heap.size
theorem Run.bare {B S : Nat} {O : Nat → Prop} {w : World} {x : Nat} {st : Sp.St} (h : Run B S O w x st) : Bare B O w x st := ⟨h.ses, h.low⟩
theorem fit_live {S : Nat} {x : Sp.St} (h : V10.Live S x) (hl : x.last ≤ 1000000) : Fit x := fit_of_live h (by omega)
namespace Bare
variable {B : Nat} {O M : Nat → Prop} {w w' : World} {x : Nat} {st : Sp.St}
theorem below (h : Bare B O w x st) (hb : Below w.heap.size w w') : Bare B O w' x st := ⟨h.ses.below hb, fun k hk => ⟨(h.low k hk).1, Nat.lt_of_lt_of_le (h.low k hk).2 hb.size⟩⟩
theorem chg (h : Bare B O w x st) (hc : Chg M w w') (hm : ∀ k, O k → ¬ M k) : Bare B O w' x st := ⟨h.ses.keep (fun k hk hl => hc.block k hl (hm k hk)) hc.size, fun k hk => ⟨(h.low k hk).1, Nat.lt_of_lt_of_le (h.low k hk).2 hc.size⟩⟩
theorem grown (hz : w.heap.size ≤ w'.heap.size) (hB : B ≤ w.heap.size) (h : ∀ k, O k → B ≤ k ∧ k < w.heap.size) (hs : Ses (fun k => O k ∨ w.heap.size ≤ k) w' x st) : Bare B (fun k => O k ∨ w.heap.size ≤ k ∧ k < w'.heap.size) w' x st :=
  ⟨hs.mono fun k hl hk => hk.imp id fun h => ⟨h, hl⟩, fun k hk => by
    rcases hk with hk | hk
    · exact ⟨(h k hk).1, by have := (h k hk).2; omega⟩
    · exact ⟨by omega, hk.2⟩⟩
theorem install {G : Nat} (hw : Wd G w) (h : Bare B O w x st) (hG : G ≤ B) (hB : B ≤ w.heap.size) (hf : Fit st) (tv : Value) (ts : List Sp.Str) (htv : StrsAt w tv ts) (hts : ts.length ≤ 9000) :
    Calls Tryz.prog 25 #[.pointer (some ⟨x, 0, none⟩), tv] w fun e w' => e = .returned (faultV (st.install ts).1) ∧ Chg O w w' ∧ Bare B (fun k => O k ∨ w.heap.size ≤ k ∧ k < w'.heap.size) w' x (st.install ts).2 := by
  refine (sesInstall_any hw.glob hw.err (fun k hk => Nat.le_trans hG (h.low k hk).1) h.ses hf tv ts htv hts).mono ?_
  rintro e w' ⟨rfl, hc, hs⟩
  exact ⟨rfl, hc, grown hc.size hB h.low hs⟩
theorem remove {G : Nat} (hw : Wd G w) (h : Bare B O w x st) (hG : G ≤ B) (hB : B ≤ w.heap.size) (hf : Fit st) (tv : Value) (ts : List Sp.Str) (htv : StrsAt w tv ts) (hts : ts.length ≤ 9000) (hnl : ∀ n ∈ ts, n.length ≤ 10000) :
    Calls Tryz.prog 32 #[.pointer (some ⟨x, 0, none⟩), tv] w fun e w' => e = .returned (faultV (st.remove ts).1) ∧ Chg O w w' ∧ Bare B (fun k => O k ∨ w.heap.size ≤ k ∧ k < w'.heap.size) w' x (st.remove ts).2 := by
  refine (sesRemove_any hw.glob hw.err (fun k hk => Nat.le_trans hG (h.low k hk).1) h.ses hf tv ts htv hts hnl).mono ?_
  rintro e w' ⟨rfl, hc, hs⟩
  exact ⟨rfl, hc, grown hc.size hB h.low hs⟩
theorem plan {G : Nat} (hw : Wd G w) (h : Bare B O w x st) (hf : Fit st) (tv : Value) (ts : List Sp.Str) (htv : StrsAt w tv ts) (hts : ts.length ≤ 9000) :
    Calls Tryz.prog 23 #[.pointer (some ⟨x, 0, none⟩), tv] w fun e w' => ∃ v, e = .returned (.tuple #[v, faultV (st.plan ts).1]) ∧ StrsFrom w.heap.size w' v (st.plan ts).2 ∧ Below w.heap.size w w' :=
  sesPlan_any hw.glob hw.err h.ses hf tv ts htv hts
theorem packages (h : Bare B O w x st) {S : Nat} (hl : V10.Live S st) : Calls Tryz.prog 26 #[.pointer (some ⟨x, 0, none⟩)] w fun e w' => ∃ v, e = .returned (.tuple #[v, .bool true]) ∧ StrsFrom w.heap.size w' v (Sp.texts st.L) ∧ Below w.heap.size w w' :=
  PK.packages_any h.ses hl.ok.set (by have := V14.live_few hl; omega)
theorem cut (h : Bare B O w x st) (k : Int) (hk : k ≤ 9223372036854775807) :
    Calls Tryz.prog 28 #[.pointer (some ⟨x, 0, none⟩), .int .i64 k] w fun e w' => e = .returned (.tuple #[]) ∧ Chg O w w' ∧ Bare B O w' x (st.cut k) := by
  refine (sesCut_any h.ses k hk).mono ?_
  rintro e w' ⟨rfl, hc, hs⟩
  exact ⟨rfl, hc, hs, fun k hk => ⟨(h.low k hk).1, Nat.lt_of_lt_of_le (h.low k hk).2 hc.size⟩⟩
theorem lost (h : Bare B O w x st) : Calls Tryz.prog 29 #[.pointer (some ⟨x, 0, none⟩)] w fun e w' => e = .returned (.bool st.d.dead) ∧ w' = w := sesLost_any h.ses
theorem reopen {G S : Nat} (hw : Wd G w) (h : Bare B O w x st) (hG : G ≤ B) (hB : B ≤ w.heap.size) (mask after : Int) (hm1 : -9223372036854775808 ≤ mask) (hm2 : mask ≤ 9223372036854775807) (ha : after ≤ 9223372036854775807)
    (hlate : st.d.late.length < 900000) (hS : 16 ≤ st.d.seen.length) (hl : V10.Live S (st.reopen mask after)) :
    Calls Tryz.prog 30 #[.pointer (some ⟨x, 0, none⟩), .int .i64 mask, .int .i64 after] w fun e w' => e = .returned (faultV Sp.okF) ∧ Chg O w w' ∧ Bare B (fun k => O k ∨ w.heap.size ≤ k ∧ k < w'.heap.size) w' x (st.reopen mask after) := by
  refine (sesReopen_any hw.glob (fun k hk => Nat.le_trans hG (h.low k hk).1) h.ses mask after hm1 hm2 ha (by omega) hS hl.ok (by have := V14.live_few hl; omega)).mono ?_
  rintro e w' ⟨rfl, hc, hs⟩
  exact ⟨rfl, hc, grown hc.size hB h.low hs⟩
end Bare
/-- Texts that lie in blocks of their own. -/
def StrsIn (B C : Nat) (w : World) (v : Value) (l : List Sp.Str) : Prop := SlOn (fun k => B ≤ k ∧ k < C) w 1 v (l.map fun s => [sv s])
namespace StrsIn
variable {B C : Nat} {M : Nat → Prop} {w w' : World} {v : Value} {l : List Sp.Str}
theorem of_from (h : StrsFrom B w v l) (hC : w.heap.size ≤ C) : StrsIn B C w v l := SlOn.mono h fun k hk => ⟨hk.1, by have := hk.2; omega⟩
theorem below (h : StrsIn B C w v l) (hb : Below w.heap.size w w') (hC : C ≤ w.heap.size) : StrsIn B C w' v l := SlOn.keep h fun k hk => hb.block k (by have := hk.2; omega)
theorem chg (h : StrsIn B C w v l) (hc : Chg M w w') (hC : C ≤ w.heap.size) (hm : ∀ k, M k → k < B ∨ C ≤ k) : StrsIn B C w' v l := SlOn.keep h fun k hk => hc.block k (by have := hk.2; omega) fun hx => by
  have := hm k hx
  have := hk.1
  have := hk.2
  omega
theorem at_ (h : StrsIn B C w v l) (hC : C ≤ w.heap.size) : StrsAt w v l := SlOn.mono h fun k hk => by have := hk.2; omega
end StrsIn
end Go.Proofs.YtfphcecjhdkcoaaGreatDoor
/-
Plain: one number divided by another as floats: between nought and one.
-/
namespace Go.Proofs.YtfphcecjhdkcoaaGreatDoor
namespace V16
open Ieee
theorem read_rung (A : Nat) (k : Nat) (h1 : 4503599627370496 ≤ A) (h2 : A < 9007199254740992) (hk : k ≤ 2045) : double.read (k * 4503599627370496 + A) = .number false A (-1074 + (k : Int)) := by
  have e1 : double.signWeight = 9223372036854775808 := by decide +kernel
  have e2 : double.binade = 4503599627370496 := by decide +kernel
  have e3 : double.infRung = 9218868437227405312 := by decide +kernel
  have e4 : double.leastPlace = -1074 := by decide +kernel
  unfold Format.read
  simp only [e1, e2, e3, e4]
  have q1 : (k * 4503599627370496 + A) / 9223372036854775808 = 0 := by omega
  have q2 : (k * 4503599627370496 + A) % 9223372036854775808 = k * 4503599627370496 + A := by omega
  have q3 : (k * 4503599627370496 + A) % 4503599627370496 = A - 4503599627370496 := by omega
  have q4 : (k * 4503599627370496 + A) / 4503599627370496 = k + 1 := by omega
  rw [q1, q2, q3, q4, if_neg (by omega), if_pos (by omega)]
  have e5 : 4503599627370496 + (A - 4503599627370496) = A := by omega
  have e6 : (-1074 : Int) + ((k + 1 - 1 : Nat) : Int) = -1074 + (k : Int) := by omega
  rw [e5, e6]
  rfl
theorem cut_zero (x : Nat) : Toward.even.cut false x 0 = x := by
  unfold Toward.cut
  have : (1 <<< min 0 (x.log2 + 2)) = 1 := by rw [Nat.zero_min]; rfl
  simp only [this, Nat.div_one, Nat.mod_one]
  rfl
theorem log2_bounds {n : Nat} (h : n ≠ 0) : 2 ^ n.log2 ≤ n ∧ n < 2 ^ (n.log2 + 1) := ⟨Nat.log2_self_le h, Nat.lt_log2_self⟩
theorem log2_eq {n k : Nat} (h1 : 2 ^ k ≤ n) (h2 : n < 2 ^ (k + 1)) : n.log2 = k := by
  have h0 : n ≠ 0 := by have := Nat.two_pow_pos k; omega
  have a := (Nat.le_log2 h0).2 h1
  have b := (Nat.log2_lt h0).2 h2
  omega
/-- A small number is a float. -/
theorem small (n : Nat) (h0 : n ≠ 0) (h : n < 8192) : ∃ A l, n.log2 = l ∧ l ≤ 12 ∧ A = n * 2 ^ (52 - l) ∧ 4503599627370496 ≤ A ∧ A < 9007199254740992 ∧ double.read (double.nearest false n 0) = .number false A ((l : Int) - 52) := by
  obtain ⟨b1, b2⟩ := log2_bounds h0
  have hl : n.log2 ≤ 12 := by
    have := (Nat.log2_lt h0).2 (show n < 2 ^ 13 from h)
    omega
  generalize hle : n.log2 = l at b1 b2 hl
  have hp : (2 : Nat) ^ 52 = 2 ^ l * 2 ^ (52 - l) := by rw [← Nat.pow_add]; congr 1; omega
  have hpos := Nat.two_pow_pos (52 - l)
  have hA1 : 4503599627370496 ≤ n * 2 ^ (52 - l) := by
    have h4 : 2 ^ l * 2 ^ (52 - l) ≤ n * 2 ^ (52 - l) := Nat.mul_le_mul_right _ b1
    rw [← hp] at h4; exact h4
  have hA2 : n * 2 ^ (52 - l) < 9007199254740992 := by
    have h4 : n * 2 ^ (52 - l) < 2 ^ (l + 1) * 2 ^ (52 - l) := (Nat.mul_lt_mul_right hpos).2 b2
    rw [Nat.pow_succ, Nat.mul_assoc, Nat.mul_comm 2, ← Nat.mul_assoc, ← hp] at h4; exact h4
  refine ⟨_, l, rfl, hl, rfl, hA1, hA2, ?_⟩
  have e2 : double.binade = 4503599627370496 := by decide +kernel
  have e3 : double.infRung = 9218868437227405312 := by decide +kernel
  have e4 : double.leastPlace = -1074 := by decide +kernel
  have e5 : double.fractionBits = 52 := rfl
  unfold Format.nearest
  rw [if_neg h0]
  simp only [e2, e3, e4, e5, hle]
  have m1 : max ((0 : Int) + (l : Nat) - (52 : Nat)) (-1074) = (l : Int) - 52 := by omega
  rw [m1]
  have m2 : ((0 : Int) - ((l : Int) - 52)).toNat = 52 - l := by omega
  have m3 : (((l : Int) - 52) - 0).toNat = 0 := by omega
  have m4 : (((l : Int) - 52) - (-1074)).toNat = 1022 + l := by omega
  rw [m2, m3, m4, cut_zero, Nat.shiftLeft_eq]
  unfold Format.word
  rw [if_neg (by decide), Nat.min_eq_left (by omega), read_rung _ _ hA1 hA2 (by omega)]
  congr 1
  omega
/-- A number of 54 or 55 digits behind the first, at most one in all, as a float. -/
theorem nearest_le (q : Nat) (p : Int) (hp1 : -70 ≤ p) (L : Nat) (hL : L = 54 ∨ L = 55) (h1 : 2 ^ L ≤ q) (h2 : q < 2 ^ (L + 1)) (hv : p + L ≤ -1 ∨ (q = 2 ^ L ∧ p + L = 0)) :
    ∃ M t, double.read (double.nearest false q p) = .number false M t ∧ M < 9007199254740992 ∧ (t ≤ -53 ∨ (t = -52 ∧ M = 4503599627370496)) := by
  have h0 : q ≠ 0 := by have := Nat.two_pow_pos L; omega
  have hlog := log2_eq h1 h2
  have e2 : double.binade = 4503599627370496 := by decide +kernel
  have e3 : double.infRung = 9218868437227405312 := by decide +kernel
  have e4 : double.leastPlace = -1074 := by decide +kernel
  have e5 : double.fractionBits = 52 := rfl
  unfold Format.nearest
  rw [if_neg h0]
  simp only [e2, e3, e4, e5, hlog]
  have m1 : max (p + (L : Nat) - (52 : Nat)) (-1074) = p + L - 52 := by omega
  rw [m1]
  have m2 : (p - (p + (L : Int) - 52)).toNat = 0 := by omega
  have m3 : ((p + (L : Int) - 52) - p).toNat = L - 52 := by omega
  rw [m2, m3, Nat.shiftLeft_zero]
  obtain ⟨k, hk⟩ : ∃ k : Nat, (k : Int) = p + L - 52 + 1074 := ⟨(p + L - 52 + 1074).toNat, by omega⟩
  have m4 : ((p + (L : Int) - 52) - (-1074)).toNat = k := by omega
  rw [m4]
  obtain ⟨kept, hkept⟩ : ∃ kept, kept = Toward.even.cut false q (L - 52) := ⟨_, rfl⟩
  have hb : 4503599627370496 ≤ kept ∧ kept ≤ 9007199254740992 ∧ (q = 2 ^ L → kept = 4503599627370496) := by
    rw [hkept]
    unfold Toward.cut
    simp only [hlog]
    rcases hL with rfl | rfl
    · have g : (1 <<< min (54 - 52) (54 + 2) : Nat) = 4 := by decide
      rw [g]
      generalize hmo : (decide (4 < 2 * (q % 4)) || (4 == 2 * (q % 4) && q / 4 % 2 == 1)) = mo
      have hm : mo.toNat ≤ 1 := by cases mo <;> decide
      have hm2 : q % 4 = 0 → mo.toNat = 0 := fun e => by rw [← hmo, e]; rfl
      have p1 : (2 : Nat) ^ 54 = 18014398509481984 := by decide
      have p2 : (2 : Nat) ^ (54 + 1) = 36028797018963968 := by decide
      rw [p1] at h1; rw [p2] at h2; rw [p1]
      refine ⟨by omega, by omega, fun e => ?_⟩
      have := hm2 (by omega)
      omega
    · have g : (1 <<< min (55 - 52) (55 + 2) : Nat) = 8 := by decide
      rw [g]
      generalize hmo : (decide (8 < 2 * (q % 8)) || (8 == 2 * (q % 8) && q / 8 % 2 == 1)) = mo
      have hm : mo.toNat ≤ 1 := by cases mo <;> decide
      have hm2 : q % 8 = 0 → mo.toNat = 0 := fun e => by rw [← hmo, e]; rfl
      have p1 : (2 : Nat) ^ 55 = 36028797018963968 := by decide
      have p2 : (2 : Nat) ^ (55 + 1) = 72057594037927936 := by decide
      rw [p1] at h1; rw [p2] at h2; rw [p1]
      refine ⟨by omega, by omega, fun e => ?_⟩
      have := hm2 (by omega)
      omega
  rw [← hkept]
  clear hkept
  obtain ⟨b1, b2, b3⟩ := hb
  unfold Format.word
  rw [if_neg (by decide), Nat.min_eq_left (by omega)]
  by_cases hlt : kept < 9007199254740992
  · rw [read_rung _ _ b1 hlt (by omega)]
    refine ⟨kept, _, rfl, hlt, ?_⟩
    rcases hv with hv | ⟨hq, hv⟩
    · left; omega
    · right; exact ⟨by omega, b3 hq⟩
  · have e : k * 4503599627370496 + kept = (k + 1) * 4503599627370496 + 4503599627370496 := by omega
    rw [e, read_rung _ _ (Nat.le_refl _) (by decide) (by omega)]
    refine ⟨4503599627370496, _, rfl, by decide, ?_⟩
    rcases hv with hv | ⟨hq, hv⟩
    · by_cases h5 : (-1074 + ((k + 1 : Nat) : Int)) ≤ -53
      · exact .inl h5
      · right; exact ⟨by omega, rfl⟩
    · have := b3 hq; omega
/-- What the quotient of two small numbers comes to. -/
structure Unit (b : Nat) : Prop where
  self : double.order b b = some .eq
  one : double.order b 4607182418800017408 ≠ some .gt
  zero : double.order b 0 ≠ some .lt
theorem unit_of {b M : Nat} {t : Int} (h : double.read b = .number false M t) (hM : M < 9007199254740992) (ht : t ≤ -53 ∨ (t = -52 ∧ M = 4503599627370496)) : Unit b := by
  have r1 : double.read 4607182418800017408 = .number false 4503599627370496 (-52) := by decide +kernel
  have r0 : double.read 0 = .number false 0 (-1074) := by decide +kernel
  refine ⟨?_, ?_, ?_⟩
  · unfold Format.order
    rw [h]
    show some (compare _ _) = _
    rw [Int.compare_eq_eq.2 rfl]
  · unfold Format.order
    rw [h, r1]
    simp only [Datum.order, signed, Bool.false_eq_true, if_false]
    intro he
    injection he with he
    rw [Int.compare_eq_gt] at he
    rcases ht with ht | ⟨rfl, rfl⟩
    · have e1 : (t - min t (-52)).toNat = 0 := by omega
      obtain ⟨d, hd⟩ : ∃ d : Nat, d = (-52 - min t (-52)).toNat := ⟨_, rfl⟩
      have hd1 : 1 ≤ d := by omega
      rw [e1, ← hd, Nat.shiftLeft_zero, Nat.shiftLeft_eq] at he
      have : 2 ^ 1 ≤ 2 ^ d := Nat.pow_le_pow_right (by decide) hd1
      have h3 : 4503599627370496 * 2 ^ 1 ≤ 4503599627370496 * 2 ^ d := Nat.mul_le_mul_left _ this
      omega
    · simp at he
  · unfold Format.order
    rw [h, r0]
    simp only [Datum.order, signed, Bool.false_eq_true, if_false]
    intro he
    injection he with he
    rw [Int.compare_eq_lt, Nat.zero_shiftLeft] at he
    exact absurd he (Int.not_lt.2 (Int.natCast_nonneg _))
theorem fill (n r : Nat) (h : n ≤ r) (h0 : 0 < r) (h2 : r < 8192) : ∃ b, double.div (double.nearest false n 0) (double.nearest false r 0) = some b ∧ Unit b := by
  obtain ⟨B, lr, hlr, hlr2, hB, B1, B2, hrB⟩ := small r (by omega) h2
  have e5 : double.fractionBits = 52 := rfl
  have logB : B.log2 = 52 := log2_eq (by exact B1) (by exact B2)
  by_cases hn : n = 0
  · subst hn
    have r0 : double.read (double.nearest false 0 0) = .number false 0 (-1074) := by decide +kernel
    unfold Format.div
    rw [r0, hrB]
    simp only [Datum.quotient, if_neg (show ¬ B = 0 by omega), Option.map_some]
    refine ⟨_, rfl, ?_⟩
    have e : (double.write (.number (false ^^ false) (2 * (0 <<< (double.fractionBits + 2 + B.log2 - Nat.log2 0) / B) + (0 <<< (double.fractionBits + 2 + B.log2 - Nat.log2 0) % B != 0).toNat) (-1074 - ((lr : Int) - 52) - ((double.fractionBits + 2 + B.log2 - Nat.log2 0 : Nat) : Int) - 1))) = 0 := by
      rw [Nat.zero_shiftLeft, Nat.zero_div, Nat.zero_mod]
      show double.nearest false 0 _ = 0
      unfold Format.nearest
      rw [if_pos rfl]; decide +kernel
    rw [e]
    exact unit_of (M := 0) (t := -1074) (by decide +kernel) (by decide) (.inl (by decide))
  · obtain ⟨A, ln, hln, hln2, hA, A1, A2, hnA⟩ := small n hn (by omega)
    have logA : A.log2 = 52 := log2_eq (by exact A1) (by exact A2)
    have hle : ln ≤ lr := by
      rw [← hln, ← hlr]
      exact (Nat.le_log2 (by omega)).2 (Nat.le_trans (Nat.log2_self_le hn) h)
    unfold Format.div
    rw [hnA, hrB]
    simp only [Datum.quotient, if_neg (show ¬ B = 0 by omega), Option.map_some, e5, logA, logB]
    refine ⟨_, rfl, ?_⟩
    have sh : A <<< (52 + 2 + 52 - 52) = A * 18014398509481984 := by rw [Nat.shiftLeft_eq]
    rw [sh]
    obtain ⟨Q, hQ⟩ : ∃ Q, Q = A * 18014398509481984 / B := ⟨_, rfl⟩
    obtain ⟨R, hR⟩ : ∃ R, R = A * 18014398509481984 % B := ⟨_, rfl⟩
    have hdm := Nat.div_add_mod (A * 18014398509481984) B
    have hlt := Nat.mod_lt (A * 18014398509481984) (show 0 < B by omega)
    rw [← hQ, ← hR] at hdm ⊢
    rw [← hR] at hlt
    obtain ⟨s, hs⟩ : ∃ s, s = (R != 0).toNat := ⟨_, rfl⟩
    have hs1 : s ≤ 1 := by rw [hs]; cases (R != 0) <;> decide
    have hs0 : R = 0 → s = 0 := fun e => by rw [hs, e]; rfl
    rw [← hs]
    have Q1 : 9007199254740992 ≤ Q := by
      rw [hQ, Nat.le_div_iff_mul_le (by omega)]; omega
    have key : (ln < lr ∧ Q < 36028797018963968) ∨ (ln = lr ∧ (Q < 18014398509481984 ∨ (Q = 18014398509481984 ∧ R = 0))) := by
      rcases Nat.lt_or_ge ln lr with hlt2 | hge
      · left
        refine ⟨hlt2, ?_⟩
        rw [hQ, Nat.div_lt_iff_lt_mul (by omega)]; omega
      · obtain rfl : ln = lr := by omega
        right
        refine ⟨rfl, ?_⟩
        have hAB : A ≤ B := by rw [hA, hB]; exact Nat.mul_le_mul_right _ h
        rcases Nat.lt_or_ge A B with h3 | h3
        · left
          rw [hQ, Nat.div_lt_iff_lt_mul (by omega)]; omega
        · obtain rfl : A = B := by omega
          right
          refine ⟨by rw [hQ, Nat.mul_div_cancel_left _ (by omega)], by rw [hR, Nat.mul_mod_right]⟩
    show Unit (double.nearest false (2 * Q + s) ((ln : Int) - 52 - ((lr : Int) - 52) - ((52 + 2 + 52 - 52 : Nat) : Int) - 1))
    have hp : ((ln : Int) - 52 - ((lr : Int) - 52) - ((52 + 2 + 52 - 52 : Nat) : Int) - 1) = (ln : Int) - lr - 55 := by omega
    rw [hp]
    rcases Nat.lt_or_ge Q 18014398509481984 with hq | hq
    · obtain ⟨M, t, hr, hM, ht⟩ := nearest_le (2 * Q + s) ((ln : Int) - lr - 55) (by omega) 54 (.inl rfl) (by show 18014398509481984 ≤ _; omega) (by show _ < 36028797018963968; omega) (.inl (by omega))
      exact unit_of hr hM ht
    · obtain ⟨M, t, hr, hM, ht⟩ := nearest_le (2 * Q + s) ((ln : Int) - lr - 55) (by omega) 55 (.inr rfl) (by show 36028797018963968 ≤ _; omega) (by
        show _ < 72057594037927936
        rcases key with ⟨_, k2⟩ | ⟨_, k2⟩
        · omega
        · rcases k2 with k2 | ⟨k2, k3⟩
          · omega
          · have := hs0 k3; omega) (by
        rcases key with ⟨k1, k2⟩ | ⟨k1, k2⟩
        · left; omega
        · right
          rcases k2 with k2 | ⟨k2, k3⟩
          · omega
          · have := hs0 k3
            exact ⟨by show _ = 36028797018963968; omega, by omega⟩)
      exact unit_of hr hM ht
end V16
end Go.Proofs.YtfphcecjhdkcoaaGreatDoor
/-
Walks of a session's Owner and Fill.
-/
namespace Go.Proofs.YtfphcecjhdkcoaaGreatDoor
open Go.RowKit Go.Maps
theorem zero9 (w : World) : (zeroValue 9).run Tryz.prog w = .ok (.string ⟨#[]⟩) w := by kernel_rfl
namespace KW
theorem own_has {L : List Sp.Pk} (h : Sp.Ok L) (x : Sp.Str) : hasKV (ownKV L) x = !(Sp.owner L x).isEmpty ∧ getKV (ownKV L) x (sv []) = sv (Sp.owner L x) := by
  by_cases hx : ∃ p ∈ L, x ∈ p.files.map (·.path)
  · obtain ⟨p, hp, hx⟩ := hx
    have ho := V15.owner_of h hp hx
    obtain ⟨f, hf0, rfl⟩ := List.mem_map.1 hx
    have hm : (f.path, sv p.name) ∈ ownKV L := List.mem_flatMap.2 ⟨p, hp, List.mem_map.2 ⟨f, hf0, rfl⟩⟩
    have ha : (ownKV L).Pairwise fun p q => p.1 ≠ q.1 := by
      have hn := V9.paths_nodup h
      rw [← ST.own_keys] at hn
      exact (List.pairwise_map.1 hn)
    have hne := V1.name_ne (h.set.good p hp).wf.name
    refine ⟨?_, ?_⟩
    · rw [ho, MP.has_iff.2 ⟨_, hm, rfl⟩]
      cases hn : p.name with
      | nil => exact absurd hn hne
      | cons a r => rfl
    · rw [ho]; exact MP.get_mem ha hm _
  · have hx' : ∀ p ∈ L, x ∉ p.files.map (·.path) := fun p hp hm => hx ⟨p, hp, hm⟩
    have ho := V15.owner_none hx'
    have hh : hasKV (ownKV L) x = false := by
      rw [← Bool.not_eq_true, MP.has_iff]
      rintro ⟨q, hq, he⟩
      obtain ⟨p, hp, hf⟩ := List.mem_flatMap.1 hq
      obtain ⟨f, hf2, rfl⟩ := List.mem_map.1 hf
      exact hx' p hp (List.mem_map.2 ⟨f, hf2, he⟩)
    rw [ho, hh]
    exact ⟨rfl, MP.get_none hh _⟩
end KW
set_option maxHeartbeats 1000000 in
theorem storeOwner_any {w : World} {s D last ob : Nat} {mv : Value} {kv : KV} (hs : StBlk w s D last mv (.map (some ob))) (hm : MapAt w ob kv) (x : Sp.Str) (hx : x.length ≤ 4611686018427387904) :
    Calls Tryz.prog 83 #[.pointer (some ⟨s, 0, none⟩), .string ⟨x.toArray⟩] w fun e w' => e = .returned (.tuple #[getKV kv x (sv []), .bool (hasKV kv x)]) ∧ w' = w := by
  obtain ⟨_, _, _, c3, _⟩ := hs.cells
  have hlt := hs.lt
  have hlk := hm.look_ok Tryz.underlying148 zero9 x (by unfold maxLen; omega)
  obtain ⟨v, hv⟩ : ∃ v, v = getKV kv x (sv []) := ⟨_, rfl⟩
  obtain ⟨b, hb⟩ : ∃ b, b = hasKV kv x := ⟨_, rfl⟩
  rw [show getKV kv x (Value.string ⟨#[]⟩) = v from hv.symm, ← hb] at hlk
  rw [← hv, ← hb]
  clear hs hm hv hb
  go_enter Tryz.func83, Tryz.ntmps83
  go_wp2
  go_ret2
  exact ⟨rfl, rfl⟩
set_option maxHeartbeats 1000000 in
theorem sesOwner_any {O : Nat → Prop} {w : World} {x : Nat} {st : Sp.St} (h : Ses O w x st) (hok : Sp.Ok st.L) (p : Sp.Str) (hp : p.length ≤ 4611686018427387904) :
    Calls Tryz.prog 56 #[.pointer (some ⟨x, 0, none⟩), .string ⟨p.toArray⟩] w fun e w' => e = .returned (.tuple #[sv (Sp.owner st.L p), .bool (!(Sp.owner st.L p).isEmpty)]) ∧ w' = w := by
  obtain ⟨D, s, O1, h1, ⟨mb, ob, OD, S, L, s1, s2, s3, s4, s5, s6, s7, s8⟩, h3, h4⟩ := h
  obtain ⟨_, c1⟩ := Ses.cells h1
  obtain ⟨o1, o2⟩ := KW.own_has hok p
  rw [← s5] at o1 o2
  have how := storeOwner_any s1 s4 p hp
  rw [o1, o2, s5] at how
  have hxl := (Array.getElem?_eq_some_iff.1 h1).1
  have HOW := Lib.hid how
  clear h1 s1 s2 s3 s4 s5 s6 s7 s8 h3 h4 o1 o2 how
  obtain ⟨o, ho⟩ : ∃ o, o = Sp.owner st.L p := ⟨_, rfl⟩
  rw [← ho] at HOW ⊢
  clear ho
  go_enter Tryz.func56, Tryz.ntmps56
  go_wp2_with fail
  refine HOW.out.mono ?_
  rintro e w1 ⟨rfl, rfl⟩
  unfold sv
  go_wp2
  go_ret2
  exact ⟨rfl, rfl⟩
/-- How full the disk is, as a float's bits. -/
def fillB (n r : Nat) : Nat := (Ieee.double.div (Ieee.double.nearest false n 0) (Ieee.double.nearest false r 0)).getD 0
namespace KW
theorem fill_unit (n r : Nat) (h : n ≤ r) (h0 : 0 < r) (h2 : r < 8192) : V16.Unit (fillB n r) := by
  obtain ⟨b, h1, h3⟩ := V16.fill n r h h0 h2
  unfold fillB; rw [h1]; exact h3
theorem float_of (n : Nat) : floatOfInt .f64 (n : Int) = Ieee.double.nearest false n 0 := by
  show Ieee.double.write (.number (decide ((n : Int) < 0)) (n : Int).natAbs 0) = _
  rw [decide_eq_false (by omega)]; rfl
theorem run_fill (n r : Nat) (h : n ≤ r) (h0 : 0 < r) (h2 : r < 8192) (w : World) :
    (binOp .quo 57 (.float .f64 (floatOfInt .f64 (n : Int))) (.float .f64 (floatOfInt .f64 (r : Int)))).run Tryz.prog w = .ok (.float .f64 (fillB n r)) w := by
  obtain ⟨b, h1, h3⟩ := V16.fill n r h h0 h2
  refine run_float_arith w .quo 57 .f64 _ _ _ ?_
  show Ieee.double.div _ _ = _
  rw [float_of, float_of]
  unfold fillB; rw [h1]; rfl
end KW
end Go.Proofs.YtfphcecjhdkcoaaGreatDoor
/-
The walk of the statements' owned: is each file of a package its own?
-/
namespace Go.Proofs.YtfphcecjhdkcoaaGreatDoor
open Go.RowKit Go.Maps
set_option maxRecDepth 100000 in
set_option maxHeartbeats 2000000 in
theorem owned_any {O : Nat → Prop} {w : World} {x : Nat} {st : Sp.St} (h : Ses O w x st) (hok : Sp.Ok st.L) {p : Sp.Pk} (hp : p ∈ st.L) :
    Calls Tryz.prog 34 #[.pointer (some ⟨x, 0, none⟩), .string ⟨(Sp.print p).toArray⟩] w fun e w' => e = .returned (.bool true) ∧ Below w.heap.size w w' := by
  have hgood := hok.set.good p hp
  have hlen := hgood.len
  have hwn := V15.word2_print hgood
  have hlf := V15.lines_files hgood
  obtain ⟨T, hT⟩ : ∃ T : ByteArray, T = ⟨(Sp.print p).toArray⟩ := ⟨_, rfl⟩
  have hbT : bl T = Sp.print p := by rw [hT]; rfl
  have hTs : T.size ≤ 300 := by rw [← bl_len, hbT]; exact hlen
  rw [← hT]
  have hpl := Sp.split_length (bl T) [10] (by decide)
  rw [bl_len] at hpl
  have hpm : ∀ s ∈ Lib.split (bl T) [10], s.length ≤ 300 := fun s hs => by
    have := Sp.split_mem (bl T) [10] s (by decide) hs; rw [bl_len] at this; omega
  have hown : ∀ s ∈ Lib.split (bl T) [10], ∀ y, Sp.fileOf s = some y → Sp.owner st.L y = p.name := fun s hs y hy => V15.owner_of hok hp (hlf s (by rw [← hbT]; exact hs) y hy)
  have hne := V1.name_ne hgood.wf.name
  have HSES := Lib.hid h
  have HOK := Lib.hid hok
  have HWN := Lib.hid hwn
  have HBT := Lib.hid hbT
  have HPM := Lib.hid hpm
  have HOWN := Lib.hid hown
  have HNE := Lib.hid hne
  clear h hok hp hgood hlen hwn hlf hT hbT hpm hown hne
  go_enter Tryz.func34, Tryz.ntmps34
  go_wp2_with fail
  refine (name_any T w (by omega)).mono ?_
  rintro e w1 ⟨rfl, hw1⟩
  have hw1' := hw1.symm
  subst hw1'
  clear hw1
  rw [HBT.out, HWN.out]
  go_wp2_with fail
  refine (lines_any T w (by omega)).mono ?_
  rintro e w1 ⟨v, rfl, hrow, hb1⟩
  have hv := StrsAt.of_row hrow
  generalize hL : Lib.split (bl T) [10] = L at *
  obtain ⟨a, cap, rfl, hcap, hget⟩ := hv.get
  have HG := Lib.hid hget
  have hz1 := hb1.size
  have HB1 := Lib.hid hb1
  have HSES1 := Lib.hid (HSES.out.below hb1)
  clear hL hv hget hrow hb1
  unfold sv
  go_wp2
  go_loopw [7, 8, 9, 10, 11] (fun i _ _ _ _ wr => ∃ k : Nat, k ≤ L.length ∧ i = .int .i64 k ∧ Below w1.heap.size w1 wr) (fun i _ _ _ _ _ => L.length - (intOf i).toNat)
  case atStart => exact ⟨0, Nat.zero_le _, rfl, Below.refl _ _⟩
  case round =>
    obtain ⟨k, hk, rfl, hbel⟩ := hrel
    have HBW := Lib.hid (HB1.out.trans (hbel.mono hz1))
    by_cases hlt : k < L.length
    · obtain ⟨b, off, rfl, hbb, hcell⟩ := HG.out k hlt
      have hcell' := (hbel.cell (p := ⟨b, off + k, none⟩) hbb).trans hcell
      have hmem : L[k] ∈ L := List.getElem_mem hlt
      have hpm := HPM.out _ hmem
      have how := HOWN.out _ hmem
      obtain ⟨X, hX⟩ : ∃ X : ByteArray, X = ⟨(L[k]).toArray⟩ := ⟨_, rfl⟩
      have hbX : bl X = L[k] := by rw [hX]; rfl
      rw [← hbX] at hpm how
      have hXs : X.size ≤ 300 := by rw [← bl_len]; exact hpm
      have hcX : wr.cell? ⟨b, off + k, none⟩ = some (.string X) := hcell'.trans (by rw [hX])
      have hbbr : b < wr.heap.size := by have := hbel.size; omega
      have HOW := Lib.hid how
      have HBL := Lib.hid hbel
      clear hX hbX hcell hcell' hpm how hmem hbel
      by_cases h5 : X.size < 5
      · go_wp2
        go_roundw
        case rel => exact ⟨k + 1, hlt, by go_num, HBL.out⟩
        case measure => simp [intOf]; omega
      · cases hpre : ((bl X).take 5 == [102, 105, 108, 101, 32]) with
        | false =>
          have hq : ((X.extract 0 5).toList == [102, 105, 108, 101, 32]) = false := by rw [toList_bl, bl_to]; exact hpre
          clear hpre
          go_wp2
          go_roundw
          case rel => exact ⟨k + 1, hlt, by go_num, HBL.out⟩
          case measure => simp [intOf]; omega
        | true =>
          have hq : ((X.extract 0 5).toList == [102, 105, 108, 101, 32]) = true := by rw [toList_bl, bl_to]; exact hpre
          have hfo : Sp.fileOf (bl X) = some (((bl X).drop 5).takeWhile (fun c => c != 61)) := by
            unfold Sp.fileOf
            rw [if_neg]
            rw [bl_len]
            have : ((bl X).take 5 != [102, 105, 108, 101, 32]) = false := by rw [bne, hpre]; rfl
            rw [this]; simp; omega
          have hname := HOW.out _ hfo
          obtain ⟨Y, hY⟩ : ∃ Y, Y = X.extract 5 X.size := ⟨_, rfl⟩
          have hbY : bl Y = (bl X).drop 5 := by rw [hY]; exact bl_from X 5
          rw [← hbY] at hname
          have hYs : Y.size ≤ 300 := by rw [← bl_len, hbY, List.length_drop, bl_len]; omega
          have HNAME := Lib.hid hname
          have HY := Lib.hid hY
          clear hpre hfo hname hY hbY
          go_wp2_with fail
          rw [← HY.out]
          go_loopw [9] (fun i wi => ∃ j : Nat, j ≤ Y.size ∧ i = .int .i64 j ∧ (∀ x ∈ ((bl Y).drop 0).take (j - 0), (x != 61) = true) ∧ Below w1.heap.size w1 wi) (fun i _ => Y.size - (intOf i).toNat)
          case atStart => exact ⟨0, Nat.zero_le _, rfl, fun x hx => by simp at hx, HBL.out⟩
          case round =>
            obtain ⟨j, hj, rfl, hd, hbi⟩ := hrel
            have HD := Lib.hid hd
            have HBI := Lib.hid hbi
            clear hd hbi
            by_cases hjl : j < Y.size
            · by_cases hc : Y[j] = 61
              · have he := KW.eq_of hjl hc
                rw [show ((61 : UInt8).toNat : Int) = 61 from rfl] at he
                have hws := KW.word_stop (Nat.zero_le j) hj HD.out (.inr ⟨hjl, hc⟩)
                have HWS := Lib.hid hws
                clear hc hws
                have hpath : bl (Y.extract 0 j) = (bl Y).takeWhile (fun c => c != 61) := by
                  rw [bl_to]; have := HWS.out; simp only [List.drop_zero, Nat.sub_zero] at this; exact this.symm
                have hso := sesOwner_any (HSES1.out.below HBI.out) HOK.out (bl (Y.extract 0 j)) (by rw [bl_to, List.length_take, bl_len]; omega)
                rw [mk_bl, hpath, HNAME.out, show p.name.isEmpty = false from by simpa using HNE.out] at hso
                have HSO := Lib.hid hso
                clear hpath hso
                go_wp2_with fail
                refine HSO.out.mono ?_
                rintro e wj ⟨rfl, rfl⟩
                unfold sv
                go_wp2
                go_roundw
                case rel => exact ⟨k + 1, hlt, by go_num, HBI.out⟩
                case measure => simp [intOf]; omega
              · have hne := KW.ne_of hjl hc
                rw [show ((61 : UInt8).toNat : Int) = 61 from rfl] at hne
                have hnx := KW.word_next (Nat.zero_le j) hjl HD.out hc
                have HNX := Lib.hid hnx
                clear hc hnx
                go_wp2
                go_roundw
                case rel => exact ⟨j + 1, hjl, by go_num, HNX.out, HBI.out⟩
                case measure => simp [intOf]; omega
            · have hws := KW.word_stop (Nat.zero_le j) hj HD.out (.inl (show j = Y.size by omega))
              have HWS := Lib.hid hws
              clear hws
              have hpath : bl (Y.extract 0 j) = (bl Y).takeWhile (fun c => c != 61) := by
                rw [bl_to]; have := HWS.out; simp only [List.drop_zero, Nat.sub_zero] at this; exact this.symm
              have hso := sesOwner_any (HSES1.out.below HBI.out) HOK.out (bl (Y.extract 0 j)) (by rw [bl_to, List.length_take, bl_len]; omega)
              rw [mk_bl, hpath, HNAME.out, show p.name.isEmpty = false from by simpa using HNE.out] at hso
              have HSO := Lib.hid hso
              clear hpath hso
              go_wp2_with fail
              refine HSO.out.mono ?_
              rintro e wj ⟨rfl, rfl⟩
              unfold sv
              go_wp2
              go_roundw
              case rel => exact ⟨k + 1, hlt, by go_num, HBI.out⟩
              case measure => simp [intOf]; omega
    · obtain rfl : k = L.length := by omega
      go_wp2
      go_ret
      exact ⟨rfl, HBW.out⟩
end Go.Proofs.YtfphcecjhdkcoaaGreatDoor
namespace Go.Proofs.YtfphcecjhdkcoaaGreatDoor
open Go.RowKit Go.Maps
set_option maxRecDepth 100000 in
set_option maxHeartbeats 1000000 in
theorem sesFill_any {O : Nat → Prop} {w : World} {x S : Nat} {st : Sp.St} (h : Ses O w x st) (hl : V10.Live S st) :
    Calls Tryz.prog 33 #[.pointer (some ⟨x, 0, none⟩)] w fun e w' => e = .returned (.float .f64 (fillB (Sp.size st.L) (Sp.room S))) ∧ Below w.heap.size w w' := by
  obtain ⟨D, s, O1, h1, ⟨mb, ob, OD, S1, L, s1, s2, s3, s4, s5, s6, s7, s8⟩, h3, h4⟩ := h
  obtain ⟨_, c1⟩ := Ses.cells h1
  obtain ⟨_, _, c2, _, _⟩ := s1.cells
  have hxl := (Array.getElem?_eq_some_iff.1 h1).1
  have hsl := s1.lt
  have hbig := hl.big
  have hroom := hl.room
  have hseen := hl.seen
  have hrn : Sp.room S = 24 * (S - 8) := rfl
  have hset : SetOn (fun b => b < w.heap.size) w mb L := s3.mono fun b hb => (s8 b (.inl hb)).1
  have hsz := size_any mb L w hset (by rw [s5]; omega)
  rw [s5] at hsz
  have hq := fun w => KW.run_fill (Sp.size st.L) (Sp.room S) hroom (by omega) (by omega) w
  have hcv : ∀ (n : Int) (w : World), (convert 3 57 (.int .i64 n)).run Tryz.prog w = .ok (.float .f64 (floatOfInt .f64 n)) w := fun n w => run_convert_int_float w 3 57 .i64 .f64 n (by rw [Tryz.underlying3]; rfl) (by kernel_rfl)
  have S1' := Lib.hid s1
  have S2' := Lib.hid s2
  have HSZ := Lib.hid hsz
  have hrv : ∀ (w' : World), StBlk w' s D st.last (.map (some mb)) (.map (some ob)) → DkE OD w' D st.d → Calls Tryz.prog 82 #[.pointer (some ⟨s, 0, none⟩)] w' fun e w'' => e = .returned (.int .i64 ((Sp.room S : Nat) : Int)) ∧ w'' = w' := fun w' a b => by
    have := room_any a b
    rw [hseen, show (24 * ((S : Int) - 8)) = ((Sp.room S : Nat) : Int) from by omega] at this
    exact this
  have HRV := Lib.hid hrv
  have HOD := Lib.hid s7
  clear h1 s1 s2 s3 s4 s5 s6 s7 s8 h3 h4 hset hsz hrv hl hroom hseen hrn
  obtain ⟨n, hn⟩ : ∃ n, n = Sp.size st.L := ⟨_, rfl⟩
  obtain ⟨r, hr⟩ : ∃ r, r = Sp.room S := ⟨_, rfl⟩
  rw [← hn, ← hr] at hq ⊢
  rw [← hn] at HSZ
  rw [← hr] at HRV
  clear hn hr
  have hst : Calls Tryz.prog 54 #[.pointer (some ⟨s, 0, none⟩)] w fun e w' => e = .returned (.float .f64 (fillB n r)) ∧ Below w.heap.size w w' := by
    go_enter Tryz.func54, Tryz.ntmps54
    go_wp2_with fail
    refine HSZ.out.mono ?_
    rintro e w1 ⟨rfl, hb1⟩
    have hz1 := hb1.size
    have hr1 := HRV.out w1 (S1'.out.keep (hb1.block s hsl)) (S2'.out.keep (fun k hk hl => hb1.block k hl) hz1)
    have HR1 := Lib.hid hr1
    have HB1 := Lib.hid hb1
    have hsl1 : s < w1.heap.size := by omega
    have c2' := (hb1.cell (p := ⟨s, 2, none⟩) hsl).trans c2
    clear hr1 hb1 hz1
    go_wp2_with fail
    refine HR1.out.mono ?_
    rintro e w2 ⟨rfl, hw2⟩
    have hw2' := hw2.symm
    subst hw2'
    clear hw2
    go_wp2
    go_ret
    exact ⟨rfl, HB1.out⟩
  have HST := Lib.hid hst
  clear hst hq hcv
  go_enter Tryz.func33, Tryz.ntmps33
  go_wp2_with fail
  refine HST.out.mono ?_
  rintro e w1 ⟨rfl, hb1⟩
  have HB1 := Lib.hid hb1
  clear hb1
  go_wp2
  go_ret
  exact ⟨rfl, HB1.out⟩
end Go.Proofs.YtfphcecjhdkcoaaGreatDoor

/-
Plain: a store whose power may go: alive, or gone in the middle of a change; and opened anew.
-/
import Derived.Test.YtfphcecjhdkcoaaGreatDoorKnownP14
import Derived.Test.YtfphcecjhdkcoaaGreatDoorKnownP16
/-
Closed facts of the row Known: each a theorem of its own.
-/
namespace Go.Proofs.YtfphcecjhdkcoaaGreatDoor
open Go.ChangeShapes Go.WideShapes Go.ChangeAt Go.RowKit
theorem f10place : Tryz.prog.inPlace 10 = Rows.knownRow.inPlace := by kernel_rfl
theorem f10unf : Tryz.prog.unfollowed 10 = true := by kernel_rfl
theorem f10rec : Tryz.prog.recurses 10 = true := by kernel_rfl
theorem f10named : Tryz.prog.varsNamed 10 = Rows.knownRow.named := by kernel_rfl
theorem f10fun : Tryz.prog.funcNamed "parcels/parcelskeep.Known" = some 10 := by kernel_rfl
theorem f10inst : Tryz.f10.isInstance Tryz.prog Rows.knownRow.origin Rows.knownRow.targs := of_decide_eq_true (by kernel_rfl)
theorem f10wrap : Tryz.f10.isWrapper Tryz.prog Rows.knownRow.wrapper Rows.knownRow.mainSum := by unfold Func.isWrapper; rw [if_neg (of_decide_eq_false (by kernel_rfl))]; exact ⟨rfl, rfl⟩
theorem f10facts : joinedFacts Tryz.prog 10 Tryz.f10 Rows.knownSpec Rows.knownRow = true := by
  unfold joinedFacts
  rw [cLaid, cMaps, cStops, cKnobs, cLifted, cMake, cKeys, cHeard, cEnter, f10place, f10unf, f10rec, f10named]
  kernel_rfl
end Go.Proofs.YtfphcecjhdkcoaaGreatDoor
namespace Go.Proofs.YtfphcecjhdkcoaaGreatDoor
namespace V14
open Sp (Str Pk Dk St)
/-- The power is gone in the middle of a change from L to A. -/
structure Gone (S n : Nat) (L A : List Pk) (x : St) : Prop where
  torn : V7.Torn S (V10.Two n L A) x.d
  okL : Sp.Ok L
  okA : Sp.Ok A
  roomL : Sp.size L ≤ Sp.room S
  roomA : Sp.size A ≤ Sp.room S
  big : 16 ≤ S ∧ S ≤ 256
  late : x.d.late.length < 900000
  few : n + 1 < 18446744073709551616
theorem save_late (d : Dk) (last : Nat) (b : Str) : (Sp.save d last b).late.length ≤ d.late.length + (b.length + 63) / 64 + 1 := by
  unfold Sp.save
  have h1 := V12.writes_len (Sp.chunks b) (Sp.areaFrom d.seen.length (last + 1)) d
  have h2 := V12.sync_len (d.writes (Sp.areaFrom d.seen.length (last + 1)) (Sp.chunks b))
  have h3 := V12.write_len ((d.writes (Sp.areaFrom d.seen.length (last + 1)) (Sp.chunks b)).sync) ((last + 1) % 2) (Sp.headB (last + 1) b.length (Sp.sum b))
  have h4 := V12.sync_len (((d.writes (Sp.areaFrom d.seen.length (last + 1)) (Sp.chunks b)).sync).write ((last + 1) % 2) (Sp.headB (last + 1) b.length (Sp.sum b)))
  rw [V6.chunks_len] at h1
  omega
theorem become_L (x : St) (A : List Pk) : (x.become A).L = A ∧ (x.become A).last ≤ x.last + 1 := by
  unfold St.become; split <;> exact ⟨rfl, by simp⟩
/-- A change: done, or the power went in the middle of it. -/
theorem become_cases {S : Nat} {x : St} (h : V10.Live S x) {A : List Pk} (hA : Sp.Ok A) (hr : Sp.size A ≤ Sp.room S) (hn : x.last + 1 < 18446744073709551616) (hp : A.length = x.L.length → A.Perm x.L) :
    ((x.become A).d.dead = false ∧ V10.Live S (x.become A)) ∨ ((x.become A).d.dead = true ∧ Gone S x.last x.L A (x.become A)) := by
  rcases V10.become_live h hA hr hn hp with h1 | h1
  · exact .inl h1
  · refine .inr ⟨h1.dead, h1, h.ok, hA, h.room, hr, h.big, ?_, hn⟩
    unfold St.become
    split
    · rw [h.calm.late]; decide
    · have h2 := save_late x.d x.last (Sp.joined A)
      have h3 := (V10.room_small hA.set h.big hr).1
      have h4 := h.big
      show (Sp.save x.d x.last (Sp.joined A)).late.length < 900000
      rw [h.calm.late] at h2
      unfold Sp.areaN at h3
      simp only [List.length_nil] at h2
      omega
theorem install_live {S : Nat} {x : St} (h : V10.Live S x) (hn : x.last + 1 < 18446744073709551616) (ts : List Str) :
    ((x.install ts).1.kind ≠ 0 ∧ (x.install ts).2 = x ∧ ∀ y : St, y.L = x.L → y.d.seen.length = x.d.seen.length → (y.install ts).1 = (x.install ts).1 ∧ (y.install ts).2 = y) ∨
    ∃ A o, Sp.planned x.L ts = .inr (A, o) ∧ Sp.size A ≤ Sp.room S ∧ (x.install ts).1 = Sp.okF ∧ (x.install ts).2 = x.become A ∧ Sp.Ok A ∧
      (((x.become A).d.dead = false ∧ V10.Live S (x.become A)) ∨ ((x.become A).d.dead = true ∧ Gone S x.last x.L A (x.become A))) := by
  cases hp : Sp.planned x.L ts with
  | inl f =>
    have := V11.planned_kind hp
    rw [V10.install_no hp]
    refine .inl ⟨by show f.kind ≠ 0; omega, rfl, fun y hy _ => ?_⟩
    rw [V10.install_no (x := y) (by rw [hy]; exact hp)]
    exact ⟨rfl, rfl⟩
  | inr Ao =>
    obtain ⟨A, o⟩ := Ao
    by_cases hr : Sp.room S < Sp.size A
    · have e := V10.install_full h hp hr
      rw [e]
      refine .inl ⟨by simp, rfl, fun y hy hl => ?_⟩
      have e2 : y.install ts = (⟨8, 0, 0, []⟩, y) := by unfold St.install; rw [hy, hp]; simp only; rw [hl, h.seen, if_pos hr]
      rw [e2]; exact ⟨rfl, rfl⟩
    · obtain ⟨e, hA, _⟩ := V10.install_yes h hn hp (by omega)
      obtain ⟨_, F, rfl, _⟩ := V9.planned_ok h.ok.set hp
      rw [e]
      exact .inr ⟨_, o, rfl, by omega, rfl, rfl, hA, become_cases h hA (by omega) hn fun e => by rw [V10.perm_of_len e, List.append_nil]⟩
theorem remove_live {S : Nat} {x : St} (h : V10.Live S x) (hn : x.last + 1 < 18446744073709551616) (ns : List Str) :
    ((x.remove ns).1.kind ≠ 0 ∧ (x.remove ns).2 = x ∧ ∃ f, Sp.removed x.L ns = .inl f ∧ (x.remove ns).1 = f) ∨
    ∃ A, Sp.removed x.L ns = .inr A ∧ Sp.size A ≤ Sp.room S ∧ (x.remove ns).1 = Sp.okF ∧ (x.remove ns).2 = x.become A ∧ Sp.Ok A ∧
      (((x.become A).d.dead = false ∧ V10.Live S (x.become A)) ∨ ((x.become A).d.dead = true ∧ Gone S x.last x.L A (x.become A))) := by
  cases hp : Sp.removed x.L ns with
  | inl f =>
    have e : x.remove ns = (f, x) := by unfold St.remove; rw [hp]
    rw [e]
    have := V11.removed_kind hp
    exact .inl ⟨by show f.kind ≠ 0; omega, rfl, f, rfl, rfl⟩
  | inr A =>
    obtain ⟨hA, hsub⟩ := V9.removed_ok h.ok hp
    have hsz : Sp.size A ≤ Sp.room S := by
      refine Nat.le_trans ?_ h.room
      unfold Sp.size
      exact V11.sum_sub (hsub.map _)
    have e : x.remove ns = (Sp.okF, x.become A) := by unfold St.remove; rw [hp, h.seen]; simp only; rw [if_neg (by omega)]
    rw [e]
    exact .inr ⟨A, rfl, hsz, rfl, rfl, hA, become_cases h hA hsz hn fun e => by rw [V11.filter_len hsub e]⟩
theorem gone_reopen {S n : Nat} {L A : List Pk} {x : St} (h : Gone S n L A x) (mask after : Int) :
    V10.Live S (x.reopen mask after) ∧ (((x.reopen mask after).last = n ∧ (x.reopen mask after).L = V8.byName L) ∨ ((x.reopen mask after).last = n + 1 ∧ (x.reopen mask after).L = V8.byName A)) :=
  V10.reopen_torn h.torn h.okL h.okA h.roomL h.roomA h.big mask after
theorem gone_cut {S n : Nat} {L A : List Pk} {x : St} (h : Gone S n L A x) (k : Int) : Gone S n L A (x.cut k) :=
  ⟨h.torn.cut k, h.okL, h.okA, h.roomL, h.roomA, h.big, h.late, h.few⟩
theorem texts_byName {L : List Pk} (h : Sp.Set L) : Sp.texts (V8.byName L) = Sp.texts L := (V8.texts_eq h (V8.byName_perm h).symm).symm
theorem live_few {S : Nat} {x : St} (h : V10.Live S x) : x.L.length ≤ 600 := by
  have h1 := V8.size_count h.ok.set.good
  have h2 := h.room
  have h3 := h.big
  unfold Sp.room at h2
  omega
/-- The power goes in the middle of an installation, and of opening: all of it is there, or what was. -/
theorem survives_law {S : Nat} {x : St} (h : V11.Sure S x) (hn : x.last + 1 < 18446744073709551616) (ts : List Str) (c mask after m2 : Int) :
    let z1 := ((x.cut c).install ts).2
    (z1.d.late.length < 900000 ∧ z1.d.seen.length = S ∧ V10.Live S (z1.reopen mask after) ∧ V10.Live S ((z1.reopen mask after).reopen m2 (-1)) ∧ V10.Live S (((z1.reopen mask after).reopen m2 (-1)).reopen 0 (-1))) ∧
    (Sp.texts (((z1.reopen mask after).reopen m2 (-1)).reopen 0 (-1)).L = Sp.texts (x.install ts).2.L ∨ (z1.d.dead = true ∧ Sp.texts (((z1.reopen mask after).reopen m2 (-1)).reopen 0 (-1)).L = Sp.texts x.L)) := by
  intro z1
  have hz : V10.Live S (x.cut c) := V10.cut_live h.live c
  have two : ∀ (y : St), V10.Live S y → V10.Live S (y.reopen m2 (-1)) ∧ V10.Live S ((y.reopen m2 (-1)).reopen 0 (-1)) ∧ Sp.texts (((y.reopen m2 (-1)).reopen 0 (-1)).L) = Sp.texts y.L := by
    intro y hy
    obtain ⟨b1, _, b3⟩ := V10.reopen_live hy m2 (-1)
    obtain ⟨c1, _, c3⟩ := V10.reopen_live b1 0 (-1)
    exact ⟨b1, c1, by rw [c3, texts_byName b1.ok.set, b3, texts_byName hy.ok.set]⟩
  have three : ∀ (y : St), V10.Live S y → (y.d.late.length < 900000 ∧ y.d.seen.length = S ∧ V10.Live S (y.reopen mask after) ∧ V10.Live S ((y.reopen mask after).reopen m2 (-1)) ∧ V10.Live S (((y.reopen mask after).reopen m2 (-1)).reopen 0 (-1))) ∧ Sp.texts ((((y.reopen mask after).reopen m2 (-1)).reopen 0 (-1)).L) = Sp.texts y.L := by
    intro y hy
    obtain ⟨a1, _, a3⟩ := V10.reopen_live hy mask after
    obtain ⟨b1, b2, b3⟩ := two _ a1
    exact ⟨⟨by rw [hy.calm.late]; decide, hy.seen, a1, b1, b2⟩, by rw [b3, a3, texts_byName hy.ok.set]⟩
  rcases install_live hz hn ts with ⟨_, e1, e2⟩ | ⟨A, o, hp, hr, _, e1, hA, hc⟩
  · obtain ⟨_, e3⟩ := e2 x rfl rfl
    have e1' : z1 = x.cut c := e1
    rw [e1', e3]
    obtain ⟨t1, t2⟩ := three _ hz
    exact ⟨t1, .inl t2⟩
  · have e3 : (x.install ts).2 = x.become A := by
      obtain ⟨i1, _, _⟩ := V10.install_yes h.live hn hp hr
      rw [i1]
    have e1' : z1 = (x.cut c).become A := e1
    rw [e3, (become_L x A).1, e1']
    rcases hc with ⟨_, hl⟩ | ⟨hd, hg⟩
    · obtain ⟨t1, t2⟩ := three _ hl
      exact ⟨t1, .inl (by rw [t2, (become_L _ A).1])⟩
    · obtain ⟨r1, r2⟩ := gone_reopen hg mask after
      obtain ⟨b1, b2, b3⟩ := two _ r1
      refine ⟨⟨hg.late, hg.torn.slen, r1, b1, b2⟩, ?_⟩
      rw [b3]
      rcases r2 with ⟨_, r2⟩ | ⟨_, r2⟩
      · exact .inr ⟨hd, by rw [r2, texts_byName hg.okL.set]; rfl⟩
      · exact .inl (by rw [r2, texts_byName hg.okA.set])
end V14
end Go.Proofs.YtfphcecjhdkcoaaGreatDoor

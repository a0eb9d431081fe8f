/-
Walks of the reference's choices, isPath and file.
-/
import Derived.Test.YtfphcecjhdkcoaaGreatDoorBackP01
import Derived.Test.YtfphcecjhdkcoaaGreatDoorBackP03
import Derived.Test.YtfphcecjhdkcoaaGreatDoorBackP05
import Derived.Test.YtfphcecjhdkcoaaGreatDoorBackP16
/-
Plain: a store whose power may go: alive, or gone in the middle of a change; and opened anew.
-/
namespace Go.Proofs.YtfphcecjhdkcoaaGreatDoor
namespace V14
open Sp (Str Pk Dk St)
/-- The power is gone in the middle of a change from L to A. -/
structure Gone (S n : Nat) (L A : List Pk) (x : St) : Prop where
  torn : V7.Torn S (V10.Two n L A) x.d
  okL : Sp.Ok L
  okA : Sp.Ok A
  roomL : Sp.size L ≤ Sp.room S
  roomA : Sp.size A ≤ Sp.room S
  big : 16 ≤ S ∧ S ≤ 256
  late : x.d.late.length < 900000
  few : n + 1 < 18446744073709551616
theorem save_late (d : Dk) (last : Nat) (b : Str) : (Sp.save d last b).late.length ≤ d.late.length + (b.length + 63) / 64 + 1 := by
  unfold Sp.save
  have h1 := V12.writes_len (Sp.chunks b) (Sp.areaFrom d.seen.length (last + 1)) d
  have h2 := V12.sync_len (d.writes (Sp.areaFrom d.seen.length (last + 1)) (Sp.chunks b))
  have h3 := V12.write_len ((d.writes (Sp.areaFrom d.seen.length (last + 1)) (Sp.chunks b)).sync) ((last + 1) % 2) (Sp.headB (last + 1) b.length (Sp.sum b))
  have h4 := V12.sync_len (((d.writes (Sp.areaFrom d.seen.length (last + 1)) (Sp.chunks b)).sync).write ((last + 1) % 2) (Sp.headB (last + 1) b.length (Sp.sum b)))
  rw [V6.chunks_len] at h1
  omega
theorem become_L (x : St) (A : List Pk) : (x.become A).L = A ∧ (x.become A).last ≤ x.last + 1 := by
  unfold St.become; split <;> exact ⟨rfl, by simp⟩
/-- A change: done, or the power went in the middle of it. -/
theorem become_cases {S : Nat} {x : St} (h : V10.Live S x) {A : List Pk} (hA : Sp.Ok A) (hr : Sp.size A ≤ Sp.room S) (hn : x.last + 1 < 18446744073709551616) (hp : A.length = x.L.length → A.Perm x.L) :
    ((x.become A).d.dead = false ∧ V10.Live S (x.become A)) ∨ ((x.become A).d.dead = true ∧ Gone S x.last x.L A (x.become A)) := by
  rcases V10.become_live h hA hr hn hp with h1 | h1
  · exact .inl h1
  · refine .inr ⟨h1.dead, h1, h.ok, hA, h.room, hr, h.big, ?_, hn⟩
    unfold St.become
    split
    · rw [h.calm.late]; decide
    · have h2 := save_late x.d x.last (Sp.joined A)
      have h3 := (V10.room_small hA.set h.big hr).1
      have h4 := h.big
      show (Sp.save x.d x.last (Sp.joined A)).late.length < 900000
      rw [h.calm.late] at h2
      unfold Sp.areaN at h3
      simp only [List.length_nil] at h2
      omega
theorem install_live {S : Nat} {x : St} (h : V10.Live S x) (hn : x.last + 1 < 18446744073709551616) (ts : List Str) :
    ((x.install ts).1.kind ≠ 0 ∧ (x.install ts).2 = x ∧ ∀ y : St, y.L = x.L → y.d.seen.length = x.d.seen.length → (y.install ts).1 = (x.install ts).1 ∧ (y.install ts).2 = y) ∨
    ∃ A o, Sp.planned x.L ts = .inr (A, o) ∧ Sp.size A ≤ Sp.room S ∧ (x.install ts).1 = Sp.okF ∧ (x.install ts).2 = x.become A ∧ Sp.Ok A ∧
      (((x.become A).d.dead = false ∧ V10.Live S (x.become A)) ∨ ((x.become A).d.dead = true ∧ Gone S x.last x.L A (x.become A))) := by
  cases hp : Sp.planned x.L ts with
  | inl f =>
    have := V11.planned_kind hp
    rw [V10.install_no hp]
    refine .inl ⟨by show f.kind ≠ 0; omega, rfl, fun y hy _ => ?_⟩
    rw [V10.install_no (x := y) (by rw [hy]; exact hp)]
    exact ⟨rfl, rfl⟩
  | inr Ao =>
    obtain ⟨A, o⟩ := Ao
    by_cases hr : Sp.room S < Sp.size A
    · have e := V10.install_full h hp hr
      rw [e]
      refine .inl ⟨by simp, rfl, fun y hy hl => ?_⟩
      have e2 : y.install ts = (⟨8, 0, 0, []⟩, y) := by unfold St.install; rw [hy, hp]; simp only; rw [hl, h.seen, if_pos hr]
      rw [e2]; exact ⟨rfl, rfl⟩
    · obtain ⟨e, hA, _⟩ := V10.install_yes h hn hp (by omega)
      obtain ⟨_, F, rfl, _⟩ := V9.planned_ok h.ok.set hp
      rw [e]
      exact .inr ⟨_, o, rfl, by omega, rfl, rfl, hA, become_cases h hA (by omega) hn fun e => by rw [V10.perm_of_len e, List.append_nil]⟩
theorem remove_live {S : Nat} {x : St} (h : V10.Live S x) (hn : x.last + 1 < 18446744073709551616) (ns : List Str) :
    ((x.remove ns).1.kind ≠ 0 ∧ (x.remove ns).2 = x ∧ ∃ f, Sp.removed x.L ns = .inl f ∧ (x.remove ns).1 = f) ∨
    ∃ A, Sp.removed x.L ns = .inr A ∧ Sp.size A ≤ Sp.room S ∧ (x.remove ns).1 = Sp.okF ∧ (x.remove ns).2 = x.become A ∧ Sp.Ok A ∧
      (((x.become A).d.dead = false ∧ V10.Live S (x.become A)) ∨ ((x.become A).d.dead = true ∧ Gone S x.last x.L A (x.become A))) := by
  cases hp : Sp.removed x.L ns with
  | inl f =>
    have e : x.remove ns = (f, x) := by unfold St.remove; rw [hp]
    rw [e]
    have := V11.removed_kind hp
    exact .inl ⟨by show f.kind ≠ 0; omega, rfl, f, rfl, rfl⟩
  | inr A =>
    obtain ⟨hA, hsub⟩ := V9.removed_ok h.ok hp
    have hsz : Sp.size A ≤ Sp.room S := by
      refine Nat.le_trans ?_ h.room
      unfold Sp.size
      exact V11.sum_sub (hsub.map _)
    have e : x.remove ns = (Sp.okF, x.become A) := by unfold St.remove; rw [hp, h.seen]; simp only; rw [if_neg (by omega)]
    rw [e]
    exact .inr ⟨A, rfl, hsz, rfl, rfl, hA, become_cases h hA hsz hn fun e => by rw [V11.filter_len hsub e]⟩
theorem gone_reopen {S n : Nat} {L A : List Pk} {x : St} (h : Gone S n L A x) (mask after : Int) :
    V10.Live S (x.reopen mask after) ∧ (((x.reopen mask after).last = n ∧ (x.reopen mask after).L = V8.byName L) ∨ ((x.reopen mask after).last = n + 1 ∧ (x.reopen mask after).L = V8.byName A)) :=
  V10.reopen_torn h.torn h.okL h.okA h.roomL h.roomA h.big mask after
theorem gone_cut {S n : Nat} {L A : List Pk} {x : St} (h : Gone S n L A x) (k : Int) : Gone S n L A (x.cut k) :=
  ⟨h.torn.cut k, h.okL, h.okA, h.roomL, h.roomA, h.big, h.late, h.few⟩
theorem texts_byName {L : List Pk} (h : Sp.Set L) : Sp.texts (V8.byName L) = Sp.texts L := (V8.texts_eq h (V8.byName_perm h).symm).symm
theorem live_few {S : Nat} {x : St} (h : V10.Live S x) : x.L.length ≤ 600 := by
  have h1 := V8.size_count h.ok.set.good
  have h2 := h.room
  have h3 := h.big
  unfold Sp.room at h2
  omega
/-- The power goes in the middle of an installation, and of opening: all of it is there, or what was. -/
theorem survives_law {S : Nat} {x : St} (h : V11.Sure S x) (hn : x.last + 1 < 18446744073709551616) (ts : List Str) (c mask after m2 : Int) :
    let z1 := ((x.cut c).install ts).2
    (z1.d.late.length < 900000 ∧ z1.d.seen.length = S ∧ V10.Live S (z1.reopen mask after) ∧ V10.Live S ((z1.reopen mask after).reopen m2 (-1)) ∧ V10.Live S (((z1.reopen mask after).reopen m2 (-1)).reopen 0 (-1))) ∧
    (Sp.texts (((z1.reopen mask after).reopen m2 (-1)).reopen 0 (-1)).L = Sp.texts (x.install ts).2.L ∨ (z1.d.dead = true ∧ Sp.texts (((z1.reopen mask after).reopen m2 (-1)).reopen 0 (-1)).L = Sp.texts x.L)) := by
  intro z1
  have hz : V10.Live S (x.cut c) := V10.cut_live h.live c
  have two : ∀ (y : St), V10.Live S y → V10.Live S (y.reopen m2 (-1)) ∧ V10.Live S ((y.reopen m2 (-1)).reopen 0 (-1)) ∧ Sp.texts (((y.reopen m2 (-1)).reopen 0 (-1)).L) = Sp.texts y.L := by
    intro y hy
    obtain ⟨b1, _, b3⟩ := V10.reopen_live hy m2 (-1)
    obtain ⟨c1, _, c3⟩ := V10.reopen_live b1 0 (-1)
    exact ⟨b1, c1, by rw [c3, texts_byName b1.ok.set, b3, texts_byName hy.ok.set]⟩
  have three : ∀ (y : St), V10.Live S y → (y.d.late.length < 900000 ∧ y.d.seen.length = S ∧ V10.Live S (y.reopen mask after) ∧ V10.Live S ((y.reopen mask after).reopen m2 (-1)) ∧ V10.Live S (((y.reopen mask after).reopen m2 (-1)).reopen 0 (-1))) ∧ Sp.texts ((((y.reopen mask after).reopen m2 (-1)).reopen 0 (-1)).L) = Sp.texts y.L := by
    intro y hy
    obtain ⟨a1, _, a3⟩ := V10.reopen_live hy mask after
    obtain ⟨b1, b2, b3⟩ := two _ a1
    exact ⟨⟨by rw [hy.calm.late]; decide, hy.seen, a1, b1, b2⟩, by rw [b3, a3, texts_byName hy.ok.set]⟩
  rcases install_live hz hn ts with ⟨_, e1, e2⟩ | ⟨A, o, hp, hr, _, e1, hA, hc⟩
  · obtain ⟨_, e3⟩ := e2 x rfl rfl
    have e1' : z1 = x.cut c := e1
    rw [e1', e3]
    obtain ⟨t1, t2⟩ := three _ hz
    exact ⟨t1, .inl t2⟩
  · have e3 : (x.install ts).2 = x.become A := by
      obtain ⟨i1, _, _⟩ := V10.install_yes h.live hn hp hr
      rw [i1]
    have e1' : z1 = (x.cut c).become A := e1
    rw [e3, (become_L x A).1, e1']
    rcases hc with ⟨_, hl⟩ | ⟨hd, hg⟩
    · obtain ⟨t1, t2⟩ := three _ hl
      exact ⟨t1, .inl (by rw [t2, (become_L _ A).1])⟩
    · obtain ⟨r1, r2⟩ := gone_reopen hg mask after
      obtain ⟨b1, b2, b3⟩ := two _ r1
      refine ⟨⟨hg.late, hg.torn.slen, r1, b1, b2⟩, ?_⟩
      rw [b3]
      rcases r2 with ⟨_, r2⟩ | ⟨_, r2⟩
      · exact .inr ⟨hd, by rw [r2, texts_byName hg.okL.set]; rfl⟩
      · exact .inl (by rw [r2, texts_byName hg.okA.set])
end V14
end Go.Proofs.YtfphcecjhdkcoaaGreatDoor
/-
What the walks of the statements on sessions whose power may go carry along.
-/
namespace Go.Proofs.YtfphcecjhdkcoaaGreatDoor
open Go.RowKit Go.Maps
/-- A session in memory: all of it lies in O, from block B on. -/
structure Bare (B : Nat) (O : Nat → Prop) (w : World) (x : Nat) (st : Sp.St) : Prop where
  ses : Ses O w x st
  low : ∀ k, O k → B ≤ k ∧ k < w.heap.size
theorem Run.bare {B S : Nat} {O : Nat → Prop} {w : World} {x : Nat} {st : Sp.St} (h : Run B S O w x st) : Bare B O w x st := ⟨h.ses, h.low⟩
theorem fit_live {S : Nat} {x : Sp.St} (h : V10.Live S x) (hl : x.last ≤ 1000000) : Fit x := fit_of_live h (by omega)
namespace Bare
variable {B : Nat} {O M : Nat → Prop} {w w' : World} {x : Nat} {st : Sp.St}
theorem below (h : Bare B O w x st) (hb : Below w.heap.size w w') : Bare B O w' x st := ⟨h.ses.below hb, fun k hk => ⟨(h.low k hk).1, Nat.lt_of_lt_of_le (h.low k hk).2 hb.size⟩⟩
theorem chg (h : Bare B O w x st) (hc : Chg M w w') (hm : ∀ k, O k → ¬ M k) : Bare B O w' x st := ⟨h.ses.keep (fun k hk hl => hc.block k hl (hm k hk)) hc.size, fun k hk => ⟨(h.low k hk).1, Nat.lt_of_lt_of_le (h.low k hk).2 hc.size⟩⟩
theorem grown (hz : w.heap.size ≤ w'.heap.size) (hB : B ≤ w.heap.size) (h : ∀ k, O k → B ≤ k ∧ k < w.heap.size) (hs : Ses (fun k => O k ∨ w.heap.size ≤ k) w' x st) : Bare B (fun k => O k ∨ w.heap.size ≤ k ∧ k < w'.heap.size) w' x st :=
  ⟨hs.mono fun k hl hk => hk.imp id fun h => ⟨h, hl⟩, fun k hk => by
    rcases hk with hk | hk
    · exact ⟨(h k hk).1, by have := (h k hk).2; omega⟩
    · exact ⟨by omega, hk.2⟩⟩
theorem install {G : Nat} (hw : Wd G w) (h : Bare B O w x st) (hG : G ≤ B) (hB : B ≤ w.heap.size) (hf : Fit st) (tv : Value) (ts : List Sp.Str) (htv : StrsAt w tv ts) (hts : ts.length ≤ 9000) :
    Calls Tryz.prog 25 #[.pointer (some ⟨x, 0, none⟩), tv] w fun e w' => e = .returned (faultV (st.install ts).1) ∧ Chg O w w' ∧ Bare B (fun k => O k ∨ w.heap.size ≤ k ∧ k < w'.heap.size) w' x (st.install ts).2 := by
  refine (sesInstall_any hw.glob hw.err (fun k hk => Nat.le_trans hG (h.low k hk).1) h.ses hf tv ts htv hts).mono ?_
  rintro e w' ⟨rfl, hc, hs⟩
  exact ⟨rfl, hc, grown hc.size hB h.low hs⟩
theorem remove {G : Nat} (hw : Wd G w) (h : Bare B O w x st) (hG : G ≤ B) (hB : B ≤ w.heap.size) (hf : Fit st) (tv : Value) (ts : List Sp.Str) (htv : StrsAt w tv ts) (hts : ts.length ≤ 9000) (hnl : ∀ n ∈ ts, n.length ≤ 10000) :
    Calls Tryz.prog 32 #[.pointer (some ⟨x, 0, none⟩), tv] w fun e w' => e = .returned (faultV (st.remove ts).1) ∧ Chg O w w' ∧ Bare B (fun k => O k ∨ w.heap.size ≤ k ∧ k < w'.heap.size) w' x (st.remove ts).2 := by
  refine (sesRemove_any hw.glob hw.err (fun k hk => Nat.le_trans hG (h.low k hk).1) h.ses hf tv ts htv hts hnl).mono ?_
  rintro e w' ⟨rfl, hc, hs⟩
  exact ⟨rfl, hc, grown hc.size hB h.low hs⟩
theorem plan {G : Nat} (hw : Wd G w) (h : Bare B O w x st) (hf : Fit st) (tv : Value) (ts : List Sp.Str) (htv : StrsAt w tv ts) (hts : ts.length ≤ 9000) :
    Calls Tryz.prog 23 #[.pointer (some ⟨x, 0, none⟩), tv] w fun e w' => ∃ v, e = .returned (.tuple #[v, faultV (st.plan ts).1]) ∧ StrsFrom w.heap.size w' v (st.plan ts).2 ∧ Below w.heap.size w w' :=
  sesPlan_any hw.glob hw.err h.ses hf tv ts htv hts
theorem packages (h : Bare B O w x st) {S : Nat} (hl : V10.Live S st) : Calls Tryz.prog 26 #[.pointer (some ⟨x, 0, none⟩)] w fun e w' => ∃ v, e = .returned (.tuple #[v, .bool true]) ∧ StrsFrom w.heap.size w' v (Sp.texts st.L) ∧ Below w.heap.size w w' :=
  PK.packages_any h.ses hl.ok.set (by have := V14.live_few hl; omega)
theorem cut (h : Bare B O w x st) (k : Int) (hk : k ≤ 9223372036854775807) :
    Calls Tryz.prog 28 #[.pointer (some ⟨x, 0, none⟩), .int .i64 k] w fun e w' => e = .returned (.tuple #[]) ∧ Chg O w w' ∧ Bare B O w' x (st.cut k) := by
  refine (sesCut_any h.ses k hk).mono ?_
  rintro e w' ⟨rfl, hc, hs⟩
  exact ⟨rfl, hc, hs, fun k hk => ⟨(h.low k hk).1, Nat.lt_of_lt_of_le (h.low k hk).2 hc.size⟩⟩
theorem lost (h : Bare B O w x st) : Calls Tryz.prog 29 #[.pointer (some ⟨x, 0, none⟩)] w fun e w' => e = .returned (.bool st.d.dead) ∧ w' = w := sesLost_any h.ses
theorem reopen {G S : Nat} (hw : Wd G w) (h : Bare B O w x st) (hG : G ≤ B) (hB : B ≤ w.heap.size) (mask after : Int) (hm1 : -9223372036854775808 ≤ mask) (hm2 : mask ≤ 9223372036854775807) (ha : after ≤ 9223372036854775807)
    (hlate : st.d.late.length < 900000) (hS : 16 ≤ st.d.seen.length) (hl : V10.Live S (st.reopen mask after)) :
    Calls Tryz.prog 30 #[.pointer (some ⟨x, 0, none⟩), .int .i64 mask, .int .i64 after] w fun e w' => e = .returned (faultV Sp.okF) ∧ Chg O w w' ∧ Bare B (fun k => O k ∨ w.heap.size ≤ k ∧ k < w'.heap.size) w' x (st.reopen mask after) := by
  refine (sesReopen_any hw.glob (fun k hk => Nat.le_trans hG (h.low k hk).1) h.ses mask after hm1 hm2 ha (by omega) hS hl.ok (by have := V14.live_few hl; omega)).mono ?_
  rintro e w' ⟨rfl, hc, hs⟩
  exact ⟨rfl, hc, grown hc.size hB h.low hs⟩
end Bare
/-- Texts that lie in blocks of their own. -/
def StrsIn (B C : Nat) (w : World) (v : Value) (l : List Sp.Str) : Prop := SlOn (fun k => B ≤ k ∧ k < C) w 1 v (l.map fun s => [sv s])
namespace StrsIn
variable {B C : Nat} {M : Nat → Prop} {w w' : World} {v : Value} {l : List Sp.Str}
theorem of_from (h : StrsFrom B w v l) (hC : w.heap.size ≤ C) : StrsIn B C w v l := SlOn.mono h fun k hk => ⟨hk.1, by have := hk.2; omega⟩
theorem below (h : StrsIn B C w v l) (hb : Below w.heap.size w w') (hC : C ≤ w.heap.size) : StrsIn B C w' v l := SlOn.keep h fun k hk => hb.block k (by have := hk.2; omega)
theorem chg (h : StrsIn B C w v l) (hc : Chg M w w') (hC : C ≤ w.heap.size) (hm : ∀ k, M k → k < B ∨ C ≤ k) : StrsIn B C w' v l := SlOn.keep h fun k hk => hc.block k (by have := hk.2; omega) fun hx => by
  have := hm k hx
  have := hk.1
  have := hk.2
  omega
theorem at_ (h : StrsIn B C w v l) (hC : C ≤ w.heap.size) : StrsAt w v l := SlOn.mono h fun k hk => by have := hk.2; omega
end StrsIn
end Go.Proofs.YtfphcecjhdkcoaaGreatDoor
/-
The walk of the reference's cut: the pieces of a text.
-/
namespace Go.Proofs.YtfphcecjhdkcoaaGreatDoor
open Go.RowKit
namespace R2
/-- How far the cut has come: what is done, where the piece under way began, how far has been looked. -/
def Far (s t : Sp.Str) (done : List Sp.Str) (f i : Nat) : Prop :=
  f ≤ i ∧ i ≤ s.length ∧ done ++ Lib.split (s.drop f) t = Lib.split s t ∧ ∀ j, j < i - f → Lib.occAt (s.drop f) t j = false
theorem far0 (s t : Sp.Str) : Far s t [] 0 0 := ⟨Nat.le_refl _, Nat.zero_le _, rfl, fun _j h => absurd h (Nat.not_lt_zero _)⟩
theorem far_hit {s t : Sp.Str} {done : List Sp.Str} {f i : Nat} (ht : t ≠ []) (h : Far s t done f i) (hi : i + t.length ≤ s.length) (ho : ((s.drop i).take t.length == t) = true) :
    Far s t (done ++ [(s.drop f).take (i - f)]) (i + t.length) (i + t.length) := by
  obtain ⟨h1, h2, h3, h4⟩ := h
  refine ⟨Nat.le_refl _, hi, ?_, fun _j hj => by omega⟩
  have ho' : Lib.occAt (s.drop f) t (i - f) = true := by
    rw [Sp.occ_drop, show f + (i - f) = i from by omega, Sp.occ_take _ _ _ hi]; exact ho
  rw [← h3, Sp.split_at (s.drop f) t ht (i - f) (by rw [List.length_drop]; omega) ho' h4, List.drop_drop, show f + (i - f + t.length) = i + t.length from by omega]
  simp
theorem far_miss {s t : Sp.Str} {done : List Sp.Str} {f i : Nat} (h : Far s t done f i) (ht : t ≠ []) (hi : i + t.length ≤ s.length) (ho : ((s.drop i).take t.length == t) = false) :
    Far s t done f (i + 1) := by
  obtain ⟨h1, h2, h3, h4⟩ := h
  have hl : 0 < t.length := List.length_pos_iff.2 ht
  refine ⟨by omega, by omega, h3, fun j hj => ?_⟩
  by_cases e : j = i - f
  · subst e
    rw [Sp.occ_drop, show f + (i - f) = i from by omega, Sp.occ_take _ _ _ hi]; exact ho
  · exact h4 j (by omega)
theorem far_end {s t : Sp.Str} {done : List Sp.Str} {f i : Nat} (ht : t ≠ []) (h : Far s t done f i) (hi : s.length < i + t.length) : Lib.split s t = done ++ [s.drop f] := by
  obtain ⟨h1, h2, h3, h4⟩ := h
  rw [← h3, Sp.split_end (s.drop f) t ht (i - f) (by rw [List.length_drop]; omega) h4]
theorem far_len {s t : Sp.Str} {done : List Sp.Str} {f i : Nat} (ht : t ≠ []) (h : Far s t done f i) : done.length ≤ s.length := by
  have h3 := h.2.2.1
  have h5 := Sp.split_length s t ht
  have h6 : 0 < (Lib.split (s.drop f) t).length := List.length_pos_iff.2 (Sp.split_ne _ t ht)
  rw [← h3, List.length_append] at h5
  omega
end R2
set_option maxRecDepth 100000 in
set_option maxHeartbeats 400000 in
theorem cutR_any (s t : ByteArray) (w : World) (hs : s.size < 1099511627776) (ht : 0 < t.size) (ht2 : t.size < 1099511627776) :
    Calls Tryz.prog 43 #[.string s, .string t] w fun e w' => ∃ v, e = .returned v ∧ w'.ownsRow w.heap.size 9 1 v (Lib.split (bl s) (bl t)).length ((Lib.split (bl s) (bl t)).map sv) ∧ Below w.heap.size w w' := by
  have htn : bl t ≠ [] := by intro h; rw [← bl_len, h] at ht; simp at ht
  have HT := Lib.hid htn
  clear htn
  obtain ⟨B, hB⟩ : ∃ B, w.heap.size = B := ⟨_, rfl⟩
  rw [hB]
  have HB := Lib.hid hB
  clear hB
  go_enter Tryz.func43, Tryz.ntmps43
  go_wp2
  go_loopw [5, 6, 7] (fun v f i wr => ∃ (done : List Sp.Str) (a b : Nat), f = .int .i64 a ∧ i = .int .i64 b ∧ R2.Far (bl s) (bl t) done a b ∧ wr.ownsRow B 9 1 v done.length (done.map sv) ∧ Below B w wr) (fun _ _ i _ => s.size + 1 - (intOf i).toNat)
  case atStart => exact ⟨[], 0, 0, rfl, rfl, R2.far0 _ _, World.ownsRow_nil _ _ _ _, Below.refl _ _⟩
  case round =>
    obtain ⟨done, a, b, rfl, rfl, hfar, hown, hbel⟩ := hrel
    have h1 : a ≤ b := hfar.1
    have h2 : b ≤ s.size := by have := hfar.2.1; rw [bl_len] at this; exact this
    have h3 : done.length ≤ s.size := by have := R2.far_len HT.out hfar; rw [bl_len] at this; exact this
    have HF := Lib.hid hfar
    clear hfar
    have hB' : B ≤ wr.heap.size := by have := hbel.size; rw [HB.out] at this; exact this
    by_cases h : b + t.size ≤ s.size
    · go_wp2_with (at_builtin; refine wp_app app38 wr [.string (s.extract a b)] rfl (by simp [Value.oneCell']) rfl _ _ rfl B _ _ _ rfl hown rfl (by omega) hB' ?_; intro v' w1 hown' hgrow _)
      · have hc : ((s.extract b (b + t.size)).toList == t.toList) = true := by assumption
        rw [eqs_bl, bl_ext, show b + t.size - b = (bl t).length from by rw [bl_len]; omega] at hc
        have hb1 := below_of_grown hbel hB' hown hgrow
        go_roundw
        case rel =>
          have hf := R2.far_hit HT.out HF.out (by rw [bl_len, bl_len]; exact h) hc
          rw [bl_len] at hf
          have e : [Value.string (s.extract a b)] = [sv ((List.drop a (bl s)).take (b - a))] := by rw [← bl_ext]; unfold sv; rw [mk_bl]
          rw [e] at hown'
          exact ⟨_, b + t.size, b + t.size, by go_num, by go_num, hf, by simpa using hown', hb1⟩
        case measure => simp [intOf]; omega
      · have hc : ((s.extract b (b + t.size)).toList == t.toList) = false := by assumption
        rw [eqs_bl, bl_ext, show b + t.size - b = (bl t).length from by rw [bl_len]; omega] at hc
        go_roundw
        case rel => exact ⟨done, a, b + 1, rfl, by go_num, R2.far_miss HF.out HT.out (by rw [bl_len, bl_len]; exact h) hc, hown, hbel⟩
        case measure => simp [intOf]; omega
    · go_wp2_with (at_builtin; refine wp_app app38 wr [.string (s.extract a s.size)] rfl (by simp [Value.oneCell']) rfl _ _ rfl B _ _ _ rfl hown rfl (by omega) hB' ?_; intro v' w1 hown' hgrow _)
      have hb1 := below_of_grown hbel hB' hown hgrow
      have e : [Value.string (s.extract a s.size)] = [sv (List.drop a (bl s))] := by rw [← bl_from]; unfold sv; rw [mk_bl]
      rw [e] at hown'
      have hend := R2.far_end HT.out HF.out (by rw [bl_len, bl_len]; omega)
      go_ret
      exact ⟨v', rfl, by rw [hend]; simpa using hown', hb1⟩
end Go.Proofs.YtfphcecjhdkcoaaGreatDoor
/-
The walk of the reference's choice.
-/
namespace Go.Proofs.YtfphcecjhdkcoaaGreatDoor
open Go.RowKit
namespace R3
theorem strs1 {w : World} {v : Value} {x0 : Sp.Str} {r : List Sp.Str} (h : StrsAt w v (x0 :: r)) : ∃ b off cap, v = .slice (some ⟨b, off, none⟩) (r.length + 1) cap ∧ r.length + 1 ≤ cap ∧ b < w.heap.size ∧ w.cell? ⟨b, off, none⟩ = some (.string ⟨x0.toArray⟩) := by
  obtain ⟨a, cap, rfl, hcap, hget⟩ := h.get
  obtain ⟨b, off, rfl, hb, hc⟩ := hget 0 (by simp)
  exact ⟨b, off, cap, rfl, hcap, hb, hc⟩
theorem strs3 {w : World} {v : Value} {x0 x1 x2 : Sp.Str} (h : StrsAt w v [x0, x1, x2]) : ∃ b off cap, v = .slice (some ⟨b, off, none⟩) 3 cap ∧ 3 ≤ cap ∧ b < w.heap.size ∧ w.cell? ⟨b, off, none⟩ = some (.string ⟨x0.toArray⟩) ∧ w.cell? ⟨b, off + 1, none⟩ = some (.string ⟨x1.toArray⟩) ∧ w.cell? ⟨b, off + 2, none⟩ = some (.string ⟨x2.toArray⟩) := by
  obtain ⟨a, cap, rfl, hcap, hget⟩ := h.get
  obtain ⟨b, off, rfl, hb, hc⟩ := hget 0 (by simp)
  obtain ⟨b1, off1, e1, _, hc1⟩ := hget 1 (by simp)
  obtain ⟨b2, off2, e2, _, hc2⟩ := hget 2 (by simp)
  cases e1; cases e2
  exact ⟨b, off, cap, rfl, hcap, hb, hc, hc1, hc2⟩
theorem last_eq (x : Sp.Str) : (({ data := List.toArray x } : ByteArray).extract (List.length x - 1) (List.length x)).toList = x.drop (x.length - 1) := by
  rw [toList_bl, bl_ext, bl_mk]
  exact List.take_of_length_le (by rw [List.length_drop]; omega)
theorem ext_tail (x : Sp.Str) : ({ data := List.toArray x } : ByteArray).extract 1 (List.length x) = ⟨(x.drop 1).toArray⟩ :=
  bl_inj (by rw [bl_ext, bl_mk, bl_mk]; exact List.take_of_length_le (by rw [List.length_drop]; omega))
theorem ext_init (x : Sp.Str) (n : Nat) : ({ data := List.toArray x } : ByteArray).extract 0 n = ⟨(x.take n).toArray⟩ :=
  bl_inj (by rw [bl_to, bl_mk, bl_mk])
end R3
/-- What the reference's choice comes to. -/
def ChoiceR (s : Sp.Str) (w : World) (e : Ending) (w' : World) : Prop :=
  Below w.heap.size w w' ∧ ∃ (c : Sp.Ch) (ok : Bool), e = .returned (.tuple #[.agg #[sv c.name, sv c.sign, sv c.ver], .bool ok]) ∧ Sp.choose s = if ok then some c else none
theorem choice_one (s : ByteArray) (w : World) (hs : s.size < 1000000) (x0 : Sp.Str) (hP : Lib.split (bl s) [32] = [x0]) :
    Calls Tryz.prog 119 #[.string s] w (ChoiceR (bl s) w) := by
  have h0 : x0.length ≤ s.size := by rw [← bl_len]; exact Sp.split_mem (bl s) [32] x0 (by simp) (by rw [hP]; simp)
  have hx : x0 = bl s := by
    rcases T1.byte1 32 (bl s) with ⟨_, h2, _⟩ | ⟨a, r, _, _, h2, _⟩
    · rw [hP] at h2; exact (List.cons.inj h2).1
    · rw [hP] at h2; exact absurd (List.cons.inj h2).2.symm (Sp.split_ne _ _ (by simp))
  have hc : Sp.choose (bl s) = if Sp.isName x0 then some ⟨x0, [], []⟩ else none := by
    rw [← T1.choice_eq]; unfold T1.choiceR; rw [hP, hx]
  have HP := Lib.hid hP
  have HC := Lib.hid hc
  have HX := Lib.hid hx
  clear hP hc hx
  go_enter Tryz.func119, Tryz.ntmps119
  go_wp2_with fail
  refine (cutR_any s _ _ (by omega) (by decide) (by decide)).mono ?_
  rintro e w1 ⟨v, rfl, hown, hb⟩
  rw [show bl ⟨#[32]⟩ = [32] from rfl, HP.out] at hown
  obtain ⟨b, off, cap, rfl, hcap, hbb, c0⟩ := R3.strs1 (StrsAt.of_row hown)
  simp only [List.length_nil, Nat.zero_add] at hcap
  simp only [List.length_nil, Nat.zero_add]
  clear hown
  obtain ⟨hc, hf⟩ := bcell hb
  have hz : w.heap.size < w1.heap.size := by have := hb.size; simp at this; omega
  go_wp2_with fail
  refine (isName_any _ _ (by rw [← bl_len, bl_mk]; omega)).mono ?_
  rintro e w2 ⟨rfl, rfl⟩
  rw [bl_mk]
  go_wp2
  refine bodyPost_ret (v := .tuple #[.agg #[.string s, .string ⟨#[]⟩, .string ⟨#[]⟩], .bool (Sp.isName x0)]) (by simp [results, Tryz.results119, go_sem, hc]) rfl ?_
  refine ⟨?_, ⟨bl s, [], []⟩, Sp.isName x0, ?_, ?_⟩
  · have hb1 : Below w.heap.size w w1 := Below.trans ((Below.refl _ _).alloc (Nat.le_refl _) _) (hb.mono (by simp))
    repeat' (first | assumption | refine Below.setCell ?_ (by simp) _ | refine Below.alloc ?_ (by simp; omega) _)
  · unfold sv; rw [mk_bl]
  · rw [HC.out, HX.out]
theorem choice_few (s : ByteArray) (w : World) (hs : s.size < 1000000) (x0 : Sp.Str) (r : List Sp.Str) (hP : Lib.split (bl s) [32] = x0 :: r) (hr : ¬ r.length = 0) (hr2 : ¬ r.length = 2) :
    Calls Tryz.prog 119 #[.string s] w (ChoiceR (bl s) w) := by
  have h0 : x0.length ≤ s.size := by rw [← bl_len]; exact Sp.split_mem (bl s) [32] x0 (by simp) (by rw [hP]; simp)
  have hc : Sp.choose (bl s) = none := by
    rw [← T1.choice_eq]; unfold T1.choiceR; rw [hP]
    match r, hr, hr2 with
    | [], h, _ => exact absurd rfl h
    | [_], _, _ => rfl
    | [_, _], _, h => exact absurd rfl h
    | _ :: _ :: _ :: _, _, _ => rfl
  have HP := Lib.hid hP
  have HC := Lib.hid hc
  clear hP hc
  go_enter Tryz.func119, Tryz.ntmps119
  go_wp2_with fail
  refine (cutR_any s _ _ (by omega) (by decide) (by decide)).mono ?_
  rintro e w1 ⟨v, rfl, hown, hb⟩
  rw [show bl ⟨#[32]⟩ = [32] from rfl, HP.out] at hown
  obtain ⟨b, off, cap, rfl, hcap, hbb, c0⟩ := R3.strs1 (StrsAt.of_row hown)
  obtain ⟨n, hn⟩ : ∃ n, n = r.length + 1 := ⟨_, rfl⟩
  rw [← hn] at hcap ⊢
  have hn1 : ¬ n = 1 := by omega
  have hn3 : ¬ n = 3 := by omega
  have hn0 : 0 < n := by omega
  clear hown hn hr hr2
  obtain ⟨hc, hf⟩ := bcell hb
  have hz : w.heap.size < w1.heap.size := by have := hb.size; simp at this; omega
  go_wp2_with fail
  refine (isName_any _ _ (by rw [← bl_len, bl_mk]; omega)).mono ?_
  rintro e w2 ⟨rfl, rfl⟩
  rw [bl_mk]
  go_wp2
  refine bodyPost_ret (v := .tuple #[.agg #[.string ⟨#[]⟩, .string ⟨#[]⟩, .string ⟨#[]⟩], .bool false]) (by simp [results, Tryz.results119, go_sem, hc]) rfl ?_
  refine ⟨?_, ⟨[], [], []⟩, false, rfl, HC.out⟩
  have hb1 : Below w.heap.size w w1 := Below.trans ((Below.refl _ _).alloc (Nat.le_refl _) _) (hb.mono (by simp))
  repeat' (first | assumption | refine Below.setCell ?_ (by simp) _ | refine Below.alloc ?_ (by simp; omega) _)
end Go.Proofs.YtfphcecjhdkcoaaGreatDoor
/-
The walk of the reference's choice at three pieces; the reference's choice, whole.
-/
namespace Go.Proofs.YtfphcecjhdkcoaaGreatDoor
open Go.RowKit
set_option maxHeartbeats 2000000 in
theorem choice_three (s : ByteArray) (w : World) (hs : s.size < 1000000) (x0 x1 x2 : Sp.Str) (hP : Lib.split (bl s) [32] = [x0, x1, x2]) :
    Calls Tryz.prog 119 #[.string s] w (ChoiceR (bl s) w) := by
  have h0 : x0.length ≤ s.size := by rw [← bl_len]; exact Sp.split_mem (bl s) [32] x0 (by simp) (by rw [hP]; simp)
  have h2 : x2.length ≤ s.size := by rw [← bl_len]; exact Sp.split_mem (bl s) [32] x2 (by simp) (by rw [hP]; simp)
  have h1 : x1.length ≤ s.size := by rw [← bl_len]; exact Sp.split_mem (bl s) [32] x1 (by simp) (by rw [hP]; simp)
  have hc : Sp.choose (bl s) = if Sp.isName x0 && !x2.isEmpty && Sp.isVer (x2.take (x2.length - 1)) && T1.sgn x1 && (x2.drop (x2.length - 1) == [41]) then some ⟨x0, x1.drop 1, x2.take (x2.length - 1)⟩ else none := by
    rw [← T1.choice_eq]; unfold T1.choiceR; rw [hP]
  have HP := Lib.hid hP
  have HC := Lib.hid hc
  clear hP hc
  go_enter Tryz.func119, Tryz.ntmps119
  go_wp2_with fail
  refine (cutR_any s _ _ (by omega) (by decide) (by decide)).mono ?_
  rintro e w1 ⟨v, rfl, hown, hb⟩
  rw [show bl ⟨#[32]⟩ = [32] from rfl, HP.out] at hown
  obtain ⟨b, off, cap, rfl, hcap, hbb, c0, c1, c2⟩ := R3.strs3 (StrsAt.of_row hown)
  clear hown
  obtain ⟨hc, hf⟩ := bcell hb
  have hz : w.heap.size < w1.heap.size := by have := hb.size; simp at this; omega
  have hb1 : Below w.heap.size w w1 := Below.trans ((Below.refl _ _).alloc (Nat.le_refl _) _) (hb.mono (by simp))
  go_wp2_with fail
  refine (isName_any _ _ (by rw [← bl_len, bl_mk]; omega)).mono ?_
  rintro e w2 ⟨rfl, rfl⟩
  rw [bl_mk]
  cases hn : Sp.isName x0 with
  | false =>
    have HN := Lib.hid hn
    clear hn
    go_wp2
    refine bodyPost_ret (v := .tuple #[.agg #[.string ⟨#[]⟩, .string ⟨#[]⟩, .string ⟨#[]⟩], .bool false]) (by simp [results, Tryz.results119, go_sem, hc]) rfl ?_
    refine ⟨?_, ⟨[], [], []⟩, false, rfl, by rw [HC.out, HN.out]; rfl⟩
    repeat' (first | assumption | refine Below.setCell ?_ (by simp) _ | refine Below.alloc ?_ (by simp; omega) _)
  | true =>
    have HN := Lib.hid hn
    clear hn
    by_cases hl : x2.length = 0
    · have HL := Lib.hid hl
      go_wp2
      refine bodyPost_ret (v := .tuple #[.agg #[.string ⟨#[]⟩, .string ⟨#[]⟩, .string ⟨#[]⟩], .bool false]) (by simp [results, Tryz.results119, go_sem, hc]) rfl ?_
      refine ⟨?_, ⟨[], [], []⟩, false, rfl, by rw [HC.out, List.length_eq_zero_iff.1 HL.out]; simp⟩
      repeat' (first | assumption | refine Below.setCell ?_ (by simp) _ | refine Below.alloc ?_ (by simp; omega) _)
    · have hl' : 0 < x2.length := by omega
      have HL : Hid (x2.isEmpty = false) := Lib.hid (by cases x2 with
        | nil => exact absurd rfl hl
        | cons _ _ => rfl)
      go_wp2_with fail
      refine (isVer_any _ _ (by rw [← bl_len, bl_to, bl_mk]; simp; omega)).mono ?_
      rintro e w2 ⟨rfl, rfl⟩
      rw [bl_to, bl_mk]
      cases hv : Sp.isVer (x2.take (x2.length - 1)) with
      | false =>
        have HV := Lib.hid hv
        clear hv
        go_wp2
        all_goals
          refine bodyPost_ret (v := .tuple #[.agg #[.string ⟨#[]⟩, .string ⟨#[]⟩, .string ⟨#[]⟩], .bool false]) (by simp [results, Tryz.results119, go_sem, hc]) rfl ?_
          refine ⟨?_, ⟨[], [], []⟩, false, rfl, by rw [HC.out, HV.out]; simp⟩
          repeat' (first | assumption | refine Below.setCell ?_ (by simp) _ | refine Below.alloc ?_ (by simp; omega) _)
      | true =>
        have HV := Lib.hid hv
        clear hv
        cases hsg : T1.sgn x1 with
        | false =>
          have HS := Lib.hid hsg
          have hs5 : (x1 == [40, 60, 60]) = false ∧ (x1 == [40, 60, 61]) = false ∧ (x1 == [40, 61]) = false ∧ (x1 == [40, 62, 61]) = false ∧ (x1 == [40, 62, 62]) = false := by
            unfold T1.sgn at hsg
            simp only [Bool.or_eq_false_iff] at hsg
            exact ⟨hsg.1.1.1.1, hsg.1.1.1.2, hsg.1.1.2, hsg.1.2, hsg.2⟩
          obtain ⟨s1, s2, s3, s4, s5⟩ := hs5
          clear hsg
          go_wp2
          refine bodyPost_ret (v := .tuple #[.agg #[.string ⟨#[]⟩, .string ⟨#[]⟩, .string ⟨#[]⟩], .bool false]) (by simp [results, Tryz.results119, go_sem, hc]) rfl ?_
          refine ⟨?_, ⟨[], [], []⟩, false, rfl, by rw [HC.out, HS.out]; simp⟩
          repeat' (first | assumption | refine Below.setCell ?_ (by simp) _ | refine Below.alloc ?_ (by simp; omega) _)
        | true =>
          have HS := Lib.hid hsg
          have hs5 : (x1 == [40, 60, 60]) = true ∨ ((x1 == [40, 60, 60]) = false ∧ (x1 == [40, 60, 61]) = true) ∨ ((x1 == [40, 60, 60]) = false ∧ (x1 == [40, 60, 61]) = false ∧ (x1 == [40, 61]) = true) ∨
              ((x1 == [40, 60, 60]) = false ∧ (x1 == [40, 60, 61]) = false ∧ (x1 == [40, 61]) = false ∧ (x1 == [40, 62, 61]) = true) ∨ ((x1 == [40, 60, 60]) = false ∧ (x1 == [40, 60, 61]) = false ∧ (x1 == [40, 61]) = false ∧ (x1 == [40, 62, 61]) = false ∧ (x1 == [40, 62, 62]) = true) := by
            unfold T1.sgn at hsg
            revert hsg
            cases (x1 == [40, 60, 60]) <;> cases (x1 == [40, 60, 61]) <;> cases (x1 == [40, 61]) <;> cases (x1 == [40, 62, 61]) <;> cases (x1 == [40, 62, 62]) <;> simp
          have hlx : 1 ≤ x1.length := by
            cases x1 with
            | nil => simp [T1.sgn] at hsg
            | cons _ _ => simp
          clear hsg
          rcases hs5 with s1 | ⟨s1, s2⟩ | ⟨s1, s2, s3⟩ | ⟨s1, s2, s3, s4⟩ | ⟨s1, s2, s3, s4, s5⟩
          all_goals
            go_wp2
            · have hla : (!(({ data := List.toArray x2 } : ByteArray).extract (List.length x2 - 1) (List.length x2)).toList == [41]) = true := by assumption
              rw [R3.last_eq] at hla
              refine bodyPost_ret (v := .tuple #[.agg #[.string ⟨#[]⟩, .string ⟨#[]⟩, .string ⟨#[]⟩], .bool false]) (by simp [results, Tryz.results119, go_sem, hc]) rfl ?_
              refine ⟨?_, ⟨[], [], []⟩, false, rfl, by rw [HC.out, show (x2.drop (x2.length - 1) == [41]) = false from by simpa using hla]; simp⟩
              repeat' (first | assumption | refine Below.setCell ?_ (by simp) _ | refine Below.alloc ?_ (by simp; omega) _)
            · have hla : (!(({ data := List.toArray x2 } : ByteArray).extract (List.length x2 - 1) (List.length x2)).toList == [41]) = false := by assumption
              rw [R3.last_eq] at hla
              have HLA := Lib.hid hla
              clear hla
              go_region
              go_wp2
              refine bodyPost_ret (v := .tuple #[.agg #[.string ⟨x0.toArray⟩, .string (({ data := List.toArray x1 } : ByteArray).extract 1 x1.length), .string (({ data := List.toArray x2 } : ByteArray).extract 0 (x2.length - 1))], .bool true]) (by simp [results, Tryz.results119, go_sem, hc]) rfl ?_
              refine ⟨?_, ⟨x0, x1.drop 1, x2.take (x2.length - 1)⟩, true, by rw [R3.ext_tail, R3.ext_init]; rfl, by rw [HC.out, HN.out, HL.out, HV.out, HS.out, show (x2.drop (x2.length - 1) == [41]) = true from by simpa using HLA.out]; rfl⟩
              refine Below.drew ?_
              repeat' (first | assumption | refine Below.setCell ?_ (by simp) _ | refine Below.alloc ?_ (by simp; omega) _)
theorem choice_any (s : ByteArray) (w : World) (hs : s.size < 1000000) : Calls Tryz.prog 119 #[.string s] w (ChoiceR (bl s) w) := by
  match hP : Lib.split (bl s) [32] with
  | [] => exact absurd hP (Sp.split_ne _ _ (by simp))
  | [x0] => exact choice_one s w hs x0 hP
  | [x0, x1] => exact choice_few s w hs x0 [x1] hP (by simp) (by simp)
  | [x0, x1, x2] => exact choice_three s w hs x0 x1 x2 hP
  | x0 :: x1 :: x2 :: x3 :: r => exact choice_few s w hs x0 (x1 :: x2 :: x3 :: r) hP (by simp) (by simp)
end Go.Proofs.YtfphcecjhdkcoaaGreatDoor
namespace Go.Proofs.YtfphcecjhdkcoaaGreatDoor
open Go.RowKit
theorem info135 : (Tryz.prog.info? 135).map (fun i => (i.zero, i.size, i.bytes)) = some (some (.agg #[.string ⟨#[]⟩, .string ⟨#[]⟩, .string ⟨#[]⟩]), 3, 48) := by kernel_rfl
theorem app27 : AppTy 27 135 3 48 := AppTy.of Tryz.underlying27 info135 rfl (by decide) (by decide)
/-- What the reference's choices comes to. -/
def ChoicesR (s sep : Sp.Str) (most : Nat) (w : World) (e : Ending) (w' : World) : Prop :=
  Below w.heap.size w w' ∧ ∃ (l : List Sp.Ch) (v : Value) (ok : Bool), e = .returned (.tuple #[v, .bool ok]) ∧ Sp.each s sep most Sp.choose = (if ok then some l else none) ∧ w'.ownsRow w.heap.size 135 3 v l.length (chRow l)
set_option maxRecDepth 100000 in
set_option maxHeartbeats 1000000 in
theorem choices_any (s sep : ByteArray) (most : Nat) (w : World) (hs : s.size < 1000000) (h0 : 0 < sep.size) (hsep : sep.size < 1000) :
    Calls Tryz.prog 70 #[.string s, .string sep, .int .i64 most] w (ChoicesR (bl s) (bl sep) most w) := by
  have htn : bl sep ≠ [] := by intro h; rw [← bl_len, h] at h0; simp at h0
  have hpl := Sp.split_length (bl s) (bl sep) htn
  rw [bl_len] at hpl
  have hpm : ∀ x ∈ Lib.split (bl s) (bl sep), x.length < 1000000 := fun x hx => by
    have := Sp.split_mem (bl s) (bl sep) x htn hx; rw [bl_len] at this; omega
  have HPM := Lib.hid hpm
  clear htn hpm
  obtain ⟨B, hB⟩ : ∃ B, w.heap.size = B := ⟨_, rfl⟩
  have HB := Lib.hid hB
  go_enter Tryz.func70, Tryz.ntmps70
  go_wp2_with fail
  refine (cutR_any s sep w (by omega) h0 (by omega)).mono ?_
  rintro e w1 ⟨v, rfl, hown, hb⟩
  have hv := StrsAt.of_row hown
  generalize hL : Lib.split (bl s) (bl sep) = L at *
  obtain ⟨a, cap, rfl, hcap, hget⟩ := hv.get
  have HL := Lib.hid hL.symm
  have HG := Lib.hid hget
  clear hL hv hget hown
  rw [hB] at hb
  clear hB
  have hBw : B ≤ w1.heap.size := by have := hb.size; rw [HB.out] at this; exact this
  go_wp2
  go_loopw [9, 10, 11, 12] (fun v i _ _ wr => ∃ (k : Nat) (done : List Sp.Ch), k ≤ L.length ∧ i = .int .i64 k ∧ Sp.mapO Sp.choose (L.take k) = some done ∧ wr.ownsRow w1.heap.size 135 3 v done.length (chRow done) ∧ Below w1.heap.size w1 wr) (fun _ i _ _ _ => L.length - (intOf i).toNat)
  case atStart => exact ⟨0, [], Nat.zero_le _, rfl, rfl, World.ownsRow_nil _ _ _ _, Below.refl _ _⟩
  case round =>
    obtain ⟨k, done, hk, rfl, hdone, hown, hbel⟩ := hrel
    have hlen := W3.mapO_len _ _ _ hdone
    rw [List.length_take, Nat.min_eq_left hk] at hlen
    have HD := Lib.hid hdone
    have hn : done.length ≤ 1000000 := by omega
    have HLEN := Lib.hid hlen
    have hbw : Below B w wr := hb.trans (hbel.mono hBw)
    have hw1 : w1.heap.size ≤ wr.heap.size := hbel.size
    have hbw0 : B ≤ wr.heap.size := by omega
    clear hdone hlen
    by_cases h : k < L.length
    · obtain ⟨b, off, rfl, hbb, hcell⟩ := HG.out k h
      have hcell' := (hbel.cell (p := ⟨b, off + k, none⟩) hbb).trans hcell
      have hpiece : (⟨L[k].toArray⟩ : ByteArray).size < 1000000 := by
        have := HPM.out L[k] (List.getElem_mem h); rw [← bl_len, bl_mk]; omega
      clear hcell HG
      go_wp2_with fail
      refine (choice_any ⟨L[k].toArray⟩ wr hpiece).mono ?_
      rintro e w2 ⟨hb2, c, ok, rfl, hch⟩
      rw [bl_mk] at hch
      have HCH := Lib.hid hch
      have hown2 := W3.row_keep hown hb2
      have hbel2 := hbel.trans (hb2.mono hw1)
      have hs2 := hb2.size
      clear hch
      unfold sv
      cases ok with
      | false =>
        go_wp2
        go_ret2
        refine ⟨?_, [], _, false, rfl, W3.each_stop HL.out (W3.mapO_stop _ L[k] L (List.getElem_mem h) HCH.out), World.ownsRow_nil _ _ _ _⟩
        rw [HB.out]
        have hb3 := hbw.trans (hb2.mono hbw0)
        exact hb3.alloc (by omega) _
      | true =>
        go_wp2_with (at_builtin; refine wp_app app27 (w2.alloc (Obj.cells #[Value.string ⟨c.name.toArray⟩, Value.string ⟨c.sign.toArray⟩, Value.string ⟨c.ver.toArray⟩] 135)) [.string ⟨c.name.toArray⟩, .string ⟨c.sign.toArray⟩, .string ⟨c.ver.toArray⟩] rfl (by simp [Value.oneCell']) rfl _ _ rfl w1.heap.size _ _ _ rfl (hown2.alloc _) (by rw [World.size_alloc]; rfl) (by omega) (by simp; omega) ?_; intro v' w3 hown' hgrow _)
        have hbel3 := below_of_grown (hbel2.alloc hbel2.size _) (by simp; omega) (hown2.alloc _) hgrow
        have e : [Value.string ⟨c.name.toArray⟩, .string ⟨c.sign.toArray⟩, .string ⟨c.ver.toArray⟩] = [sv c.name, sv c.sign, sv c.ver] := rfl
        rw [e, chRow_snoc] at hown'
        go_roundw
        case rel => exact ⟨k + 1, done ++ [c], h, by go_num, W3.mapO_next h HD.out HCH.out, by simpa using hown', hbel3⟩
        case measure => simp [intOf]; omega
    · obtain rfl : k = L.length := by omega
      have hdone' : Sp.mapO Sp.choose L = some done := by have := HD.out; rwa [List.take_length] at this
      have hln : (done.length : Int) = L.length := by have := HLEN.out; omega
      have HD' := Lib.hid hdone'
      have HLN := Lib.hid hln
      clear hdone' hln HG
      obtain ⟨ra, rc, rfl⟩ := W3.row_slice hown
      by_cases hmo : done.length ≤ most
      · go_wp2
        go_ret2
        exact ⟨by rw [HB.out]; exact hbw, done, _, true, rfl, by rw [W3.each_of HL.out HD'.out, if_pos hmo]; rfl, W3.row_base hown (by rw [HB.out]; exact hBw)⟩
      · go_wp2
        go_ret2
        exact ⟨by rw [HB.out]; exact hbw, done, _, false, rfl, by rw [W3.each_of HL.out HD'.out, if_neg hmo]; rfl, W3.row_base hown (by rw [HB.out]; exact hBw)⟩
end Go.Proofs.YtfphcecjhdkcoaaGreatDoor

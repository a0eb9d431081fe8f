/-
The walk of the law Turned.
-/
import Derived.Test.YtfphcecjhdkcoaaGreatDoorTurnedP16
/-
Plain: a store whose power may go: alive, or gone in the middle of a change; and opened anew.
-/
namespace Go.Proofs.YtfphcecjhdkcoaaGreatDoor
namespace V14
open Sp (Str Pk Dk St)
/-- The power is gone in the middle of a change from L to A. -/
structure Gone (S n : Nat) (L A : List Pk) (x : St) : Prop where
  torn : V7.Torn S (V10.Two n L A) x.d
  okL : Sp.Ok L
  okA : Sp.Ok A
  roomL : Sp.size L ≤ Sp.room S
  roomA : Sp.size A ≤ Sp.room S
  big : 16 ≤ S ∧ S ≤ 256
  late : x.d.late.length < 900000
  few : n + 1 < 18446744073709551616
theorem save_late (d : Dk) (last : Nat) (b : Str) : (Sp.save d last b).late.length ≤ d.late.length + (b.length + 63) / 64 + 1 := by
  unfold Sp.save
  have h1 := V12.writes_len (Sp.chunks b) (Sp.areaFrom d.seen.length (last + 1)) d
  have h2 := V12.sync_len (d.writes (Sp.areaFrom d.seen.length (last + 1)) (Sp.chunks b))
  have h3 := V12.write_len ((d.writes (Sp.areaFrom d.seen.length (last + 1)) (Sp.chunks b)).sync) ((last + 1) % 2) (Sp.headB (last + 1) b.length (Sp.sum b))
  have h4 := V12.sync_len (((d.writes (Sp.areaFrom d.seen.length (last + 1)) (Sp.chunks b)).sync).write ((last + 1) % 2) (Sp.headB (last + 1) b.length (Sp.sum b)))
  rw [V6.chunks_len] at h1
  omega
theorem become_L (x : St) (A : List Pk) : (x.become A).L = A ∧ (x.become A).last ≤ x.last + 1 := by
  unfold St.become; split <;> exact ⟨rfl, by simp⟩
/-- A change: done, or the power went in the middle of it. -/
theorem become_cases {S : Nat} {x : St} (h : V10.Live S x) {A : List Pk} (hA : Sp.Ok A) (hr : Sp.size A ≤ Sp.room S) (hn : x.last + 1 < 18446744073709551616) (hp : A.length = x.L.length → A.Perm x.L) :
    ((x.become A).d.dead = false ∧ V10.Live S (x.become A)) ∨ ((x.become A).d.dead = true ∧ Gone S x.last x.L A (x.become A)) := by
  rcases V10.become_live h hA hr hn hp with h1 | h1
  · exact .inl h1
  · refine .inr ⟨h1.dead, h1, h.ok, hA, h.room, hr, h.big, ?_, hn⟩
    unfold St.become
    split
    · rw [h.calm.late]; decide
    · have h2 := save_late x.d x.last (Sp.joined A)
      have h3 := (V10.room_small hA.set h.big hr).1
      have h4 := h.big
      show (Sp.save x.d x.last (Sp.joined A)).late.length < 900000
      rw [h.calm.late] at h2
      unfold Sp.areaN at h3
      simp only [List.length_nil] at h2
      omega
theorem install_live {S : Nat} {x : St} (h : V10.Live S x) (hn : x.last + 1 < 18446744073709551616) (ts : List Str) :
    ((x.install ts).1.kind ≠ 0 ∧ (x.install ts).2 = x ∧ ∀ y : St, y.L = x.L → y.d.seen.length = x.d.seen.length → (y.install ts).1 = (x.install ts).1 ∧ (y.install ts).2 = y) ∨
    ∃ A o, Sp.planned x.L ts = .inr (A, o) ∧ Sp.size A ≤ Sp.room S ∧ (x.install ts).1 = Sp.okF ∧ (x.install ts).2 = x.become A ∧ Sp.Ok A ∧
      (((x.become A).d.dead = false ∧ V10.Live S (x.become A)) ∨ ((x.become A).d.dead = true ∧ Gone S x.last x.L A (x.become A))) := by
  cases hp : Sp.planned x.L ts with
  | inl f =>
    have := V11.planned_kind hp
    rw [V10.install_no hp]
    refine .inl ⟨by show f.kind ≠ 0; omega, rfl, fun y hy _ => ?_⟩
    rw [V10.install_no (x := y) (by rw [hy]; exact hp)]
    exact ⟨rfl, rfl⟩
  | inr Ao =>
    obtain ⟨A, o⟩ := Ao
    by_cases hr : Sp.room S < Sp.size A
    · have e := V10.install_full h hp hr
      rw [e]
      refine .inl ⟨by simp, rfl, fun y hy hl => ?_⟩
      have e2 : y.install ts = (⟨8, 0, 0, []⟩, y) := by unfold St.install; rw [hy, hp]; simp only; rw [hl, h.seen, if_pos hr]
      rw [e2]; exact ⟨rfl, rfl⟩
    · obtain ⟨e, hA, _⟩ := V10.install_yes h hn hp (by omega)
      obtain ⟨_, F, rfl, _⟩ := V9.planned_ok h.ok.set hp
      rw [e]
      exact .inr ⟨_, o, rfl, by omega, rfl, rfl, hA, become_cases h hA (by omega) hn fun e => by rw [V10.perm_of_len e, List.append_nil]⟩
theorem remove_live {S : Nat} {x : St} (h : V10.Live S x) (hn : x.last + 1 < 18446744073709551616) (ns : List Str) :
    ((x.remove ns).1.kind ≠ 0 ∧ (x.remove ns).2 = x ∧ ∃ f, Sp.removed x.L ns = .inl f ∧ (x.remove ns).1 = f) ∨
    ∃ A, Sp.removed x.L ns = .inr A ∧ Sp.size A ≤ Sp.room S ∧ (x.remove ns).1 = Sp.okF ∧ (x.remove ns).2 = x.become A ∧ Sp.Ok A ∧
      (((x.become A).d.dead = false ∧ V10.Live S (x.become A)) ∨ ((x.become A).d.dead = true ∧ Gone S x.last x.L A (x.become A))) := by
  cases hp : Sp.removed x.L ns with
  | inl f =>
    have e : x.remove ns = (f, x) := by unfold St.remove; rw [hp]
    rw [e]
    have := V11.removed_kind hp
    exact .inl ⟨by show f.kind ≠ 0; omega, rfl, f, rfl, rfl⟩
  | inr A =>
    obtain ⟨hA, hsub⟩ := V9.removed_ok h.ok hp
    have hsz : Sp.size A ≤ Sp.room S := by
      refine Nat.le_trans ?_ h.room
      unfold Sp.size
      exact V11.sum_sub (hsub.map _)
    have e : x.remove ns = (Sp.okF, x.become A) := by unfold St.remove; rw [hp, h.seen]; simp only; rw [if_neg (by omega)]
    rw [e]
    exact .inr ⟨A, rfl, hsz, rfl, rfl, hA, become_cases h hA hsz hn fun e => by rw [V11.filter_len hsub e]⟩
theorem gone_reopen {S n : Nat} {L A : List Pk} {x : St} (h : Gone S n L A x) (mask after : Int) :
    V10.Live S (x.reopen mask after) ∧ (((x.reopen mask after).last = n ∧ (x.reopen mask after).L = V8.byName L) ∨ ((x.reopen mask after).last = n + 1 ∧ (x.reopen mask after).L = V8.byName A)) :=
  V10.reopen_torn h.torn h.okL h.okA h.roomL h.roomA h.big mask after
theorem gone_cut {S n : Nat} {L A : List Pk} {x : St} (h : Gone S n L A x) (k : Int) : Gone S n L A (x.cut k) :=
  ⟨h.torn.cut k, h.okL, h.okA, h.roomL, h.roomA, h.big, h.late, h.few⟩
theorem texts_byName {L : List Pk} (h : Sp.Set L) : Sp.texts (V8.byName L) = Sp.texts L := (V8.texts_eq h (V8.byName_perm h).symm).symm
theorem live_few {S : Nat} {x : St} (h : V10.Live S x) : x.L.length ≤ 600 := by
  have h1 := V8.size_count h.ok.set.good
  have h2 := h.room
  have h3 := h.big
  unfold Sp.room at h2
  omega
/-- The power goes in the middle of an installation, and of opening: all of it is there, or what was. -/
theorem survives_law {S : Nat} {x : St} (h : V11.Sure S x) (hn : x.last + 1 < 18446744073709551616) (ts : List Str) (c mask after m2 : Int) :
    let z1 := ((x.cut c).install ts).2
    (z1.d.late.length < 900000 ∧ z1.d.seen.length = S ∧ V10.Live S (z1.reopen mask after) ∧ V10.Live S ((z1.reopen mask after).reopen m2 (-1)) ∧ V10.Live S (((z1.reopen mask after).reopen m2 (-1)).reopen 0 (-1))) ∧
    (Sp.texts (((z1.reopen mask after).reopen m2 (-1)).reopen 0 (-1)).L = Sp.texts (x.install ts).2.L ∨ (z1.d.dead = true ∧ Sp.texts (((z1.reopen mask after).reopen m2 (-1)).reopen 0 (-1)).L = Sp.texts x.L)) := by
  intro z1
  have hz : V10.Live S (x.cut c) := V10.cut_live h.live c
  have two : ∀ (y : St), V10.Live S y → V10.Live S (y.reopen m2 (-1)) ∧ V10.Live S ((y.reopen m2 (-1)).reopen 0 (-1)) ∧ Sp.texts (((y.reopen m2 (-1)).reopen 0 (-1)).L) = Sp.texts y.L := by
    intro y hy
    obtain ⟨b1, _, b3⟩ := V10.reopen_live hy m2 (-1)
    obtain ⟨c1, _, c3⟩ := V10.reopen_live b1 0 (-1)
    exact ⟨b1, c1, by rw [c3, texts_byName b1.ok.set, b3, texts_byName hy.ok.set]⟩
  have three : ∀ (y : St), V10.Live S y → (y.d.late.length < 900000 ∧ y.d.seen.length = S ∧ V10.Live S (y.reopen mask after) ∧ V10.Live S ((y.reopen mask after).reopen m2 (-1)) ∧ V10.Live S (((y.reopen mask after).reopen m2 (-1)).reopen 0 (-1))) ∧ Sp.texts ((((y.reopen mask after).reopen m2 (-1)).reopen 0 (-1)).L) = Sp.texts y.L := by
    intro y hy
    obtain ⟨a1, _, a3⟩ := V10.reopen_live hy mask after
    obtain ⟨b1, b2, b3⟩ := two _ a1
    exact ⟨⟨by rw [hy.calm.late]; decide, hy.seen, a1, b1, b2⟩, by rw [b3, a3, texts_byName hy.ok.set]⟩
  rcases install_live hz hn ts with ⟨_, e1, e2⟩ | ⟨A, o, hp, hr, _, e1, hA, hc⟩
  · obtain ⟨_, e3⟩ := e2 x rfl rfl
    have e1' : z1 = x.cut c := e1
    rw [e1', e3]
    obtain ⟨t1, t2⟩ := three _ hz
    exact ⟨t1, .inl t2⟩
  · have e3 : (x.install ts).2 = x.become A := by
      obtain ⟨i1, _, _⟩ := V10.install_yes h.live hn hp hr
      rw [i1]
    have e1' : z1 = (x.cut c).become A := e1
    rw [e3, (become_L x A).1, e1']
    rcases hc with ⟨_, hl⟩ | ⟨hd, hg⟩
    · obtain ⟨t1, t2⟩ := three _ hl
      exact ⟨t1, .inl (by rw [t2, (become_L _ A).1])⟩
    · obtain ⟨r1, r2⟩ := gone_reopen hg mask after
      obtain ⟨b1, b2, b3⟩ := two _ r1
      refine ⟨⟨hg.late, hg.torn.slen, r1, b1, b2⟩, ?_⟩
      rw [b3]
      rcases r2 with ⟨_, r2⟩ | ⟨_, r2⟩
      · exact .inr ⟨hd, by rw [r2, texts_byName hg.okL.set]; rfl⟩
      · exact .inl (by rw [r2, texts_byName hg.okA.set])
end V14
end Go.Proofs.YtfphcecjhdkcoaaGreatDoor
/-
What the walks of the statements on sessions whose power may go carry along.
-/
namespace Go.Proofs.YtfphcecjhdkcoaaGreatDoor
open Go.RowKit Go.Maps
/-- A session in memory: all of it lies in O, from block B on. -/
structure Bare (B : Nat) (O : Nat → Prop) (w : World) (x : Nat) (st : Sp.St) : Prop where
  ses : Ses O w x st
  low : ∀ k, O k → B ≤ k ∧ k < w.heap.size
theorem Run.bare {B S : Nat} {O : Nat → Prop} {w : World} {x : Nat} {st : Sp.St} (h : Run B S O w x st) : Bare B O w x st := ⟨h.ses, h.low⟩
theorem fit_live {S : Nat} {x : Sp.St} (h : V10.Live S x) (hl : x.last ≤ 1000000) : Fit x := fit_of_live h (by omega)
namespace Bare
variable {B : Nat} {O M : Nat → Prop} {w w' : World} {x : Nat} {st : Sp.St}
theorem below (h : Bare B O w x st) (hb : Below w.heap.size w w') : Bare B O w' x st := ⟨h.ses.below hb, fun k hk => ⟨(h.low k hk).1, Nat.lt_of_lt_of_le (h.low k hk).2 hb.size⟩⟩
theorem chg (h : Bare B O w x st) (hc : Chg M w w') (hm : ∀ k, O k → ¬ M k) : Bare B O w' x st := ⟨h.ses.keep (fun k hk hl => hc.block k hl (hm k hk)) hc.size, fun k hk => ⟨(h.low k hk).1, Nat.lt_of_lt_of_le (h.low k hk).2 hc.size⟩⟩
theorem grown (hz : w.heap.size ≤ w'.heap.size) (hB : B ≤ w.heap.size) (h : ∀ k, O k → B ≤ k ∧ k < w.heap.size) (hs : Ses (fun k => O k ∨ w.heap.size ≤ k) w' x st) : Bare B (fun k => O k ∨ w.heap.size ≤ k ∧ k < w'.heap.size) w' x st :=
  ⟨hs.mono fun k hl hk => hk.imp id fun h => ⟨h, hl⟩, fun k hk => by
    rcases hk with hk | hk
    · exact ⟨(h k hk).1, by have := (h k hk).2; omega⟩
    · exact ⟨by omega, hk.2⟩⟩
theorem install {G : Nat} (hw : Wd G w) (h : Bare B O w x st) (hG : G ≤ B) (hB : B ≤ w.heap.size) (hf : Fit st) (tv : Value) (ts : List Sp.Str) (htv : StrsAt w tv ts) (hts : ts.length ≤ 9000) :
    Calls Tryz.prog 25 #[.pointer (some ⟨x, 0, none⟩), tv] w fun e w' => e = .returned (faultV (st.install ts).1) ∧ Chg O w w' ∧ Bare B (fun k => O k ∨ w.heap.size ≤ k ∧ k < w'.heap.size) w' x (st.install ts).2 := by
  refine (sesInstall_any hw.glob hw.err (fun k hk => Nat.le_trans hG (h.low k hk).1) h.ses hf tv ts htv hts).mono ?_
  rintro e w' ⟨rfl, hc, hs⟩
  exact ⟨rfl, hc, grown hc.size hB h.low hs⟩
theorem remove {G : Nat} (hw : Wd G w) (h : Bare B O w x st) (hG : G ≤ B) (hB : B ≤ w.heap.size) (hf : Fit st) (tv : Value) (ts : List Sp.Str) (htv : StrsAt w tv ts) (hts : ts.length ≤ 9000) (hnl : ∀ n ∈ ts, n.length ≤ 10000) :
    Calls Tryz.prog 32 #[.pointer (some ⟨x, 0, none⟩), tv] w fun e w' => e = .returned (faultV (st.remove ts).1) ∧ Chg O w w' ∧ Bare B (fun k => O k ∨ w.heap.size ≤ k ∧ k < w'.heap.size) w' x (st.remove ts).2 := by
  refine (sesRemove_any hw.glob hw.err (fun k hk => Nat.le_trans hG (h.low k hk).1) h.ses hf tv ts htv hts hnl).mono ?_
  rintro e w' ⟨rfl, hc, hs⟩
  exact ⟨rfl, hc, grown hc.size hB h.low hs⟩
theorem plan {G : Nat} (hw : Wd G w) (h : Bare B O w x st) (hf : Fit st) (tv : Value) (ts : List Sp.Str) (htv : StrsAt w tv ts) (hts : ts.length ≤ 9000) :
    Calls Tryz.prog 23 #[.pointer (some ⟨x, 0, none⟩), tv] w fun e w' => ∃ v, e = .returned (.tuple #[v, faultV (st.plan ts).1]) ∧ StrsFrom w.heap.size w' v (st.plan ts).2 ∧ Below w.heap.size w w' :=
  sesPlan_any hw.glob hw.err h.ses hf tv ts htv hts
theorem packages (h : Bare B O w x st) {S : Nat} (hl : V10.Live S st) : Calls Tryz.prog 26 #[.pointer (some ⟨x, 0, none⟩)] w fun e w' => ∃ v, e = .returned (.tuple #[v, .bool true]) ∧ StrsFrom w.heap.size w' v (Sp.texts st.L) ∧ Below w.heap.size w w' :=
  PK.packages_any h.ses hl.ok.set (by have := V14.live_few hl; omega)
theorem cut (h : Bare B O w x st) (k : Int) (hk : k ≤ 9223372036854775807) :
    Calls Tryz.prog 28 #[.pointer (some ⟨x, 0, none⟩), .int .i64 k] w fun e w' => e = .returned (.tuple #[]) ∧ Chg O w w' ∧ Bare B O w' x (st.cut k) := by
  refine (sesCut_any h.ses k hk).mono ?_
  rintro e w' ⟨rfl, hc, hs⟩
  exact ⟨rfl, hc, hs, fun k hk => ⟨(h.low k hk).1, Nat.lt_of_lt_of_le (h.low k hk).2 hc.size⟩⟩
theorem lost (h : Bare B O w x st) : Calls Tryz.prog 29 #[.pointer (some ⟨x, 0, none⟩)] w fun e w' => e = .returned (.bool st.d.dead) ∧ w' = w := sesLost_any h.ses
theorem reopen {G S : Nat} (hw : Wd G w) (h : Bare B O w x st) (hG : G ≤ B) (hB : B ≤ w.heap.size) (mask after : Int) (hm1 : -9223372036854775808 ≤ mask) (hm2 : mask ≤ 9223372036854775807) (ha : after ≤ 9223372036854775807)
    (hlate : st.d.late.length < 900000) (hS : 16 ≤ st.d.seen.length) (hl : V10.Live S (st.reopen mask after)) :
    Calls Tryz.prog 30 #[.pointer (some ⟨x, 0, none⟩), .int .i64 mask, .int .i64 after] w fun e w' => e = .returned (faultV Sp.okF) ∧ Chg O w w' ∧ Bare B (fun k => O k ∨ w.heap.size ≤ k ∧ k < w'.heap.size) w' x (st.reopen mask after) := by
  refine (sesReopen_any hw.glob (fun k hk => Nat.le_trans hG (h.low k hk).1) h.ses mask after hm1 hm2 ha (by omega) hS hl.ok (by have := V14.live_few hl; omega)).mono ?_
  rintro e w' ⟨rfl, hc, hs⟩
  exact ⟨rfl, hc, grown hc.size hB h.low hs⟩
end Bare
/-- Texts that lie in blocks of their own. -/
def StrsIn (B C : Nat) (w : World) (v : Value) (l : List Sp.Str) : Prop := SlOn (fun k => B ≤ k ∧ k < C) w 1 v (l.map fun s => [sv s])
namespace StrsIn
variable {B C : Nat} {M : Nat → Prop} {w w' : World} {v : Value} {l : List Sp.Str}
theorem of_from (h : StrsFrom B w v l) (hC : w.heap.size ≤ C) : StrsIn B C w v l := SlOn.mono h fun k hk => ⟨hk.1, by have := hk.2; omega⟩
theorem below (h : StrsIn B C w v l) (hb : Below w.heap.size w w') (hC : C ≤ w.heap.size) : StrsIn B C w' v l := SlOn.keep h fun k hk => hb.block k (by have := hk.2; omega)
theorem chg (h : StrsIn B C w v l) (hc : Chg M w w') (hC : C ≤ w.heap.size) (hm : ∀ k, M k → k < B ∨ C ≤ k) : StrsIn B C w' v l := SlOn.keep h fun k hk => hc.block k (by have := hk.2; omega) fun hx => by
  have := hm k hx
  have := hk.1
  have := hk.2
  omega
theorem at_ (h : StrsIn B C w v l) (hC : C ≤ w.heap.size) : StrsAt w v l := SlOn.mono h fun k hk => by have := hk.2; omega
end StrsIn
end Go.Proofs.YtfphcecjhdkcoaaGreatDoor
namespace Go.Proofs.YtfphcecjhdkcoaaGreatDoor
open Go.RowKit Go.Maps
namespace LT
theorem from_cells {w : World} {b off : Nat} {l : List Sp.Str} {k m : Nat} (h : ∀ j (hj : j < l.length), w.cell? ⟨b, off + j, none⟩ = some (.string ⟨l[j].toArray⟩)) :
    ∀ (j : Nat) u, (((l.drop k).take m).map sv)[j]? = some u → w.cell? ((⟨b, off + k, none⟩ : Addr).add j) = some u := by
  intro j u hj
  rw [List.getElem?_map, List.getElem?_take] at hj
  split at hj
  · rw [List.getElem?_drop] at hj
    have hk : k + j < l.length := by
      rcases Nat.lt_or_ge (k + j) l.length with h | h
      · exact h
      · rw [List.getElem?_eq_none h] at hj; cases hj
    rw [List.getElem?_eq_getElem hk] at hj
    simp only [Option.map_some, Option.some.injEq] at hj
    subst hj
    rw [DK.addr_add, Nat.add_assoc, h _ hk]; rfl
  · cases hj
theorem one_cells (l : List Sp.Str) : ∀ u ∈ l.map sv, u.oneCell' = true := by
  intro u hu
  obtain ⟨s, _, rfl⟩ := List.mem_map.1 hu
  rfl
theorem turned_perm (l : List Sp.Str) (k : Nat) : l.Perm (l.drop k ++ l.take k) := by
  have h := List.perm_append_comm (l₁ := l.take k) (l₂ := l.drop k)
  rwa [List.take_append_drop] at h
theorem fb_put {w : World} {b : Nat} {f0 : Sp.Fault} (h : FB w b f0) (f : Sp.Fault) : FB (putF w b f) b f := by
  have h' : w.heap[b]? = some (.cells #[.int .i64 (f0.kind : Int), .int .i64 (f0.which : Int), .int .i64 (f0.line : Int), .string ⟨f0.name.toArray⟩] 23 (0, 0)) := h
  unfold FB putF
  have e1 := DS.set_blk h' 0 (.int .i64 (f.kind : Int))
  have e2 := DS.set_blk e1 1 (.int .i64 (f.which : Int))
  have e3 := DS.set_blk e2 2 (.int .i64 (f.line : Int))
  exact DS.set_blk e3 3 (.string ⟨f.name.toArray⟩)
theorem first_below {w w' : World} (h : w.grownBy w' (Value.slice none 0 0).ownBlock) : Below w.heap.size w w' := (Below.refl _ _).grown h (Nat.le_refl _) fun g hg => by cases hg
theorem first_cells {w w' : World} {b off : Nat} {l : List Sp.Str} (k : Nat) (hb : Below w.heap.size w w') (hlt : b < w.heap.size) (h : ∀ j (hj : j < l.length), w.cell? ⟨b, off + j, none⟩ = some (.string ⟨l[j].toArray⟩)) :
    ∀ (j : Nat) u, ((l.take k).map sv)[j]? = some u → w'.cell? ((⟨b, off, none⟩ : Addr).add j) = some u := by
  have h2 := from_cells (k := 0) (m := k) (fun j hj => (hb.cell (p := ⟨b, off + j, none⟩) (show b < w.heap.size from hlt)).trans (h j hj))
  rwa [List.drop_zero, Nat.add_zero] at h2
theorem plan_len {S : Nat} {x : Sp.St} (h : V11.Sure S x) (ts : List Sp.Str) : (x.plan ts).2.length ≤ ts.length := by
  unfold Sp.St.plan
  cases hp : Sp.planned x.L ts with
  | inl f => simp
  | inr Ao =>
    obtain ⟨A, o⟩ := Ao
    exact Nat.le_of_eq (V9.planned_len h.live.ok.set hp)
theorem install_kind {S : Nat} {x : Sp.St} (h : V11.Sure S x) (hn : x.last + 1 < 18446744073709551616) (ts : List Sp.Str) : (x.install ts).1.kind ≤ 8 := by
  rcases V11.install_cases h hn ts with ⟨_, _, hc⟩ | ⟨A, o, _, _, e, _⟩
  · rcases hc with ⟨f, hp, e⟩ | ⟨A, o, _, _, e⟩
    · rw [e]; have := V11.planned_kind hp; omega
    · rw [e]; decide
  · rw [e]; decide
theorem put_chg (w : World) (r : Nat) (f : Sp.Fault) : Chg (· = r) w (putF w r f) := ⟨rfl, rfl, rfl, Nat.le_of_eq (putF_size w r f).symm, fun _ _ hm => putF_other w r f hm⟩
end LT
set_option maxRecDepth 100000 in
set_option maxHeartbeats 4000000 in
theorem turned_any {G : Nat} {w : World} (hw : Wd G w) (z c : Int) (hc1 : -9223372036854775808 ≤ c) (hc2 : c ≤ 9223372036854775807) (va : Value) (ts : List Sp.Str) (hva : StrsAt w va ts)
    (hl1 : ts.length ≤ 2305843009213693952) (hs1 : ∀ s ∈ ts, s.length ≤ 2305843009213693952) :
    Calls Tryz.prog 5 #[.int .i64 z, va, .int .i64 c] w fun e w' => e = .returned (.bool true) ∧ Below w.heap.size w w' := by
  have HVA := Lib.hid (fun (W : World) (hW : Below w.heap.size w W) => StrsAt.below' hva hW hW.size)
  have HW := Lib.hid (fun (W : World) (hW : Below w.heap.size w W) => hw.keep hW)
  have hGw := hw.glob.size
  have HSM1 := Lib.hid (small_any va ts hva hl1 hs1)
  obtain ⟨vba, vbc, rfl, hvc, hvg⟩ := hva.get
  have HVG := Lib.hid hvg
  obtain ⟨ti, hi0, hz0, hz1, hz2⟩ := info_parts infoStr
  have HI0 := Lib.hid hi0
  have HZ0 := Lib.hid hz0
  have HZ1 := Lib.hid hz1
  have HZ2 := Lib.hid hz2
  clear hva hw hs1 hvg hi0 hz0 hz1 hz2
  go_enter Tryz.func5, Tryz.ntmps5
  go_wp2_with fail
  refine HSM1.out.mono ?_
  rintro e w1 ⟨g1, rfl, hb1, hsm1⟩
  have HB1 := Lib.hid hb1
  have H1 := Lib.hid hsm1
  clear hb1 hsm1
  cases g1 with
  | false =>
    go_wp2
    go_ret
    exact ⟨rfl, HB1.out⟩
  | true =>
    have hk1 := H1.out rfl
    unfold LW.bulk at hk1
    have ht5 : ts.length ≤ 9000 := by omega
    clear hk1
    by_cases h0 : ts.length = 0
    · have i0 : (ts.length : Int) = 0 := by omega
      go_wp2
      go_ret
      exact ⟨rfl, HB1.out⟩
    · have i0 : ¬ ((ts.length : Int) = 0) := by omega
      go_wp2_with fail
      refine (anchored_any (HW.out w1 HB1.out)).mono ?_
      rintro e w2 ⟨rfl, hb2⟩
      have HB2 := Lib.hid (HB1.out.trans (hb2.mono HB1.out.size))
      clear hb2
      go_wp2_with fail
      refine (Run.new (HW.out w2 HB2.out) z).mono ?_
      rintro e w3 ⟨x, rfl, hb3, hrun⟩
      have hz2 := HB2.out.size
      have hz3 := hb3.size
      have hnew := (V11.new_sure ⟨(secs_ok z).1, (secs_ok z).2.1⟩).2
      obtain ⟨st0, hst0⟩ : ∃ st0, st0 = Sp.St.new (secs z) := ⟨_, rfl⟩
      rw [← hst0] at hrun hnew
      have HST0 := Lib.hid hst0
      have HNEW := Lib.hid hnew
      have hlast : st0.last = 0 := hnew.1
      have hbA : Below w3.heap.size w3 (w3.alloc (.cells #[.int .i64 0, .int .i64 0, .int .i64 0, .string ⟨#[]⟩] 23)) := (Below.refl _ _).alloc (Nat.le_refl _) _
      have hzA : (w3.alloc (.cells #[.int .i64 0, .int .i64 0, .int .i64 0, .string ⟨#[]⟩] 23)).heap.size = w3.heap.size + 1 := by simp
      have HBA := Lib.hid ((HB2.out.trans (hb3.mono (by omega))).trans (hbA.mono (by omega)))
      have HX := Lib.hid (hrun.below hbA)
      have HF := Lib.hid (FB.new w3 ⟨0, 0, 0, []⟩)
      have HZA := Lib.hid hzA
      clear hrun hb3 hst0 hnew hbA hzA
      unfold faultV sv Sp.okF
      go_wp2_with fail
      generalize (w3.alloc (.cells #[.int .i64 0, .int .i64 0, .int .i64 0, .string ⟨#[]⟩] 23)) = w3A at *
      have hzA1 := Nat.le_of_eq HZA.out
      have hzA2 := Nat.le_of_eq HZA.out.symm
      refine (Run.new (HW.out w3A HBA.out) z).mono ?_
      rintro e w4 ⟨y, rfl, hb4, hrun⟩
      have hz4 := hb4.size
      rw [← HST0.out] at hrun
      have hbA : Below w4.heap.size w4 (w4.alloc (.cells #[.int .i64 0, .int .i64 0, .int .i64 0, .string ⟨#[]⟩] 23)) := (Below.refl _ _).alloc (Nat.le_refl _) _
      have hzA : (w4.alloc (.cells #[.int .i64 0, .int .i64 0, .int .i64 0, .string ⟨#[]⟩] 23)).heap.size = w4.heap.size + 1 := by simp
      have HBB := Lib.hid ((HBA.out.trans (hb4.mono (by omega))).trans (hbA.mono (by omega)))
      have HX2 := Lib.hid ((HX.out.below hb4).below hbA)
      have HY2 := Lib.hid (hrun.below hbA)
      have hf := (HF.out.below hb4).below hbA
      have HF2 := Lib.hid hf
      have hg := FB.new w4 ⟨0, 0, 0, []⟩
      have HG2 := Lib.hid hg
      have HZB := Lib.hid hzA
      obtain ⟨f0, f1, f2, f3⟩ := hf.cells
      obtain ⟨g0, g1, g2, g3⟩ := hg.cells
      clear hrun hb4 hbA hzA hf hg HX HF f1 f2 f3 g1 g2 g3
      unfold faultV sv Sp.okF
      go_wp2_with fail
      generalize (w4.alloc (.cells #[.int .i64 0, .int .i64 0, .int .i64 0, .string ⟨#[]⟩] 23)) = w4A at *
      have hzB1 := Nat.le_of_eq HZB.out
      have hzB2 := Nat.le_of_eq HZB.out.symm
      refine (pick_any c ts.length (by omega) (by omega) hc1 hc2 w4A).mono ?_
      rintro e w5 ⟨k, hk, rfl, hw5⟩
      have hw5' := hw5.symm
      subst hw5'
      clear hw5
      obtain ⟨tb, toff, rfl, htb, _⟩ := HVG.out 0 (by omega)
      have hck : ¬ (vbc = k) := by omega
      have hcells : ∀ j (hj : j < ts.length), w4A.cell? ⟨tb, toff + j, none⟩ = some (.string ⟨ts[j].toArray⟩) := fun j hj => by
        obtain ⟨a', c', e1, _, hg⟩ := (HVA.out w4A HBB.out).get
        obtain ⟨b', o', e2, _, h⟩ := hg j hj
        injection e1 with e1
        subst e1
        injection e2 with e2
        injection e2 with e2 e3 _
        subst e2 e3
        exact h
      have hn1 := LT.from_cells (k := k) (m := ts.length - k) hcells
      rw [List.take_of_length_le (by rw [List.length_drop]; exact Nat.le_refl _)] at hn1
      have hl1 : ((ts.drop k).map sv).length = (ts.length - k) * 1 := by rw [List.length_map, List.length_drop, Nat.mul_one]
      have HN1 := Lib.hid hn1
      have HL1 := Lib.hid hl1
      have HCE := Lib.hid hcells
      clear hn1 hl1 hcells
      have hsl1 : (ts.length : Int) - (k : Int) = ((ts.length - k : Nat) : Int) := by omega
      have hdr1 := Below.drew (Below.refl w4A.heap.size w4A)
      go_wp2_with (first
        | (at_builtin; refine wpList_append_own w4A rfl (.const (.slice none 0 0)) (.tmp 63) 38 rfl w4A.heap.size 9 ti (.string ⟨#[]⟩) 1 16 Tryz.underlying38 HI0.out HZ0.out HZ1.out HZ2.out rfl (by decide) _ 0 [] rfl (World.ownsRow_nil _ _ _ _) ⟨tb, toff + k, none⟩ (ts.length - k) (vbc - k) ((ts.drop k).map sv) rfl HL1.out HN1.out (LT.one_cells _) (by unfold maxLen; omega) (by omega) (Nat.le_refl _) ?_; intro v5 w5 hown5 hgrow5 _; simp only [Nat.zero_add, List.nil_append] at hown5; obtain ⟨ra, rc, rfl⟩ := W3.row_slice hown5; have hb5 : Below w4A.heap.size w4A w5 := LT.first_below hgrow5; have HN2 := Lib.hid (LT.first_cells k hb5 (show tb < w4A.heap.size by omega) HCE.out); have hz5 := hb5.size; have HO5 := Lib.hid hown5; have HB5 := Lib.hid hb5; clear hown5 hgrow5 hb5 HN1 HL1 HCE hsl1 hdr1 f0 g0)
        | (at_builtin; refine wpList_append_own w5 rfl (.tmp 65) (.tmp 68) 38 rfl w4A.heap.size 9 ti (.string ⟨#[]⟩) 1 16 Tryz.underlying38 HI0.out HZ0.out HZ1.out HZ2.out rfl (by decide) _ _ _ rfl HO5.out ⟨tb, toff, none⟩ k vbc ((ts.take k).map sv) rfl (by rw [List.length_map, List.length_take, Nat.mul_one]; omega) HN2.out (LT.one_cells _) (by unfold maxLen; omega) (by omega) (by omega) ?_; intro v6 w6 hown6 hgrow6 _))
      obtain ⟨us, hus⟩ : ∃ us, us = ts.drop k ++ ts.take k := ⟨_, rfl⟩
      have hul : us.length = ts.length := by rw [hus, List.length_append, List.length_drop, List.length_take]; omega
      rw [← List.map_append, ← hus, show ts.length - k + k = us.length from by omega] at hown6
      have hb6 : Below w4A.heap.size w5 w6 := (Below.refl _ _).grown hgrow6 hz5 fun g hg => (HO5.out.lt g hg).1
      have hz6 := hb6.size
      obtain ⟨rb, rd, rfl⟩ := W3.row_slice hown6
      have HUS := Lib.hid hus
      have HUL := Lib.hid hul
      have HROW := Lib.hid (StrsFrom.of_row hown6 (Nat.le_refl w4A.heap.size))
      have hball := HB5.out.trans hb6
      have HX6 := Lib.hid (HX2.out.below hball)
      have HY6 := Lib.hid (HY2.out.below hball)
      have HF6 := Lib.hid (HF2.out.below hball)
      have HG6 := Lib.hid (HG2.out.below hball)
      have HB6 := Lib.hid (HBB.out.trans (hball.mono (by omega)))
      have hlst := Nat.le_of_eq HNEW.out.1
      clear hus hul hown6 hgrow6 hb6 hball HO5 HB5 HN2
      go_wp2_with fail
      refine (Run.plan (HW.out _ HB6.out) HX6.out (by omega) _ ts (HVA.out _ HB6.out) ht5).mono ?_
      rintro e w7 ⟨vo, rfl, hvo, hb7⟩
      have hz7 := hb7.size
      obtain ⟨p1, hp1⟩ : ∃ p1, p1 = (st0.plan ts).1 := ⟨_, rfl⟩
      obtain ⟨o1, ho1⟩ : ∃ o1, o1 = (st0.plan ts).2 := ⟨_, rfl⟩
      rw [← hp1]
      rw [← ho1] at hvo
      have HP1 := Lib.hid hp1
      have HO1 := Lib.hid ho1
      obtain ⟨oa, oc, rfl, hoc, _⟩ := hvo.at_.get
      have hF7 := HF6.out.below hb7
      have hG7 := HG6.out.below hb7
      obtain ⟨k0, k1, k2, k3, y0, y1, y2, y3, hRl⟩ := ZB.cells hF7
      have hzp := putF_size w7 w3.heap.size p1
      have hch := LT.put_chg w7 w3.heap.size p1
      have HV7 := Lib.hid (StrsIn.of_from hvo (Nat.le_refl _))
      have HB7 := Lib.hid ((HB6.out.trans (hb7.mono (by omega))).trans (putF_below w7 w3.heap.size p1 (by omega)))
      have HX7 := Lib.hid ((HX6.out.below hb7).chg hch fun j hj e => by have := hj.2; omega)
      have HY7 := Lib.hid ((HY6.out.below hb7).chg hch fun j hj e => by have := hj.1; omega)
      have HV7p := Lib.hid (HV7.out.chg hch (Nat.le_refl _) fun j hj => .inl (by omega))
      have HROW7 := Lib.hid (StrsIn.chg (StrsIn.of_from (HROW.out.below hb7) (Nat.le_refl _)) hch (Nat.le_refl _) fun j hj => .inl (by omega))
      have HF7 := Lib.hid (LT.fb_put hF7 p1)
      have HG7 := Lib.hid (hG7.chg hch (show ¬ w4.heap.size = w3.heap.size by omega))
      have HZP := Lib.hid hzp
      clear hp1 ho1 hvo hb7 hF7 hG7 hzp hch HV7 HROW HX6 HY6 HF6 HG6
      unfold faultV sv
      go_wp2_with fail
      change Calls Tryz.prog 23 _ (putF w7 w3.heap.size p1) _
      generalize putF w7 w3.heap.size p1 = w7A at *
      have hzp1 := Nat.le_of_eq HZP.out
      have hzp2 := Nat.le_of_eq HZP.out.symm
      have hu5 : us.length ≤ 9000 := by have := HUL.out; omega
      clear y0 y1 y2 y3 k0 k1 k2 k3 hRl
      refine (Run.plan (HW.out _ HB7.out) HY7.out (by omega) _ us (HROW7.out.at_ (by omega)) hu5).mono ?_
      rintro e w8 ⟨vo2, rfl, hvo2, hb8⟩
      have hz8 := hb8.size
      obtain ⟨p2, hp2⟩ : ∃ p2, p2 = (st0.plan us).1 := ⟨_, rfl⟩
      obtain ⟨o2, ho2⟩ : ∃ o2, o2 = (st0.plan us).2 := ⟨_, rfl⟩
      rw [← hp2]
      rw [← ho2] at hvo2
      have HP2 := Lib.hid hp2
      have HO2 := Lib.hid ho2
      obtain ⟨qa, qc, rfl, hqc, _⟩ := hvo2.at_.get
      have hF8 := HF7.out.below hb8
      have hG8 := HG7.out.below hb8
      obtain ⟨k0, k1, k2, k3, y0, y1, y2, y3, hRl⟩ := ZB.cells hG8
      have hzp := putF_size w8 w4.heap.size p2
      have hch := LT.put_chg w8 w4.heap.size p2
      have HU8 := Lib.hid (StrsIn.chg (StrsIn.of_from hvo2 (Nat.le_refl _)) hch (Nat.le_refl _) fun j hj => .inl (by omega))
      have HB8 := Lib.hid ((HB7.out.trans (hb8.mono (by omega))).trans (putF_below w8 w4.heap.size p2 (by omega)))
      have HX8 := Lib.hid ((HX7.out.below hb8).chg hch fun j hj e => by have := hj.2; omega)
      have HY8 := Lib.hid ((HY7.out.below hb8).chg hch fun j hj e => by have := hj.2; omega)
      have HV8 := Lib.hid ((HV7p.out.below hb8 (by omega)).chg hch (by omega) fun j hj => .inl (by omega))
      have HROW8 := Lib.hid ((HROW7.out.below hb8 (by omega)).chg hch (by omega) fun j hj => .inl (by omega))
      have HF8 := Lib.hid (hF8.chg hch (show ¬ w3.heap.size = w4.heap.size by omega))
      have HG8 := Lib.hid (LT.fb_put hG8 p2)
      have HZQ := Lib.hid hzp
      clear hp2 ho2 hvo2 hb8 hF8 hG8 hzp hch HV7p HROW7 HX7 HY7 HF7 HG7
      unfold faultV sv
      go_wp2_with fail
      change Calls Tryz.prog 24 _ (putF w8 w4.heap.size p2) _
      generalize putF w8 w4.heap.size p2 = w8A at *
      have hzq1 := Nat.le_of_eq HZQ.out
      have hzq2 := Nat.le_of_eq HZQ.out.symm
      clear y0 y1 y2 y3 k0 k1 k2 k3 hRl
      -- the law, in plain
      have hlaw := V11.turned_law HX8.out.sure (HNEW.out.2) (by omega) (us := us) (ts := ts) (by rw [HUS.out]; exact LT.turned_perm ts k)
      obtain ⟨q1, q2, q3, q4, q5⟩ := hlaw
      rw [← HO1.out, ← HO2.out] at q1
      rw [← HP1.out, ← HP2.out] at q2
      have ho6 : o1.length ≤ 9000 := by
        rw [HO1.out]; exact Nat.le_trans (LT.plan_len HX8.out.sure ts) ht5
      have hk8 := LT.install_kind HX8.out.sure (by omega) ts
      have hsm := same_any _ _ o1 o2 (HV8.out.at_ (by omega)) (HU8.out.at_ (by omega)) (by omega)
      rw [decide_eq_true q1] at hsm
      have HSM := Lib.hid hsm
      have Q2 := Lib.hid q2
      have Q3 := Lib.hid q3
      have Q4 := Lib.hid q4
      have Q5 := Lib.hid q5
      clear hsm q1 q2 q3 q4 q5 HV8 HU8
      refine HSM.out.mono ?_
      rintro e w9 ⟨rfl, hb9⟩
      have hz9 := hb9.size
      have HB9 := Lib.hid (HB8.out.trans (hb9.mono (by omega)))
      have HX9 := Lib.hid (HX8.out.below hb9)
      have HY9 := Lib.hid (HY8.out.below hb9)
      have HROW9 := Lib.hid (HROW8.out.below hb9 (by omega))
      have HF9 := Lib.hid (HF8.out.below hb9)
      have HG9 := Lib.hid (HG8.out.below hb9)
      clear hb9 HSM HX8 HY8 HROW8 HF8 HG8
      go_wp2_with fail
      refine (Run.install (HW.out _ HB9.out) HX9.out (by omega) (by omega) (by omega) _ ts (HVA.out _ HB9.out) ht5).mono ?_
      rintro e w10 ⟨rfl, hch10, hx10⟩
      have hz10 := hch10.size
      obtain ⟨h, hh⟩ : ∃ h, h = (st0.install ts).1 := ⟨_, rfl⟩
      rw [← hh]
      rw [← hh] at hk8
      have HH := Lib.hid hh
      have hbA : Below w10.heap.size w10 (w10.alloc (.cells #[.int .i64 (h.kind : Int), .int .i64 (h.which : Int), .int .i64 (h.line : Int), .string ⟨h.name.toArray⟩] 23)) := (Below.refl _ _).alloc (Nat.le_refl _) _
      have hzA : (w10.alloc (.cells #[.int .i64 (h.kind : Int), .int .i64 (h.which : Int), .int .i64 (h.line : Int), .string ⟨h.name.toArray⟩] 23)).heap.size = w10.heap.size + 1 := by simp
      have hb10 := HB9.out.trans (hch10.below (B := w.heap.size) HB9.out.size fun j hj => by have := hj.1; omega)
      have HB10 := Lib.hid (hb10.trans (hbA.mono hb10.size))
      have HX10 := Lib.hid (hx10.below hbA)
      have HY10 := Lib.hid ((HY9.out.chg hch10 fun j hj e => by have := hj.1; have := e.2; omega).below hbA)
      have HROW10 := Lib.hid ((HROW9.out.chg hch10 (by omega) fun j hj => .inl (by have := hj.2; omega)).below hbA (by omega))
      have HF10 := Lib.hid ((HF9.out.chg hch10 fun e => by have := e.2; omega).below hbA)
      have HG10 := Lib.hid ((HG9.out.chg hch10 fun e => by have := e.2; omega).below hbA)
      have HH10 := Lib.hid (FB.new w10 h)
      have HZR := Lib.hid hzA
      clear hh hbA hzA hb10 hch10 hx10 HX9 HY9 HROW9 HF9 HG9
      unfold faultV sv
      go_wp2_with fail
      generalize (w10.alloc (.cells #[.int .i64 (h.kind : Int), .int .i64 (h.which : Int), .int .i64 (h.line : Int), .string ⟨h.name.toArray⟩] 23)) = w10A at *
      have hzr1 := Nat.le_of_eq HZR.out
      have hzr2 := Nat.le_of_eq HZR.out.symm
      refine (Run.install (HW.out _ HB10.out) HY10.out (by omega) (by omega) (by omega) _ us (HROW10.out.at_ (by omega)) hu5).mono ?_
      rintro e w11 ⟨rfl, hch11, hy11⟩
      have hz11 := hch11.size
      obtain ⟨jf, hj⟩ : ∃ jf, jf = (st0.install us).1 := ⟨_, rfl⟩
      rw [← hj]
      have HJ := Lib.hid hj
      have hbA : Below w11.heap.size w11 (w11.alloc (.cells #[.int .i64 (jf.kind : Int), .int .i64 (jf.which : Int), .int .i64 (jf.line : Int), .string ⟨jf.name.toArray⟩] 23)) := (Below.refl _ _).alloc (Nat.le_refl _) _
      have hzA : (w11.alloc (.cells #[.int .i64 (jf.kind : Int), .int .i64 (jf.which : Int), .int .i64 (jf.line : Int), .string ⟨jf.name.toArray⟩] 23)).heap.size = w11.heap.size + 1 := by simp
      have hb11 := HB10.out.trans (hch11.below (B := w.heap.size) HB10.out.size fun j hj => by have := hj.1; omega)
      have HB11 := Lib.hid (hb11.trans (hbA.mono hb11.size))
      have HY11 := Lib.hid (hy11.below hbA)
      have HX11 := Lib.hid ((HX10.out.chg hch11 fun j hj e => by
        have h1 := e.1; have h2 := e.2
        rcases hj with hj | hj
        · have := hj.2; omega
        · have := hj.1; omega).below hbA)
      have HF11 := Lib.hid ((HF10.out.chg hch11 fun e => by have := e.1; omega).below hbA)
      have HG11 := Lib.hid ((HG10.out.chg hch11 fun e => by have := e.2; omega).below hbA)
      have HH11 := Lib.hid ((HH10.out.chg hch11 fun e => by have := e.2; omega).below hbA)
      have HJ11 := Lib.hid (FB.new w11 jf)
      have HZS := Lib.hid hzA
      clear hj hbA hzA hb11 hch11 hy11 HX10 HY10 HROW10 HF10 HG10 HH10
      unfold faultV sv
      go_wp2_with fail
      generalize (w11.alloc (.cells #[.int .i64 (jf.kind : Int), .int .i64 (jf.which : Int), .int .i64 (jf.line : Int), .string ⟨jf.name.toArray⟩] 23)) = w11A at *
      have hzs1 := Nat.le_of_eq HZS.out
      have hzs2 := Nat.le_of_eq HZS.out.symm
      refine HX11.out.packages.mono ?_
      rintro e w12 ⟨v1, rfl, hv1, hb12⟩
      have hz12 := hb12.size
      have HB12 := Lib.hid (HB11.out.trans (hb12.mono (by omega)))
      have HY12 := Lib.hid (HY11.out.below hb12)
      have HF12 := Lib.hid (HF11.out.below hb12)
      have HG12 := Lib.hid (HG11.out.below hb12)
      have HH12 := Lib.hid (HH11.out.below hb12)
      have HJ12 := Lib.hid (HJ11.out.below hb12)
      have HV12 := Lib.hid hv1
      have hll := HX11.out.texts
      clear hv1 hb12 HF11 HG11 HH11 HJ11
      go_wp2_with fail
      refine HY12.out.packages.mono ?_
      rintro e w13 ⟨v2, rfl, hv2, hb13⟩
      have hz13 := hb13.size
      have HB13 := Lib.hid (HB12.out.trans (hb13.mono (by omega)))
      have HF13 := Lib.hid (HF12.out.below hb13)
      have HG13 := Lib.hid (HG12.out.below hb13)
      have HH13 := Lib.hid (HH12.out.below hb13)
      have HJ13 := Lib.hid (HJ12.out.below hb13)
      obtain ⟨la, hla⟩ : ∃ la, la = Sp.texts (st0.install ts).2.L := ⟨_, rfl⟩
      obtain ⟨lb, hlb⟩ : ∃ lb, lb = Sp.texts (st0.install us).2.L := ⟨_, rfl⟩
      have hv1 := HV12.out.below hb13
      rw [← hla] at hv1 hll
      rw [← hlb] at hv2
      have q4 := Q4.out
      have q5 := Q5.out
      rw [← hla, ← hlb] at q4
      rw [← hla, ← HH.out] at q5
      obtain ⟨la1, la2, rfl, _, _⟩ := hv1.at_.get
      have hsm := same_any _ _ la lb hv1.at_ hv2.at_ (by omega)
      rw [decide_eq_true q4] at hsm
      have HSM := Lib.hid hsm
      have Q5' := Lib.hid q5
      clear hv1 hv2 hsm hb13 hla hlb q4 q5 HF12 HG12 HH12 HJ12 HV12 Q4 Q5
      go_wp2_with fail
      refine HSM.out.mono ?_
      rintro e w14 ⟨rfl, hb14⟩
      have hz14 := hb14.size
      have HB14 := Lib.hid (HB13.out.trans (hb14.mono (by omega)))
      obtain ⟨f0, _, _, _⟩ := (HF13.out.below hb14).cells
      obtain ⟨g0, _, _, _⟩ := (HG13.out.below hb14).cells
      obtain ⟨h0', _, _, _⟩ := (HH13.out.below hb14).cells
      obtain ⟨j0, _, _, _⟩ := (HJ13.out.below hb14).cells
      have q3 := Q3.out
      rw [← HH.out, ← HJ.out] at q3
      have q2 := Q2.out
      have q5 := Q5'.out
      have hr1 : w3.heap.size < w14.heap.size := by omega
      have hr2 : w4.heap.size < w14.heap.size := by omega
      have hr3 : w10.heap.size < w14.heap.size := by omega
      have hr4 : w11.heap.size < w14.heap.size := by omega
      have HFIN := Lib.hid HB14.out
      clear hb14 HB14
      by_cases hp : p1.kind = 0
      · have hp' := q2.1 hp
        have i1 : (p1.kind : Int) = 0 := by omega
        have i2 : (p2.kind : Int) = 0 := by omega
        by_cases hh : h.kind = 0
        · have hj' := q3.1 hh
          have i3 : (h.kind : Int) = 0 := by omega
          have i4 : (jf.kind : Int) = 0 := by omega
          rw [if_pos hh] at q5
          have i5 : (la.length : Int) = (ts.length : Int) := by omega
          clear q2 q3 q5 hp hp' hj' hh
          go_wp2_with fail
          refine (sign_any 0 (by decide) _).mono ?_
          rintro e w15 ⟨rfl, rfl⟩
          go_wp2
          go_ret
          exact ⟨rfl, HFIN.out⟩
        · have hj' : ¬ jf.kind = 0 := fun e => hh (q3.2 e)
          have i3 : ((h.kind : Int) == 0) = false := beq_eq_false_iff_ne.2 (by omega)
          have i4 : ((jf.kind : Int) == 0) = false := beq_eq_false_iff_ne.2 (by omega)
          rw [if_neg hh] at q5
          have i5 : (la.length : Int) = 0 := by omega
          have hsg := sign_any h.kind (by omega) w14
          rw [if_neg hh] at hsg
          have HSG := Lib.hid hsg
          clear q2 q3 q5 hp hp' hj' hh hsg
          go_wp2_with fail
          refine HSG.out.mono ?_
          rintro e w15 ⟨rfl, rfl⟩
          go_wp2
          go_ret
          exact ⟨rfl, HFIN.out⟩
      · have hp' : ¬ p2.kind = 0 := fun e => hp (q2.2 e)
        have i1 : ((p1.kind : Int) == 0) = false := beq_eq_false_iff_ne.2 (by omega)
        have i2 : ((p2.kind : Int) == 0) = false := beq_eq_false_iff_ne.2 (by omega)
        by_cases hh : h.kind = 0
        · have hj' := q3.1 hh
          have i3 : (h.kind : Int) = 0 := by omega
          have i4 : (jf.kind : Int) = 0 := by omega
          rw [if_pos hh] at q5
          have i5 : (la.length : Int) = (ts.length : Int) := by omega
          clear q2 q3 q5 hp hp' hj' hh
          go_wp2_with fail
          refine (sign_any 0 (by decide) _).mono ?_
          rintro e w15 ⟨rfl, rfl⟩
          go_wp2
          go_ret
          exact ⟨rfl, HFIN.out⟩
        · have hj' : ¬ jf.kind = 0 := fun e => hh (q3.2 e)
          have i3 : ((h.kind : Int) == 0) = false := beq_eq_false_iff_ne.2 (by omega)
          have i4 : ((jf.kind : Int) == 0) = false := beq_eq_false_iff_ne.2 (by omega)
          rw [if_neg hh] at q5
          have i5 : (la.length : Int) = 0 := by omega
          have hsg := sign_any h.kind (by omega) w14
          rw [if_neg hh] at hsg
          have HSG := Lib.hid hsg
          clear q2 q3 q5 hp hp' hj' hh hsg
          go_wp2_with fail
          refine HSG.out.mono ?_
          rintro e w15 ⟨rfl, rfl⟩
          go_wp2
          go_ret
          exact ⟨rfl, HFIN.out⟩
end Go.Proofs.YtfphcecjhdkcoaaGreatDoor

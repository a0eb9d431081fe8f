/-
The walk of the law Survives.
-/
import Derived.Test.YtfphcecjhdkcoaaGreatDoorSurvivesP16
/-
Plain: a store whose power may go: alive, or gone in the middle of a change; and opened anew.
-/
namespace Go.Proofs.YtfphcecjhdkcoaaGreatDoor
namespace V14
open Sp (Str Pk Dk St)
/-- The power is gone in the middle of a change from L to A. -/
structure Gone (S n : Nat) (L A : List Pk) (x : St) : Prop where
  torn : V7.Torn S (V10.Two n L A) x.d
  okL : Sp.Ok L
  okA : Sp.Ok A
  roomL : Sp.size L ≤ Sp.room S
  roomA : Sp.size A ≤ Sp.room S
  big : 16 ≤ S ∧ S ≤ 256
  late : x.d.late.length < 900000
  few : n + 1 < 18446744073709551616
theorem save_late (d : Dk) (last : Nat) (b : Str) : (Sp.save d last b).late.length ≤ d.late.length + (b.length + 63) / 64 + 1 := by
  unfold Sp.save
  have h1 := V12.writes_len (Sp.chunks b) (Sp.areaFrom d.seen.length (last + 1)) d
  have h2 := V12.sync_len (d.writes (Sp.areaFrom d.seen.length (last + 1)) (Sp.chunks b))
  have h3 := V12.write_len ((d.writes (Sp.areaFrom d.seen.length (last + 1)) (Sp.chunks b)).sync) ((last + 1) % 2) (Sp.headB (last + 1) b.length (Sp.sum b))
  have h4 := V12.sync_len (((d.writes (Sp.areaFrom d.seen.length (last + 1)) (Sp.chunks b)).sync).write ((last + 1) % 2) (Sp.headB (last + 1) b.length (Sp.sum b)))
  rw [V6.chunks_len] at h1
  omega
theorem become_L (x : St) (A : List Pk) : (x.become A).L = A ∧ (x.become A).last ≤ x.last + 1 := by
  unfold St.become; split <;> exact ⟨rfl, by simp⟩
/-- A change: done, or the power went in the middle of it. -/
theorem become_cases {S : Nat} {x : St} (h : V10.Live S x) {A : List Pk} (hA : Sp.Ok A) (hr : Sp.size A ≤ Sp.room S) (hn : x.last + 1 < 18446744073709551616) (hp : A.length = x.L.length → A.Perm x.L) :
    ((x.become A).d.dead = false ∧ V10.Live S (x.become A)) ∨ ((x.become A).d.dead = true ∧ Gone S x.last x.L A (x.become A)) := by
  rcases V10.become_live h hA hr hn hp with h1 | h1
  · exact .inl h1
  · refine .inr ⟨h1.dead, h1, h.ok, hA, h.room, hr, h.big, ?_, hn⟩
    unfold St.become
    split
    · rw [h.calm.late]; decide
    · have h2 := save_late x.d x.last (Sp.joined A)
      have h3 := (V10.room_small hA.set h.big hr).1
      have h4 := h.big
      show (Sp.save x.d x.last (Sp.joined A)).late.length < 900000
      rw [h.calm.late] at h2
      unfold Sp.areaN at h3
      simp only [List.length_nil] at h2
      omega
theorem install_live {S : Nat} {x : St} (h : V10.Live S x) (hn : x.last + 1 < 18446744073709551616) (ts : List Str) :
    ((x.install ts).1.kind ≠ 0 ∧ (x.install ts).2 = x ∧ ∀ y : St, y.L = x.L → y.d.seen.length = x.d.seen.length → (y.install ts).1 = (x.install ts).1 ∧ (y.install ts).2 = y) ∨
    ∃ A o, Sp.planned x.L ts = .inr (A, o) ∧ Sp.size A ≤ Sp.room S ∧ (x.install ts).1 = Sp.okF ∧ (x.install ts).2 = x.become A ∧ Sp.Ok A ∧
      (((x.become A).d.dead = false ∧ V10.Live S (x.become A)) ∨ ((x.become A).d.dead = true ∧ Gone S x.last x.L A (x.become A))) := by
  cases hp : Sp.planned x.L ts with
  | inl f =>
    have := V11.planned_kind hp
    rw [V10.install_no hp]
    refine .inl ⟨by show f.kind ≠ 0; omega, rfl, fun y hy _ => ?_⟩
    rw [V10.install_no (x := y) (by rw [hy]; exact hp)]
    exact ⟨rfl, rfl⟩
  | inr Ao =>
    obtain ⟨A, o⟩ := Ao
    by_cases hr : Sp.room S < Sp.size A
    · have e := V10.install_full h hp hr
      rw [e]
      refine .inl ⟨by simp, rfl, fun y hy hl => ?_⟩
      have e2 : y.install ts = (⟨8, 0, 0, []⟩, y) := by unfold St.install; rw [hy, hp]; simp only; rw [hl, h.seen, if_pos hr]
      rw [e2]; exact ⟨rfl, rfl⟩
    · obtain ⟨e, hA, _⟩ := V10.install_yes h hn hp (by omega)
      obtain ⟨_, F, rfl, _⟩ := V9.planned_ok h.ok.set hp
      rw [e]
      exact .inr ⟨_, o, rfl, by omega, rfl, rfl, hA, become_cases h hA (by omega) hn fun e => by rw [V10.perm_of_len e, List.append_nil]⟩
theorem remove_live {S : Nat} {x : St} (h : V10.Live S x) (hn : x.last + 1 < 18446744073709551616) (ns : List Str) :
    ((x.remove ns).1.kind ≠ 0 ∧ (x.remove ns).2 = x ∧ ∃ f, Sp.removed x.L ns = .inl f ∧ (x.remove ns).1 = f) ∨
    ∃ A, Sp.removed x.L ns = .inr A ∧ Sp.size A ≤ Sp.room S ∧ (x.remove ns).1 = Sp.okF ∧ (x.remove ns).2 = x.become A ∧ Sp.Ok A ∧
      (((x.become A).d.dead = false ∧ V10.Live S (x.become A)) ∨ ((x.become A).d.dead = true ∧ Gone S x.last x.L A (x.become A))) := by
  cases hp : Sp.removed x.L ns with
  | inl f =>
    have e : x.remove ns = (f, x) := by unfold St.remove; rw [hp]
    rw [e]
    have := V11.removed_kind hp
    exact .inl ⟨by show f.kind ≠ 0; omega, rfl, f, rfl, rfl⟩
  | inr A =>
    obtain ⟨hA, hsub⟩ := V9.removed_ok h.ok hp
    have hsz : Sp.size A ≤ Sp.room S := by
      refine Nat.le_trans ?_ h.room
      unfold Sp.size
      exact V11.sum_sub (hsub.map _)
    have e : x.remove ns = (Sp.okF, x.become A) := by unfold St.remove; rw [hp, h.seen]; simp only; rw [if_neg (by omega)]
    rw [e]
    exact .inr ⟨A, rfl, hsz, rfl, rfl, hA, become_cases h hA hsz hn fun e => by rw [V11.filter_len hsub e]⟩
theorem gone_reopen {S n : Nat} {L A : List Pk} {x : St} (h : Gone S n L A x) (mask after : Int) :
    V10.Live S (x.reopen mask after) ∧ (((x.reopen mask after).last = n ∧ (x.reopen mask after).L = V8.byName L) ∨ ((x.reopen mask after).last = n + 1 ∧ (x.reopen mask after).L = V8.byName A)) :=
  V10.reopen_torn h.torn h.okL h.okA h.roomL h.roomA h.big mask after
theorem gone_cut {S n : Nat} {L A : List Pk} {x : St} (h : Gone S n L A x) (k : Int) : Gone S n L A (x.cut k) :=
  ⟨h.torn.cut k, h.okL, h.okA, h.roomL, h.roomA, h.big, h.late, h.few⟩
theorem texts_byName {L : List Pk} (h : Sp.Set L) : Sp.texts (V8.byName L) = Sp.texts L := (V8.texts_eq h (V8.byName_perm h).symm).symm
theorem live_few {S : Nat} {x : St} (h : V10.Live S x) : x.L.length ≤ 600 := by
  have h1 := V8.size_count h.ok.set.good
  have h2 := h.room
  have h3 := h.big
  unfold Sp.room at h2
  omega
/-- The power goes in the middle of an installation, and of opening: all of it is there, or what was. -/
theorem survives_law {S : Nat} {x : St} (h : V11.Sure S x) (hn : x.last + 1 < 18446744073709551616) (ts : List Str) (c mask after m2 : Int) :
    let z1 := ((x.cut c).install ts).2
    (z1.d.late.length < 900000 ∧ z1.d.seen.length = S ∧ V10.Live S (z1.reopen mask after) ∧ V10.Live S ((z1.reopen mask after).reopen m2 (-1)) ∧ V10.Live S (((z1.reopen mask after).reopen m2 (-1)).reopen 0 (-1))) ∧
    (Sp.texts (((z1.reopen mask after).reopen m2 (-1)).reopen 0 (-1)).L = Sp.texts (x.install ts).2.L ∨ (z1.d.dead = true ∧ Sp.texts (((z1.reopen mask after).reopen m2 (-1)).reopen 0 (-1)).L = Sp.texts x.L)) := by
  intro z1
  have hz : V10.Live S (x.cut c) := V10.cut_live h.live c
  have two : ∀ (y : St), V10.Live S y → V10.Live S (y.reopen m2 (-1)) ∧ V10.Live S ((y.reopen m2 (-1)).reopen 0 (-1)) ∧ Sp.texts (((y.reopen m2 (-1)).reopen 0 (-1)).L) = Sp.texts y.L := by
    intro y hy
    obtain ⟨b1, _, b3⟩ := V10.reopen_live hy m2 (-1)
    obtain ⟨c1, _, c3⟩ := V10.reopen_live b1 0 (-1)
    exact ⟨b1, c1, by rw [c3, texts_byName b1.ok.set, b3, texts_byName hy.ok.set]⟩
  have three : ∀ (y : St), V10.Live S y → (y.d.late.length < 900000 ∧ y.d.seen.length = S ∧ V10.Live S (y.reopen mask after) ∧ V10.Live S ((y.reopen mask after).reopen m2 (-1)) ∧ V10.Live S (((y.reopen mask after).reopen m2 (-1)).reopen 0 (-1))) ∧ Sp.texts ((((y.reopen mask after).reopen m2 (-1)).reopen 0 (-1)).L) = Sp.texts y.L := by
    intro y hy
    obtain ⟨a1, _, a3⟩ := V10.reopen_live hy mask after
    obtain ⟨b1, b2, b3⟩ := two _ a1
    exact ⟨⟨by rw [hy.calm.late]; decide, hy.seen, a1, b1, b2⟩, by rw [b3, a3, texts_byName hy.ok.set]⟩
  rcases install_live hz hn ts with ⟨_, e1, e2⟩ | ⟨A, o, hp, hr, _, e1, hA, hc⟩
  · obtain ⟨_, e3⟩ := e2 x rfl rfl
    have e1' : z1 = x.cut c := e1
    rw [e1', e3]
    obtain ⟨t1, t2⟩ := three _ hz
    exact ⟨t1, .inl t2⟩
  · have e3 : (x.install ts).2 = x.become A := by
      obtain ⟨i1, _, _⟩ := V10.install_yes h.live hn hp hr
      rw [i1]
    have e1' : z1 = (x.cut c).become A := e1
    rw [e3, (become_L x A).1, e1']
    rcases hc with ⟨_, hl⟩ | ⟨hd, hg⟩
    · obtain ⟨t1, t2⟩ := three _ hl
      exact ⟨t1, .inl (by rw [t2, (become_L _ A).1])⟩
    · obtain ⟨r1, r2⟩ := gone_reopen hg mask after
      obtain ⟨b1, b2, b3⟩ := two _ r1
      refine ⟨⟨hg.late, hg.torn.slen, r1, b1, b2⟩, ?_⟩
      rw [b3]
      rcases r2 with ⟨_, r2⟩ | ⟨_, r2⟩
      · exact .inr ⟨hd, by rw [r2, texts_byName hg.okL.set]; rfl⟩
      · exact .inl (by rw [r2, texts_byName hg.okA.set])
end V14
end Go.Proofs.YtfphcecjhdkcoaaGreatDoor
/-
What the walks of the statements on sessions whose power may go carry along.
-/
namespace Go.Proofs.YtfphcecjhdkcoaaGreatDoor
open Go.RowKit Go.Maps
/-- A session in memory: all of it lies in O, from block B on. -/
structure Bare (B : Nat) (O : Nat → Prop) (w : World) (x : Nat) (st : Sp.St) : Prop where
  ses : Ses O w x st
  low : ∀ k, O k → B ≤ k ∧ k < w.heap.size
theorem Run.bare {B S : Nat} {O : Nat → Prop} {w : World} {x : Nat} {st : Sp.St} (h : Run B S O w x st) : Bare B O w x st := ⟨h.ses, h.low⟩
theorem fit_live {S : Nat} {x : Sp.St} (h : V10.Live S x) (hl : x.last ≤ 1000000) : Fit x := fit_of_live h (by omega)
namespace Bare
variable {B : Nat} {O M : Nat → Prop} {w w' : World} {x : Nat} {st : Sp.St}
theorem below (h : Bare B O w x st) (hb : Below w.heap.size w w') : Bare B O w' x st := ⟨h.ses.below hb, fun k hk => ⟨(h.low k hk).1, Nat.lt_of_lt_of_le (h.low k hk).2 hb.size⟩⟩
theorem chg (h : Bare B O w x st) (hc : Chg M w w') (hm : ∀ k, O k → ¬ M k) : Bare B O w' x st := ⟨h.ses.keep (fun k hk hl => hc.block k hl (hm k hk)) hc.size, fun k hk => ⟨(h.low k hk).1, Nat.lt_of_lt_of_le (h.low k hk).2 hc.size⟩⟩
theorem grown (hz : w.heap.size ≤ w'.heap.size) (hB : B ≤ w.heap.size) (h : ∀ k, O k → B ≤ k ∧ k < w.heap.size) (hs : Ses (fun k => O k ∨ w.heap.size ≤ k) w' x st) : Bare B (fun k => O k ∨ w.heap.size ≤ k ∧ k < w'.heap.size) w' x st :=
  ⟨hs.mono fun k hl hk => hk.imp id fun h => ⟨h, hl⟩, fun k hk => by
    rcases hk with hk | hk
    · exact ⟨(h k hk).1, by have := (h k hk).2; omega⟩
    · exact ⟨by omega, hk.2⟩⟩
theorem install {G : Nat} (hw : Wd G w) (h : Bare B O w x st) (hG : G ≤ B) (hB : B ≤ w.heap.size) (hf : Fit st) (tv : Value) (ts : List Sp.Str) (htv : StrsAt w tv ts) (hts : ts.length ≤ 5000) :
    Calls Tryz.prog 25 #[.pointer (some ⟨x, 0, none⟩), tv] w fun e w' => e = .returned (faultV (st.install ts).1) ∧ Chg O w w' ∧ Bare B (fun k => O k ∨ w.heap.size ≤ k ∧ k < w'.heap.size) w' x (st.install ts).2 := by
  refine (sesInstall_any hw.glob hw.err (fun k hk => Nat.le_trans hG (h.low k hk).1) h.ses hf tv ts htv hts).mono ?_
  rintro e w' ⟨rfl, hc, hs⟩
  exact ⟨rfl, hc, grown hc.size hB h.low hs⟩
theorem remove {G : Nat} (hw : Wd G w) (h : Bare B O w x st) (hG : G ≤ B) (hB : B ≤ w.heap.size) (hf : Fit st) (tv : Value) (ts : List Sp.Str) (htv : StrsAt w tv ts) (hts : ts.length ≤ 5000) (hnl : ∀ n ∈ ts, n.length ≤ 10000) :
    Calls Tryz.prog 32 #[.pointer (some ⟨x, 0, none⟩), tv] w fun e w' => e = .returned (faultV (st.remove ts).1) ∧ Chg O w w' ∧ Bare B (fun k => O k ∨ w.heap.size ≤ k ∧ k < w'.heap.size) w' x (st.remove ts).2 := by
  refine (sesRemove_any hw.glob hw.err (fun k hk => Nat.le_trans hG (h.low k hk).1) h.ses hf tv ts htv hts hnl).mono ?_
  rintro e w' ⟨rfl, hc, hs⟩
  exact ⟨rfl, hc, grown hc.size hB h.low hs⟩
theorem plan {G : Nat} (hw : Wd G w) (h : Bare B O w x st) (hf : Fit st) (tv : Value) (ts : List Sp.Str) (htv : StrsAt w tv ts) (hts : ts.length ≤ 5000) :
    Calls Tryz.prog 23 #[.pointer (some ⟨x, 0, none⟩), tv] w fun e w' => ∃ v, e = .returned (.tuple #[v, faultV (st.plan ts).1]) ∧ StrsFrom w.heap.size w' v (st.plan ts).2 ∧ Below w.heap.size w w' :=
  sesPlan_any hw.glob hw.err h.ses hf tv ts htv hts
theorem packages (h : Bare B O w x st) {S : Nat} (hl : V10.Live S st) : Calls Tryz.prog 26 #[.pointer (some ⟨x, 0, none⟩)] w fun e w' => ∃ v, e = .returned (.tuple #[v, .bool true]) ∧ StrsFrom w.heap.size w' v (Sp.texts st.L) ∧ Below w.heap.size w w' :=
  PK.packages_any h.ses hl.ok.set (by have := V14.live_few hl; omega)
theorem cut (h : Bare B O w x st) (k : Int) (hk : k ≤ 9223372036854775807) :
    Calls Tryz.prog 28 #[.pointer (some ⟨x, 0, none⟩), .int .i64 k] w fun e w' => e = .returned (.tuple #[]) ∧ Chg O w w' ∧ Bare B O w' x (st.cut k) := by
  refine (sesCut_any h.ses k hk).mono ?_
  rintro e w' ⟨rfl, hc, hs⟩
  exact ⟨rfl, hc, hs, fun k hk => ⟨(h.low k hk).1, Nat.lt_of_lt_of_le (h.low k hk).2 hc.size⟩⟩
theorem lost (h : Bare B O w x st) : Calls Tryz.prog 29 #[.pointer (some ⟨x, 0, none⟩)] w fun e w' => e = .returned (.bool st.d.dead) ∧ w' = w := sesLost_any h.ses
theorem reopen {G S : Nat} (hw : Wd G w) (h : Bare B O w x st) (hG : G ≤ B) (hB : B ≤ w.heap.size) (mask after : Int) (hm1 : -9223372036854775808 ≤ mask) (hm2 : mask ≤ 9223372036854775807) (ha : after ≤ 9223372036854775807)
    (hlate : st.d.late.length < 900000) (hS : 16 ≤ st.d.seen.length) (hl : V10.Live S (st.reopen mask after)) :
    Calls Tryz.prog 30 #[.pointer (some ⟨x, 0, none⟩), .int .i64 mask, .int .i64 after] w fun e w' => e = .returned (faultV Sp.okF) ∧ Chg O w w' ∧ Bare B (fun k => O k ∨ w.heap.size ≤ k ∧ k < w'.heap.size) w' x (st.reopen mask after) := by
  refine (sesReopen_any hw.glob (fun k hk => Nat.le_trans hG (h.low k hk).1) h.ses mask after hm1 hm2 ha (by omega) hS hl.ok (by have := V14.live_few hl; omega)).mono ?_
  rintro e w' ⟨rfl, hc, hs⟩
  exact ⟨rfl, hc, grown hc.size hB h.low hs⟩
end Bare
/-- Texts that lie in blocks of their own. -/
def StrsIn (B C : Nat) (w : World) (v : Value) (l : List Sp.Str) : Prop := SlOn (fun k => B ≤ k ∧ k < C) w 1 v (l.map fun s => [sv s])
namespace StrsIn
variable {B C : Nat} {M : Nat → Prop} {w w' : World} {v : Value} {l : List Sp.Str}
theorem of_from (h : StrsFrom B w v l) (hC : w.heap.size ≤ C) : StrsIn B C w v l := SlOn.mono h fun k hk => ⟨hk.1, by have := hk.2; omega⟩
theorem below (h : StrsIn B C w v l) (hb : Below w.heap.size w w') (hC : C ≤ w.heap.size) : StrsIn B C w' v l := SlOn.keep h fun k hk => hb.block k (by have := hk.2; omega)
theorem chg (h : StrsIn B C w v l) (hc : Chg M w w') (hC : C ≤ w.heap.size) (hm : ∀ k, M k → k < B ∨ C ≤ k) : StrsIn B C w' v l := SlOn.keep h fun k hk => hc.block k (by have := hk.2; omega) fun hx => by
  have := hm k hx
  have := hk.1
  have := hk.2
  omega
theorem at_ (h : StrsIn B C w v l) (hC : C ≤ w.heap.size) : StrsAt w v l := SlOn.mono h fun k hk => by have := hk.2; omega
end StrsIn
end Go.Proofs.YtfphcecjhdkcoaaGreatDoor
namespace Go.Proofs.YtfphcecjhdkcoaaGreatDoor
open Go.RowKit Go.Maps
namespace LS
theorem tdiv3 {m : Int} (h1 : -9223372036854775808 ≤ m) (h2 : m ≤ 9223372036854775807) : -9223372036854775808 ≤ m.tdiv 3 ∧ m.tdiv 3 ≤ 9223372036854775807 := by
  rcases Int.le_total 0 m with h | h
  · rw [Int.tdiv_eq_ediv_of_nonneg h]; omega
  · obtain ⟨n, rfl⟩ : ∃ n : Int, m = -n := ⟨-m, by omega⟩
    rw [Int.neg_tdiv, Int.tdiv_eq_ediv_of_nonneg (by omega)]; omega
end LS
set_option maxRecDepth 100000 in
set_option maxHeartbeats 4000000 in
theorem survives_any {G : Nat} {w : World} (hw : Wd G w) (z c mask ag : Int) (hc1 : -9223372036854775808 ≤ c) (hc2 : c ≤ 9223372036854775807) (hm1 : -9223372036854775808 ≤ mask) (hm2 : mask ≤ 9223372036854775807) (ha1 : -9223372036854775808 ≤ ag) (ha2 : ag ≤ 9223372036854775807)
    (va vb : Value) (fs ts : List Sp.Str) (hva : StrsAt w va fs) (hvb : StrsAt w vb ts)
    (hl1 : fs.length ≤ 2305843009213693952) (hs1 : ∀ s ∈ fs, s.length ≤ 2305843009213693952) (hl2 : ts.length ≤ 2305843009213693952) (hs2 : ∀ s ∈ ts, s.length ≤ 2305843009213693952) :
    Calls Tryz.prog 7 #[.int .i64 z, va, vb, .int .i64 c, .int .i64 mask, .int .i64 ag] w fun e w' => e = .returned (.bool true) ∧ Below w.heap.size w w' := by
  have HVA := Lib.hid (fun (W : World) (hW : Below w.heap.size w W) => StrsAt.below' hva hW hW.size)
  have HVB := Lib.hid (fun (W : World) (hW : Below w.heap.size w W) => StrsAt.below' hvb hW hW.size)
  have HW := Lib.hid (fun (W : World) (hW : Below w.heap.size w W) => hw.keep hW)
  have hGw := hw.glob.size
  have HSM1 := Lib.hid (small_any va fs hva hl1 hs1)
  have HSM2 := Lib.hid (fun (W : World) (hW : Below w.heap.size w W) => small_any vb ts (StrsAt.below' hvb hW hW.size) hl2 hs2)
  clear hva hvb hw hs1 hs2
  go_enter Tryz.func7, Tryz.ntmps7
  go_wp2_with fail
  refine HSM1.out.mono ?_
  rintro e w1 ⟨g1, rfl, hb1, hsm1⟩
  have HB1 := Lib.hid hb1
  have H1 := Lib.hid hsm1
  clear hb1 hsm1
  go_wp2_with fail
  refine (HSM2.out w1 HB1.out).mono ?_
  rintro e w2 ⟨g2, rfl, hb2, hsm2⟩
  have HB2 := Lib.hid (HB1.out.trans (hb2.mono HB1.out.size))
  have H2 := Lib.hid hsm2
  clear hb2 hsm2
  cases g1 with
  | false =>
    go_wp2
    go_ret
    exact ⟨rfl, HB2.out⟩
  | true =>
    cases g2 with
    | false =>
      go_wp2
      go_ret
      exact ⟨rfl, HB2.out⟩
    | true =>
      have hk1 := H1.out rfl
      have hk2 := H2.out rfl
      unfold LW.bulk at hk1 hk2
      have hf5 : fs.length ≤ 5000 := by omega
      have ht5 : ts.length ≤ 5000 := by omega
      clear hk1 hk2
      go_wp2_with fail
      refine (anchored_any (HW.out w2 HB2.out)).mono ?_
      rintro e w3 ⟨rfl, hb3⟩
      have HB3 := Lib.hid (HB2.out.trans (hb3.mono HB2.out.size))
      clear hb3
      go_wp2_with fail
      refine (Run.new (HW.out w3 HB3.out) z).mono ?_
      rintro e w4 ⟨x, rfl, hb4, hrun⟩
      have hz3 := HB3.out.size
      have hz4 := hb4.size
      have HST0 := Lib.hid (⟨_, rfl⟩ : ∃ st0, st0 = Sp.St.new (secs z))
      obtain ⟨st0, hst0⟩ := HST0.out
      clear HST0
      have hlast : st0.last = 0 := by rw [hst0]; exact (V11.new_sure ⟨(secs_ok z).1, (secs_ok z).2.1⟩).2.1
      rw [← hst0] at hrun
      have HST0 := Lib.hid hst0
      have HLAST := Lib.hid hlast
      have hbA : Below w4.heap.size w4 (w4.alloc (.cells #[.int .i64 0, .int .i64 0, .int .i64 0, .string ⟨#[]⟩] 23)) := (Below.refl _ _).alloc (Nat.le_refl _) _
      have hzA : (w4.alloc (.cells #[.int .i64 0, .int .i64 0, .int .i64 0, .string ⟨#[]⟩] 23)).heap.size = w4.heap.size + 1 := by simp
      have HBA := Lib.hid ((HB3.out.trans (hb4.mono hz3)).trans (hbA.mono (by omega)))
      have HX := Lib.hid (hrun.below hbA)
      have HF := Lib.hid (FB.new w4 ⟨0, 0, 0, []⟩)
      have HZA := Lib.hid hzA
      clear hrun hb4 hst0 hlast hbA hzA
      unfold faultV sv Sp.okF
      go_wp2_with fail
      generalize (w4.alloc (.cells #[.int .i64 0, .int .i64 0, .int .i64 0, .string ⟨#[]⟩] 23)) = w4A at *
      have hzA1 := Nat.le_of_eq HZA.out
      have hzA2 := Nat.le_of_eq HZA.out.symm
      refine (Run.new (HW.out w4A HBA.out) z).mono ?_
      rintro e w5 ⟨y, rfl, hb5, hrun⟩
      have hz5 := hb5.size
      rw [← HST0.out] at hrun
      have hbA : Below w5.heap.size w5 (w5.alloc (.cells #[.int .i64 0, .int .i64 0, .int .i64 0, .string ⟨#[]⟩] 23)) := (Below.refl _ _).alloc (Nat.le_refl _) _
      have hzA : (w5.alloc (.cells #[.int .i64 0, .int .i64 0, .int .i64 0, .string ⟨#[]⟩] 23)).heap.size = w5.heap.size + 1 := by simp
      have HBB := Lib.hid ((HBA.out.trans (hb5.mono (by omega))).trans (hbA.mono (by omega)))
      have HX2 := Lib.hid ((HX.out.below hb5).below hbA)
      have HY2 := Lib.hid (hrun.below hbA)
      have hf := (HF.out.below hb5).below hbA
      have hg := FB.new w5 ⟨0, 0, 0, []⟩
      have HZB := Lib.hid hzA
      obtain ⟨f0, _, _, _⟩ := hf.cells
      obtain ⟨g0, _, _, _⟩ := hg.cells
      clear hrun hb5 hbA hzA hf hg HX HF
      unfold faultV sv Sp.okF
      go_wp2_with fail
      generalize (w5.alloc (.cells #[.int .i64 0, .int .i64 0, .int .i64 0, .string ⟨#[]⟩] 23)) = w5A at *
      have hzB1 := Nat.le_of_eq HZB.out
      have hzB2 := Nat.le_of_eq HZB.out.symm
      have hl0 := Nat.le_of_eq HLAST.out
      refine (Run.install (HW.out _ HBB.out) HX2.out (by omega) (by omega) (by omega) va fs (HVA.out _ HBB.out) hf5).mono ?_
      rintro e w6 ⟨rfl, hch6, hx6⟩
      have hz6 := hch6.size
      have HB6 := Lib.hid (HBB.out.trans (hch6.below (B := w.heap.size) HBB.out.size fun k hk => by have := hk.1; omega))
      obtain ⟨st1, hst1⟩ : ∃ st1, st1 = (st0.install fs).2 := ⟨_, rfl⟩
      have hlast1 : st1.last ≤ 1 := by rw [hst1]; have := (V11.install_sure HX2.out.sure (by omega) fs).2; omega
      rw [← hst1] at hx6
      have HST1 := Lib.hid hst1
      have HX6 := Lib.hid hx6
      have HY6 := Lib.hid (HY2.out.chg hch6 fun k hk hx => by have h1 := hk.1; have h2 := hx.2; omega)
      clear hch6 hx6 hst1 f0 g0
      go_wp2_with fail
      refine (Run.install (HW.out _ HB6.out) HY6.out (by omega) (by omega) (by omega) va fs (HVA.out _ HB6.out) hf5).mono ?_
      rintro e w7 ⟨rfl, hch7, hy7⟩
      have hz7 := hch7.size
      have HB7 := Lib.hid (HB6.out.trans (hch7.below (B := w.heap.size) HB6.out.size fun k hk => by have := hk.1; omega))
      rw [← HST1.out] at hy7
      have HY7 := Lib.hid hy7
      have HX7 := Lib.hid (HX6.out.chg hch7 fun k hk hx => by
        have h1 := hx.1; have h2 := hx.2
        rcases hk with hk | hk
        · have := hk.2; omega
        · have := hk.1; omega)
      clear hch7 hy7
      go_wp2_with fail
      refine HX7.out.packages.mono ?_
      rintro e w8 ⟨v1, rfl, hv1, hb8⟩
      have hz8 := hb8.size
      have HB8 := Lib.hid (HB7.out.trans (hb8.mono (by omega)))
      have HX8 := Lib.hid (HX7.out.below hb8)
      have HY8 := Lib.hid (HY7.out.below hb8)
      have HV8 := Lib.hid (StrsIn.of_from hv1 (Nat.le_refl _))
      clear hv1 hb8
      go_wp2_with fail
      refine (Run.install (HW.out _ HB8.out) HY8.out (by omega) (by omega) (by omega) vb ts (HVB.out _ HB8.out) ht5).mono ?_
      rintro e w9 ⟨rfl, hch9, hy9⟩
      have hz9 := hch9.size
      have hO : ∀ k, ((fun k => w4A.heap.size ≤ k ∧ k < w5.heap.size) k ∨ w6.heap.size ≤ k ∧ k < w7.heap.size) → w.heap.size ≤ k ∧ k < w7.heap.size ∧ ((w4A.heap.size ≤ k ∧ k < w5.heap.size) ∨ (w6.heap.size ≤ k ∧ k < w7.heap.size)) := fun k hk => by
        rcases hk with hk | hk
        · have h1 := hk.1; have h2 := hk.2; exact ⟨by omega, by omega, .inl ⟨h1, h2⟩⟩
        · exact ⟨by omega, by omega, .inr hk⟩
      have HB9 := Lib.hid (HB8.out.trans (hch9.below (B := w.heap.size) HB8.out.size fun k hk => (hO k hk).1))
      have HV9 := Lib.hid (HV8.out.chg hch9 (Nat.le_refl _) fun k hk => .inl (by have := (hO k hk).2.1; omega))
      have HX9 := Lib.hid (HX8.out.chg hch9 fun k hk hx => by
        have h3 := (hO k hx).2.2
        rcases hk with hk | hk
        · have h1 := hk.1; have h2 := hk.2; omega
        · have h1 := hk.1; have h2 := hk.2; omega)
      have HY9 := Lib.hid hy9
      clear hch9 hy9 hO
      go_wp2_with fail
      refine HY9.out.packages.mono ?_
      rintro e w10 ⟨v2, rfl, hv2, hb10⟩
      have hz10 := hb10.size
      have HB10 := Lib.hid (HB9.out.trans (hb10.mono (by omega)))
      have HX10 := Lib.hid (HX9.out.below hb10)
      have HV10 := Lib.hid (HV9.out.below hb10 (by omega))
      have HU10 := Lib.hid (StrsIn.of_from hv2 (Nat.le_refl _))
      clear hv2 hb10
      go_wp2_with fail
      refine (pick_any c 40 (by decide) (by decide) hc1 hc2 w10).mono ?_
      rintro e w11 ⟨k1, hk1, rfl, rfl⟩
      go_wp2_with fail
      refine (HX10.out.bare.cut (k1 : Int) (by omega)).mono ?_
      rintro e w12 ⟨rfl, hch12, hx12⟩
      have hz12 := hch12.size
      have hO : ∀ k, ((fun k => w3.heap.size ≤ k ∧ k < w4.heap.size) k ∨ w5A.heap.size ≤ k ∧ k < w6.heap.size) → w.heap.size ≤ k ∧ k < w6.heap.size := fun k hk => by
        rcases hk with hk | hk
        · have h1 := hk.1; have h2 := hk.2; exact ⟨by omega, by omega⟩
        · exact ⟨by omega, by omega⟩
      have HB12 := Lib.hid (HB10.out.trans (hch12.below (B := w.heap.size) HB10.out.size fun k hk => (hO k hk).1))
      have HX12 := Lib.hid hx12
      have HV12 := Lib.hid (HV10.out.chg hch12 (by omega) fun k hk => .inl (by have := (hO k hk).2; omega))
      have HU12 := Lib.hid (HU10.out.chg hch12 (by omega) fun k hk => .inl (by have := (hO k hk).2; omega))
      -- the law, in plain
      have hS1 := HX10.out.sure
      obtain ⟨c2, hc2'⟩ : ∃ c2 : Int, c2 = (k1 : Int) := ⟨_, rfl⟩
      rw [← hc2'] at HX12
      have HC2 := Lib.hid hc2'
      have HLAW := Lib.hid (fun mask after m2 => V14.survives_law hS1 (by omega) ts c2 mask after m2)
      have HLC := Lib.hid (fit_live (V10.cut_live hS1.live c2) (show st1.last ≤ 1000000 by omega))
      clear hch12 hx12 hS1 hc2' hk1
      go_wp2_with fail
      refine (Bare.install (HW.out _ HB12.out) HX12.out (by omega) (by omega) HLC.out vb ts (HVB.out _ HB12.out) ht5).mono ?_
      rintro e w13 ⟨rfl, hch13, hx13⟩
      have hz13 := hch13.size
      have HB13 := Lib.hid (HB12.out.trans (hch13.below (B := w.heap.size) HB12.out.size fun k hk => (hO k hk).1))
      have HV13 := Lib.hid (HV12.out.chg hch13 (by omega) fun k hk => .inl (by have := (hO k hk).2; omega))
      have HU13 := Lib.hid (HU12.out.chg hch13 (by omega) fun k hk => .inl (by have := (hO k hk).2; omega))
      obtain ⟨O13, hO13⟩ : ∃ O13 : Nat → Prop, O13 = fun k => ((fun k => w3.heap.size ≤ k ∧ k < w4.heap.size) k ∨ w5A.heap.size ≤ k ∧ k < w6.heap.size) ∨ w12.heap.size ≤ k ∧ k < w13.heap.size := ⟨_, rfl⟩
      have hO' : ∀ k, O13 k → w.heap.size ≤ k ∧ (k < w6.heap.size ∨ w12.heap.size ≤ k) := fun k hk => by
        rw [hO13] at hk
        rcases hk with hk | hk
        · exact ⟨(hO k hk).1, .inl (hO k hk).2⟩
        · exact ⟨by omega, .inr hk.1⟩
      rw [← hO13] at hx13
      have HO := Lib.hid hO'
      obtain ⟨z1, hz1'⟩ : ∃ z1, z1 = ((st1.cut c2).install ts).2 := ⟨_, rfl⟩
      rw [← hz1'] at hx13
      have HX13 := Lib.hid hx13
      have HZ1 := Lib.hid hz1'
      obtain ⟨d, hd⟩ : ∃ d, d = z1.d.dead := ⟨_, rfl⟩
      have HD := Lib.hid hd
      clear hch13 hx13 hO hO' hO13 hz1'
      go_wp2_with fail
      refine HX13.out.lost.mono ?_
      rintro e w14 ⟨rfl, rfl⟩
      rw [← HD.out]
      clear hd
      go_wp2_with fail
      refine (pick_any ag 20 (by decide) (by decide) ha1 ha2 w14).mono ?_
      rintro e w15 ⟨k2, hk2, rfl, rfl⟩
      obtain ⟨m3, hm3, m3a, m3b⟩ : ∃ m3 : Int, mask.tdiv 3 = m3 ∧ -9223372036854775808 ≤ m3 ∧ m3 ≤ 9223372036854775807 := ⟨_, rfl, LS.tdiv3 hm1 hm2⟩
      have hm4 : IntKind.i64.wrap m3 = m3 := IntWalk.i64_in _ ⟨m3a, m3b⟩
      obtain ⟨⟨l1, l2, l3, l4, l5⟩, l6⟩ := HLAW.out mask (k2 : Int) m3
      rw [← HZ1.out] at l1 l2 l3 l4 l5 l6
      obtain ⟨r1, hr1⟩ : ∃ r1, r1 = z1.reopen mask (k2 : Int) := ⟨_, rfl⟩
      obtain ⟨r2, hr2⟩ : ∃ r2, r2 = r1.reopen m3 (-1) := ⟨_, rfl⟩
      obtain ⟨r3, hr3⟩ : ∃ r3, r3 = r2.reopen 0 (-1) := ⟨_, rfl⟩
      rw [← hr1] at l4 l5 l6
      rw [← hr2] at l4 l5 l6
      rw [← hr3] at l5 l6
      obtain ⟨la, hla⟩ : ∃ la, la = Sp.texts (st1.install ts).2.L := ⟨_, rfl⟩
      obtain ⟨lo, hlo⟩ : ∃ lo, lo = Sp.texts st1.L := ⟨_, rfl⟩
      obtain ⟨lm, hlm⟩ : ∃ lm, lm = Sp.texts r3.L := ⟨_, rfl⟩
      rw [← HD.out, ← hla, ← hlo, ← hlm] at l6
      have hllm : lm.length ≤ 600 := by rw [hlm, V11.texts_len l5.ok.set]; exact V14.live_few l5
      have hbig := (secs_ok z).1
      have L1 := Lib.hid l1
      have L2 := Lib.hid l2
      have L3 := Lib.hid l3
      have L4 := Lib.hid l4
      have L5 := Lib.hid l5
      have L6 := Lib.hid l6
      have HR1 := Lib.hid hr1
      have HR2 := Lib.hid hr2
      have HR3 := Lib.hid hr3
      have HLA := Lib.hid hla
      have HLO := Lib.hid hlo
      have HLM := Lib.hid hlm
      have HM3 := Lib.hid hm3
      clear HLAW l1 l2 l3 l4 l5 l6 hr1 hr2 hr3 hla hlo hlm hm3
      go_wp2_with fail
      refine (Bare.reopen (S := secs z) (HW.out _ HB13.out) HX13.out (by omega) (by omega) mask (k2 : Int) hm1 hm2 (by omega) L1.out (by rw [L2.out]; exact hbig) L3.out).mono ?_
      rintro e w16 ⟨rfl, hch16, hx16⟩
      have hz16 := hch16.size
      have HB16 := Lib.hid (HB13.out.trans (hch16.below (B := w.heap.size) HB13.out.size fun k hk => (HO.out k hk).1))
      have HV16 := Lib.hid (HV13.out.chg hch16 (by omega) fun k hk => by have := (HO.out k hk).2; omega)
      have HU16 := Lib.hid (HU13.out.chg hch16 (by omega) fun k hk => by have := (HO.out k hk).2; omega)
      obtain ⟨O16, hO16⟩ : ∃ O16 : Nat → Prop, O16 = fun k => O13 k ∨ w15.heap.size ≤ k ∧ k < w16.heap.size := ⟨_, rfl⟩
      have hO' : ∀ k, O16 k → w.heap.size ≤ k ∧ (k < w6.heap.size ∨ w12.heap.size ≤ k) := fun k hk => by
        rw [hO16] at hk
        rcases hk with hk | hk
        · exact HO.out k hk
        · exact ⟨by omega, .inr (by omega)⟩
      rw [← hO16, ← HR1.out] at hx16
      have HO16 := Lib.hid hO'
      have HX16 := Lib.hid hx16
      have HS16 := Lib.hid L3.out.seen
      have HC16 := Lib.hid L3.out.calm.late
      rw [← HR1.out] at HS16 HC16
      clear hch16 hx16 hO' hO16
      go_wp2_with fail
      rw [HM3.out]
      try rw [hm4]
      refine (Bare.reopen (S := secs z) (HW.out _ HB16.out) HX16.out (by omega) (by omega) m3 (-1) m3a m3b (by decide) (by rw [HC16.out]; decide) (by rw [HS16.out]; exact hbig) (by rw [← HR2.out]; exact L4.out)).mono ?_
      rintro e w17 ⟨rfl, hch17, hx17⟩
      have hz17 := hch17.size
      have HB17 := Lib.hid (HB16.out.trans (hch17.below (B := w.heap.size) HB16.out.size fun k hk => (HO16.out k hk).1))
      have HV17 := Lib.hid (HV16.out.chg hch17 (by omega) fun k hk => by have := (HO16.out k hk).2; omega)
      have HU17 := Lib.hid (HU16.out.chg hch17 (by omega) fun k hk => by have := (HO16.out k hk).2; omega)
      obtain ⟨O17, hO17⟩ : ∃ O17 : Nat → Prop, O17 = fun k => O16 k ∨ w16.heap.size ≤ k ∧ k < w17.heap.size := ⟨_, rfl⟩
      have hO' : ∀ k, O17 k → w.heap.size ≤ k ∧ (k < w6.heap.size ∨ w12.heap.size ≤ k) := fun k hk => by
        rw [hO17] at hk
        rcases hk with hk | hk
        · exact HO16.out k hk
        · exact ⟨by omega, .inr (by omega)⟩
      rw [← hO17, ← HR2.out] at hx17
      have HO17 := Lib.hid hO'
      have HX17 := Lib.hid hx17
      have HS17 := Lib.hid L4.out.seen
      have HC17 := Lib.hid L4.out.calm.late
      clear hch17 hx17 hO' hO17
      go_wp2_with fail
      refine (Bare.reopen (S := secs z) (HW.out _ HB17.out) HX17.out (by omega) (by omega) 0 (-1) (by decide) (by decide) (by decide) (by rw [HC17.out]; decide) (by rw [HS17.out]; exact hbig) (by rw [← HR3.out]; exact L5.out)).mono ?_
      rintro e w18 ⟨rfl, hch18, hx18⟩
      have hz18 := hch18.size
      have hbA : Below w18.heap.size w18 (w18.alloc (.cells #[.int .i64 0, .int .i64 0, .int .i64 0, .string ⟨#[]⟩] 23)) := (Below.refl _ _).alloc (Nat.le_refl _) _
      have hzA : (w18.alloc (.cells #[.int .i64 0, .int .i64 0, .int .i64 0, .string ⟨#[]⟩] 23)).heap.size = w18.heap.size + 1 := by simp
      have hb18 := HB17.out.trans (hch18.below (B := w.heap.size) HB17.out.size fun k hk => (HO17.out k hk).1)
      have HB18 := Lib.hid (hb18.trans (hbA.mono hb18.size))
      have HV18 := Lib.hid ((HV17.out.chg hch18 (by omega) fun k hk => by have := (HO17.out k hk).2; omega).below hbA (by omega))
      have HU18 := Lib.hid ((HU17.out.chg hch18 (by omega) fun k hk => by have := (HO17.out k hk).2; omega).below hbA (by omega))
      rw [← HR3.out] at hx18
      have HX18 := Lib.hid (hx18.below hbA)
      have HF18 := Lib.hid (FB.new w18 ⟨0, 0, 0, []⟩)
      have HZC := Lib.hid hzA
      clear hch18 hx18 hbA hzA hb18
      unfold faultV sv Sp.okF
      go_wp2_with fail
      generalize (w18.alloc (.cells #[.int .i64 0, .int .i64 0, .int .i64 0, .string ⟨#[]⟩] 23)) = w18A at *
      have hzC1 := Nat.le_of_eq HZC.out
      have hzC2 := Nat.le_of_eq HZC.out.symm
      refine (HX18.out.packages L5.out).mono ?_
      rintro e w19 ⟨v3, rfl, hv3, hb19⟩
      have hz19 := hb19.size
      rw [← HLM.out] at hv3
      have HB19 := Lib.hid (HB18.out.trans (hb19.mono (by omega)))
      have HV19 := HV18.out.below hb19 (by omega)
      have HU19 := HU18.out.below hb19 (by omega)
      rw [← HLO.out] at HV19
      rw [← HLA.out] at HU19
      have hsm1 := same_any v3 v1 lm lo hv3.at_ (HV19.at_ (by omega)) (by omega)
      have HSM1' := Lib.hid hsm1
      have HV3 := Lib.hid hv3
      have HU19' := Lib.hid HU19
      have HF19 := Lib.hid (HF18.out.below hb19)
      clear hsm1 hv3 hb19 HV19 HU19
      go_wp2_with fail
      refine HSM1'.out.mono ?_
      rintro e w20 ⟨rfl, hb20⟩
      have hz20 := hb20.size
      have HB20 := Lib.hid (HB19.out.trans (hb20.mono (by omega)))
      have hsm2 := same_any v3 v2 lm la (HV3.out.below hb20).at_ ((HU19'.out.below hb20 (by omega)).at_ (by omega)) (by omega)
      have HSM3 := Lib.hid hsm2
      have HF20 := Lib.hid (HF19.out.below hb20)
      clear hsm2 hb20
      go_wp2_with fail
      refine HSM3.out.mono ?_
      rintro e w21 ⟨rfl, hb21⟩
      have hz21 := hb21.size
      have HB21 := Lib.hid (HB20.out.trans (hb21.mono (by omega)))
      obtain ⟨f0, _, _, _⟩ := (HF20.out.below hb21).cells
      have hlt : w18.heap.size < w21.heap.size := by omega
      clear hb21
      rcases L6.out with h6 | ⟨h6, h7⟩
      · have e1 : decide (lm = la) = true := decide_eq_true h6
        clear h6
        go_wp2
        go_ret
        exact ⟨rfl, HB21.out⟩
      · have e1 : decide (lm = lo) = true := decide_eq_true h7
        clear h7
        cases e2 : decide (lm = la) with
        | true =>
          go_wp2
          go_ret
          exact ⟨rfl, HB21.out⟩
        | false =>
          go_wp2
          go_ret
          exact ⟨rfl, HB21.out⟩
end Go.Proofs.YtfphcecjhdkcoaaGreatDoor

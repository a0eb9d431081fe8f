/-
The walk of the law Known.
-/
import Derived.Test.YtfphcecjhdkcoaaGreatDoorKnownP14
import Derived.Test.YtfphcecjhdkcoaaGreatDoorKnownP18
import Derived.Test.YtfphcecjhdkcoaaGreatDoorKnownP19
import Derived.Test.YtfphcecjhdkcoaaGreatDoorKnownP20
import Derived.Test.YtfphcecjhdkcoaaGreatDoorKnownP21
import Ieee.Arith
import Derived.Lib.Strings
import Derived.Laws.FloatArith
import Derived.Laws.StructEq
/-
Plain: the story of the statement Known.
-/
namespace Go.Proofs.YtfphcecjhdkcoaaGreatDoor
namespace V22
open Sp (Str Pk Dk St)
def cP : Pk := { name := [99], ver := [49], needs := [[⟨[97], [], []⟩]], bars := [], files := [] }
def bT : Str := [112, 97, 99, 107, 97, 103, 101, 32, 98, 32, 49, 10, 102, 105, 108, 101, 32, 120, 47, 121, 61, 49]
def cT : Str := [112, 97, 99, 107, 97, 103, 101, 32, 99, 32, 49, 10, 110, 101, 101, 100, 115, 32, 97]
theorem c_parse : Sp.parse cT = .inr cP := by rfl
theorem b_planned : Sp.planned [V13.oneP] [bT] = .inl ⟨6, 0, 0, [120]⟩ := by rfl
theorem c_planned : Sp.planned [V13.oneP] [cT] = .inr ([V13.oneP, cP], [[99]]) := by rfl
theorem d_removed : Sp.removed [V13.oneP, cP] [[97]] = .inl ⟨4, 0, 0, [99]⟩ := by rfl
theorem g_removed : Sp.removed [V13.oneP, cP] [[99], [99]] = .inl ⟨3, 1, 0, [99]⟩ := by rfl
theorem h_removed : Sp.removed [V13.oneP, cP] [[99], [97]] = .inr [] := by rfl
theorem inst {S : Nat} {x : St} (h : V11.Sure S x) (hn : x.last < 1000) {ts : List Str} {A : List Pk} {o : List Str} (hp : Sp.planned x.L ts = .inr (A, o)) (hr : Sp.size A ≤ Sp.room S) :
    ∃ y, x.install ts = (Sp.okF, y) ∧ V11.Sure S y ∧ y.L = A ∧ y.last ≤ x.last + 1 := by
  rcases V11.install_cases h (by omega) ts with ⟨_, _, ⟨f, h1, _⟩ | ⟨A', o', h1, h2, _⟩⟩ | ⟨A', o', h1, h2, h3, h4, h5, h6, h7⟩
  · rw [hp] at h1; cases h1
  · rw [hp] at h1
    injection h1 with h1
    injection h1 with h1 _
    subst h1
    omega
  · rw [hp] at h1
    injection h1 with h1
    injection h1 with h1 _
    subst h1
    exact ⟨_, by rw [← h3, ← h4], h5, h7, h6⟩
theorem story {x : St} (h : V11.Sure 16 x) (hl : x.last = 0) (hL : x.L = []) :
    ∃ x1 x2 x3, x.install [V13.one] = (Sp.okF, x1) ∧ V11.Sure 16 x1 ∧ x1.L = [V13.oneP] ∧ x1.last ≤ 1 ∧ x1.install [bT] = (⟨6, 0, 0, [120]⟩, x1) ∧
      x1.install [cT] = (Sp.okF, x2) ∧ V11.Sure 16 x2 ∧ x2.last ≤ 2 ∧ x2.remove [[97]] = (⟨4, 0, 0, [99]⟩, x2) ∧ x2.remove [[99], [99]] = (⟨3, 1, 0, [99]⟩, x2) ∧
      x2.remove [[99], [97]] = (Sp.okF, x3) ∧ V11.Sure 16 x3 ∧ x3.L = [] ∧ x3.last ≤ 3 := by
  obtain ⟨x1, a1, a2, a3, a4⟩ := inst h (by omega) (by rw [hL]; exact V13.one_planned) (by decide)
  obtain ⟨x2, b1, b2, b3, b4⟩ := inst a2 (by omega) (by rw [a3]; exact c_planned) (by decide)
  rcases V11.remove_cases b2 (by omega) [[99], [97]] with ⟨_, _, f, h1, _⟩ | ⟨A, h1, h2, h3, h4, h5, h6⟩
  · rw [b3, h_removed] at h1; cases h1
  · rw [b3, h_removed] at h1
    injection h1 with h1
    subst h1
    exact ⟨x1, x2, x2.become [], a1, a2, a3, by omega, V10.install_no (by rw [a3]; exact b_planned), b1, b2, by omega, by unfold St.remove; rw [b3, d_removed], by unfold St.remove; rw [b3, g_removed], by rw [← h2, ← h3], h4, h6, by omega⟩
theorem one_owner : Sp.owner [V13.oneP] [120] = [97] := by rfl
theorem one_size : Sp.size [V13.oneP] = 20 := by rfl
end V22
end Go.Proofs.YtfphcecjhdkcoaaGreatDoor
/-
What the walks of the statements on sessions whose power may go carry along.
-/
namespace Go.Proofs.YtfphcecjhdkcoaaGreatDoor
open Go.RowKit Go.Maps
/-- A session in memory: all of it lies in O, from block B on. -/
structure Bare (B : Nat) (O : Nat → Prop) (w : World) (x : Nat) (st : Sp.St) : Prop where
  ses : Ses O w x st
  low : ∀ k, O k → B ≤ k ∧ k < w.heap.size
theorem Run.bare {B S : Nat} {O : Nat → Prop} {w : World} {x : Nat} {st : Sp.St} (h : Run B S O w x st) : Bare B O w x st := ⟨h.ses, h.low⟩
theorem fit_live {S : Nat} {x : Sp.St} (h : V10.Live S x) (hl : x.last ≤ 1000000) : Fit x := fit_of_live h (by omega)
namespace Bare
variable {B : Nat} {O M : Nat → Prop} {w w' : World} {x : Nat} {st : Sp.St}
theorem below (h : Bare B O w x st) (hb : Below w.heap.size w w') : Bare B O w' x st := ⟨h.ses.below hb, fun k hk => ⟨(h.low k hk).1, Nat.lt_of_lt_of_le (h.low k hk).2 hb.size⟩⟩
theorem chg (h : Bare B O w x st) (hc : Chg M w w') (hm : ∀ k, O k → ¬ M k) : Bare B O w' x st := ⟨h.ses.keep (fun k hk hl => hc.block k hl (hm k hk)) hc.size, fun k hk => ⟨(h.low k hk).1, Nat.lt_of_lt_of_le (h.low k hk).2 hc.size⟩⟩
theorem grown (hz : w.heap.size ≤ w'.heap.size) (hB : B ≤ w.heap.size) (h : ∀ k, O k → B ≤ k ∧ k < w.heap.size) (hs : Ses (fun k => O k ∨ w.heap.size ≤ k) w' x st) : Bare B (fun k => O k ∨ w.heap.size ≤ k ∧ k < w'.heap.size) w' x st :=
  ⟨hs.mono fun k hl hk => hk.imp id fun h => ⟨h, hl⟩, fun k hk => by
    rcases hk with hk | hk
    · exact ⟨(h k hk).1, by have := (h k hk).2; omega⟩
    · exact ⟨by omega, hk.2⟩⟩
theorem install {G : Nat} (hw : Wd G w) (h : Bare B O w x st) (hG : G ≤ B) (hB : B ≤ w.heap.size) (hf : Fit st) (tv : Value) (ts : List Sp.Str) (htv : StrsAt w tv ts) (hts : ts.length ≤ 9000) :
    Calls Tryz.prog 25 #[.pointer (some ⟨x, 0, none⟩), tv] w fun e w' => e = .returned (faultV (st.install ts).1) ∧ Chg O w w' ∧ Bare B (fun k => O k ∨ w.heap.size ≤ k ∧ k < w'.heap.size) w' x (st.install ts).2 := by
  refine (sesInstall_any hw.glob hw.err (fun k hk => Nat.le_trans hG (h.low k hk).1) h.ses hf tv ts htv hts).mono ?_
  rintro e w' ⟨rfl, hc, hs⟩
  exact ⟨rfl, hc, grown hc.size hB h.low hs⟩
theorem remove {G : Nat} (hw : Wd G w) (h : Bare B O w x st) (hG : G ≤ B) (hB : B ≤ w.heap.size) (hf : Fit st) (tv : Value) (ts : List Sp.Str) (htv : StrsAt w tv ts) (hts : ts.length ≤ 9000) (hnl : ∀ n ∈ ts, n.length ≤ 10000) :
    Calls Tryz.prog 32 #[.pointer (some ⟨x, 0, none⟩), tv] w fun e w' => e = .returned (faultV (st.remove ts).1) ∧ Chg O w w' ∧ Bare B (fun k => O k ∨ w.heap.size ≤ k ∧ k < w'.heap.size) w' x (st.remove ts).2 := by
  refine (sesRemove_any hw.glob hw.err (fun k hk => Nat.le_trans hG (h.low k hk).1) h.ses hf tv ts htv hts hnl).mono ?_
  rintro e w' ⟨rfl, hc, hs⟩
  exact ⟨rfl, hc, grown hc.size hB h.low hs⟩
theorem plan {G : Nat} (hw : Wd G w) (h : Bare B O w x st) (hf : Fit st) (tv : Value) (ts : List Sp.Str) (htv : StrsAt w tv ts) (hts : ts.length ≤ 9000) :
    Calls Tryz.prog 23 #[.pointer (some ⟨x, 0, none⟩), tv] w fun e w' => ∃ v, e = .returned (.tuple #[v, faultV (st.plan ts).1]) ∧ StrsFrom w.heap.size w' v (st.plan ts).2 ∧ Below w.heap.size w w' :=
  sesPlan_any hw.glob hw.err h.ses hf tv ts htv hts
theorem packages (h : Bare B O w x st) {S : Nat} (hl : V10.Live S st) : Calls Tryz.prog 26 #[.pointer (some ⟨x, 0, none⟩)] w fun e w' => ∃ v, e = .returned (.tuple #[v, .bool true]) ∧ StrsFrom w.heap.size w' v (Sp.texts st.L) ∧ Below w.heap.size w w' :=
  PK.packages_any h.ses hl.ok.set (by have := V14.live_few hl; omega)
theorem cut (h : Bare B O w x st) (k : Int) (hk : k ≤ 9223372036854775807) :
    Calls Tryz.prog 28 #[.pointer (some ⟨x, 0, none⟩), .int .i64 k] w fun e w' => e = .returned (.tuple #[]) ∧ Chg O w w' ∧ Bare B O w' x (st.cut k) := by
  refine (sesCut_any h.ses k hk).mono ?_
  rintro e w' ⟨rfl, hc, hs⟩
  exact ⟨rfl, hc, hs, fun k hk => ⟨(h.low k hk).1, Nat.lt_of_lt_of_le (h.low k hk).2 hc.size⟩⟩
theorem lost (h : Bare B O w x st) : Calls Tryz.prog 29 #[.pointer (some ⟨x, 0, none⟩)] w fun e w' => e = .returned (.bool st.d.dead) ∧ w' = w := sesLost_any h.ses
theorem reopen {G S : Nat} (hw : Wd G w) (h : Bare B O w x st) (hG : G ≤ B) (hB : B ≤ w.heap.size) (mask after : Int) (hm1 : -9223372036854775808 ≤ mask) (hm2 : mask ≤ 9223372036854775807) (ha : after ≤ 9223372036854775807)
    (hlate : st.d.late.length < 900000) (hS : 16 ≤ st.d.seen.length) (hl : V10.Live S (st.reopen mask after)) :
    Calls Tryz.prog 30 #[.pointer (some ⟨x, 0, none⟩), .int .i64 mask, .int .i64 after] w fun e w' => e = .returned (faultV Sp.okF) ∧ Chg O w w' ∧ Bare B (fun k => O k ∨ w.heap.size ≤ k ∧ k < w'.heap.size) w' x (st.reopen mask after) := by
  refine (sesReopen_any hw.glob (fun k hk => Nat.le_trans hG (h.low k hk).1) h.ses mask after hm1 hm2 ha (by omega) hS hl.ok (by have := V14.live_few hl; omega)).mono ?_
  rintro e w' ⟨rfl, hc, hs⟩
  exact ⟨rfl, hc, grown hc.size hB h.low hs⟩
end Bare
/-- Texts that lie in blocks of their own. -/
def StrsIn (B C : Nat) (w : World) (v : Value) (l : List Sp.Str) : Prop := SlOn (fun k => B ≤ k ∧ k < C) w 1 v (l.map fun s => [sv s])
namespace StrsIn
variable {B C : Nat} {M : Nat → Prop} {w w' : World} {v : Value} {l : List Sp.Str}
theorem of_from (h : StrsFrom B w v l) (hC : w.heap.size ≤ C) : StrsIn B C w v l := SlOn.mono h fun k hk => ⟨hk.1, by have := hk.2; omega⟩
theorem below (h : StrsIn B C w v l) (hb : Below w.heap.size w w') (hC : C ≤ w.heap.size) : StrsIn B C w' v l := SlOn.keep h fun k hk => hb.block k (by have := hk.2; omega)
theorem chg (h : StrsIn B C w v l) (hc : Chg M w w') (hC : C ≤ w.heap.size) (hm : ∀ k, M k → k < B ∨ C ≤ k) : StrsIn B C w' v l := SlOn.keep h fun k hk => hc.block k (by have := hk.2; omega) fun hx => by
  have := hm k hx
  have := hk.1
  have := hk.2
  omega
theorem at_ (h : StrsIn B C w v l) (hC : C ≤ w.heap.size) : StrsAt w v l := SlOn.mono h fun k hk => by have := hk.2; omega
end StrsIn
end Go.Proofs.YtfphcecjhdkcoaaGreatDoor
/-
Plain: one number divided by another as floats: between nought and one.
-/
namespace Go.Proofs.YtfphcecjhdkcoaaGreatDoor
namespace V16
open Ieee
theorem read_rung (A : Nat) (k : Nat) (h1 : 4503599627370496 ≤ A) (h2 : A < 9007199254740992) (hk : k ≤ 2045) : double.read (k * 4503599627370496 + A) = .number false A (-1074 + (k : Int)) := by
  have e1 : double.signWeight = 9223372036854775808 := by decide +kernel
  have e2 : double.binade = 4503599627370496 := by decide +kernel
  have e3 : double.infRung = 9218868437227405312 := by decide +kernel
  have e4 : double.leastPlace = -1074 := by decide +kernel
  unfold Format.read
  simp only [e1, e2, e3, e4]
  have q1 : (k * 4503599627370496 + A) / 9223372036854775808 = 0 := by omega
  have q2 : (k * 4503599627370496 + A) % 9223372036854775808 = k * 4503599627370496 + A := by omega
  have q3 : (k * 4503599627370496 + A) % 4503599627370496 = A - 4503599627370496 := by omega
  have q4 : (k * 4503599627370496 + A) / 4503599627370496 = k + 1 := by omega
  rw [q1, q2, q3, q4, if_neg (by omega), if_pos (by omega)]
  have e5 : 4503599627370496 + (A - 4503599627370496) = A := by omega
  have e6 : (-1074 : Int) + ((k + 1 - 1 : Nat) : Int) = -1074 + (k : Int) := by omega
  rw [e5, e6]
  rfl
theorem cut_zero (x : Nat) : Toward.even.cut false x 0 = x := by
  unfold Toward.cut
  have : (1 <<< min 0 (x.log2 + 2)) = 1 := by rw [Nat.zero_min]; rfl
  simp only [this, Nat.div_one, Nat.mod_one]
  rfl
theorem log2_bounds {n : Nat} (h : n ≠ 0) : 2 ^ n.log2 ≤ n ∧ n < 2 ^ (n.log2 + 1) := ⟨Nat.log2_self_le h, Nat.lt_log2_self⟩
theorem log2_eq {n k : Nat} (h1 : 2 ^ k ≤ n) (h2 : n < 2 ^ (k + 1)) : n.log2 = k := by
  have h0 : n ≠ 0 := by have := Nat.two_pow_pos k; omega
  have a := (Nat.le_log2 h0).2 h1
  have b := (Nat.log2_lt h0).2 h2
  omega
/-- A small number is a float. -/
theorem small (n : Nat) (h0 : n ≠ 0) (h : n < 8192) : ∃ A l, n.log2 = l ∧ l ≤ 12 ∧ A = n * 2 ^ (52 - l) ∧ 4503599627370496 ≤ A ∧ A < 9007199254740992 ∧ double.read (double.nearest false n 0) = .number false A ((l : Int) - 52) := by
  obtain ⟨b1, b2⟩ := log2_bounds h0
  have hl : n.log2 ≤ 12 := by
    have := (Nat.log2_lt h0).2 (show n < 2 ^ 13 from h)
    omega
  generalize hle : n.log2 = l at b1 b2 hl
  have hp : (2 : Nat) ^ 52 = 2 ^ l * 2 ^ (52 - l) := by rw [← Nat.pow_add]; congr 1; omega
  have hpos := Nat.two_pow_pos (52 - l)
  have hA1 : 4503599627370496 ≤ n * 2 ^ (52 - l) := by
    have h4 : 2 ^ l * 2 ^ (52 - l) ≤ n * 2 ^ (52 - l) := Nat.mul_le_mul_right _ b1
    rw [← hp] at h4; exact h4
  have hA2 : n * 2 ^ (52 - l) < 9007199254740992 := by
    have h4 : n * 2 ^ (52 - l) < 2 ^ (l + 1) * 2 ^ (52 - l) := (Nat.mul_lt_mul_right hpos).2 b2
    rw [Nat.pow_succ, Nat.mul_assoc, Nat.mul_comm 2, ← Nat.mul_assoc, ← hp] at h4; exact h4
  refine ⟨_, l, rfl, hl, rfl, hA1, hA2, ?_⟩
  have e2 : double.binade = 4503599627370496 := by decide +kernel
  have e3 : double.infRung = 9218868437227405312 := by decide +kernel
  have e4 : double.leastPlace = -1074 := by decide +kernel
  have e5 : double.fractionBits = 52 := rfl
  unfold Format.nearest
  rw [if_neg h0]
  simp only [e2, e3, e4, e5, hle]
  have m1 : max ((0 : Int) + (l : Nat) - (52 : Nat)) (-1074) = (l : Int) - 52 := by omega
  rw [m1]
  have m2 : ((0 : Int) - ((l : Int) - 52)).toNat = 52 - l := by omega
  have m3 : (((l : Int) - 52) - 0).toNat = 0 := by omega
  have m4 : (((l : Int) - 52) - (-1074)).toNat = 1022 + l := by omega
  rw [m2, m3, m4, cut_zero, Nat.shiftLeft_eq]
  unfold Format.word
  rw [if_neg (by decide), Nat.min_eq_left (by omega), read_rung _ _ hA1 hA2 (by omega)]
  congr 1
  omega
/-- A number of 54 or 55 digits behind the first, at most one in all, as a float. -/
theorem nearest_le (q : Nat) (p : Int) (hp1 : -70 ≤ p) (L : Nat) (hL : L = 54 ∨ L = 55) (h1 : 2 ^ L ≤ q) (h2 : q < 2 ^ (L + 1)) (hv : p + L ≤ -1 ∨ (q = 2 ^ L ∧ p + L = 0)) :
    ∃ M t, double.read (double.nearest false q p) = .number false M t ∧ M < 9007199254740992 ∧ (t ≤ -53 ∨ (t = -52 ∧ M = 4503599627370496)) := by
  have h0 : q ≠ 0 := by have := Nat.two_pow_pos L; omega
  have hlog := log2_eq h1 h2
  have e2 : double.binade = 4503599627370496 := by decide +kernel
  have e3 : double.infRung = 9218868437227405312 := by decide +kernel
  have e4 : double.leastPlace = -1074 := by decide +kernel
  have e5 : double.fractionBits = 52 := rfl
  unfold Format.nearest
  rw [if_neg h0]
  simp only [e2, e3, e4, e5, hlog]
  have m1 : max (p + (L : Nat) - (52 : Nat)) (-1074) = p + L - 52 := by omega
  rw [m1]
  have m2 : (p - (p + (L : Int) - 52)).toNat = 0 := by omega
  have m3 : ((p + (L : Int) - 52) - p).toNat = L - 52 := by omega
  rw [m2, m3, Nat.shiftLeft_zero]
  obtain ⟨k, hk⟩ : ∃ k : Nat, (k : Int) = p + L - 52 + 1074 := ⟨(p + L - 52 + 1074).toNat, by omega⟩
  have m4 : ((p + (L : Int) - 52) - (-1074)).toNat = k := by omega
  rw [m4]
  obtain ⟨kept, hkept⟩ : ∃ kept, kept = Toward.even.cut false q (L - 52) := ⟨_, rfl⟩
  have hb : 4503599627370496 ≤ kept ∧ kept ≤ 9007199254740992 ∧ (q = 2 ^ L → kept = 4503599627370496) := by
    rw [hkept]
    unfold Toward.cut
    simp only [hlog]
    rcases hL with rfl | rfl
    · have g : (1 <<< min (54 - 52) (54 + 2) : Nat) = 4 := by decide
      rw [g]
      generalize hmo : (decide (4 < 2 * (q % 4)) || (4 == 2 * (q % 4) && q / 4 % 2 == 1)) = mo
      have hm : mo.toNat ≤ 1 := by cases mo <;> decide
      have hm2 : q % 4 = 0 → mo.toNat = 0 := fun e => by rw [← hmo, e]; rfl
      have p1 : (2 : Nat) ^ 54 = 18014398509481984 := by decide
      have p2 : (2 : Nat) ^ (54 + 1) = 36028797018963968 := by decide
      rw [p1] at h1; rw [p2] at h2; rw [p1]
      refine ⟨by omega, by omega, fun e => ?_⟩
      have := hm2 (by omega)
      omega
    · have g : (1 <<< min (55 - 52) (55 + 2) : Nat) = 8 := by decide
      rw [g]
      generalize hmo : (decide (8 < 2 * (q % 8)) || (8 == 2 * (q % 8) && q / 8 % 2 == 1)) = mo
      have hm : mo.toNat ≤ 1 := by cases mo <;> decide
      have hm2 : q % 8 = 0 → mo.toNat = 0 := fun e => by rw [← hmo, e]; rfl
      have p1 : (2 : Nat) ^ 55 = 36028797018963968 := by decide
      have p2 : (2 : Nat) ^ (55 + 1) = 72057594037927936 := by decide
      rw [p1] at h1; rw [p2] at h2; rw [p1]
      refine ⟨by omega, by omega, fun e => ?_⟩
      have := hm2 (by omega)
      omega
  rw [← hkept]
  clear hkept
  obtain ⟨b1, b2, b3⟩ := hb
  unfold Format.word
  rw [if_neg (by decide), Nat.min_eq_left (by omega)]
  by_cases hlt : kept < 9007199254740992
  · rw [read_rung _ _ b1 hlt (by omega)]
    refine ⟨kept, _, rfl, hlt, ?_⟩
    rcases hv with hv | ⟨hq, hv⟩
    · left; omega
    · right; exact ⟨by omega, b3 hq⟩
  · have e : k * 4503599627370496 + kept = (k + 1) * 4503599627370496 + 4503599627370496 := by omega
    rw [e, read_rung _ _ (Nat.le_refl _) (by decide) (by omega)]
    refine ⟨4503599627370496, _, rfl, by decide, ?_⟩
    rcases hv with hv | ⟨hq, hv⟩
    · by_cases h5 : (-1074 + ((k + 1 : Nat) : Int)) ≤ -53
      · exact .inl h5
      · right; exact ⟨by omega, rfl⟩
    · have := b3 hq; omega
/-- What the quotient of two small numbers comes to. -/
structure Unit (b : Nat) : Prop where
  self : double.order b b = some .eq
  one : double.order b 4607182418800017408 ≠ some .gt
  zero : double.order b 0 ≠ some .lt
theorem unit_of {b M : Nat} {t : Int} (h : double.read b = .number false M t) (hM : M < 9007199254740992) (ht : t ≤ -53 ∨ (t = -52 ∧ M = 4503599627370496)) : Unit b := by
  have r1 : double.read 4607182418800017408 = .number false 4503599627370496 (-52) := by decide +kernel
  have r0 : double.read 0 = .number false 0 (-1074) := by decide +kernel
  refine ⟨?_, ?_, ?_⟩
  · unfold Format.order
    rw [h]
    show some (compare _ _) = _
    rw [Int.compare_eq_eq.2 rfl]
  · unfold Format.order
    rw [h, r1]
    simp only [Datum.order, signed, Bool.false_eq_true, if_false]
    intro he
    injection he with he
    rw [Int.compare_eq_gt] at he
    rcases ht with ht | ⟨rfl, rfl⟩
    · have e1 : (t - min t (-52)).toNat = 0 := by omega
      obtain ⟨d, hd⟩ : ∃ d : Nat, d = (-52 - min t (-52)).toNat := ⟨_, rfl⟩
      have hd1 : 1 ≤ d := by omega
      rw [e1, ← hd, Nat.shiftLeft_zero, Nat.shiftLeft_eq] at he
      have : 2 ^ 1 ≤ 2 ^ d := Nat.pow_le_pow_right (by decide) hd1
      have h3 : 4503599627370496 * 2 ^ 1 ≤ 4503599627370496 * 2 ^ d := Nat.mul_le_mul_left _ this
      omega
    · simp at he
  · unfold Format.order
    rw [h, r0]
    simp only [Datum.order, signed, Bool.false_eq_true, if_false]
    intro he
    injection he with he
    rw [Int.compare_eq_lt, Nat.zero_shiftLeft] at he
    exact absurd he (Int.not_lt.2 (Int.natCast_nonneg _))
theorem fill (n r : Nat) (h : n ≤ r) (h0 : 0 < r) (h2 : r < 8192) : ∃ b, double.div (double.nearest false n 0) (double.nearest false r 0) = some b ∧ Unit b := by
  obtain ⟨B, lr, hlr, hlr2, hB, B1, B2, hrB⟩ := small r (by omega) h2
  have e5 : double.fractionBits = 52 := rfl
  have logB : B.log2 = 52 := log2_eq (by exact B1) (by exact B2)
  by_cases hn : n = 0
  · subst hn
    have r0 : double.read (double.nearest false 0 0) = .number false 0 (-1074) := by decide +kernel
    unfold Format.div
    rw [r0, hrB]
    simp only [Datum.quotient, if_neg (show ¬ B = 0 by omega), Option.map_some]
    refine ⟨_, rfl, ?_⟩
    have e : (double.write (.number (false ^^ false) (2 * (0 <<< (double.fractionBits + 2 + B.log2 - Nat.log2 0) / B) + (0 <<< (double.fractionBits + 2 + B.log2 - Nat.log2 0) % B != 0).toNat) (-1074 - ((lr : Int) - 52) - ((double.fractionBits + 2 + B.log2 - Nat.log2 0 : Nat) : Int) - 1))) = 0 := by
      rw [Nat.zero_shiftLeft, Nat.zero_div, Nat.zero_mod]
      show double.nearest false 0 _ = 0
      unfold Format.nearest
      rw [if_pos rfl]; decide +kernel
    rw [e]
    exact unit_of (M := 0) (t := -1074) (by decide +kernel) (by decide) (.inl (by decide))
  · obtain ⟨A, ln, hln, hln2, hA, A1, A2, hnA⟩ := small n hn (by omega)
    have logA : A.log2 = 52 := log2_eq (by exact A1) (by exact A2)
    have hle : ln ≤ lr := by
      rw [← hln, ← hlr]
      exact (Nat.le_log2 (by omega)).2 (Nat.le_trans (Nat.log2_self_le hn) h)
    unfold Format.div
    rw [hnA, hrB]
    simp only [Datum.quotient, if_neg (show ¬ B = 0 by omega), Option.map_some, e5, logA, logB]
    refine ⟨_, rfl, ?_⟩
    have sh : A <<< (52 + 2 + 52 - 52) = A * 18014398509481984 := by rw [Nat.shiftLeft_eq]
    rw [sh]
    obtain ⟨Q, hQ⟩ : ∃ Q, Q = A * 18014398509481984 / B := ⟨_, rfl⟩
    obtain ⟨R, hR⟩ : ∃ R, R = A * 18014398509481984 % B := ⟨_, rfl⟩
    have hdm := Nat.div_add_mod (A * 18014398509481984) B
    have hlt := Nat.mod_lt (A * 18014398509481984) (show 0 < B by omega)
    rw [← hQ, ← hR] at hdm ⊢
    rw [← hR] at hlt
    obtain ⟨s, hs⟩ : ∃ s, s = (R != 0).toNat := ⟨_, rfl⟩
    have hs1 : s ≤ 1 := by rw [hs]; cases (R != 0) <;> decide
    have hs0 : R = 0 → s = 0 := fun e => by rw [hs, e]; rfl
    rw [← hs]
    have Q1 : 9007199254740992 ≤ Q := by
      rw [hQ, Nat.le_div_iff_mul_le (by omega)]; omega
    have key : (ln < lr ∧ Q < 36028797018963968) ∨ (ln = lr ∧ (Q < 18014398509481984 ∨ (Q = 18014398509481984 ∧ R = 0))) := by
      rcases Nat.lt_or_ge ln lr with hlt2 | hge
      · left
        refine ⟨hlt2, ?_⟩
        rw [hQ, Nat.div_lt_iff_lt_mul (by omega)]; omega
      · obtain rfl : ln = lr := by omega
        right
        refine ⟨rfl, ?_⟩
        have hAB : A ≤ B := by rw [hA, hB]; exact Nat.mul_le_mul_right _ h
        rcases Nat.lt_or_ge A B with h3 | h3
        · left
          rw [hQ, Nat.div_lt_iff_lt_mul (by omega)]; omega
        · obtain rfl : A = B := by omega
          right
          refine ⟨by rw [hQ, Nat.mul_div_cancel_left _ (by omega)], by rw [hR, Nat.mul_mod_right]⟩
    show Unit (double.nearest false (2 * Q + s) ((ln : Int) - 52 - ((lr : Int) - 52) - ((52 + 2 + 52 - 52 : Nat) : Int) - 1))
    have hp : ((ln : Int) - 52 - ((lr : Int) - 52) - ((52 + 2 + 52 - 52 : Nat) : Int) - 1) = (ln : Int) - lr - 55 := by omega
    rw [hp]
    rcases Nat.lt_or_ge Q 18014398509481984 with hq | hq
    · obtain ⟨M, t, hr, hM, ht⟩ := nearest_le (2 * Q + s) ((ln : Int) - lr - 55) (by omega) 54 (.inl rfl) (by show 18014398509481984 ≤ _; omega) (by show _ < 36028797018963968; omega) (.inl (by omega))
      exact unit_of hr hM ht
    · obtain ⟨M, t, hr, hM, ht⟩ := nearest_le (2 * Q + s) ((ln : Int) - lr - 55) (by omega) 55 (.inr rfl) (by show 36028797018963968 ≤ _; omega) (by
        show _ < 72057594037927936
        rcases key with ⟨_, k2⟩ | ⟨_, k2⟩
        · omega
        · rcases k2 with k2 | ⟨k2, k3⟩
          · omega
          · have := hs0 k3; omega) (by
        rcases key with ⟨k1, k2⟩ | ⟨k1, k2⟩
        · left; omega
        · right
          rcases k2 with k2 | ⟨k2, k3⟩
          · omega
          · have := hs0 k3
            exact ⟨by show _ = 36028797018963968; omega, by omega⟩)
      exact unit_of hr hM ht
end V16
end Go.Proofs.YtfphcecjhdkcoaaGreatDoor
/-
Walks of a session's Owner and Fill.
-/
namespace Go.Proofs.YtfphcecjhdkcoaaGreatDoor
open Go.RowKit Go.Maps
theorem zero9 (w : World) : (zeroValue 9).run Tryz.prog w = .ok (.string ⟨#[]⟩) w := by kernel_rfl
namespace KW
theorem own_has {L : List Sp.Pk} (h : Sp.Ok L) (x : Sp.Str) : hasKV (ownKV L) x = !(Sp.owner L x).isEmpty ∧ getKV (ownKV L) x (sv []) = sv (Sp.owner L x) := by
  by_cases hx : ∃ p ∈ L, x ∈ p.files.map (·.path)
  · obtain ⟨p, hp, hx⟩ := hx
    have ho := V15.owner_of h hp hx
    obtain ⟨f, hf0, rfl⟩ := List.mem_map.1 hx
    have hm : (f.path, sv p.name) ∈ ownKV L := List.mem_flatMap.2 ⟨p, hp, List.mem_map.2 ⟨f, hf0, rfl⟩⟩
    have ha : (ownKV L).Pairwise fun p q => p.1 ≠ q.1 := by
      have hn := V9.paths_nodup h
      rw [← ST.own_keys] at hn
      exact (List.pairwise_map.1 hn)
    have hne := V1.name_ne (h.set.good p hp).wf.name
    refine ⟨?_, ?_⟩
    · rw [ho, MP.has_iff.2 ⟨_, hm, rfl⟩]
      cases hn : p.name with
      | nil => exact absurd hn hne
      | cons a r => rfl
    · rw [ho]; exact MP.get_mem ha hm _
  · have hx' : ∀ p ∈ L, x ∉ p.files.map (·.path) := fun p hp hm => hx ⟨p, hp, hm⟩
    have ho := V15.owner_none hx'
    have hh : hasKV (ownKV L) x = false := by
      rw [← Bool.not_eq_true, MP.has_iff]
      rintro ⟨q, hq, he⟩
      obtain ⟨p, hp, hf⟩ := List.mem_flatMap.1 hq
      obtain ⟨f, hf2, rfl⟩ := List.mem_map.1 hf
      exact hx' p hp (List.mem_map.2 ⟨f, hf2, he⟩)
    rw [ho, hh]
    exact ⟨rfl, MP.get_none hh _⟩
end KW
set_option maxHeartbeats 1000000 in
theorem storeOwner_any {w : World} {s D last ob : Nat} {mv : Value} {kv : KV} (hs : StBlk w s D last mv (.map (some ob))) (hm : MapAt w ob kv) (x : Sp.Str) (hx : x.length ≤ 4611686018427387904) :
    Calls Tryz.prog 83 #[.pointer (some ⟨s, 0, none⟩), .string ⟨x.toArray⟩] w fun e w' => e = .returned (.tuple #[getKV kv x (sv []), .bool (hasKV kv x)]) ∧ w' = w := by
  obtain ⟨_, _, _, c3, _⟩ := hs.cells
  have hlt := hs.lt
  have hlk := hm.look_ok Tryz.underlying148 zero9 x (by unfold maxLen; omega)
  obtain ⟨v, hv⟩ : ∃ v, v = getKV kv x (sv []) := ⟨_, rfl⟩
  obtain ⟨b, hb⟩ : ∃ b, b = hasKV kv x := ⟨_, rfl⟩
  rw [show getKV kv x (Value.string ⟨#[]⟩) = v from hv.symm, ← hb] at hlk
  rw [← hv, ← hb]
  clear hs hm hv hb
  go_enter Tryz.func83, Tryz.ntmps83
  go_wp2
  go_ret2
  exact ⟨rfl, rfl⟩
set_option maxHeartbeats 1000000 in
theorem sesOwner_any {O : Nat → Prop} {w : World} {x : Nat} {st : Sp.St} (h : Ses O w x st) (hok : Sp.Ok st.L) (p : Sp.Str) (hp : p.length ≤ 4611686018427387904) :
    Calls Tryz.prog 56 #[.pointer (some ⟨x, 0, none⟩), .string ⟨p.toArray⟩] w fun e w' => e = .returned (.tuple #[sv (Sp.owner st.L p), .bool (!(Sp.owner st.L p).isEmpty)]) ∧ w' = w := by
  obtain ⟨D, s, O1, h1, ⟨mb, ob, OD, S, L, s1, s2, s3, s4, s5, s6, s7, s8⟩, h3, h4⟩ := h
  obtain ⟨_, c1⟩ := Ses.cells h1
  obtain ⟨o1, o2⟩ := KW.own_has hok p
  rw [← s5] at o1 o2
  have how := storeOwner_any s1 s4 p hp
  rw [o1, o2, s5] at how
  have hxl := (Array.getElem?_eq_some_iff.1 h1).1
  have HOW := Lib.hid how
  clear h1 s1 s2 s3 s4 s5 s6 s7 s8 h3 h4 o1 o2 how
  obtain ⟨o, ho⟩ : ∃ o, o = Sp.owner st.L p := ⟨_, rfl⟩
  rw [← ho] at HOW ⊢
  clear ho
  go_enter Tryz.func56, Tryz.ntmps56
  go_wp2_with fail
  refine HOW.out.mono ?_
  rintro e w1 ⟨rfl, rfl⟩
  unfold sv
  go_wp2
  go_ret2
  exact ⟨rfl, rfl⟩
/-- How full the disk is, as a float's bits. -/
def fillB (n r : Nat) : Nat := (Ieee.double.div (Ieee.double.nearest false n 0) (Ieee.double.nearest false r 0)).getD 0
namespace KW
theorem fill_unit (n r : Nat) (h : n ≤ r) (h0 : 0 < r) (h2 : r < 8192) : V16.Unit (fillB n r) := by
  obtain ⟨b, h1, h3⟩ := V16.fill n r h h0 h2
  unfold fillB; rw [h1]; exact h3
theorem float_of (n : Nat) : floatOfInt .f64 (n : Int) = Ieee.double.nearest false n 0 := by
  show Ieee.double.write (.number (decide ((n : Int) < 0)) (n : Int).natAbs 0) = _
  rw [decide_eq_false (by omega)]; rfl
theorem run_fill (n r : Nat) (h : n ≤ r) (h0 : 0 < r) (h2 : r < 8192) (w : World) :
    (binOp .quo 57 (.float .f64 (floatOfInt .f64 (n : Int))) (.float .f64 (floatOfInt .f64 (r : Int)))).run Tryz.prog w = .ok (.float .f64 (fillB n r)) w := by
  obtain ⟨b, h1, h3⟩ := V16.fill n r h h0 h2
  refine run_float_arith w .quo 57 .f64 _ _ _ ?_
  show Ieee.double.div _ _ = _
  rw [float_of, float_of]
  unfold fillB; rw [h1]; rfl
end KW
end Go.Proofs.YtfphcecjhdkcoaaGreatDoor
/-
The walks of a store's and a session's Fill.
-/
namespace Go.Proofs.YtfphcecjhdkcoaaGreatDoor
open Go.RowKit Go.Maps
set_option maxRecDepth 100000 in
set_option maxHeartbeats 1000000 in
theorem sesFill_any {O : Nat → Prop} {w : World} {x S : Nat} {st : Sp.St} (h : Ses O w x st) (hl : V10.Live S st) :
    Calls Tryz.prog 33 #[.pointer (some ⟨x, 0, none⟩)] w fun e w' => e = .returned (.float .f64 (fillB (Sp.size st.L) (Sp.room S))) ∧ Below w.heap.size w w' := by
  obtain ⟨D, s, O1, h1, ⟨mb, ob, OD, S1, L, s1, s2, s3, s4, s5, s6, s7, s8⟩, h3, h4⟩ := h
  obtain ⟨_, c1⟩ := Ses.cells h1
  obtain ⟨_, _, c2, _, _⟩ := s1.cells
  have hxl := (Array.getElem?_eq_some_iff.1 h1).1
  have hsl := s1.lt
  have hbig := hl.big
  have hroom := hl.room
  have hseen := hl.seen
  have hrn : Sp.room S = 24 * (S - 8) := rfl
  have hset : SetOn (fun b => b < w.heap.size) w mb L := s3.mono fun b hb => (s8 b (.inl hb)).1
  have hsz := size_any mb L w hset (by rw [s5]; omega)
  rw [s5] at hsz
  have hq := fun w => KW.run_fill (Sp.size st.L) (Sp.room S) hroom (by omega) (by omega) w
  have hcv : ∀ (n : Int) (w : World), (convert 3 57 (.int .i64 n)).run Tryz.prog w = .ok (.float .f64 (floatOfInt .f64 n)) w := fun n w => run_convert_int_float w 3 57 .i64 .f64 n (by rw [Tryz.underlying3]; rfl) (by kernel_rfl)
  have S1' := Lib.hid s1
  have S2' := Lib.hid s2
  have HSZ := Lib.hid hsz
  have hrv : ∀ (w' : World), StBlk w' s D st.last (.map (some mb)) (.map (some ob)) → DkE OD w' D st.d → Calls Tryz.prog 82 #[.pointer (some ⟨s, 0, none⟩)] w' fun e w'' => e = .returned (.int .i64 ((Sp.room S : Nat) : Int)) ∧ w'' = w' := fun w' a b => by
    have := room_any a b
    rw [hseen, show (24 * ((S : Int) - 8)) = ((Sp.room S : Nat) : Int) from by omega] at this
    exact this
  have HRV := Lib.hid hrv
  have HOD := Lib.hid s7
  clear h1 s1 s2 s3 s4 s5 s6 s7 s8 h3 h4 hset hsz hrv hl hroom hseen hrn
  obtain ⟨n, hn⟩ : ∃ n, n = Sp.size st.L := ⟨_, rfl⟩
  obtain ⟨r, hr⟩ : ∃ r, r = Sp.room S := ⟨_, rfl⟩
  rw [← hn, ← hr] at hq ⊢
  rw [← hn] at HSZ
  rw [← hr] at HRV
  clear hn hr
  have hst : Calls Tryz.prog 54 #[.pointer (some ⟨s, 0, none⟩)] w fun e w' => e = .returned (.float .f64 (fillB n r)) ∧ Below w.heap.size w w' := by
    go_enter Tryz.func54, Tryz.ntmps54
    go_wp2_with fail
    refine HSZ.out.mono ?_
    rintro e w1 ⟨rfl, hb1⟩
    have hz1 := hb1.size
    have hr1 := HRV.out w1 (S1'.out.keep (hb1.block s hsl)) (S2'.out.keep (fun k hk hl => hb1.block k hl) hz1)
    have HR1 := Lib.hid hr1
    have HB1 := Lib.hid hb1
    have hsl1 : s < w1.heap.size := by omega
    have c2' := (hb1.cell (p := ⟨s, 2, none⟩) hsl).trans c2
    clear hr1 hb1 hz1
    go_wp2_with fail
    refine HR1.out.mono ?_
    rintro e w2 ⟨rfl, hw2⟩
    have hw2' := hw2.symm
    subst hw2'
    clear hw2
    go_wp2
    go_ret
    exact ⟨rfl, HB1.out⟩
  have HST := Lib.hid hst
  clear hst hq hcv
  go_enter Tryz.func33, Tryz.ntmps33
  go_wp2_with fail
  refine HST.out.mono ?_
  rintro e w1 ⟨rfl, hb1⟩
  have HB1 := Lib.hid hb1
  clear hb1
  go_wp2
  go_ret
  exact ⟨rfl, HB1.out⟩
end Go.Proofs.YtfphcecjhdkcoaaGreatDoor
/-
What the walk of the statement Known carries along: a plain Compare, a table's rows, sessions with faults laid beside.
-/
namespace Go.Proofs.YtfphcecjhdkcoaaGreatDoor
open Go.RowKit Go.Maps
theorem fields23 : Tryz.prog.underlying 23 = some (.struct (Tryz.prog.fieldsOf 23)) := by kernel_rfl
theorem held23 : Tryz.prog.stoodInHeld 23 = false := by kernel_rfl
theorem eq23 (w : World) (k a b : Int) (n : ByteArray) : (binOp .eql 23 (.agg #[.int .i64 k, .int .i64 a, .int .i64 b, .string n]) (.agg #[.int .i64 k, .int .i64 a, .int .i64 b, .string n])).run Tryz.prog w = .ok (.bool true) w := by
  rw [run_eql_struct, run_equalIn_agg _ _ _ _ _ fields23 held23]
  simp [go_sem]
theorem cmp38_any (s t : ByteArray) (w : World) (hs : s.size ≤ 1099511627776) (ht : t.size ≤ 1099511627776) :
    Calls Tryz.prog 38 #[.string s, .string t] w fun e w' => e = .returned (.int .i64 (Sp.cmp (bl s) (bl t))) ∧ Below w.heap.size w w' := by
  go_enter Tryz.func38, Tryz.ntmps38
  go_wp2_with fail
  refine (cmp_any s t w hs ht).mono ?_
  rintro e w' ⟨rfl, hb⟩
  have HB := Lib.hid hb
  clear hb
  go_wp2
  go_ret
  exact ⟨rfl, HB.out⟩
theorem cell_lt {w : World} {b o : Nat} {v : Value} (h : w.cell? ⟨b, o, none⟩ = some v) : b < w.heap.size := by
  obtain ⟨x, hx, _⟩ := cells_of_cell h
  exact (Array.getElem?_eq_some_iff.1 hx).1
/-- A table of two texts and a number, in memory. -/
def Rows3At (l : List V21.Row3) (w : World) (a : Option Addr) : Prop := ∀ k, (hk : k < l.length) → ∃ b off, a = some ⟨b, off, none⟩ ∧ b < w.heap.size ∧
    w.cell? ⟨b, off + k * 3, none⟩ = some (sv l[k].a) ∧ w.cell? ⟨b, off + k * 3 + 1, none⟩ = some (sv l[k].b) ∧ w.cell? ⟨b, off + k * 3 + 2, none⟩ = some (.int .i64 l[k].o)
theorem Rows3At.of {S : Nat → Prop} {w : World} {v : Value} {l : List V21.Row3} {n : Nat} (hn : l.length = n) (h : SlOn S w 3 v (l.map V21.Row3.cells)) : ∃ a cap, v = .slice a n cap ∧ n ≤ cap ∧ Rows3At l w a := by
  obtain ⟨a, cap, hv, hc, h'⟩ := h
  subst hn
  refine ⟨a, cap, by simpa using hv, by simpa using hc, fun k hk => ?_⟩
  obtain ⟨b, off, ha, hb, hx⟩ := h' k (V21.Row3.cells l[k]) (by rw [List.getElem?_map, List.getElem?_eq_getElem hk]; rfl)
  exact ⟨b, off, ha, cell_lt (hx 0 _ rfl), hx 0 _ rfl, hx 1 _ rfl, hx 2 _ rfl⟩
theorem Rows3At.below {l : List V21.Row3} {w w' : World} {a : Option Addr} (h : Rows3At l w a) (hb : Below w.heap.size w w') : Rows3At l w' a := fun k hk => by
  obtain ⟨b, off, ha, hl, x0, x1, x2⟩ := h k hk
  exact ⟨b, off, ha, Nat.lt_of_lt_of_le hl hb.size, (hb.cell (p := ⟨b, off + k * 3, none⟩) hl).trans x0, (hb.cell (p := ⟨b, off + k * 3 + 1, none⟩) hl).trans x1, (hb.cell (p := ⟨b, off + k * 3 + 2, none⟩) hl).trans x2⟩
theorem V21.PlansAt.below {l : List V21.RowP} {w w' : World} {a : Option Addr} (h : V21.PlansAt l w a) (hb : Below w.heap.size w w') : V21.PlansAt l w' a := fun k hk => by
  obtain ⟨b, off, tv, ov, ha, hl, x0, x1, x2, x3, x4, x5, x6, x7⟩ := h k hk
  exact ⟨b, off, tv, ov, ha, Nat.lt_of_lt_of_le hl hb.size, (hb.cell (p := ⟨b, off + k * 6, none⟩) hl).trans x0, (hb.cell (p := ⟨b, off + k * 6 + 1, none⟩) hl).trans x1, (hb.cell (p := ⟨b, off + k * 6 + 2, none⟩) hl).trans x2,
    (hb.cell (p := ⟨b, off + k * 6 + 3, none⟩) hl).trans x3, (hb.cell (p := ⟨b, off + k * 6 + 4, none⟩) hl).trans x4, (hb.cell (p := ⟨b, off + k * 6 + 5, none⟩) hl).trans x5, x6.below hb, x7.below hb⟩
/-- Faults that were laid beside a session. -/
def Fs (O : Nat → Prop) (w : World) (l : List (Nat × Sp.Fault)) : Prop := ∀ p ∈ l, FB w p.1 p.2 ∧ ¬ O p.1
/-- A session whose power never goes, and faults. -/
structure Stg (w0 : World) (B S : Nat) (w : World) (x : Nat) (st : Sp.St) (l : List (Nat × Sp.Fault)) : Prop where
  run : ∃ O, Run B S O w x st ∧ Fs O w l
  low : Below w0.heap.size w0 w
  base : B ≤ w.heap.size
  last : st.last ≤ 1000
namespace Stg
variable {w0 : World} {G B S : Nat} {w w' : World} {x : Nat} {st st' : Sp.St} {l : List (Nat × Sp.Fault)}
theorem below (h : Stg w0 B S w x st l) (hb : Below w.heap.size w w') : Stg w0 B S w' x st l := by
  obtain ⟨⟨O, h1, h2⟩, h3, h4, h5⟩ := h
  exact ⟨⟨O, h1.below hb, fun p hp => ⟨(h2 p hp).1.below hb, (h2 p hp).2⟩⟩, h3.trans (hb.mono h3.size), Nat.le_trans h4 hb.size, h5⟩
/-- A fault more. -/
theorem push (h : Stg w0 B S w x st l) (f : Sp.Fault) : Stg w0 B S (w.alloc (.cells #[.int .i64 (f.kind : Int), .int .i64 (f.which : Int), .int .i64 (f.line : Int), .string ⟨f.name.toArray⟩] 23)) x st ((w.heap.size, f) :: l) := by
  have hb : Below w.heap.size w (w.alloc (.cells #[.int .i64 (f.kind : Int), .int .i64 (f.which : Int), .int .i64 (f.line : Int), .string ⟨f.name.toArray⟩] 23)) := (Below.refl _ _).alloc (Nat.le_refl _) _
  obtain ⟨⟨O, h1, h2⟩, h3, h4, h5⟩ := h
  refine ⟨⟨O, h1.below hb, fun p hp => ?_⟩, h3.trans (hb.mono h3.size), Nat.le_trans h4 hb.size, h5⟩
  rcases List.mem_cons.1 hp with rfl | hp
  · exact ⟨FB.new w f, fun e => by have := (h1.low _ e).2; exact Nat.lt_irrefl _ this⟩
  · exact ⟨(h2 p hp).1.below hb, (h2 p hp).2⟩
theorem chg {O : Nat → Prop} (hG : w0.heap.size ≤ B) (h1 : Run B S O w x st) (h2 : Fs O w l) (h3 : Below w0.heap.size w0 w) (h4 : B ≤ w.heap.size) (hc : Chg O w w') (hr : Run B S (fun k => O k ∨ w.heap.size ≤ k ∧ k < w'.heap.size) w' x st') (hl : st'.last ≤ 1000) : Stg w0 B S w' x st' l := by
  refine ⟨⟨_, hr, fun p hp => ⟨(h2 p hp).1.chg hc (h2 p hp).2, fun e => ?_⟩⟩, h3.trans (hc.below (B := w0.heap.size) h3.size fun k hk => Nat.le_trans hG (h1.low k hk).1), Nat.le_trans h4 hc.size, hl⟩
  rcases e with e | e
  · exact (h2 p hp).2 e
  · have := (h2 p hp).1.lt; omega
theorem install (hw : Wd G w) (h : Stg w0 B S w x st l) (hG : G ≤ B) (hB : w0.heap.size ≤ B) (tv : Value) (ts : List Sp.Str) (htv : StrsAt w tv ts) (hts : ts.length ≤ 9000) (hl : (st.install ts).2.last ≤ 1000) :
    Calls Tryz.prog 25 #[.pointer (some ⟨x, 0, none⟩), tv] w fun e w' => e = .returned (faultV (st.install ts).1) ∧ Stg w0 B S w' x (st.install ts).2 l := by
  obtain ⟨⟨O, h1, h2⟩, h3, h4, h5⟩ := h
  refine (h1.install hw hG h4 (by omega) tv ts htv hts).mono ?_
  rintro e w' ⟨rfl, hc, hr⟩
  exact ⟨rfl, chg hB h1 h2 h3 h4 hc hr hl⟩
theorem remove (hw : Wd G w) (h : Stg w0 B S w x st l) (hG : G ≤ B) (hB : w0.heap.size ≤ B) (tv : Value) (ts : List Sp.Str) (htv : StrsAt w tv ts) (hts : ts.length ≤ 9000) (hnl : ∀ n ∈ ts, n.length ≤ 10000) (hl : (st.remove ts).2.last ≤ 1000) :
    Calls Tryz.prog 32 #[.pointer (some ⟨x, 0, none⟩), tv] w fun e w' => e = .returned (faultV (st.remove ts).1) ∧ Stg w0 B S w' x (st.remove ts).2 l := by
  obtain ⟨⟨O, h1, h2⟩, h3, h4, h5⟩ := h
  refine (h1.remove hw hG h4 (by omega) tv ts htv hts hnl).mono ?_
  rintro e w' ⟨rfl, hc, hr⟩
  exact ⟨rfl, chg hB h1 h2 h3 h4 hc hr hl⟩
end Stg
end Go.Proofs.YtfphcecjhdkcoaaGreatDoor
/-
The walk of the statement Known's story.
-/
namespace Go.Proofs.YtfphcecjhdkcoaaGreatDoor
open Go.RowKit Go.Maps
theorem fill20 : fillB 20 192 = 4592170420042115755 := by kernel_rfl
theorem fill20_eq : (FloatKind.f64.format.order 4592170420042115755 4592170420042115755 == some .eq) = true := by kernel_rfl
theorem room16 : Sp.room 16 = 192 := rfl
set_option maxRecDepth 100000 in
set_option maxHeartbeats 4000000 in
theorem story_any {G : Nat} {w : World} (hw : Wd G w) : Calls Tryz.prog 39 #[] w fun e w' => e = .returned (.bool true) ∧ Below w.heap.size w w' := by
  have hGz := hw.glob.size
  have hs16 : secs 16 = 16 := by decide
  have hnew := Run.new hw 16
  rw [hs16] at hnew
  obtain ⟨hsure, hlast, hL⟩ := V11.new_sure (S := 16) ⟨by decide, by decide⟩
  obtain ⟨x1, x2, x3, e1, s1, L1, l1, e2, e3, s2, l2, e4, e5, e6, s3, L3, l3⟩ := V22.story hsure hlast hL
  obtain ⟨x0, hx0⟩ : ∃ x0, x0 = Sp.St.new 16 := ⟨_, rfl⟩
  rw [← hx0] at hnew hsure hlast hL e1
  have HNEW := Lib.hid hnew
  have HW := Lib.hid (fun (W : World) (hW : Below w.heap.size w W) => hw.keep hW)
  have E1 := Lib.hid e1
  have E2 := Lib.hid e2
  have E3 := Lib.hid e3
  have E4 := Lib.hid e4
  have E5 := Lib.hid e5
  have E6 := Lib.hid e6
  have HL1 := Lib.hid L1
  have HL3 := Lib.hid L3
  have hord := fill20_eq
  clear hnew hw e1 e2 e3 e4 e5 e6 hs16 L1 L3 hx0 s1 s2 s3 hsure hL
  go_enter Tryz.func39, Tryz.ntmps39
  go_wp2_with fail
  refine HNEW.out.mono ?_
  rintro e w1 ⟨x, rfl, hb1, hrun⟩
  have HS0 := Lib.hid (Stg.push (l := []) ⟨⟨_, hrun, fun p hp => by cases hp⟩, hb1, hb1.size, by omega⟩ ⟨0, 0, 0, []⟩)
  clear hb1 hrun
  unfold faultV sv Sp.okF
  go_wp2_with fail
  have HS0' := Lib.hid (HS0.out : Stg w w.heap.size 16 (w1.alloc (.cells #[.int .i64 0, .int .i64 0, .int .i64 0, .string ⟨#[]⟩] 23)) x x0 [(w1.heap.size, ⟨0, 0, 0, []⟩)])
  clear HS0
  have HS0 := HS0'
  clear HS0'
  generalize hg0 : (w1.alloc (.cells #[.int .i64 0, .int .i64 0, .int .i64 0, .string ⟨#[]⟩] 23)) = a0 at *
  have hz0 : a0.heap.size = w1.heap.size + 1 := by rw [← hg0]; simp
  clear hg0
  have hbA : Below a0.heap.size a0 (a0.alloc (.cells #[.string ⟨#[112, 97, 99, 107, 97, 103, 101, 32, 97, 32, 49, 10, 102, 105, 108, 101, 32, 120, 61, 49]⟩] 9)) := (Below.refl _ _).alloc (Nat.le_refl _) _
  have hst : StrsAt (a0.alloc (.cells #[.string ⟨#[112, 97, 99, 107, 97, 103, 101, 32, 97, 32, 49, 10, 102, 105, 108, 101, 32, 120, 61, 49]⟩] 9)) (.slice (some ⟨w1.heap.size + 1, 0, none⟩) 1 1) [V13.one] := by
    have := V21.strs_block (l := [V13.one]) (heap_alloc_new a0 (.cells #[.string ⟨#[112, 97, 99, 107, 97, 103, 101, 32, 97, 32, 49, 10, 102, 105, 108, 101, 32, 120, 61, 49]⟩] 9))
    rw [hz0] at this
    exact this
  have hin := Stg.install (HW.out _ (HS0.out.below hbA).low) (HS0.out.below hbA) hGz (Nat.le_refl _) _ [V13.one] hst (by decide) (by rw [E1.out]; show x1.last ≤ 1000; omega)
  rw [E1.out] at hin
  refine hin.mono ?_
  clear hbA hst hin
  rintro e w2 ⟨rfl, hs⟩
  have HS1 := Lib.hid (hs.push ⟨0, 0, 0, []⟩ : Stg w w.heap.size 16 (w2.alloc (.cells #[.int .i64 0, .int .i64 0, .int .i64 0, .string ⟨#[]⟩] 23)) x x1 ((w2.heap.size, ⟨0, 0, 0, []⟩) :: _))
  have hsz := hs.low.size
  clear hs HS0
  unfold faultV sv Sp.okF
  go_wp2_with fail
  generalize hg1 : (w2.alloc (.cells #[.int .i64 0, .int .i64 0, .int .i64 0, .string ⟨#[]⟩] 23)) = a1 at *
  have hz1 : a1.heap.size = w2.heap.size + 1 := by rw [← hg1]; simp
  clear hg1
  obtain ⟨O, hrun, hfs⟩ := HS1.out.run
  have hfi := sesFill_any hrun.ses hrun.sure.live
  rw [HL1.out, V22.one_size, room16, fill20] at hfi
  refine hfi.mono ?_
  clear hfi hrun hfs
  rintro e wf ⟨rfl, hbf⟩
  have HSf := Lib.hid (HS1.out.below hbf)
  clear hbf HS1
  have HS1 := HSf
  go_wp2_with fail
  obtain ⟨O, hrun, hfs⟩ := HS1.out.run
  have how := sesOwner_any hrun.ses hrun.sure.live.ok [120] (by decide)
  rw [HL1.out, V22.one_owner] at how
  refine how.mono ?_
  clear how hrun hfs
  rintro e wo ⟨rfl, hwo⟩
  have hwo' := hwo.symm
  subst hwo'
  clear hwo
  unfold sv
  go_wp2_with fail

  have hbA : Below wf.heap.size wf (wf.alloc (.cells #[.string ⟨#[112, 97, 99, 107, 97, 103, 101, 32, 98, 32, 49, 10, 102, 105, 108, 101, 32, 120, 47, 121, 61, 49]⟩] 9)) := (Below.refl _ _).alloc (Nat.le_refl _) _
  have hst : StrsAt (wf.alloc (.cells #[.string ⟨#[112, 97, 99, 107, 97, 103, 101, 32, 98, 32, 49, 10, 102, 105, 108, 101, 32, 120, 47, 121, 61, 49]⟩] 9)) (.slice (some ⟨wf.heap.size, 0, none⟩) 1 1) [V22.bT] := by
    have := V21.strs_block (l := [V22.bT]) (heap_alloc_new wf (.cells #[.string ⟨#[112, 97, 99, 107, 97, 103, 101, 32, 98, 32, 49, 10, 102, 105, 108, 101, 32, 120, 47, 121, 61, 49]⟩] 9))
    skip
    exact this
  have hin := Stg.install (HW.out _ (HS1.out.below hbA).low) (HS1.out.below hbA) hGz (Nat.le_refl _) _ [V22.bT] hst (by decide) (by rw [E2.out]; show x1.last ≤ 1000; omega)
  rw [E2.out] at hin
  refine hin.mono ?_
  clear hbA hst hin
  rintro e w3 ⟨rfl, hs⟩
  have HS2 := Lib.hid (hs.push ⟨6, 0, 0, [120]⟩ : Stg w w.heap.size 16 (w3.alloc (.cells #[.int .i64 6, .int .i64 0, .int .i64 0, .string ⟨#[120]⟩] 23)) x x1 ((w3.heap.size, ⟨6, 0, 0, [120]⟩) :: _))
  have hsz := hs.low.size
  clear hs HS1
  unfold faultV sv
  go_wp2_with fail
  generalize hg2 : (w3.alloc (.cells #[.int .i64 6, .int .i64 0, .int .i64 0, .string ⟨#[120]⟩] 23)) = a2 at *
  have hz2 : a2.heap.size = w3.heap.size + 1 := by rw [← hg2]; simp
  clear hg2
  have hbA : Below a2.heap.size a2 (a2.alloc (.cells #[.string ⟨#[112, 97, 99, 107, 97, 103, 101, 32, 99, 32, 49, 10, 110, 101, 101, 100, 115, 32, 97]⟩] 9)) := (Below.refl _ _).alloc (Nat.le_refl _) _
  have hst : StrsAt (a2.alloc (.cells #[.string ⟨#[112, 97, 99, 107, 97, 103, 101, 32, 99, 32, 49, 10, 110, 101, 101, 100, 115, 32, 97]⟩] 9)) (.slice (some ⟨w3.heap.size + 1, 0, none⟩) 1 1) [V22.cT] := by
    have := V21.strs_block (l := [V22.cT]) (heap_alloc_new a2 (.cells #[.string ⟨#[112, 97, 99, 107, 97, 103, 101, 32, 99, 32, 49, 10, 110, 101, 101, 100, 115, 32, 97]⟩] 9))
    rw [hz2] at this
    exact this
  have hin := Stg.install (HW.out _ (HS2.out.below hbA).low) (HS2.out.below hbA) hGz (Nat.le_refl _) _ [V22.cT] hst (by decide) (by rw [E3.out]; show x2.last ≤ 1000; omega)
  rw [E3.out] at hin
  refine hin.mono ?_
  clear hbA hst hin
  rintro e w4 ⟨rfl, hs⟩
  have HS3 := Lib.hid (hs.push ⟨0, 0, 0, []⟩ : Stg w w.heap.size 16 (w4.alloc (.cells #[.int .i64 0, .int .i64 0, .int .i64 0, .string ⟨#[]⟩] 23)) x x2 ((w4.heap.size, ⟨0, 0, 0, []⟩) :: _))
  have hsz := hs.low.size
  clear hs HS2
  unfold faultV sv Sp.okF
  go_wp2_with fail
  generalize hg3 : (w4.alloc (.cells #[.int .i64 0, .int .i64 0, .int .i64 0, .string ⟨#[]⟩] 23)) = a3 at *
  have hz3 : a3.heap.size = w4.heap.size + 1 := by rw [← hg3]; simp
  clear hg3
  have hbA : Below a3.heap.size a3 (a3.alloc (.cells #[.string ⟨#[97]⟩] 9)) := (Below.refl _ _).alloc (Nat.le_refl _) _
  have hst : StrsAt (a3.alloc (.cells #[.string ⟨#[97]⟩] 9)) (.slice (some ⟨w4.heap.size + 1, 0, none⟩) 1 1) [[97]] := by
    have := V21.strs_block (l := [[97]]) (heap_alloc_new a3 (.cells #[.string ⟨#[97]⟩] 9))
    rw [hz3] at this
    exact this
  have hin := Stg.remove (HW.out _ (HS3.out.below hbA).low) (HS3.out.below hbA) hGz (Nat.le_refl _) _ [[97]] hst (by decide) (by decide) (by rw [E4.out]; show x2.last ≤ 1000; omega)
  rw [E4.out] at hin
  refine hin.mono ?_
  clear hbA hst hin
  rintro e w5 ⟨rfl, hs⟩
  have HS4 := Lib.hid (hs.push ⟨4, 0, 0, [99]⟩ : Stg w w.heap.size 16 (w5.alloc (.cells #[.int .i64 4, .int .i64 0, .int .i64 0, .string ⟨#[99]⟩] 23)) x x2 ((w5.heap.size, ⟨4, 0, 0, [99]⟩) :: _))
  have hsz := hs.low.size
  clear hs HS3
  unfold faultV sv
  go_wp2_with fail
  generalize hg4 : (w5.alloc (.cells #[.int .i64 4, .int .i64 0, .int .i64 0, .string ⟨#[99]⟩] 23)) = a4 at *
  have hz4 : a4.heap.size = w5.heap.size + 1 := by rw [← hg4]; simp
  clear hg4
  have hbA : Below a4.heap.size a4 (a4.alloc (.cells #[.string ⟨#[99]⟩, .string ⟨#[99]⟩] 9)) := (Below.refl _ _).alloc (Nat.le_refl _) _
  have hst : StrsAt (a4.alloc (.cells #[.string ⟨#[99]⟩, .string ⟨#[99]⟩] 9)) (.slice (some ⟨w5.heap.size + 1, 0, none⟩) 2 2) [[99], [99]] := by
    have := V21.strs_block (l := [[99], [99]]) (heap_alloc_new a4 (.cells #[.string ⟨#[99]⟩, .string ⟨#[99]⟩] 9))
    rw [hz4] at this
    exact this
  have hin := Stg.remove (HW.out _ (HS4.out.below hbA).low) (HS4.out.below hbA) hGz (Nat.le_refl _) _ [[99], [99]] hst (by decide) (by decide) (by rw [E5.out]; show x2.last ≤ 1000; omega)
  rw [E5.out] at hin
  refine hin.mono ?_
  clear hbA hst hin
  rintro e w6 ⟨rfl, hs⟩
  have HS5 := Lib.hid (hs.push ⟨3, 1, 0, [99]⟩ : Stg w w.heap.size 16 (w6.alloc (.cells #[.int .i64 3, .int .i64 1, .int .i64 0, .string ⟨#[99]⟩] 23)) x x2 ((w6.heap.size, ⟨3, 1, 0, [99]⟩) :: _))
  have hsz := hs.low.size
  clear hs HS4
  unfold faultV sv
  go_wp2_with fail
  generalize hg5 : (w6.alloc (.cells #[.int .i64 3, .int .i64 1, .int .i64 0, .string ⟨#[99]⟩] 23)) = a5 at *
  have hz5 : a5.heap.size = w6.heap.size + 1 := by rw [← hg5]; simp
  clear hg5
  have hbA : Below a5.heap.size a5 (a5.alloc (.cells #[.string ⟨#[99]⟩, .string ⟨#[97]⟩] 9)) := (Below.refl _ _).alloc (Nat.le_refl _) _
  have hst : StrsAt (a5.alloc (.cells #[.string ⟨#[99]⟩, .string ⟨#[97]⟩] 9)) (.slice (some ⟨w6.heap.size + 1, 0, none⟩) 2 2) [[99], [97]] := by
    have := V21.strs_block (l := [[99], [97]]) (heap_alloc_new a5 (.cells #[.string ⟨#[99]⟩, .string ⟨#[97]⟩] 9))
    rw [hz5] at this
    exact this
  have hin := Stg.remove (HW.out _ (HS5.out.below hbA).low) (HS5.out.below hbA) hGz (Nat.le_refl _) _ [[99], [97]] hst (by decide) (by decide) (by rw [E6.out]; show x3.last ≤ 1000; omega)
  rw [E6.out] at hin
  refine hin.mono ?_
  clear hbA hst hin
  rintro e w7 ⟨rfl, hs⟩
  have HS6 := Lib.hid (hs.push ⟨0, 0, 0, []⟩ : Stg w w.heap.size 16 (w7.alloc (.cells #[.int .i64 0, .int .i64 0, .int .i64 0, .string ⟨#[]⟩] 23)) x x3 ((w7.heap.size, ⟨0, 0, 0, []⟩) :: _))
  have hsz := hs.low.size
  clear hs HS5
  unfold faultV sv Sp.okF
  go_wp2_with fail
  generalize hg6 : (w7.alloc (.cells #[.int .i64 0, .int .i64 0, .int .i64 0, .string ⟨#[]⟩] 23)) = a6 at *
  have hz6 : a6.heap.size = w7.heap.size + 1 := by rw [← hg6]; simp
  clear hg6
  obtain ⟨O, hrun, hfs⟩ := HS6.out.run
  have hpk := hrun.packages
  rw [HL3.out] at hpk
  have HPK := Lib.hid hpk
  clear hpk hrun hfs
  refine HPK.out.mono ?_
  rintro e wp ⟨v, rfl, hv, hbp⟩
  have htn : Sp.texts [] = [] := by simp [Sp.texts, Sp.sorted, Sp.names]
  rw [htn] at hv
  obtain ⟨va, vc, rfl, hvc, _⟩ := hv.get
  have HSp := Lib.hid (HS6.out.below hbp)
  obtain ⟨O, hrun, hfs⟩ := HSp.out.run
  have F := fun b f (h : (b, f) ∈ _) => (hfs (b, f) h).1
  have kw2 := F w2.heap.size ⟨0, 0, 0, []⟩ (by simp)
  have lw2 := kw2.lt
  obtain ⟨k0, k1, k2, k3⟩ := kw2.cells
  have c0w2 : wp.cell? ⟨w2.heap.size, 0, none⟩ = some (.int .i64 0) := k0
  have c1w2 : wp.cell? ⟨w2.heap.size, 1, none⟩ = some (.int .i64 0) := k1
  have c2w2 : wp.cell? ⟨w2.heap.size, 2, none⟩ = some (.int .i64 0) := k2
  have c3w2 : wp.cell? ⟨w2.heap.size, 3, none⟩ = some (.string ⟨#[]⟩) := k3
  clear kw2 k0 k1 k2 k3
  have kw3 := F w3.heap.size ⟨6, 0, 0, [120]⟩ (by simp)
  have lw3 := kw3.lt
  obtain ⟨k0, k1, k2, k3⟩ := kw3.cells
  have c0w3 : wp.cell? ⟨w3.heap.size, 0, none⟩ = some (.int .i64 6) := k0
  have c1w3 : wp.cell? ⟨w3.heap.size, 1, none⟩ = some (.int .i64 0) := k1
  have c2w3 : wp.cell? ⟨w3.heap.size, 2, none⟩ = some (.int .i64 0) := k2
  have c3w3 : wp.cell? ⟨w3.heap.size, 3, none⟩ = some (.string ⟨#[120]⟩) := k3
  clear kw3 k0 k1 k2 k3
  have kw4 := F w4.heap.size ⟨0, 0, 0, []⟩ (by simp)
  have lw4 := kw4.lt
  obtain ⟨k0, k1, k2, k3⟩ := kw4.cells
  have c0w4 : wp.cell? ⟨w4.heap.size, 0, none⟩ = some (.int .i64 0) := k0
  have c1w4 : wp.cell? ⟨w4.heap.size, 1, none⟩ = some (.int .i64 0) := k1
  have c2w4 : wp.cell? ⟨w4.heap.size, 2, none⟩ = some (.int .i64 0) := k2
  have c3w4 : wp.cell? ⟨w4.heap.size, 3, none⟩ = some (.string ⟨#[]⟩) := k3
  clear kw4 k0 k1 k2 k3
  have kw5 := F w5.heap.size ⟨4, 0, 0, [99]⟩ (by simp)
  have lw5 := kw5.lt
  obtain ⟨k0, k1, k2, k3⟩ := kw5.cells
  have c0w5 : wp.cell? ⟨w5.heap.size, 0, none⟩ = some (.int .i64 4) := k0
  have c1w5 : wp.cell? ⟨w5.heap.size, 1, none⟩ = some (.int .i64 0) := k1
  have c2w5 : wp.cell? ⟨w5.heap.size, 2, none⟩ = some (.int .i64 0) := k2
  have c3w5 : wp.cell? ⟨w5.heap.size, 3, none⟩ = some (.string ⟨#[99]⟩) := k3
  clear kw5 k0 k1 k2 k3
  have kw6 := F w6.heap.size ⟨3, 1, 0, [99]⟩ (by simp)
  have lw6 := kw6.lt
  obtain ⟨k0, k1, k2, k3⟩ := kw6.cells
  have c0w6 : wp.cell? ⟨w6.heap.size, 0, none⟩ = some (.int .i64 3) := k0
  have c1w6 : wp.cell? ⟨w6.heap.size, 1, none⟩ = some (.int .i64 1) := k1
  have c2w6 : wp.cell? ⟨w6.heap.size, 2, none⟩ = some (.int .i64 0) := k2
  have c3w6 : wp.cell? ⟨w6.heap.size, 3, none⟩ = some (.string ⟨#[99]⟩) := k3
  clear kw6 k0 k1 k2 k3
  have kw7 := F w7.heap.size ⟨0, 0, 0, []⟩ (by simp)
  have lw7 := kw7.lt
  obtain ⟨k0, k1, k2, k3⟩ := kw7.cells
  have c0w7 : wp.cell? ⟨w7.heap.size, 0, none⟩ = some (.int .i64 0) := k0
  have c1w7 : wp.cell? ⟨w7.heap.size, 1, none⟩ = some (.int .i64 0) := k1
  have c2w7 : wp.cell? ⟨w7.heap.size, 2, none⟩ = some (.int .i64 0) := k2
  have c3w7 : wp.cell? ⟨w7.heap.size, 3, none⟩ = some (.string ⟨#[]⟩) := k3
  clear kw7 k0 k1 k2 k3
  have q2 := fun w => eq23 w 6 0 0 ⟨#[120]⟩
  have q4 := fun w => eq23 w 4 0 0 ⟨#[99]⟩
  have q5 := fun w => eq23 w 3 1 0 ⟨#[99]⟩
  clear F hfs hrun hvc hv
  go_wp2
  go_ret
  exact ⟨rfl, HSp.out.low⟩
end Go.Proofs.YtfphcecjhdkcoaaGreatDoor
namespace Go.Proofs.YtfphcecjhdkcoaaGreatDoor
open Go.RowKit Go.Maps
namespace KV
theorem vers_at {r : Nat} (h : r < V21.vers.length) : Sp.cmp V21.vers[r].a V21.vers[r].b = V21.vers[r].o ∧ V21.vers[r].a.length ≤ 300 ∧ V21.vers[r].b.length ≤ 300 := by
  have hm := List.getElem_mem h
  have h1 := List.all_eq_true.1 V21.vers_ok _ hm
  have h2 := List.all_eq_true.1 V21.vers_small _ hm
  exact ⟨of_decide_eq_true h1, of_decide_eq_true h2⟩
theorem forms_at {r : Nat} (h : r < V21.forms.length) : ((∃ n : Nat, Sp.parse V21.forms[r].a = .inl n ∧ V21.forms[r].o = (n : Int) ∧ 1 ≤ n) ∨ ∃ p, Sp.parse V21.forms[r].a = .inr p ∧ V21.forms[r].o = -1 ∧ Sp.print p = V21.forms[r].b) := by
  have hm := List.getElem_mem h
  have h1 := List.all_eq_true.1 V21.forms_ok _ hm
  unfold V21.formOk at h1
  cases hp : Sp.parse V21.forms[r].a with
  | inl n =>
    rw [hp] at h1
    simp only [Bool.and_eq_true, decide_eq_true_eq] at h1
    exact .inl ⟨n, rfl, h1⟩
  | inr p =>
    rw [hp] at h1
    simp only [Bool.and_eq_true, decide_eq_true_eq, beq_iff_eq] at h1
    exact .inr ⟨p, rfl, h1⟩
theorem plans_at {r : Nat} (h : r < V21.plans.length) : (∃ f, Sp.planned [] V21.plans[r].ts = .inl f ∧ f = V21.plans[r].f ∧ V21.plans[r].os = []) ∨ ∃ A o, Sp.planned [] V21.plans[r].ts = .inr (A, o) ∧ V21.plans[r].f = Sp.okF ∧ V21.plans[r].os = o := by
  have hm := List.getElem_mem h
  have h1 := List.all_eq_true.1 V21.plans_ok _ hm
  unfold V21.planOk at h1
  have fe : ∀ f g : Sp.Fault, V21.faultEq f g = true → f = g := fun f g e => by
    obtain ⟨a, b, c, d⟩ := f
    obtain ⟨a', b', c', d'⟩ := g
    unfold V21.faultEq at e
    simp only [Bool.and_eq_true, beq_iff_eq] at e
    obtain ⟨⟨⟨rfl, rfl⟩, rfl⟩, rfl⟩ := e
    rfl
  cases hp : Sp.planned [] V21.plans[r].ts with
  | inl f =>
    rw [hp] at h1
    simp only [Bool.and_eq_true, beq_iff_eq] at h1
    exact .inl ⟨f, rfl, fe _ _ h1.1, h1.2⟩
  | inr Ao =>
    obtain ⟨A, o⟩ := Ao
    rw [hp] at h1
    simp only [Bool.and_eq_true, beq_iff_eq] at h1
    exact .inr ⟨A, o, rfl, (fe _ _ h1.1).symm, h1.2⟩
end KV
set_option maxRecDepth 100000 in
set_option maxHeartbeats 4000000 in
theorem known_any {G : Nat} {w : World} (hw : Wd G w) (c : Int) (hc1 : -9223372036854775808 ≤ c) (hc2 : c ≤ 9223372036854775807) :
    Calls Tryz.prog 10 #[.int .i64 c] w fun e w' => e = .returned (.bool true) ∧ Below w.heap.size w w' := by
  have hGz := hw.glob.size
  have HW := Lib.hid (fun (W : World) (hW : Below w.heap.size w W) => hw.keep hW)
  clear hw
  go_enter Tryz.func10, Tryz.ntmps10
  go_wp2_with fail
  refine (versions_any w).mono ?_
  rintro e w1 ⟨v1, rfl, hv1, hb1⟩
  obtain ⟨a1, c1, rfl, hac1, hr1⟩ := Rows3At.of V21.vers_len hv1
  have HB1 := Lib.hid hb1
  have HR1 := Lib.hid hr1
  clear hv1 hb1 hr1
  go_wp2_with fail
  refine (forms_table w1).mono ?_
  rintro e w2 ⟨v2, rfl, hv2, hb2⟩
  obtain ⟨a2, c2, rfl, hac2, hr2⟩ := Rows3At.of V21.forms_len hv2
  have HB2 := Lib.hid (HB1.out.trans (hb2.mono HB1.out.size))
  have HR1' := Lib.hid (HR1.out.below hb2)
  have HR2 := Lib.hid hr2
  clear hv2 hb2 hr2 HR1
  go_wp2_with fail
  refine (plans_any w2).mono ?_
  rintro e w3 ⟨a3, rfl, hp3, hb3⟩
  have HB3 := Lib.hid (HB2.out.trans (hb3.mono HB2.out.size))
  have HR1 := Lib.hid (HR1'.out.below hb3)
  have HR2' := Lib.hid (HR2.out.below hb3)
  have HP3 := Lib.hid hp3
  clear HR1' HR2 hp3 hb3
  have hpk := pick_any c 88 (by decide) (by decide) hc1 hc2 w3
  have q1 : IntKind.i64.wrap (21 + 42) = 63 := by decide
  have q2 : IntKind.i64.wrap (63 + 24) = 87 := by decide
  have q3 : IntKind.i64.wrap (87 + 1) = 88 := by decide
  go_wp2_with fail
  refine hpk.mono ?_
  clear hpk q1 q2 q3
  rintro e w4 ⟨r, hr, rfl, hw4⟩
  have hw4' := hw4.symm
  subst hw4'
  clear hw4 hc1 hc2
  by_cases hr1 : r < 21
  · obtain ⟨b, off, rfl, hbl, x0, x1, x2⟩ := HR1.out r (by rw [V21.vers_len]; exact hr1)
    obtain ⟨k1, k2, k3⟩ := KV.vers_at (r := r) (by rw [V21.vers_len]; exact hr1)
    generalize V21.vers[r] = row at x0 x1 x2 k1 k2 k3
    obtain ⟨ra, rb, ro⟩ := row
    simp only at x0 x1 x2 k1 k2 k3
    have hcm := fun W => cmp38_any ⟨ra.toArray⟩ ⟨rb.toArray⟩ W (by rw [← bl_len, bl_mk]; omega) (by rw [← bl_len, bl_mk]; omega)
    simp only [bl_mk, k1] at hcm
    unfold sv at x0 x1
    have hri : (r : Int) < 21 := by omega
    have HCM := Lib.hid hcm
    have HBF := Lib.hid HB3.out
    clear hcm k1 k2 k3 HR1 HR2' HP3 HW
    go_wp2_with fail
    go_still_tail 10, (by kernel_rfl)
    change wpList _ _ _ _ _ (World.drew w3)
    go_wp2_with fail
    refine (HCM.out _).mono ?_
    rintro e w5 ⟨rfl, hb5⟩
    have hb5' : Below w3.heap.size w3 w5 := ⟨hb5.os, hb5.tape, hb5.output, hb5.size, hb5.block⟩
    have x2' := (hb5'.cell (p := ⟨b, off + r * 3 + 2, none⟩) hbl).trans x2
    have HB5 := Lib.hid (HBF.out.trans (hb5'.mono HBF.out.size))
    have hbl5 : b < w5.heap.size := Nat.lt_of_lt_of_le hbl hb5'.size
    clear hb5 hb5' x0 x1 x2
    go_wp2
    go_ret
    exact ⟨rfl, HB5.out⟩
  · have hri : ¬ (r : Int) < 21 := by omega
    obtain ⟨m, rfl⟩ : ∃ m, r = 21 + m := ⟨r - 21, by omega⟩
    have qm : IntKind.i64.wrap (((21 + m : Nat) : Int) - 21) = (m : Int) := by rw [show ((21 + m : Nat) : Int) - 21 = (m : Int) from by omega]; exact IntWalk.i64_in _ (by omega)
    have qm' : IntKind.i64.wrap ((21 + (m : Int)) - 21) = (m : Int) := by rw [show (21 + (m : Int)) - 21 = (m : Int) from by omega]; exact IntWalk.i64_in _ (by omega)
    have hri' : ¬ (21 + (m : Int)) < 21 := by omega
    clear hr1
    by_cases hr2 : m < 42
    · have hmi : (m : Int) < 42 := by omega
      obtain ⟨b, off, rfl, hbl, x0, x1, x2⟩ := HR2'.out m (by rw [V21.forms_len]; exact hr2)
      have hfa := KV.forms_at (r := m) (by rw [V21.forms_len]; exact hr2)
      generalize V21.forms[m] = row at x0 x1 x2 hfa
      obtain ⟨ra, rb, ro⟩ := row
      simp only at x0 x1 x2 hfa
      unfold sv at x0 x1
      have HWW := Lib.hid (HW.out w3 HB3.out)
      clear HR1 HR2' HP3 HW
      rcases hfa with ⟨n, k1, rfl, k2⟩ | ⟨p, k1, rfl, rfl⟩
      · have hrd := plainRead_none (G := G) ⟨ra.toArray⟩ n w3 HWW.out.glob HWW.out.err (by rw [bl_mk]; exact k1)
        have HRD := Lib.hid hrd
        have hge : (0 : Int) ≤ (n : Int) := by omega
        clear hrd k1 k2
        go_wp2_with fail
        refine HRD.out.mono ?_
        rintro e w5 ⟨rfl, hb5⟩
        have x2' := (hb5.cell (p := ⟨b, off + m * 3 + 2, none⟩) hbl).trans x2
        have HB5 := Lib.hid (HB3.out.trans (hb5.mono HB3.out.size))
        have hbl5 : b < w5.heap.size := Nat.lt_of_lt_of_le hbl hb5.size
        have hq := fun w => eq23 w 1 0 (n : Int) ⟨#[]⟩
        clear hb5 x0 x1 x2
        go_wp2_with fail
        go_quiet (fail)
        go_wp2
        go_ret
        exact ⟨rfl, below_drewN (HB5.out.alloc HB5.out.size _) _⟩
      · have hrd := plainRead_some (G := G) ⟨ra.toArray⟩ p w3 HWW.out.glob (by rw [bl_mk]; exact k1)
        have HRD := Lib.hid hrd
        clear hrd k1
        go_wp2_with fail
        refine HRD.out.mono ?_
        rintro e w5 ⟨rfl, hb5⟩
        have x1' := (hb5.cell (p := ⟨b, off + m * 3 + 1, none⟩) hbl).trans x1
        have x2' := (hb5.cell (p := ⟨b, off + m * 3 + 2, none⟩) hbl).trans x2
        have HB5 := Lib.hid (HB3.out.trans (hb5.mono HB3.out.size))
        have hbl5 : b < w5.heap.size := Nat.lt_of_lt_of_le hbl hb5.size
        clear hb5 x0 x1 x2
        unfold sv
        go_wp2
        go_ret
        exact ⟨rfl, HB5.out.alloc HB5.out.size _⟩
    · have hmi : ¬ (m : Int) < 42 := by omega
      obtain ⟨d, rfl⟩ : ∃ d, m = 42 + d := ⟨m - 42, by omega⟩
      have qd : IntKind.i64.wrap (((42 + d : Nat) : Int) - 42) = (d : Int) := by rw [show ((42 + d : Nat) : Int) - 42 = (d : Int) from by omega]; exact IntWalk.i64_in _ (by omega)
      have qd' : IntKind.i64.wrap ((42 + (d : Int)) - 42) = (d : Int) := by rw [show (42 + (d : Int)) - 42 = (d : Int) from by omega]; exact IntWalk.i64_in _ (by omega)
      have qe : IntKind.i64.wrap ((21 + (42 + (d : Int))) - 21) = 42 + (d : Int) := by rw [show (21 + (42 + (d : Int))) - 21 = 42 + (d : Int) from by omega]; exact IntWalk.i64_in _ (by omega)
      have hmi' : ¬ (42 + (d : Int)) < 42 := by omega
      have hri'' : ¬ (21 + (42 + (d : Int))) < 21 := by omega
      clear hr2 HR1 HR2'
      by_cases hr3 : d < 24
      · have hdi : (d : Int) < 24 := by omega
        obtain ⟨b, off, tv, ov, rfl, hbl, x0, x1, x2, x3, x4, x5, hts, hos⟩ := HP3.out d (by rw [V21.plans_len]; exact hr3)
        have hpa := KV.plans_at (r := d) (by rw [V21.plans_len]; exact hr3)
        have hsm := of_decide_eq_true (List.all_eq_true.1 V21.plans_small _ (List.getElem_mem (show d < V21.plans.length by rw [V21.plans_len]; exact hr3)))
        generalize V21.plans[d] = row at x0 x1 x2 x3 x4 x5 hts hos hpa hsm
        obtain ⟨rt, ro, ⟨fk, fw, fl, fn⟩⟩ := row
        simp only at x0 x1 x2 x3 x4 x5 hts hos hpa hsm
        unfold sv at x5
        have hs30 : secs 30 = 30 := by decide
        have hnew := Run.new (HW.out w3 HB3.out) 30
        rw [hs30] at hnew
        obtain ⟨hsure, hlast, hL⟩ := V11.new_sure (S := 30) ⟨by decide, by decide⟩
        have hpl : (Sp.St.new 30).plan rt = (⟨fk, fw, fl, fn⟩, ro) := by
          unfold Sp.St.plan
          rw [hL]
          rcases hpa with ⟨f, h1, h2, h3⟩ | ⟨A, o, h1, h2, h3⟩
          · rw [h1, h2, h3]
          · rw [h1, h2, h3]
        obtain ⟨x0', hx0⟩ : ∃ x0', x0' = Sp.St.new 30 := ⟨_, rfl⟩
        rw [← hx0] at hnew hpl hlast
        have HNEW := Lib.hid hnew
        have HPL := Lib.hid hpl
        have HTS := Lib.hid hts
        have HOS := Lib.hid hos
        clear hnew hpl hpa hsure hL hx0 hts hos HP3 hs30
        go_wp2_with fail
        refine HNEW.out.mono ?_
        rintro e w5 ⟨x, rfl, hb5, hrun⟩
        have hbA : Below w5.heap.size w5 (w5.alloc (.cells #[.int .i64 0, .int .i64 0, .int .i64 0, .string ⟨#[]⟩] 23)) := (Below.refl _ _).alloc (Nat.le_refl _) _
        have hbB := hb5.trans (hbA.mono hb5.size)
        have hzA : (w5.alloc (.cells #[.int .i64 0, .int .i64 0, .int .i64 0, .string ⟨#[]⟩] 23)).heap.size = w5.heap.size + 1 := by simp
        have hz5 := hb5.size
        have x0'' := (hbB.cell (p := ⟨b, off + d * 6, none⟩) hbl).trans x0
        have hblA : b < (w5.alloc (.cells #[.int .i64 0, .int .i64 0, .int .i64 0, .string ⟨#[]⟩] 23)).heap.size := by omega
        have hpn := (hrun.below hbA).plan ((HW.out w3 HB3.out).keep hbB) (by omega) _ rt (HTS.out.below hbB) (by omega)
        rw [HPL.out] at hpn
        have HPN := Lib.hid hpn
        have HBB := Lib.hid hbB
        have HF0 := Lib.hid (FB.new w5 ⟨0, 0, 0, []⟩)
        clear hpn hrun hb5 hbA hbB
        obtain ⟨ta, tc, rfl, _⟩ := HTS.out.get
        obtain ⟨oa, oc, rfl, _⟩ := HOS.out.get
        unfold faultV sv Sp.okF
        go_wp2_with fail
        generalize (w5.alloc (.cells #[.int .i64 0, .int .i64 0, .int .i64 0, .string ⟨#[]⟩] 23)) = w6 at *
        refine HPN.out.mono ?_
        rintro e w7 ⟨v, rfl, hv, hb7⟩
        have hz7 := hb7.size
        have HBD := Lib.hid (HBB.out.trans (hb7.mono HBB.out.size))
        have hbl7 : b < w7.heap.size := by omega
        have x1' := (HBD.out.cell (p := ⟨b, off + d * 6 + 1, none⟩) hbl).trans x1
        have x2' := (HBD.out.cell (p := ⟨b, off + d * 6 + 2, none⟩) hbl).trans x2
        have x3' := (HBD.out.cell (p := ⟨b, off + d * 6 + 3, none⟩) hbl).trans x3
        have x4' := (HBD.out.cell (p := ⟨b, off + d * 6 + 4, none⟩) hbl).trans x4
        have x5' := (HBD.out.cell (p := ⟨b, off + d * 6 + 5, none⟩) hbl).trans x5
        have HF7 := Lib.hid (HF0.out.below hb7)
        have HV7 := Lib.hid hv
        obtain ⟨va, vc, rfl, _⟩ := hv.at_.get
        clear hv hb7 x0 x1 x2 x3 x4 x5 x0''
        unfold faultV sv
        go_wp2_with fail
        obtain ⟨w8, hw8⟩ : ∃ w8, w8 = w7.alloc (.cells #[.int .i64 (fk : Int), .int .i64 (fw : Int), .int .i64 (fl : Int), .string ⟨fn.toArray⟩] 23) := ⟨_, rfl⟩
        have hb8 : Below w7.heap.size w7 w8 := by rw [hw8]; exact (Below.refl _ _).alloc (Nat.le_refl _) _
        have HF8 := Lib.hid (by rw [hw8]; exact FB.new w7 ⟨fk, fw, fl, fn⟩ : FB w8 w7.heap.size ⟨fk, fw, fl, fn⟩)
        rw [← hw8]
        clear hw8
        have hsm2 := same_any _ _ ro ro (HV7.out.below hb8).at_ ((HOS.out.below HBD.out).below hb8) (by omega)
        rw [decide_eq_true rfl] at hsm2
        have HSM := Lib.hid hsm2
        have HB8 := Lib.hid hb8
        have HF78 := Lib.hid (HF7.out.below hb8)
        clear hsm2 hb8
        refine HSM.out.mono ?_
        rintro e w9 ⟨rfl, hb9⟩
        have hz8 := HB8.out.size
        have hz9 := hb9.size
        have hb79 := HB8.out.trans (hb9.mono hz8)
        have y1 := (hb79.cell (p := ⟨b, off + d * 6 + 2, none⟩) hbl7).trans x2'
        have y2 := (hb79.cell (p := ⟨b, off + d * 6 + 3, none⟩) hbl7).trans x3'
        have y3 := (hb79.cell (p := ⟨b, off + d * 6 + 4, none⟩) hbl7).trans x4'
        have y4 := (hb79.cell (p := ⟨b, off + d * 6 + 5, none⟩) hbl7).trans x5'
        obtain ⟨g0, g1, g2, g3⟩ := (HF78.out.below hb9).cells
        obtain ⟨k0, k1, k2, k3⟩ := (HF8.out.below hb9).cells
        have l5 : w5.heap.size < w9.heap.size := by omega
        have l7 : w7.heap.size < w9.heap.size := by have := HF8.out.lt; omega
        have hbl9 : b < w9.heap.size := by omega
        have g0' : w9.cell? ⟨w5.heap.size, 0, none⟩ = some (.int .i64 0) := g0
        have HB9 := Lib.hid ((HB3.out.trans (HBD.out.mono HB3.out.size)).trans (hb79.mono (by have := HB3.out.size; omega)))
        have hq := fun w => eq23 w (fk : Int) (fw : Int) (fl : Int) ⟨fn.toArray⟩
        clear hb79 hb9 g0 g1 g2 g3 x1' x2' x3' x4' x5'
        go_wp2_with fail
        go_quiet (fail)
        go_wp2
        go_ret
        exact ⟨rfl, below_drewN HB9.out _⟩
      · obtain rfl : d = 24 := by omega
        go_wp2_with fail
        refine (story_any (HW.out w3 HB3.out)).mono ?_
        rintro e w5 ⟨rfl, hb5⟩
        have HB5 := Lib.hid (HB3.out.trans (hb5.mono HB3.out.size))
        clear hb5
        go_wp2
        go_ret
        exact ⟨rfl, HB5.out⟩
end Go.Proofs.YtfphcecjhdkcoaaGreatDoor

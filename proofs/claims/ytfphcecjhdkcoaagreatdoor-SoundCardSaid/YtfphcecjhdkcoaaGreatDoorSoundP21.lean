/-
Walks of the reference's isPath and file.
-/
import Derived.Test.YtfphcecjhdkcoaaGreatDoorSoundP01
import Derived.Test.YtfphcecjhdkcoaaGreatDoorSoundP03
import Derived.Test.YtfphcecjhdkcoaaGreatDoorSoundP05
/-
The walk of the reference's cut: the pieces of a text.
-/
namespace Go.Proofs.YtfphcecjhdkcoaaGreatDoor
open Go.RowKit
namespace R2
/-- How far the cut has come: what is done, where the piece under way began, how far has been looked. -/
def Far (s t : Sp.Str) (done : List Sp.Str) (f i : Nat) : Prop :=
  f ≤ i ∧ i ≤ s.length ∧ done ++ Lib.split (s.drop f) t = Lib.split s t ∧ ∀ j, j < i - f → Lib.occAt (s.drop f) t j = false
theorem far0 (s t : Sp.Str) : Far s t [] 0 0 := ⟨Nat.le_refl _, Nat.zero_le _, rfl, fun _j h => absurd h (Nat.not_lt_zero _)⟩
theorem far_hit {s t : Sp.Str} {done : List Sp.Str} {f i : Nat} (ht : t ≠ []) (h : Far s t done f i) (hi : i + t.length ≤ s.length) (ho : ((s.drop i).take t.length == t) = true) :
    Far s t (done ++ [(s.drop f).take (i - f)]) (i + t.length) (i + t.length) := by
  obtain ⟨h1, h2, h3, h4⟩ := h
  refine ⟨Nat.le_refl _, hi, ?_, fun _j hj => by omega⟩
  have ho' : Lib.occAt (s.drop f) t (i - f) = true := by
    rw [Sp.occ_drop, show f + (i - f) = i from by omega, Sp.occ_take _ _ _ hi]; exact ho
  rw [← h3, Sp.split_at (s.drop f) t ht (i - f) (by rw [List.length_drop]; omega) ho' h4, List.drop_drop, show f + (i - f + t.length) = i + t.length from by omega]
  simp
theorem far_miss {s t : Sp.Str} {done : List Sp.Str} {f i : Nat} (h : Far s t done f i) (ht : t ≠ []) (hi : i + t.length ≤ s.length) (ho : ((s.drop i).take t.length == t) = false) :
    Far s t done f (i + 1) := by
  obtain ⟨h1, h2, h3, h4⟩ := h
  have hl : 0 < t.length := List.length_pos_iff.2 ht
  refine ⟨by omega, by omega, h3, fun j hj => ?_⟩
  by_cases e : j = i - f
  · subst e
    rw [Sp.occ_drop, show f + (i - f) = i from by omega, Sp.occ_take _ _ _ hi]; exact ho
  · exact h4 j (by omega)
theorem far_end {s t : Sp.Str} {done : List Sp.Str} {f i : Nat} (ht : t ≠ []) (h : Far s t done f i) (hi : s.length < i + t.length) : Lib.split s t = done ++ [s.drop f] := by
  obtain ⟨h1, h2, h3, h4⟩ := h
  rw [← h3, Sp.split_end (s.drop f) t ht (i - f) (by rw [List.length_drop]; omega) h4]
theorem far_len {s t : Sp.Str} {done : List Sp.Str} {f i : Nat} (ht : t ≠ []) (h : Far s t done f i) : done.length ≤ s.length := by
  have h3 := h.2.2.1
  have h5 := Sp.split_length s t ht
  have h6 : 0 < (Lib.split (s.drop f) t).length := List.length_pos_iff.2 (Sp.split_ne _ t ht)
  rw [← h3, List.length_append] at h5
  omega
end R2
set_option maxRecDepth 100000 in
set_option maxHeartbeats 400000 in
theorem cutR_any (s t : ByteArray) (w : World) (hs : s.size < 1099511627776) (ht : 0 < t.size) (ht2 : t.size < 1099511627776) :
    Calls Tryz.prog 43 #[.string s, .string t] w fun e w' => ∃ v, e = .returned v ∧ w'.ownsRow w.heap.size 9 1 v (Lib.split (bl s) (bl t)).length ((Lib.split (bl s) (bl t)).map sv) ∧ Below w.heap.size w w' := by
  have htn : bl t ≠ [] := by intro h; rw [← bl_len, h] at ht; simp at ht
  have HT := Lib.hid htn
  clear htn
  obtain ⟨B, hB⟩ : ∃ B, w.heap.size = B := ⟨_, rfl⟩
  rw [hB]
  have HB := Lib.hid hB
  clear hB
  go_enter Tryz.func43, Tryz.ntmps43
  go_wp2
  go_loopw [5, 6, 7] (fun v f i wr => ∃ (done : List Sp.Str) (a b : Nat), f = .int .i64 a ∧ i = .int .i64 b ∧ R2.Far (bl s) (bl t) done a b ∧ wr.ownsRow B 9 1 v done.length (done.map sv) ∧ Below B w wr) (fun _ _ i _ => s.size + 1 - (intOf i).toNat)
  case atStart => exact ⟨[], 0, 0, rfl, rfl, R2.far0 _ _, World.ownsRow_nil _ _ _ _, Below.refl _ _⟩
  case round =>
    obtain ⟨done, a, b, rfl, rfl, hfar, hown, hbel⟩ := hrel
    have h1 : a ≤ b := hfar.1
    have h2 : b ≤ s.size := by have := hfar.2.1; rw [bl_len] at this; exact this
    have h3 : done.length ≤ s.size := by have := R2.far_len HT.out hfar; rw [bl_len] at this; exact this
    have HF := Lib.hid hfar
    clear hfar
    have hB' : B ≤ wr.heap.size := by have := hbel.size; rw [HB.out] at this; exact this
    by_cases h : b + t.size ≤ s.size
    · go_wp2_with (at_builtin; refine wp_app app38 wr [.string (s.extract a b)] rfl (by simp [Value.oneCell']) rfl _ _ rfl B _ _ _ rfl hown rfl (by omega) hB' ?_; intro v' w1 hown' hgrow _)
      · have hc : ((s.extract b (b + t.size)).toList == t.toList) = true := by assumption
        rw [eqs_bl, bl_ext, show b + t.size - b = (bl t).length from by rw [bl_len]; omega] at hc
        have hb1 := below_of_grown hbel hB' hown hgrow
        go_roundw
        case rel =>
          have hf := R2.far_hit HT.out HF.out (by rw [bl_len, bl_len]; exact h) hc
          rw [bl_len] at hf
          have e : [Value.string (s.extract a b)] = [sv ((List.drop a (bl s)).take (b - a))] := by rw [← bl_ext]; unfold sv; rw [mk_bl]
          rw [e] at hown'
          exact ⟨_, b + t.size, b + t.size, by go_num, by go_num, hf, by simpa using hown', hb1⟩
        case measure => simp [intOf]; omega
      · have hc : ((s.extract b (b + t.size)).toList == t.toList) = false := by assumption
        rw [eqs_bl, bl_ext, show b + t.size - b = (bl t).length from by rw [bl_len]; omega] at hc
        go_roundw
        case rel => exact ⟨done, a, b + 1, rfl, by go_num, R2.far_miss HF.out HT.out (by rw [bl_len, bl_len]; exact h) hc, hown, hbel⟩
        case measure => simp [intOf]; omega
    · go_wp2_with (at_builtin; refine wp_app app38 wr [.string (s.extract a s.size)] rfl (by simp [Value.oneCell']) rfl _ _ rfl B _ _ _ rfl hown rfl (by omega) hB' ?_; intro v' w1 hown' hgrow _)
      have hb1 := below_of_grown hbel hB' hown hgrow
      have e : [Value.string (s.extract a s.size)] = [sv (List.drop a (bl s))] := by rw [← bl_from]; unfold sv; rw [mk_bl]
      rw [e] at hown'
      have hend := R2.far_end HT.out HF.out (by rw [bl_len, bl_len]; omega)
      go_ret
      exact ⟨v', rfl, by rw [hend]; simpa using hown', hb1⟩
end Go.Proofs.YtfphcecjhdkcoaaGreatDoor
/-
The walk of the reference's choice.
-/
namespace Go.Proofs.YtfphcecjhdkcoaaGreatDoor
open Go.RowKit
namespace R3
theorem strs1 {w : World} {v : Value} {x0 : Sp.Str} {r : List Sp.Str} (h : StrsAt w v (x0 :: r)) : ∃ b off cap, v = .slice (some ⟨b, off, none⟩) (r.length + 1) cap ∧ r.length + 1 ≤ cap ∧ b < w.heap.size ∧ w.cell? ⟨b, off, none⟩ = some (.string ⟨x0.toArray⟩) := by
  obtain ⟨a, cap, rfl, hcap, hget⟩ := h.get
  obtain ⟨b, off, rfl, hb, hc⟩ := hget 0 (by simp)
  exact ⟨b, off, cap, rfl, hcap, hb, hc⟩
theorem strs3 {w : World} {v : Value} {x0 x1 x2 : Sp.Str} (h : StrsAt w v [x0, x1, x2]) : ∃ b off cap, v = .slice (some ⟨b, off, none⟩) 3 cap ∧ 3 ≤ cap ∧ b < w.heap.size ∧ w.cell? ⟨b, off, none⟩ = some (.string ⟨x0.toArray⟩) ∧ w.cell? ⟨b, off + 1, none⟩ = some (.string ⟨x1.toArray⟩) ∧ w.cell? ⟨b, off + 2, none⟩ = some (.string ⟨x2.toArray⟩) := by
  obtain ⟨a, cap, rfl, hcap, hget⟩ := h.get
  obtain ⟨b, off, rfl, hb, hc⟩ := hget 0 (by simp)
  obtain ⟨b1, off1, e1, _, hc1⟩ := hget 1 (by simp)
  obtain ⟨b2, off2, e2, _, hc2⟩ := hget 2 (by simp)
  cases e1; cases e2
  exact ⟨b, off, cap, rfl, hcap, hb, hc, hc1, hc2⟩
theorem last_eq (x : Sp.Str) : (({ data := List.toArray x } : ByteArray).extract (List.length x - 1) (List.length x)).toList = x.drop (x.length - 1) := by
  rw [toList_bl, bl_ext, bl_mk]
  exact List.take_of_length_le (by rw [List.length_drop]; omega)
theorem ext_tail (x : Sp.Str) : ({ data := List.toArray x } : ByteArray).extract 1 (List.length x) = ⟨(x.drop 1).toArray⟩ :=
  bl_inj (by rw [bl_ext, bl_mk, bl_mk]; exact List.take_of_length_le (by rw [List.length_drop]; omega))
theorem ext_init (x : Sp.Str) (n : Nat) : ({ data := List.toArray x } : ByteArray).extract 0 n = ⟨(x.take n).toArray⟩ :=
  bl_inj (by rw [bl_to, bl_mk, bl_mk])
end R3
/-- What the reference's choice comes to. -/
def ChoiceR (s : Sp.Str) (w : World) (e : Ending) (w' : World) : Prop :=
  Below w.heap.size w w' ∧ ∃ (c : Sp.Ch) (ok : Bool), e = .returned (.tuple #[.agg #[sv c.name, sv c.sign, sv c.ver], .bool ok]) ∧ Sp.choose s = if ok then some c else none
theorem choice_one (s : ByteArray) (w : World) (hs : s.size < 1000000) (x0 : Sp.Str) (hP : Lib.split (bl s) [32] = [x0]) :
    Calls Tryz.prog 119 #[.string s] w (ChoiceR (bl s) w) := by
  have h0 : x0.length ≤ s.size := by rw [← bl_len]; exact Sp.split_mem (bl s) [32] x0 (by simp) (by rw [hP]; simp)
  have hx : x0 = bl s := by
    rcases T1.byte1 32 (bl s) with ⟨_, h2, _⟩ | ⟨a, r, _, _, h2, _⟩
    · rw [hP] at h2; exact (List.cons.inj h2).1
    · rw [hP] at h2; exact absurd (List.cons.inj h2).2.symm (Sp.split_ne _ _ (by simp))
  have hc : Sp.choose (bl s) = if Sp.isName x0 then some ⟨x0, [], []⟩ else none := by
    rw [← T1.choice_eq]; unfold T1.choiceR; rw [hP, hx]
  have HP := Lib.hid hP
  have HC := Lib.hid hc
  have HX := Lib.hid hx
  clear hP hc hx
  go_enter Tryz.func119, Tryz.ntmps119
  go_wp2_with fail
  refine (cutR_any s _ _ (by omega) (by decide) (by decide)).mono ?_
  rintro e w1 ⟨v, rfl, hown, hb⟩
  rw [show bl ⟨#[32]⟩ = [32] from rfl, HP.out] at hown
  obtain ⟨b, off, cap, rfl, hcap, hbb, c0⟩ := R3.strs1 (StrsAt.of_row hown)
  simp only [List.length_nil, Nat.zero_add] at hcap
  simp only [List.length_nil, Nat.zero_add]
  clear hown
  obtain ⟨hc, hf⟩ := bcell hb
  have hz : w.heap.size < w1.heap.size := by have := hb.size; simp at this; omega
  go_wp2_with fail
  refine (isName_any _ _ (by rw [← bl_len, bl_mk]; omega)).mono ?_
  rintro e w2 ⟨rfl, rfl⟩
  rw [bl_mk]
  go_wp2
  refine bodyPost_ret (v := .tuple #[.agg #[.string s, .string ⟨#[]⟩, .string ⟨#[]⟩], .bool (Sp.isName x0)]) (by simp [results, Tryz.results119, go_sem, hc]) rfl ?_
  refine ⟨?_, ⟨bl s, [], []⟩, Sp.isName x0, ?_, ?_⟩
  · have hb1 : Below w.heap.size w w1 := Below.trans ((Below.refl _ _).alloc (Nat.le_refl _) _) (hb.mono (by simp))
    repeat' (first | assumption | refine Below.setCell ?_ (by simp) _ | refine Below.alloc ?_ (by simp; omega) _)
  · unfold sv; rw [mk_bl]
  · rw [HC.out, HX.out]
theorem choice_few (s : ByteArray) (w : World) (hs : s.size < 1000000) (x0 : Sp.Str) (r : List Sp.Str) (hP : Lib.split (bl s) [32] = x0 :: r) (hr : ¬ r.length = 0) (hr2 : ¬ r.length = 2) :
    Calls Tryz.prog 119 #[.string s] w (ChoiceR (bl s) w) := by
  have h0 : x0.length ≤ s.size := by rw [← bl_len]; exact Sp.split_mem (bl s) [32] x0 (by simp) (by rw [hP]; simp)
  have hc : Sp.choose (bl s) = none := by
    rw [← T1.choice_eq]; unfold T1.choiceR; rw [hP]
    match r, hr, hr2 with
    | [], h, _ => exact absurd rfl h
    | [_], _, _ => rfl
    | [_, _], _, h => exact absurd rfl h
    | _ :: _ :: _ :: _, _, _ => rfl
  have HP := Lib.hid hP
  have HC := Lib.hid hc
  clear hP hc
  go_enter Tryz.func119, Tryz.ntmps119
  go_wp2_with fail
  refine (cutR_any s _ _ (by omega) (by decide) (by decide)).mono ?_
  rintro e w1 ⟨v, rfl, hown, hb⟩
  rw [show bl ⟨#[32]⟩ = [32] from rfl, HP.out] at hown
  obtain ⟨b, off, cap, rfl, hcap, hbb, c0⟩ := R3.strs1 (StrsAt.of_row hown)
  obtain ⟨n, hn⟩ : ∃ n, n = r.length + 1 := ⟨_, rfl⟩
  rw [← hn] at hcap ⊢
  have hn1 : ¬ n = 1 := by omega
  have hn3 : ¬ n = 3 := by omega
  have hn0 : 0 < n := by omega
  clear hown hn hr hr2
  obtain ⟨hc, hf⟩ := bcell hb
  have hz : w.heap.size < w1.heap.size := by have := hb.size; simp at this; omega
  go_wp2_with fail
  refine (isName_any _ _ (by rw [← bl_len, bl_mk]; omega)).mono ?_
  rintro e w2 ⟨rfl, rfl⟩
  rw [bl_mk]
  go_wp2
  refine bodyPost_ret (v := .tuple #[.agg #[.string ⟨#[]⟩, .string ⟨#[]⟩, .string ⟨#[]⟩], .bool false]) (by simp [results, Tryz.results119, go_sem, hc]) rfl ?_
  refine ⟨?_, ⟨[], [], []⟩, false, rfl, HC.out⟩
  have hb1 : Below w.heap.size w w1 := Below.trans ((Below.refl _ _).alloc (Nat.le_refl _) _) (hb.mono (by simp))
  repeat' (first | assumption | refine Below.setCell ?_ (by simp) _ | refine Below.alloc ?_ (by simp; omega) _)
end Go.Proofs.YtfphcecjhdkcoaaGreatDoor
/-
The walk of the reference's choice at three pieces; the reference's choice, whole.
-/
namespace Go.Proofs.YtfphcecjhdkcoaaGreatDoor
open Go.RowKit
set_option maxHeartbeats 2000000 in
theorem choice_three (s : ByteArray) (w : World) (hs : s.size < 1000000) (x0 x1 x2 : Sp.Str) (hP : Lib.split (bl s) [32] = [x0, x1, x2]) :
    Calls Tryz.prog 119 #[.string s] w (ChoiceR (bl s) w) := by
  have h0 : x0.length ≤ s.size := by rw [← bl_len]; exact Sp.split_mem (bl s) [32] x0 (by simp) (by rw [hP]; simp)
  have h2 : x2.length ≤ s.size := by rw [← bl_len]; exact Sp.split_mem (bl s) [32] x2 (by simp) (by rw [hP]; simp)
  have h1 : x1.length ≤ s.size := by rw [← bl_len]; exact Sp.split_mem (bl s) [32] x1 (by simp) (by rw [hP]; simp)
  have hc : Sp.choose (bl s) = if Sp.isName x0 && !x2.isEmpty && Sp.isVer (x2.take (x2.length - 1)) && T1.sgn x1 && (x2.drop (x2.length - 1) == [41]) then some ⟨x0, x1.drop 1, x2.take (x2.length - 1)⟩ else none := by
    rw [← T1.choice_eq]; unfold T1.choiceR; rw [hP]
  have HP := Lib.hid hP
  have HC := Lib.hid hc
  clear hP hc
  go_enter Tryz.func119, Tryz.ntmps119
  go_wp2_with fail
  refine (cutR_any s _ _ (by omega) (by decide) (by decide)).mono ?_
  rintro e w1 ⟨v, rfl, hown, hb⟩
  rw [show bl ⟨#[32]⟩ = [32] from rfl, HP.out] at hown
  obtain ⟨b, off, cap, rfl, hcap, hbb, c0, c1, c2⟩ := R3.strs3 (StrsAt.of_row hown)
  clear hown
  obtain ⟨hc, hf⟩ := bcell hb
  have hz : w.heap.size < w1.heap.size := by have := hb.size; simp at this; omega
  have hb1 : Below w.heap.size w w1 := Below.trans ((Below.refl _ _).alloc (Nat.le_refl _) _) (hb.mono (by simp))
  go_wp2_with fail
  refine (isName_any _ _ (by rw [← bl_len, bl_mk]; omega)).mono ?_
  rintro e w2 ⟨rfl, rfl⟩
  rw [bl_mk]
  cases hn : Sp.isName x0 with
  | false =>
    have HN := Lib.hid hn
    clear hn
    go_wp2
    refine bodyPost_ret (v := .tuple #[.agg #[.string ⟨#[]⟩, .string ⟨#[]⟩, .string ⟨#[]⟩], .bool false]) (by simp [results, Tryz.results119, go_sem, hc]) rfl ?_
    refine ⟨?_, ⟨[], [], []⟩, false, rfl, by rw [HC.out, HN.out]; rfl⟩
    repeat' (first | assumption | refine Below.setCell ?_ (by simp) _ | refine Below.alloc ?_ (by simp; omega) _)
  | true =>
    have HN := Lib.hid hn
    clear hn
    by_cases hl : x2.length = 0
    · have HL := Lib.hid hl
      go_wp2
      refine bodyPost_ret (v := .tuple #[.agg #[.string ⟨#[]⟩, .string ⟨#[]⟩, .string ⟨#[]⟩], .bool false]) (by simp [results, Tryz.results119, go_sem, hc]) rfl ?_
      refine ⟨?_, ⟨[], [], []⟩, false, rfl, by rw [HC.out, List.length_eq_zero_iff.1 HL.out]; simp⟩
      repeat' (first | assumption | refine Below.setCell ?_ (by simp) _ | refine Below.alloc ?_ (by simp; omega) _)
    · have hl' : 0 < x2.length := by omega
      have HL : Hid (x2.isEmpty = false) := Lib.hid (by cases x2 with
        | nil => exact absurd rfl hl
        | cons _ _ => rfl)
      go_wp2_with fail
      refine (isVer_any _ _ (by rw [← bl_len, bl_to, bl_mk]; simp; omega)).mono ?_
      rintro e w2 ⟨rfl, rfl⟩
      rw [bl_to, bl_mk]
      cases hv : Sp.isVer (x2.take (x2.length - 1)) with
      | false =>
        have HV := Lib.hid hv
        clear hv
        go_wp2
        all_goals
          refine bodyPost_ret (v := .tuple #[.agg #[.string ⟨#[]⟩, .string ⟨#[]⟩, .string ⟨#[]⟩], .bool false]) (by simp [results, Tryz.results119, go_sem, hc]) rfl ?_
          refine ⟨?_, ⟨[], [], []⟩, false, rfl, by rw [HC.out, HV.out]; simp⟩
          repeat' (first | assumption | refine Below.setCell ?_ (by simp) _ | refine Below.alloc ?_ (by simp; omega) _)
      | true =>
        have HV := Lib.hid hv
        clear hv
        cases hsg : T1.sgn x1 with
        | false =>
          have HS := Lib.hid hsg
          have hs5 : (x1 == [40, 60, 60]) = false ∧ (x1 == [40, 60, 61]) = false ∧ (x1 == [40, 61]) = false ∧ (x1 == [40, 62, 61]) = false ∧ (x1 == [40, 62, 62]) = false := by
            unfold T1.sgn at hsg
            simp only [Bool.or_eq_false_iff] at hsg
            exact ⟨hsg.1.1.1.1, hsg.1.1.1.2, hsg.1.1.2, hsg.1.2, hsg.2⟩
          obtain ⟨s1, s2, s3, s4, s5⟩ := hs5
          clear hsg
          go_wp2
          refine bodyPost_ret (v := .tuple #[.agg #[.string ⟨#[]⟩, .string ⟨#[]⟩, .string ⟨#[]⟩], .bool false]) (by simp [results, Tryz.results119, go_sem, hc]) rfl ?_
          refine ⟨?_, ⟨[], [], []⟩, false, rfl, by rw [HC.out, HS.out]; simp⟩
          repeat' (first | assumption | refine Below.setCell ?_ (by simp) _ | refine Below.alloc ?_ (by simp; omega) _)
        | true =>
          have HS := Lib.hid hsg
          have hs5 : (x1 == [40, 60, 60]) = true ∨ ((x1 == [40, 60, 60]) = false ∧ (x1 == [40, 60, 61]) = true) ∨ ((x1 == [40, 60, 60]) = false ∧ (x1 == [40, 60, 61]) = false ∧ (x1 == [40, 61]) = true) ∨
              ((x1 == [40, 60, 60]) = false ∧ (x1 == [40, 60, 61]) = false ∧ (x1 == [40, 61]) = false ∧ (x1 == [40, 62, 61]) = true) ∨ ((x1 == [40, 60, 60]) = false ∧ (x1 == [40, 60, 61]) = false ∧ (x1 == [40, 61]) = false ∧ (x1 == [40, 62, 61]) = false ∧ (x1 == [40, 62, 62]) = true) := by
            unfold T1.sgn at hsg
            revert hsg
            cases (x1 == [40, 60, 60]) <;> cases (x1 == [40, 60, 61]) <;> cases (x1 == [40, 61]) <;> cases (x1 == [40, 62, 61]) <;> cases (x1 == [40, 62, 62]) <;> simp
          have hlx : 1 ≤ x1.length := by
            cases x1 with
            | nil => simp [T1.sgn] at hsg
            | cons _ _ => simp
          clear hsg
          rcases hs5 with s1 | ⟨s1, s2⟩ | ⟨s1, s2, s3⟩ | ⟨s1, s2, s3, s4⟩ | ⟨s1, s2, s3, s4, s5⟩
          all_goals
            go_wp2
            · have hla : (!(({ data := List.toArray x2 } : ByteArray).extract (List.length x2 - 1) (List.length x2)).toList == [41]) = true := by assumption
              rw [R3.last_eq] at hla
              refine bodyPost_ret (v := .tuple #[.agg #[.string ⟨#[]⟩, .string ⟨#[]⟩, .string ⟨#[]⟩], .bool false]) (by simp [results, Tryz.results119, go_sem, hc]) rfl ?_
              refine ⟨?_, ⟨[], [], []⟩, false, rfl, by rw [HC.out, show (x2.drop (x2.length - 1) == [41]) = false from by simpa using hla]; simp⟩
              repeat' (first | assumption | refine Below.setCell ?_ (by simp) _ | refine Below.alloc ?_ (by simp; omega) _)
            · have hla : (!(({ data := List.toArray x2 } : ByteArray).extract (List.length x2 - 1) (List.length x2)).toList == [41]) = false := by assumption
              rw [R3.last_eq] at hla
              have HLA := Lib.hid hla
              clear hla
              go_region
              go_wp2
              refine bodyPost_ret (v := .tuple #[.agg #[.string ⟨x0.toArray⟩, .string (({ data := List.toArray x1 } : ByteArray).extract 1 x1.length), .string (({ data := List.toArray x2 } : ByteArray).extract 0 (x2.length - 1))], .bool true]) (by simp [results, Tryz.results119, go_sem, hc]) rfl ?_
              refine ⟨?_, ⟨x0, x1.drop 1, x2.take (x2.length - 1)⟩, true, by rw [R3.ext_tail, R3.ext_init]; rfl, by rw [HC.out, HN.out, HL.out, HV.out, HS.out, show (x2.drop (x2.length - 1) == [41]) = true from by simpa using HLA.out]; rfl⟩
              refine Below.drew ?_
              repeat' (first | assumption | refine Below.setCell ?_ (by simp) _ | refine Below.alloc ?_ (by simp; omega) _)
theorem choice_any (s : ByteArray) (w : World) (hs : s.size < 1000000) : Calls Tryz.prog 119 #[.string s] w (ChoiceR (bl s) w) := by
  match hP : Lib.split (bl s) [32] with
  | [] => exact absurd hP (Sp.split_ne _ _ (by simp))
  | [x0] => exact choice_one s w hs x0 hP
  | [x0, x1] => exact choice_few s w hs x0 [x1] hP (by simp) (by simp)
  | [x0, x1, x2] => exact choice_three s w hs x0 x1 x2 hP
  | x0 :: x1 :: x2 :: x3 :: r => exact choice_few s w hs x0 (x1 :: x2 :: x3 :: r) hP (by simp) (by simp)
end Go.Proofs.YtfphcecjhdkcoaaGreatDoor
/-
Walks of the reference's choices, isPath and file.
-/
namespace Go.Proofs.YtfphcecjhdkcoaaGreatDoor
open Go.RowKit
theorem info135 : (Tryz.prog.info? 135).map (fun i => (i.zero, i.size, i.bytes)) = some (some (.agg #[.string ⟨#[]⟩, .string ⟨#[]⟩, .string ⟨#[]⟩]), 3, 48) := by kernel_rfl
theorem app27 : AppTy 27 135 3 48 := AppTy.of Tryz.underlying27 info135 rfl (by decide) (by decide)
/-- What the reference's choices comes to. -/
def ChoicesR (s sep : Sp.Str) (most : Nat) (w : World) (e : Ending) (w' : World) : Prop :=
  Below w.heap.size w w' ∧ ∃ (l : List Sp.Ch) (v : Value) (ok : Bool), e = .returned (.tuple #[v, .bool ok]) ∧ Sp.each s sep most Sp.choose = (if ok then some l else none) ∧ w'.ownsRow w.heap.size 135 3 v l.length (chRow l)
set_option maxRecDepth 100000 in
set_option maxHeartbeats 1000000 in
theorem choices_any (s sep : ByteArray) (most : Nat) (w : World) (hs : s.size < 1000000) (h0 : 0 < sep.size) (hsep : sep.size < 1000) :
    Calls Tryz.prog 70 #[.string s, .string sep, .int .i64 most] w (ChoicesR (bl s) (bl sep) most w) := by
  have htn : bl sep ≠ [] := by intro h; rw [← bl_len, h] at h0; simp at h0
  have hpl := Sp.split_length (bl s) (bl sep) htn
  rw [bl_len] at hpl
  have hpm : ∀ x ∈ Lib.split (bl s) (bl sep), x.length < 1000000 := fun x hx => by
    have := Sp.split_mem (bl s) (bl sep) x htn hx; rw [bl_len] at this; omega
  have HPM := Lib.hid hpm
  clear htn hpm
  obtain ⟨B, hB⟩ : ∃ B, w.heap.size = B := ⟨_, rfl⟩
  have HB := Lib.hid hB
  go_enter Tryz.func70, Tryz.ntmps70
  go_wp2_with fail
  refine (cutR_any s sep w (by omega) h0 (by omega)).mono ?_
  rintro e w1 ⟨v, rfl, hown, hb⟩
  have hv := StrsAt.of_row hown
  generalize hL : Lib.split (bl s) (bl sep) = L at *
  obtain ⟨a, cap, rfl, hcap, hget⟩ := hv.get
  have HL := Lib.hid hL.symm
  have HG := Lib.hid hget
  clear hL hv hget hown
  rw [hB] at hb
  clear hB
  have hBw : B ≤ w1.heap.size := by have := hb.size; rw [HB.out] at this; exact this
  go_wp2
  go_loopw [9, 10, 11, 12] (fun v i _ _ wr => ∃ (k : Nat) (done : List Sp.Ch), k ≤ L.length ∧ i = .int .i64 k ∧ Sp.mapO Sp.choose (L.take k) = some done ∧ wr.ownsRow w1.heap.size 135 3 v done.length (chRow done) ∧ Below w1.heap.size w1 wr) (fun _ i _ _ _ => L.length - (intOf i).toNat)
  case atStart => exact ⟨0, [], Nat.zero_le _, rfl, rfl, World.ownsRow_nil _ _ _ _, Below.refl _ _⟩
  case round =>
    obtain ⟨k, done, hk, rfl, hdone, hown, hbel⟩ := hrel
    have hlen := W3.mapO_len _ _ _ hdone
    rw [List.length_take, Nat.min_eq_left hk] at hlen
    have HD := Lib.hid hdone
    have hn : done.length ≤ 1000000 := by omega
    have HLEN := Lib.hid hlen
    have hbw : Below B w wr := hb.trans (hbel.mono hBw)
    have hw1 : w1.heap.size ≤ wr.heap.size := hbel.size
    have hbw0 : B ≤ wr.heap.size := by omega
    clear hdone hlen
    by_cases h : k < L.length
    · obtain ⟨b, off, rfl, hbb, hcell⟩ := HG.out k h
      have hcell' := (hbel.cell (p := ⟨b, off + k, none⟩) hbb).trans hcell
      have hpiece : (⟨L[k].toArray⟩ : ByteArray).size < 1000000 := by
        have := HPM.out L[k] (List.getElem_mem h); rw [← bl_len, bl_mk]; omega
      clear hcell HG
      go_wp2_with fail
      refine (choice_any ⟨L[k].toArray⟩ wr hpiece).mono ?_
      rintro e w2 ⟨hb2, c, ok, rfl, hch⟩
      rw [bl_mk] at hch
      have HCH := Lib.hid hch
      have hown2 := W3.row_keep hown hb2
      have hbel2 := hbel.trans (hb2.mono hw1)
      have hs2 := hb2.size
      clear hch
      unfold sv
      cases ok with
      | false =>
        go_wp2
        go_ret2
        refine ⟨?_, [], _, false, rfl, W3.each_stop HL.out (W3.mapO_stop _ L[k] L (List.getElem_mem h) HCH.out), World.ownsRow_nil _ _ _ _⟩
        rw [HB.out]
        have hb3 := hbw.trans (hb2.mono hbw0)
        exact hb3.alloc (by omega) _
      | true =>
        go_wp2_with (at_builtin; refine wp_app app27 (w2.alloc (Obj.cells #[Value.string ⟨c.name.toArray⟩, Value.string ⟨c.sign.toArray⟩, Value.string ⟨c.ver.toArray⟩] 135)) [.string ⟨c.name.toArray⟩, .string ⟨c.sign.toArray⟩, .string ⟨c.ver.toArray⟩] rfl (by simp [Value.oneCell']) rfl _ _ rfl w1.heap.size _ _ _ rfl (hown2.alloc _) (by rw [World.size_alloc]; rfl) (by omega) (by simp; omega) ?_; intro v' w3 hown' hgrow _)
        have hbel3 := below_of_grown (hbel2.alloc hbel2.size _) (by simp; omega) (hown2.alloc _) hgrow
        have e : [Value.string ⟨c.name.toArray⟩, .string ⟨c.sign.toArray⟩, .string ⟨c.ver.toArray⟩] = [sv c.name, sv c.sign, sv c.ver] := rfl
        rw [e, chRow_snoc] at hown'
        go_roundw
        case rel => exact ⟨k + 1, done ++ [c], h, by go_num, W3.mapO_next h HD.out HCH.out, by simpa using hown', hbel3⟩
        case measure => simp [intOf]; omega
    · obtain rfl : k = L.length := by omega
      have hdone' : Sp.mapO Sp.choose L = some done := by have := HD.out; rwa [List.take_length] at this
      have hln : (done.length : Int) = L.length := by have := HLEN.out; omega
      have HD' := Lib.hid hdone'
      have HLN := Lib.hid hln
      clear hdone' hln HG
      obtain ⟨ra, rc, rfl⟩ := W3.row_slice hown
      by_cases hmo : done.length ≤ most
      · go_wp2
        go_ret2
        exact ⟨by rw [HB.out]; exact hbw, done, _, true, rfl, by rw [W3.each_of HL.out HD'.out, if_pos hmo]; rfl, W3.row_base hown (by rw [HB.out]; exact hBw)⟩
      · go_wp2
        go_ret2
        exact ⟨by rw [HB.out]; exact hbw, done, _, false, rfl, by rw [W3.each_of HL.out HD'.out, if_neg hmo]; rfl, W3.row_base hown (by rw [HB.out]; exact hBw)⟩
end Go.Proofs.YtfphcecjhdkcoaaGreatDoor
namespace Go.Proofs.YtfphcecjhdkcoaaGreatDoor
open Go.RowKit
namespace R6
theorem pathS_arr : bl ⟨#[97, 98, 99, 100, 101, 102, 103, 104, 105, 106, 107, 108, 109, 110, 111, 112, 113, 114, 115, 116, 117, 118, 119, 120, 121, 122, 48, 49, 50, 51, 52, 53, 54, 55, 56, 57, 46, 95]⟩ = Sp.pathS := rfl
theorem all_next {L : List Sp.Str} {f : Sp.Str → Bool} {k : Nat} (h : k < L.length) (ha : (L.take k).all f = true) (hk : f L[k] = true) : (L.take (k + 1)).all f = true := by
  rw [List.take_succ_eq_append_getElem h, List.all_append, ha]; simp [hk]
theorem all_stop {L : List Sp.Str} {f : Sp.Str → Bool} {k : Nat} (h : k < L.length) (hk : f L[k] = false) : L.all f = false := by
  rw [Bool.eq_false_iff]; intro ha
  rw [List.all_eq_true] at ha
  rw [ha L[k] (List.getElem_mem h)] at hk; cases hk
theorem path_stop {s : Sp.Str} {L : List Sp.Str} (hL : L = Lib.split s [47]) {k : Nat} (h : k < L.length) (hk : Sp.isPart L[k] = false) : Sp.isPath s = false := by
  unfold Sp.isPath; rw [← hL, all_stop h hk]; rfl
end R6
set_option maxRecDepth 100000 in
set_option maxHeartbeats 1000000 in
theorem isPath_any (s : ByteArray) (w : World) (hs : s.size < 1000000) :
    Calls Tryz.prog 120 #[.string s] w fun e w' => e = .returned (.bool (Sp.isPath (bl s))) ∧ Below w.heap.size w w' := by
  have hpl := Sp.split_length (bl s) [47] (by simp)
  rw [bl_len] at hpl
  have hpm : ∀ x ∈ Lib.split (bl s) [47], x.length < 1000000 := fun x hx => by
    have := Sp.split_mem (bl s) [47] x (by simp) hx; rw [bl_len] at this; omega
  have HPM := Lib.hid hpm
  clear hpm
  go_enter Tryz.func120, Tryz.ntmps120
  go_wp2_with fail
  refine (cutR_any s _ w (by omega) (by decide) (by decide)).mono ?_
  rintro e w1 ⟨v, rfl, hown, hb⟩
  rw [show bl ⟨#[47]⟩ = [47] from rfl] at hown
  have hv := StrsAt.of_row hown
  generalize hL : Lib.split (bl s) [47] = L at *
  obtain ⟨a, cap, rfl, hcap, hget⟩ := hv.get
  have HL := Lib.hid hL.symm
  have HG := Lib.hid hget
  clear hL hv hget hown
  go_wp2
  go_loop [4, 5] (fun i _ => ∃ k : Nat, k ≤ L.length ∧ i = .int .i64 k ∧ (L.take k).all Sp.isPart = true) (fun i _ => L.length - (intOf i).toNat)
  case atStart => exact ⟨0, Nat.zero_le _, rfl, rfl⟩
  case round =>
    obtain ⟨k, hk, rfl, hall⟩ := hrel
    have HA := Lib.hid hall
    clear hall
    by_cases h : k < L.length
    · obtain ⟨b, off, rfl, hbb, hcell⟩ := HG.out k h
      have hpiece : (⟨L[k].toArray⟩ : ByteArray).size < 1000000 := by
        have := HPM.out L[k] (List.getElem_mem h); rw [← bl_len, bl_mk]; omega
      clear HG
      go_wp2_with fail
      refine (made_any ⟨L[k].toArray⟩ _ 1 8 w1 (by omega) (by decide) (by decide) (by decide)).mono ?_
      rintro e w2 ⟨rfl, rfl⟩
      rw [R6.pathS_arr, bl_mk]
      cases hm : Sp.among L[k] Sp.pathS 1 8 with
      | false =>
        have HM := Lib.hid hm
        clear hm
        go_wp2
        go_ret
        exact ⟨ret_bool (R6.path_stop HL.out h (by unfold Sp.isPart; rw [HM.out]; rfl)).symm, hb⟩
      | true =>
        have HM := Lib.hid hm
        clear hm
        cases h1 : (L[k] == [46]) with
        | true =>
          go_wp2
          go_ret
          exact ⟨ret_bool (R6.path_stop HL.out h (by unfold Sp.isPart; rw [bne, h1]; simp)).symm, hb⟩
        | false =>
          cases h2 : (L[k] == [46, 46]) with
          | true =>
            go_wp2
            go_ret
            exact ⟨ret_bool (R6.path_stop HL.out h (by unfold Sp.isPart; rw [bne, bne, h2]; simp)).symm, hb⟩
          | false =>
            have hp : Sp.isPart L[k] = true := by unfold Sp.isPart; rw [HM.out, bne, bne, h1, h2]; rfl
            have HP := Lib.hid hp
            clear hp
            go_wp2
            go_round
            case rel => exact ⟨k + 1, h, by go_num, R6.all_next h HA.out HP.out⟩
            case measure => simp [intOf]; omega
    · obtain rfl : k = L.length := by omega
      have hall : L.all Sp.isPart = true := by have := HA.out; rwa [List.take_length] at this
      have HA' := Lib.hid hall
      clear hall HG
      go_wp2
      go_ret
      exact ⟨ret_bool (by unfold Sp.isPath; rw [← HL.out, HA'.out, Bool.true_and, Bool.eq_iff_iff]; simp; omega), hb⟩
/-- The reference's file, of whatever lies beside it. -/
def fileO (t : Sp.Str) : Option Sp.Fl :=
  if (Lib.cut t [61]).2.2 && Sp.isPath (Lib.cut t [61]).1 && decide ((Lib.cut t [61]).2.1.length ≤ 24) then some ⟨(Lib.cut t [61]).1, (Lib.cut t [61]).2.1⟩ else none
def FileR (s : Sp.Str) (w : World) (e : Ending) (w' : World) : Prop :=
  Below w.heap.size w w' ∧ ∃ (f : Sp.Fl) (ok : Bool), e = .returned (.tuple #[.agg #[sv f.path, sv f.content], .bool ok]) ∧ (fileO s = if ok then some f else none) ∧ f.path.length ≤ s.length
namespace R6
theorem at_ne {s : ByteArray} {a r : Sp.Str} (h : bl s = a ++ 61 :: r) (hn : (61 : UInt8) ∉ a) {k : Nat} (hk : k < a.length) (hks : k < s.size) : ((s[k].toNat : Int) != 61) = true := by
  have e : s[k] = (bl s)[k]'(by rw [bl_len]; exact hks) := rfl
  have e2 : (bl s)[k]'(by rw [bl_len]; exact hks) = a[k] := by simp only [h]; rw [List.getElem_append_left hk]
  have : s[k] ≠ 61 := by rw [e, e2]; intro h'; exact hn (h' ▸ List.getElem_mem hk)
  simp only [bne_iff_ne]
  intro h'
  apply this
  rw [← UInt8.toNat_inj]
  show s[k].toNat = 61
  omega
theorem at_eq {s : ByteArray} {a r : Sp.Str} (h : bl s = a ++ 61 :: r) (hks : a.length < s.size) : ((s[a.length].toNat : Int) != 61) = false := by
  have e : s[a.length] = (bl s)[a.length]'(by rw [bl_len]; exact hks) := rfl
  have e2 : (bl s)[a.length]'(by rw [bl_len]; exact hks) = 61 := by simp only [h]; rw [List.getElem_append_right (Nat.le_refl _)]; simp
  rw [e, e2]; rfl
theorem at_none {s : ByteArray} (hn : (61 : UInt8) ∉ bl s) {k : Nat} (hks : k < s.size) : ((s[k].toNat : Int) != 61) = true := by
  have e : s[k] = (bl s)[k]'(by rw [bl_len]; exact hks) := rfl
  have : s[k] ≠ 61 := by rw [e]; intro h'; exact hn (h' ▸ List.getElem_mem _)
  simp only [bne_iff_ne]
  intro h'
  apply this
  rw [← UInt8.toNat_inj]
  show s[k].toNat = 61
  omega
end R6
set_option maxHeartbeats 1000000 in
theorem file_none (s : ByteArray) (w : World) (hs : s.size < 1000000) (hn : (61 : UInt8) ∉ bl s) (hc : Lib.cut (bl s) [61] = (bl s, [], false)) :
    Calls Tryz.prog 71 #[.string s] w (FileR (bl s) w) := by
  have HN := Lib.hid hn
  have HC := Lib.hid hc
  clear hn hc
  go_enter Tryz.func71, Tryz.ntmps71
  go_wp2
  go_loop [4] (fun i => ∃ k : Nat, k ≤ s.size ∧ i = .int .i64 k) (fun i => s.size - (intOf i).toNat)
  case atStart => exact ⟨0, Nat.zero_le _, rfl⟩
  case round =>
    obtain ⟨k, hk, rfl⟩ := hrel
    by_cases h : k < s.size
    · have hne := R6.at_none HN.out h
      go_wp2
      go_round
      case rel => exact ⟨k + 1, h, by go_num⟩
      case measure => simp [intOf]; omega
    · obtain rfl : k = s.size := by omega
      go_wp2
      refine bodyPost_ret (v := .tuple #[.agg #[.string ⟨#[]⟩, .string ⟨#[]⟩], .bool false]) (by simp [results, Tryz.results71, go_sem]) rfl ?_
      refine ⟨?_, ⟨[], []⟩, false, rfl, by unfold fileO; rw [HC.out]; rfl, Nat.zero_le _⟩
      exact (Below.refl _ _).alloc (Nat.le_refl _) _
namespace R6
theorem ext_a {s : ByteArray} {a r : Sp.Str} (h : bl s = a ++ 61 :: r) : s.extract 0 a.length = ⟨a.toArray⟩ := bl_inj (by rw [bl_to, h, bl_mk]; simp)
theorem ext_r {s : ByteArray} {a r : Sp.Str} (h : bl s = a ++ 61 :: r) : s.extract (a.length + 1) s.size = ⟨r.toArray⟩ := bl_inj (by
  rw [bl_from, h, bl_mk]
  rw [show a ++ 61 :: r = (a ++ [61]) ++ r from by simp]
  rw [List.drop_left' (by simp)])
end R6
set_option maxRecDepth 100000 in
set_option maxHeartbeats 1000000 in
theorem file_some (s : ByteArray) (w : World) (hs : s.size < 1000000) (a r : Sp.Str) (h : bl s = a ++ 61 :: r) (hn : (61 : UInt8) ∉ a) (hc : Lib.cut (bl s) [61] = (a, r, true)) :
    Calls Tryz.prog 71 #[.string s] w (FileR (bl s) w) := by
  have hsz : s.size = a.length + 1 + r.length := by rw [← bl_len, h]; simp; omega
  have HSZ := Lib.hid hsz
  have hal : a.length < s.size := by omega
  have H := Lib.hid h
  have HN := Lib.hid hn
  have HC := Lib.hid hc
  clear hn hc h hsz
  go_enter Tryz.func71, Tryz.ntmps71
  go_wp2
  go_loop [4] (fun i => ∃ k : Nat, k ≤ a.length ∧ i = .int .i64 k) (fun i => a.length - (intOf i).toNat)
  case atStart => exact ⟨0, Nat.zero_le _, rfl⟩
  case round =>
    obtain ⟨k, hk, rfl⟩ := hrel
    by_cases h : k < a.length
    · have hks : k < s.size := by omega
      have hne := R6.at_ne H.out HN.out h hks
      go_wp2
      go_round
      case rel => exact ⟨k + 1, h, by go_num⟩
      case measure => simp [intOf]; omega
    · obtain rfl : k = a.length := by omega
      have heq := R6.at_eq H.out hal
      go_wp2_with fail
      rw [R6.ext_a H.out]
      refine (isPath_any _ _ (by rw [← bl_len, bl_mk]; omega)).mono ?_
      rintro e w1 ⟨rfl, hb⟩
      rw [bl_mk]
      obtain ⟨hc, hf⟩ := bcell hb
      have hz : w.heap.size < w1.heap.size := by have := hb.size; simp at this; omega
      have hb1 : Below w.heap.size w w1 := Below.trans ((Below.refl _ _).alloc (Nat.le_refl _) _) (hb.mono (by simp))
      cases hp : Sp.isPath a with
      | false =>
        have HP := Lib.hid hp
        clear hp
        go_wp2
        go_region
        go_wp2
        refine bodyPost_ret (v := .tuple #[.agg #[.string (s.extract 0 a.length), .string (s.extract (a.length + 1) s.size)], .bool false]) (by simp [results, Tryz.results71, go_sem, hc]) rfl ?_
        refine ⟨?_, ⟨a, r⟩, false, by rw [R6.ext_a H.out, R6.ext_r H.out]; rfl, by unfold fileO; rw [HC.out]; simp [HP.out], by rw [bl_len]; exact Nat.le_of_lt hal⟩
        refine Below.drew ?_
        repeat' (first | assumption | refine Below.setCell ?_ (by simp) _)
      | true =>
        have HP := Lib.hid hp
        clear hp
        go_wp2
        go_region
        go_wp2
        refine bodyPost_ret (v := .tuple #[.agg #[.string (s.extract 0 a.length), .string (s.extract (a.length + 1) s.size)], .bool (decide ((s.size : Int) - (a.length : Int) - 1 ≤ 24))]) (by simp [results, Tryz.results71, go_sem, hc]) rfl ?_
        have e : decide ((s.size : Int) - (a.length : Int) - 1 ≤ 24) = decide (r.length ≤ 24) := by
          have := HSZ.out
          rw [decide_eq_decide]; omega
        refine ⟨?_, ⟨a, r⟩, decide (r.length ≤ 24), by rw [R6.ext_a H.out, R6.ext_r H.out, e]; rfl, by unfold fileO; rw [HC.out]; simp [HP.out], by rw [bl_len]; exact Nat.le_of_lt hal⟩
        refine Below.drew ?_
        repeat' (first | assumption | refine Below.setCell ?_ (by simp) _)
theorem file_any (s : ByteArray) (w : World) (hs : s.size < 1000000) : Calls Tryz.prog 71 #[.string s] w (FileR (bl s) w) := by
  rcases T1.byte1 61 (bl s) with ⟨h1, _, h3⟩ | ⟨a, r, h1, h2, _, h3⟩
  · exact file_none s w hs h1 h3
  · exact file_some s w hs a r h1 h2 h3
end Go.Proofs.YtfphcecjhdkcoaaGreatDoor

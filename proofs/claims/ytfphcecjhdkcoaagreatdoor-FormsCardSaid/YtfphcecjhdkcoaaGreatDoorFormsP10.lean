/-
The walk of the reference's cut: the pieces of a text.
-/
import Derived.Test.YtfphcecjhdkcoaaGreatDoorFormsP02
import Derived.Test.YtfphcecjhdkcoaaGreatDoorFormsP09
import Derived.Test.YtfphcecjhdkcoaaGreatDoorProg
/-
Closed facts of the row Forms: each a theorem of its own.
-/
namespace Go.Proofs.YtfphcecjhdkcoaaGreatDoor
open Go.ChangeShapes Go.WideShapes Go.ChangeAt Go.RowKit
theorem f3place : Tryz.prog.inPlace 3 = Rows.formsRow.inPlace := by kernel_rfl
theorem f3unf : Tryz.prog.unfollowed 3 = true := by kernel_rfl
theorem f3rec : Tryz.prog.recurses 3 = true := by kernel_rfl
theorem f3named : Tryz.prog.varsNamed 3 = Rows.formsRow.named := by kernel_rfl
theorem f3fun : Tryz.prog.funcNamed "parcels/parcelslaw.Forms" = some 3 := by kernel_rfl
theorem f3inst : Tryz.f3.isInstance Tryz.prog Rows.formsRow.origin Rows.formsRow.targs := of_decide_eq_true (by kernel_rfl)
theorem f3wrap : Tryz.f3.isWrapper Tryz.prog Rows.formsRow.wrapper Rows.formsRow.mainSum := by unfold Func.isWrapper; rw [if_neg (of_decide_eq_false (by kernel_rfl))]; exact ⟨rfl, rfl⟩
theorem f3facts : joinedFacts Tryz.prog 3 Tryz.f3 Rows.formsSpec Rows.formsRow = true := by
  unfold joinedFacts
  rw [cLaid, cMaps, cStops, cKnobs, cLifted, cMake, cKeys, cHeard, cEnter, f3place, f3unf, f3rec, f3named]
  kernel_rfl
end Go.Proofs.YtfphcecjhdkcoaaGreatDoor
/-
Walks of the reference's small text functions: in, made, isName, isVersion, begins, over.
-/
namespace Go.Proofs.YtfphcecjhdkcoaaGreatDoor
open Go.RowKit
namespace R1
def has (l : Sp.Str) (c : UInt8) : Bool := l.contains c
theorem has_of {x t : ByteArray} {c : UInt8} {k : Nat} (hx : bl x = [c]) (h : k < t.size) (hc : ((t.extract k (k + 1)).toList == x.toList) = true) : has (bl t) c = true := by
  rw [eqs_bl, hx, bl_one t k h] at hc
  have : t[k] = c := by simpa using hc
  unfold has
  rw [List.contains_iff_mem, ← this]
  exact List.getElem_mem (l := bl t) (by rw [bl_len]; exact h)
theorem has_snoc {x t : ByteArray} {c : UInt8} {k : Nat} (hx : bl x = [c]) (h : k < t.size) (hc : ((t.extract k (k + 1)).toList == x.toList) = false) (hn : has ((bl t).take k) c = false) : has ((bl t).take (k + 1)) c = false := by
  rw [eqs_bl, hx, bl_one t k h] at hc
  have : t[k] ≠ c := by simpa using hc
  unfold has at *
  rw [take_snoc t k h, List.contains_eq_any_beq, List.any_append, ← List.contains_eq_any_beq, hn]
  simp; exact fun e => this e.symm
end R1
theorem in_any (x t : ByteArray) (c : UInt8) (w : World) (hx : bl x = [c]) (ht : t.size ≤ 4611686018427387904) :
    Calls Tryz.prog 118 #[.string x, .string t] w fun e w' => e = .returned (.bool (R1.has (bl t) c)) ∧ w = w' := by
  have hx1 : x.size = 1 := by rw [← bl_len, hx]; rfl
  have HX := Lib.hid hx
  clear hx
  go_enter Tryz.func118, Tryz.ntmps118
  go_wp2
  go_loop [5] (fun i => ∃ k : Nat, k ≤ t.size ∧ R1.has ((bl t).take k) c = false ∧ i = .int .i64 k) (fun i => t.size + 1 - (intOf i).toNat)
  case atStart => exact ⟨0, Nat.zero_le _, rfl, rfl⟩
  case round =>
    obtain ⟨k, hk, hn, rfl⟩ := hrel
    have HN := Lib.hid hn
    clear hn
    by_cases h : k < t.size
    · go_wp2
      · have hc : ((t.extract k (k + 1)).toList == x.toList) = true := by assumption
        go_ret
        exact ⟨ret_bool (R1.has_of HX.out h hc).symm, rfl⟩
      · have hc : ((t.extract k (k + 1)).toList == x.toList) = false := by assumption
        go_round
        case rel => exact ⟨k + 1, by omega, R1.has_snoc HX.out h hc HN.out, by go_num⟩
        case measure => simp [intOf]; omega
    · go_wp2
      go_ret
      have : (bl t).take k = bl t := List.take_of_length_le (by rw [bl_len]; omega)
      rw [this] at HN
      exact ⟨ret_bool HN.out.symm, rfl⟩
namespace R1
theorem all_snoc {s : ByteArray} {f : UInt8 → Bool} {k : Nat} (h : k < s.size) (ha : ((bl s).take k).all f = true) (hk : f s[k] = true) : ((bl s).take (k + 1)).all f = true := by
  rw [take_snoc s k h, List.all_append, ha]; simp [hk]
theorem made_stop {s : ByteArray} {t : Sp.Str} {a b k : Nat} (h : k < s.size) (hk : has t s[k] = false) : Sp.among (bl s) t a b = false := by
  unfold Sp.among
  have : (bl s).all (fun c => t.contains c) = false := by
    rw [Bool.eq_false_iff]; intro ha
    rw [List.all_eq_true] at ha
    have := ha s[k] (List.getElem_mem (l := bl s) (by rw [bl_len]; exact h))
    unfold has at hk
    rw [this] at hk; cases hk
  rw [this]; rfl
theorem made_all {s : ByteArray} {t : Sp.Str} {a b k : Nat} (h : ¬ k < s.size) (ha : ((bl s).take k).all (fun c => has t c) = true) : Sp.among (bl s) t a b = (decide (a ≤ s.size) && decide (s.size ≤ b)) := by
  have : (bl s).take k = bl s := List.take_of_length_le (by rw [bl_len]; omega)
  rw [this] at ha
  unfold Sp.among
  unfold has at ha
  rw [ha, bl_len, Bool.true_and]
end R1
theorem made_any (s t : ByteArray) (least most : Nat) (w : World) (hs : s.size ≤ 4611686018427387904) (ht : t.size ≤ 4611686018427387904) (_hl : least ≤ 4611686018427387904) (_hm : most ≤ 4611686018427387904) :
    Calls Tryz.prog 117 #[.string s, .string t, .int .i64 least, .int .i64 most] w fun e w' => e = .returned (.bool (Sp.among (bl s) (bl t) least most)) ∧ w = w' := by
  go_enter Tryz.func117, Tryz.ntmps117
  go_wp2
  go_loop [9, 10] (fun i _ => ∃ k : Nat, k ≤ s.size ∧ ((bl s).take k).all (fun c => R1.has (bl t) c) = true ∧ i = .int .i64 k) (fun i _ => s.size + 1 - (intOf i).toNat)
  case atStart => exact ⟨0, Nat.zero_le _, rfl, rfl⟩
  case round =>
    obtain ⟨k, hk, hn, rfl⟩ := hrel
    have HN := Lib.hid hn
    clear hn
    by_cases h : k < s.size
    · cases hh : R1.has (bl t) s[k] with
      | true =>
        have HH := Lib.hid hh
        clear hh
        go_wp2_with fail
        refine (in_any _ _ s[k] _ (bl_one s k h) ht).mono ?_
        rintro e w' ⟨rfl, rfl⟩
        rw [HH.out]
        go_wp2
        go_round
        case rel => exact ⟨k + 1, by omega, R1.all_snoc h HN.out HH.out, by go_num⟩
        case measure => simp [intOf]; omega
      | false =>
        have HH := Lib.hid hh
        clear hh
        go_wp2_with fail
        refine (in_any _ _ s[k] _ (bl_one s k h) ht).mono ?_
        rintro e w' ⟨rfl, rfl⟩
        rw [HH.out]
        go_wp2
        go_ret
        exact ⟨ret_bool (R1.made_stop h HH.out).symm, rfl⟩
    · by_cases h1 : least ≤ s.size
      · go_wp2
        go_ret
        exact ⟨ret_bool (by rw [R1.made_all h HN.out]; simp [h1]), rfl⟩
      · go_wp2
        go_ret
        exact ⟨ret_bool (by rw [R1.made_all h HN.out]; simp [h1]), rfl⟩
namespace R1
theorem head_size {s : ByteArray} {t : Sp.Str} {m : Nat} (h : Sp.among (bl s) t 1 m = true) : 0 < s.size := by
  unfold Sp.among at h
  simp at h
  have := h.1.2
  rw [bl_len] at this; omega
theorem head_ex {s : ByteArray} (h : 0 < s.size) : ∃ c r, bl s = c :: r ∧ bl (s.extract 0 1) = [c] := by
  have h1 := bl_one s 0 h
  cases hs : bl s with
  | nil => rw [← bl_len, hs] at h; simp at h
  | cons c r => exact ⟨c, r, rfl, by rw [bl_to, hs]; rfl⟩
theorem dig_has (c : UInt8) : has [48, 49, 50, 51, 52, 53, 54, 55, 56, 57] c = Sp.isDig c := by
  unfold has Sp.isDig
  rw [Bool.eq_iff_iff]
  simp only [List.contains_iff_mem, List.mem_cons, List.not_mem_nil, or_false, Bool.and_eq_true, decide_eq_true_eq]
  constructor
  · rintro (rfl | rfl | rfl | rfl | rfl | rfl | rfl | rfl | rfl | rfl) <;> decide
  · rintro ⟨h1, h2⟩
    have : c.toNat = 48 ∨ c.toNat = 49 ∨ c.toNat = 50 ∨ c.toNat = 51 ∨ c.toNat = 52 ∨ c.toNat = 53 ∨ c.toNat = 54 ∨ c.toNat = 55 ∨ c.toNat = 56 ∨ c.toNat = 57 := by omega
    simp only [← UInt8.toNat_inj]
    exact this
end R1
theorem isName_any (s : ByteArray) (w : World) (hs : s.size ≤ 4611686018427387904) :
    Calls Tryz.prog 67 #[.string s] w fun e w' => e = .returned (.bool (Sp.isName (bl s))) ∧ w = w' := by
  cases ha : Sp.among (bl s) Sp.nameS 1 12 with
  | false =>
    have HA := Lib.hid ha
    clear ha
    go_enter Tryz.func67, Tryz.ntmps67
    go_wp2_with fail
    refine (made_any s _ 1 12 w hs (by decide) (by decide) (by decide)).mono ?_
    rintro e w1 ⟨rfl, rfl⟩
    rw [show bl ⟨#[97, 98, 99, 100, 101, 102, 103, 104, 105, 106, 107, 108, 109, 110, 111, 112, 113, 114, 115, 116, 117, 118, 119, 120, 121, 122, 48, 49, 50, 51, 52, 53, 54, 55, 56, 57, 45]⟩ = Sp.nameS from rfl, HA.out]
    go_wp2
    go_ret
    exact ⟨ret_bool (by unfold Sp.isName; rw [HA.out]; rfl), rfl⟩
  | true =>
    have hsz := R1.head_size ha
    obtain ⟨c, r, hcr, hone⟩ := R1.head_ex hsz
    have HA := Lib.hid ha
    have HC := Lib.hid hcr
    have HO := Lib.hid hone
    clear ha hcr hone
    go_enter Tryz.func67, Tryz.ntmps67
    go_wp2_with fail
    refine (made_any s _ 1 12 w hs (by decide) (by decide) (by decide)).mono ?_
    rintro e w1 ⟨rfl, rfl⟩
    rw [show bl ⟨#[97, 98, 99, 100, 101, 102, 103, 104, 105, 106, 107, 108, 109, 110, 111, 112, 113, 114, 115, 116, 117, 118, 119, 120, 121, 122, 48, 49, 50, 51, 52, 53, 54, 55, 56, 57, 45]⟩ = Sp.nameS from rfl, HA.out]
    go_wp2_with fail
    refine (in_any _ _ c _ HO.out (by decide)).mono ?_
    rintro e w1 ⟨rfl, rfl⟩
    go_wp2
    go_ret
    exact ⟨ret_bool (by unfold Sp.isName; rw [HA.out, HC.out]; rfl), rfl⟩
theorem isVer_any (s : ByteArray) (w : World) (hs : s.size ≤ 4611686018427387904) :
    Calls Tryz.prog 68 #[.string s] w fun e w' => e = .returned (.bool (Sp.isVer (bl s))) ∧ w = w' := by
  cases ha : Sp.among (bl s) Sp.verS 1 16 with
  | false =>
    have HA := Lib.hid ha
    clear ha
    go_enter Tryz.func68, Tryz.ntmps68
    go_wp2_with fail
    refine (made_any s _ 1 16 w hs (by decide) (by decide) (by decide)).mono ?_
    rintro e w1 ⟨rfl, rfl⟩
    rw [show bl ⟨#[97, 98, 99, 100, 101, 102, 103, 104, 105, 106, 107, 108, 109, 110, 111, 112, 113, 114, 115, 116, 117, 118, 119, 120, 121, 122, 65, 66, 67, 68, 69, 70, 71, 72, 73, 74, 75, 76, 77, 78, 79, 80, 81, 82, 83, 84, 85, 86, 87, 88, 89, 90, 48, 49, 50, 51, 52, 53, 54, 55, 56, 57, 46, 43, 45, 126]⟩ = Sp.verS from rfl, HA.out]
    go_wp2
    go_ret
    exact ⟨ret_bool (by unfold Sp.isVer; rw [HA.out]; rfl), rfl⟩
  | true =>
    have hsz := R1.head_size ha
    obtain ⟨c, r, hcr, hone⟩ := R1.head_ex hsz
    have HA := Lib.hid ha
    have HC := Lib.hid hcr
    have HO := Lib.hid hone
    clear ha hcr hone
    go_enter Tryz.func68, Tryz.ntmps68
    go_wp2_with fail
    refine (made_any s _ 1 16 w hs (by decide) (by decide) (by decide)).mono ?_
    rintro e w1 ⟨rfl, rfl⟩
    rw [show bl ⟨#[97, 98, 99, 100, 101, 102, 103, 104, 105, 106, 107, 108, 109, 110, 111, 112, 113, 114, 115, 116, 117, 118, 119, 120, 121, 122, 65, 66, 67, 68, 69, 70, 71, 72, 73, 74, 75, 76, 77, 78, 79, 80, 81, 82, 83, 84, 85, 86, 87, 88, 89, 90, 48, 49, 50, 51, 52, 53, 54, 55, 56, 57, 46, 43, 45, 126]⟩ = Sp.verS from rfl, HA.out]
    go_wp2_with fail
    refine (in_any _ _ c _ HO.out (by decide)).mono ?_
    rintro e w1 ⟨rfl, rfl⟩
    go_wp2
    go_ret
    exact ⟨ret_bool (by unfold Sp.isVer; rw [HA.out, HC.out]; exact R1.dig_has c), rfl⟩
namespace R1
theorem pre_yes {s t : ByteArray} (_h : t.size ≤ s.size) : (bl t).isPrefixOf (bl s) = ((s.extract 0 t.size).toList == t.toList) := by
  rw [eqs_bl, bl_to, Bool.eq_iff_iff, List.isPrefixOf_iff_prefix, List.prefix_iff_eq_take, beq_iff_eq, bl_len]
  exact ⟨fun h => h.symm, fun h => h.symm⟩
theorem pre_no {s t : ByteArray} (h : ¬ t.size ≤ s.size) : (bl t).isPrefixOf (bl s) = false := by
  rw [Bool.eq_false_iff]; intro e
  have := (List.isPrefixOf_iff_prefix.1 e).length_le
  rw [bl_len, bl_len] at this; omega
end R1
theorem begins_any (s t : ByteArray) (w : World) :
    Calls Tryz.prog 69 #[.string s, .string t] w fun e w' => e = .returned (.bool ((bl t).isPrefixOf (bl s))) ∧ w = w' := by
  by_cases h : t.size ≤ s.size
  · go_enter Tryz.func69, Tryz.ntmps69
    go_wp2
    go_ret
    exact ⟨ret_bool (R1.pre_yes h).symm, rfl⟩
  · go_enter Tryz.func69, Tryz.ntmps69
    go_wp2
    go_ret
    exact ⟨ret_bool (R1.pre_no h).symm, rfl⟩
theorem over_any (s t : ByteArray) (w : World) (hs : s.size < 1000000) :
    Calls Tryz.prog 72 #[.string s, .string t] w fun e w' => e = .returned (.bool (Sp.over (bl s) (bl t))) ∧ w = w' := by
  go_enter Tryz.func72, Tryz.ntmps72
  go_wp2_with fail
  refine (begins_any _ _ _).mono ?_
  rintro e w1 ⟨rfl, rfl⟩
  go_wp2
  go_ret
  exact ⟨ret_bool (by rw [bl_app]; rfl), rfl⟩
end Go.Proofs.YtfphcecjhdkcoaaGreatDoor
namespace Go.Proofs.YtfphcecjhdkcoaaGreatDoor
open Go.RowKit
namespace R2
/-- How far the cut has come: what is done, where the piece under way began, how far has been looked. -/
def Far (s t : Sp.Str) (done : List Sp.Str) (f i : Nat) : Prop :=
  f ≤ i ∧ i ≤ s.length ∧ done ++ Lib.split (s.drop f) t = Lib.split s t ∧ ∀ j, j < i - f → Lib.occAt (s.drop f) t j = false
theorem far0 (s t : Sp.Str) : Far s t [] 0 0 := ⟨Nat.le_refl _, Nat.zero_le _, rfl, fun _j h => absurd h (Nat.not_lt_zero _)⟩
theorem far_hit {s t : Sp.Str} {done : List Sp.Str} {f i : Nat} (ht : t ≠ []) (h : Far s t done f i) (hi : i + t.length ≤ s.length) (ho : ((s.drop i).take t.length == t) = true) :
    Far s t (done ++ [(s.drop f).take (i - f)]) (i + t.length) (i + t.length) := by
  obtain ⟨h1, h2, h3, h4⟩ := h
  refine ⟨Nat.le_refl _, hi, ?_, fun _j hj => by omega⟩
  have ho' : Lib.occAt (s.drop f) t (i - f) = true := by
    rw [Sp.occ_drop, show f + (i - f) = i from by omega, Sp.occ_take _ _ _ hi]; exact ho
  rw [← h3, Sp.split_at (s.drop f) t ht (i - f) (by rw [List.length_drop]; omega) ho' h4, List.drop_drop, show f + (i - f + t.length) = i + t.length from by omega]
  simp
theorem far_miss {s t : Sp.Str} {done : List Sp.Str} {f i : Nat} (h : Far s t done f i) (ht : t ≠ []) (hi : i + t.length ≤ s.length) (ho : ((s.drop i).take t.length == t) = false) :
    Far s t done f (i + 1) := by
  obtain ⟨h1, h2, h3, h4⟩ := h
  have hl : 0 < t.length := List.length_pos_iff.2 ht
  refine ⟨by omega, by omega, h3, fun j hj => ?_⟩
  by_cases e : j = i - f
  · subst e
    rw [Sp.occ_drop, show f + (i - f) = i from by omega, Sp.occ_take _ _ _ hi]; exact ho
  · exact h4 j (by omega)
theorem far_end {s t : Sp.Str} {done : List Sp.Str} {f i : Nat} (ht : t ≠ []) (h : Far s t done f i) (hi : s.length < i + t.length) : Lib.split s t = done ++ [s.drop f] := by
  obtain ⟨h1, h2, h3, h4⟩ := h
  rw [← h3, Sp.split_end (s.drop f) t ht (i - f) (by rw [List.length_drop]; omega) h4]
theorem far_len {s t : Sp.Str} {done : List Sp.Str} {f i : Nat} (ht : t ≠ []) (h : Far s t done f i) : done.length ≤ s.length := by
  have h3 := h.2.2.1
  have h5 := Sp.split_length s t ht
  have h6 : 0 < (Lib.split (s.drop f) t).length := List.length_pos_iff.2 (Sp.split_ne _ t ht)
  rw [← h3, List.length_append] at h5
  omega
end R2
set_option maxRecDepth 100000 in
set_option maxHeartbeats 400000 in
theorem cut_any (s t : ByteArray) (w : World) (hs : s.size < 1099511627776) (ht : 0 < t.size) (ht2 : t.size < 1099511627776) :
    Calls Tryz.prog 43 #[.string s, .string t] w fun e w' => ∃ v, e = .returned v ∧ w'.ownsRow w.heap.size 9 1 v (Lib.split (bl s) (bl t)).length ((Lib.split (bl s) (bl t)).map sv) ∧ Below w.heap.size w w' := by
  have htn : bl t ≠ [] := by intro h; rw [← bl_len, h] at ht; simp at ht
  have HT := Lib.hid htn
  clear htn
  obtain ⟨B, hB⟩ : ∃ B, w.heap.size = B := ⟨_, rfl⟩
  rw [hB]
  have HB := Lib.hid hB
  clear hB
  go_enter Tryz.func43, Tryz.ntmps43
  go_wp2
  go_loopw [5, 6, 7] (fun v f i wr => ∃ (done : List Sp.Str) (a b : Nat), f = .int .i64 a ∧ i = .int .i64 b ∧ R2.Far (bl s) (bl t) done a b ∧ wr.ownsRow B 9 1 v done.length (done.map sv) ∧ Below B w wr) (fun _ _ i _ => s.size + 1 - (intOf i).toNat)
  case atStart => exact ⟨[], 0, 0, rfl, rfl, R2.far0 _ _, World.ownsRow_nil _ _ _ _, Below.refl _ _⟩
  case round =>
    obtain ⟨done, a, b, rfl, rfl, hfar, hown, hbel⟩ := hrel
    have h1 : a ≤ b := hfar.1
    have h2 : b ≤ s.size := by have := hfar.2.1; rw [bl_len] at this; exact this
    have h3 : done.length ≤ s.size := by have := R2.far_len HT.out hfar; rw [bl_len] at this; exact this
    have HF := Lib.hid hfar
    clear hfar
    have hB' : B ≤ wr.heap.size := by have := hbel.size; rw [HB.out] at this; exact this
    by_cases h : b + t.size ≤ s.size
    · go_wp2_with (at_builtin; refine wp_app app38 wr [.string (s.extract a b)] rfl (by simp [Value.oneCell']) rfl _ _ rfl B _ _ _ rfl hown rfl (by omega) hB' ?_; intro v' w1 hown' hgrow _)
      · have hc : ((s.extract b (b + t.size)).toList == t.toList) = true := by assumption
        rw [eqs_bl, bl_ext, show b + t.size - b = (bl t).length from by rw [bl_len]; omega] at hc
        have hb1 := below_of_grown hbel hB' hown hgrow
        go_roundw
        case rel =>
          have hf := R2.far_hit HT.out HF.out (by rw [bl_len, bl_len]; exact h) hc
          rw [bl_len] at hf
          have e : [Value.string (s.extract a b)] = [sv ((List.drop a (bl s)).take (b - a))] := by rw [← bl_ext]; unfold sv; rw [mk_bl]
          rw [e] at hown'
          exact ⟨_, b + t.size, b + t.size, by go_num, by go_num, hf, by simpa using hown', hb1⟩
        case measure => simp [intOf]; omega
      · have hc : ((s.extract b (b + t.size)).toList == t.toList) = false := by assumption
        rw [eqs_bl, bl_ext, show b + t.size - b = (bl t).length from by rw [bl_len]; omega] at hc
        go_roundw
        case rel => exact ⟨done, a, b + 1, rfl, by go_num, R2.far_miss HF.out HT.out (by rw [bl_len, bl_len]; exact h) hc, hown, hbel⟩
        case measure => simp [intOf]; omega
    · go_wp2_with (at_builtin; refine wp_app app38 wr [.string (s.extract a s.size)] rfl (by simp [Value.oneCell']) rfl _ _ rfl B _ _ _ rfl hown rfl (by omega) hB' ?_; intro v' w1 hown' hgrow _)
      have hb1 := below_of_grown hbel hB' hown hgrow
      have e : [Value.string (s.extract a s.size)] = [sv (List.drop a (bl s))] := by rw [← bl_from]; unfold sv; rw [mk_bl]
      rw [e] at hown'
      have hend := R2.far_end HT.out HF.out (by rw [bl_len, bl_len]; omega)
      go_ret
      exact ⟨v', rfl, by rw [hend]; simpa using hown', hb1⟩
end Go.Proofs.YtfphcecjhdkcoaaGreatDoor

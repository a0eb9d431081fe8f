/-
Walks of the reference's isPath and file.
-/
import Derived.Test.YtfphcecjhdkcoaaGreatDoorFormsP02
import Derived.Test.YtfphcecjhdkcoaaGreatDoorFormsP10
/-
Plain laws: the reference's way of taking a choice and a line apart comes to what Sp says.
-/
namespace Go.Proofs.YtfphcecjhdkcoaaGreatDoor
namespace T1
open Sp (Str)
theorem index1 (c : UInt8) : ∀ s : Str, (c ∉ s ∧ Lib.index s [c] = -1) ∨ ∃ a r, s = a ++ c :: r ∧ c ∉ a ∧ Lib.index s [c] = (a.length : Nat)
  | [] => .inl ⟨by simp, rfl⟩
  | b :: l => by
    by_cases h : b = c
    · subst h
      refine .inr ⟨[], l, rfl, by simp, ?_⟩
      unfold Lib.index; rw [if_pos (by simp [List.isPrefixOf])]; rfl
    · have hp : ¬ [c].isPrefixOf (b :: l) = true := by simp [List.isPrefixOf]; exact fun e => h e.symm
      rcases index1 c l with ⟨h1, h2⟩ | ⟨a, r, h1, h2, h3⟩
      · refine .inl ⟨by simp [h1]; exact fun e => h e.symm, ?_⟩
        unfold Lib.index; rw [if_neg hp, h2]; rfl
      · refine .inr ⟨b :: a, r, by rw [h1]; rfl, by simp [h2]; exact fun e => h e.symm, ?_⟩
        unfold Lib.index; rw [if_neg hp, h3, if_neg (by simp)]; simp
theorem byte1 (c : UInt8) (s : Str) : (c ∉ s ∧ Lib.split s [c] = [s] ∧ Lib.cut s [c] = (s, [], false)) ∨ ∃ a r, s = a ++ c :: r ∧ c ∉ a ∧ Lib.split s [c] = a :: Lib.split r [c] ∧ Lib.cut s [c] = (a, r, true) := by
  rcases index1 c s with ⟨h1, h2⟩ | ⟨a, r, h1, h2, h3⟩
  · refine .inl ⟨h1, Sp.split_miss s [c] (by simp) h2, ?_⟩
    unfold Lib.cut; rw [h2, if_neg (by omega)]
  · have e1 : s.take a.length = a := by rw [h1]; simp
    have e2 : s.drop (a.length + [c].length) = r := by rw [h1]; simp
    refine .inr ⟨a, r, h1, h2, ?_, ?_⟩
    · rw [Sp.split_hit s [c] (by simp) a.length h3, e1, e2]
    · unfold Lib.cut; rw [h3, if_pos (by omega), Int.toNat_natCast, e1, e2]
theorem occ_no {a r t : Str} {c : UInt8} {j : Nat} (h : c ∉ a) (hj : j < a.length) : Lib.occAt (a ++ r) (c :: t) j = false := by
  unfold Lib.occAt
  rw [List.drop_append_of_le_length (by omega)]
  have : (c == a[j]) = false := by simp; intro e; exact h (e ▸ List.getElem_mem hj)
  rw [List.drop_eq_getElem_cons hj, List.cons_append, List.isPrefixOf, this, Bool.false_and]
theorem cut2_none {s : Str} (h : (32 : UInt8) ∉ s) : Lib.cut s [32, 40] = (s, [], false) := by
  unfold Lib.cut
  rw [Lib.index_none, if_neg (by omega)]
  intro j hj
  by_cases hl : j < s.length
  · have := occ_no (r := []) (t := [40]) h hl; simpa using this
  · obtain rfl : j = s.length := by omega
    simp [Lib.occAt]
theorem cut2_here {a r : Str} (h : (32 : UInt8) ∉ a) : Lib.cut (a ++ 32 :: 40 :: r) [32, 40] = (a, r, true) := by
  have hi : Lib.index (a ++ 32 :: 40 :: r) [32, 40] = (a.length : Nat) := by
    refine Lib.index_first (by simp) ?_ (fun j hj => occ_no h hj)
    unfold Lib.occAt; simp [List.isPrefixOf]
  unfold Lib.cut
  rw [hi, if_pos (by omega), Int.toNat_natCast]
  simp
theorem cut2_later {a r : Str} (h : (32 : UInt8) ∉ a) (hr : r.head? ≠ some 40) : (32 : UInt8) ∈ (Lib.cut (a ++ 32 :: r) [32, 40]).1 := by
  rcases Sp.index_range (a ++ 32 :: r) [32, 40] (by simp) with h1 | ⟨i, h1, h2, h3, h4⟩
  · unfold Lib.cut; rw [h1, if_neg (by omega)]; simp
  · have hlt : a.length < i := by
      rcases Nat.lt_trichotomy i a.length with hlt | heq | hgt
      · rw [occ_no h hlt] at h3; cases h3
      · subst heq
        unfold Lib.occAt at h3
        rw [List.drop_left] at h3
        cases r with
        | nil => simp [List.isPrefixOf] at h3
        | cons b q =>
          simp [List.isPrefixOf] at h3
          exact absurd (by rw [← h3]; rfl) hr
      · exact hgt
    unfold Lib.cut
    rw [h1, if_pos (by omega), Int.toNat_natCast]
    simp only
    rw [List.take_append, show i - a.length = (i - a.length - 1) + 1 from by omega, List.take_succ_cons]
    simp
theorem mem_all {s set : Str} {c : UInt8} {m n : Nat} (h : c ∈ s) (hc : set.contains c = false) : Sp.among s set m n = false := by
  unfold Sp.among
  have : s.all (fun c => set.contains c) = false := by
    rw [Bool.eq_false_iff]; intro ha
    rw [List.all_eq_true] at ha
    rw [ha c h] at hc; cases hc
  rw [this]; rfl
theorem name_space {s : Str} (h : (32 : UInt8) ∈ s) : Sp.isName s = false := by
  unfold Sp.isName; rw [mem_all h (by decide)]; rfl
theorem ver_space {s : Str} (h : (32 : UInt8) ∈ s) : Sp.isVer s = false := by
  unfold Sp.isVer; rw [mem_all h (by decide)]; rfl
/-- The reference's choice. -/
def sgn (b : Str) : Bool := b == [40, 60, 60] || b == [40, 60, 61] || b == [40, 61] || b == [40, 62, 61] || b == [40, 62, 62]
def choiceR (s : Str) : Option Sp.Ch :=
  match Lib.split s [32] with
  | [_] => if Sp.isName s then some ⟨s, [], []⟩ else none
  | [a, b, c] => if Sp.isName a && !c.isEmpty && Sp.isVer (c.take (c.length - 1)) && sgn b && (c.drop (c.length - 1) == [41]) then some ⟨a, b.drop 1, c.take (c.length - 1)⟩ else none
  | _ => none
theorem sgn_cons (b : Str) : sgn (40 :: b) = Sp.signs.contains b := by
  unfold sgn Sp.signs
  simp [List.contains, List.elem]
  cases h1 : (b == [60, 60]) <;> cases h2 : (b == [60, 61]) <;> cases h3 : (b == [61]) <;> cases h4 : (b == [62, 61]) <;> cases h5 : (b == [62, 62]) <;> simp_all
theorem sgn_head {b : Str} (h : b.head? ≠ some 40) : sgn b = false := by
  cases b with
  | nil => rfl
  | cons x r =>
    have : x ≠ 40 := fun e => h (by rw [e]; rfl)
    unfold sgn; simp [this]
theorem suffix_last (c : Str) : Lib.hasSuffix c [41] = (!c.isEmpty && (c.drop (c.length - 1) == [41])) := by
  unfold Lib.hasSuffix
  cases c with
  | nil => rfl
  | cons x r =>
    rw [Bool.eq_iff_iff, List.isSuffixOf_iff_suffix, List.suffix_iff_eq_drop]
    simp only [List.isEmpty_cons, Bool.not_false, Bool.true_and, beq_iff_eq]
    exact ⟨fun h => h.symm, fun h => h.symm⟩
theorem trim_last (c : Str) (h : (c.drop (c.length - 1) == [41]) = true) (hc : c.isEmpty = false) : Lib.trimSuffix c [41] = c.take (c.length - 1) := by
  unfold Lib.trimSuffix
  rw [suffix_last, h, hc]
  simp
theorem choice_eq (s : Str) : choiceR s = Sp.choose s := by
  unfold choiceR
  rcases byte1 32 s with ⟨h1, h2, _⟩ | ⟨a, r, rfl, ha, h2, _⟩
  · rw [h2]
    unfold Sp.choose
    rw [cut2_none h1]
    simp
  · rw [h2]
    by_cases hr : r.head? = some 40
    · obtain ⟨r', rfl⟩ : ∃ r', r = 40 :: r' := by
        cases r with
        | nil => cases hr
        | cons x q => exact ⟨q, by simp at hr; rw [hr]⟩
      unfold Sp.choose
      rw [cut2_here ha]
      rcases byte1 32 r' with ⟨g1, g2, g3⟩ | ⟨b, v, rfl, hb, g2, g3⟩
      · have g4 : Lib.split (40 :: r') [32] = [40 :: r'] := by
          rcases byte1 32 (40 :: r') with ⟨_, k, _⟩ | ⟨x, y, e, _⟩
          · exact k
          · exfalso
            have : (32 : UInt8) ∈ (40 :: r') := by rw [e]; simp
            simp [g1] at this
        rw [g4, g3]
        simp
      · have g4 : Lib.split (40 :: (b ++ 32 :: v)) [32] = (40 :: b) :: Lib.split v [32] := by
          refine (Sp.split_hit _ [32] (by simp) (b.length + 1) ?_).trans ?_
          · refine Lib.index_first (by simp) ?_ fun j hj => ?_
            · unfold Lib.occAt; simp [List.isPrefixOf]
            · exact occ_no (a := 40 :: b) (r := 32 :: v) (by simp [hb]) (by simpa using hj)
          · simp
        rw [g4, g3]
        rcases byte1 32 v with ⟨k1, k2, _⟩ | ⟨x, y, rfl, _, k2, _⟩
        · rw [k2]
          simp only [List.drop_succ_cons, List.drop_zero, sgn_cons, suffix_last]
          cases e1 : Sp.isName a with
          | false => simp
          | true =>
            cases e2 : v.isEmpty with
            | true => simp
            | false =>
              cases e3 : (v.drop (v.length - 1) == [41]) with
              | false => simp
              | true =>
                rw [trim_last v e3 e2]
                cases e4 : Sp.isVer (v.take (v.length - 1)) <;> cases e5 : Sp.signs.contains b <;> simp
        · rw [k2]
          obtain ⟨z, zs, hz⟩ : ∃ z zs, Lib.split y [32] = z :: zs := by
            cases h : Lib.split y [32] with
            | nil => exact absurd h (Sp.split_ne _ _ (by simp))
            | cons z zs => exact ⟨z, zs, rfl⟩
          rw [hz]
          have hv : Lib.hasSuffix (x ++ 32 :: y) [41] = true → Sp.isVer (Lib.trimSuffix (x ++ 32 :: y) [41]) = false := by
            intro h
            refine ver_space ?_
            have h' := h
            rw [suffix_last] at h'
            simp only [Bool.and_eq_true] at h'
            rw [trim_last _ h'.2 (by cases x <;> rfl)]
            cases y with
            | nil =>
              have := h'.2
              simp at this
            | cons q qs =>
              have e : (x ++ 32 :: q :: qs).length - 1 = x.length + (qs.length + 1) := by simp
              rw [e, List.take_length_add_append, List.take_succ_cons]
              simp
          simp only
          cases e1 : Sp.isName a with
          | false => simp
          | true =>
            cases e2 : Lib.hasSuffix (x ++ 32 :: y) [41] with
            | false => simp
            | true => rw [hv e2]; simp
    · have hn : Sp.choose (a ++ 32 :: r) = none := by
        unfold Sp.choose
        rw [name_space (cut2_later ha hr)]
        simp
      rw [hn]
      rcases byte1 32 r with ⟨g1, g2, g3⟩ | ⟨b, v, rfl, hb, g2, g3⟩
      · rw [g2]
      · rw [g2]
        have hb' : b.head? ≠ some 40 := by
          intro e
          cases b with
          | nil => cases e
          | cons x q => exact hr e
        cases hv : Lib.split v [32] with
        | nil => rfl
        | cons z zs =>
          cases zs with
          | nil => simp [sgn_head hb']
          | cons _ _ => rfl
end T1
end Go.Proofs.YtfphcecjhdkcoaaGreatDoor
/-
Plain laws: the reference's line is Sp's, where no two files clash yet; and the files of what was read never do.
-/
namespace Go.Proofs.YtfphcecjhdkcoaaGreatDoor
namespace T2
open Sp (Str)
theorem word_prefix (w s : Str) (hw : (32 : UInt8) ∉ w) : (w ++ [32]).isPrefixOf s = ((Lib.cut s [32]).2.2 && (Lib.cut s [32]).1 == w) ∧ ((w ++ [32]).isPrefixOf s = true → (Lib.cut s [32]).2.1 = s.drop (w.length + 1)) := by
  rcases T1.byte1 32 s with ⟨h1, _, h3⟩ | ⟨a, r, rfl, ha, _, h3⟩
  · rw [h3]
    have : (w ++ [32]).isPrefixOf s = false := by
      rw [Bool.eq_false_iff]; intro e
      obtain ⟨t, ht⟩ := List.isPrefixOf_iff_prefix.1 e
      exact h1 (by rw [← ht]; simp)
    rw [this]; simp
  · rw [h3]
    simp only [Bool.true_and]
    have key : (w ++ [32]).isPrefixOf (a ++ 32 :: r) = true ↔ a = w := by
      constructor
      · intro e
        obtain ⟨t, ht⟩ := List.isPrefixOf_iff_prefix.1 e
        have ht' : w ++ 32 :: t = a ++ 32 :: r := by rw [← ht]; simp
        rcases List.append_eq_append_iff.1 ht' with ⟨x, e1, e2⟩ | ⟨x, e1, e2⟩
        · cases x with
          | nil => simpa using e1
          | cons y q =>
            exfalso
            have : (32 : UInt8) = y := by simpa using (List.cons.inj e2).1
            subst this
            exact ha (by rw [e1]; simp)
        · cases x with
          | nil => simpa using e1.symm
          | cons y q =>
            exfalso
            have : (32 : UInt8) = y := by simpa using (List.cons.inj e2).1
            subst this
            exact hw (by rw [e1]; simp)
      · rintro rfl
        exact List.isPrefixOf_iff_prefix.2 ⟨r, by simp⟩
    refine ⟨?_, fun e => ?_⟩
    · rw [Bool.eq_iff_iff, key]; simp
    · have := key.1 e
      subst this
      simp
theorem clash_snoc (q : Str) : ∀ l : List Str, Sp.clash1 (l ++ [q]) = (Sp.clash1 l || l.any (fun p => p == q || Sp.over p q || Sp.over q p))
  | [] => rfl
  | a :: r => by
    simp only [List.cons_append, Sp.clash1, clash_snoc q r, List.any_append, List.any_cons, List.any_nil, Bool.or_false]
    cases r.any (fun q => a == q || Sp.over a q || Sp.over q a) <;> cases Sp.clash1 r <;> cases (a == q || Sp.over a q || Sp.over q a) <;> rfl
/-- The reference's line. -/
def needsP : Str := [110, 101, 101, 100, 115, 32]
def barsP : Str := [98, 97, 114, 115, 32]
def fileP : Str := [102, 105, 108, 101, 32]
def fileR (fs : List Sp.Fl) (t : Str) : Option Sp.Fl :=
  if (Lib.cut t [61]).2.2 && Sp.isPath (Lib.cut t [61]).1 && decide ((Lib.cut t [61]).2.1.length ≤ 24) && fs.all (fun g => !Sp.over (Lib.cut t [61]).1 g.path && !Sp.over g.path (Lib.cut t [61]).1 && (Lib.cut t [61]).1 != g.path)
  then some ⟨(Lib.cut t [61]).1, (Lib.cut t [61]).2.1⟩ else none
def firstR (p : Sp.Pk) (s : Str) : Option Sp.Pk :=
  match Lib.split s [32] with
  | [a, b, c] => if a == Sp.packageW && Sp.isName b && Sp.isVer c then some { p with name := b, ver := c } else none
  | _ => none
def laterR (p : Sp.Pk) (s : Str) : Option Sp.Pk :=
  if needsP.isPrefixOf s && decide (p.needs.length + p.bars.length + p.files.length = 0) then (Sp.each (s.drop 6) [44, 32] 3 (fun g => Sp.each g [32, 124, 32] 3 Sp.choose)).map fun n => { p with needs := n }
  else if barsP.isPrefixOf s && decide (p.bars.length + p.files.length = 0) then (Sp.each (s.drop 5) [44, 32] 3 Sp.choose).map fun n => { p with bars := n }
  else if fileP.isPrefixOf s && decide (p.files.length < 4) then (fileR p.files (s.drop 5)).map fun f => { p with files := p.files ++ [f] }
  else none
theorem first_eq (p : Sp.Pk) (s : Str) : firstR p s = Sp.line p true s := by
  unfold firstR Sp.line
  rcases T1.byte1 32 s with ⟨h1, h2, h3⟩ | ⟨a, r, rfl, ha, h2, h3⟩
  · rw [h2, h3]; simp
  · rw [h2, h3]
    rcases T1.byte1 32 r with ⟨g1, g2, g3⟩ | ⟨b, v, rfl, hb, g2, g3⟩
    · rw [g2, g3]; cases h : (a == Sp.packageW) <;> simp
    · rw [g2, g3]
      rcases T1.byte1 32 v with ⟨k1, k2, k3⟩ | ⟨x, y, rfl, hx, k2, k3⟩
      · rw [k2]
        simp only [Bool.true_and]
        cases h : (a == Sp.packageW) <;> simp
      · rw [k2]
        obtain ⟨z, zs, hz⟩ : ∃ z zs, Lib.split y [32] = z :: zs := by
          cases h : Lib.split y [32] with
          | nil => exact absurd h (Sp.split_ne _ _ (by simp))
          | cons z zs => exact ⟨z, zs, rfl⟩
        rw [hz, T1.ver_space (s := x ++ 32 :: y) (by simp)]
        cases h : (a == Sp.packageW) <;> simp
theorem any_all (q : Str) (fs : List Sp.Fl) : (fs.map (·.path)).any (fun p => p == q || Sp.over p q || Sp.over q p) = !fs.all (fun g => !Sp.over q g.path && !Sp.over g.path q && q != g.path) := by
  induction fs with
  | nil => rfl
  | cons f r ih =>
    simp only [List.map_cons, List.any_cons, List.all_cons, ih]
    have : (f.path == q) = !(q != f.path) := by
      rw [Bool.eq_iff_iff]; simp; exact ⟨fun h => h.symm, fun h => h.symm⟩
    rw [this]
    cases Sp.over q f.path <;> cases Sp.over f.path q <;> cases (q != f.path) <;> simp
theorem later_eq (p : Sp.Pk) (s : Str) (hc : Sp.clash1 (p.files.map (·.path)) = false) : laterR p s = Sp.line p false s := by
  obtain ⟨n1, n2⟩ := word_prefix Sp.needsW s (by decide)
  obtain ⟨b1, b2⟩ := word_prefix Sp.barsW s (by decide)
  obtain ⟨f1, f2⟩ := word_prefix Sp.fileW s (by decide)
  have en : Sp.needsW ++ [32] = needsP := rfl
  have eb : Sp.barsW ++ [32] = barsP := rfl
  have ef : Sp.fileW ++ [32] = fileP := rfl
  rw [en] at n1 n2
  rw [eb] at b1 b2
  rw [ef] at f1 f2
  unfold laterR Sp.line
  rw [n1, b1, f1]
  rw [n1] at n2
  rw [b1] at b2
  rw [f1] at f2
  rcases hcut : Lib.cut s [32] with ⟨a, r, ok⟩
  rw [hcut] at n2 b2 f2
  simp only at n2 b2 f2 ⊢
  cases ok with
  | false => simp
  | true =>
    simp only [Bool.true_and] at n2 b2 f2 ⊢
    by_cases hp : a = Sp.packageW
    · subst hp; simp [Sp.packageW, Sp.needsW, Sp.barsW, Sp.fileW]
    · have hp' : (a == Sp.packageW) = false := by simpa using hp
      rw [hp']
      by_cases hn : a = Sp.needsW
      · subst hn
        have := n2 (by simp)
        subst this
        have e1 : (Sp.needsW == Sp.barsW) = false := by decide
        have e2 : (Sp.needsW == Sp.fileW) = false := by decide
        rw [e1, e2]
        have : decide (p.needs.length + p.bars.length + p.files.length = 0) = (p.needs.isEmpty && p.bars.isEmpty && p.files.isEmpty) := by
          rw [Bool.eq_iff_iff]; simp [List.isEmpty_iff]
        rw [this]
        simp [Sp.needsW]
      · have hn' : (a == Sp.needsW) = false := by simpa using hn
        rw [hn']
        by_cases hb : a = Sp.barsW
        · subst hb
          have := b2 (by simp)
          subst this
          have e2 : (Sp.barsW == Sp.fileW) = false := by decide
          rw [e2]
          have : decide (p.bars.length + p.files.length = 0) = (p.bars.isEmpty && p.files.isEmpty) := by
            rw [Bool.eq_iff_iff]; simp [List.isEmpty_iff]
          rw [this]
          simp [Sp.barsW]
        · have hb' : (a == Sp.barsW) = false := by simpa using hb
          rw [hb']
          by_cases hf : a = Sp.fileW
          · subst hf
            have := f2 (by simp)
            subst this
            unfold fileR
            rw [clash_snoc, hc, Bool.false_or, any_all, Bool.not_not]
            have e4 : Sp.fileW.length + 1 = 5 := rfl
            rw [e4]
            by_cases q1 : (Lib.cut (List.drop 5 s) [61]).2.2 = true <;> by_cases q2 : Sp.isPath (Lib.cut (List.drop 5 s) [61]).1 = true <;> by_cases q3 : (Lib.cut (List.drop 5 s) [61]).2.1.length ≤ 24 <;> by_cases q4 : p.files.length < 4 <;> by_cases q5 : (p.files.all fun g => !Sp.over (Lib.cut (List.drop 5 s) [61]).1 g.path && !Sp.over g.path (Lib.cut (List.drop 5 s) [61]).1 && (Lib.cut (List.drop 5 s) [61]).1 != g.path) = true <;> simp only [q1, q2, q3, q4, q5, decide_true, decide_false, Bool.and_true, Bool.and_false, Bool.false_and, if_true, if_false, Bool.false_eq_true, Option.map_some, Option.map_none, BEq.rfl, Bool.not_true] <;> simp
          · have hf' : (a == Sp.fileW) = false := by simpa using hf
            rw [hf']; simp
theorem line_clash {p p' : Sp.Pk} {first : Bool} {s : Str} (h : Sp.line p first s = some p') (hc : Sp.clash1 (p.files.map (·.path)) = false) : Sp.clash1 (p'.files.map (·.path)) = false := by
  unfold Sp.line at h
  split at h
  · cases h
  · split at h
    · split at h
      · cases h; exact hc
      · cases h
    · split at h
      · split at h
        · cases he : (Sp.each (Lib.cut s [32]).2.1 [44, 32] 3 fun g => Sp.each g [32, 124, 32] 3 Sp.choose) with
          | none => rw [he] at h; cases h
          | some n => rw [he] at h; cases h; exact hc
        · cases h
      · split at h
        · split at h
          · cases he : Sp.each (Lib.cut s [32]).2.1 [44, 32] 3 Sp.choose with
            | none => rw [he] at h; cases h
            | some n => rw [he] at h; cases h; exact hc
          · cases h
        · split at h
          · split at h
            · rename_i hh
              cases h
              simp only [Bool.and_eq_true, Bool.not_eq_true'] at hh
              rw [List.map_append]
              exact hh.2
            · cases h
          · cases h
end T2
end Go.Proofs.YtfphcecjhdkcoaaGreatDoor
/-
The walk of the reference's choice.
-/
namespace Go.Proofs.YtfphcecjhdkcoaaGreatDoor
open Go.RowKit
namespace R3
theorem strs1 {w : World} {v : Value} {x0 : Sp.Str} {r : List Sp.Str} (h : StrsAt w v (x0 :: r)) : ∃ b off cap, v = .slice (some ⟨b, off, none⟩) (r.length + 1) cap ∧ r.length + 1 ≤ cap ∧ b < w.heap.size ∧ w.cell? ⟨b, off, none⟩ = some (.string ⟨x0.toArray⟩) := by
  obtain ⟨a, cap, rfl, hcap, hget⟩ := h.get
  obtain ⟨b, off, rfl, hb, hc⟩ := hget 0 (by simp)
  exact ⟨b, off, cap, rfl, hcap, hb, hc⟩
theorem strs3 {w : World} {v : Value} {x0 x1 x2 : Sp.Str} (h : StrsAt w v [x0, x1, x2]) : ∃ b off cap, v = .slice (some ⟨b, off, none⟩) 3 cap ∧ 3 ≤ cap ∧ b < w.heap.size ∧ w.cell? ⟨b, off, none⟩ = some (.string ⟨x0.toArray⟩) ∧ w.cell? ⟨b, off + 1, none⟩ = some (.string ⟨x1.toArray⟩) ∧ w.cell? ⟨b, off + 2, none⟩ = some (.string ⟨x2.toArray⟩) := by
  obtain ⟨a, cap, rfl, hcap, hget⟩ := h.get
  obtain ⟨b, off, rfl, hb, hc⟩ := hget 0 (by simp)
  obtain ⟨b1, off1, e1, _, hc1⟩ := hget 1 (by simp)
  obtain ⟨b2, off2, e2, _, hc2⟩ := hget 2 (by simp)
  cases e1; cases e2
  exact ⟨b, off, cap, rfl, hcap, hb, hc, hc1, hc2⟩
theorem last_eq (x : Sp.Str) : (({ data := List.toArray x } : ByteArray).extract (List.length x - 1) (List.length x)).toList = x.drop (x.length - 1) := by
  rw [toList_bl, bl_ext, bl_mk]
  exact List.take_of_length_le (by rw [List.length_drop]; omega)
theorem ext_tail (x : Sp.Str) : ({ data := List.toArray x } : ByteArray).extract 1 (List.length x) = ⟨(x.drop 1).toArray⟩ :=
  bl_inj (by rw [bl_ext, bl_mk, bl_mk]; exact List.take_of_length_le (by rw [List.length_drop]; omega))
theorem ext_init (x : Sp.Str) (n : Nat) : ({ data := List.toArray x } : ByteArray).extract 0 n = ⟨(x.take n).toArray⟩ :=
  bl_inj (by rw [bl_to, bl_mk, bl_mk])
end R3
/-- What the reference's choice comes to. -/
def ChoiceR (s : Sp.Str) (w : World) (e : Ending) (w' : World) : Prop :=
  Below w.heap.size w w' ∧ ∃ (c : Sp.Ch) (ok : Bool), e = .returned (.tuple #[.agg #[sv c.name, sv c.sign, sv c.ver], .bool ok]) ∧ Sp.choose s = if ok then some c else none
theorem choice_one (s : ByteArray) (w : World) (hs : s.size < 1000000) (x0 : Sp.Str) (hP : Lib.split (bl s) [32] = [x0]) :
    Calls Tryz.prog 119 #[.string s] w (ChoiceR (bl s) w) := by
  have h0 : x0.length ≤ s.size := by rw [← bl_len]; exact Sp.split_mem (bl s) [32] x0 (by simp) (by rw [hP]; simp)
  have hx : x0 = bl s := by
    rcases T1.byte1 32 (bl s) with ⟨_, h2, _⟩ | ⟨a, r, _, _, h2, _⟩
    · rw [hP] at h2; exact (List.cons.inj h2).1
    · rw [hP] at h2; exact absurd (List.cons.inj h2).2.symm (Sp.split_ne _ _ (by simp))
  have hc : Sp.choose (bl s) = if Sp.isName x0 then some ⟨x0, [], []⟩ else none := by
    rw [← T1.choice_eq]; unfold T1.choiceR; rw [hP, hx]
  have HP := Lib.hid hP
  have HC := Lib.hid hc
  have HX := Lib.hid hx
  clear hP hc hx
  go_enter Tryz.func119, Tryz.ntmps119
  go_wp2_with fail
  refine (cut_any s _ _ (by omega) (by decide) (by decide)).mono ?_
  rintro e w1 ⟨v, rfl, hown, hb⟩
  rw [show bl ⟨#[32]⟩ = [32] from rfl, HP.out] at hown
  obtain ⟨b, off, cap, rfl, hcap, hbb, c0⟩ := R3.strs1 (StrsAt.of_row hown)
  simp only [List.length_nil, Nat.zero_add] at hcap
  simp only [List.length_nil, Nat.zero_add]
  clear hown
  obtain ⟨hc, hf⟩ := bcell hb
  have hz : w.heap.size < w1.heap.size := by have := hb.size; simp at this; omega
  go_wp2_with fail
  refine (isName_any _ _ (by rw [← bl_len, bl_mk]; omega)).mono ?_
  rintro e w2 ⟨rfl, rfl⟩
  rw [bl_mk]
  go_wp2
  refine bodyPost_ret (v := .tuple #[.agg #[.string s, .string ⟨#[]⟩, .string ⟨#[]⟩], .bool (Sp.isName x0)]) (by simp [results, Tryz.results119, go_sem, hc]) rfl ?_
  refine ⟨?_, ⟨bl s, [], []⟩, Sp.isName x0, ?_, ?_⟩
  · have hb1 : Below w.heap.size w w1 := Below.trans ((Below.refl _ _).alloc (Nat.le_refl _) _) (hb.mono (by simp))
    repeat' (first | assumption | refine Below.setCell ?_ (by simp) _ | refine Below.alloc ?_ (by simp; omega) _)
  · unfold sv; rw [mk_bl]
  · rw [HC.out, HX.out]
theorem choice_few (s : ByteArray) (w : World) (hs : s.size < 1000000) (x0 : Sp.Str) (r : List Sp.Str) (hP : Lib.split (bl s) [32] = x0 :: r) (hr : ¬ r.length = 0) (hr2 : ¬ r.length = 2) :
    Calls Tryz.prog 119 #[.string s] w (ChoiceR (bl s) w) := by
  have h0 : x0.length ≤ s.size := by rw [← bl_len]; exact Sp.split_mem (bl s) [32] x0 (by simp) (by rw [hP]; simp)
  have hc : Sp.choose (bl s) = none := by
    rw [← T1.choice_eq]; unfold T1.choiceR; rw [hP]
    match r, hr, hr2 with
    | [], h, _ => exact absurd rfl h
    | [_], _, _ => rfl
    | [_, _], _, h => exact absurd rfl h
    | _ :: _ :: _ :: _, _, _ => rfl
  have HP := Lib.hid hP
  have HC := Lib.hid hc
  clear hP hc
  go_enter Tryz.func119, Tryz.ntmps119
  go_wp2_with fail
  refine (cut_any s _ _ (by omega) (by decide) (by decide)).mono ?_
  rintro e w1 ⟨v, rfl, hown, hb⟩
  rw [show bl ⟨#[32]⟩ = [32] from rfl, HP.out] at hown
  obtain ⟨b, off, cap, rfl, hcap, hbb, c0⟩ := R3.strs1 (StrsAt.of_row hown)
  obtain ⟨n, hn⟩ : ∃ n, n = r.length + 1 := ⟨_, rfl⟩
  rw [← hn] at hcap ⊢
  have hn1 : ¬ n = 1 := by omega
  have hn3 : ¬ n = 3 := by omega
  have hn0 : 0 < n := by omega
  clear hown hn hr hr2
  obtain ⟨hc, hf⟩ := bcell hb
  have hz : w.heap.size < w1.heap.size := by have := hb.size; simp at this; omega
  go_wp2_with fail
  refine (isName_any _ _ (by rw [← bl_len, bl_mk]; omega)).mono ?_
  rintro e w2 ⟨rfl, rfl⟩
  rw [bl_mk]
  go_wp2
  refine bodyPost_ret (v := .tuple #[.agg #[.string ⟨#[]⟩, .string ⟨#[]⟩, .string ⟨#[]⟩], .bool false]) (by simp [results, Tryz.results119, go_sem, hc]) rfl ?_
  refine ⟨?_, ⟨[], [], []⟩, false, rfl, HC.out⟩
  have hb1 : Below w.heap.size w w1 := Below.trans ((Below.refl _ _).alloc (Nat.le_refl _) _) (hb.mono (by simp))
  repeat' (first | assumption | refine Below.setCell ?_ (by simp) _ | refine Below.alloc ?_ (by simp; omega) _)
end Go.Proofs.YtfphcecjhdkcoaaGreatDoor
/-
The walk of the reference's choice at three pieces; the reference's choice, whole.
-/
namespace Go.Proofs.YtfphcecjhdkcoaaGreatDoor
open Go.RowKit
set_option maxHeartbeats 2000000 in
theorem choice_three (s : ByteArray) (w : World) (hs : s.size < 1000000) (x0 x1 x2 : Sp.Str) (hP : Lib.split (bl s) [32] = [x0, x1, x2]) :
    Calls Tryz.prog 119 #[.string s] w (ChoiceR (bl s) w) := by
  have h0 : x0.length ≤ s.size := by rw [← bl_len]; exact Sp.split_mem (bl s) [32] x0 (by simp) (by rw [hP]; simp)
  have h2 : x2.length ≤ s.size := by rw [← bl_len]; exact Sp.split_mem (bl s) [32] x2 (by simp) (by rw [hP]; simp)
  have h1 : x1.length ≤ s.size := by rw [← bl_len]; exact Sp.split_mem (bl s) [32] x1 (by simp) (by rw [hP]; simp)
  have hc : Sp.choose (bl s) = if Sp.isName x0 && !x2.isEmpty && Sp.isVer (x2.take (x2.length - 1)) && T1.sgn x1 && (x2.drop (x2.length - 1) == [41]) then some ⟨x0, x1.drop 1, x2.take (x2.length - 1)⟩ else none := by
    rw [← T1.choice_eq]; unfold T1.choiceR; rw [hP]
  have HP := Lib.hid hP
  have HC := Lib.hid hc
  clear hP hc
  go_enter Tryz.func119, Tryz.ntmps119
  go_wp2_with fail
  refine (cut_any s _ _ (by omega) (by decide) (by decide)).mono ?_
  rintro e w1 ⟨v, rfl, hown, hb⟩
  rw [show bl ⟨#[32]⟩ = [32] from rfl, HP.out] at hown
  obtain ⟨b, off, cap, rfl, hcap, hbb, c0, c1, c2⟩ := R3.strs3 (StrsAt.of_row hown)
  clear hown
  obtain ⟨hc, hf⟩ := bcell hb
  have hz : w.heap.size < w1.heap.size := by have := hb.size; simp at this; omega
  have hb1 : Below w.heap.size w w1 := Below.trans ((Below.refl _ _).alloc (Nat.le_refl _) _) (hb.mono (by simp))
  go_wp2_with fail
  refine (isName_any _ _ (by rw [← bl_len, bl_mk]; omega)).mono ?_
  rintro e w2 ⟨rfl, rfl⟩
  rw [bl_mk]
  cases hn : Sp.isName x0 with
  | false =>
    have HN := Lib.hid hn
    clear hn
    go_wp2
    refine bodyPost_ret (v := .tuple #[.agg #[.string ⟨#[]⟩, .string ⟨#[]⟩, .string ⟨#[]⟩], .bool false]) (by simp [results, Tryz.results119, go_sem, hc]) rfl ?_
    refine ⟨?_, ⟨[], [], []⟩, false, rfl, by rw [HC.out, HN.out]; rfl⟩
    repeat' (first | assumption | refine Below.setCell ?_ (by simp) _ | refine Below.alloc ?_ (by simp; omega) _)
  | true =>
    have HN := Lib.hid hn
    clear hn
    by_cases hl : x2.length = 0
    · have HL := Lib.hid hl
      go_wp2
      refine bodyPost_ret (v := .tuple #[.agg #[.string ⟨#[]⟩, .string ⟨#[]⟩, .string ⟨#[]⟩], .bool false]) (by simp [results, Tryz.results119, go_sem, hc]) rfl ?_
      refine ⟨?_, ⟨[], [], []⟩, false, rfl, by rw [HC.out, List.length_eq_zero_iff.1 HL.out]; simp⟩
      repeat' (first | assumption | refine Below.setCell ?_ (by simp) _ | refine Below.alloc ?_ (by simp; omega) _)
    · have hl' : 0 < x2.length := by omega
      have HL : Hid (x2.isEmpty = false) := Lib.hid (by cases x2 with
        | nil => exact absurd rfl hl
        | cons _ _ => rfl)
      go_wp2_with fail
      refine (isVer_any _ _ (by rw [← bl_len, bl_to, bl_mk]; simp; omega)).mono ?_
      rintro e w2 ⟨rfl, rfl⟩
      rw [bl_to, bl_mk]
      cases hv : Sp.isVer (x2.take (x2.length - 1)) with
      | false =>
        have HV := Lib.hid hv
        clear hv
        go_wp2
        all_goals
          refine bodyPost_ret (v := .tuple #[.agg #[.string ⟨#[]⟩, .string ⟨#[]⟩, .string ⟨#[]⟩], .bool false]) (by simp [results, Tryz.results119, go_sem, hc]) rfl ?_
          refine ⟨?_, ⟨[], [], []⟩, false, rfl, by rw [HC.out, HV.out]; simp⟩
          repeat' (first | assumption | refine Below.setCell ?_ (by simp) _ | refine Below.alloc ?_ (by simp; omega) _)
      | true =>
        have HV := Lib.hid hv
        clear hv
        cases hsg : T1.sgn x1 with
        | false =>
          have HS := Lib.hid hsg
          have hs5 : (x1 == [40, 60, 60]) = false ∧ (x1 == [40, 60, 61]) = false ∧ (x1 == [40, 61]) = false ∧ (x1 == [40, 62, 61]) = false ∧ (x1 == [40, 62, 62]) = false := by
            unfold T1.sgn at hsg
            simp only [Bool.or_eq_false_iff] at hsg
            exact ⟨hsg.1.1.1.1, hsg.1.1.1.2, hsg.1.1.2, hsg.1.2, hsg.2⟩
          obtain ⟨s1, s2, s3, s4, s5⟩ := hs5
          clear hsg
          go_wp2
          refine bodyPost_ret (v := .tuple #[.agg #[.string ⟨#[]⟩, .string ⟨#[]⟩, .string ⟨#[]⟩], .bool false]) (by simp [results, Tryz.results119, go_sem, hc]) rfl ?_
          refine ⟨?_, ⟨[], [], []⟩, false, rfl, by rw [HC.out, HS.out]; simp⟩
          repeat' (first | assumption | refine Below.setCell ?_ (by simp) _ | refine Below.alloc ?_ (by simp; omega) _)
        | true =>
          have HS := Lib.hid hsg
          have hs5 : (x1 == [40, 60, 60]) = true ∨ ((x1 == [40, 60, 60]) = false ∧ (x1 == [40, 60, 61]) = true) ∨ ((x1 == [40, 60, 60]) = false ∧ (x1 == [40, 60, 61]) = false ∧ (x1 == [40, 61]) = true) ∨
              ((x1 == [40, 60, 60]) = false ∧ (x1 == [40, 60, 61]) = false ∧ (x1 == [40, 61]) = false ∧ (x1 == [40, 62, 61]) = true) ∨ ((x1 == [40, 60, 60]) = false ∧ (x1 == [40, 60, 61]) = false ∧ (x1 == [40, 61]) = false ∧ (x1 == [40, 62, 61]) = false ∧ (x1 == [40, 62, 62]) = true) := by
            unfold T1.sgn at hsg
            revert hsg
            cases (x1 == [40, 60, 60]) <;> cases (x1 == [40, 60, 61]) <;> cases (x1 == [40, 61]) <;> cases (x1 == [40, 62, 61]) <;> cases (x1 == [40, 62, 62]) <;> simp
          have hlx : 1 ≤ x1.length := by
            cases x1 with
            | nil => simp [T1.sgn] at hsg
            | cons _ _ => simp
          clear hsg
          rcases hs5 with s1 | ⟨s1, s2⟩ | ⟨s1, s2, s3⟩ | ⟨s1, s2, s3, s4⟩ | ⟨s1, s2, s3, s4, s5⟩
          all_goals
            go_wp2
            · have hla : (!(({ data := List.toArray x2 } : ByteArray).extract (List.length x2 - 1) (List.length x2)).toList == [41]) = true := by assumption
              rw [R3.last_eq] at hla
              refine bodyPost_ret (v := .tuple #[.agg #[.string ⟨#[]⟩, .string ⟨#[]⟩, .string ⟨#[]⟩], .bool false]) (by simp [results, Tryz.results119, go_sem, hc]) rfl ?_
              refine ⟨?_, ⟨[], [], []⟩, false, rfl, by rw [HC.out, show (x2.drop (x2.length - 1) == [41]) = false from by simpa using hla]; simp⟩
              repeat' (first | assumption | refine Below.setCell ?_ (by simp) _ | refine Below.alloc ?_ (by simp; omega) _)
            · have hla : (!(({ data := List.toArray x2 } : ByteArray).extract (List.length x2 - 1) (List.length x2)).toList == [41]) = false := by assumption
              rw [R3.last_eq] at hla
              have HLA := Lib.hid hla
              clear hla
              go_region
              go_wp2
              refine bodyPost_ret (v := .tuple #[.agg #[.string ⟨x0.toArray⟩, .string (({ data := List.toArray x1 } : ByteArray).extract 1 x1.length), .string (({ data := List.toArray x2 } : ByteArray).extract 0 (x2.length - 1))], .bool true]) (by simp [results, Tryz.results119, go_sem, hc]) rfl ?_
              refine ⟨?_, ⟨x0, x1.drop 1, x2.take (x2.length - 1)⟩, true, by rw [R3.ext_tail, R3.ext_init]; rfl, by rw [HC.out, HN.out, HL.out, HV.out, HS.out, show (x2.drop (x2.length - 1) == [41]) = true from by simpa using HLA.out]; rfl⟩
              refine Below.drew ?_
              repeat' (first | assumption | refine Below.setCell ?_ (by simp) _ | refine Below.alloc ?_ (by simp; omega) _)
theorem choice_any (s : ByteArray) (w : World) (hs : s.size < 1000000) : Calls Tryz.prog 119 #[.string s] w (ChoiceR (bl s) w) := by
  match hP : Lib.split (bl s) [32] with
  | [] => exact absurd hP (Sp.split_ne _ _ (by simp))
  | [x0] => exact choice_one s w hs x0 hP
  | [x0, x1] => exact choice_few s w hs x0 [x1] hP (by simp) (by simp)
  | [x0, x1, x2] => exact choice_three s w hs x0 x1 x2 hP
  | x0 :: x1 :: x2 :: x3 :: r => exact choice_few s w hs x0 (x1 :: x2 :: x3 :: r) hP (by simp) (by simp)
end Go.Proofs.YtfphcecjhdkcoaaGreatDoor
/-
Walks of the reference's choices, isPath and file.
-/
namespace Go.Proofs.YtfphcecjhdkcoaaGreatDoor
open Go.RowKit
theorem info135 : (Tryz.prog.info? 135).map (fun i => (i.zero, i.size, i.bytes)) = some (some (.agg #[.string ⟨#[]⟩, .string ⟨#[]⟩, .string ⟨#[]⟩]), 3, 48) := by kernel_rfl
theorem app27 : AppTy 27 135 3 48 := AppTy.of Tryz.underlying27 info135 rfl (by decide) (by decide)
/-- What the reference's choices comes to. -/
def ChoicesR (s sep : Sp.Str) (most : Nat) (w : World) (e : Ending) (w' : World) : Prop :=
  Below w.heap.size w w' ∧ ∃ (l : List Sp.Ch) (v : Value) (ok : Bool), e = .returned (.tuple #[v, .bool ok]) ∧ Sp.each s sep most Sp.choose = (if ok then some l else none) ∧ w'.ownsRow w.heap.size 135 3 v l.length (chRow l)
set_option maxRecDepth 100000 in
set_option maxHeartbeats 1000000 in
theorem choices_any (s sep : ByteArray) (most : Nat) (w : World) (hs : s.size < 1000000) (h0 : 0 < sep.size) (hsep : sep.size < 1000) :
    Calls Tryz.prog 70 #[.string s, .string sep, .int .i64 most] w (ChoicesR (bl s) (bl sep) most w) := by
  have htn : bl sep ≠ [] := by intro h; rw [← bl_len, h] at h0; simp at h0
  have hpl := Sp.split_length (bl s) (bl sep) htn
  rw [bl_len] at hpl
  have hpm : ∀ x ∈ Lib.split (bl s) (bl sep), x.length < 1000000 := fun x hx => by
    have := Sp.split_mem (bl s) (bl sep) x htn hx; rw [bl_len] at this; omega
  have HPM := Lib.hid hpm
  clear htn hpm
  obtain ⟨B, hB⟩ : ∃ B, w.heap.size = B := ⟨_, rfl⟩
  have HB := Lib.hid hB
  go_enter Tryz.func70, Tryz.ntmps70
  go_wp2_with fail
  refine (cut_any s sep w (by omega) h0 (by omega)).mono ?_
  rintro e w1 ⟨v, rfl, hown, hb⟩
  have hv := StrsAt.of_row hown
  generalize hL : Lib.split (bl s) (bl sep) = L at *
  obtain ⟨a, cap, rfl, hcap, hget⟩ := hv.get
  have HL := Lib.hid hL.symm
  have HG := Lib.hid hget
  clear hL hv hget hown
  rw [hB] at hb
  clear hB
  have hBw : B ≤ w1.heap.size := by have := hb.size; rw [HB.out] at this; exact this
  go_wp2
  go_loopw [9, 10, 11, 12] (fun v i _ _ wr => ∃ (k : Nat) (done : List Sp.Ch), k ≤ L.length ∧ i = .int .i64 k ∧ Sp.mapO Sp.choose (L.take k) = some done ∧ wr.ownsRow w1.heap.size 135 3 v done.length (chRow done) ∧ Below w1.heap.size w1 wr) (fun _ i _ _ _ => L.length - (intOf i).toNat)
  case atStart => exact ⟨0, [], Nat.zero_le _, rfl, rfl, World.ownsRow_nil _ _ _ _, Below.refl _ _⟩
  case round =>
    obtain ⟨k, done, hk, rfl, hdone, hown, hbel⟩ := hrel
    have hlen := W3.mapO_len _ _ _ hdone
    rw [List.length_take, Nat.min_eq_left hk] at hlen
    have HD := Lib.hid hdone
    have hn : done.length ≤ 1000000 := by omega
    have HLEN := Lib.hid hlen
    have hbw : Below B w wr := hb.trans (hbel.mono hBw)
    have hw1 : w1.heap.size ≤ wr.heap.size := hbel.size
    have hbw0 : B ≤ wr.heap.size := by omega
    clear hdone hlen
    by_cases h : k < L.length
    · obtain ⟨b, off, rfl, hbb, hcell⟩ := HG.out k h
      have hcell' := (hbel.cell (p := ⟨b, off + k, none⟩) hbb).trans hcell
      have hpiece : (⟨L[k].toArray⟩ : ByteArray).size < 1000000 := by
        have := HPM.out L[k] (List.getElem_mem h); rw [← bl_len, bl_mk]; omega
      clear hcell HG
      go_wp2_with fail
      refine (choice_any ⟨L[k].toArray⟩ wr hpiece).mono ?_
      rintro e w2 ⟨hb2, c, ok, rfl, hch⟩
      rw [bl_mk] at hch
      have HCH := Lib.hid hch
      have hown2 := W3.row_keep hown hb2
      have hbel2 := hbel.trans (hb2.mono hw1)
      have hs2 := hb2.size
      clear hch
      unfold sv
      cases ok with
      | false =>
        go_wp2
        go_ret2
        refine ⟨?_, [], _, false, rfl, W3.each_stop HL.out (W3.mapO_stop _ L[k] L (List.getElem_mem h) HCH.out), World.ownsRow_nil _ _ _ _⟩
        rw [HB.out]
        have hb3 := hbw.trans (hb2.mono hbw0)
        exact hb3.alloc (by omega) _
      | true =>
        go_wp2_with (at_builtin; refine wp_app app27 (w2.alloc (Obj.cells #[Value.string ⟨c.name.toArray⟩, Value.string ⟨c.sign.toArray⟩, Value.string ⟨c.ver.toArray⟩] 135)) [.string ⟨c.name.toArray⟩, .string ⟨c.sign.toArray⟩, .string ⟨c.ver.toArray⟩] rfl (by simp [Value.oneCell']) rfl _ _ rfl w1.heap.size _ _ _ rfl (hown2.alloc _) (by rw [World.size_alloc]; rfl) (by omega) (by simp; omega) ?_; intro v' w3 hown' hgrow _)
        have hbel3 := below_of_grown (hbel2.alloc hbel2.size _) (by simp; omega) (hown2.alloc _) hgrow
        have e : [Value.string ⟨c.name.toArray⟩, .string ⟨c.sign.toArray⟩, .string ⟨c.ver.toArray⟩] = [sv c.name, sv c.sign, sv c.ver] := rfl
        rw [e, chRow_snoc] at hown'
        go_roundw
        case rel => exact ⟨k + 1, done ++ [c], h, by go_num, W3.mapO_next h HD.out HCH.out, by simpa using hown', hbel3⟩
        case measure => simp [intOf]; omega
    · obtain rfl : k = L.length := by omega
      have hdone' : Sp.mapO Sp.choose L = some done := by have := HD.out; rwa [List.take_length] at this
      have hln : (done.length : Int) = L.length := by have := HLEN.out; omega
      have HD' := Lib.hid hdone'
      have HLN := Lib.hid hln
      clear hdone' hln HG
      obtain ⟨ra, rc, rfl⟩ := W3.row_slice hown
      by_cases hmo : done.length ≤ most
      · go_wp2
        go_ret2
        exact ⟨by rw [HB.out]; exact hbw, done, _, true, rfl, by rw [W3.each_of HL.out HD'.out, if_pos hmo]; rfl, W3.row_base hown (by rw [HB.out]; exact hBw)⟩
      · go_wp2
        go_ret2
        exact ⟨by rw [HB.out]; exact hbw, done, _, false, rfl, by rw [W3.each_of HL.out HD'.out, if_neg hmo]; rfl, W3.row_base hown (by rw [HB.out]; exact hBw)⟩
end Go.Proofs.YtfphcecjhdkcoaaGreatDoor
namespace Go.Proofs.YtfphcecjhdkcoaaGreatDoor
open Go.RowKit
namespace R6
theorem pathS_arr : bl ⟨#[97, 98, 99, 100, 101, 102, 103, 104, 105, 106, 107, 108, 109, 110, 111, 112, 113, 114, 115, 116, 117, 118, 119, 120, 121, 122, 48, 49, 50, 51, 52, 53, 54, 55, 56, 57, 46, 95]⟩ = Sp.pathS := rfl
theorem all_next {L : List Sp.Str} {f : Sp.Str → Bool} {k : Nat} (h : k < L.length) (ha : (L.take k).all f = true) (hk : f L[k] = true) : (L.take (k + 1)).all f = true := by
  rw [List.take_succ_eq_append_getElem h, List.all_append, ha]; simp [hk]
theorem all_stop {L : List Sp.Str} {f : Sp.Str → Bool} {k : Nat} (h : k < L.length) (hk : f L[k] = false) : L.all f = false := by
  rw [Bool.eq_false_iff]; intro ha
  rw [List.all_eq_true] at ha
  rw [ha L[k] (List.getElem_mem h)] at hk; cases hk
theorem path_stop {s : Sp.Str} {L : List Sp.Str} (hL : L = Lib.split s [47]) {k : Nat} (h : k < L.length) (hk : Sp.isPart L[k] = false) : Sp.isPath s = false := by
  unfold Sp.isPath; rw [← hL, all_stop h hk]; rfl
end R6
set_option maxRecDepth 100000 in
set_option maxHeartbeats 1000000 in
theorem isPath_any (s : ByteArray) (w : World) (hs : s.size < 1000000) :
    Calls Tryz.prog 120 #[.string s] w fun e w' => e = .returned (.bool (Sp.isPath (bl s))) ∧ Below w.heap.size w w' := by
  have hpl := Sp.split_length (bl s) [47] (by simp)
  rw [bl_len] at hpl
  have hpm : ∀ x ∈ Lib.split (bl s) [47], x.length < 1000000 := fun x hx => by
    have := Sp.split_mem (bl s) [47] x (by simp) hx; rw [bl_len] at this; omega
  have HPM := Lib.hid hpm
  clear hpm
  go_enter Tryz.func120, Tryz.ntmps120
  go_wp2_with fail
  refine (cut_any s _ w (by omega) (by decide) (by decide)).mono ?_
  rintro e w1 ⟨v, rfl, hown, hb⟩
  rw [show bl ⟨#[47]⟩ = [47] from rfl] at hown
  have hv := StrsAt.of_row hown
  generalize hL : Lib.split (bl s) [47] = L at *
  obtain ⟨a, cap, rfl, hcap, hget⟩ := hv.get
  have HL := Lib.hid hL.symm
  have HG := Lib.hid hget
  clear hL hv hget hown
  go_wp2
  go_loop [4, 5] (fun i _ => ∃ k : Nat, k ≤ L.length ∧ i = .int .i64 k ∧ (L.take k).all Sp.isPart = true) (fun i _ => L.length - (intOf i).toNat)
  case atStart => exact ⟨0, Nat.zero_le _, rfl, rfl⟩
  case round =>
    obtain ⟨k, hk, rfl, hall⟩ := hrel
    have HA := Lib.hid hall
    clear hall
    by_cases h : k < L.length
    · obtain ⟨b, off, rfl, hbb, hcell⟩ := HG.out k h
      have hpiece : (⟨L[k].toArray⟩ : ByteArray).size < 1000000 := by
        have := HPM.out L[k] (List.getElem_mem h); rw [← bl_len, bl_mk]; omega
      clear HG
      go_wp2_with fail
      refine (made_any ⟨L[k].toArray⟩ _ 1 8 w1 (by omega) (by decide) (by decide) (by decide)).mono ?_
      rintro e w2 ⟨rfl, rfl⟩
      rw [R6.pathS_arr, bl_mk]
      cases hm : Sp.among L[k] Sp.pathS 1 8 with
      | false =>
        have HM := Lib.hid hm
        clear hm
        go_wp2
        go_ret
        exact ⟨ret_bool (R6.path_stop HL.out h (by unfold Sp.isPart; rw [HM.out]; rfl)).symm, hb⟩
      | true =>
        have HM := Lib.hid hm
        clear hm
        cases h1 : (L[k] == [46]) with
        | true =>
          go_wp2
          go_ret
          exact ⟨ret_bool (R6.path_stop HL.out h (by unfold Sp.isPart; rw [bne, h1]; simp)).symm, hb⟩
        | false =>
          cases h2 : (L[k] == [46, 46]) with
          | true =>
            go_wp2
            go_ret
            exact ⟨ret_bool (R6.path_stop HL.out h (by unfold Sp.isPart; rw [bne, bne, h2]; simp)).symm, hb⟩
          | false =>
            have hp : Sp.isPart L[k] = true := by unfold Sp.isPart; rw [HM.out, bne, bne, h1, h2]; rfl
            have HP := Lib.hid hp
            clear hp
            go_wp2
            go_round
            case rel => exact ⟨k + 1, h, by go_num, R6.all_next h HA.out HP.out⟩
            case measure => simp [intOf]; omega
    · obtain rfl : k = L.length := by omega
      have hall : L.all Sp.isPart = true := by have := HA.out; rwa [List.take_length] at this
      have HA' := Lib.hid hall
      clear hall HG
      go_wp2
      go_ret
      exact ⟨ret_bool (by unfold Sp.isPath; rw [← HL.out, HA'.out, Bool.true_and, Bool.eq_iff_iff]; simp; omega), hb⟩
/-- The reference's file, of whatever lies beside it. -/
def fileO (t : Sp.Str) : Option Sp.Fl :=
  if (Lib.cut t [61]).2.2 && Sp.isPath (Lib.cut t [61]).1 && decide ((Lib.cut t [61]).2.1.length ≤ 24) then some ⟨(Lib.cut t [61]).1, (Lib.cut t [61]).2.1⟩ else none
def FileR (s : Sp.Str) (w : World) (e : Ending) (w' : World) : Prop :=
  Below w.heap.size w w' ∧ ∃ (f : Sp.Fl) (ok : Bool), e = .returned (.tuple #[.agg #[sv f.path, sv f.content], .bool ok]) ∧ (fileO s = if ok then some f else none) ∧ f.path.length ≤ s.length
namespace R6
theorem at_ne {s : ByteArray} {a r : Sp.Str} (h : bl s = a ++ 61 :: r) (hn : (61 : UInt8) ∉ a) {k : Nat} (hk : k < a.length) (hks : k < s.size) : ((s[k].toNat : Int) != 61) = true := by
  have e : s[k] = (bl s)[k]'(by rw [bl_len]; exact hks) := rfl
  have e2 : (bl s)[k]'(by rw [bl_len]; exact hks) = a[k] := by simp only [h]; rw [List.getElem_append_left hk]
  have : s[k] ≠ 61 := by rw [e, e2]; intro h'; exact hn (h' ▸ List.getElem_mem hk)
  simp only [bne_iff_ne]
  intro h'
  apply this
  rw [← UInt8.toNat_inj]
  show s[k].toNat = 61
  omega
theorem at_eq {s : ByteArray} {a r : Sp.Str} (h : bl s = a ++ 61 :: r) (hks : a.length < s.size) : ((s[a.length].toNat : Int) != 61) = false := by
  have e : s[a.length] = (bl s)[a.length]'(by rw [bl_len]; exact hks) := rfl
  have e2 : (bl s)[a.length]'(by rw [bl_len]; exact hks) = 61 := by simp only [h]; rw [List.getElem_append_right (Nat.le_refl _)]; simp
  rw [e, e2]; rfl
theorem at_none {s : ByteArray} (hn : (61 : UInt8) ∉ bl s) {k : Nat} (hks : k < s.size) : ((s[k].toNat : Int) != 61) = true := by
  have e : s[k] = (bl s)[k]'(by rw [bl_len]; exact hks) := rfl
  have : s[k] ≠ 61 := by rw [e]; intro h'; exact hn (h' ▸ List.getElem_mem _)
  simp only [bne_iff_ne]
  intro h'
  apply this
  rw [← UInt8.toNat_inj]
  show s[k].toNat = 61
  omega
end R6
set_option maxHeartbeats 1000000 in
theorem file_none (s : ByteArray) (w : World) (hs : s.size < 1000000) (hn : (61 : UInt8) ∉ bl s) (hc : Lib.cut (bl s) [61] = (bl s, [], false)) :
    Calls Tryz.prog 71 #[.string s] w (FileR (bl s) w) := by
  have HN := Lib.hid hn
  have HC := Lib.hid hc
  clear hn hc
  go_enter Tryz.func71, Tryz.ntmps71
  go_wp2
  go_loop [4] (fun i => ∃ k : Nat, k ≤ s.size ∧ i = .int .i64 k) (fun i => s.size - (intOf i).toNat)
  case atStart => exact ⟨0, Nat.zero_le _, rfl⟩
  case round =>
    obtain ⟨k, hk, rfl⟩ := hrel
    by_cases h : k < s.size
    · have hne := R6.at_none HN.out h
      go_wp2
      go_round
      case rel => exact ⟨k + 1, h, by go_num⟩
      case measure => simp [intOf]; omega
    · obtain rfl : k = s.size := by omega
      go_wp2
      refine bodyPost_ret (v := .tuple #[.agg #[.string ⟨#[]⟩, .string ⟨#[]⟩], .bool false]) (by simp [results, Tryz.results71, go_sem]) rfl ?_
      refine ⟨?_, ⟨[], []⟩, false, rfl, by unfold fileO; rw [HC.out]; rfl, Nat.zero_le _⟩
      exact (Below.refl _ _).alloc (Nat.le_refl _) _
namespace R6
theorem ext_a {s : ByteArray} {a r : Sp.Str} (h : bl s = a ++ 61 :: r) : s.extract 0 a.length = ⟨a.toArray⟩ := bl_inj (by rw [bl_to, h, bl_mk]; simp)
theorem ext_r {s : ByteArray} {a r : Sp.Str} (h : bl s = a ++ 61 :: r) : s.extract (a.length + 1) s.size = ⟨r.toArray⟩ := bl_inj (by
  rw [bl_from, h, bl_mk]
  rw [show a ++ 61 :: r = (a ++ [61]) ++ r from by simp]
  rw [List.drop_left' (by simp)])
end R6
set_option maxRecDepth 100000 in
set_option maxHeartbeats 1000000 in
theorem file_some (s : ByteArray) (w : World) (hs : s.size < 1000000) (a r : Sp.Str) (h : bl s = a ++ 61 :: r) (hn : (61 : UInt8) ∉ a) (hc : Lib.cut (bl s) [61] = (a, r, true)) :
    Calls Tryz.prog 71 #[.string s] w (FileR (bl s) w) := by
  have hsz : s.size = a.length + 1 + r.length := by rw [← bl_len, h]; simp; omega
  have HSZ := Lib.hid hsz
  have hal : a.length < s.size := by omega
  have H := Lib.hid h
  have HN := Lib.hid hn
  have HC := Lib.hid hc
  clear hn hc h hsz
  go_enter Tryz.func71, Tryz.ntmps71
  go_wp2
  go_loop [4] (fun i => ∃ k : Nat, k ≤ a.length ∧ i = .int .i64 k) (fun i => a.length - (intOf i).toNat)
  case atStart => exact ⟨0, Nat.zero_le _, rfl⟩
  case round =>
    obtain ⟨k, hk, rfl⟩ := hrel
    by_cases h : k < a.length
    · have hks : k < s.size := by omega
      have hne := R6.at_ne H.out HN.out h hks
      go_wp2
      go_round
      case rel => exact ⟨k + 1, h, by go_num⟩
      case measure => simp [intOf]; omega
    · obtain rfl : k = a.length := by omega
      have heq := R6.at_eq H.out hal
      go_wp2_with fail
      rw [R6.ext_a H.out]
      refine (isPath_any _ _ (by rw [← bl_len, bl_mk]; omega)).mono ?_
      rintro e w1 ⟨rfl, hb⟩
      rw [bl_mk]
      obtain ⟨hc, hf⟩ := bcell hb
      have hz : w.heap.size < w1.heap.size := by have := hb.size; simp at this; omega
      have hb1 : Below w.heap.size w w1 := Below.trans ((Below.refl _ _).alloc (Nat.le_refl _) _) (hb.mono (by simp))
      cases hp : Sp.isPath a with
      | false =>
        have HP := Lib.hid hp
        clear hp
        go_wp2
        go_region
        go_wp2
        refine bodyPost_ret (v := .tuple #[.agg #[.string (s.extract 0 a.length), .string (s.extract (a.length + 1) s.size)], .bool false]) (by simp [results, Tryz.results71, go_sem, hc]) rfl ?_
        refine ⟨?_, ⟨a, r⟩, false, by rw [R6.ext_a H.out, R6.ext_r H.out]; rfl, by unfold fileO; rw [HC.out]; simp [HP.out], by rw [bl_len]; exact Nat.le_of_lt hal⟩
        refine Below.drew ?_
        repeat' (first | assumption | refine Below.setCell ?_ (by simp) _)
      | true =>
        have HP := Lib.hid hp
        clear hp
        go_wp2
        go_region
        go_wp2
        refine bodyPost_ret (v := .tuple #[.agg #[.string (s.extract 0 a.length), .string (s.extract (a.length + 1) s.size)], .bool (decide ((s.size : Int) - (a.length : Int) - 1 ≤ 24))]) (by simp [results, Tryz.results71, go_sem, hc]) rfl ?_
        have e : decide ((s.size : Int) - (a.length : Int) - 1 ≤ 24) = decide (r.length ≤ 24) := by
          have := HSZ.out
          rw [decide_eq_decide]; omega
        refine ⟨?_, ⟨a, r⟩, decide (r.length ≤ 24), by rw [R6.ext_a H.out, R6.ext_r H.out, e]; rfl, by unfold fileO; rw [HC.out]; simp [HP.out], by rw [bl_len]; exact Nat.le_of_lt hal⟩
        refine Below.drew ?_
        repeat' (first | assumption | refine Below.setCell ?_ (by simp) _)
theorem file_any (s : ByteArray) (w : World) (hs : s.size < 1000000) : Calls Tryz.prog 71 #[.string s] w (FileR (bl s) w) := by
  rcases T1.byte1 61 (bl s) with ⟨h1, _, h3⟩ | ⟨a, r, h1, h2, _, h3⟩
  · exact file_none s w hs h1 h3
  · exact file_some s w hs a r h1 h2 h3
end Go.Proofs.YtfphcecjhdkcoaaGreatDoor

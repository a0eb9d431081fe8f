/-
Walks of the program's groups of choices: each of each.
-/
import Derived.Test.YtfphcecjhdkcoaaGreatDoorKnownP01
/-
Walks of the program's choose: NAME, or NAME (SIGN VERSION).
-/
namespace Go.Proofs.YtfphcecjhdkcoaaGreatDoor
open Go.RowKit
theorem signs_any (x : ByteArray) (b off cap : Nat) (w : World) (h : ∀ k, (hk : k < 5) → w.cell? ⟨b, off + k, none⟩ = some (.string ⟨(Sp.signs[k]'hk).toArray⟩)) :
    Calls Tryz.prog 195 #[.slice (some ⟨b, off, none⟩) 5 cap, .string x] w fun e w' => e = .returned (.bool (Sp.signs.contains (bl x))) ∧ w = w' := by
  have hz : ∀ j, (hj : j < (Sp.signs.map (fun s => (⟨s.toArray⟩ : ByteArray))).length) → (Sp.signs.map (fun s => (⟨s.toArray⟩ : ByteArray))).getD j ByteArray.empty = ⟨(Sp.signs[j]'(by simpa using hj)).toArray⟩ := fun j hj => by
    rw [List.getD_eq_getElem?_getD, List.getElem?_map, List.getElem?_eq_getElem (by simpa using hj)]; rfl
  refine (Tryz.slices_Contains_string b off 5 cap (Sp.signs.map (fun s => (⟨s.toArray⟩ : ByteArray))) x w (by decide) (by decide) (fun j hj => ?_)).mono fun e w' ⟨h1, h2⟩ => ⟨?_, h2.symm⟩
  · rw [hz j hj]; exact h j hj
  · rw [h1]
    refine ret_bool ?_
    rw [Bool.eq_iff_iff, Lib.containsS_iff]
    simp only [List.contains_iff_mem]
    constructor
    · intro hm
      have hm' := List.mem_of_mem_take hm
      obtain ⟨q, hq, rfl⟩ := List.mem_map.1 hm'
      exact hq
    · intro hm
      rw [List.take_of_length_le (by decide)]
      exact List.mem_map.2 ⟨bl x, hm, mk_bl x⟩
theorem choose_no0 {G : Nat} (s : ByteArray) (w : World) (hG : Glob G w) (hs : s.size < 4294967281) (hn : Sp.isName (Lib.cut (bl s) [32, 40]).1 = false) :
    Calls Tryz.prog 158 #[.string s] w fun e w' => e = .panicked [{v := .iface 177 (.agg #[]), recovered := false}] ∧ Below w.heap.size w w' := by
  have HN := Lib.hid hn
  clear hn
  go_enter Tryz.func158, Tryz.ntmps158
  go_wp2_with fail
  refine (cutS_any s _ _ (hG.keep ((Below.refl _ _).alloc (Nat.le_refl _) _)) hs).mono ?_
  rintro e w1 ⟨rfl, n, rfl⟩
  go_wp2_with fail
  refine (name_no ⟨(Lib.cut (bl s) [32, 40]).1.toArray⟩ _ (hG.keep (below_drewN ((Below.refl _ _).alloc (Nat.le_refl _) _) n)) HN.out).mono ?_
  rintro e w1 ⟨rfl, hb⟩
  go_wp2
  exact ⟨rfl, rfl, (below_drewN ((Below.refl _ _).alloc (Nat.le_refl _) _) n).trans (hb.mono (by simp))⟩
theorem choose_yes0 {G : Nat} (s : ByteArray) (w : World) (hG : Glob G w) (hs : s.size < 4294967281) (a1 a2 : Sp.Str) (hA : Lib.cut (bl s) [32, 40] = (a1, a2, false)) (hn : Sp.isName a1 = true) :
    Calls Tryz.prog 158 #[.string s] w fun e w' => e = .returned (.agg #[sv a1, sv [], sv []]) ∧ Below w.heap.size w w' := by
  have HN := Lib.hid hn
  have HA := Lib.hid hA
  clear hn hA
  go_enter Tryz.func158, Tryz.ntmps158
  go_wp2_with fail
  refine (cutS_any s _ _ (hG.keep ((Below.refl _ _).alloc (Nat.le_refl _) _)) hs).mono ?_
  rintro e w1 ⟨rfl, n, rfl⟩
  rw [show bl ⟨#[32, 40]⟩ = [32, 40] from rfl, HA.out]
  go_wp2_with fail
  have hb0 : Below w.heap.size w ((w.alloc (Obj.cells #[Value.string ⟨#[]⟩, Value.string ⟨#[]⟩, Value.string ⟨#[]⟩] 187)).drewN n) := below_drewN ((Below.refl _ _).alloc (Nat.le_refl _) _) n
  refine (name_yes ⟨a1.toArray⟩ _ (hG.keep hb0) HN.out).mono ?_
  rintro e w1 ⟨rfl, hb⟩
  obtain ⟨hc, hf⟩ := bcell hb
  have hz : w.heap.size < w1.heap.size := by have := hb.size; simp at this; omega
  go_wp2
  refine bodyPost_ret (v := .agg #[sv a1, sv [], sv []]) (by simp [results, Tryz.results158, go_sem, hc, hz, sv]) rfl ⟨rfl, ?_⟩
  have hb1 := hb0.trans (hb.mono (by simp))
  repeat' (first | assumption | refine Below.setCell ?_ (by simp) _ | refine Below.alloc ?_ (by simp; omega) _)
set_option maxHeartbeats 1000000 in
theorem choose_no1 {G : Nat} (s : ByteArray) (w : World) (hG : Glob G w) (hs : s.size < 4294967281) (a1 a2 b1 b2 : Sp.Str) (ok : Bool) (hA : Lib.cut (bl s) [32, 40] = (a1, a2, true)) (hn : Sp.isName a1 = true) (hB : Lib.cut a2 [32] = (b1, b2, ok)) (ha2 : a2.length < 4294967281)
    (h : (ok && Sp.signs.contains b1 && Lib.hasSuffix b2 [41]) = false) (hlb : b2.length ≤ 9223372036854775807) :
    Calls Tryz.prog 158 #[.string s] w fun e w' => e = .panicked [{v := .iface 177 (.agg #[]), recovered := false}] ∧ Below w.heap.size w w' := by
  have HN := Lib.hid hn
  have HA := Lib.hid hA
  have HB := Lib.hid hB
  have hsz2 : (⟨a2.toArray⟩ : ByteArray).size < 4294967281 := by rw [← bl_len, bl_mk]; exact ha2
  have hsb2 : (⟨b2.toArray⟩ : ByteArray).size ≤ 9223372036854775807 := by rw [← bl_len, bl_mk]; exact hlb
  have H := Lib.hid h
  clear hn hA hB ha2 hlb h
  go_enter Tryz.func158, Tryz.ntmps158
  go_wp2_with fail
  refine (cutS_any s _ _ (hG.keep ((Below.refl _ _).alloc (Nat.le_refl _) _)) hs).mono ?_
  rintro e w1 ⟨rfl, n, rfl⟩
  rw [show bl ⟨#[32, 40]⟩ = [32, 40] from rfl, HA.out]
  go_wp2_with fail
  have hb0 : Below w.heap.size w ((w.alloc (Obj.cells #[Value.string ⟨#[]⟩, Value.string ⟨#[]⟩, Value.string ⟨#[]⟩] 187)).drewN n) := below_drewN ((Below.refl _ _).alloc (Nat.le_refl _) _) n
  refine (name_yes ⟨a1.toArray⟩ _ (hG.keep hb0) HN.out).mono ?_
  rintro e w1 ⟨rfl, hb⟩
  obtain ⟨hc, hf⟩ := bcell hb
  have hz : w.heap.size < w1.heap.size := by have := hb.size; simp at this; omega
  have hb1 := hb0.trans (hb.mono (by simp))
  go_wp2_with fail
  have hGl := (hG.keep hb1).keep ((Below.refl w1.heap.size w1).alloc (Nat.le_refl _) (Obj.cells #[Value.string ⟨a1.toArray⟩, Value.string ⟨#[]⟩, Value.string ⟨#[]⟩] 187))
  refine (cutS_any ⟨a2.toArray⟩ _ _ hGl hsz2).mono ?_
  rintro e w2 ⟨rfl, n2, rfl⟩
  rw [show bl ⟨#[32]⟩ = [32] from rfl, bl_mk, HB.out]
  have hb2 : Below w.heap.size w ((w1.alloc (Obj.cells #[Value.string ⟨a1.toArray⟩, Value.string ⟨#[]⟩, Value.string ⟨#[]⟩] 187)).drewN n2) := below_drewN (hb1.alloc (by omega) _) n2
  obtain ⟨sb, so, sc, hsbG, hs1, hs2⟩ := (hG.keep hb2).signs
  cases ok with
  | false =>
    go_wp2_with fail
    refine (must_false _).mono ?_
    rintro e w3 ⟨rfl, rfl⟩
    go_wp2
    exact ⟨rfl, rfl, hb2⟩
  | true =>
    go_wp2_with fail
    refine (signs_any _ sb so sc _ hs2).mono ?_
    rintro e w3 ⟨rfl, rfl⟩
    rw [bl_mk]
    have H2 : Hid ((Sp.signs.contains b1 && Lib.hasSuffix b2 [41]) = false) := by have := H.out; simp only [Bool.true_and] at this; exact this
    clear H
    generalize Sp.signs.contains b1 = c at *
    cases c with
    | false =>
      go_wp2_with fail
      refine (must_false _).mono ?_
      rintro e w3 ⟨rfl, rfl⟩
      go_wp2
      exact ⟨rfl, rfl, hb2⟩
    | true =>
      go_wp2_with fail
      refine (hasSuffix_any _ _ _ hsb2).mono ?_
      rintro e w3 ⟨rfl, rfl⟩
      rw [bl_mk, show bl ⟨#[41]⟩ = [41] from rfl, show Lib.hasSuffix b2 [41] = false from by have := H2.out; rwa [Bool.true_and] at this]
      go_wp2_with fail
      refine (must_false _).mono ?_
      rintro e w3 ⟨rfl, rfl⟩
      go_wp2
      exact ⟨rfl, rfl, hb2⟩
set_option maxHeartbeats 1000000 in
theorem choose_no2 {G : Nat} (s : ByteArray) (w : World) (hG : Glob G w) (hs : s.size < 4294967281) (a1 a2 b1 b2 : Sp.Str) (ok : Bool) (hA : Lib.cut (bl s) [32, 40] = (a1, a2, true)) (hn : Sp.isName a1 = true) (hB : Lib.cut a2 [32] = (b1, b2, ok)) (ha2 : a2.length < 4294967281)
    (h : (ok && Sp.signs.contains b1 && Lib.hasSuffix b2 [41]) = true) (hlb : b2.length ≤ 9223372036854775807) (hv : Sp.isVer (Lib.trimSuffix b2 [41]) = false) :
    Calls Tryz.prog 158 #[.string s] w fun e w' => e = .panicked [{v := .iface 177 (.agg #[]), recovered := false}] ∧ Below w.heap.size w w' := by
  have HV := Lib.hid hv
  clear hv
  have HN := Lib.hid hn
  have HA := Lib.hid hA
  have HB := Lib.hid hB
  have hsz2 : (⟨a2.toArray⟩ : ByteArray).size < 4294967281 := by rw [← bl_len, bl_mk]; exact ha2
  have hsb2 : (⟨b2.toArray⟩ : ByteArray).size ≤ 9223372036854775807 := by rw [← bl_len, bl_mk]; exact hlb
  have H := Lib.hid h
  clear hn hA hB ha2 hlb h
  go_enter Tryz.func158, Tryz.ntmps158
  go_wp2_with fail
  refine (cutS_any s _ _ (hG.keep ((Below.refl _ _).alloc (Nat.le_refl _) _)) hs).mono ?_
  rintro e w1 ⟨rfl, n, rfl⟩
  rw [show bl ⟨#[32, 40]⟩ = [32, 40] from rfl, HA.out]
  go_wp2_with fail
  have hb0 : Below w.heap.size w ((w.alloc (Obj.cells #[Value.string ⟨#[]⟩, Value.string ⟨#[]⟩, Value.string ⟨#[]⟩] 187)).drewN n) := below_drewN ((Below.refl _ _).alloc (Nat.le_refl _) _) n
  refine (name_yes ⟨a1.toArray⟩ _ (hG.keep hb0) HN.out).mono ?_
  rintro e w1 ⟨rfl, hb⟩
  obtain ⟨hc, hf⟩ := bcell hb
  have hz : w.heap.size < w1.heap.size := by have := hb.size; simp at this; omega
  have hb1 := hb0.trans (hb.mono (by simp))
  go_wp2_with fail
  have hGl := (hG.keep hb1).keep ((Below.refl w1.heap.size w1).alloc (Nat.le_refl _) (Obj.cells #[Value.string ⟨a1.toArray⟩, Value.string ⟨#[]⟩, Value.string ⟨#[]⟩] 187))
  refine (cutS_any ⟨a2.toArray⟩ _ _ hGl hsz2).mono ?_
  rintro e w2 ⟨rfl, n2, rfl⟩
  rw [show bl ⟨#[32]⟩ = [32] from rfl, bl_mk, HB.out]
  have hb2 : Below w.heap.size w ((w1.alloc (Obj.cells #[Value.string ⟨a1.toArray⟩, Value.string ⟨#[]⟩, Value.string ⟨#[]⟩] 187)).drewN n2) := below_drewN (hb1.alloc (by omega) _) n2
  obtain ⟨sb, so, sc, hsbG, hs1, hs2⟩ := (hG.keep hb2).signs
  obtain ⟨rfl, hcon, hsuf⟩ : ok = true ∧ Sp.signs.contains b1 = true ∧ Lib.hasSuffix b2 [41] = true := by
    have := H.out; simp only [Bool.and_eq_true] at this; exact ⟨this.1.1, this.1.2, this.2⟩
  have HC := Lib.hid hcon
  have HS := Lib.hid hsuf
  clear H hcon hsuf
  go_wp2_with fail
  refine (signs_any _ sb so sc _ hs2).mono ?_
  rintro e w3 ⟨rfl, rfl⟩
  rw [bl_mk, HC.out]
  go_wp2_with fail
  refine (hasSuffix_any _ _ _ hsb2).mono ?_
  rintro e w3 ⟨rfl, rfl⟩
  rw [bl_mk, show bl ⟨#[41]⟩ = [41] from rfl, HS.out]
  go_wp2_with fail
  refine (must_true _).mono ?_
  rintro e w3 ⟨rfl, rfl⟩
  go_wp2_with fail
  refine (trim_any _ _ _ hsb2).mono ?_
  rintro e w3 ⟨rfl, rfl⟩
  rw [bl_mk, show bl ⟨#[41]⟩ = [41] from rfl]
  go_wp2_with fail
  refine (ver_no ⟨(Lib.trimSuffix b2 [41]).toArray⟩ _ HV.out).mono ?_
  rintro e w3 ⟨rfl, hb3⟩
  go_wp2
  exact ⟨rfl, rfl, hb2.trans (hb3.mono hb2.size)⟩
set_option maxHeartbeats 1000000 in
theorem choose_yes {G : Nat} (s : ByteArray) (w : World) (hG : Glob G w) (hs : s.size < 4294967281) (a1 a2 b1 b2 : Sp.Str) (ok : Bool) (hA : Lib.cut (bl s) [32, 40] = (a1, a2, true)) (hn : Sp.isName a1 = true) (hB : Lib.cut a2 [32] = (b1, b2, ok)) (ha2 : a2.length < 4294967281)
    (h : (ok && Sp.signs.contains b1 && Lib.hasSuffix b2 [41]) = true) (hlb : b2.length ≤ 9223372036854775807) (hv : Sp.isVer (Lib.trimSuffix b2 [41]) = true) :
    Calls Tryz.prog 158 #[.string s] w fun e w' => e = .returned (.agg #[sv a1, sv b1, sv (Lib.trimSuffix b2 [41])]) ∧ Below w.heap.size w w' := by
  have HV := Lib.hid hv
  clear hv
  have HN := Lib.hid hn
  have HA := Lib.hid hA
  have HB := Lib.hid hB
  have hsz2 : (⟨a2.toArray⟩ : ByteArray).size < 4294967281 := by rw [← bl_len, bl_mk]; exact ha2
  have hsb2 : (⟨b2.toArray⟩ : ByteArray).size ≤ 9223372036854775807 := by rw [← bl_len, bl_mk]; exact hlb
  have H := Lib.hid h
  clear hn hA hB ha2 hlb h
  go_enter Tryz.func158, Tryz.ntmps158
  go_wp2_with fail
  refine (cutS_any s _ _ (hG.keep ((Below.refl _ _).alloc (Nat.le_refl _) _)) hs).mono ?_
  rintro e w1 ⟨rfl, n, rfl⟩
  rw [show bl ⟨#[32, 40]⟩ = [32, 40] from rfl, HA.out]
  go_wp2_with fail
  have hb0 : Below w.heap.size w ((w.alloc (Obj.cells #[Value.string ⟨#[]⟩, Value.string ⟨#[]⟩, Value.string ⟨#[]⟩] 187)).drewN n) := below_drewN ((Below.refl _ _).alloc (Nat.le_refl _) _) n
  refine (name_yes ⟨a1.toArray⟩ _ (hG.keep hb0) HN.out).mono ?_
  rintro e w1 ⟨rfl, hb⟩
  obtain ⟨hc, hf⟩ := bcell hb
  have hz : w.heap.size < w1.heap.size := by have := hb.size; simp at this; omega
  have hb1 := hb0.trans (hb.mono (by simp))
  go_wp2_with fail
  have hGl := (hG.keep hb1).keep ((Below.refl w1.heap.size w1).alloc (Nat.le_refl _) (Obj.cells #[Value.string ⟨a1.toArray⟩, Value.string ⟨#[]⟩, Value.string ⟨#[]⟩] 187))
  refine (cutS_any ⟨a2.toArray⟩ _ _ hGl hsz2).mono ?_
  rintro e w2 ⟨rfl, n2, rfl⟩
  rw [show bl ⟨#[32]⟩ = [32] from rfl, bl_mk, HB.out]
  have hb2 : Below w.heap.size w ((w1.alloc (Obj.cells #[Value.string ⟨a1.toArray⟩, Value.string ⟨#[]⟩, Value.string ⟨#[]⟩] 187)).drewN n2) := below_drewN (hb1.alloc (by omega) _) n2
  obtain ⟨sb, so, sc, hsbG, hs1, hs2⟩ := (hG.keep hb2).signs
  obtain ⟨rfl, hcon, hsuf⟩ : ok = true ∧ Sp.signs.contains b1 = true ∧ Lib.hasSuffix b2 [41] = true := by
    have := H.out; simp only [Bool.and_eq_true] at this; exact ⟨this.1.1, this.1.2, this.2⟩
  have HC := Lib.hid hcon
  have HS := Lib.hid hsuf
  clear H hcon hsuf
  go_wp2_with fail
  refine (signs_any _ sb so sc _ hs2).mono ?_
  rintro e w3 ⟨rfl, rfl⟩
  rw [bl_mk, HC.out]
  go_wp2_with fail
  refine (hasSuffix_any _ _ _ hsb2).mono ?_
  rintro e w3 ⟨rfl, rfl⟩
  rw [bl_mk, show bl ⟨#[41]⟩ = [41] from rfl, HS.out]
  go_wp2_with fail
  refine (must_true _).mono ?_
  rintro e w3 ⟨rfl, rfl⟩
  go_wp2_with fail
  refine (trim_any _ _ _ hsb2).mono ?_
  rintro e w3 ⟨rfl, rfl⟩
  rw [bl_mk, show bl ⟨#[41]⟩ = [41] from rfl]
  go_wp2_with fail
  refine (ver_yes ⟨(Lib.trimSuffix b2 [41]).toArray⟩ _ HV.out).mono ?_
  rintro e w3 ⟨rfl, hb3⟩
  obtain ⟨hc3, hf3⟩ := bcell hb3
  have hz3 : w1.heap.size < w3.heap.size := by have := hb3.size; simp at this; omega
  have hb4 := hb2.trans (hb3.mono hb2.size)
  go_wp2
  have hz' : w.heap.size < w1.heap.size + 1 := by omega
  refine bodyPost_ret (v := .agg #[sv a1, sv b1, sv (Lib.trimSuffix b2 [41])]) (by simp [results, Tryz.results158, go_sem, sv, hc, hc3, hz, hz']) rfl ⟨rfl, ?_⟩
  repeat' (first | assumption | refine Below.setCell ?_ (by simp; omega) _ | refine Below.setCell ?_ (by simp) _ | refine Below.alloc ?_ (by simp; omega) _)
namespace W2
theorem cut_fst (s t : Sp.Str) : (Lib.cut s t).1.length ≤ s.length := by
  unfold Lib.cut; split
  · simp; omega
  · simp
theorem cut_snd (s t : Sp.Str) : (Lib.cut s t).2.1.length ≤ s.length := by
  unfold Lib.cut; split
  · simp
  · simp
end W2
theorem choose_some {G : Nat} (s : ByteArray) (w : World) (c : Sp.Ch) (hG : Glob G w) (hs : s.size < 4294967281) (h : Sp.choose (bl s) = some c) :
    Calls Tryz.prog 158 #[.string s] w fun e w' => e = .returned (.agg #[sv c.name, sv c.sign, sv c.ver]) ∧ Below w.heap.size w w' := by
  have h1 := W2.cut_snd (bl s) [32, 40]
  have h2 := W2.cut_snd (Lib.cut (bl s) [32, 40]).2.1 [32]
  rw [bl_len] at h1
  unfold Sp.choose at h
  rcases hA : Lib.cut (bl s) [32, 40] with ⟨a1, a2, a3⟩
  rw [hA] at h h1 h2
  simp only at h h1 h2
  by_cases hn : Sp.isName a1 = true
  · rw [if_pos hn] at h
    cases a3 with
    | false =>
      rw [if_neg (by simp)] at h
      cases h
      exact choose_yes0 s w hG hs a1 a2 hA hn
    | true =>
      rw [if_pos rfl] at h
      rcases hB : Lib.cut a2 [32] with ⟨b1, b2, b3⟩
      rw [hB] at h h2
      simp only at h h2
      split at h
      · rename_i hc
        cases h
        rw [Bool.and_eq_true] at hc
        exact choose_yes s w hG hs a1 a2 b1 b2 b3 hA hn hB (by omega) hc.1 (by omega) hc.2
      · cases h
  · rw [if_neg hn] at h; cases h
theorem choose_none {G : Nat} (s : ByteArray) (w : World) (hG : Glob G w) (hs : s.size < 4294967281) (h : Sp.choose (bl s) = none) :
    Calls Tryz.prog 158 #[.string s] w fun e w' => e = .panicked [{v := .iface 177 (.agg #[]), recovered := false}] ∧ Below w.heap.size w w' := by
  have h1 := W2.cut_snd (bl s) [32, 40]
  have h2 := W2.cut_snd (Lib.cut (bl s) [32, 40]).2.1 [32]
  rw [bl_len] at h1
  unfold Sp.choose at h
  by_cases hn : Sp.isName (Lib.cut (bl s) [32, 40]).1 = true
  · rcases hA : Lib.cut (bl s) [32, 40] with ⟨a1, a2, a3⟩
    rw [hA] at h h1 h2 hn
    simp only at h h1 h2 hn
    rw [if_pos hn] at h
    cases a3 with
    | false => rw [if_neg (by simp)] at h; cases h
    | true =>
      rw [if_pos rfl] at h
      rcases hB : Lib.cut a2 [32] with ⟨b1, b2, b3⟩
      rw [hB] at h h2
      simp only at h h2
      split at h
      · cases h
      · rename_i hc
        cases hd : (b3 && Sp.signs.contains b1 && Lib.hasSuffix b2 [41]) with
        | false => exact choose_no1 s w hG hs a1 a2 b1 b2 b3 hA hn hB (by omega) hd (by omega)
        | true => exact choose_no2 s w hG hs a1 a2 b1 b2 b3 hA hn hB (by omega) hd (by omega) (by rw [hd, Bool.true_and] at hc; simpa using hc)
  · exact choose_no0 s w hG hs (by simpa using hn)
end Go.Proofs.YtfphcecjhdkcoaaGreatDoor
/-
Walks of the program's each (three times) and what is built of it: paths, groups of choices.
-/
namespace Go.Proofs.YtfphcecjhdkcoaaGreatDoor
open Go.RowKit
/-- What 'each' of choices comes to. -/
def EachC (s sep : Sp.Str) (most B : Nat) (w : World) (e : Ending) (w' : World) : Prop :=
  Below B w w' ∧ ((∃ l v, Sp.each s sep most Sp.choose = some l ∧ e = .returned v ∧ w'.ownsRow B 187 3 v l.length (chRow l)) ∨ (Sp.each s sep most Sp.choose = none ∧ e = .panicked [{v := .iface 177 (.agg #[]), recovered := false}]))
set_option maxRecDepth 100000 in
set_option maxHeartbeats 400000 in
theorem eachC_any {G : Nat} (s sep : ByteArray) (most : Nat) (w : World) (hG : Glob G w) (hs : s.size < 1000000) (h0 : 0 < sep.size) :
    Calls Tryz.prog 157 #[.string s, .string sep, .int .i64 most, .func (.func 158) #[] #[]] w (EachC (bl s) (bl sep) most w.heap.size w) := by
  have htn : bl sep ≠ [] := by intro h; rw [← bl_len, h] at h0; simp at h0
  have hpl := Sp.split_length (bl s) (bl sep) htn
  rw [bl_len] at hpl
  have hpm : ∀ x ∈ Lib.split (bl s) (bl sep), x.length < 1000000 := fun x hx => by
    have := Sp.split_mem (bl s) (bl sep) x htn hx; rw [bl_len] at this; omega
  have HPM := Lib.hid hpm
  clear htn hpm
  obtain ⟨B, hB⟩ : ∃ B, w.heap.size = B := ⟨_, rfl⟩
  rw [hB]
  have hGB : G ≤ B := by rw [← hB]; exact hG.size
  have HB := Lib.hid hB
  clear hB
  go_enter Tryz.func157, Tryz.ntmps157
  go_wp2_with fail
  refine (splitS_any s sep w hG (by omega) h0).mono ?_
  rintro e w1 ⟨v, rfl, hv, hb⟩
  generalize hL : Lib.split (bl s) (bl sep) = L at *
  obtain ⟨a, cap, rfl, hcap, hget⟩ := hv.get
  have HL := Lib.hid hL.symm
  have HG := Lib.hid hget
  clear hL hv hget
  rw [HB.out] at hb
  go_wp2
  go_loopw [9, 16] (fun v i wr => ∃ (k : Nat) (done : List Sp.Ch), k ≤ L.length ∧ i = .int .i64 k ∧ Sp.mapO Sp.choose (L.take k) = some done ∧ wr.ownsRow w1.heap.size 187 3 v done.length (chRow done) ∧ Below w1.heap.size w1 wr) (fun _ i _ => L.length - (intOf i).toNat)
  case atStart => exact ⟨0, [], Nat.zero_le _, rfl, rfl, World.ownsRow_nil _ _ _ _, Below.refl _ _⟩
  case round =>
    obtain ⟨k, done, hk, rfl, hdone, hown, hbel⟩ := hrel
    have hlen := W3.mapO_len _ _ _ hdone
    rw [List.length_take, Nat.min_eq_left hk] at hlen
    have HD := Lib.hid hdone
    have hn : done.length ≤ 1000000 := by omega
    have HLEN := Lib.hid hlen
    have hbw : Below B w wr := hb.trans (hbel.mono (by have := hb.size; rw [HB.out] at this; exact this))
    have hGr : Glob G wr := hG.below hbw hGB
    have hw1 : w1.heap.size ≤ wr.heap.size := hbel.size
    have hbw0 : B ≤ wr.heap.size := by have := hbw.size; rw [HB.out] at this; exact this
    clear hdone hlen
    by_cases h : k < L.length
    · obtain ⟨b, off, rfl, hbb, hcell⟩ := HG.out k h
      have hcell' := (hbel.cell (p := ⟨b, off + k, none⟩) hbb).trans hcell
      have hpiece : (⟨L[k].toArray⟩ : ByteArray).size < 4294967281 := by
        have := HPM.out L[k] (List.getElem_mem h); rw [← bl_len, bl_mk]; omega
      clear hcell HG
      cases hone : Sp.choose L[k] with
      | none =>
        have HO := Lib.hid hone
        clear hone
        go_wp2_with fail
        refine (choose_none ⟨L[k].toArray⟩ wr hGr hpiece HO.out).mono ?_
        rintro e w2 ⟨rfl, hb2⟩
        go_wp2
        exact ⟨rfl, hbw.trans (hb2.mono hbw0), .inr ⟨W3.each_stop HL.out (W3.mapO_stop _ L[k] L (List.getElem_mem h) HO.out), rfl⟩⟩
      | some c =>
        have HO := Lib.hid hone
        clear hone
        go_wp2_with fail
        refine (choose_some ⟨L[k].toArray⟩ wr c hGr hpiece HO.out).mono ?_
        rintro e w2 ⟨rfl, hb2⟩
        have hown2 := W3.row_keep hown hb2
        have hbel2 := hbel.trans (hb2.mono hw1)
        go_wp2_with (at_builtin; refine wp_app app170 w2 [sv c.name, sv c.sign, sv c.ver] rfl (by simp [Value.oneCell', sv]) rfl _ _ rfl w1.heap.size _ _ _ rfl hown2 rfl (by omega) (by have := hb2.size; omega) ?_; intro v' w3 hown' hgrow _)
        have hbel3 := below_of_grown hbel2 hbel2.size hown2 hgrow
        rw [chRow_snoc] at hown'
        go_roundw
        case rel => exact ⟨k + 1, done ++ [c], h, by go_num, W3.mapO_next h HD.out HO.out, by simpa using hown', hbel3⟩
        case measure => simp [intOf]; omega
    · obtain rfl : k = L.length := by omega
      have hdone' : Sp.mapO Sp.choose L = some done := by have := HD.out; rwa [List.take_length] at this
      have hln : (done.length : Int) = L.length := by have := HLEN.out; omega
      have HD' := Lib.hid hdone'
      have HLN := Lib.hid hln
      clear hdone' hln HG
      obtain ⟨ra, rc, rfl⟩ := W3.row_slice hown
      by_cases hmo : done.length ≤ most
      · go_wp2_with fail
        refine (must_true _).mono ?_
        rintro e w2 ⟨rfl, rfl⟩
        go_wp2
        go_ret
        exact ⟨hbw, .inl ⟨done, _, by rw [W3.each_of HL.out HD'.out, if_pos hmo], rfl, W3.row_base hown (by have := hb.size; rw [HB.out] at this; exact this)⟩⟩
      · go_wp2_with fail
        refine (must_false _).mono ?_
        rintro e w2 ⟨rfl, rfl⟩
        go_wp2
        exact ⟨rfl, hbw, .inr ⟨by rw [W3.each_of HL.out HD'.out, if_neg hmo], rfl⟩⟩
end Go.Proofs.YtfphcecjhdkcoaaGreatDoor
namespace Go.Proofs.YtfphcecjhdkcoaaGreatDoor
open Go.RowKit
theorem groupO_none {G : Nat} (s : ByteArray) (w : World) (hG : Glob G w) (hs : s.size < 1000000) (h : groupO (bl s) = none) :
    Calls Tryz.prog 156 #[.string s] w fun e w' => e = .panicked [{v := .iface 177 (.agg #[]), recovered := false}] ∧ Below w.heap.size w w' := by
  have H := Lib.hid h
  clear h
  go_enter Tryz.func156, Tryz.ntmps156
  go_wp2_with fail
  refine (eachC_any s _ 3 w hG hs (by decide)).mono ?_
  rintro e w1 ⟨hb, ⟨l, v, hl, _, _⟩ | ⟨_, rfl⟩⟩
  · exfalso
    have := H.out
    unfold groupO at this
    rw [show ([32, 124, 32] : Sp.Str) = bl ⟨#[32, 124, 32]⟩ from rfl, hl] at this
    cases this
  · go_wp2
    exact ⟨rfl, rfl, hb⟩
theorem groupO_some {G : Nat} (s : ByteArray) (w : World) (cs : List Sp.Ch) (hG : Glob G w) (hs : s.size < 1000000) (h : groupO (bl s) = some cs) :
    Calls Tryz.prog 156 #[.string s] w fun e w' => (∃ a cap, e = .returned (.slice a cs.length cap) ∧ ChOn (fun b => b < w'.heap.size ∧ w.heap.size ≤ b) w' (.slice a cs.length cap) cs) ∧ Below w.heap.size w w' := by
  have H := Lib.hid h
  clear h
  go_enter Tryz.func156, Tryz.ntmps156
  go_wp2_with fail
  refine (eachC_any s _ 3 w hG hs (by decide)).mono ?_
  rintro e w1 ⟨hb, ⟨l, v, hl, rfl, hv⟩ | ⟨hno, _⟩⟩
  · obtain rfl : l = cs := by
      have := H.out
      unfold groupO at this
      rw [show ([32, 124, 32] : Sp.Str) = bl ⟨#[32, 124, 32]⟩ from rfl, hl] at this
      cases this; rfl
    obtain ⟨a, cap, rfl⟩ := W3.row_slice hv
    go_wp2
    go_ret
    exact ⟨⟨a, cap, rfl, (ChOn.of_row hv).mono fun b hb => ⟨hb.1, hb.2.1⟩⟩, hb⟩
  · exfalso
    have := H.out
    unfold groupO at this
    rw [show ([32, 124, 32] : Sp.Str) = bl ⟨#[32, 124, 32]⟩ from rfl, hno] at this
    cases this
/-- What 'each' of groups comes to. -/
def EachG (s sep : Sp.Str) (most B : Nat) (w : World) (e : Ending) (w' : World) : Prop :=
  Below B w w' ∧ ((∃ l a cap, Sp.each s sep most groupO = some l ∧ e = .returned (.slice a l.length cap) ∧ GsOn (fun b => b < w'.heap.size ∧ B ≤ b) w' (.slice a l.length cap) l) ∨ (Sp.each s sep most groupO = none ∧ e = .panicked [{v := .iface 177 (.agg #[]), recovered := false}]))
set_option maxRecDepth 100000 in
set_option maxHeartbeats 400000 in
theorem eachG_any {G : Nat} (s sep : ByteArray) (most : Nat) (w : World) (hG : Glob G w) (hs : s.size < 1000000) (h0 : 0 < sep.size) :
    Calls Tryz.prog 155 #[.string s, .string sep, .int .i64 most, .func (.func 156) #[] #[]] w (EachG (bl s) (bl sep) most w.heap.size w) := by
  have htn : bl sep ≠ [] := by intro h; rw [← bl_len, h] at h0; simp at h0
  have hpl := Sp.split_length (bl s) (bl sep) htn
  rw [bl_len] at hpl
  have hpm : ∀ x ∈ Lib.split (bl s) (bl sep), x.length < 1000000 := fun x hx => by
    have := Sp.split_mem (bl s) (bl sep) x htn hx; rw [bl_len] at this; omega
  have HPM := Lib.hid hpm
  clear htn hpm
  obtain ⟨B, hB⟩ : ∃ B, w.heap.size = B := ⟨_, rfl⟩
  rw [hB]
  have hGB : G ≤ B := by rw [← hB]; exact hG.size
  have HB := Lib.hid hB
  clear hB
  go_enter Tryz.func155, Tryz.ntmps155
  go_wp2_with fail
  refine (splitS_any s sep w hG (by omega) h0).mono ?_
  rintro e w1 ⟨v, rfl, hv, hb⟩
  generalize hL : Lib.split (bl s) (bl sep) = L at *
  obtain ⟨a, cap, rfl, hcap, hget⟩ := hv.get
  have HL := Lib.hid hL.symm
  have HG := Lib.hid hget
  clear hL hv hget
  rw [HB.out] at hb
  go_wp2
  go_loopw [9, 16] (fun v i wr => ∃ (k : Nat) (done : List (List Sp.Ch)) (vs : List Value), k ≤ L.length ∧ i = .int .i64 k ∧ Sp.mapO groupO (L.take k) = some done ∧ wr.ownsRow w1.heap.size 170 1 v done.length vs ∧ GrpsOn (fun b => b < wr.heap.size ∧ w1.heap.size ≤ b ∧ v.ownBlock ≠ some b) wr vs done ∧ Below w1.heap.size w1 wr) (fun _ i _ => L.length - (intOf i).toNat)
  case atStart => exact ⟨0, [], [], Nat.zero_le _, rfl, rfl, World.ownsRow_nil _ _ _ _, GrpsOn.nil _ _, Below.refl _ _⟩
  case round =>
    obtain ⟨k, done, vs, hk, rfl, hdone, hown, hgr, hbel⟩ := hrel
    have hlen := W3.mapO_len _ _ _ hdone
    rw [List.length_take, Nat.min_eq_left hk] at hlen
    have HD := Lib.hid hdone
    have hn : done.length ≤ 1000000 := by omega
    have HLEN := Lib.hid hlen
    have hbw : Below B w wr := hb.trans (hbel.mono (by have := hb.size; rw [HB.out] at this; exact this))
    have hGr : Glob G wr := hG.below hbw hGB
    have hw1 : w1.heap.size ≤ wr.heap.size := hbel.size
    have hbw0 : B ≤ wr.heap.size := by have := hbw.size; rw [HB.out] at this; exact this
    clear hdone hlen
    by_cases h : k < L.length
    · obtain ⟨b, off, rfl, hbb, hcell⟩ := HG.out k h
      have hcell' := (hbel.cell (p := ⟨b, off + k, none⟩) hbb).trans hcell
      have hpiece : (⟨L[k].toArray⟩ : ByteArray).size < 1000000 := by
        have := HPM.out L[k] (List.getElem_mem h); rw [← bl_len, bl_mk]; omega
      clear hcell HG
      cases hone : groupO L[k] with
      | none =>
        have HO := Lib.hid hone
        clear hone
        go_wp2_with fail
        refine (groupO_none ⟨L[k].toArray⟩ wr hGr hpiece HO.out).mono ?_
        rintro e w2 ⟨rfl, hb2⟩
        go_wp2
        exact ⟨rfl, hbw.trans (hb2.mono hbw0), .inr ⟨W3.each_stop HL.out (W3.mapO_stop _ L[k] L (List.getElem_mem h) HO.out), rfl⟩⟩
      | some c =>
        have HO := Lib.hid hone
        clear hone
        go_wp2_with fail
        refine (groupO_some ⟨L[k].toArray⟩ wr c hGr hpiece HO.out).mono ?_
        rintro e w2 ⟨⟨ga, gcap, rfl, hgc⟩, hb2⟩
        have hown2 := W3.row_keep hown hb2
        have hbel2 := hbel.trans (hb2.mono hw1)
        go_wp2_with (at_builtin; refine wp_app_at app169 w2 [.slice ga c.length gcap] rfl (by simp [Value.oneCell']) rfl _ _ rfl w1.heap.size _ _ _ rfl hown2 rfl (by omega) (by have := hb2.size; omega) ?_; intro v' w3 hown' hgrow _ hat)
        have hbel3 := below_of_grown hbel2 hbel2.size hown2 hgrow
        have hgr3 := hgr.app hgc hb2 hw1 (fun k hk => (hown.lt k hk).2) hgrow hat
        go_roundw
        case rel => exact ⟨k + 1, done ++ [c], vs ++ [.slice ga c.length gcap], h, by go_num, W3.mapO_next h HD.out HO.out, by simpa using hown', hgr3, hbel3⟩
        case measure => simp [intOf]; omega
    · obtain rfl : k = L.length := by omega
      have hdone' : Sp.mapO groupO L = some done := by have := HD.out; rwa [List.take_length] at this
      have hln : (done.length : Int) = L.length := by have := HLEN.out; omega
      have HD' := Lib.hid hdone'
      have HLN := Lib.hid hln
      clear hdone' hln HG
      obtain ⟨ra, rc, rfl⟩ := W3.row_slice hown
      by_cases hmo : done.length ≤ most
      · go_wp2_with fail
        refine (must_true _).mono ?_
        rintro e w2 ⟨rfl, rfl⟩
        go_wp2
        go_ret
        have hB1 : B ≤ w1.heap.size := by have := hb.size; rw [HB.out] at this; exact this
        exact ⟨hbw, .inl ⟨done, ra, rc, by rw [W3.each_of HL.out HD'.out, if_pos hmo], rfl, vs, (one_row hgr.1 hown).mono (fun b hb1 => ⟨hb1.1, by omega⟩), hgr.mono fun b hb1 => ⟨hb1.1, by omega⟩⟩⟩
      · go_wp2_with fail
        refine (must_false _).mono ?_
        rintro e w2 ⟨rfl, rfl⟩
        go_wp2
        exact ⟨rfl, hbw, .inr ⟨by rw [W3.each_of HL.out HD'.out, if_neg hmo], rfl⟩⟩
end Go.Proofs.YtfphcecjhdkcoaaGreatDoor

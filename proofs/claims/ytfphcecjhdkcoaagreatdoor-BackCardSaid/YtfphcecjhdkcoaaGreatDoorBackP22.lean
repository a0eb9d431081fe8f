/-
The walk of the law Back.
-/
import Derived.Test.YtfphcecjhdkcoaaGreatDoorBackP21
/-
Walks of the reference's isPath and file.
-/
namespace Go.Proofs.YtfphcecjhdkcoaaGreatDoor
open Go.RowKit
namespace R6
theorem pathS_arr : bl ⟨#[97, 98, 99, 100, 101, 102, 103, 104, 105, 106, 107, 108, 109, 110, 111, 112, 113, 114, 115, 116, 117, 118, 119, 120, 121, 122, 48, 49, 50, 51, 52, 53, 54, 55, 56, 57, 46, 95]⟩ = Sp.pathS := rfl
theorem all_next {L : List Sp.Str} {f : Sp.Str → Bool} {k : Nat} (h : k < L.length) (ha : (L.take k).all f = true) (hk : f L[k] = true) : (L.take (k + 1)).all f = true := by
  rw [List.take_succ_eq_append_getElem h, List.all_append, ha]; simp [hk]
theorem all_stop {L : List Sp.Str} {f : Sp.Str → Bool} {k : Nat} (h : k < L.length) (hk : f L[k] = false) : L.all f = false := by
  rw [Bool.eq_false_iff]; intro ha
  rw [List.all_eq_true] at ha
  rw [ha L[k] (List.getElem_mem h)] at hk; cases hk
theorem path_stop {s : Sp.Str} {L : List Sp.Str} (hL : L = Lib.split s [47]) {k : Nat} (h : k < L.length) (hk : Sp.isPart L[k] = false) : Sp.isPath s = false := by
  unfold Sp.isPath; rw [← hL, all_stop h hk]; rfl
end R6
set_option maxRecDepth 100000 in
set_option maxHeartbeats 1000000 in
theorem isPath_any (s : ByteArray) (w : World) (hs : s.size < 1000000) :
    Calls Tryz.prog 120 #[.string s] w fun e w' => e = .returned (.bool (Sp.isPath (bl s))) ∧ Below w.heap.size w w' := by
  have hpl := Sp.split_length (bl s) [47] (by simp)
  rw [bl_len] at hpl
  have hpm : ∀ x ∈ Lib.split (bl s) [47], x.length < 1000000 := fun x hx => by
    have := Sp.split_mem (bl s) [47] x (by simp) hx; rw [bl_len] at this; omega
  have HPM := Lib.hid hpm
  clear hpm
  go_enter Tryz.func120, Tryz.ntmps120
  go_wp2_with fail
  refine (cutR_any s _ w (by omega) (by decide) (by decide)).mono ?_
  rintro e w1 ⟨v, rfl, hown, hb⟩
  rw [show bl ⟨#[47]⟩ = [47] from rfl] at hown
  have hv := StrsAt.of_row hown
  generalize hL : Lib.split (bl s) [47] = L at *
  obtain ⟨a, cap, rfl, hcap, hget⟩ := hv.get
  have HL := Lib.hid hL.symm
  have HG := Lib.hid hget
  clear hL hv hget hown
  go_wp2
  go_loop [4, 5] (fun i _ => ∃ k : Nat, k ≤ L.length ∧ i = .int .i64 k ∧ (L.take k).all Sp.isPart = true) (fun i _ => L.length - (intOf i).toNat)
  case atStart => exact ⟨0, Nat.zero_le _, rfl, rfl⟩
  case round =>
    obtain ⟨k, hk, rfl, hall⟩ := hrel
    have HA := Lib.hid hall
    clear hall
    by_cases h : k < L.length
    · obtain ⟨b, off, rfl, hbb, hcell⟩ := HG.out k h
      have hpiece : (⟨L[k].toArray⟩ : ByteArray).size < 1000000 := by
        have := HPM.out L[k] (List.getElem_mem h); rw [← bl_len, bl_mk]; omega
      clear HG
      go_wp2_with fail
      refine (made_any ⟨L[k].toArray⟩ _ 1 8 w1 (by omega) (by decide) (by decide) (by decide)).mono ?_
      rintro e w2 ⟨rfl, rfl⟩
      rw [R6.pathS_arr, bl_mk]
      cases hm : Sp.among L[k] Sp.pathS 1 8 with
      | false =>
        have HM := Lib.hid hm
        clear hm
        go_wp2
        go_ret
        exact ⟨ret_bool (R6.path_stop HL.out h (by unfold Sp.isPart; rw [HM.out]; rfl)).symm, hb⟩
      | true =>
        have HM := Lib.hid hm
        clear hm
        cases h1 : (L[k] == [46]) with
        | true =>
          go_wp2
          go_ret
          exact ⟨ret_bool (R6.path_stop HL.out h (by unfold Sp.isPart; rw [bne, h1]; simp)).symm, hb⟩
        | false =>
          cases h2 : (L[k] == [46, 46]) with
          | true =>
            go_wp2
            go_ret
            exact ⟨ret_bool (R6.path_stop HL.out h (by unfold Sp.isPart; rw [bne, bne, h2]; simp)).symm, hb⟩
          | false =>
            have hp : Sp.isPart L[k] = true := by unfold Sp.isPart; rw [HM.out, bne, bne, h1, h2]; rfl
            have HP := Lib.hid hp
            clear hp
            go_wp2
            go_round
            case rel => exact ⟨k + 1, h, by go_num, R6.all_next h HA.out HP.out⟩
            case measure => simp [intOf]; omega
    · obtain rfl : k = L.length := by omega
      have hall : L.all Sp.isPart = true := by have := HA.out; rwa [List.take_length] at this
      have HA' := Lib.hid hall
      clear hall HG
      go_wp2
      go_ret
      exact ⟨ret_bool (by unfold Sp.isPath; rw [← HL.out, HA'.out, Bool.true_and, Bool.eq_iff_iff]; simp; omega), hb⟩
/-- The reference's file, of whatever lies beside it. -/
def fileO (t : Sp.Str) : Option Sp.Fl :=
  if (Lib.cut t [61]).2.2 && Sp.isPath (Lib.cut t [61]).1 && decide ((Lib.cut t [61]).2.1.length ≤ 24) then some ⟨(Lib.cut t [61]).1, (Lib.cut t [61]).2.1⟩ else none
def FileR (s : Sp.Str) (w : World) (e : Ending) (w' : World) : Prop :=
  Below w.heap.size w w' ∧ ∃ (f : Sp.Fl) (ok : Bool), e = .returned (.tuple #[.agg #[sv f.path, sv f.content], .bool ok]) ∧ (fileO s = if ok then some f else none) ∧ f.path.length ≤ s.length
namespace R6
theorem at_ne {s : ByteArray} {a r : Sp.Str} (h : bl s = a ++ 61 :: r) (hn : (61 : UInt8) ∉ a) {k : Nat} (hk : k < a.length) (hks : k < s.size) : ((s[k].toNat : Int) != 61) = true := by
  have e : s[k] = (bl s)[k]'(by rw [bl_len]; exact hks) := rfl
  have e2 : (bl s)[k]'(by rw [bl_len]; exact hks) = a[k] := by simp only [h]; rw [List.getElem_append_left hk]
  have : s[k] ≠ 61 := by rw [e, e2]; intro h'; exact hn (h' ▸ List.getElem_mem hk)
  simp only [bne_iff_ne]
  intro h'
  apply this
  rw [← UInt8.toNat_inj]
  show s[k].toNat = 61
  omega
theorem at_eq {s : ByteArray} {a r : Sp.Str} (h : bl s = a ++ 61 :: r) (hks : a.length < s.size) : ((s[a.length].toNat : Int) != 61) = false := by
  have e : s[a.length] = (bl s)[a.length]'(by rw [bl_len]; exact hks) := rfl
  have e2 : (bl s)[a.length]'(by rw [bl_len]; exact hks) = 61 := by simp only [h]; rw [List.getElem_append_right (Nat.le_refl _)]; simp
  rw [e, e2]; rfl
theorem at_none {s : ByteArray} (hn : (61 : UInt8) ∉ bl s) {k : Nat} (hks : k < s.size) : ((s[k].toNat : Int) != 61) = true := by
  have e : s[k] = (bl s)[k]'(by rw [bl_len]; exact hks) := rfl
  have : s[k] ≠ 61 := by rw [e]; intro h'; exact hn (h' ▸ List.getElem_mem _)
  simp only [bne_iff_ne]
  intro h'
  apply this
  rw [← UInt8.toNat_inj]
  show s[k].toNat = 61
  omega
end R6
set_option maxHeartbeats 1000000 in
theorem file_none (s : ByteArray) (w : World) (hs : s.size < 1000000) (hn : (61 : UInt8) ∉ bl s) (hc : Lib.cut (bl s) [61] = (bl s, [], false)) :
    Calls Tryz.prog 71 #[.string s] w (FileR (bl s) w) := by
  have HN := Lib.hid hn
  have HC := Lib.hid hc
  clear hn hc
  go_enter Tryz.func71, Tryz.ntmps71
  go_wp2
  go_loop [4] (fun i => ∃ k : Nat, k ≤ s.size ∧ i = .int .i64 k) (fun i => s.size - (intOf i).toNat)
  case atStart => exact ⟨0, Nat.zero_le _, rfl⟩
  case round =>
    obtain ⟨k, hk, rfl⟩ := hrel
    by_cases h : k < s.size
    · have hne := R6.at_none HN.out h
      go_wp2
      go_round
      case rel => exact ⟨k + 1, h, by go_num⟩
      case measure => simp [intOf]; omega
    · obtain rfl : k = s.size := by omega
      go_wp2
      refine bodyPost_ret (v := .tuple #[.agg #[.string ⟨#[]⟩, .string ⟨#[]⟩], .bool false]) (by simp [results, Tryz.results71, go_sem]) rfl ?_
      refine ⟨?_, ⟨[], []⟩, false, rfl, by unfold fileO; rw [HC.out]; rfl, Nat.zero_le _⟩
      exact (Below.refl _ _).alloc (Nat.le_refl _) _
namespace R6
theorem ext_a {s : ByteArray} {a r : Sp.Str} (h : bl s = a ++ 61 :: r) : s.extract 0 a.length = ⟨a.toArray⟩ := bl_inj (by rw [bl_to, h, bl_mk]; simp)
theorem ext_r {s : ByteArray} {a r : Sp.Str} (h : bl s = a ++ 61 :: r) : s.extract (a.length + 1) s.size = ⟨r.toArray⟩ := bl_inj (by
  rw [bl_from, h, bl_mk]
  rw [show a ++ 61 :: r = (a ++ [61]) ++ r from by simp]
  rw [List.drop_left' (by simp)])
end R6
set_option maxRecDepth 100000 in
set_option maxHeartbeats 1000000 in
theorem file_some (s : ByteArray) (w : World) (hs : s.size < 1000000) (a r : Sp.Str) (h : bl s = a ++ 61 :: r) (hn : (61 : UInt8) ∉ a) (hc : Lib.cut (bl s) [61] = (a, r, true)) :
    Calls Tryz.prog 71 #[.string s] w (FileR (bl s) w) := by
  have hsz : s.size = a.length + 1 + r.length := by rw [← bl_len, h]; simp; omega
  have HSZ := Lib.hid hsz
  have hal : a.length < s.size := by omega
  have H := Lib.hid h
  have HN := Lib.hid hn
  have HC := Lib.hid hc
  clear hn hc h hsz
  go_enter Tryz.func71, Tryz.ntmps71
  go_wp2
  go_loop [4] (fun i => ∃ k : Nat, k ≤ a.length ∧ i = .int .i64 k) (fun i => a.length - (intOf i).toNat)
  case atStart => exact ⟨0, Nat.zero_le _, rfl⟩
  case round =>
    obtain ⟨k, hk, rfl⟩ := hrel
    by_cases h : k < a.length
    · have hks : k < s.size := by omega
      have hne := R6.at_ne H.out HN.out h hks
      go_wp2
      go_round
      case rel => exact ⟨k + 1, h, by go_num⟩
      case measure => simp [intOf]; omega
    · obtain rfl : k = a.length := by omega
      have heq := R6.at_eq H.out hal
      go_wp2_with fail
      rw [R6.ext_a H.out]
      refine (isPath_any _ _ (by rw [← bl_len, bl_mk]; omega)).mono ?_
      rintro e w1 ⟨rfl, hb⟩
      rw [bl_mk]
      obtain ⟨hc, hf⟩ := bcell hb
      have hz : w.heap.size < w1.heap.size := by have := hb.size; simp at this; omega
      have hb1 : Below w.heap.size w w1 := Below.trans ((Below.refl _ _).alloc (Nat.le_refl _) _) (hb.mono (by simp))
      cases hp : Sp.isPath a with
      | false =>
        have HP := Lib.hid hp
        clear hp
        go_wp2
        go_region
        go_wp2
        refine bodyPost_ret (v := .tuple #[.agg #[.string (s.extract 0 a.length), .string (s.extract (a.length + 1) s.size)], .bool false]) (by simp [results, Tryz.results71, go_sem, hc]) rfl ?_
        refine ⟨?_, ⟨a, r⟩, false, by rw [R6.ext_a H.out, R6.ext_r H.out]; rfl, by unfold fileO; rw [HC.out]; simp [HP.out], by rw [bl_len]; exact Nat.le_of_lt hal⟩
        refine Below.drew ?_
        repeat' (first | assumption | refine Below.setCell ?_ (by simp) _)
      | true =>
        have HP := Lib.hid hp
        clear hp
        go_wp2
        go_region
        go_wp2
        refine bodyPost_ret (v := .tuple #[.agg #[.string (s.extract 0 a.length), .string (s.extract (a.length + 1) s.size)], .bool (decide ((s.size : Int) - (a.length : Int) - 1 ≤ 24))]) (by simp [results, Tryz.results71, go_sem, hc]) rfl ?_
        have e : decide ((s.size : Int) - (a.length : Int) - 1 ≤ 24) = decide (r.length ≤ 24) := by
          have := HSZ.out
          rw [decide_eq_decide]; omega
        refine ⟨?_, ⟨a, r⟩, decide (r.length ≤ 24), by rw [R6.ext_a H.out, R6.ext_r H.out, e]; rfl, by unfold fileO; rw [HC.out]; simp [HP.out], by rw [bl_len]; exact Nat.le_of_lt hal⟩
        refine Below.drew ?_
        repeat' (first | assumption | refine Below.setCell ?_ (by simp) _)
theorem file_any (s : ByteArray) (w : World) (hs : s.size < 1000000) : Calls Tryz.prog 71 #[.string s] w (FileR (bl s) w) := by
  rcases T1.byte1 61 (bl s) with ⟨h1, _, h3⟩ | ⟨a, r, h1, h2, _, h3⟩
  · exact file_none s w hs h1 h3
  · exact file_some s w hs a r h1 h2 h3
end Go.Proofs.YtfphcecjhdkcoaaGreatDoor
/-
Plain: the second word of a package's text, its lines, whose its paths are.
-/
namespace Go.Proofs.YtfphcecjhdkcoaaGreatDoor
namespace Sp
/-- The second word of a package's text. -/
def word2 (s : Str) : Str := if s.length < 8 then [] else (s.drop 8).takeWhile (fun c => c != 32)
/-- The path that a line names. -/
def fileOf (s : Str) : Option Str := if s.length < 5 || s.take 5 != [102, 105, 108, 101, 32] then none else some ((s.drop 5).takeWhile (fun c => c != 61))
end Sp
namespace V15
open Sp (Str Pk Dk St)
open V2 V3
theorem take_no {c : UInt8} : ∀ {a : Str} (r : Str), c ∉ a → (a ++ c :: r).takeWhile (fun x => x != c) = a
  | [], r, _ => by simp
  | x :: a, r, h => by
    have h1 : x ≠ c := fun e => h (by rw [e]; simp)
    have h2 : c ∉ a := fun e => h (List.mem_cons_of_mem _ e)
    rw [List.cons_append, List.takeWhile_cons_of_pos (by simpa using h1), take_no r h2]
theorem word2_print {p : Pk} (h : V3.Good p) : Sp.word2 (Sp.print p) = p.name := by
  obtain ⟨r, hr, _⟩ := print_head p
  unfold Sp.word2
  rw [hr, if_neg (by simp)]
  show (p.name ++ 32 :: r).takeWhile _ = _
  exact take_no r (V1.name_no h.wf.name (by decide))
theorem split_print {p : Pk} (h : V3.Good p) : Lib.split (Sp.print p) [10] = linesOf p := by
  have hn := no10_lines h.wf
  rw [print_join, V1.split_join 10 [10] 0 rfl u10 (linesOf p) (linesOf_ne p) fun s hs => (hn s hs).1]
theorem fileOf_fileL {f : Sp.Fl} (h : WfF f) : Sp.fileOf (fileL f) = some f.path := by
  unfold Sp.fileOf fileL Sp.fileW
  have e : ([102, 105, 108, 101] ++ 32 :: (f.path ++ 61 :: f.content) : Str) = 102 :: 105 :: 108 :: 101 :: 32 :: (f.path ++ 61 :: f.content) := rfl
  rw [e]
  rw [if_neg (by simp)]
  show some ((f.path ++ 61 :: f.content).takeWhile _) = _
  rw [take_no _ (V1.path_no h.1 (by decide) (by decide))]
theorem fileOf_other {a : UInt8} {s : Str} (h : a ≠ 102) : Sp.fileOf (a :: s) = none := by
  unfold Sp.fileOf
  rw [if_pos]
  cases s with
  | nil => rfl
  | cons b r => simp [h]
/-- The paths that a package's lines name are its files'. -/
theorem lines_files {p : Pk} (h : V3.Good p) : ∀ s ∈ Lib.split (Sp.print p) [10], ∀ x, Sp.fileOf s = some x → x ∈ p.files.map (·.path) := by
  intro s hs x hx
  rw [split_print h] at hs
  unfold linesOf at hs
  rcases List.mem_cons.1 hs with rfl | hs
  · rw [show pkL p = 112 :: _ from rfl, fileOf_other (by decide)] at hx; cases hx
  · rcases List.mem_append.1 hs with hs | hs
    · unfold needsLs at hs
      split at hs
      · cases hs
      · rw [List.mem_singleton] at hs; subst hs
        rw [show needsL p.needs = 110 :: _ from rfl, fileOf_other (by decide)] at hx; cases hx
    · rcases List.mem_append.1 hs with hs | hs
      · unfold barsLs at hs
        split at hs
        · cases hs
        · rw [List.mem_singleton] at hs; subst hs
          rw [show barsL p.bars = 98 :: _ from rfl, fileOf_other (by decide)] at hx; cases hx
      · obtain ⟨f, hf, rfl⟩ := List.mem_map.1 hs
        rw [fileOf_fileL (h.wf.paths f hf)] at hx
        injection hx with hx
        exact List.mem_map.2 ⟨f, hf, hx⟩
/-- Among what goes together a path is one package's. -/
theorem path_one {L : List Pk} (h : Sp.Ok L) {p q : Pk} (hp : p ∈ L) (hq : q ∈ L) {x : Str} (h1 : x ∈ p.files.map (·.path)) (h2 : x ∈ q.files.map (·.path)) : p = q := by
  have hn := V9.paths_nodup h
  clear h
  induction L with
  | nil => cases hp
  | cons a r ih =>
    have e : Sp.paths (a :: r) = a.files.map (·.path) ++ Sp.paths r := by unfold Sp.paths; rw [List.flatMap_cons]
    rw [e, List.nodup_append] at hn
    have hr : ∀ {b : Pk}, b ∈ r → x ∈ b.files.map (·.path) → x ∈ Sp.paths r := fun hb hx => by unfold Sp.paths; exact List.mem_flatMap.2 ⟨_, hb, hx⟩
    rcases List.mem_cons.1 hp with e1 | hp1
    · rcases List.mem_cons.1 hq with e2 | hq1
      · rw [e1, e2]
      · subst e1; exact absurd rfl (hn.2.2 x h1 x (hr hq1 h2))
    · rcases List.mem_cons.1 hq with e2 | hq1
      · subst e2; exact absurd rfl (hn.2.2 x h2 x (hr hp1 h1))
      · exact ih hp1 hq1 hn.2.1
theorem owner_of {L : List Pk} (h : Sp.Ok L) {p : Pk} (hp : p ∈ L) {x : Str} (hx : x ∈ p.files.map (·.path)) : Sp.owner L x = p.name := by
  unfold Sp.owner
  cases hf : L.find? (fun p => (p.files.map (·.path)).contains x) with
  | none =>
    rw [List.find?_eq_none] at hf
    exact absurd (List.contains_iff_mem.2 hx) (hf p hp)
  | some q =>
    have h1 := List.mem_of_find?_eq_some hf
    have h2 := List.find?_some hf
    simp only
    rw [path_one h h1 hp (List.contains_iff_mem.1 h2) hx]
theorem owner_none {L : List Pk} {x : Str} (hx : ∀ p ∈ L, x ∉ p.files.map (·.path)) : Sp.owner L x = [] := by
  unfold Sp.owner
  have hf : L.find? (fun p => (p.files.map (·.path)).contains x) = none := by
    rw [List.find?_eq_none]
    intro p hp hc
    exact hx p hp (List.contains_iff_mem.1 hc)
  rw [hf]
/-- What a session tells of a text: its names, one behind the other. -/
theorem read_words {ts : List Str} {i : Nat} {F : List Pk} (h : Sp.readAll i ts = .inr F) (k : Nat) (hk : k < ts.length) : ∃ p, Sp.parse ts[k] = .inr p ∧ V3.Good p ∧ (Sp.names F)[k]? = some p.name := by
  have hm := (V9.readAll_map ts i F).1 h
  have hl := V9.read_len h
  have h1 : (ts.map Sp.parse)[k]? = some (Sp.parse ts[k]) := by rw [List.getElem?_map, List.getElem?_eq_getElem hk]; rfl
  rw [hm, List.getElem?_map, List.getElem?_eq_getElem (by omega)] at h1
  injection h1 with h1
  refine ⟨F[k], h1.symm, V9.read_good h _ (List.getElem_mem _), ?_⟩
  unfold Sp.names
  rw [List.getElem?_map, List.getElem?_eq_getElem (by omega)]; rfl
end V15
end Go.Proofs.YtfphcecjhdkcoaaGreatDoor
/-
Walks of the statements' name (a package's second word) and lines (of a text).
-/
namespace Go.Proofs.YtfphcecjhdkcoaaGreatDoor
open Go.RowKit Go.Maps
namespace KW
theorem ne_of {s : ByteArray} {k : Nat} {c : UInt8} (h : k < s.size) (hne : s[k] ≠ c) : ((s[k].toNat : Int) != (c.toNat : Int)) = true := by
  simp only [bne_iff_ne]
  intro h'
  apply hne
  rw [← UInt8.toNat_inj]
  omega
theorem eq_of {s : ByteArray} {k : Nat} {c : UInt8} (h : k < s.size) (he : s[k] = c) : ((s[k].toNat : Int) != (c.toNat : Int)) = false := by
  rw [he]; simp
/-- A word has been gone through up to k. -/
theorem word_stop {s : ByteArray} {c : UInt8} {a k : Nat} (hak : a ≤ k) (hk : k ≤ s.size) (h : ∀ x ∈ ((bl s).drop a).take (k - a), (x != c) = true) (hs : k = s.size ∨ ∃ h : k < s.size, s[k] = c) :
    ((bl s).drop a).takeWhile (fun x => x != c) = ((bl s).drop a).take (k - a) := by
  have e : (bl s).drop a = ((bl s).drop a).take (k - a) ++ (bl s).drop k := by
    conv => lhs; rw [← List.take_append_drop (k - a) ((bl s).drop a)]
    rw [List.drop_drop, show a + (k - a) = k from by omega]
  rw [e, List.take_append_of_le_length (by rw [List.length_take, List.length_drop, bl_len]; omega), List.take_take, Nat.min_self, List.takeWhile_append_of_pos h]
  rcases hs with hs | ⟨hlt, he⟩
  · have hn : (bl s).drop k = [] := List.drop_eq_nil_of_le (by rw [bl_len]; omega)
    rw [hn]; simp
  · have hl : k < (bl s).length := by rw [bl_len]; exact hlt
    rw [List.drop_eq_getElem_cons hl, List.takeWhile_cons_of_neg]
    · simp
    · have : (bl s)[k] = c := he
      simp [this]
theorem word_next {s : ByteArray} {c : UInt8} {a k : Nat} (hak : a ≤ k) (hk : k < s.size) (h : ∀ x ∈ ((bl s).drop a).take (k - a), (x != c) = true) (hne : s[k] ≠ c) :
    ∀ x ∈ ((bl s).drop a).take (k + 1 - a), (x != c) = true := by
  have hl : k - a < ((bl s).drop a).length := by rw [List.length_drop, bl_len]; omega
  have e : ((bl s).drop a).take (k + 1 - a) = ((bl s).drop a).take (k - a) ++ [s[k]] := by
    rw [show k + 1 - a = k - a + 1 from by omega, List.take_succ_eq_append_getElem hl]
    congr 2
    rw [List.getElem_drop]
    show _ = (bl s)[k]'(by rw [bl_len]; exact hk)
    congr 1; omega
  intro x hx
  rw [e] at hx
  rcases List.mem_append.1 hx with hx | hx
  · exact h x hx
  · rw [List.mem_singleton] at hx; subst hx; simpa using hne
end KW
set_option maxRecDepth 100000 in
set_option maxHeartbeats 1000000 in
theorem name_any (s : ByteArray) (w : World) (hs : s.size ≤ 4611686018427387904) :
    Calls Tryz.prog 31 #[.string s] w fun e w' => e = .returned (sv (Sp.word2 (bl s))) ∧ w' = w := by
  by_cases h8 : s.size < 8
  · have hw : Sp.word2 (bl s) = [] := by unfold Sp.word2; rw [bl_len, if_pos h8]
    have HW := Lib.hid hw
    have h8i : ¬ (8 : Int) < (s.size : Int) := by omega
    clear hw
    go_enter Tryz.func31, Tryz.ntmps31
    go_wp2
    refine wp_loop_rounds 1 ?_
    rw [rounds_succ]
    go_wp2
    go_ret
    exact ⟨by rw [HW.out]; rfl, rfl⟩
  · have hw : Sp.word2 (bl s) = ((bl s).drop 8).takeWhile (fun x => x != 32) := by unfold Sp.word2; rw [bl_len, if_neg h8]
    have HW := Lib.hid hw
    clear hw
    go_enter Tryz.func31, Tryz.ntmps31
    go_wp2
    go_loop [3] (fun i => ∃ k : Nat, 8 ≤ k ∧ k ≤ s.size ∧ i = .int .i64 k ∧ ∀ x ∈ ((bl s).drop 8).take (k - 8), (x != 32) = true) (fun i => s.size - (intOf i).toNat)
    case atStart => exact ⟨8, Nat.le_refl _, by omega, rfl, fun x hx => by simp at hx⟩
    case round =>
      obtain ⟨k, hk8, hk, rfl, hd⟩ := hrel
      have HD := Lib.hid hd
      clear hd
      by_cases h : k < s.size
      · by_cases hc : s[k] = 32
        · have he := KW.eq_of h hc
          rw [show ((32 : UInt8).toNat : Int) = 32 from rfl] at he
          have HC := Lib.hid hc
          clear hc
          go_wp2
          go_ret
          refine ⟨?_, rfl⟩
          rw [HW.out, KW.word_stop hk8 hk HD.out (.inr ⟨h, HC.out⟩)]
          exact ret_str (by rw [bl_ext]; rfl)
        · have hne := KW.ne_of h hc
          rw [show ((32 : UInt8).toNat : Int) = 32 from rfl] at hne
          have HC := Lib.hid hc
          clear hc
          go_wp2
          go_round
          case rel => exact ⟨k + 1, by omega, h, by go_num, KW.word_next hk8 h HD.out HC.out⟩
          case measure => simp [intOf]; omega
      · have hke : k = s.size := by omega
        have HKE := Lib.hid hke
        clear hke
        go_wp2
        go_ret
        refine ⟨?_, rfl⟩
        rw [HW.out, KW.word_stop hk8 hk HD.out (.inl HKE.out)]
        exact ret_str (by rw [bl_ext]; rfl)
set_option maxRecDepth 100000 in
set_option maxHeartbeats 1000000 in
theorem lines_any (s : ByteArray) (w : World) (hs : s.size < 1099511627776) :
    Calls Tryz.prog 55 #[.string s] w fun e w' => ∃ v, e = .returned v ∧ w'.ownsRow w.heap.size 9 1 v (Lib.split (bl s) [10]).length ((Lib.split (bl s) [10]).map sv) ∧ Below w.heap.size w w' := by
  have h10 : ([10] : Sp.Str) ≠ [] := by decide
  have HT := Lib.hid h10
  clear h10
  obtain ⟨B, hB⟩ : ∃ B, w.heap.size = B := ⟨_, rfl⟩
  rw [hB]
  have HB := Lib.hid hB
  clear hB
  go_enter Tryz.func55, Tryz.ntmps55
  go_wp2
  go_loopw [3, 4, 5] (fun v f i wr => ∃ (done : List Sp.Str) (a b : Nat), f = .int .i64 a ∧ i = .int .i64 b ∧ b ≤ s.size + 1 ∧ a ≤ s.size + 1 ∧ done.length ≤ s.size + 1 ∧ (b ≤ s.size → R2.Far (bl s) [10] done a b) ∧ (s.size < b → done = Lib.split (bl s) [10]) ∧ wr.ownsRow B 9 1 v done.length (done.map sv) ∧ Below B w wr) (fun _ _ i _ => s.size + 2 - (intOf i).toNat)
  case atStart => exact ⟨[], 0, 0, rfl, rfl, Nat.zero_le _, Nat.zero_le _, Nat.zero_le _, fun _ => R2.far0 _ _, fun h => by omega, World.ownsRow_nil _ _ _ _, Below.refl _ _⟩
  case round =>
    obtain ⟨done, a, b, rfl, rfl, hb, ha, hdl, hfar, hend, hown, hbel⟩ := hrel
    have HF := Lib.hid hfar
    have HE := Lib.hid hend
    clear hfar hend
    have hB' : B ≤ wr.heap.size := by have := hbel.size; rw [HB.out] at this; exact this
    by_cases hle : b ≤ s.size
    · have hfar := HF.out hle
      have h1 : a ≤ b := hfar.1
      have h3 : done.length ≤ s.size := by have := R2.far_len HT.out hfar; rw [bl_len] at this; exact this
      have HF := Lib.hid hfar
      clear hfar
      by_cases hlt : b < s.size
      · have hne : ¬ ((b : Int) = (s.size : Int)) := by omega
        by_cases hc : s[b] = 10
        · have he : ((s[b].toNat : Int) == 10) = true := by rw [hc]; rfl
          have hq : (((bl s).drop b).take 1 == [10]) = true := by
            have := bl_one s b hlt
            rw [bl_ext, show b + 1 - b = 1 from by omega] at this
            rw [this, hc]; rfl
          have HQ := Lib.hid hq
          clear hc hq
          go_wp2_with (at_builtin; refine wp_app app38 wr [.string (s.extract a b)] rfl (by simp [Value.oneCell']) rfl _ _ rfl B _ _ _ rfl hown rfl (by omega) hB' ?_; intro v' w1 hown' hgrow _)
          have hb1 := below_of_grown hbel hB' hown hgrow
          go_roundw
          case rel =>
            have hf := R2.far_hit HT.out HF.out (by rw [bl_len]; exact hlt) HQ.out
            have e : [Value.string (s.extract a b)] = [sv ((List.drop a (bl s)).take (b - a))] := by rw [← bl_ext]; unfold sv; rw [mk_bl]
            rw [e] at hown'
            exact ⟨_, b + 1, b + 1, by go_num, by go_num, by omega, by omega, by simp; omega, fun _ => hf, fun h => by omega, by simpa using hown', hb1⟩
          case measure => simp [intOf]; omega
        · have he : ((s[b].toNat : Int) == 10) = false := by
            rw [beq_eq_false_iff_ne]; intro h'; apply hc; rw [← UInt8.toNat_inj]; show s[b].toNat = 10; omega
          have hq : (((bl s).drop b).take 1 == [10]) = false := by
            have := bl_one s b hlt
            rw [bl_ext, show b + 1 - b = 1 from by omega] at this
            rw [this]; simpa using hc
          have HQ := Lib.hid hq
          clear hc hq
          go_wp2
          go_roundw
          case rel => exact ⟨done, a, b + 1, rfl, by go_num, by omega, by omega, by omega, fun _ => R2.far_miss HF.out HT.out (by rw [bl_len]; exact hlt) HQ.out, fun h => by omega, hown, hbel⟩
          case measure => simp [intOf]; omega
      · obtain rfl : b = s.size := by omega
        go_wp2_with (at_builtin; refine wp_app app38 wr [.string (s.extract a s.size)] rfl (by simp [Value.oneCell']) rfl _ _ rfl B _ _ _ rfl hown rfl (by omega) hB' ?_; intro v' w1 hown' hgrow _)
        have hb1 := below_of_grown hbel hB' hown hgrow
        go_roundw
        case rel =>
          have hf := R2.far_end HT.out HF.out (by simp [bl_len])
          have e : [Value.string (s.extract a s.size)] = [sv (List.drop a (bl s))] := by rw [← bl_from]; unfold sv; rw [mk_bl]
          rw [e] at hown'
          exact ⟨done ++ [List.drop a (bl s)], s.size + 1, s.size + 1, by go_num, by go_num, by omega, by omega, by simp; omega, fun h => by omega, fun _ => hf.symm, by simpa using hown', hb1⟩
        case measure => simp [intOf]
    · have hd := HE.out (by omega)
      have HDN := Lib.hid hd
      clear hd
      go_wp2
      go_ret
      exact ⟨_, rfl, by rw [← HDN.out]; exact hown, hbel⟩
end Go.Proofs.YtfphcecjhdkcoaaGreatDoor
/-
The walk of the law Turned.
-/
namespace Go.Proofs.YtfphcecjhdkcoaaGreatDoor
open Go.RowKit Go.Maps
namespace LT
theorem from_cells {w : World} {b off : Nat} {l : List Sp.Str} {k m : Nat} (h : ∀ j (hj : j < l.length), w.cell? ⟨b, off + j, none⟩ = some (.string ⟨l[j].toArray⟩)) :
    ∀ (j : Nat) u, (((l.drop k).take m).map sv)[j]? = some u → w.cell? ((⟨b, off + k, none⟩ : Addr).add j) = some u := by
  intro j u hj
  rw [List.getElem?_map, List.getElem?_take] at hj
  split at hj
  · rw [List.getElem?_drop] at hj
    have hk : k + j < l.length := by
      rcases Nat.lt_or_ge (k + j) l.length with h | h
      · exact h
      · rw [List.getElem?_eq_none h] at hj; cases hj
    rw [List.getElem?_eq_getElem hk] at hj
    simp only [Option.map_some, Option.some.injEq] at hj
    subst hj
    rw [DK.addr_add, Nat.add_assoc, h _ hk]; rfl
  · cases hj
theorem one_cells (l : List Sp.Str) : ∀ u ∈ l.map sv, u.oneCell' = true := by
  intro u hu
  obtain ⟨s, _, rfl⟩ := List.mem_map.1 hu
  rfl
theorem turned_perm (l : List Sp.Str) (k : Nat) : l.Perm (l.drop k ++ l.take k) := by
  have h := List.perm_append_comm (l₁ := l.take k) (l₂ := l.drop k)
  rwa [List.take_append_drop] at h
theorem fb_put {w : World} {b : Nat} {f0 : Sp.Fault} (h : FB w b f0) (f : Sp.Fault) : FB (putF w b f) b f := by
  have h' : w.heap[b]? = some (.cells #[.int .i64 (f0.kind : Int), .int .i64 (f0.which : Int), .int .i64 (f0.line : Int), .string ⟨f0.name.toArray⟩] 23 (0, 0)) := h
  unfold FB putF
  have e1 := DS.set_blk h' 0 (.int .i64 (f.kind : Int))
  have e2 := DS.set_blk e1 1 (.int .i64 (f.which : Int))
  have e3 := DS.set_blk e2 2 (.int .i64 (f.line : Int))
  exact DS.set_blk e3 3 (.string ⟨f.name.toArray⟩)
theorem first_below {w w' : World} (h : w.grownBy w' (Value.slice none 0 0).ownBlock) : Below w.heap.size w w' := (Below.refl _ _).grown h (Nat.le_refl _) fun g hg => by cases hg
theorem first_cells {w w' : World} {b off : Nat} {l : List Sp.Str} (k : Nat) (hb : Below w.heap.size w w') (hlt : b < w.heap.size) (h : ∀ j (hj : j < l.length), w.cell? ⟨b, off + j, none⟩ = some (.string ⟨l[j].toArray⟩)) :
    ∀ (j : Nat) u, ((l.take k).map sv)[j]? = some u → w'.cell? ((⟨b, off, none⟩ : Addr).add j) = some u := by
  have h2 := from_cells (k := 0) (m := k) (fun j hj => (hb.cell (p := ⟨b, off + j, none⟩) (show b < w.heap.size from hlt)).trans (h j hj))
  rwa [List.drop_zero, Nat.add_zero] at h2
theorem plan_len {S : Nat} {x : Sp.St} (h : V11.Sure S x) (ts : List Sp.Str) : (x.plan ts).2.length ≤ ts.length := by
  unfold Sp.St.plan
  cases hp : Sp.planned x.L ts with
  | inl f => simp
  | inr Ao =>
    obtain ⟨A, o⟩ := Ao
    exact Nat.le_of_eq (V9.planned_len h.live.ok.set hp)
theorem install_kind {S : Nat} {x : Sp.St} (h : V11.Sure S x) (hn : x.last + 1 < 18446744073709551616) (ts : List Sp.Str) : (x.install ts).1.kind ≤ 8 := by
  rcases V11.install_cases h hn ts with ⟨_, _, hc⟩ | ⟨A, o, _, _, e, _⟩
  · rcases hc with ⟨f, hp, e⟩ | ⟨A, o, _, _, e⟩
    · rw [e]; have := V11.planned_kind hp; omega
    · rw [e]; decide
  · rw [e]; decide
theorem put_chg (w : World) (r : Nat) (f : Sp.Fault) : Chg (· = r) w (putF w r f) := ⟨rfl, rfl, rfl, Nat.le_of_eq (putF_size w r f).symm, fun _ _ hm => putF_other w r f hm⟩
end LT
set_option maxRecDepth 100000 in
set_option maxHeartbeats 4000000 in
theorem turned_any {G : Nat} {w : World} (hw : Wd G w) (z c : Int) (hc1 : -9223372036854775808 ≤ c) (hc2 : c ≤ 9223372036854775807) (va : Value) (ts : List Sp.Str) (hva : StrsAt w va ts)
    (hl1 : ts.length ≤ 2305843009213693952) (hs1 : ∀ s ∈ ts, s.length ≤ 2305843009213693952) :
    Calls Tryz.prog 5 #[.int .i64 z, va, .int .i64 c] w fun e w' => e = .returned (.bool true) ∧ Below w.heap.size w w' := by
  have HVA := Lib.hid (fun (W : World) (hW : Below w.heap.size w W) => StrsAt.below' hva hW hW.size)
  have HW := Lib.hid (fun (W : World) (hW : Below w.heap.size w W) => hw.keep hW)
  have hGw := hw.glob.size
  have HSM1 := Lib.hid (small_any va ts hva hl1 hs1)
  obtain ⟨vba, vbc, rfl, hvc, hvg⟩ := hva.get
  have HVG := Lib.hid hvg
  obtain ⟨ti, hi0, hz0, hz1, hz2⟩ := info_parts infoStr
  have HI0 := Lib.hid hi0
  have HZ0 := Lib.hid hz0
  have HZ1 := Lib.hid hz1
  have HZ2 := Lib.hid hz2
  clear hva hw hs1 hvg hi0 hz0 hz1 hz2
  go_enter Tryz.func5, Tryz.ntmps5
  go_wp2_with fail
  refine HSM1.out.mono ?_
  rintro e w1 ⟨g1, rfl, hb1, hsm1⟩
  have HB1 := Lib.hid hb1
  have H1 := Lib.hid hsm1
  clear hb1 hsm1
  cases g1 with
  | false =>
    go_wp2
    go_ret
    exact ⟨rfl, HB1.out⟩
  | true =>
    have hk1 := H1.out rfl
    unfold LW.bulk at hk1
    have ht5 : ts.length ≤ 9000 := by omega
    clear hk1
    by_cases h0 : ts.length = 0
    · have i0 : (ts.length : Int) = 0 := by omega
      go_wp2
      go_ret
      exact ⟨rfl, HB1.out⟩
    · have i0 : ¬ ((ts.length : Int) = 0) := by omega
      go_wp2_with fail
      refine (anchored_any (HW.out w1 HB1.out)).mono ?_
      rintro e w2 ⟨rfl, hb2⟩
      have HB2 := Lib.hid (HB1.out.trans (hb2.mono HB1.out.size))
      clear hb2
      go_wp2_with fail
      refine (Run.new (HW.out w2 HB2.out) z).mono ?_
      rintro e w3 ⟨x, rfl, hb3, hrun⟩
      have hz2 := HB2.out.size
      have hz3 := hb3.size
      have hnew := (V11.new_sure ⟨(secs_ok z).1, (secs_ok z).2.1⟩).2
      obtain ⟨st0, hst0⟩ : ∃ st0, st0 = Sp.St.new (secs z) := ⟨_, rfl⟩
      rw [← hst0] at hrun hnew
      have HST0 := Lib.hid hst0
      have HNEW := Lib.hid hnew
      have hlast : st0.last = 0 := hnew.1
      have hbA : Below w3.heap.size w3 (w3.alloc (.cells #[.int .i64 0, .int .i64 0, .int .i64 0, .string ⟨#[]⟩] 23)) := (Below.refl _ _).alloc (Nat.le_refl _) _
      have hzA : (w3.alloc (.cells #[.int .i64 0, .int .i64 0, .int .i64 0, .string ⟨#[]⟩] 23)).heap.size = w3.heap.size + 1 := by simp
      have HBA := Lib.hid ((HB2.out.trans (hb3.mono (by omega))).trans (hbA.mono (by omega)))
      have HX := Lib.hid (hrun.below hbA)
      have HF := Lib.hid (FB.new w3 ⟨0, 0, 0, []⟩)
      have HZA := Lib.hid hzA
      clear hrun hb3 hst0 hnew hbA hzA
      unfold faultV sv Sp.okF
      go_wp2_with fail
      generalize (w3.alloc (.cells #[.int .i64 0, .int .i64 0, .int .i64 0, .string ⟨#[]⟩] 23)) = w3A at *
      have hzA1 := Nat.le_of_eq HZA.out
      have hzA2 := Nat.le_of_eq HZA.out.symm
      refine (Run.new (HW.out w3A HBA.out) z).mono ?_
      rintro e w4 ⟨y, rfl, hb4, hrun⟩
      have hz4 := hb4.size
      rw [← HST0.out] at hrun
      have hbA : Below w4.heap.size w4 (w4.alloc (.cells #[.int .i64 0, .int .i64 0, .int .i64 0, .string ⟨#[]⟩] 23)) := (Below.refl _ _).alloc (Nat.le_refl _) _
      have hzA : (w4.alloc (.cells #[.int .i64 0, .int .i64 0, .int .i64 0, .string ⟨#[]⟩] 23)).heap.size = w4.heap.size + 1 := by simp
      have HBB := Lib.hid ((HBA.out.trans (hb4.mono (by omega))).trans (hbA.mono (by omega)))
      have HX2 := Lib.hid ((HX.out.below hb4).below hbA)
      have HY2 := Lib.hid (hrun.below hbA)
      have hf := (HF.out.below hb4).below hbA
      have HF2 := Lib.hid hf
      have hg := FB.new w4 ⟨0, 0, 0, []⟩
      have HG2 := Lib.hid hg
      have HZB := Lib.hid hzA
      obtain ⟨f0, f1, f2, f3⟩ := hf.cells
      obtain ⟨g0, g1, g2, g3⟩ := hg.cells
      clear hrun hb4 hbA hzA hf hg HX HF f1 f2 f3 g1 g2 g3
      unfold faultV sv Sp.okF
      go_wp2_with fail
      generalize (w4.alloc (.cells #[.int .i64 0, .int .i64 0, .int .i64 0, .string ⟨#[]⟩] 23)) = w4A at *
      have hzB1 := Nat.le_of_eq HZB.out
      have hzB2 := Nat.le_of_eq HZB.out.symm
      refine (pick_any c ts.length (by omega) (by omega) hc1 hc2 w4A).mono ?_
      rintro e w5 ⟨k, hk, rfl, hw5⟩
      have hw5' := hw5.symm
      subst hw5'
      clear hw5
      obtain ⟨tb, toff, rfl, htb, _⟩ := HVG.out 0 (by omega)
      have hck : ¬ (vbc = k) := by omega
      have hcells : ∀ j (hj : j < ts.length), w4A.cell? ⟨tb, toff + j, none⟩ = some (.string ⟨ts[j].toArray⟩) := fun j hj => by
        obtain ⟨a', c', e1, _, hg⟩ := (HVA.out w4A HBB.out).get
        obtain ⟨b', o', e2, _, h⟩ := hg j hj
        injection e1 with e1
        subst e1
        injection e2 with e2
        injection e2 with e2 e3 _
        subst e2 e3
        exact h
      have hn1 := LT.from_cells (k := k) (m := ts.length - k) hcells
      rw [List.take_of_length_le (by rw [List.length_drop]; exact Nat.le_refl _)] at hn1
      have hl1 : ((ts.drop k).map sv).length = (ts.length - k) * 1 := by rw [List.length_map, List.length_drop, Nat.mul_one]
      have HN1 := Lib.hid hn1
      have HL1 := Lib.hid hl1
      have HCE := Lib.hid hcells
      clear hn1 hl1 hcells
      have hsl1 : (ts.length : Int) - (k : Int) = ((ts.length - k : Nat) : Int) := by omega
      have hdr1 := Below.drew (Below.refl w4A.heap.size w4A)
      go_wp2_with (first
        | (at_builtin; refine wpList_append_own w4A rfl (.const (.slice none 0 0)) (.tmp 63) 38 rfl w4A.heap.size 9 ti (.string ⟨#[]⟩) 1 16 Tryz.underlying38 HI0.out HZ0.out HZ1.out HZ2.out rfl (by decide) _ 0 [] rfl (World.ownsRow_nil _ _ _ _) ⟨tb, toff + k, none⟩ (ts.length - k) (vbc - k) ((ts.drop k).map sv) rfl HL1.out HN1.out (LT.one_cells _) (by unfold maxLen; omega) (by omega) (Nat.le_refl _) ?_; intro v5 w5 hown5 hgrow5 _; simp only [Nat.zero_add, List.nil_append] at hown5; obtain ⟨ra, rc, rfl⟩ := W3.row_slice hown5; have hb5 : Below w4A.heap.size w4A w5 := LT.first_below hgrow5; have HN2 := Lib.hid (LT.first_cells k hb5 (show tb < w4A.heap.size by omega) HCE.out); have hz5 := hb5.size; have HO5 := Lib.hid hown5; have HB5 := Lib.hid hb5; clear hown5 hgrow5 hb5 HN1 HL1 HCE hsl1 hdr1 f0 g0)
        | (at_builtin; refine wpList_append_own w5 rfl (.tmp 65) (.tmp 68) 38 rfl w4A.heap.size 9 ti (.string ⟨#[]⟩) 1 16 Tryz.underlying38 HI0.out HZ0.out HZ1.out HZ2.out rfl (by decide) _ _ _ rfl HO5.out ⟨tb, toff, none⟩ k vbc ((ts.take k).map sv) rfl (by rw [List.length_map, List.length_take, Nat.mul_one]; omega) HN2.out (LT.one_cells _) (by unfold maxLen; omega) (by omega) (by omega) ?_; intro v6 w6 hown6 hgrow6 _))
      obtain ⟨us, hus⟩ : ∃ us, us = ts.drop k ++ ts.take k := ⟨_, rfl⟩
      have hul : us.length = ts.length := by rw [hus, List.length_append, List.length_drop, List.length_take]; omega
      rw [← List.map_append, ← hus, show ts.length - k + k = us.length from by omega] at hown6
      have hb6 : Below w4A.heap.size w5 w6 := (Below.refl _ _).grown hgrow6 hz5 fun g hg => (HO5.out.lt g hg).1
      have hz6 := hb6.size
      obtain ⟨rb, rd, rfl⟩ := W3.row_slice hown6
      have HUS := Lib.hid hus
      have HUL := Lib.hid hul
      have HROW := Lib.hid (StrsFrom.of_row hown6 (Nat.le_refl w4A.heap.size))
      have hball := HB5.out.trans hb6
      have HX6 := Lib.hid (HX2.out.below hball)
      have HY6 := Lib.hid (HY2.out.below hball)
      have HF6 := Lib.hid (HF2.out.below hball)
      have HG6 := Lib.hid (HG2.out.below hball)
      have HB6 := Lib.hid (HBB.out.trans (hball.mono (by omega)))
      have hlst := Nat.le_of_eq HNEW.out.1
      clear hus hul hown6 hgrow6 hb6 hball HO5 HB5 HN2
      go_wp2_with fail
      refine (Run.plan (HW.out _ HB6.out) HX6.out (by omega) _ ts (HVA.out _ HB6.out) ht5).mono ?_
      rintro e w7 ⟨vo, rfl, hvo, hb7⟩
      have hz7 := hb7.size
      obtain ⟨p1, hp1⟩ : ∃ p1, p1 = (st0.plan ts).1 := ⟨_, rfl⟩
      obtain ⟨o1, ho1⟩ : ∃ o1, o1 = (st0.plan ts).2 := ⟨_, rfl⟩
      rw [← hp1]
      rw [← ho1] at hvo
      have HP1 := Lib.hid hp1
      have HO1 := Lib.hid ho1
      obtain ⟨oa, oc, rfl, hoc, _⟩ := hvo.at_.get
      have hF7 := HF6.out.below hb7
      have hG7 := HG6.out.below hb7
      obtain ⟨k0, k1, k2, k3, y0, y1, y2, y3, hRl⟩ := ZB.cells hF7
      have hzp := putF_size w7 w3.heap.size p1
      have hch := LT.put_chg w7 w3.heap.size p1
      have HV7 := Lib.hid (StrsIn.of_from hvo (Nat.le_refl _))
      have HB7 := Lib.hid ((HB6.out.trans (hb7.mono (by omega))).trans (putF_below w7 w3.heap.size p1 (by omega)))
      have HX7 := Lib.hid ((HX6.out.below hb7).chg hch fun j hj e => by have := hj.2; omega)
      have HY7 := Lib.hid ((HY6.out.below hb7).chg hch fun j hj e => by have := hj.1; omega)
      have HV7p := Lib.hid (HV7.out.chg hch (Nat.le_refl _) fun j hj => .inl (by omega))
      have HROW7 := Lib.hid (StrsIn.chg (StrsIn.of_from (HROW.out.below hb7) (Nat.le_refl _)) hch (Nat.le_refl _) fun j hj => .inl (by omega))
      have HF7 := Lib.hid (LT.fb_put hF7 p1)
      have HG7 := Lib.hid (hG7.chg hch (show ¬ w4.heap.size = w3.heap.size by omega))
      have HZP := Lib.hid hzp
      clear hp1 ho1 hvo hb7 hF7 hG7 hzp hch HV7 HROW HX6 HY6 HF6 HG6
      unfold faultV sv
      go_wp2_with fail
      change Calls Tryz.prog 23 _ (putF w7 w3.heap.size p1) _
      generalize putF w7 w3.heap.size p1 = w7A at *
      have hzp1 := Nat.le_of_eq HZP.out
      have hzp2 := Nat.le_of_eq HZP.out.symm
      have hu5 : us.length ≤ 9000 := by have := HUL.out; omega
      clear y0 y1 y2 y3 k0 k1 k2 k3 hRl
      refine (Run.plan (HW.out _ HB7.out) HY7.out (by omega) _ us (HROW7.out.at_ (by omega)) hu5).mono ?_
      rintro e w8 ⟨vo2, rfl, hvo2, hb8⟩
      have hz8 := hb8.size
      obtain ⟨p2, hp2⟩ : ∃ p2, p2 = (st0.plan us).1 := ⟨_, rfl⟩
      obtain ⟨o2, ho2⟩ : ∃ o2, o2 = (st0.plan us).2 := ⟨_, rfl⟩
      rw [← hp2]
      rw [← ho2] at hvo2
      have HP2 := Lib.hid hp2
      have HO2 := Lib.hid ho2
      obtain ⟨qa, qc, rfl, hqc, _⟩ := hvo2.at_.get
      have hF8 := HF7.out.below hb8
      have hG8 := HG7.out.below hb8
      obtain ⟨k0, k1, k2, k3, y0, y1, y2, y3, hRl⟩ := ZB.cells hG8
      have hzp := putF_size w8 w4.heap.size p2
      have hch := LT.put_chg w8 w4.heap.size p2
      have HU8 := Lib.hid (StrsIn.chg (StrsIn.of_from hvo2 (Nat.le_refl _)) hch (Nat.le_refl _) fun j hj => .inl (by omega))
      have HB8 := Lib.hid ((HB7.out.trans (hb8.mono (by omega))).trans (putF_below w8 w4.heap.size p2 (by omega)))
      have HX8 := Lib.hid ((HX7.out.below hb8).chg hch fun j hj e => by have := hj.2; omega)
      have HY8 := Lib.hid ((HY7.out.below hb8).chg hch fun j hj e => by have := hj.2; omega)
      have HV8 := Lib.hid ((HV7p.out.below hb8 (by omega)).chg hch (by omega) fun j hj => .inl (by omega))
      have HROW8 := Lib.hid ((HROW7.out.below hb8 (by omega)).chg hch (by omega) fun j hj => .inl (by omega))
      have HF8 := Lib.hid (hF8.chg hch (show ¬ w3.heap.size = w4.heap.size by omega))
      have HG8 := Lib.hid (LT.fb_put hG8 p2)
      have HZQ := Lib.hid hzp
      clear hp2 ho2 hvo2 hb8 hF8 hG8 hzp hch HV7p HROW7 HX7 HY7 HF7 HG7
      unfold faultV sv
      go_wp2_with fail
      change Calls Tryz.prog 24 _ (putF w8 w4.heap.size p2) _
      generalize putF w8 w4.heap.size p2 = w8A at *
      have hzq1 := Nat.le_of_eq HZQ.out
      have hzq2 := Nat.le_of_eq HZQ.out.symm
      clear y0 y1 y2 y3 k0 k1 k2 k3 hRl
      -- the law, in plain
      have hlaw := V11.turned_law HX8.out.sure (HNEW.out.2) (by omega) (us := us) (ts := ts) (by rw [HUS.out]; exact LT.turned_perm ts k)
      obtain ⟨q1, q2, q3, q4, q5⟩ := hlaw
      rw [← HO1.out, ← HO2.out] at q1
      rw [← HP1.out, ← HP2.out] at q2
      have ho6 : o1.length ≤ 9000 := by
        rw [HO1.out]; exact Nat.le_trans (LT.plan_len HX8.out.sure ts) ht5
      have hk8 := LT.install_kind HX8.out.sure (by omega) ts
      have hsm := same_any _ _ o1 o2 (HV8.out.at_ (by omega)) (HU8.out.at_ (by omega)) (by omega)
      rw [decide_eq_true q1] at hsm
      have HSM := Lib.hid hsm
      have Q2 := Lib.hid q2
      have Q3 := Lib.hid q3
      have Q4 := Lib.hid q4
      have Q5 := Lib.hid q5
      clear hsm q1 q2 q3 q4 q5 HV8 HU8
      refine HSM.out.mono ?_
      rintro e w9 ⟨rfl, hb9⟩
      have hz9 := hb9.size
      have HB9 := Lib.hid (HB8.out.trans (hb9.mono (by omega)))
      have HX9 := Lib.hid (HX8.out.below hb9)
      have HY9 := Lib.hid (HY8.out.below hb9)
      have HROW9 := Lib.hid (HROW8.out.below hb9 (by omega))
      have HF9 := Lib.hid (HF8.out.below hb9)
      have HG9 := Lib.hid (HG8.out.below hb9)
      clear hb9 HSM HX8 HY8 HROW8 HF8 HG8
      go_wp2_with fail
      refine (Run.install (HW.out _ HB9.out) HX9.out (by omega) (by omega) (by omega) _ ts (HVA.out _ HB9.out) ht5).mono ?_
      rintro e w10 ⟨rfl, hch10, hx10⟩
      have hz10 := hch10.size
      obtain ⟨h, hh⟩ : ∃ h, h = (st0.install ts).1 := ⟨_, rfl⟩
      rw [← hh]
      rw [← hh] at hk8
      have HH := Lib.hid hh
      have hbA : Below w10.heap.size w10 (w10.alloc (.cells #[.int .i64 (h.kind : Int), .int .i64 (h.which : Int), .int .i64 (h.line : Int), .string ⟨h.name.toArray⟩] 23)) := (Below.refl _ _).alloc (Nat.le_refl _) _
      have hzA : (w10.alloc (.cells #[.int .i64 (h.kind : Int), .int .i64 (h.which : Int), .int .i64 (h.line : Int), .string ⟨h.name.toArray⟩] 23)).heap.size = w10.heap.size + 1 := by simp
      have hb10 := HB9.out.trans (hch10.below (B := w.heap.size) HB9.out.size fun j hj => by have := hj.1; omega)
      have HB10 := Lib.hid (hb10.trans (hbA.mono hb10.size))
      have HX10 := Lib.hid (hx10.below hbA)
      have HY10 := Lib.hid ((HY9.out.chg hch10 fun j hj e => by have := hj.1; have := e.2; omega).below hbA)
      have HROW10 := Lib.hid ((HROW9.out.chg hch10 (by omega) fun j hj => .inl (by have := hj.2; omega)).below hbA (by omega))
      have HF10 := Lib.hid ((HF9.out.chg hch10 fun e => by have := e.2; omega).below hbA)
      have HG10 := Lib.hid ((HG9.out.chg hch10 fun e => by have := e.2; omega).below hbA)
      have HH10 := Lib.hid (FB.new w10 h)
      have HZR := Lib.hid hzA
      clear hh hbA hzA hb10 hch10 hx10 HX9 HY9 HROW9 HF9 HG9
      unfold faultV sv
      go_wp2_with fail
      generalize (w10.alloc (.cells #[.int .i64 (h.kind : Int), .int .i64 (h.which : Int), .int .i64 (h.line : Int), .string ⟨h.name.toArray⟩] 23)) = w10A at *
      have hzr1 := Nat.le_of_eq HZR.out
      have hzr2 := Nat.le_of_eq HZR.out.symm
      refine (Run.install (HW.out _ HB10.out) HY10.out (by omega) (by omega) (by omega) _ us (HROW10.out.at_ (by omega)) hu5).mono ?_
      rintro e w11 ⟨rfl, hch11, hy11⟩
      have hz11 := hch11.size
      obtain ⟨jf, hj⟩ : ∃ jf, jf = (st0.install us).1 := ⟨_, rfl⟩
      rw [← hj]
      have HJ := Lib.hid hj
      have hbA : Below w11.heap.size w11 (w11.alloc (.cells #[.int .i64 (jf.kind : Int), .int .i64 (jf.which : Int), .int .i64 (jf.line : Int), .string ⟨jf.name.toArray⟩] 23)) := (Below.refl _ _).alloc (Nat.le_refl _) _
      have hzA : (w11.alloc (.cells #[.int .i64 (jf.kind : Int), .int .i64 (jf.which : Int), .int .i64 (jf.line : Int), .string ⟨jf.name.toArray⟩] 23)).heap.size = w11.heap.size + 1 := by simp
      have hb11 := HB10.out.trans (hch11.below (B := w.heap.size) HB10.out.size fun j hj => by have := hj.1; omega)
      have HB11 := Lib.hid (hb11.trans (hbA.mono hb11.size))
      have HY11 := Lib.hid (hy11.below hbA)
      have HX11 := Lib.hid ((HX10.out.chg hch11 fun j hj e => by
        have h1 := e.1; have h2 := e.2
        rcases hj with hj | hj
        · have := hj.2; omega
        · have := hj.1; omega).below hbA)
      have HF11 := Lib.hid ((HF10.out.chg hch11 fun e => by have := e.1; omega).below hbA)
      have HG11 := Lib.hid ((HG10.out.chg hch11 fun e => by have := e.2; omega).below hbA)
      have HH11 := Lib.hid ((HH10.out.chg hch11 fun e => by have := e.2; omega).below hbA)
      have HJ11 := Lib.hid (FB.new w11 jf)
      have HZS := Lib.hid hzA
      clear hj hbA hzA hb11 hch11 hy11 HX10 HY10 HROW10 HF10 HG10 HH10
      unfold faultV sv
      go_wp2_with fail
      generalize (w11.alloc (.cells #[.int .i64 (jf.kind : Int), .int .i64 (jf.which : Int), .int .i64 (jf.line : Int), .string ⟨jf.name.toArray⟩] 23)) = w11A at *
      have hzs1 := Nat.le_of_eq HZS.out
      have hzs2 := Nat.le_of_eq HZS.out.symm
      refine HX11.out.packages.mono ?_
      rintro e w12 ⟨v1, rfl, hv1, hb12⟩
      have hz12 := hb12.size
      have HB12 := Lib.hid (HB11.out.trans (hb12.mono (by omega)))
      have HY12 := Lib.hid (HY11.out.below hb12)
      have HF12 := Lib.hid (HF11.out.below hb12)
      have HG12 := Lib.hid (HG11.out.below hb12)
      have HH12 := Lib.hid (HH11.out.below hb12)
      have HJ12 := Lib.hid (HJ11.out.below hb12)
      have HV12 := Lib.hid hv1
      have hll := HX11.out.texts
      clear hv1 hb12 HF11 HG11 HH11 HJ11
      go_wp2_with fail
      refine HY12.out.packages.mono ?_
      rintro e w13 ⟨v2, rfl, hv2, hb13⟩
      have hz13 := hb13.size
      have HB13 := Lib.hid (HB12.out.trans (hb13.mono (by omega)))
      have HF13 := Lib.hid (HF12.out.below hb13)
      have HG13 := Lib.hid (HG12.out.below hb13)
      have HH13 := Lib.hid (HH12.out.below hb13)
      have HJ13 := Lib.hid (HJ12.out.below hb13)
      obtain ⟨la, hla⟩ : ∃ la, la = Sp.texts (st0.install ts).2.L := ⟨_, rfl⟩
      obtain ⟨lb, hlb⟩ : ∃ lb, lb = Sp.texts (st0.install us).2.L := ⟨_, rfl⟩
      have hv1 := HV12.out.below hb13
      rw [← hla] at hv1 hll
      rw [← hlb] at hv2
      have q4 := Q4.out
      have q5 := Q5.out
      rw [← hla, ← hlb] at q4
      rw [← hla, ← HH.out] at q5
      obtain ⟨la1, la2, rfl, _, _⟩ := hv1.at_.get
      have hsm := same_any _ _ la lb hv1.at_ hv2.at_ (by omega)
      rw [decide_eq_true q4] at hsm
      have HSM := Lib.hid hsm
      have Q5' := Lib.hid q5
      clear hv1 hv2 hsm hb13 hla hlb q4 q5 HF12 HG12 HH12 HJ12 HV12 Q4 Q5
      go_wp2_with fail
      refine HSM.out.mono ?_
      rintro e w14 ⟨rfl, hb14⟩
      have hz14 := hb14.size
      have HB14 := Lib.hid (HB13.out.trans (hb14.mono (by omega)))
      obtain ⟨f0, _, _, _⟩ := (HF13.out.below hb14).cells
      obtain ⟨g0, _, _, _⟩ := (HG13.out.below hb14).cells
      obtain ⟨h0', _, _, _⟩ := (HH13.out.below hb14).cells
      obtain ⟨j0, _, _, _⟩ := (HJ13.out.below hb14).cells
      have q3 := Q3.out
      rw [← HH.out, ← HJ.out] at q3
      have q2 := Q2.out
      have q5 := Q5'.out
      have hr1 : w3.heap.size < w14.heap.size := by omega
      have hr2 : w4.heap.size < w14.heap.size := by omega
      have hr3 : w10.heap.size < w14.heap.size := by omega
      have hr4 : w11.heap.size < w14.heap.size := by omega
      have HFIN := Lib.hid HB14.out
      clear hb14 HB14
      by_cases hp : p1.kind = 0
      · have hp' := q2.1 hp
        have i1 : (p1.kind : Int) = 0 := by omega
        have i2 : (p2.kind : Int) = 0 := by omega
        by_cases hh : h.kind = 0
        · have hj' := q3.1 hh
          have i3 : (h.kind : Int) = 0 := by omega
          have i4 : (jf.kind : Int) = 0 := by omega
          rw [if_pos hh] at q5
          have i5 : (la.length : Int) = (ts.length : Int) := by omega
          clear q2 q3 q5 hp hp' hj' hh
          go_wp2_with fail
          refine (sign_any 0 (by decide) _).mono ?_
          rintro e w15 ⟨rfl, rfl⟩
          go_wp2
          go_ret
          exact ⟨rfl, HFIN.out⟩
        · have hj' : ¬ jf.kind = 0 := fun e => hh (q3.2 e)
          have i3 : ((h.kind : Int) == 0) = false := beq_eq_false_iff_ne.2 (by omega)
          have i4 : ((jf.kind : Int) == 0) = false := beq_eq_false_iff_ne.2 (by omega)
          rw [if_neg hh] at q5
          have i5 : (la.length : Int) = 0 := by omega
          have hsg := sign_any h.kind (by omega) w14
          rw [if_neg hh] at hsg
          have HSG := Lib.hid hsg
          clear q2 q3 q5 hp hp' hj' hh hsg
          go_wp2_with fail
          refine HSG.out.mono ?_
          rintro e w15 ⟨rfl, rfl⟩
          go_wp2
          go_ret
          exact ⟨rfl, HFIN.out⟩
      · have hp' : ¬ p2.kind = 0 := fun e => hp (q2.2 e)
        have i1 : ((p1.kind : Int) == 0) = false := beq_eq_false_iff_ne.2 (by omega)
        have i2 : ((p2.kind : Int) == 0) = false := beq_eq_false_iff_ne.2 (by omega)
        by_cases hh : h.kind = 0
        · have hj' := q3.1 hh
          have i3 : (h.kind : Int) = 0 := by omega
          have i4 : (jf.kind : Int) = 0 := by omega
          rw [if_pos hh] at q5
          have i5 : (la.length : Int) = (ts.length : Int) := by omega
          clear q2 q3 q5 hp hp' hj' hh
          go_wp2_with fail
          refine (sign_any 0 (by decide) _).mono ?_
          rintro e w15 ⟨rfl, rfl⟩
          go_wp2
          go_ret
          exact ⟨rfl, HFIN.out⟩
        · have hj' : ¬ jf.kind = 0 := fun e => hh (q3.2 e)
          have i3 : ((h.kind : Int) == 0) = false := beq_eq_false_iff_ne.2 (by omega)
          have i4 : ((jf.kind : Int) == 0) = false := beq_eq_false_iff_ne.2 (by omega)
          rw [if_neg hh] at q5
          have i5 : (la.length : Int) = 0 := by omega
          have hsg := sign_any h.kind (by omega) w14
          rw [if_neg hh] at hsg
          have HSG := Lib.hid hsg
          clear q2 q3 q5 hp hp' hj' hh hsg
          go_wp2_with fail
          refine HSG.out.mono ?_
          rintro e w15 ⟨rfl, rfl⟩
          go_wp2
          go_ret
          exact ⟨rfl, HFIN.out⟩
end Go.Proofs.YtfphcecjhdkcoaaGreatDoor
namespace Go.Proofs.YtfphcecjhdkcoaaGreatDoor
open Go.RowKit Go.Maps
namespace LB
theorem name_len {p : Sp.Pk} (h : V3.Good p) : p.name.length ≤ 300 := by
  have := h.wf.name
  unfold Sp.isName Sp.among at this
  simp at this
  omega
theorem fb_full {w : World} {r : Nat} {f : Sp.Fault} (h : FB w r f) : w.cell? ⟨r, 0, none⟩ = some (.int .i64 (f.kind : Int)) ∧ w.cell? ⟨r, 1, none⟩ = some (.int .i64 (f.which : Int)) ∧ w.cell? ⟨r, 2, none⟩ = some (.int .i64 (f.line : Int)) ∧ w.cell? ⟨r, 3, none⟩ = some (.string ⟨f.name.toArray⟩) ∧
    w.frozen? ⟨r, 0, none⟩ = false ∧ w.frozen? ⟨r, 1, none⟩ = false ∧ w.frozen? ⟨r, 2, none⟩ = false ∧ w.frozen? ⟨r, 3, none⟩ = false ∧ r < w.heap.size := by
  obtain ⟨c0, c1, c2, c3⟩ := h.cells
  have h' : w.heap[r]? = some (.cells #[.int .i64 (f.kind : Int), .int .i64 (f.which : Int), .int .i64 (f.line : Int), .string ⟨f.name.toArray⟩] 23 (0, 0)) := h
  refine ⟨c0, c1, c2, c3, ?_, ?_, ?_, ?_, h.lt⟩
  all_goals simp [World.frozen?, h']
end LB
set_option maxRecDepth 100000 in
set_option maxHeartbeats 4000000 in
theorem back_any' {G : Nat} {w : World} (hw : Wd G w) (z : Int) (va vb : Value) (fs ts : List Sp.Str) (hva : StrsAt w va fs) (hvb : StrsAt w vb ts)
    (hl1 : fs.length ≤ 2305843009213693952) (hs1 : ∀ s ∈ fs, s.length ≤ 2305843009213693952) (hl2 : ts.length ≤ 2305843009213693952) (hs2 : ∀ s ∈ ts, s.length ≤ 2305843009213693952) :
    Calls Tryz.prog 8 #[.int .i64 z, va, vb] w fun e w' => e = .returned (.bool true) ∧ Below w.heap.size w w' := by
  have HVA := Lib.hid (fun (W : World) (hW : Below w.heap.size w W) => StrsAt.below' hva hW hW.size)
  have HVB := Lib.hid (fun (W : World) (hW : Below w.heap.size w W) => StrsAt.below' hvb hW hW.size)
  have HW := Lib.hid (fun (W : World) (hW : Below w.heap.size w W) => hw.keep hW)
  have hGw := hw.glob.size
  have HSM1 := Lib.hid (small_any va fs hva hl1 hs1)
  have HSM2 := Lib.hid (fun (W : World) (hW : Below w.heap.size w W) => small_any vb ts (StrsAt.below' hvb hW hW.size) hl2 hs2)
  obtain ⟨vba, vbc, rfl, hvc, hvg⟩ := hvb.get
  have HVG := Lib.hid hvg
  clear hva hvb hw hs1 hs2 hvg
  go_enter Tryz.func8, Tryz.ntmps8
  go_wp2_with fail
  refine HSM1.out.mono ?_
  rintro e w1 ⟨g1, rfl, hb1, hsm1⟩
  have HB1 := Lib.hid hb1
  have H1 := Lib.hid hsm1
  clear hb1 hsm1
  go_wp2_with fail
  refine (HSM2.out w1 HB1.out).mono ?_
  rintro e w2 ⟨g2, rfl, hb2, hsm2⟩
  have HB2 := Lib.hid (HB1.out.trans (hb2.mono HB1.out.size))
  have H2 := Lib.hid hsm2
  clear hb2 hsm2
  cases g1 with
  | false =>
    go_wp2
    go_ret
    exact ⟨rfl, HB2.out⟩
  | true =>
    cases g2 with
    | false =>
      go_wp2
      go_ret
      exact ⟨rfl, HB2.out⟩
    | true =>
      have hk1 := H1.out rfl
      have hk2 := H2.out rfl
      unfold LW.bulk at hk1 hk2
      have hf5 : fs.length ≤ 9000 := by omega
      have ht5 : ts.length ≤ 9000 := by omega
      have htl : ∀ s ∈ ts, s.length ≤ 9000 := fun s hs => by have := LW.bulk_le hs; omega
      have HTL := Lib.hid htl
      clear hk1 hk2 htl
      go_wp2_with fail
      refine (anchored_any (HW.out w2 HB2.out)).mono ?_
      rintro e w3 ⟨rfl, hb3⟩
      have HB3 := Lib.hid (HB2.out.trans (hb3.mono HB2.out.size))
      clear hb3
      go_wp2_with fail
      refine (Run.new (HW.out w3 HB3.out) z).mono ?_
      rintro e w4 ⟨x, rfl, hb4, hrun⟩
      have hz3 := HB3.out.size
      have hz4 := hb4.size
      have HB4 := Lib.hid (HB3.out.trans (hb4.mono hz3))
      have HR0 := Lib.hid hrun
      have hlast : (Sp.St.new (secs z)).last = 0 := (V11.new_sure ⟨(secs_ok z).1, (secs_ok z).2.1⟩).2.1
      obtain ⟨st0, hst0⟩ : ∃ st0, st0 = Sp.St.new (secs z) := ⟨_, rfl⟩
      rw [← hst0] at HR0 hlast
      clear hrun hb4 hst0
      have hbA : Below w4.heap.size w4 (w4.alloc (.cells #[.int .i64 0, .int .i64 0, .int .i64 0, .string ⟨#[]⟩] 23)) := (Below.refl _ _).alloc (Nat.le_refl _) _
      have hzA : (w4.alloc (.cells #[.int .i64 0, .int .i64 0, .int .i64 0, .string ⟨#[]⟩] 23)).heap.size = w4.heap.size + 1 := by simp
      have HBA := Lib.hid (HB4.out.trans (hbA.mono (by omega)))
      have HRA := Lib.hid (HR0.out.below hbA)
      have HZA := Lib.hid hzA
      clear hbA hzA HR0
      unfold faultV sv Sp.okF
      go_wp2_with fail
      generalize (w4.alloc (.cells #[.int .i64 0, .int .i64 0, .int .i64 0, .string ⟨#[]⟩] 23)) = w4A at *
      have hzA1 := Nat.le_of_eq HZA.out
      have hzA2 := Nat.le_of_eq HZA.out.symm
      refine (Run.install (HW.out _ HBA.out) HRA.out (by omega) (by omega) (by omega) va fs (HVA.out _ HBA.out) hf5).mono ?_
      rintro e w5 ⟨rfl, hch5, hrun5⟩
      have hz5 := hch5.size
      have HB5 := Lib.hid (HBA.out.trans (hch5.below (B := w.heap.size) HBA.out.size fun k hk => by have := hk.1; omega))
      obtain ⟨st1, hst1⟩ : ∃ st1, st1 = (st0.install fs).2 := ⟨_, rfl⟩
      have hlast1 : st1.last ≤ 1 := by rw [hst1]; have := (V11.install_sure HRA.out.sure (by omega) fs).2; omega
      rw [← hst1] at hrun5
      have HR5 := Lib.hid hrun5
      clear hch5 hrun5 hst1
      go_wp2_with fail
      refine HR5.out.packages.mono ?_
      rintro e w6 ⟨v1, rfl, hv1, hb6⟩
      have hz6 := hb6.size
      have HB6 := Lib.hid (HB5.out.trans (hb6.mono (by omega)))
      have HR6 := Lib.hid (HR5.out.below hb6)
      have HV6 := Lib.hid (StrsIn.of_from hv1 (Nat.le_refl _))
      have hll := HR5.out.texts
      clear hv1 hb6
      go_wp2_with fail
      refine (Run.install (HW.out _ HB6.out) HR6.out (by omega) (by omega) (by omega) _ ts (HVB.out _ HB6.out) ht5).mono ?_
      rintro e w7 ⟨rfl, hch7, hrun7⟩
      have hz7 := hch7.size
      obtain ⟨g, hg⟩ : ∃ g, g = (st1.install ts).1 := ⟨_, rfl⟩
      obtain ⟨st2, hst2⟩ : ∃ st2, st2 = (st1.install ts).2 := ⟨_, rfl⟩
      have hlast2 : st2.last ≤ 2 := by rw [hst2]; have := (V11.install_sure HR6.out.sure (by omega) ts).2; omega
      have hsure1 := HR6.out.sure
      rw [← hg]
      rw [← hst2] at hrun7
      have hO5 : ∀ k, (fun k => w3.heap.size ≤ k ∧ k < w4.heap.size) k ∨ w4A.heap.size ≤ k ∧ k < w5.heap.size → w.heap.size ≤ k ∧ k < w5.heap.size := fun k hk => by
        rcases hk with hk | hk
        · have h1 := hk.1; have h2 := hk.2; exact ⟨by omega, by omega⟩
        · exact ⟨by omega, hk.2⟩
      have hbA : Below w7.heap.size w7 (w7.alloc (.cells #[.int .i64 (g.kind : Int), .int .i64 (g.which : Int), .int .i64 (g.line : Int), .string ⟨g.name.toArray⟩] 23)) := (Below.refl _ _).alloc (Nat.le_refl _) _
      have hzB : (w7.alloc (.cells #[.int .i64 (g.kind : Int), .int .i64 (g.which : Int), .int .i64 (g.line : Int), .string ⟨g.name.toArray⟩] 23)).heap.size = w7.heap.size + 1 := by simp
      have hb7 := HB6.out.trans (hch7.below (B := w.heap.size) HB6.out.size fun k hk => (hO5 k hk).1)
      have HB7 := Lib.hid (hb7.trans (hbA.mono hb7.size))
      have HR7 := Lib.hid (hrun7.below hbA)
      have HV7 := Lib.hid ((HV6.out.chg hch7 (Nat.le_refl _) fun k hk => .inl (by have := (hO5 k hk).2; omega)).below hbA (by omega))
      have HFG := Lib.hid (FB.new w7 g)
      have HZB := Lib.hid hzB
      have HG := Lib.hid hg
      have HST2 := Lib.hid hst2
      obtain ⟨c0, _, _, _⟩ := HFG.out.cells
      have hgl : w7.heap.size < (w7.alloc (.cells #[.int .i64 (g.kind : Int), .int .i64 (g.which : Int), .int .i64 (g.line : Int), .string ⟨g.name.toArray⟩] 23)).heap.size := by rw [hzB]; omega
      clear hch7 hrun7 hO5 hbA hzB hb7 hg hst2
      unfold faultV sv
      by_cases hgk : g.kind = 0
      · have i1 : (g.kind : Int) = 0 := by omega
        obtain ⟨F, f1, f2, f3⟩ := V11.back_law hsure1 (by omega) (show (st1.install ts).1.kind = 0 by rw [← HG.out]; exact hgk)
        rw [← HST2.out] at f2 f3
        have hFl := V9.read_len f1
        have HFR := Lib.hid f1
        have HF2 := Lib.hid f2
        have HF3 := Lib.hid f3
        have HFL := Lib.hid hFl
        have hwe : w7.alloc (.cells #[.int .i64 0, .int .i64 (g.which : Int), .int .i64 (g.line : Int), .string ⟨g.name.toArray⟩] 23) = w7.alloc (.cells #[.int .i64 (g.kind : Int), .int .i64 (g.which : Int), .int .i64 (g.line : Int), .string ⟨g.name.toArray⟩] 23) := by rw [i1]
        have HWE := Lib.hid hwe
        clear hgk f1 f2 f3 hFl hsure1 hwe
        go_wp2_with fail
        rw [HWE.out]
        clear HWE i1
        generalize (w7.alloc (.cells #[.int .i64 (g.kind : Int), .int .i64 (g.which : Int), .int .i64 (g.line : Int), .string ⟨g.name.toArray⟩] 23)) = w7A at *
        have hzB1 := Nat.le_of_eq HZB.out
        have hzB2 := Nat.le_of_eq HZB.out.symm
        clear c0
        go_loopw [15, 16] (fun v i wr => ∃ k : Nat, k ≤ ts.length ∧ i = .int .i64 k ∧ wr.ownsRow w7A.heap.size 9 1 v ((Sp.names F).take k).length (((Sp.names F).take k).map sv) ∧ Below w7A.heap.size w7A wr) (fun _ i _ => ts.length - (intOf i).toNat)
        case atStart => exact ⟨0, Nat.zero_le _, rfl, World.ownsRow_nil _ _ _ _, Below.refl _ _⟩
        case round =>
          obtain ⟨k, hk, rfl, hown, hbel⟩ := hrel
          have hzr := hbel.size
          have HBR := Lib.hid (HB7.out.trans (hbel.mono (by omega)))
          by_cases hlt : k < ts.length
          · obtain ⟨p, hp1, hp2, hp3⟩ := V15.read_words HFR.out k hlt
            obtain ⟨tb, toff, rfl, htb, hcell⟩ := HVG.out k hlt
            have hcell' := (HBR.out.cell (p := ⟨tb, toff + k, none⟩) htb).trans hcell
            have hrd := plainRead_some ⟨ts[k].toArray⟩ p wr (HW.out _ HBR.out).glob (by rw [bl_mk]; exact hp1)
            have HRD := Lib.hid hrd
            have HP2 := Lib.hid hp2
            have HP3 := Lib.hid hp3
            have htk : ((Sp.names F).take k).length = k := by
              have := HFL.out
              rw [List.length_take]; unfold Sp.names; rw [List.length_map]; omega
            have HTK := Lib.hid htk
            have HOW := Lib.hid hown
            have HBL := Lib.hid hbel
            clear hrd hp1 hp2 hp3 hcell htk hown hbel
            go_wp2_with fail
            refine HRD.out.mono ?_
            rintro e wa ⟨rfl, hba⟩
            have hza := hba.size
            have HBa := Lib.hid hba
            have hwn := V15.word2_print HP2.out
            have HWN := Lib.hid hwn
            have hpl := HP2.out.len
            clear hba hwn
            unfold sv
            go_wp2_with fail
            refine (name_any ⟨(Sp.print p).toArray⟩ _ (by show (Sp.print p).toArray.size ≤ _; simp; omega)).mono ?_
            rintro e wb ⟨rfl, hwb⟩
            have hwb' := hwb.symm
            subst hwb'
            clear hwb
            rw [bl_mk, HWN.out]
            have hbA : Below wa.heap.size wa (wa.alloc (.cells #[.int .i64 0, .int .i64 0, .int .i64 0, .string ⟨#[]⟩] 23)) := (Below.refl _ _).alloc (Nat.le_refl _) _
            have hzA : (wa.alloc (.cells #[.int .i64 0, .int .i64 0, .int .i64 0, .string ⟨#[]⟩] 23)).heap.size = wa.heap.size + 1 := by simp
            have hownA := W3.row_keep (W3.row_keep HOW.out HBa.out) hbA
            rw [HTK.out] at hownA
            have hbelA := (HBL.out.trans (HBa.out.mono hzr)).trans (hbA.mono (by omega))
            have hzz : w7A.heap.size ≤ (wa.alloc (.cells #[.int .i64 0, .int .i64 0, .int .i64 0, .string ⟨#[]⟩] 23)).heap.size := by omega
            have HOWA := Lib.hid hownA
            have HBLA := Lib.hid hbelA
            clear hbA hzA hownA hbelA
            unfold sv
            generalize hWA : (wa.alloc (.cells #[.int .i64 0, .int .i64 0, .int .i64 0, .string ⟨#[]⟩] 23)) = WA at *
            go_wp2_with (at_builtin; refine wp_app app38 WA [.string ⟨p.name.toArray⟩] rfl (by simp [Value.oneCell']) rfl _ _ rfl w7A.heap.size _ _ _ rfl HOWA.out rfl (by omega) hzz ?_; intro v' w1' hown' hgrow _)
            have hb1 := below_of_grown HBLA.out hzz HOWA.out hgrow
            go_roundw
            case rel =>
              have hsn : (Sp.names F).take (k + 1) = (Sp.names F).take k ++ [p.name] := by
                obtain ⟨h1, h2⟩ := List.getElem?_eq_some_iff.1 HP3.out
                rw [List.take_succ_eq_append_getElem h1, h2]
              refine ⟨k + 1, hlt, by go_num, ?_, hb1⟩
              rw [hsn, List.length_append, List.map_append, HTK.out]
              exact hown'
            case measure => simp [intOf]; omega
          · obtain rfl : k = ts.length := by omega
            have hfull : (Sp.names F).take ts.length = Sp.names F := List.take_of_length_le (by have := HFL.out; unfold Sp.names; rw [List.length_map]; omega)
            rw [hfull] at hown
            obtain ⟨ra, rc, rfl⟩ := W3.row_slice hown
            have hnl : (Sp.names F).length ≤ 9000 := by have := HFL.out; unfold Sp.names; rw [List.length_map]; omega
            have hnn : ∀ n ∈ Sp.names F, n.length ≤ 10000 := fun n hn => by
              obtain ⟨p, hp, rfl⟩ := List.mem_map.1 hn
              have := LB.name_len (V9.read_good HFR.out p hp); omega
            have HOWN := Lib.hid (StrsFrom.of_row hown (Nat.le_refl w7A.heap.size))
            have HNN := Lib.hid hnn
            have HRr := Lib.hid (HR7.out.below hbel)
            have HVr := Lib.hid (HV7.out.below hbel (by omega))
            have HFr := Lib.hid (HFG.out.below hbel)
            clear hfull hown hnn hbel
            go_wp2_with fail
            refine (Run.remove (HW.out _ HBR.out) HRr.out (by omega) (by omega) (by omega) _ (Sp.names F) HOWN.out.at_ hnl HNN.out).mono ?_
            rintro e wc ⟨rfl, hchc, hrc⟩
            have hzc := hchc.size
            have hOr : ∀ k, ((fun k => (fun k => w3.heap.size ≤ k ∧ k < w4.heap.size) k ∨ w4A.heap.size ≤ k ∧ k < w5.heap.size) k ∨ w6.heap.size ≤ k ∧ k < w7.heap.size) → w.heap.size ≤ k ∧ (k < w5.heap.size ∨ (w6.heap.size ≤ k ∧ k < w7.heap.size)) := fun k hk => by
              rcases hk with hk | hk
              · rcases hk with hk | hk
                · have h1 := hk.1; have h2 := hk.2; exact ⟨by omega, .inl (by omega)⟩
                · have h1 := hk.1; have h2 := hk.2; exact ⟨by omega, .inl h2⟩
              · have h1 := hk.1; exact ⟨by omega, .inr hk⟩
            have hFc := HFr.out.chg hchc fun hk => by have := (hOr _ hk).2; omega
            obtain ⟨k0, k1, k2, k3, y0, y1, y2, y3, hRl⟩ := LB.fb_full hFc
            obtain ⟨st3, hst3⟩ : ∃ st3, st3 = (st2.remove (Sp.names F)).2 := ⟨_, rfl⟩
            rw [← hst3] at hrc
            have hzp := putF_size wc w7.heap.size Sp.okF
            have hput := LT.put_chg wc w7.heap.size Sp.okF
            have hbc := HBR.out.trans (hchc.below (B := w.heap.size) HBR.out.size fun k hk => (hOr k hk).1)
            have HBc := Lib.hid (hbc.trans (putF_below wc w7.heap.size Sp.okF (by omega)))
            have hf3 := HF3.out
            rw [← hst3] at hf3
            have HRc := Lib.hid (hrc.chg hput fun k hk e => by
              rcases hk with hk | hk
              · have := (hOr k hk).2; omega
              · have := hk.1; omega)
            have HVc := Lib.hid ((HVr.out.chg hchc (by omega) fun k hk => by have := (hOr k hk).2; omega).chg hput (by omega) fun k hk => .inr (by omega))
            have HFc := Lib.hid (LT.fb_put hFc Sp.okF)
            have HZP := Lib.hid hzp
            have HF3' := Lib.hid hf3
            rw [HF2.out]
            clear hchc hrc hOr hFc hst3 hzp hput hbc hf3 HVr HFr HRr
            unfold faultV sv Sp.okF
            go_wp2_with fail
            change Calls Tryz.prog 26 _ (putF wc w7.heap.size Sp.okF) _
            generalize putF wc w7.heap.size Sp.okF = wD at *
            have hzp1 := Nat.le_of_eq HZP.out
            have hzp2 := Nat.le_of_eq HZP.out.symm
            clear k0 k1 k2 k3 y0 y1 y2 y3 hRl
            refine HRc.out.packages.mono ?_
            rintro e wE ⟨v2, rfl, hv2, hbE⟩
            have hzE := hbE.size
            rw [HF3'.out] at hv2
            have HBE := Lib.hid (HBc.out.trans (hbE.mono (by omega)))
            have hsm := same_any v1 v2 (Sp.texts st1.L) (Sp.texts st1.L) ((HVc.out.below hbE (by omega)).at_ (by omega)) hv2.at_ (by omega)
            rw [decide_eq_true (show Sp.texts st1.L = Sp.texts st1.L from rfl)] at hsm
            have HSM := Lib.hid hsm
            have HFE := Lib.hid (HFc.out.below hbE)
            clear hsm hv2 hbE
            go_wp2_with fail
            refine HSM.out.mono ?_
            rintro e wG ⟨rfl, hbG⟩
            have hzG := hbG.size
            have HBG := Lib.hid (HBE.out.trans (hbG.mono (by omega)))
            obtain ⟨f0, _, _, _⟩ := (HFE.out.below hbG).cells
            have hlG : w7.heap.size < wG.heap.size := by omega
            clear hbG
            go_wp2
            go_ret
            exact ⟨rfl, HBG.out⟩
      · have i1 : ¬ (g.kind : Int) = 0 := by omega
        have HBF := Lib.hid HB7.out
        clear hgk hsure1
        go_wp2
        go_ret
        exact ⟨rfl, HBF.out⟩
end Go.Proofs.YtfphcecjhdkcoaaGreatDoor

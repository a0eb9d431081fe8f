/-
Walks of the program's small text functions: must, among, digit, name, version.
-/
import Derived.Lib.Index
import Derived.Lib.IndexMore
import Derived.Lib.Split
import Derived.Lib.Strings
import Derived.Lib.Join
import Derived.WalkKit
import Derived.WalkSpells
import Derived.WalkLawsBesides
import Derived.Lib.Hide
import Derived.Lib.IndexBytes
import Derived.Lib.SmallJoins
import Derived.BigQuiet
import Derived.Deep.QuietTactic
import Derived.Deep.DeepMust
import Derived.Test.YtfphcecjhdkcoaaGreatDoorProg
import Derived.Maps.AppendAt
import Derived.WalkSmall
import Derived.Lib.Bytealg
import Derived.Lib.IndexLaws
import Derived.Deep.AppendLies
import Derived.RangeFuncNested
import Derived.RangeFuncBound
import Derived.RangeFuncCalls
import Derived.RangeFuncLeaves
import Derived.Shelf.Abstract
import Derived.Shelf.RegionOpen
import Derived.OwnWalkIn
import Derived.TacticsInMore
import Derived.LoopNIn
import Derived.LoopIn
import Derived.Maps.Own
import Derived.Maps.OwnIn
import Derived.Maps.OwnOps
import Derived.Maps.Views
import Derived.Maps.RangeWalk
import Derived.Shelf.SlIter.Nil
import Derived.Shelf.SortM.Plain
import Derived.Shelf.SortM.SortNone
import Derived.Shelf.SlMaps.DeleteFunc
import Derived.Ground.GgzProg
import Derived.Ground.SlgmProg
import Derived.Ground.SlmdProg
import Derived.Shelf.Strings.Builder1
import Derived.Shelf.Strings.Builder2
import Derived.Shelf.Strings.OnBuilder
import Derived.Shelf.Strings.Trim
import Derived.Shelf.Small.Utf8
import Derived.Shelf.Small.Bits
import Derived.Shelf.Small.Strs
import Derived.Shelf.Small.Wraps
import Derived.Shelf.Strings.BuilderF
import Derived.Shelf.Strings.BuilderK
import Derived.Shelf.Utf8.RuneCount
import Derived.Shelf.Strconv.Itoa0
import Derived.Shelf.Strings.Search1
import Derived.Shelf.Strings.Search2
import Derived.Shelf.Strings.Search3
import Derived.Shelf.Strings.Cut
import Derived.Shelf.Strings.Count
import Derived.Shelf.LaysM
import Derived.Shelf.Strings.Shaped
import Derived.Shelf.Sort.Plain
import Derived.Shelf.Strings.Prefix
import Derived.Shelf.Strings.Split
import Derived.Shelf.Strings.SplitShaped
import Derived.Shelf.Unicode.Latin
import Derived.Shelf.Unicode.Decode
import Derived.Shelf.Strings.Runes
import Derived.Shelf.Strings.RuneCount
import Derived.Shelf.Strings.AsciiSet
import Derived.Shelf.Strings.Explode
import Derived.Shelf.Unicode.DecodeSlow
import Derived.Shelf.Unicode.CaseLookup
import Derived.Shelf.Unicode.CaseConvert
import Derived.Shelf.Unicode.CaseTo
import Derived.Shelf.Unicode.CaseLaid
import Derived.Shelf.Slices.Turned
import Derived.Ground.Names2Prog
import Derived.Shelf.Slices.SearchI
import Derived.Shelf.Slices.In.SortNone
import Derived.Shelf.Strings.SlTrimAscii
/-
The plain specification of the text layer: packages, their parsing and printing, on lists of bytes. No program in sight.
-/
namespace Go.Proofs.YtfphcecjhdkcoaaGreatDoor
namespace Sp
abbrev Str := List UInt8
structure Ch where
  name : Str
  sign : Str
  ver : Str
structure Fl where
  path : Str
  content : Str
structure Pk where
  needs : List (List Ch)
  bars : List Ch
  name : Str
  ver : Str
  files : List Fl
def smallS : Str := [97, 98, 99, 100, 101, 102, 103, 104, 105, 106, 107, 108, 109, 110, 111, 112, 113, 114, 115, 116, 117, 118, 119, 120, 121, 122]
def greatS : Str := [65, 66, 67, 68, 69, 70, 71, 72, 73, 74, 75, 76, 77, 78, 79, 80, 81, 82, 83, 84, 85, 86, 87, 88, 89, 90]
def digitS : Str := [48, 49, 50, 51, 52, 53, 54, 55, 56, 57]
def nameS : Str := smallS ++ digitS ++ [45]
def verS : Str := smallS ++ greatS ++ digitS ++ [46, 43, 45, 126]
def pathS : Str := smallS ++ digitS ++ [46, 95]
def signs : List Str := [[60, 60], [60, 61], [61], [62, 61], [62, 62]]
def packageW : Str := [112, 97, 99, 107, 97, 103, 101]
def needsW : Str := [110, 101, 101, 100, 115]
def barsW : Str := [98, 97, 114, 115]
def fileW : Str := [102, 105, 108, 101]
/-- A text of bytes of a set, least to most of them. -/
def among (s set : Str) (least most : Nat) : Bool := s.all (fun c => set.contains c) && decide (least ≤ s.length) && decide (s.length ≤ most)
def isDig (c : UInt8) : Bool := decide (48 ≤ c.toNat) && decide (c.toNat ≤ 57)
def headIs (p : UInt8 → Bool) : Str → Bool
  | [] => false
  | c :: _ => p c
def isName (s : Str) : Bool := among s nameS 1 12 && headIs smallS.contains s
def isVer (s : Str) : Bool := among s verS 1 16 && headIs isDig s
def isPart (s : Str) : Bool := among s pathS 1 8 && s != [46] && s != [46, 46]
def isPath (s : Str) : Bool := (Lib.split s [47]).all isPart && decide ((Lib.split s [47]).length ≤ 3)
def choose (s : Str) : Option Ch :=
  if isName (Lib.cut s [32, 40]).1 then
    if (Lib.cut s [32, 40]).2.2 then
      if (Lib.cut (Lib.cut s [32, 40]).2.1 [32]).2.2 && signs.contains (Lib.cut (Lib.cut s [32, 40]).2.1 [32]).1 && Lib.hasSuffix (Lib.cut (Lib.cut s [32, 40]).2.1 [32]).2.1 [41] && isVer (Lib.trimSuffix (Lib.cut (Lib.cut s [32, 40]).2.1 [32]).2.1 [41])
      then some ⟨(Lib.cut s [32, 40]).1, (Lib.cut (Lib.cut s [32, 40]).2.1 [32]).1, Lib.trimSuffix (Lib.cut (Lib.cut s [32, 40]).2.1 [32]).2.1 [41]⟩
      else none
    else some ⟨(Lib.cut s [32, 40]).1, [], []⟩
  else none
/-- All of a list by a function that may fail. -/
def mapO {α β : Type} (f : α → Option β) : List α → Option (List β)
  | [] => some []
  | x :: r => match f x, mapO f r with
    | some y, some ys => some (y :: ys)
    | _, _ => none
def each {α : Type} (s sep : Str) (most : Nat) (one : Str → Option α) : Option (List α) :=
  match mapO one (Lib.split s sep) with
  | some l => if l.length ≤ most then some l else none
  | none => none
/-- The folders in which a path lies. -/
def folders (s : Str) : List Str := ((List.range s.length).filter (fun i => s[i]? == some 47)).map (s.take ·)
/-- Is a path a folder of another one? -/
def over (a b : Str) : Bool := (a ++ [47]).isPrefixOf b
/-- Do two paths of a list clash: one path twice, or one a folder of another? -/
def clash1 : List Str → Bool
  | [] => false
  | p :: r => r.any (fun q => p == q || over p q || over q p) || clash1 r
def line (p : Pk) (first : Bool) (s : Str) : Option Pk :=
  if !((Lib.cut s [32]).2.2 && (first == ((Lib.cut s [32]).1 == packageW))) then none
  else if (Lib.cut s [32]).1 == packageW then
    if (Lib.cut (Lib.cut s [32]).2.1 [32]).2.2 && isName (Lib.cut (Lib.cut s [32]).2.1 [32]).1 && isVer (Lib.cut (Lib.cut s [32]).2.1 [32]).2.1
    then some { p with name := (Lib.cut (Lib.cut s [32]).2.1 [32]).1, ver := (Lib.cut (Lib.cut s [32]).2.1 [32]).2.1 } else none
  else if (Lib.cut s [32]).1 == needsW then
    if p.needs.isEmpty && p.bars.isEmpty && p.files.isEmpty
    then (each (Lib.cut s [32]).2.1 [44, 32] 3 (fun g => each g [32, 124, 32] 3 choose)).map fun n => { p with needs := n } else none
  else if (Lib.cut s [32]).1 == barsW then
    if p.bars.isEmpty && p.files.isEmpty
    then (each (Lib.cut s [32]).2.1 [44, 32] 3 choose).map fun n => { p with bars := n } else none
  else if (Lib.cut s [32]).1 == fileW then
    if (Lib.cut (Lib.cut s [32]).2.1 [61]).2.2 && decide ((Lib.cut (Lib.cut s [32]).2.1 [61]).2.1.length ≤ 24) && decide (p.files.length < 4) && isPath (Lib.cut (Lib.cut s [32]).2.1 [61]).1 && !clash1 (p.files.map (·.path) ++ [(Lib.cut (Lib.cut s [32]).2.1 [61]).1])
    then some { p with files := p.files ++ [⟨(Lib.cut (Lib.cut s [32]).2.1 [61]).1, (Lib.cut (Lib.cut s [32]).2.1 [61]).2.1⟩] } else none
  else none
/-- The lines of a text, one behind the other: the package, or the number of the line that is none. -/
def lines (p : Pk) (i : Nat) : List Str → Nat ⊕ Pk
  | [] => .inr p
  | s :: r => match line p (i == 0) s with
    | some p' => lines p' (i + 1) r
    | none => .inl (i + 1)
def strLt : Str → Str → Bool
  | [], [] => false
  | [], _ :: _ => true
  | _ :: _, [] => false
  | a :: x, b :: y => if a < b then true else if b < a then false else strLt x y
def insertF (f : Fl) : List Fl → List Fl
  | [] => [f]
  | g :: r => if strLt f.path g.path then f :: g :: r else g :: insertF f r
/-- The files by path (of one path there are no two). -/
def sortF (l : List Fl) : List Fl := l.foldl (fun a f => insertF f a) []
def nothing : Pk := ⟨[], [], [], [], []⟩
def parse (t : Str) : Nat ⊕ Pk :=
  if 300 < t.length then .inl 0
  else match lines nothing 0 (Lib.split (Lib.trimSuffix t [10]) [10]) with
    | .inl n => .inl n
    | .inr p => .inr { p with files := sortF p.files }
def printC (c : Ch) : Str := if c.sign.isEmpty then c.name else c.name ++ [32, 40] ++ c.sign ++ [32] ++ c.ver ++ [41]
def printF (f : Fl) : Str := [10, 102, 105, 108, 101, 32] ++ f.path ++ [61] ++ f.content
def print (p : Pk) : Str :=
  [112, 97, 99, 107, 97, 103, 101, 32] ++ p.name ++ [32] ++ p.ver
    ++ (if p.needs.isEmpty then [] else [10, 110, 101, 101, 100, 115, 32] ++ Lib.join (p.needs.map fun g => Lib.join (g.map printC) [32, 124, 32]) [44, 32])
    ++ (if p.bars.isEmpty then [] else [10, 98, 97, 114, 115, 32] ++ Lib.join (p.bars.map printC) [44, 32])
    ++ (p.files.map printF).flatten
end Sp
end Go.Proofs.YtfphcecjhdkcoaaGreatDoor
/-
Small plain lemmas on byte strings: 'bl s' is the list of a string's bytes.
-/
namespace Go.Proofs.YtfphcecjhdkcoaaGreatDoor
open Go.RowKit
/-- The bytes of a string. -/
def bl (s : ByteArray) : Sp.Str := s.data.toList
theorem bl_mk (l : Sp.Str) : bl ⟨l.toArray⟩ = l := rfl
theorem bl_arr (l : Array UInt8) : bl ⟨l⟩ = l.toList := rfl
theorem mk_bl (s : ByteArray) : (⟨(bl s).toArray⟩ : ByteArray) = s := by
  obtain ⟨⟨l⟩⟩ := s; rfl
theorem bl_len (s : ByteArray) : (bl s).length = s.size := by
  obtain ⟨⟨l⟩⟩ := s; rfl
theorem bl_ext (s : ByteArray) (a b : Nat) : bl (s.extract a b) = ((bl s).drop a).take (b - a) := Lib.extract_data s a b
theorem bl_to (s : ByteArray) (b : Nat) : bl (s.extract 0 b) = (bl s).take b := by rw [bl_ext]; simp
theorem bl_from (s : ByteArray) (a : Nat) : bl (s.extract a s.size) = (bl s).drop a := Lib.extract_to_end s a
theorem bl_app (a b : ByteArray) : bl (a ++ b) = bl a ++ bl b := Joins.data_append a b
theorem toList_bl (s : ByteArray) : s.toList = bl s := Lib.toList_data s
theorem bl_inj {a b : ByteArray} (h : bl a = bl b) : a = b := by rw [← mk_bl a, h, mk_bl]
theorem eqs_bl (a b : ByteArray) : (a.toList == b.toList) = (bl a == bl b) := by rw [toList_bl, toList_bl]
theorem size_ext (s : ByteArray) (a b : Nat) (h : b ≤ s.size) : (s.extract a b).size = b - a := by
  rw [← bl_len, bl_ext, List.length_take, List.length_drop, bl_len]; omega
theorem bl_one (s : ByteArray) (k : Nat) (h : k < s.size) : bl (s.extract k (k + 1)) = [s[k]] := by
  rw [bl_ext, show k + 1 - k = 1 from by omega]
  have h' : k < (bl s).length := by rw [bl_len]; exact h
  rw [List.drop_eq_getElem_cons h']
  rfl
theorem take_snoc (s : ByteArray) (k : Nat) (h : k < s.size) : (bl s).take (k + 1) = (bl s).take k ++ [s[k]] := by
  rw [List.take_succ_eq_append_getElem (by rw [bl_len]; exact h)]; rfl
theorem size_of_bl {x : ByteArray} {n : Nat} (h : (bl x).length = n) : x.size = n := by rw [← bl_len]; exact h
theorem ret_bool {a b : Bool} (h : a = b) : Ending.returned (.bool a) = .returned (.bool b) := by rw [h]
theorem ret_int {k : IntKind} {a b : Int} (h : a = b) : Ending.returned (.int k a) = .returned (.int k b) := by rw [h]
theorem ret_str {a b : ByteArray} (h : bl a = bl b) : Ending.returned (.string a) = .returned (.string b) := by rw [bl_inj h]
end Go.Proofs.YtfphcecjhdkcoaaGreatDoor
/-
How plain data lie in memory: slices of strings, of slices and of structs, read by facts on cells; and small laws on new and owned rows.
-/
namespace Go.Proofs.YtfphcecjhdkcoaaGreatDoor
open Go.RowKit
/-- A string's value. -/
def sv (s : Sp.Str) : Value := .string ⟨s.toArray⟩
/-- v is a slice whose elements, sz cells each, hold the cells that are listed; they lie in blocks of which S holds. -/
def SlOn (S : Nat → Prop) (w : World) (sz : Nat) (v : Value) (xs : List (List Value)) : Prop :=
  ∃ a cap, v = .slice a xs.length cap ∧ xs.length ≤ cap ∧ ∀ k x, xs[k]? = some x → ∃ b off, a = some ⟨b, off, none⟩ ∧ S b ∧ ∀ j u, x[j]? = some u → w.cell? ⟨b, off + k * sz + j, none⟩ = some u
theorem SlOn.nil (S : Nat → Prop) (w : World) (sz : Nat) : SlOn S w sz (.slice none 0 0) [] := ⟨none, 0, rfl, Nat.le_refl _, fun k x h => by simp at h⟩
theorem SlOn.keep {S : Nat → Prop} {w w' : World} {sz : Nat} {v : Value} {xs : List (List Value)} (h : SlOn S w sz v xs) (hb : ∀ b, S b → w'.heap[b]? = w.heap[b]?) : SlOn S w' sz v xs := by
  obtain ⟨a, cap, hv, hc, h⟩ := h
  refine ⟨a, cap, hv, hc, fun k x hk => ?_⟩
  obtain ⟨b, off, ha, hb1, hx⟩ := h k x hk
  exact ⟨b, off, ha, hb1, fun j u hj => (World.cell?_of_block (w := w) (hb b hb1)).trans (hx j u hj)⟩
theorem SlOn.mono {S S' : Nat → Prop} {w : World} {sz : Nat} {v : Value} {xs : List (List Value)} (h : SlOn S w sz v xs) (hm : ∀ b, S b → S' b) : SlOn S' w sz v xs := by
  obtain ⟨a, cap, hv, hc, h⟩ := h
  refine ⟨a, cap, hv, hc, fun k x hk => ?_⟩
  obtain ⟨b, off, ha, hb1, hx⟩ := h k x hk
  exact ⟨b, off, ha, hm b hb1, hx⟩
/-- .. below block m. -/
def SlAt (m : Nat) (w : World) (sz : Nat) (v : Value) (xs : List (List Value)) : Prop := SlOn (fun b => b < m) w sz v xs
theorem SlAt.nil (m : Nat) (w : World) (sz : Nat) : SlAt m w sz (.slice none 0 0) [] := SlOn.nil _ w sz
theorem SlAt.below {m B : Nat} {w w' : World} {sz : Nat} {v : Value} {xs : List (List Value)} (h : SlAt m w sz v xs) (hb : Below B w w') (hB : m ≤ B) : SlAt m w' sz v xs :=
  SlOn.keep h fun b hm => hb.block b (Nat.lt_of_lt_of_le hm hB)
theorem SlAt.mono {m m' : Nat} {w : World} {sz : Nat} {v : Value} {xs : List (List Value)} (h : SlAt m w sz v xs) (hm : m ≤ m') : SlAt m' w sz v xs :=
  SlOn.mono h fun _ hb => Nat.lt_of_lt_of_le hb hm
theorem sl_of_row {w : World} {B sz : Nat} {e : TypeId} {v : Value} {xs : List (List Value)} (hxs : ∀ x ∈ xs, x.length = sz) (h : w.ownsRow B e sz v xs.length xs.flatten) : SlOn (fun b => b < w.heap.size ∧ B ≤ b ∧ v.ownBlock = some b) w sz v xs := by
  obtain ⟨hl, h⟩ := h
  rcases h with ⟨rfl, h0⟩ | ⟨g, cap, cur, rfl, hg, hh, hn, hm, hs, ht⟩
  · have : xs = [] := List.length_eq_zero_iff.1 h0
    subst this
    exact SlOn.nil _ w sz
  · refine ⟨_, cap, rfl, hn, fun k x hk => ⟨g, 0, rfl, ⟨(Array.getElem?_eq_some_iff.1 hh).1, hg, rfl⟩, fun j u hj => ?_⟩⟩
    have hflat : ∀ (xs : List (List Value)) (k : Nat), (∀ x ∈ xs, x.length = sz) → xs[k]? = some x → xs.flatten[k * sz + j]? = some u := by
      intro xs
      induction xs with
      | nil => intro k _ hk; simp at hk
      | cons y r ih =>
        intro k hxs hk
        have hy := hxs y List.mem_cons_self
        cases k with
        | zero =>
          have e : y = x := by simpa using hk
          subst e
          have hj' : j < y.length := (List.getElem?_eq_some_iff.1 hj).1
          rw [List.flatten_cons, List.getElem?_append_left (by omega)]
          simpa using hj
        | succ k =>
          rw [List.flatten_cons, List.getElem?_append_right (by rw [hy, Nat.succ_mul]; omega), hy, show (k + 1) * sz + j - sz = k * sz + j from by rw [Nat.succ_mul]; omega]
          exact ih k (fun z hz => hxs z (List.mem_cons_of_mem _ hz)) (by simpa using hk)
    have h1 := hflat xs k hxs hk
    rw [← ht] at h1
    have h2 := (List.getElem?_eq_some_iff.1 h1).1
    rw [List.length_take] at h2
    rw [List.getElem?_take, if_pos (by omega)] at h1
    simp only [World.cell?, hh, Option.isSome_none, Nat.zero_add]
    simpa using h1
/-- An owned row is a slice that reads so. -/
theorem SlAt.of_row {w : World} {B sz : Nat} {e : TypeId} {v : Value} {xs : List (List Value)} (hxs : ∀ x ∈ xs, x.length = sz) (h : w.ownsRow B e sz v xs.length xs.flatten) : SlAt w.heap.size w sz v xs :=
  (sl_of_row hxs h).mono fun _ hb => hb.1
/-- A slice of strings. -/
def StrsAt (w : World) (v : Value) (l : List Sp.Str) : Prop := SlAt w.heap.size w 1 v (l.map fun s => [sv s])
theorem StrsAt.below {w w' : World} {v : Value} {l : List Sp.Str} (h : StrsAt w v l) (hb : Below w.heap.size w w') : StrsAt w' v l := (SlAt.below h hb (Nat.le_refl _)).mono hb.size
theorem infoStr : (Tryz.prog.info? 9).map (fun i => (i.zero, i.size, i.bytes)) = some (some (.string ⟨#[]⟩), 1, 16) := by kernel_rfl
/-- An owned row of one-cell elements is a slice that reads so. -/
theorem StrsAt.of_row {w : World} {B : Nat} {e : TypeId} {v : Value} {l : List Sp.Str} (h : w.ownsRow B e 1 v l.length (l.map sv)) : StrsAt w v l := by
  have e1 : (l.map fun s => [sv s]).flatten = l.map sv := by
    induction l with
    | nil => rfl
    | cons a r ih =>
      rw [List.map_cons, List.flatten_cons, List.map_cons]
      have : (r.map fun s => [sv s]).flatten = r.map sv := by clear ih h; induction r with
        | nil => rfl
        | cons b q ih => rw [List.map_cons, List.flatten_cons, List.map_cons, ih]; rfl
      rw [this]; rfl
  refine SlAt.of_row (B := B) (e := e) (fun x hx => ?_) ?_
  · obtain ⟨s, _, rfl⟩ := List.mem_map.1 hx; rfl
  · rw [e1, List.length_map]; exact h
/-- The place of element k of a slice of strings. -/
theorem StrsAt.get {w : World} {v : Value} {l : List Sp.Str} (h : StrsAt w v l) : ∃ a cap, v = .slice a l.length cap ∧ l.length ≤ cap ∧ ∀ k, (hk : k < l.length) → ∃ b off, a = some ⟨b, off, none⟩ ∧ b < w.heap.size ∧ w.cell? ⟨b, off + k, none⟩ = some (.string ⟨l[k].toArray⟩) := by
  obtain ⟨a, cap, hv, hc, h⟩ := h
  refine ⟨a, cap, by simpa using hv, by simpa using hc, fun k hk => ?_⟩
  obtain ⟨b, off, ha, hb, hx⟩ := h k [sv l[k]] (by rw [List.getElem?_map, List.getElem?_eq_getElem hk]; rfl)
  exact ⟨b, off, ha, hb, by have := hx 0 (sv l[k]) rfl; simpa [sv] using this⟩
end Go.Proofs.YtfphcecjhdkcoaaGreatDoor
/-
One element more at the end of a row of the call's own ('append(v, x)'): the library's law in the form in which the walks meet it.
-/
namespace Go.Proofs.YtfphcecjhdkcoaaGreatDoor
open Go.RowKit
structure AppTy (T e size bytes : Nat) : Prop where
  ht : Tryz.prog.underlying T = some (.slice e)
  info : ∃ i z, Tryz.prog.info? e = some i ∧ i.zero = some z ∧ i.size = size ∧ i.bytes = bytes ∧ z.cells.size = size
  pos : 0 < size
  few : bytes ≤ 128
theorem AppTy.of {T e size bytes : Nat} {z : Value} (ht : Tryz.prog.underlying T = some (.slice e)) (h : (Tryz.prog.info? e).map (fun i => (i.zero, i.size, i.bytes)) = some (some z, size, bytes)) (hz : z.cells.size = size) (hp : 0 < size) (hb : bytes ≤ 128) : AppTy T e size bytes := by
  obtain ⟨i0, hi, hz0, hz1, hz2⟩ := info_parts h
  exact ⟨ht, ⟨i0, z, hi, hz0, hz1, hz2, hz⟩, hp, hb⟩
theorem app38 : AppTy 38 9 1 16 := AppTy.of Tryz.underlying38 infoStr rfl (by decide) (by decide)
theorem cells_new (w : World) (us : List Value) (t : TypeId) : ∀ (j : Nat) u, us[j]? = some u → (w.alloc (.cells us.toArray t)).cell? ((⟨w.heap.size, 0, none⟩ : Addr).add j) = some u := by
  intro j u hj
  have e : ((⟨w.heap.size, 0, none⟩ : Addr).add j) = ⟨w.heap.size, j, none⟩ := by
    unfold Addr.add; split
    · rename_i h; rw [h]
    · simp
  rw [e, World.cell?_alloc_at _ _ _ _ rfl]
  simp [hj]
theorem wp_app {T e size bytes : Nat} (A : AppTy T e size bytes) (w : World) {ops : Array Oper} {rest : List Oper} {o : Oper} {a : Act} {Q : Exit → Act → World → Prop} (us : List Value)
    (hus : us.length = size) (h1 : ∀ u ∈ us, u.oneCell' = true) (hgd : o.guard = none) (s x : Operand)
    (ho : o.op = .call { callee := .builtin .append, args := #[s, x], argTypes := #[T, T] }) (B : Nat) (v : Value) (n : Nat) (xs : List Value) (hs : a.eval s = v) (hown : w.ownsRow B e size v n xs)
    (hx : a.eval x = .slice (some ⟨w.heap.size, 0, none⟩) 1 1) (hn : n < 1099511627776) (hB : B ≤ w.heap.size)
    (h : ∀ v' w', w'.ownsRow B e size v' (n + 1) (xs ++ us) → w.grownBy w' v.ownBlock → (∃ g cap, v' = .slice (some ⟨g, 0, none⟩) (n + 1) cap) → wpList Tryz.prog ops Q rest (a.put o.dst v') w') :
    wpList Tryz.prog ops Q (o :: rest) a (w.alloc (.cells us.toArray e)) := by
  obtain ⟨ht, ⟨i0, z, hi, hz0, hz1, hz2, hz⟩, hp, hb⟩ := A
  refine wpList_append_own _ hgd s x T ho B e i0 z size bytes ht hi hz0 hz1 hz2 hz hp v n xs hs (hown.alloc _) ⟨w.heap.size, 0, none⟩ 1 1 us hx (by rw [hus, Nat.one_mul]) (cells_new _ _ _) h1 (by unfold maxLen; omega) ?_ (by simp; omega) ?_
  · have : (n + 1) * bytes ≤ (n + 1) * 128 := Nat.mul_le_mul_left _ hb
    omega
  · intro v' w' h2 h3 h4
    refine h v' w' h2 ?_ ?_
    · have hsz := h3.size
      simp only [World.size_alloc] at hsz
      exact ⟨h3.os, h3.tape, h3.output, by omega, fun k hk hne => (h3.block k (by simp; omega) hne).trans (Below.heap_alloc _ _ _ hk)⟩
    · rcases h2.2 with ⟨_, h0⟩ | ⟨g, cap, _, hv, _⟩
      · omega
      · exact ⟨g, cap, hv⟩
theorem wp_app_at {T e size bytes : Nat} (A : AppTy T e size bytes) (w : World) {ops : Array Oper} {rest : List Oper} {o : Oper} {a : Act} {Q : Exit → Act → World → Prop} (us : List Value)
    (hus : us.length = size) (h1 : ∀ u ∈ us, u.oneCell' = true) (hgd : o.guard = none) (s x : Operand)
    (ho : o.op = .call { callee := .builtin .append, args := #[s, x], argTypes := #[T, T] }) (B : Nat) (v : Value) (n : Nat) (xs : List Value) (hs : a.eval s = v) (hown : w.ownsRow B e size v n xs)
    (hx : a.eval x = .slice (some ⟨w.heap.size, 0, none⟩) 1 1) (hn : n < 1099511627776) (hB : B ≤ w.heap.size)
    (h : ∀ v' w', w'.ownsRow B e size v' (n + 1) (xs ++ us) → w.grownBy w' v.ownBlock → (∃ g cap, v' = .slice (some ⟨g, 0, none⟩) (n + 1) cap) → (v'.ownBlock = v.ownBlock ∨ ∃ g, v'.ownBlock = some g ∧ w.heap.size ≤ g) → wpList Tryz.prog ops Q rest (a.put o.dst v') w') :
    wpList Tryz.prog ops Q (o :: rest) a (w.alloc (.cells us.toArray e)) := by
  obtain ⟨ht, ⟨i0, z, hi, hz0, hz1, hz2, hz⟩, hp, hb⟩ := A
  refine wpList_append_own_at _ hgd s x T ho B e i0 z size bytes ht hi hz0 hz1 hz2 hz hp v n xs hs (hown.alloc _) ⟨w.heap.size, 0, none⟩ 1 1 us hx (by rw [hus, Nat.one_mul]) (cells_new _ _ _) h1 (by unfold maxLen; omega) ?_ (by simp; omega) ?_
  · have : (n + 1) * bytes ≤ (n + 1) * 128 := Nat.mul_le_mul_left _ hb
    omega
  · intro v' w' h2 h3 h4 h5
    refine h v' w' h2 ?_ ?_ (h5.imp id fun e => ⟨_, e, by simp⟩)
    · have hsz := h3.size
      simp only [World.size_alloc] at hsz
      exact ⟨h3.os, h3.tape, h3.output, by omega, fun k hk hne => (h3.block k (by simp; omega) hne).trans (Below.heap_alloc _ _ _ hk)⟩
    · rcases h2.2 with ⟨_, h0⟩ | ⟨g, cap, _, hv, _⟩
      · omega
      · exact ⟨g, cap, hv⟩
theorem below_of_grown {B : Nat} {a w w' : World} {e size n : Nat} {v : Value} {xs : List Value} (h : Below B a w) (hB : B ≤ w.heap.size) (hown : w.ownsRow B e size v n xs) (hg : w.grownBy w' v.ownBlock) : Below B a w' :=
  h.grown hg hB fun k hk => (hown.lt k hk).1
theorem below_drawn (w : World) (n : Nat) : Below w.heap.size w (w.drewN n) := below_drewN (Below.refl _ _) n
theorem bcell {W w1 : World} (hb : Below W.heap.size W w1) : (∀ b o, b < W.heap.size → w1.cell? ⟨b, o, none⟩ = W.cell? ⟨b, o, none⟩) ∧ (∀ b o, b < W.heap.size → w1.frozen? ⟨b, o, none⟩ = W.frozen? ⟨b, o, none⟩) :=
  ⟨fun b o h => hb.cell (p := ⟨b, o, none⟩) h, fun b o h => hb.frozen (p := ⟨b, o, none⟩) h⟩
namespace W3
theorem row_base {w : World} {B B' : Nat} {e : TypeId} {size n : Nat} {v : Value} {xs : List Value} (h : w.ownsRow B e size v n xs) (hB : B' ≤ B) : w.ownsRow B' e size v n xs := by
  obtain ⟨h1, h2⟩ := h
  refine ⟨h1, ?_⟩
  rcases h2 with h2 | ⟨g, cap, cur, hv, hg, r⟩
  · exact .inl h2
  · exact .inr ⟨g, cap, cur, hv, Nat.le_trans hB hg, r⟩
theorem row_keep {w w' : World} {B : Nat} {e : TypeId} {size n : Nat} {v : Value} {xs : List Value} (h : w.ownsRow B e size v n xs) (hb : Below w.heap.size w w') : w'.ownsRow B e size v n xs := by
  obtain ⟨h1, h2⟩ := h
  refine ⟨h1, ?_⟩
  rcases h2 with h2 | ⟨g, cap, cur, hv, hg, hh, r⟩
  · exact .inl h2
  · refine .inr ⟨g, cap, cur, hv, hg, ?_, r⟩
    rw [hb.block g (Array.getElem?_eq_some_iff.1 hh).1]; exact hh
theorem row_slice {w : World} {B : Nat} {e : TypeId} {size n : Nat} {v : Value} {xs : List Value} (h : w.ownsRow B e size v n xs) : ∃ a cap, v = .slice a n cap := by
  rcases h.2 with ⟨rfl, rfl⟩ | ⟨g, cap, cur, hv, _⟩
  · exact ⟨none, 0, rfl⟩
  · exact ⟨_, cap, hv⟩
end W3
end Go.Proofs.YtfphcecjhdkcoaaGreatDoor
/-
The data of the text layer in memory: choices, groups, files, packages; plain laws of lists and of a package's print.
-/
namespace Go.Proofs.YtfphcecjhdkcoaaGreatDoor
open Go.RowKit
theorem info187 : (Tryz.prog.info? 187).map (fun i => (i.zero, i.size, i.bytes)) = some (some (.agg #[.string ⟨#[]⟩, .string ⟨#[]⟩, .string ⟨#[]⟩]), 3, 48) := by kernel_rfl
theorem info170 : (Tryz.prog.info? 170).map (fun i => (i.zero, i.size, i.bytes)) = some (some (.slice none 0 0), 1, 24) := by kernel_rfl
theorem info3 : (Tryz.prog.info? 3).map (fun i => (i.zero, i.size, i.bytes)) = some (some (.int .i64 0), 1, 8) := by kernel_rfl
theorem info182 : (Tryz.prog.info? 182).map (fun i => (i.zero, i.size, i.bytes)) = some (some (.agg #[.string ⟨#[]⟩, .string ⟨#[]⟩]), 2, 32) := by kernel_rfl
theorem app170 : AppTy 170 187 3 48 := AppTy.of Tryz.underlying170 info187 rfl (by decide) (by decide)
theorem app169 : AppTy 169 170 1 24 := AppTy.of Tryz.underlying169 info170 rfl (by decide) (by decide)
theorem app77 : AppTy 77 3 1 8 := AppTy.of Tryz.underlying77 info3 rfl (by decide) (by decide)
theorem app173 : AppTy 173 182 2 32 := AppTy.of Tryz.underlying173 info182 rfl (by decide) (by decide)
namespace W3
theorem mapO_snoc {α β : Type} (f : α → Option β) (x : α) : ∀ l : List α, Sp.mapO f (l ++ [x]) = match Sp.mapO f l, f x with
    | some ys, some y => some (ys ++ [y])
    | _, _ => none
  | [] => by simp only [List.nil_append, Sp.mapO]; cases f x <;> rfl
  | a :: r => by
    simp only [List.cons_append, Sp.mapO, mapO_snoc f x r]
    cases f a <;> cases Sp.mapO f r <;> cases f x <;> rfl
theorem mapO_len {α β : Type} (f : α → Option β) : ∀ (l : List α) (ys : List β), Sp.mapO f l = some ys → ys.length = l.length
  | [], ys, h => by simp only [Sp.mapO] at h; cases h; rfl
  | a :: r, ys, h => by
    simp only [Sp.mapO] at h
    split at h
    · rename_i y ys' _ hr
      cases h
      simp [mapO_len f r ys' hr]
    · cases h
theorem mapO_stop {α β : Type} (f : α → Option β) (x : α) : ∀ l : List α, x ∈ l → f x = none → Sp.mapO f l = none
  | a :: r, hx, hf => by
    simp only [Sp.mapO]
    rcases List.mem_cons.1 hx with rfl | hx
    · rw [hf]
    · rw [mapO_stop f x r hx hf]
      split
      · rename_i h; cases h
      · rfl
theorem mapO_next {α β : Type} {f : α → Option β} {l : List α} {k : Nat} {done : List β} {y : β} (hk : k < l.length) (h : Sp.mapO f (l.take k) = some done) (hy : f l[k] = some y) : Sp.mapO f (l.take (k + 1)) = some (done ++ [y]) := by
  rw [List.take_succ_eq_append_getElem hk, mapO_snoc, h, hy]
theorem each_of {α : Type} {s sep : Sp.Str} {most : Nat} {one : Sp.Str → Option α} {L : List Sp.Str} {l : List α} (hL : L = Lib.split s sep) (h : Sp.mapO one L = some l) : Sp.each s sep most one = if l.length ≤ most then some l else none := by
  unfold Sp.each; rw [← hL, h]
theorem each_stop {α : Type} {s sep : Sp.Str} {most : Nat} {one : Sp.Str → Option α} {L : List Sp.Str} (hL : L = Lib.split s sep) (h : Sp.mapO one L = none) : Sp.each s sep most one = none := by
  unfold Sp.each; rw [← hL, h]
end W3
/-- The cells of a choice. -/
def chCells (c : Sp.Ch) : List Value := [sv c.name, sv c.sign, sv c.ver]
def chRow (l : List Sp.Ch) : List Value := l.flatMap chCells
theorem chRow_snoc (l : List Sp.Ch) (c : Sp.Ch) : chRow l ++ [sv c.name, sv c.sign, sv c.ver] = chRow (l ++ [c]) := by
  simp [chRow, chCells]
/-- A slice of choices. -/
def ChOn (S : Nat → Prop) (w : World) (v : Value) (cs : List Sp.Ch) : Prop := SlOn S w 3 v (cs.map chCells)
def ChAt (m : Nat) (w : World) (v : Value) (cs : List Sp.Ch) : Prop := ChOn (fun b => b < m) w v cs
theorem chRow_flat (cs : List Sp.Ch) : (cs.map chCells).flatten = chRow cs := by simp [chRow, List.flatMap]
theorem ChOn.of_row {w : World} {B : Nat} {v : Value} {cs : List Sp.Ch} (h : w.ownsRow B 187 3 v cs.length (chRow cs)) : ChOn (fun b => b < w.heap.size ∧ B ≤ b ∧ v.ownBlock = some b) w v cs :=
  sl_of_row (e := 187) (fun x hx => by obtain ⟨c, _, rfl⟩ := List.mem_map.1 hx; rfl) (by rw [List.length_map, chRow_flat]; exact h)
def groupO (s : Sp.Str) : Option (List Sp.Ch) := Sp.each s [32, 124, 32] 3 Sp.choose
/-- The values of a row of groups. -/
def GrpsOn (S : Nat → Prop) (w : World) (vs : List Value) (gs : List (List Sp.Ch)) : Prop :=
  vs.length = gs.length ∧ ∀ (j : Nat) x cs, vs[j]? = some x → gs[j]? = some cs → ChOn S w x cs
theorem GrpsOn.nil (S : Nat → Prop) (w : World) : GrpsOn S w [] [] := ⟨rfl, fun j x cs h => by simp at h⟩
theorem GrpsOn.keep {S : Nat → Prop} {w w' : World} {vs : List Value} {gs : List (List Sp.Ch)} (h : GrpsOn S w vs gs) (hb : ∀ b, S b → w'.heap[b]? = w.heap[b]?) : GrpsOn S w' vs gs :=
  ⟨h.1, fun j x cs h1 h2 => SlOn.keep (h.2 j x cs h1 h2) hb⟩
theorem GrpsOn.mono {S S' : Nat → Prop} {w : World} {vs : List Value} {gs : List (List Sp.Ch)} (h : GrpsOn S w vs gs) (hm : ∀ b, S b → S' b) : GrpsOn S' w vs gs :=
  ⟨h.1, fun j x cs h1 h2 => SlOn.mono (h.2 j x cs h1 h2) hm⟩
theorem GrpsOn.snoc {S : Nat → Prop} {w : World} {vs : List Value} {gs : List (List Sp.Ch)} (h : GrpsOn S w vs gs) {x : Value} {c : List Sp.Ch} (hx : ChOn S w x c) : GrpsOn S w (vs ++ [x]) (gs ++ [c]) := by
  refine ⟨by simp [h.1], fun j y cs h1 h2 => ?_⟩
  by_cases hj : j < vs.length
  · rw [List.getElem?_append_left hj] at h1
    rw [List.getElem?_append_left (by rw [← h.1]; exact hj)] at h2
    exact h.2 j y cs h1 h2
  · have hj' : j = vs.length := by
      have := (List.getElem?_eq_some_iff.1 h1).1
      simp at this; omega
    subst hj'
    rw [List.getElem?_append_right (Nat.le_refl _)] at h1
    rw [List.getElem?_append_right (by rw [h.1]; exact Nat.le_refl _), h.1] at h2
    simp at h1 h2
    rw [← h1, ← h2]; exact hx
theorem GrpsOn.app {m : Nat} {w w2 w3 : World} {vs : List Value} {gs : List (List Sp.Ch)} {v v' x : Value} {c : List Sp.Ch} (h : GrpsOn (fun b => b < w.heap.size ∧ m ≤ b ∧ v.ownBlock ≠ some b) w vs gs)
    (hx : ChOn (fun b => b < w2.heap.size ∧ w.heap.size ≤ b) w2 x c) (hb : Below w.heap.size w w2) (hm : m ≤ w.heap.size) (hv : ∀ k, v.ownBlock = some k → k < w.heap.size) (hg : w2.grownBy w3 v.ownBlock) (hat : v'.ownBlock = v.ownBlock ∨ ∃ g, v'.ownBlock = some g ∧ w2.heap.size ≤ g) :
    GrpsOn (fun b => b < w3.heap.size ∧ m ≤ b ∧ v'.ownBlock ≠ some b) w3 (vs ++ [x]) (gs ++ [c]) := by
  have hs2 := hb.size
  have hs3 := hg.size
  have hne : ∀ b, b < w2.heap.size → v.ownBlock ≠ some b → v'.ownBlock ≠ some b := fun b h1 h2 => by
    rcases hat with e | ⟨g, e, h3⟩
    · rw [e]; exact h2
    · rw [e]; intro e'; cases e'; omega
  refine GrpsOn.snoc ?_ ?_
  · refine ((h.keep (w' := w2) fun b hb1 => hb.block b hb1.1).keep (w' := w3) fun b hb1 => hg.block b (by omega) (fun e => hb1.2.2 e.symm)).mono fun b hb1 => ⟨by omega, hb1.2.1, hne b (by omega) hb1.2.2⟩
  · have hnv : ∀ b, w.heap.size ≤ b → v.ownBlock ≠ some b := fun b h1 h2 => by have := hv b h2; omega
    exact (SlOn.keep hx fun b hb1 => hg.block b hb1.1 (fun e => hnv b hb1.2 e.symm)).mono fun b hb1 => ⟨by omega, by omega, hne b hb1.1 (hnv b hb1.2)⟩
theorem flat_one (vs : List Value) : (vs.map fun x => [x]).flatten = vs := by
  induction vs with
  | nil => rfl
  | cons a r ih => rw [List.map_cons, List.flatten_cons, ih]; rfl
theorem one_row {w : World} {B n : Nat} {e : TypeId} {v : Value} {vs : List Value} (hn : vs.length = n) (h : w.ownsRow B e 1 v n vs) : SlOn (fun b => b < w.heap.size ∧ B ≤ b ∧ v.ownBlock = some b) w 1 v (vs.map fun x => [x]) := by
  subst hn
  refine sl_of_row (e := e) (fun x hx => ?_) ?_
  · obtain ⟨s, _, rfl⟩ := List.mem_map.1 hx; rfl
  · rw [List.length_map, flat_one]; exact h
/-- A slice of groups. -/
def GsOn (S : Nat → Prop) (w : World) (v : Value) (gs : List (List Sp.Ch)) : Prop := ∃ vs, SlOn S w 1 v (vs.map fun x => [x]) ∧ GrpsOn S w vs gs
namespace W6
theorem printC_bare (c : Sp.Ch) (h : c.sign = []) : Sp.printC c = c.name := by unfold Sp.printC; rw [h]; rfl
theorem printC_more (c : Sp.Ch) (h : c.sign ≠ []) : Sp.printC c = c.name ++ [32, 40] ++ c.sign ++ [32] ++ c.ver ++ [41] := by
  unfold Sp.printC
  rw [if_neg (by simpa using h)]
end W6
theorem ChOn.get {S : Nat → Prop} {w : World} {v : Value} {cs : List Sp.Ch} (h : ChOn S w v cs) : ∃ a cap, v = .slice a cs.length cap ∧ cs.length ≤ cap ∧ ∀ k, (hk : k < cs.length) → ∃ b off, a = some ⟨b, off, none⟩ ∧ S b ∧
    w.cell? ⟨b, off + k * 3, none⟩ = some (sv cs[k].name) ∧ w.cell? ⟨b, off + k * 3 + 1, none⟩ = some (sv cs[k].sign) ∧ w.cell? ⟨b, off + k * 3 + 1 + 1, none⟩ = some (sv cs[k].ver) := by
  obtain ⟨a, cap, hv, hc, h⟩ := h
  refine ⟨a, cap, by simpa using hv, by simpa using hc, fun k hk => ?_⟩
  obtain ⟨b, off, ha, hb, hx⟩ := h k (chCells cs[k]) (by rw [List.getElem?_map, List.getElem?_eq_getElem hk]; rfl)
  exact ⟨b, off, ha, hb, hx 0 _ rfl, hx 1 _ rfl, hx 2 _ rfl⟩
namespace W8
theorem join_bound (sep : Sp.Str) (M n : Nat) (xs : List Sp.Str) (h : ∀ x ∈ xs, x.length ≤ M) (hn : xs.length ≤ n) : (Lib.join xs sep).length ≤ n * (M + sep.length) := by
  have hl : ∀ ys : List Sp.Str, (∀ x ∈ ys, x.length ≤ M) → Lib.lens ys ≤ ys.length * M := by
    intro ys
    induction ys with
    | nil => intro _; simp [Lib.lens]
    | cons y r ih =>
      intro hy
      have h1 := ih fun x hx => hy x (List.mem_cons_of_mem _ hx)
      have h2 := hy y List.mem_cons_self
      have h3 : Lib.lens (y :: r) = y.length + Lib.lens r := by simp [Lib.lens]
      rw [h3, List.length_cons, Nat.succ_mul]; omega
  cases xs with
  | nil => rw [Lib.join_nil]; exact Nat.zero_le _
  | cons x r =>
    rw [Lib.join_length]
    have h1 := hl (x :: r) h
    have h2 : (x :: r).length * (M + sep.length) ≤ n * (M + sep.length) := Nat.mul_le_mul_right _ hn
    rw [Nat.mul_add] at h2
    have h3 : sep.length * r.length ≤ (x :: r).length * sep.length := by rw [Nat.mul_comm]; exact Nat.mul_le_mul_right _ (by simp)
    omega
end W8
/-- Sizes that a package that was read has. -/
def ChOk (c : Sp.Ch) : Prop := c.name.length + c.sign.length + c.ver.length < 1000
structure PkOk (p : Sp.Pk) : Prop where
  name : p.name.length < 1000
  ver : p.ver.length < 1000
  needs : p.needs.length ≤ 3
  groups : ∀ g ∈ p.needs, g.length ≤ 3 ∧ ∀ c ∈ g, ChOk c
  bars : p.bars.length ≤ 3
  barred : ∀ c ∈ p.bars, ChOk c
  files : p.files.length ≤ 4
  paths : ∀ f ∈ p.files, f.path.length + f.content.length < 1000
theorem printC_len (c : Sp.Ch) (h : ChOk c) : (Sp.printC c).length ≤ 1010 := by
  unfold ChOk at h
  by_cases e : c.sign = []
  · rw [W6.printC_bare c e]; omega
  · rw [W6.printC_more c e]; simp; omega
def groupText (g : List Sp.Ch) : Sp.Str := Lib.join (g.map Sp.printC) [32, 124, 32]
theorem groupText_len (g : List Sp.Ch) (hg : g.length ≤ 3) (h : ∀ c ∈ g, ChOk c) : (groupText g).length ≤ 3039 := by
  have := W8.join_bound [32, 124, 32] 1010 3 (g.map Sp.printC) (fun x hx => by obtain ⟨c, hc, rfl⟩ := List.mem_map.1 hx; exact printC_len c (h c hc)) (by simpa using hg)
  unfold groupText
  simp at this ⊢; omega
theorem GsOn.get {S : Nat → Prop} {w : World} {v : Value} {gs : List (List Sp.Ch)} (h : GsOn S w v gs) : ∃ a cap, v = .slice a gs.length cap ∧ gs.length ≤ cap ∧ ∀ k, (hk : k < gs.length) → ∃ b off x, a = some ⟨b, off, none⟩ ∧ S b ∧
    w.cell? ⟨b, off + k, none⟩ = some x ∧ ChOn S w x gs[k] := by
  obtain ⟨vs, ⟨a, cap, hv, hc, h⟩, hl, hg⟩ := h
  refine ⟨a, cap, by simpa [hl] using hv, by simpa [hl] using hc, fun k hk => ?_⟩
  have hk' : k < vs.length := by omega
  obtain ⟨b, off, ha, hb, hx⟩ := h k [vs[k]] (by rw [List.getElem?_map, List.getElem?_eq_getElem hk']; rfl)
  exact ⟨b, off, vs[k], ha, hb, by simpa using hx 0 _ rfl, hg k vs[k] gs[k] (List.getElem?_eq_getElem hk') (List.getElem?_eq_getElem hk)⟩
def flCells (f : Sp.Fl) : List Value := [sv f.path, sv f.content]
/-- A slice of files. -/
def FlOn (S : Nat → Prop) (w : World) (v : Value) (fs : List Sp.Fl) : Prop := SlOn S w 2 v (fs.map flCells)
theorem FlOn.get {S : Nat → Prop} {w : World} {v : Value} {fs : List Sp.Fl} (h : FlOn S w v fs) : ∃ a cap, v = .slice a fs.length cap ∧ fs.length ≤ cap ∧ ∀ k, (hk : k < fs.length) → ∃ b off, a = some ⟨b, off, none⟩ ∧ S b ∧
    w.cell? ⟨b, off + k * 2, none⟩ = some (sv fs[k].path) ∧ w.cell? ⟨b, off + k * 2 + 1, none⟩ = some (sv fs[k].content) := by
  obtain ⟨a, cap, hv, hc, h⟩ := h
  refine ⟨a, cap, by simpa using hv, by simpa using hc, fun k hk => ?_⟩
  obtain ⟨b, off, ha, hb, hx⟩ := h k (flCells fs[k]) (by rw [List.getElem?_map, List.getElem?_eq_getElem hk]; rfl)
  exact ⟨b, off, ha, hb, hx 0 _ rfl, hx 1 _ rfl⟩
/-- The package p lies at block b, in blocks of which S holds. -/
def IsPack (S : Nat → Prop) (w : World) (b : Nat) (p : Sp.Pk) : Prop :=
  ∃ nv bv fv, S b ∧ w.cell? ⟨b, 0, none⟩ = some nv ∧ w.cell? ⟨b, 1, none⟩ = some bv ∧ w.cell? ⟨b, 2, none⟩ = some (sv p.name) ∧ w.cell? ⟨b, 3, none⟩ = some (sv p.ver) ∧ w.cell? ⟨b, 4, none⟩ = some fv ∧
    GsOn S w nv p.needs ∧ ChOn S w bv p.bars ∧ FlOn S w fv p.files ∧ (p.needs = [] → nv = .slice none 0 0) ∧ (p.bars = [] → bv = .slice none 0 0)
theorem GsOn.keep {S : Nat → Prop} {w w' : World} {v : Value} {gs : List (List Sp.Ch)} (h : GsOn S w v gs) (hb : ∀ b, S b → w'.heap[b]? = w.heap[b]?) : GsOn S w' v gs := by
  obtain ⟨vs, h1, h2⟩ := h; exact ⟨vs, SlOn.keep h1 hb, h2.keep hb⟩
theorem GsOn.mono {S S' : Nat → Prop} {w : World} {v : Value} {gs : List (List Sp.Ch)} (h : GsOn S w v gs) (hm : ∀ b, S b → S' b) : GsOn S' w v gs := by
  obtain ⟨vs, h1, h2⟩ := h; exact ⟨vs, SlOn.mono h1 hm, h2.mono hm⟩
theorem IsPack.keep {S : Nat → Prop} {w w' : World} {b : Nat} {p : Sp.Pk} (h : IsPack S w b p) (hb : ∀ b, S b → w'.heap[b]? = w.heap[b]?) : IsPack S w' b p := by
  obtain ⟨nv, bv, fv, hS, h0, h1, h2, h3, h4, g0, g1, g2, n0, n1⟩ := h
  have hc : ∀ o, w'.cell? ⟨b, o, none⟩ = w.cell? ⟨b, o, none⟩ := fun o => World.cell?_of_block (w := w) (hb b hS)
  exact ⟨nv, bv, fv, hS, (hc 0).trans h0, (hc 1).trans h1, (hc 2).trans h2, (hc 3).trans h3, (hc 4).trans h4, g0.keep hb, SlOn.keep g1 hb, SlOn.keep g2 hb, n0, n1⟩
theorem IsPack.mono {S S' : Nat → Prop} {w : World} {b : Nat} {p : Sp.Pk} (h : IsPack S w b p) (hm : ∀ b, S b → S' b) : IsPack S' w b p := by
  obtain ⟨nv, bv, fv, hS, h0, h1, h2, h3, h4, g0, g1, g2, n0, n1⟩ := h
  exact ⟨nv, bv, fv, hm b hS, h0, h1, h2, h3, h4, g0.mono hm, SlOn.mono g1 hm, SlOn.mono g2 hm, n0, n1⟩
theorem slice_some {S : Nat → Prop} {w : World} {sz : Nat} {v : Value} {xs : List (List Value)} (h : SlOn S w sz v xs) (hne : xs ≠ []) : ∃ b off cap, v = .slice (some ⟨b, off, none⟩) xs.length cap := by
  obtain ⟨a, cap, hv, _, h⟩ := h
  cases xs with
  | nil => exact absurd rfl hne
  | cons x r =>
    obtain ⟨b, off, ha, _⟩ := h 0 x rfl
    exact ⟨b, off, cap, by rw [hv, ha]⟩
def head0 (p : Sp.Pk) : Sp.Str := [112, 97, 99, 107, 97, 103, 101, 32] ++ p.name ++ [32] ++ p.ver
def head1 (p : Sp.Pk) : Sp.Str := head0 p ++ (if p.needs.isEmpty then [] else [10, 110, 101, 101, 100, 115, 32] ++ Lib.join (p.needs.map groupText) [44, 32])
def head2 (p : Sp.Pk) : Sp.Str := head1 p ++ (if p.bars.isEmpty then [] else [10, 98, 97, 114, 115, 32] ++ Lib.join (p.bars.map Sp.printC) [44, 32])
theorem print_eq (p : Sp.Pk) : Sp.print p = head2 p ++ (p.files.map Sp.printF).flatten := by
  unfold Sp.print head2 head1 head0 groupText; rfl
theorem head1_len (p : Sp.Pk) (hok : PkOk p) : (head1 p).length ≤ 20000 := by
  have h1 := hok.name
  have h2 := hok.ver
  have hjl := W8.join_bound [44, 32] 3039 3 (p.needs.map groupText) (fun x hx => by obtain ⟨g, hg, rfl⟩ := List.mem_map.1 hx; exact groupText_len g (hok.groups g hg).1 (hok.groups g hg).2) (by rw [List.length_map]; exact hok.needs)
  have hjl2 : (Lib.join (p.needs.map groupText) [44, 32]).length ≤ 10000 := Nat.le_trans hjl (by decide)
  unfold head1 head0
  split
  · simp; omega
  · simp; omega
theorem head2_len (p : Sp.Pk) (hok : PkOk p) : (head2 p).length ≤ 40000 := by
  have h1 := head1_len p hok
  have hjl := W8.join_bound [44, 32] 1010 3 (p.bars.map Sp.printC) (fun x hx => by obtain ⟨g, hg, rfl⟩ := List.mem_map.1 hx; exact printC_len g (hok.barred g hg)) (by rw [List.length_map]; exact hok.bars)
  have hjl2 : (Lib.join (p.bars.map Sp.printC) [44, 32]).length ≤ 10000 := Nat.le_trans hjl (by decide)
  unfold head2
  split
  · simp; omega
  · simp; omega
def files_text (p : Sp.Pk) (k : Nat) : Sp.Str := ((p.files.take k).map Sp.printF).flatten
theorem files_next (p : Sp.Pk) (k : Nat) (h : k < p.files.length) : files_text p (k + 1) = files_text p k ++ Sp.printF p.files[k] := by
  unfold files_text; rw [List.take_succ_eq_append_getElem h, List.map_append, List.flatten_append]; simp
theorem files_len (p : Sp.Pk) (hok : PkOk p) (k : Nat) : (files_text p k).length ≤ 10000 := by
  have hb : ∀ (l : List Sp.Fl), (∀ f ∈ l, f.path.length + f.content.length < 1000) → ((l.map Sp.printF).flatten).length ≤ l.length * 1010 := by
    intro l
    induction l with
    | nil => intro _; simp
    | cons f r ih =>
      intro h
      have h1 := ih fun g hg => h g (List.mem_cons_of_mem _ hg)
      have h2 := h f List.mem_cons_self
      have h3 : (Sp.printF f).length ≤ 1010 := by unfold Sp.printF; simp; omega
      rw [List.map_cons, List.flatten_cons, List.length_append, List.length_cons, Nat.succ_mul]; omega
  have h1 := hb (p.files.take k) fun f hf => hok.paths f (List.mem_of_mem_take hf)
  have h2 := hok.files
  have h3 : (p.files.take k).length ≤ 4 := by rw [List.length_take]; omega
  unfold files_text
  omega
theorem str_eq {a b : ByteArray} (h : bl a = bl b) : Value.string a = .string b := by rw [bl_inj h]
end Go.Proofs.YtfphcecjhdkcoaaGreatDoor
/-
Plain laws of sorting by insertion.
-/
namespace Go.Proofs.YtfphcecjhdkcoaaGreatDoor
namespace P3
theorem cmp_lt : ∀ a b : Sp.Str, (Lib.compareBytes a b < 0) ↔ Sp.strLt a b = true
  | [], [] => by simp [Lib.compareBytes, Sp.strLt]
  | [], _ :: _ => by simp [Lib.compareBytes, Sp.strLt]
  | _ :: _, [] => by simp [Lib.compareBytes, Sp.strLt]
  | a :: x, b :: y => by
    unfold Lib.compareBytes Sp.strLt
    split
    · simp
    · split
      · simp
      · exact cmp_lt x y
theorem lt_iff : ∀ a b : Sp.Str, Sp.strLt a b = true ↔ a < b
  | [], [] => by simp [Sp.strLt]
  | [], _ :: _ => by simp [Sp.strLt]
  | _ :: _, [] => by simp [Sp.strLt]
  | a :: x, b :: y => by
    unfold Sp.strLt
    rw [List.cons_lt_cons_iff]
    split
    · rename_i h; simp [h]
    · split
      · rename_i h1 h2
        simp only [Bool.false_eq_true, false_iff, not_or, not_and]
        refine ⟨h1, fun e => ?_⟩
        subst e; exact absurd h2 (UInt8.lt_irrefl _)
      · rename_i h1 h2
        have e : a = b := UInt8.le_antisymm (UInt8.not_lt.1 h2) (UInt8.not_lt.1 h1)
        rw [lt_iff x y]
        simp [e]
/-- In order: none behind is less. -/
def Ord (l : List Sp.Fl) : Prop := l.Pairwise (fun a b => a.path ≤ b.path)
theorem ins_mid (f : Sp.Fl) : ∀ (pre moved : List Sp.Fl), (∀ g ∈ pre, Sp.strLt f.path g.path = false) → (∀ g r, moved = g :: r → Sp.strLt f.path g.path = true) → Sp.insertF f (pre ++ moved) = pre ++ f :: moved
  | [], [], _, _ => rfl
  | [], g :: r, _, h => by
    show Sp.insertF f (g :: r) = f :: g :: r
    unfold Sp.insertF
    rw [if_pos (h g r rfl)]
  | p :: pre, moved, h1, h2 => by
    show Sp.insertF f (p :: (pre ++ moved)) = p :: (pre ++ f :: moved)
    unfold Sp.insertF
    rw [if_neg (by rw [h1 p (by simp)]; simp), ins_mid f pre moved (fun g hg => h1 g (by simp [hg])) h2]
theorem ins_mem (f : Sp.Fl) : ∀ (l : List Sp.Fl) (x : Sp.Fl), x ∈ Sp.insertF f l ↔ x = f ∨ x ∈ l
  | [], x => by simp [Sp.insertF]
  | g :: r, x => by
    unfold Sp.insertF
    split
    · simp
    · rw [List.mem_cons, ins_mem f r x, List.mem_cons]
      constructor
      · rintro (h | h | h)
        · exact .inr (.inl h)
        · exact .inl h
        · exact .inr (.inr h)
      · rintro (h | h | h)
        · exact .inr (.inl h)
        · exact .inl h
        · exact .inr (.inr h)
theorem ins_ord (f : Sp.Fl) : ∀ l : List Sp.Fl, Ord l → Ord (Sp.insertF f l)
  | [], _ => by simp [Sp.insertF, Ord]
  | g :: r, h => by
    obtain ⟨h1, h2⟩ := List.pairwise_cons.1 h
    unfold Sp.insertF
    split
    · rename_i hlt
      have hlt' := (lt_iff _ _).1 hlt
      refine List.pairwise_cons.2 ⟨fun x hx => ?_, h⟩
      rcases List.mem_cons.1 hx with rfl | hx
      · exact List.le_of_lt hlt'
      · exact List.le_trans (List.le_of_lt hlt') (h1 x hx)
    · rename_i hlt
      have hle : g.path ≤ f.path := by
        rw [lt_iff] at hlt; exact List.not_lt.1 hlt
      refine List.pairwise_cons.2 ⟨fun x hx => ?_, ins_ord f r h2⟩
      rcases (ins_mem f r x).1 hx with rfl | hx
      · exact hle
      · exact h1 x hx
theorem ins_len (f : Sp.Fl) : ∀ l : List Sp.Fl, (Sp.insertF f l).length = l.length + 1
  | [] => rfl
  | g :: r => by
    unfold Sp.insertF
    split
    · simp
    · simp [ins_len f r]
theorem sort_ord (l : List Sp.Fl) : ∀ acc, Ord acc → Ord (l.foldl (fun a f => Sp.insertF f a) acc) := by
  induction l with
  | nil => intro acc h; exact h
  | cons x r ih => intro acc h; exact ih _ (ins_ord x acc h)
theorem sortF_ord (l : List Sp.Fl) : Ord (Sp.sortF l) := sort_ord l [] List.Pairwise.nil
theorem sort_len (l : List Sp.Fl) : ∀ acc, (l.foldl (fun a f => Sp.insertF f a) acc).length = acc.length + l.length := by
  induction l with
  | nil => intro acc; simp
  | cons x r ih => intro acc; rw [List.foldl_cons, ih, ins_len, List.length_cons]; omega
theorem sortF_len (l : List Sp.Fl) : (Sp.sortF l).length = l.length := by
  unfold Sp.sortF; rw [sort_len]; simp
theorem sort_mem (l : List Sp.Fl) : ∀ acc x, x ∈ l.foldl (fun a f => Sp.insertF f a) acc ↔ x ∈ acc ∨ x ∈ l := by
  induction l with
  | nil => intro acc x; simp
  | cons y r ih =>
    intro acc x
    rw [List.foldl_cons, ih, ins_mem, List.mem_cons]
    constructor
    · rintro ((h | h) | h)
      · exact .inr (.inl h)
      · exact .inl h
      · exact .inr (.inr h)
    · rintro (h | h | h)
      · exact .inl (.inr h)
      · exact .inl (.inl h)
      · exact .inr h
theorem sortF_mem (l : List Sp.Fl) (x : Sp.Fl) : x ∈ Sp.sortF l ↔ x ∈ l := by
  unfold Sp.sortF; rw [sort_mem]; simp
theorem sortF_snoc (l : List Sp.Fl) (f : Sp.Fl) : Sp.sortF (l ++ [f]) = Sp.insertF f (Sp.sortF l) := by
  unfold Sp.sortF; rw [List.foldl_append]; rfl
/-- Where the insertion ends. -/
theorem ins_stop {f : Sp.Fl} {pre moved : List Sp.Fl} (ho : Ord (pre ++ moved)) (hm : ∀ g r, moved = g :: r → Sp.strLt f.path g.path = true)
    (hp : pre = [] ∨ ∃ pre' x, pre = pre' ++ [x] ∧ Sp.strLt f.path x.path = false) : Sp.insertF f (pre ++ moved) = pre ++ f :: moved := by
  refine ins_mid f pre moved (fun g hg => ?_) hm
  rcases hp with rfl | ⟨pre', x, rfl, hx⟩
  · cases hg
  · have hx' : x.path ≤ f.path := by
      rw [← Bool.not_eq_true, lt_iff] at hx; exact List.not_lt.1 hx
    have hgx : g.path ≤ x.path := by
      rcases List.mem_append.1 hg with h | h
      · have h1 : Ord (pre' ++ [x]) := (List.pairwise_append.1 ho).1
        exact (List.pairwise_append.1 h1).2.2 g h x (by simp)
      · rw [List.mem_singleton] at h; subst h; exact List.le_refl _
    rw [← Bool.not_eq_true, lt_iff]
    exact List.not_lt.2 (List.le_trans hgx hx')
end P3
end Go.Proofs.YtfphcecjhdkcoaaGreatDoor
/-
Plain laws on 'Lib.split', the pieces of a text between which something stands: one piece at a time.
-/
namespace Go.Proofs.YtfphcecjhdkcoaaGreatDoor
namespace Sp
theorem index_range (s t : Str) (ht : t ≠ []) : Lib.index s t = -1 ∨ ∃ i : Nat, Lib.index s t = i ∧ i + t.length ≤ s.length ∧ Lib.occAt s t i = true ∧ ∀ j, j < i → Lib.occAt s t j = false := by
  induction s with
  | nil => left; unfold Lib.index; cases t with
    | nil => exact absurd rfl ht
    | cons a b => rfl
  | cons b l ih =>
    by_cases hp : t.isPrefixOf (b :: l) = true
    · right
      refine ⟨0, by unfold Lib.index; rw [if_pos hp]; rfl, ?_, by simpa [Lib.occAt] using hp, fun j hj => absurd hj (Nat.not_lt_zero _)⟩
      have := (List.isPrefixOf_iff_prefix.1 hp).length_le
      omega
    · rcases ih with h | ⟨i, h, h1, h2, h3⟩
      · left; unfold Lib.index; rw [if_neg hp, h]; rfl
      · right
        refine ⟨i + 1, ?_, by simp; omega, by simpa [Lib.occAt] using h2, ?_⟩
        · unfold Lib.index; rw [if_neg hp, h, if_neg (by simp)]; rfl
        · intro j hj
          cases j with
          | zero => exact Bool.eq_false_iff.2 hp
          | succ j => simpa [Lib.occAt] using h3 j (by omega)
theorem countFrom_fuel (t : Str) (ht : t ≠ []) : ∀ (f g : Nat) (s : Str), s.length < f → s.length < g → Lib.countFrom t f s = Lib.countFrom t g s := by
  intro f
  induction f with
  | zero => intro g s h _; omega
  | succ f ih =>
    intro g s hf hg
    cases g with
    | zero => omega
    | succ g =>
      simp only [Lib.countFrom]
      split
      · rfl
      · rename_i hne
        have hl : 0 < t.length := List.length_pos_iff.2 ht
        rcases index_range s t ht with h | ⟨i, h, h1, _⟩
        · rw [h] at hne; exact absurd rfl hne
        · congr 1
          apply ih
          · rw [List.length_drop, h]; simp; omega
          · rw [List.length_drop, h]; simp; omega
theorem count_rec (s t : Str) (ht : t ≠ []) : Lib.count s t = if Lib.index s t == -1 then 0 else 1 + Lib.count (s.drop ((Lib.index s t).toNat + t.length)) t := by
  show Lib.countFrom t (s.length + 1) s = _
  simp only [Lib.countFrom]
  split
  · rfl
  · rename_i hne
    rcases index_range s t ht with h | ⟨i, h, h1, _⟩
    · rw [h] at hne; exact absurd rfl hne
    · have hl : 0 < t.length := List.length_pos_iff.2 ht
      congr 1
      apply countFrom_fuel t ht
      · rw [List.length_drop, h]; simp; omega
      · omega
theorem split_miss (s t : Str) (ht : t ≠ []) (h : Lib.index s t = -1) : Lib.split s t = [s] := by
  unfold Lib.split
  rw [count_rec s t ht, h]; rfl
theorem split_hit (s t : Str) (ht : t ≠ []) (i : Nat) (h : Lib.index s t = i) : Lib.split s t = s.take i :: Lib.split (s.drop (i + t.length)) t := by
  unfold Lib.split
  rw [count_rec s t ht, h, if_neg (by simp), Nat.add_comm 1]
  simp only [Lib.splitK, h]
  rw [if_neg (by simp)]
  simp
theorem split_ne (s t : Str) (ht : t ≠ []) : Lib.split s t ≠ [] := by
  rcases index_range s t ht with h | ⟨i, h, _⟩
  · rw [split_miss s t ht h]; simp
  · rw [split_hit s t ht i h]; simp
/-- Where the next piece ends. -/
theorem split_at (s t : Str) (ht : t ≠ []) (i : Nat) (hi : i ≤ s.length) (ho : Lib.occAt s t i = true) (hn : ∀ j, j < i → Lib.occAt s t j = false) : Lib.split s t = s.take i :: Lib.split (s.drop (i + t.length)) t :=
  split_hit s t ht i (Lib.index_first hi ho hn)
theorem split_end (s t : Str) (ht : t ≠ []) (i : Nat) (h : s.length < i + t.length) (hn : ∀ j, j < i → Lib.occAt s t j = false) : Lib.split s t = [s] :=
  split_miss s t ht (Lib.index_past ht hn h)
theorem occ_take (s t : Str) (i : Nat) (hi : i + t.length ≤ s.length) : Lib.occAt s t i = ((s.drop i).take t.length == t) := Lib.occAt_iff_take s t i hi
theorem occ_drop (s t : Str) (f j : Nat) : Lib.occAt (s.drop f) t j = Lib.occAt s t (f + j) := by
  unfold Lib.occAt; rw [List.drop_drop]
/-- The pieces are no longer than the text, and no more than its bytes and one. -/
theorem split_len (t : Str) (ht : t ≠ []) : ∀ (n : Nat) (s : Str), s.length ≤ n → (Lib.split s t).length ≤ s.length + 1 ∧ ∀ x ∈ Lib.split s t, x.length ≤ s.length := by
  intro n
  induction n with
  | zero =>
    intro s hs
    have : s = [] := List.length_eq_zero_iff.1 (by omega)
    subst this
    rw [split_end [] t ht 0 (by simp; exact List.length_pos_iff.2 ht) (fun j h => absurd h (Nat.not_lt_zero _))]
    simp
  | succ n ih =>
    intro s hs
    rcases index_range s t ht with h | ⟨i, h, h1, _⟩
    · rw [split_miss s t ht h]; simp
    · rw [split_hit s t ht i h]
      have hl : 0 < t.length := List.length_pos_iff.2 ht
      have hd : (s.drop (i + t.length)).length = s.length - (i + t.length) := List.length_drop
      obtain ⟨h3, h4⟩ := ih (s.drop (i + t.length)) (by rw [hd]; omega)
      refine ⟨by simp only [List.length_cons]; omega, ?_⟩
      intro x hx
      rcases List.mem_cons.1 hx with rfl | hx
      · rw [List.length_take]; omega
      · have := h4 x hx; omega
theorem split_length (s t : Str) (ht : t ≠ []) : (Lib.split s t).length ≤ s.length + 1 := (split_len t ht s.length s (Nat.le_refl _)).1
theorem split_mem (s t x : Str) (ht : t ≠ []) (hx : x ∈ Lib.split s t) : x.length ≤ s.length := (split_len t ht s.length s (Nat.le_refl _)).2 x hx
end Sp
end Go.Proofs.YtfphcecjhdkcoaaGreatDoor
/-
More of the data in memory: frames but for one block, cells that are set, rows of files; exchanges of two files.
-/
namespace Go.Proofs.YtfphcecjhdkcoaaGreatDoor
open Go.RowKit
/-- Of the blocks below n all but b are as they were. -/
structure FrN (n b : Nat) (A B : World) : Prop where
  os : B.os = A.os
  tape : B.tape = A.tape
  output : B.output = A.output
  size : A.heap.size ≤ B.heap.size
  block : ∀ k, k < n → k ≠ b → B.heap[k]? = A.heap[k]?
theorem FrN.refl (n b : Nat) (A : World) : FrN n b A A := ⟨rfl, rfl, rfl, Nat.le_refl _, fun _ _ _ => rfl⟩
theorem FrN.trans {n b : Nat} {A B C : World} (h : FrN n b A B) (k : FrN n b B C) : FrN n b A C :=
  ⟨k.os.trans h.os, k.tape.trans h.tape, k.output.trans h.output, Nat.le_trans h.size k.size, fun i hi hb => (k.block i hi hb).trans (h.block i hi hb)⟩
theorem FrN.cell {n b : Nat} {A B : World} (h : FrN n b A B) {p : Addr} (hp : p.block < n) (hb : p.block ≠ b) : B.cell? p = A.cell? p := World.cell?_of_block (w := A) (h.block p.block hp hb)
theorem row_block {w w' : World} {B : Nat} {e : TypeId} {size n : Nat} {v : Value} {xs : List Value} (h : w.ownsRow B e size v n xs) (hb : ∀ k, B ≤ k → w'.heap[k]? = w.heap[k]?) : w'.ownsRow B e size v n xs := by
  obtain ⟨h1, h2⟩ := h
  refine ⟨h1, ?_⟩
  rcases h2 with h2 | ⟨g, cap, cur, hv, hg, hh, r⟩
  · exact .inl h2
  · exact .inr ⟨g, cap, cur, hv, hg, (hb g hg).trans hh, r⟩
theorem set_facts (w : World) (b o : Nat) (x u : Value) (hc : w.cell? ⟨b, o, none⟩ = some u) (hz : ∀ o, w.frozen? ⟨b, o, none⟩ = false) :
    (w.setCell ⟨b, o, none⟩ x).cell? ⟨b, o, none⟩ = some x ∧ (∀ o', o' ≠ o → (w.setCell ⟨b, o, none⟩ x).cell? ⟨b, o', none⟩ = w.cell? ⟨b, o', none⟩) ∧
      (∀ k, k ≠ b → (w.setCell ⟨b, o, none⟩ x).heap[k]? = w.heap[k]?) ∧ (∀ o', (w.setCell ⟨b, o, none⟩ x).frozen? ⟨b, o', none⟩ = false) ∧ (w.setCell ⟨b, o, none⟩ x).heap.size = w.heap.size :=
  ⟨World.cell?_setCell_same _ _ _ hc, fun o' h => World.cell?_setCell_other _ _ _ _ (fun e => h (by injection e with e1 e2; exact e2.symm)), fun k h => Below.heap_setCell _ _ _ _ h,
    fun o' => by simp [hz], by simp⟩
theorem FrN.set (n b o : Nat) (w : World) (x : Value) : FrN n b w (w.setCell ⟨b, o, none⟩ x) := ⟨rfl, rfl, rfl, by simp, fun k _ hne => Below.heap_setCell _ _ _ _ hne⟩
theorem FrN.of_below {n b : Nat} {w w' : World} (h : Below w.heap.size w w') (hn : n ≤ w.heap.size) : FrN n b w w' :=
  ⟨h.os, h.tape, h.output, h.size, fun k hk _ => h.block k (by omega)⟩
theorem row_some {w : World} {B : Nat} {e : TypeId} {size : Nat} {v : Value} {fs : List Sp.Fl} {xs : List Value} (h : w.ownsRow B e size v fs.length xs) (hne : fs ≠ []) : ∃ g cap, v = .slice (some ⟨g, 0, none⟩) fs.length cap := by
  rcases h.2 with ⟨_, h0⟩ | ⟨g, cap, _, hv, _⟩
  · exact absurd (List.length_eq_zero_iff.1 h0) hne
  · exact ⟨g, cap, hv⟩
theorem mapO_len {α β : Type} (f : α → Option β) : ∀ (l : List α) (r : List β), Sp.mapO f l = some r → r.length = l.length
  | [], r, h => by cases h; rfl
  | x :: l, r, h => by
    unfold Sp.mapO at h
    split at h
    · rename_i y ys h1 h2
      cases h
      simp [mapO_len f l ys h2]
    · cases h
theorem each_ne {α : Type} {s sep : Sp.Str} {most : Nat} {one : Sp.Str → Option α} {l : List α} (hsep : sep ≠ []) (h : Sp.each s sep most one = some l) : l ≠ [] := by
  unfold Sp.each at h
  split at h
  · rename_i l' hl
    split at h
    · cases h
      intro e
      have := mapO_len _ _ _ hl
      rw [e] at this
      exact Sp.split_ne s sep hsep (List.length_eq_zero_iff.1 this.symm)
    · cases h
  · cases h
/-- A row of files at block g. -/
def FilesAt (w : World) (g : Nat) (l : List Sp.Fl) : Prop :=
  (∀ k, (hk : k < l.length) → w.cell? ⟨g, k * 2, none⟩ = some (sv l[k].path) ∧ w.cell? ⟨g, k * 2 + 1, none⟩ = some (sv l[k].content)) ∧ (∀ o, w.frozen? ⟨g, o, none⟩ = false) ∧ g < w.heap.size
theorem FilesAt.below {w w' : World} {g : Nat} {l : List Sp.Fl} (h : FilesAt w g l) (hb : Below w.heap.size w w') : FilesAt w' g l :=
  ⟨fun k hk => ⟨((bcell hb).1 g _ h.2.2).trans (h.1 k hk).1, ((bcell hb).1 g _ h.2.2).trans (h.1 k hk).2⟩, fun o => ((bcell hb).2 g o h.2.2).trans (h.2.1 o), Nat.lt_of_lt_of_le h.2.2 hb.size⟩
theorem swap_get {A B : List Sp.Fl} {x f : Sp.Fl} {m : Nat} (hA : A.length = m) (k : Nat) : (A ++ f :: x :: B)[k]? = if k = m then some f else if k = m + 1 then some x else (A ++ x :: f :: B)[k]? := by
  subst hA
  by_cases h : k < A.length
  · rw [List.getElem?_append_left h, List.getElem?_append_left h, if_neg (by omega), if_neg (by omega)]
  · obtain ⟨d, rfl⟩ : ∃ d, k = A.length + d := ⟨k - A.length, by omega⟩
    rw [List.getElem?_append_right (by omega), List.getElem?_append_right (by omega), show A.length + d - A.length = d from by omega]
    match d with
    | 0 => simp
    | 1 => simp
    | d + 2 => simp
theorem files_swap {w : World} {g m : Nat} {A B : List Sp.Fl} {x f : Sp.Fl} (h : FilesAt w g (A ++ x :: f :: B)) (hA : A.length = m) :
    FilesAt ((((w.setCell ⟨g, (m + 1) * 2, none⟩ (sv x.path)).setCell ⟨g, (m + 1) * 2 + 1, none⟩ (sv x.content)).setCell ⟨g, m * 2, none⟩ (sv f.path)).setCell ⟨g, m * 2 + 1, none⟩ (sv f.content)) g (A ++ f :: x :: B) ∧
      ∀ n, FrN n g w ((((w.setCell ⟨g, (m + 1) * 2, none⟩ (sv x.path)).setCell ⟨g, (m + 1) * 2 + 1, none⟩ (sv x.content)).setCell ⟨g, m * 2, none⟩ (sv f.path)).setCell ⟨g, m * 2 + 1, none⟩ (sv f.content)) := by
  obtain ⟨hc, hz, hg⟩ := h
  have hlen : (A ++ x :: f :: B).length = m + 2 + B.length := by simp [hA]; omega
  have c0 := hc m (by omega)
  have c1 := hc (m + 1) (by omega)
  obtain ⟨s1, o1, _, z1, n1⟩ := set_facts w g ((m + 1) * 2) (sv x.path) _ c1.1 hz
  obtain ⟨s2, o2, _, z2, n2⟩ := set_facts _ g ((m + 1) * 2 + 1) (sv x.content) _ ((o1 _ (by omega)).trans c1.2) z1
  obtain ⟨s3, o3, _, z3, n3⟩ := set_facts _ g (m * 2) (sv f.path) _ ((o2 _ (by omega)).trans ((o1 _ (by omega)).trans c0.1)) z2
  obtain ⟨s4, o4, _, z4, n4⟩ := set_facts _ g (m * 2 + 1) (sv f.content) _ ((o3 _ (by omega)).trans ((o2 _ (by omega)).trans ((o1 _ (by omega)).trans c0.2))) z3
  refine ⟨⟨fun k hk => ?_, z4, by omega⟩, fun n => (FrN.set n g _ w _).trans ((FrN.set n g _ _ _).trans ((FrN.set n g _ _ _).trans (FrN.set n g _ _ _)))⟩
  have hk' : k < (A ++ x :: f :: B).length := by simpa using hk
  have hgk := swap_get (B := B) (x := x) (f := f) hA k
  rw [List.getElem?_eq_getElem hk, List.getElem?_eq_getElem hk'] at hgk
  by_cases e0 : k = m
  · rw [if_pos e0] at hgk
    rw [Option.some.inj hgk, e0]
    exact ⟨(o4 _ (by omega)).trans s3, s4⟩
  · rw [if_neg e0] at hgk
    by_cases e1 : k = m + 1
    · rw [if_pos e1] at hgk
      rw [Option.some.inj hgk, e1]
      exact ⟨(o4 _ (by omega)).trans ((o3 _ (by omega)).trans ((o2 _ (by omega)).trans s1)), (o4 _ (by omega)).trans ((o3 _ (by omega)).trans s2)⟩
    · rw [if_neg e1] at hgk
      rw [Option.some.inj hgk]
      have ck := hc k hk'
      exact ⟨(o4 _ (by omega)).trans ((o3 _ (by omega)).trans ((o2 _ (by omega)).trans ((o1 _ (by omega)).trans ck.1))), (o4 _ (by omega)).trans ((o3 _ (by omega)).trans ((o2 _ (by omega)).trans ((o1 _ (by omega)).trans ck.2)))⟩
theorem sort_start (l : List Sp.Fl) : l = Sp.sortF (l.take 1) ++ l.drop 1 := by
  cases l with
  | nil => rfl
  | cons x r => rfl
theorem step_app {T e size bytes : Nat} (A : AppTy T e size bytes) (w : World) {ops : Array Oper} {o : Oper} {a : Act} {K : Act → World → Prop} {Q : Exit → Act → World → Prop} {E : Prop} (us : List Value)
    (hus : us.length = size) (h1 : ∀ u ∈ us, u.oneCell' = true) (hgd : o.guard = none) (s x : Operand)
    (ho : o.op = .call { callee := .builtin .append, args := #[s, x], argTypes := #[T, T] }) (B : Nat) (v : Value) (n : Nat) (xs : List Value) (hs : a.eval s = v) (hown : w.ownsRow B e size v n xs)
    (hx : a.eval x = .slice (some ⟨w.heap.size, 0, none⟩) 1 1) (hn : n < 1099511627776) (hB : B ≤ w.heap.size)
    (h : ∀ g cap w', w'.ownsRow B e size (.slice (some ⟨g, 0, none⟩) (n + 1) cap) (n + 1) (xs ++ us) → w.grownBy w' v.ownBlock → K (a.put o.dst (.slice (some ⟨g, 0, none⟩) (n + 1) cap)) w') :
    if Region.wanted o (yielded ops a.tmps) = true then Oper.wp Tryz.prog o a (w.alloc (.cells us.toArray e)) K Q else E := by
  obtain ⟨ht, ⟨i0, z, hi, hz0, hz1, hz2, hz⟩, hp, hb⟩ := A
  refine step_append_lies _ hgd s x T ho B e i0 z size bytes ht hi hz0 hz1 hz2 hz hp v n xs hs (hown.alloc _) ⟨w.heap.size, 0, none⟩ 1 1 us hx (by rw [hus, Nat.one_mul]) (cells_new _ _ _) h1 (by omega) (by unfold maxLen; omega) ?_ (by simp; omega) _ rfl ?_
  · have : (n + 1) * bytes ≤ (n + 1) * 128 := Nat.mul_le_mul_left _ hb
    omega
  · intro g cap w' h2 h3 h4 h5
    refine h g cap w' h2 ?_
    have hsz := h3.size
    simp only [World.size_alloc] at hsz
    exact ⟨h3.os, h3.tape, h3.output, by omega, fun k hk hne => (h3.block k (by simp; omega) hne).trans (Below.heap_alloc _ _ _ hk)⟩
theorem step_app_drew {T e size bytes : Nat} (A : AppTy T e size bytes) (w : World) {ops : Array Oper} {o : Oper} {a : Act} {K : Act → World → Prop} {Q : Exit → Act → World → Prop} {E : Prop} (us : List Value)
    (hus : us.length = size) (h1 : ∀ u ∈ us, u.oneCell' = true) (hgd : o.guard = none) (s x : Operand)
    (ho : o.op = .call { callee := .builtin .append, args := #[s, x], argTypes := #[T, T] }) (B : Nat) (v : Value) (n : Nat) (xs : List Value) (hs : a.eval s = v) (hown : w.ownsRow B e size v n xs)
    (hx : a.eval x = .slice (some ⟨w.heap.size, 0, none⟩) 1 1) (hn : n < 1099511627776) (hB : B ≤ w.heap.size)
    (h : ∀ g cap w', w'.ownsRow B e size (.slice (some ⟨g, 0, none⟩) (n + 1) cap) (n + 1) (xs ++ us) → w.drew.grownBy w' v.ownBlock → K (a.put o.dst (.slice (some ⟨g, 0, none⟩) (n + 1) cap)) w') :
    if Region.wanted o (yielded ops a.tmps) = true then Oper.wp Tryz.prog o a ((w.alloc (.cells us.toArray e)).drew) K Q else E :=
  step_app A w.drew us hus h1 hgd s x ho B v n xs hs hown hx hn hB h
end Go.Proofs.YtfphcecjhdkcoaaGreatDoor
/-
The program's folders, an iterator: the folders in which a path lies, one behind the other.
-/
namespace Go.Proofs.YtfphcecjhdkcoaaGreatDoor
open Go.RowKit Go.Shelf
attribute [local go_sem] Oper.semAt_some
theorem folders_any (s : ByteArray) (w : World) :
    Calls Tryz.prog 168 #[.string s] w fun e w' => e = .returned (.func (.func 216) #[] #[.pointer (some ⟨w.heap.size, 0, none⟩)]) ∧ w' = w.alloc (.cells #[.string s] 9) := by
  have hmf : ∀ (fn : Fn) (first cap : Array Value) (w : World), (Instr.makeFunc fn first cap).run Tryz.prog w = .ok (.func fn first cap) w := fun _ _ _ _ => rfl
  go_enter Tryz.func168, Tryz.ntmps168
  go_wp2
  go_ret
  exact ⟨rfl, rfl⟩
/-- The places at which the parts end, below k. -/
def cuts (s : Sp.Str) (k : Nat) : List Sp.Str := ((List.range k).filter (fun i => s[i]? == some 47)).map (s.take ·)
theorem cuts_all (s : Sp.Str) : cuts s s.length = Sp.folders s := rfl
theorem cuts_yes (s : Sp.Str) (k : Nat) (h : s[k]? = some 47) : cuts s (k + 1) = cuts s k ++ [s.take k] := by
  unfold cuts; rw [List.range_succ, List.filter_append]; simp [h]
theorem cuts_no (s : Sp.Str) (k : Nat) (h : s[k]? ≠ some 47) : cuts s (k + 1) = cuts s k := by
  unfold cuts; rw [List.range_succ, List.filter_append]
  have : (s[k]? == some 47) = false := by simpa using h
  simp [this]
theorem cuts_grow (s : Sp.Str) (k : Nat) : ∀ d, cuts s k <+: cuts s (k + d)
  | 0 => List.prefix_refl _
  | d + 1 => by
    refine List.IsPrefix.trans (cuts_grow s k d) ?_
    by_cases h : s[k + d]? = some 47
    · rw [← Nat.add_assoc, cuts_yes s _ h]; exact List.prefix_append _ _
    · rw [← Nat.add_assoc, cuts_no s _ h]; exact List.prefix_refl _
theorem cuts_prefix (s : Sp.Str) (k : Nat) (hk : k ≤ s.length) : cuts s k <+: Sp.folders s := by
  have := cuts_grow s k (s.length - k)
  rw [show k + (s.length - k) = s.length from by omega] at this
  exact this
theorem folders_in (F : Fence) (n : Nat) (h : F.fn 216) (hro : F.round = none) (hn : 1 ≤ n) (l Bs n₀ wb : Nat) (s : ByteArray) (hs : s.size < 1000000) (hBs : Bs < n₀) (hBw : Bs ≠ wb) (J Jx : List Sp.Str → World → Prop)
    (hY : ∀ pre x W, J pre W → pre.length < (bl s).length → x.length ≤ (bl s).length → YieldAt F (n - 1) Tryz.prog l #[.string ⟨x.toArray⟩] W fun e W' =>
      (e = .returned (.bool true) ∧ J (pre ++ [x]) W' ∧ FrN n₀ wb W W') ∨ (e = .returned (.bool false) ∧ Jx (pre ++ [x]) W'))
    (W : World) (hc : W.cell? ⟨Bs, 0, none⟩ = some (.string s)) (h0 : J [] W) :
    CallsIn F n Tryz.prog 216 #[.func (.yield l) #[] #[], .pointer (some ⟨Bs, 0, none⟩)] W fun e W' => (∃ v, e = .returned v) ∧
      ((∃ ys, ys = Sp.folders (bl s) ∧ J ys W') ∨ (∃ pre, pre <+: Sp.folders (bl s) ∧ Jx pre W')) := by
  refine callsIn_of_wp Tryz.func216 rfl h ?_ hro
  simp only [Tryz.ntmps216, List.size_toArray, List.length_cons, List.length_nil, Nat.reduceAdd, Nat.reduceSub, Array.replicate_succ, Array.replicate_zero, List.push_toArray, List.append_toArray, List.nil_append, List.cons_append]
  gi_wp2
  gi_loopw [3, 6] (fun _ i wr => ∃ k : Nat, k ≤ s.size ∧ i = .int .i64 k ∧ J (cuts (bl s) k) wr ∧ wr.cell? ⟨Bs, 0, none⟩ = some (.string s)) (fun _ i _ => s.size - (intOf i).toNat)
  case atStart => exact ⟨0, Nat.zero_le _, rfl, h0, hc⟩
  case round =>
    obtain ⟨k, hk, rfl, hJ, hcr⟩ := hrel
    by_cases hk2 : k < s.size
    · have hat : (bl s)[k]? = some s[k] := by rw [List.getElem?_eq_getElem (by rw [bl_len]; exact hk2)]; rfl
      have HAT := Lib.hid hat
      clear hat
      by_cases h47 : s[k] = 47
      · have hlen : (cuts (bl s) k).length < (bl s).length := by
          have h1 : (cuts (bl s) k).length ≤ k := by
            unfold cuts; rw [List.length_map]; exact Nat.le_trans (List.length_filter_le _ _) (by simp)
          rw [bl_len]; omega
        obtain ⟨fn, tmps, assign, body, hy, hR⟩ := hY _ ((bl s).take k) wr hJ hlen (by rw [List.length_take]; omega)
        rw [show (⟨((bl s).take k).toArray⟩ : ByteArray) = s.extract 0 k from bl_inj (by rw [bl_mk, bl_to])] at hy
        have hnext : cuts (bl s) (k + 1) = cuts (bl s) k ++ [(bl s).take k] := cuts_yes _ _ (by rw [HAT.out, h47])
        have HN := Lib.hid hnext
        clear hnext hlen hJ
        gi_wp2
        refine hR.mono ?_
        rintro e W3 (⟨rfl, hJ3, hk3⟩ | ⟨rfl, hJx3⟩)
        · have hc3 := (hk3.cell (p := ⟨Bs, 0, none⟩) hBs hBw).trans hcr
          gi_wp2
          go_roundw
          case rel => exact ⟨k + 1, hk2, by go_num, by rw [HN.out]; exact hJ3, hc3⟩
          case measure => simp [intOf]; omega
        · gi_wp2
          refine bodyPost_ret (results_none rfl _ _ _) rfl ?_
          exact ⟨⟨_, rfl⟩, .inr ⟨_, by rw [← HN.out]; exact cuts_prefix _ _ (by rw [bl_len]; omega), hJx3⟩⟩
      · have hnext : cuts (bl s) (k + 1) = cuts (bl s) k := cuts_no _ _ (by rw [HAT.out]; simpa using h47)
        have HN := Lib.hid hnext
        clear hnext
        have h47' : ((s[k].toNat : Int) == 47) = false := by
          rw [beq_eq_false_iff_ne]; intro e; exact h47 (UInt8.toNat_inj.1 (by simpa using Int.ofNat.inj e))
        gi_wp2
        refine ⟨fun _ hf => (by cases hf), ?_⟩
        gi_wp2
        go_roundw
        case rel => exact ⟨k + 1, hk2, by go_num, by rw [HN.out]; exact hJ, hcr⟩
        case measure => simp [intOf]; omega
    · obtain rfl : k = s.size := by omega
      gi_wp2
      go_end0
      exact ⟨⟨_, rfl⟩, .inl ⟨_, rfl, by rw [← cuts_all, bl_len]; exact hJ⟩⟩
/-- Texts that are not too long. -/
abbrev Sm := { x : Sp.Str // x.length < 1000000 }
/-- .. as the loops over it take it. -/
theorem folders_stops (F : Fence) (n : Nat) (h : F.fn 216) (hro : F.round = none) (hn : 1 ≤ n) (Bs n₀ wb : Nat) (s : ByteArray) (hs : s.size < 1000000) (w : World) (hBs : Bs < n₀) (hBw : Bs ≠ wb) (hw : n₀ ≤ w.heap.size) (hc : w.cell? ⟨Bs, 0, none⟩ = some (.string s)) :
    SeqStopsK F n Tryz.prog 216 #[.pointer (some ⟨Bs, 0, none⟩)] (fun x : Sm => #[Value.string ⟨x.1.toArray⟩]) (FrN n₀ wb) (fun ys => ys.map (·.1) = Sp.folders (bl s)) (fun pre => pre.map (·.1) <+: Sp.folders (bl s)) (bl s).length w := by
  intro l J Jx W hW _ _ hY h0
  refine (folders_in F n h hro hn l Bs n₀ wb s hs hBs hBw (fun ys W => ∃ zs : List Sm, zs.map (·.1) = ys ∧ J zs W) (fun ys W => ∃ zs : List Sm, zs.map (·.1) = ys ∧ Jx zs W) ?_ W ((hW.cell (p := ⟨Bs, 0, none⟩) (by show Bs < w.heap.size; omega)).trans hc) ⟨[], rfl, h0⟩).mono ?_
  · rintro pre x W1 ⟨zs, rfl, hJ⟩ hlen hx
    have hx' : x.length < 1000000 := by rw [bl_len] at hx; omega
    refine (hY zs ⟨x, hx'⟩ W1 hJ (by simpa using hlen)).mono ?_
    rintro e W' (⟨h1, h2, h3⟩ | ⟨h1, h2⟩)
    · exact .inl ⟨h1, ⟨zs ++ [⟨x, hx'⟩], by simp, h2⟩, h3⟩
    · exact .inr ⟨h1, ⟨zs ++ [⟨x, hx'⟩], by simp, h2⟩⟩
  · rintro e W' ⟨h1, (⟨ys, h2, zs, rfl, h3⟩ | ⟨pre, h2, zs, rfl, h3⟩)⟩
    · exact ⟨h1, .inl ⟨zs, h2, h3⟩⟩
    · exact ⟨h1, .inr ⟨zs, h2, h3⟩⟩
end Go.Proofs.YtfphcecjhdkcoaaGreatDoor
/-
Maps that count texts, in memory.
-/
namespace Go.Proofs.YtfphcecjhdkcoaaGreatDoor
open Go.RowKit Go.Maps
theorem keyed9 : Keyed Tryz.prog 9 := string_keyed Tryz.underlying9
theorem keyOf9 (s : Sp.Str) (hs : s.length ≤ maxLen) : keyOf Tryz.prog 9 (.string ⟨s.toArray⟩) = some (.string s) := by
  have h : (⟨s.toArray⟩ : ByteArray).size ≤ maxLen := by rw [← bl_len, bl_mk]; exact hs
  exact WideMaps.keyOf_string_mk Tryz.underlying9 h
theorem isKey9 (s : Sp.Str) (hs : s.length ≤ maxLen) : WideAt.IsKeyLit (.string s) := keyed9.key (keyOf9 s hs)
abbrev CntD := DataW Unit
/-- The datum D says how often each text stands in ps. -/
def Counts (D : CntD) (ps : List Sp.Str) : Prop :=
  Maps.IsMap D ∧ (∀ x : Sp.Str, D.atKey (.string x) (.lit (.int .i64 0)) = .lit (.int .i64 (ps.count x))) ∧ (∀ x : Sp.Str, Maps.has D (.string x) = ps.contains x)
/-- Block b is a map that counts ps. -/
def CountAt (w : World) (b : Nat) (ps : List Sp.Str) : Prop :=
  ∃ D : CntD, w.ownsMap Tryz.prog 9 (plainElem Tryz.prog 3) b ps.length D ∧ Counts D ps
theorem CountAt.made (w : World) : CountAt (w.alloc (.map #[] 0)) w.heap.size [] :=
  ⟨.map [], World.ownsMap_made w Tryz.prog 9 _, Maps.isMap_empty, fun _ => rfl, fun _ => rfl⟩
theorem Counts.put {D : CntD} {ps : List Sp.Str} (h : Counts D ps) (x : Sp.Str) (hx : x.length ≤ maxLen) : Counts (D.put (.string x) (.lit (.int .i64 ((ps.count x : Int) + 1)))) (ps ++ [x]) := by
  obtain ⟨h1, h2, h3⟩ := h
  refine ⟨h1.put _ _, fun y => ?_, fun y => ?_⟩
  · by_cases e : y = x
    · subst e
      rw [Maps.atKey_put_same h1 (isKey9 y hx), List.count_append]
      simp
    · rw [Maps.atKey_put_other (fun h => e (by cases h; rfl)), h2, List.count_append]
      have : [x].count y = 0 := by rw [List.count_eq_zero]; simpa using e
      rw [this]; rfl
  · by_cases e : y = x
    · subst e
      rw [Maps.has_put_same h1 (isKey9 y hx)]; simp
    · rw [Maps.has_put_other (fun h => e (by cases h; rfl)), h3]
      simp [e]
theorem Counts.get {D : CntD} {ps : List Sp.Str} (h : Counts D ps) (x : Sp.Str) {c : Int} (hc : D.atKey (.string x) (.lit (.int .i64 0)) = .lit (.int .i64 c)) : c = (ps.count x : Int) := by
  rw [h.2.1 x] at hc
  injection hc with hc
  injection hc with _ hc
  exact hc.symm
theorem CountAt.kept {w w' : World} {b : Nat} {ps : List Sp.Str} {row : Option Nat} (h : CountAt w b ps) (hg : w.grownBy w' row) (hne : some b ≠ row) : CountAt w' b ps := by
  obtain ⟨D, h1, h2⟩ := h; exact ⟨D, h1.kept hg hne, h2⟩
theorem CountAt.block {w w' : World} {b : Nat} {ps : List Sp.Str} (h : CountAt w b ps) (hb : w'.heap[b]? = w.heap[b]?) : CountAt w' b ps := by
  obtain ⟨D, ⟨es, clock, h1, r⟩, h2⟩ := h; exact ⟨D, ⟨es, clock, by rw [hb]; exact h1, r⟩, h2⟩
theorem CountAt.lt {w : World} {b : Nat} {ps : List Sp.Str} (h : CountAt w b ps) : b < w.heap.size := by
  obtain ⟨D, h1, h2⟩ := h; exact h1.lt
theorem run_cnt {w : World} {b : Nat} {ps : List Sp.Str} (h : CountAt w b ps) (x : Sp.Str) (hx : x.length ≤ maxLen) : (Instr.lookup 269 (.map (some b)) (.string ⟨x.toArray⟩) false).run Tryz.prog w = .ok (.int .i64 (ps.count x)) w := by
  obtain ⟨D, h1, h2⟩ := h
  obtain ⟨c, hrun, hat, _⟩ := h1.lookup_int keyed9 Tryz.underlying269 Tryz.underlying3 (Tryz.zeroValue3 _) (keyOf9 x hx)
  rw [hrun, h2.get x hat]
section
variable (w : World) {ops : Array Oper} {rest : List Oper} {o : Oper} {a : Act} {Q : Exit → Act → World → Prop}
theorem wp_cnt_get (hg : o.guard = none) (m x : Operand) (hop : o.op = Op.lookup 269 m x false) (b : Nat) (ps : List Sp.Str) (hm : a.eval m = .map (some b)) (h : CountAt w b ps) (s : Sp.Str) (hs : s.length ≤ maxLen) (hx : a.eval x = .string ⟨s.toArray⟩)
    (K : wpList Tryz.prog ops Q rest (a.put o.dst (.int .i64 (ps.count s))) w) : wpList Tryz.prog ops Q (o :: rest) a w := by
  obtain ⟨D, h1, h2⟩ := h
  refine wpList_lookup_own_int w hg m x 269 hop 9 3 .i64 keyed9 Tryz.underlying269 Tryz.underlying3 (Tryz.zeroValue3 _) b _ D hm h1 _ _ hx (keyOf9 s hs) fun c hat _ => ?_
  rw [h2.get s hat]; exact K
theorem wp_cnt_put (hg : o.guard = none) (m x v : Operand) (hop : o.op = Op.mapUpdate 269 m x v) (b : Nat) (ps : List Sp.Str) (hm : a.eval m = .map (some b)) (h : CountAt w b ps) (hn : ps.length < 1000000000) (s : Sp.Str) (hs : s.length ≤ maxLen) (hx : a.eval x = .string ⟨s.toArray⟩)
    (hv : a.eval v = .int .i64 ((ps.count s : Int) + 1))
    (K : ∀ w', CountAt w' b (ps ++ [s]) → w.grownBy w' (some b) → wpList Tryz.prog ops Q rest (a.put o.dst undef) w') : wpList Tryz.prog ops Q (o :: rest) a w := by
  obtain ⟨D, h1, h2⟩ := h
  have hc : ps.count s ≤ ps.length := List.count_le_length
  refine wpList_mapUpdate_own w hg m x v 269 hop 9 3 keyed9 Tryz.underlying269 _ b _ D hm h1 (by unfold maxLen; omega) _ _ _ hx hv (keyOf9 s hs) _ [] (plainElem_int Tryz.underlying3 (WalkArith.wf_i64 (by omega))) fun w' h3 h4 => K w' ⟨_, ?_, h2.put s hs⟩ h4
  rw [List.length_append]; exact h3
variable {F : Fence} {nF : Nat}
theorem wpIn_cnt_get (hg : o.guard = none) (m x : Operand) (hop : o.op = Op.lookup 269 m x false) (b : Nat) (ps : List Sp.Str) (hm : a.eval m = .map (some b)) (h : CountAt w b ps) (s : Sp.Str) (hs : s.length ≤ maxLen) (hx : a.eval x = .string ⟨s.toArray⟩)
    (K : wpListIn F nF Tryz.prog ops Q rest (a.put o.dst (.int .i64 (ps.count s))) w) : wpListIn F nF Tryz.prog ops Q (o :: rest) a w := by
  obtain ⟨D, h1, h2⟩ := h
  refine wpListIn_lookup_own_int w hg m x 269 hop 9 3 .i64 keyed9 Tryz.underlying269 Tryz.underlying3 (Tryz.zeroValue3 _) b _ D hm h1 _ _ hx (keyOf9 s hs) fun c hat _ => ?_
  rw [h2.get s hat]; exact K
theorem wpIn_cnt_put (hg : o.guard = none) (m x v : Operand) (hop : o.op = Op.mapUpdate 269 m x v) (b : Nat) (ps : List Sp.Str) (hm : a.eval m = .map (some b)) (h : CountAt w b ps) (hn : ps.length < 1000000000) (s : Sp.Str) (hs : s.length ≤ maxLen) (hx : a.eval x = .string ⟨s.toArray⟩)
    (hv : a.eval v = .int .i64 ((ps.count s : Int) + 1))
    (K : ∀ w', CountAt w' b (ps ++ [s]) → w.grownBy w' (some b) → wpListIn F nF Tryz.prog ops Q rest (a.put o.dst undef) w') : wpListIn F nF Tryz.prog ops Q (o :: rest) a w := by
  obtain ⟨D, h1, h2⟩ := h
  have hc : ps.count s ≤ ps.length := List.count_le_length
  refine wpListIn_mapUpdate_own w hg m x v 269 hop 9 3 keyed9 Tryz.underlying269 _ b _ D hm h1 (by unfold maxLen; omega) _ _ _ hx hv (keyOf9 s hs) _ [] (plainElem_int Tryz.underlying3 (WalkArith.wf_i64 (by omega))) fun w' h3 h4 => K w' ⟨_, ?_, h2.put s hs⟩ h4
  rw [List.length_append]; exact h3
end
/-- What is struck off the paths: those that belong to one alone, and are no folder. -/
def struck (within : List Sp.Str) (k : Lit) (d : CntD) : Bool :=
  match k, d with
  | .string x, .lit (.int _ n) => decide (n < 2) && within.count x == 0
  | _, _ => false
theorem struck_eq (within : List Sp.Str) (x : Sp.Str) (n : Int) : struck within (.string x) (.lit (.int .i64 n)) = (decide (n < 2) && within.count x == 0) := rfl
theorem closure_any (x : Sp.Str) (n : Int) (bx wb : Nat) (within : List Sp.Str) (w : World) (hx : x.length ≤ maxLen) (hc : w.cell? ⟨bx, 0, none⟩ = some (.map (some wb))) (hw : CountAt w wb within) :
    Calls Tryz.prog 170 #[.string ⟨x.toArray⟩, .int .i64 n, .pointer (some ⟨bx, 0, none⟩)] w fun e w' => e = .returned (.bool (struck within (.string x) (.lit (.int .i64 n)))) ∧ w = w' := by
  have hrun := run_cnt hw x hx
  generalize hk : within.count x = k at hrun
  have HK := Lib.hid (struck_eq within x n)
  rw [hk] at HK
  have HK2 := Lib.hid hk
  clear hw hk
  by_cases hn : n < 2
  · go_enter Tryz.func170, Tryz.ntmps170
    go_wp2
    go_ret
    exact ⟨ret_bool (by rw [HK.out, decide_eq_true hn, Bool.true_and, Bool.eq_iff_iff]; simp), rfl⟩
  · go_enter Tryz.func170, Tryz.ntmps170
    go_wp2
    go_ret
    exact ⟨ret_bool (by rw [HK.out, decide_eq_false (by omega), Bool.false_and]), rfl⟩
end Go.Proofs.YtfphcecjhdkcoaaGreatDoor
/-
The library's functions on maps that count texts: the keys in order; what is deleted.
-/
namespace Go.Proofs
open Go.RowKit Go.Maps Go.Sort Go.Shelf
def Tryz.keysI_ren : Go.Shelf.Ren := ⟨fun | 7 => 171 | 10 => 217 | n => n, fun | 23 => 269 | 26 => 9 | 3 => 3 | 28 => 218 | 0 => 0 | 27 => 217 | 33 => 36 | 4 => 4 | n => n, fun | n => n⟩
theorem Tryz.keysI : Go.Proofs.SlLaysZ.n7 Tryz.prog Tryz.keysI_ren := {
  mixed := by kernel_rfl
  f7 := ⟨Tryz.f171.name, by decide, Tryz.func171.trans (congrArg some (by kernel_rfl))⟩
  f10 := ⟨Tryz.f217.name, by decide, Tryz.func217.trans (congrArg some (by kernel_rfl))⟩
  t0 := Tryz.underlying0
  a0 := Tryz.isAgg0
  z0 := Tryz.sizeOf0
  v0 := Tryz.zeroValue0
  t4 := Tryz.underlying4
  a4 := Tryz.isAgg4
  z4 := Tryz.sizeOf4
  v4 := Tryz.zeroValue4
  t23 := Tryz.underlying269
  a23 := Tryz.isAgg269
  z23 := Tryz.sizeOf269
  v23 := Tryz.zeroValue269
  t26 := Tryz.underlying9
  a26 := Tryz.isAgg9
  z26 := Tryz.sizeOf9
  v26 := Tryz.zeroValue9
  t27 := Tryz.underlying217
  a27 := Tryz.isAgg217
  z27 := Tryz.sizeOf217
  v27 := Tryz.zeroValue217
  t28 := Tryz.underlying218
  a28 := Tryz.isAgg218
  z28 := Tryz.sizeOf218
  v28 := Tryz.zeroValue218
  t33 := Tryz.underlying36
  a33 := Tryz.isAgg36
  z33 := Tryz.sizeOf36
  v33 := Tryz.zeroValue36 }
def Tryz.keysP_ren : Go.Shelf.Ren := ⟨fun | 7 => 130 | 10 => 179 | n => n, fun | 23 => 140 | 26 => 9 | 3 => 118 | 28 => 218 | 0 => 0 | 27 => 217 | 33 => 36 | 4 => 4 | n => n, fun | n => n⟩
theorem Tryz.keysP : Go.Proofs.SlLaysZ.n7 Tryz.prog Tryz.keysP_ren := {
  mixed := by kernel_rfl
  f7 := ⟨Tryz.f130.name, by decide, Tryz.func130.trans (congrArg some (by kernel_rfl))⟩
  f10 := ⟨Tryz.f179.name, by decide, Tryz.func179.trans (congrArg some (by kernel_rfl))⟩
  t0 := Tryz.underlying0
  a0 := Tryz.isAgg0
  z0 := Tryz.sizeOf0
  v0 := Tryz.zeroValue0
  t4 := Tryz.underlying4
  a4 := Tryz.isAgg4
  z4 := Tryz.sizeOf4
  v4 := Tryz.zeroValue4
  t23 := Tryz.underlying140
  a23 := Tryz.isAgg140
  z23 := Tryz.sizeOf140
  v23 := Tryz.zeroValue140
  t26 := Tryz.underlying9
  a26 := Tryz.isAgg9
  z26 := Tryz.sizeOf9
  v26 := Tryz.zeroValue9
  t27 := Tryz.underlying217
  a27 := Tryz.isAgg217
  z27 := Tryz.sizeOf217
  v27 := Tryz.zeroValue217
  t28 := Tryz.underlying218
  a28 := Tryz.isAgg218
  z28 := Tryz.sizeOf218
  v28 := Tryz.zeroValue218
  t33 := Tryz.underlying36
  a33 := Tryz.isAgg36
  z33 := Tryz.sizeOf36
  v33 := Tryz.zeroValue36 }
def Tryz.keysQ_ren : Go.Shelf.Ren := ⟨fun | 7 => 173 | 10 => 218 | n => n, fun | 23 => 274 | 26 => 9 | 3 => 140 | 28 => 218 | 0 => 0 | 27 => 217 | 33 => 36 | 4 => 4 | n => n, fun | n => n⟩
theorem Tryz.keysQ : Go.Proofs.SlLaysZ.n7 Tryz.prog Tryz.keysQ_ren := {
  mixed := by kernel_rfl
  f7 := ⟨Tryz.f173.name, by decide, Tryz.func173.trans (congrArg some (by kernel_rfl))⟩
  f10 := ⟨Tryz.f218.name, by decide, Tryz.func218.trans (congrArg some (by kernel_rfl))⟩
  t0 := Tryz.underlying0
  a0 := Tryz.isAgg0
  z0 := Tryz.sizeOf0
  v0 := Tryz.zeroValue0
  t4 := Tryz.underlying4
  a4 := Tryz.isAgg4
  z4 := Tryz.sizeOf4
  v4 := Tryz.zeroValue4
  t23 := Tryz.underlying274
  a23 := Tryz.isAgg274
  z23 := Tryz.sizeOf274
  v23 := Tryz.zeroValue274
  t26 := Tryz.underlying9
  a26 := Tryz.isAgg9
  z26 := Tryz.sizeOf9
  v26 := Tryz.zeroValue9
  t27 := Tryz.underlying217
  a27 := Tryz.isAgg217
  z27 := Tryz.sizeOf217
  v27 := Tryz.zeroValue217
  t28 := Tryz.underlying218
  a28 := Tryz.isAgg218
  z28 := Tryz.sizeOf218
  v28 := Tryz.zeroValue218
  t33 := Tryz.underlying36
  a33 := Tryz.isAgg36
  z33 := Tryz.sizeOf36
  v33 := Tryz.zeroValue36 }
def Tryz.sortedI_ren : Go.Shelf.Ren := ⟨fun | 6 => 129 | 8 => 177 | 9 => 178 | 11 => 220 | 13 => 161 | 12 => 221 | 23 => 207 | 24 => 208 | 14 => 241 | 15 => 242 | 16 => 243 | 17 => 244 | 18 => 245 | 19 => 246 | 20 => 247 | 21 => 248 | 22 => 249 | 25 => 264 | 26 => 234 | 27 => 235 | 28 => 265 | 29 => 266 | 30 => 139 | 31 => 275 | n => n, fun | 26 => 9 | 28 => 218 | 24 => 38 | 0 => 0 | 3 => 3 | 37 => 248 | 48 => 301 | 50 => 145 | 4 => 4 | 40 => 294 | 39 => 293 | 45 => 298 | 5 => 5 | 9 => 9 | 51 => 327 | 55 => 331 | 57 => 349 | 58 => 313 | 33 => 36 | n => n, fun | n => n⟩
theorem Tryz.sortedI : Go.Proofs.SlLaysZ.n6 Tryz.prog Tryz.sortedI_ren := {
  mixed := by kernel_rfl
  f6 := ⟨Tryz.f129.name, by decide, Tryz.func129.trans (congrArg some (by kernel_rfl))⟩
  f8 := ⟨Tryz.f177.name, by decide, Tryz.func177.trans (congrArg some (by kernel_rfl))⟩
  f11 := ⟨Tryz.f220.name, by decide, Tryz.func220.trans (congrArg some (by kernel_rfl))⟩
  t0 := Tryz.underlying0
  a0 := Tryz.isAgg0
  z0 := Tryz.sizeOf0
  v0 := Tryz.zeroValue0
  t24 := Tryz.underlying38
  a24 := Tryz.isAgg38
  z24 := Tryz.sizeOf38
  v24 := Tryz.zeroValue38
  t26 := Tryz.underlying9
  a26 := Tryz.isAgg9
  z26 := Tryz.sizeOf9
  v26 := Tryz.zeroValue9
  t28 := Tryz.underlying218
  a28 := Tryz.isAgg218
  z28 := Tryz.sizeOf218
  v28 := Tryz.zeroValue218
  i26 := by kernel_rfl }
def Tryz.sortI_ren : Go.Shelf.Ren := ⟨fun | 6 => 178 | 8 => 161 | 9 => 221 | 19 => 207 | 20 => 208 | 21 => 241 | 22 => 242 | 23 => 243 | 24 => 244 | 25 => 245 | 26 => 246 | 27 => 247 | 28 => 248 | 29 => 249 | 36 => 264 | 31 => 234 | 32 => 235 | 37 => 265 | 38 => 266 | 39 => 139 | 41 => 275 | n => n, fun | 27 => 38 | 29 => 9 | 3 => 3 | 32 => 248 | 26 => 38 | 0 => 0 | 44 => 301 | 46 => 145 | 4 => 4 | 36 => 294 | 35 => 293 | 41 => 298 | 5 => 5 | 9 => 9 | 53 => 327 | 57 => 331 | 63 => 349 | 64 => 313 | n => n, fun | n => n⟩
theorem Tryz.sortI : Go.Proofs.SlLaysM.n6 Tryz.prog Tryz.sortI_ren := {
  mixed := by kernel_rfl
  f6 := ⟨Tryz.f178.name, by decide, Tryz.func178.trans (congrArg some (by kernel_rfl))⟩
  f8 := Tryz.func161.trans (congrArg some (by kernel_rfl))
  f9 := ⟨Tryz.f221.name, by decide, Tryz.func221.trans (congrArg some (by kernel_rfl))⟩
  f19 := Tryz.func207.trans (congrArg some (by kernel_rfl))
  f20 := Tryz.func208.trans (congrArg some (by kernel_rfl))
  f21 := ⟨Tryz.f241.name, by decide, Tryz.func241.trans (congrArg some (by kernel_rfl))⟩
  f22 := ⟨Tryz.f242.name, by decide, Tryz.func242.trans (congrArg some (by kernel_rfl))⟩
  f23 := ⟨Tryz.f243.name, by decide, Tryz.func243.trans (congrArg some (by kernel_rfl))⟩
  f24 := ⟨Tryz.f244.name, by decide, Tryz.func244.trans (congrArg some (by kernel_rfl))⟩
  f25 := ⟨Tryz.f245.name, by decide, Tryz.func245.trans (congrArg some (by kernel_rfl))⟩
  f26 := ⟨Tryz.f246.name, by decide, Tryz.func246.trans (congrArg some (by kernel_rfl))⟩
  f27 := ⟨Tryz.f247.name, by decide, Tryz.func247.trans (congrArg some (by kernel_rfl))⟩
  f28 := ⟨Tryz.f248.name, by decide, Tryz.func248.trans (congrArg some (by kernel_rfl))⟩
  f29 := ⟨Tryz.f249.name, by decide, Tryz.func249.trans (congrArg some (by kernel_rfl))⟩
  f31 := Tryz.func234.trans (congrArg some (by kernel_rfl))
  f32 := Tryz.func235.trans (congrArg some (by kernel_rfl))
  f36 := ⟨Tryz.f264.name, by decide, Tryz.func264.trans (congrArg some (by kernel_rfl))⟩
  f37 := ⟨Tryz.f265.name, by decide, Tryz.func265.trans (congrArg some (by kernel_rfl))⟩
  f38 := ⟨Tryz.f266.name, by decide, Tryz.func266.trans (congrArg some (by kernel_rfl))⟩
  f39 := ⟨Tryz.f139.name, by decide, Tryz.func139.trans (congrArg some (by kernel_rfl))⟩
  f41 := ⟨Tryz.f275.name, by decide, Tryz.func275.trans (congrArg some (by kernel_rfl))⟩
  t0 := Tryz.underlying0
  a0 := Tryz.isAgg0
  z0 := Tryz.sizeOf0
  v0 := Tryz.zeroValue0
  t3 := Tryz.underlying3
  a3 := Tryz.isAgg3
  z3 := Tryz.sizeOf3
  v3 := Tryz.zeroValue3
  t4 := Tryz.underlying4
  a4 := Tryz.isAgg4
  z4 := Tryz.sizeOf4
  v4 := Tryz.zeroValue4
  t5 := Tryz.underlying5
  a5 := Tryz.isAgg5
  z5 := Tryz.sizeOf5
  v5 := Tryz.zeroValue5
  t9 := Tryz.underlying9
  a9 := Tryz.isAgg9
  z9 := Tryz.sizeOf9
  v9 := Tryz.zeroValue9
  t26 := Tryz.underlying38
  a26 := Tryz.isAgg38
  z26 := Tryz.sizeOf38
  v26 := Tryz.zeroValue38
  t27 := Tryz.underlying38
  a27 := Tryz.isAgg38
  z27 := Tryz.sizeOf38
  v27 := Tryz.zeroValue38
  t29 := Tryz.underlying9
  a29 := Tryz.isAgg9
  z29 := Tryz.sizeOf9
  v29 := Tryz.zeroValue9
  t32 := Tryz.underlying248
  a32 := Tryz.isAgg248
  z32 := Tryz.sizeOf248
  v32 := Tryz.zeroValue248
  t35 := Tryz.underlying293
  a35 := Tryz.isAgg293
  z35 := Tryz.sizeOf293
  v35 := Tryz.zeroValue293
  t36 := Tryz.underlying294
  a36 := Tryz.isAgg294
  z36 := Tryz.sizeOf294
  v36 := Tryz.zeroValue294
  t41 := Tryz.underlying298
  a41 := Tryz.isAgg298
  z41 := Tryz.sizeOf298
  v41 := Tryz.zeroValue298
  t44 := Tryz.underlying301
  a44 := Tryz.isAgg301
  z44 := Tryz.sizeOf301
  v44 := Tryz.zeroValue301
  t46 := Tryz.underlying145
  a46 := Tryz.isAgg145
  z46 := Tryz.sizeOf145
  v46 := Tryz.zeroValue145
  t53 := Tryz.underlying327
  a53 := Tryz.isAgg327
  z53 := Tryz.sizeOf327
  v53 := Tryz.zeroValue327
  t57 := Tryz.underlying331
  a57 := Tryz.isAgg331
  z57 := Tryz.sizeOf331
  v57 := Tryz.zeroValue331
  t63 := Tryz.underlying349
  a63 := Tryz.isAgg349
  z63 := Tryz.sizeOf349
  v63 := Tryz.zeroValue349
  t64 := Tryz.underlying313
  a64 := Tryz.isAgg313
  z64 := Tryz.sizeOf313
  v64 := Tryz.zeroValue313 }
def Tryz.delI_ren : Go.Shelf.Ren := ⟨fun | 5 => 169 | n => n, fun | 23 => 269 | 26 => 9 | 24 => 3 | 27 => 272 | 0 => 0 | 4 => 4 | n => n, fun | n => n⟩
theorem Tryz.delI : Go.Proofs.SlLaysDf.n5 Tryz.prog Tryz.delI_ren := {
  mixed := by kernel_rfl
  f5 := ⟨Tryz.f169.name, by decide, Tryz.func169.trans (congrArg some (by kernel_rfl))⟩
  t0 := Tryz.underlying0
  a0 := Tryz.isAgg0
  z0 := Tryz.sizeOf0
  v0 := Tryz.zeroValue0
  t4 := Tryz.underlying4
  a4 := Tryz.isAgg4
  z4 := Tryz.sizeOf4
  v4 := Tryz.zeroValue4
  t23 := Tryz.underlying269
  a23 := Tryz.isAgg269
  z23 := Tryz.sizeOf269
  v23 := Tryz.zeroValue269
  a24 := Tryz.isAgg3
  z24 := Tryz.sizeOf3
  a26 := Tryz.isAgg9
  z26 := Tryz.sizeOf9
  t27 := Tryz.underlying272
  a27 := Tryz.isAgg272
  z27 := Tryz.sizeOf272
  v27 := Tryz.zeroValue272 }
end Go.Proofs
namespace Go.Proofs.YtfphcecjhdkcoaaGreatDoor
open Go.RowKit Go.Maps Go.Sort Go.Shelf
theorem sorts_any (m : Nat) : AnyZ.SortsIn Tryz.prog Tryz.sortedI_ren Fence.wide m :=
  ⟨fun blk off cap ss W hH hblk hsz => callsIn_wide.2 (AnyM.slices_Sort_string Tryz.sortI blk off cap ss W hH hblk hsz),
   fun p cap W => callsIn_wide.2 (AnyM.slices_Sort_string_none Tryz.sortI p cap W)⟩
theorem keysI_any (mb : Option Nat) (w : World) : Calls Tryz.prog 171 #[.map mb] w fun e w' => e = .returned (.func (.func 217) #[] #[.pointer (some ⟨w.heap.size, 0, none⟩)]) ∧ w' = w.alloc (.cells #[.map mb] 269) :=
  (callsIn_wide (n := 5)).1 (AnyZ.keys_in Tryz.keysI Fence.wide 5 trivial rfl mb w)
/-- The keys of a map, in order, as slices.Sorted takes them from the iterator that maps.Keys has made. -/
theorem sortedI_any {H : Type} (b nn : Nat) (D0 : DataW H) (R : Value → Option (DataW H × List MemPlace)) (w : World) (hown : w.ownsMap Tryz.prog 9 R b nn D0) (hmax : Maps.size D0 < 1000000000) :
    Calls Tryz.prog 129 #[.func (.func 217) #[] #[.pointer (some ⟨w.heap.size, 0, none⟩)]] (w.alloc (.cells #[.map (some b)] 269)) fun e w' => ∃ (v : Value) (ss : List (List UInt8)), e = .returned v ∧ ss.Perm (strKeys D0) ∧
      w'.ownsRow (w.alloc (.cells #[.map (some b)] 269)).heap.size 9 1 v ss.length ((ss.mergeSort (fun x y => decide (x ≤ y))).map encStr) ∧ (v = .slice none 0 0 ↔ ss = []) ∧ Below w.heap.size w w' := by
  refine (callsIn_wide (n := 5)).1 ?_
  have hbl := hown.lt
  have hseq : SeqGives Fence.wide 2 Tryz.prog 217 #[.pointer (some ⟨w.heap.size, 0, none⟩)] encStr (fun ss => ss.Perm (strKeys D0)) (Maps.size D0) (w.alloc (.cells #[.map (some b)] 269)) :=
    AnyZ.keys_gives (ρ := Tryz.keysI_ren) { Tryz.keysI with } Fence.wide _ trivial rfl (by omega) w.heap.size b nn D0 _ (by simp) (by simp) (by
      obtain ⟨es, clock, hb, Ft, hs, hD⟩ := hown
      exact ⟨es, clock, (Below.heap_alloc _ _ b hbl).trans hb, Ft, hs, hD⟩)
  have cS := AnyZ.sorted_in Tryz.sortedI Fence.wide 5 trivial trivial trivial trivial rfl (by omega) (sorts_any _) (enters_of Tryz.func178 (by kernel_rfl) rfl) 217 #[.pointer (some ⟨w.heap.size, 0, none⟩)] trivial (enters_of Tryz.func217 (by kernel_rfl) rfl) _ _ (by unfold maxLen; omega) (by omega) _ hseq
  change CallsIn _ _ Tryz.prog 129 _ _ _ at cS
  refine cS.mono ?_
  rintro e w' ⟨v, ss, rfl, hS, hrow, hnil, hb⟩
  exact ⟨v, ss, rfl, hS, hrow, hnil, ((Below.refl _ w).alloc (Nat.le_refl _) _).trans (hb.mono (by simp))⟩
end Go.Proofs.YtfphcecjhdkcoaaGreatDoor
/-
  DERIVED: THE SHELF's CONTRACTS AT THIS DUMP, IN PLAIN WORDS (tools/lay-plain.mjs out of 'TryzShelf.lean', which tools/lay-shelf.mjs wrote): THE SAME DECLARATIONS UNDER THE SAME NAMES: 'import', 'namespace', 'open', 'def', 'theorem' AND NOTHING ELSE: no command of the shelf's: FOR A HAND-IN. Each laying: the table of numbers ('.._ren') and one theorem, a field a fact of the dump's own or the kernel's comparison; each contract: ONE APPLICATION.
-/
namespace Go.Proofs
open Go.Shelf
def Tryz.lays158_ren : Go.Shelf.Ren := ⟨fun | 158 => 194 | 165 => 210 | 166 => 211 | 167 => 229 | 169 => 212 | 230 => 230 | 203 => 231 | 240 => 238 | 241 => 239 | 197 => 183 | 118 => 257 | 168 => 258 | 270 => 259 | 262 => 260 | 276 => 262 | 277 => 263 | 260 => 223 | 242 => 273 | 313 => 274 | 278 => 276 | 274 => 277 | 275 => 278 | n => n, fun | 9 => 9 | 4 => 4 | 3 => 3 | 5 => 5 | 72 => 305 | 0 => 0 | 76 => 306 | 75 => 81 | 107 => 325 | 70 => 303 | 20 => 20 | 37 => 136 | 127 => 333 | 21 => 21 | 105 => 283 | 164 => 190 | 162 => 360 | 203 => 358 | 119 => 341 | 46 => 248 | 139 => 344 | 138 => 343 | 51 => 301 | 160 => 362 | 208 => 368 | 206 => 366 | 80 => 125 | n => n, fun | 13 => 5 | 3 => 3 | 4 => 4 | n => n⟩
theorem Tryz.lays158 : Go.Proofs.Lays.n158 Tryz.prog Tryz.lays158_ren := {
  mixed := by kernel_rfl
  f118 := Tryz.func257.trans (congrArg some (by kernel_rfl))
  f158 := Tryz.func194.trans (congrArg some (by kernel_rfl))
  f165 := Tryz.func210.trans (congrArg some (by kernel_rfl))
  f166 := Tryz.func211.trans (congrArg some (by kernel_rfl))
  f167 := Tryz.func229.trans (congrArg some (by kernel_rfl))
  f168 := Tryz.func258.trans (congrArg some (by kernel_rfl))
  f169 := Tryz.func212.trans (congrArg some (by kernel_rfl))
  f197 := Tryz.func183.trans (congrArg some (by kernel_rfl))
  f203 := Tryz.func231.trans (congrArg some (by kernel_rfl))
  f230 := Tryz.func230.trans (congrArg some (by kernel_rfl))
  f240 := Tryz.func238.trans (congrArg some (by kernel_rfl))
  f241 := Tryz.func239.trans (congrArg some (by kernel_rfl))
  f242 := Tryz.func273.trans (congrArg some (by kernel_rfl))
  f260 := Tryz.func223.trans (congrArg some (by kernel_rfl))
  f262 := Tryz.func260.trans (congrArg some (by kernel_rfl))
  f270 := Tryz.func259.trans (congrArg some (by kernel_rfl))
  f274 := Tryz.func277.trans (congrArg some (by kernel_rfl))
  f275 := Tryz.func278.trans (congrArg some (by kernel_rfl))
  f276 := Tryz.func262.trans (congrArg some (by kernel_rfl))
  f277 := Tryz.func263.trans (congrArg some (by kernel_rfl))
  f278 := Tryz.func276.trans (congrArg some (by kernel_rfl))
  f313 := Tryz.func274.trans (congrArg some (by kernel_rfl))
  t0 := Tryz.underlying0
  a0 := Tryz.isAgg0
  z0 := Tryz.sizeOf0
  v0 := Tryz.zeroValue0
  t3 := Tryz.underlying3
  a3 := Tryz.isAgg3
  z3 := Tryz.sizeOf3
  v3 := Tryz.zeroValue3
  t4 := Tryz.underlying4
  a4 := Tryz.isAgg4
  z4 := Tryz.sizeOf4
  v4 := Tryz.zeroValue4
  t5 := Tryz.underlying5
  a5 := Tryz.isAgg5
  z5 := Tryz.sizeOf5
  v5 := Tryz.zeroValue5
  t9 := Tryz.underlying9
  a9 := Tryz.isAgg9
  z9 := Tryz.sizeOf9
  v9 := Tryz.zeroValue9
  t20 := Tryz.underlying20
  a20 := Tryz.isAgg20
  z20 := Tryz.sizeOf20
  v20 := Tryz.zeroValue20
  t21 := Tryz.underlying21
  a21 := Tryz.isAgg21
  z21 := Tryz.sizeOf21
  v21 := Tryz.zeroValue21
  t37 := Tryz.underlying136
  a37 := Tryz.isAgg136
  z37 := Tryz.sizeOf136
  v37 := Tryz.zeroValue136
  t46 := Tryz.underlying248
  a46 := Tryz.isAgg248
  z46 := Tryz.sizeOf248
  v46 := Tryz.zeroValue248
  t51 := Tryz.underlying301
  a51 := Tryz.isAgg301
  z51 := Tryz.sizeOf301
  v51 := Tryz.zeroValue301
  t70 := Tryz.underlying303
  a70 := Tryz.isAgg303
  z70 := Tryz.sizeOf303
  v70 := Tryz.zeroValue303
  t72 := Tryz.underlying305
  a72 := Tryz.isAgg305
  z72 := Tryz.sizeOf305
  v72 := Tryz.zeroValue305
  t75 := Tryz.underlying81
  a75 := Tryz.isAgg81
  z75 := Tryz.sizeOf81
  v75 := Tryz.zeroValue81
  t76 := Tryz.underlying306
  a76 := Tryz.isAgg306
  z76 := Tryz.sizeOf306
  v76 := Tryz.zeroValue306
  t105 := Tryz.underlying283
  a105 := Tryz.isAgg283
  z105 := Tryz.sizeOf283
  v105 := Tryz.zeroValue283
  t107 := Tryz.underlying325
  a107 := Tryz.isAgg325
  z107 := Tryz.sizeOf325
  v107 := Tryz.zeroValue325
  t119 := Tryz.underlying341
  a119 := Tryz.isAgg341
  z119 := Tryz.sizeOf341
  t127 := Tryz.underlying333
  a127 := Tryz.isAgg333
  z127 := Tryz.sizeOf333
  v127 := Tryz.zeroValue333
  t138 := Tryz.underlying343
  a138 := Tryz.isAgg343
  z138 := Tryz.sizeOf343
  v138 := Tryz.zeroValue343
  t139 := Tryz.underlying344
  a139 := Tryz.isAgg344
  z139 := Tryz.sizeOf344
  v139 := Tryz.zeroValue344
  t160 := Tryz.underlying362
  a160 := Tryz.isAgg362
  z160 := Tryz.sizeOf362
  v160 := Tryz.zeroValue362
  t162 := Tryz.underlying360
  a162 := Tryz.isAgg360
  z162 := Tryz.sizeOf360
  v162 := Tryz.zeroValue360
  t164 := Tryz.underlying190
  a164 := Tryz.isAgg190
  z164 := Tryz.sizeOf190
  v164 := Tryz.zeroValue190
  t203 := Tryz.underlying358
  a203 := Tryz.isAgg358
  z203 := Tryz.sizeOf358
  v203 := Tryz.zeroValue358
  t206 := Tryz.underlying366
  a206 := Tryz.isAgg366
  z206 := Tryz.sizeOf366
  v206 := Tryz.zeroValue366
  t208 := Tryz.underlying368
  a208 := Tryz.isAgg368
  z208 := Tryz.sizeOf368
  v208 := Tryz.zeroValue368
  g3 := by kernel_rfl
  g4 := by kernel_rfl
  g13 := by kernel_rfl }
theorem Tryz.Builder_Extra_158 : Builder.Extra Tryz.prog Tryz.lays158_ren := {
  sizeBuilder := by kernel_rfl
  liesBuilder := by kernel_rfl
  t5 := Tryz.underlying5
  a5 := Tryz.isAgg5
  z5 := Tryz.sizeOf5
  v5 := Tryz.zeroValue5
  infoByte := by kernel_rfl
  cellsByte := by kernel_rfl
  sizeByte := by kernel_rfl
  neB5 := by decide }
open Go.RowKit in
/-- strings.ToUpper: "ToUpper returns s with all Unicode letters mapped to their upper case.": ON ASCII TEXT OF AT MOST 2^47 BYTES. Below the heap's end the world is as it was: where a letter turns, the call makes a builder and its buffer. (LAID: no walk: one application.) -/
theorem Tryz.strings_ToUpper_ascii (s : ByteArray) (w : World) (hs : s.size ≤ 140737488355328) (hascii : ∀ (j : Nat) (b : UInt8), s.data.toList[j]? = some b → b.toNat < 128) :
    Calls Tryz.prog 194 #[.string s] w fun e w' => e = .returned (.string ⟨(Lib.toUpperA s.data.toList).toArray⟩) ∧ Below w.heap.size w w' := Any.strings_ToUpper_ascii Tryz.lays158 Tryz.Builder_Extra_158 s w hs hascii
def Tryz.lays156_ren : Go.Shelf.Ren := ⟨fun | 156 => 163 | 165 => 210 | 166 => 211 | 169 => 212 | 240 => 238 | 241 => 239 | 276 => 262 | 277 => 263 | n => n, fun | 31 => 38 | 9 => 9 | 3 => 3 | 4 => 4 | 0 => 0 | 20 => 20 | 72 => 305 | 76 => 306 | 70 => 303 | 37 => 136 | 75 => 81 | 127 => 333 | 164 => 190 | 5 => 5 | 80 => 125 | n => n, fun | n => n⟩
theorem Tryz.lays156 : Go.Proofs.Lays.n156 Tryz.prog Tryz.lays156_ren := {
  mixed := by kernel_rfl
  f156 := Tryz.func163.trans (congrArg some (by kernel_rfl))
  f165 := Tryz.func210.trans (congrArg some (by kernel_rfl))
  f166 := Tryz.func211.trans (congrArg some (by kernel_rfl))
  f169 := Tryz.func212.trans (congrArg some (by kernel_rfl))
  f240 := Tryz.func238.trans (congrArg some (by kernel_rfl))
  f241 := Tryz.func239.trans (congrArg some (by kernel_rfl))
  f276 := Tryz.func262.trans (congrArg some (by kernel_rfl))
  f277 := Tryz.func263.trans (congrArg some (by kernel_rfl))
  t0 := Tryz.underlying0
  a0 := Tryz.isAgg0
  z0 := Tryz.sizeOf0
  v0 := Tryz.zeroValue0
  t3 := Tryz.underlying3
  a3 := Tryz.isAgg3
  z3 := Tryz.sizeOf3
  v3 := Tryz.zeroValue3
  t4 := Tryz.underlying4
  a4 := Tryz.isAgg4
  z4 := Tryz.sizeOf4
  v4 := Tryz.zeroValue4
  t9 := Tryz.underlying9
  a9 := Tryz.isAgg9
  z9 := Tryz.sizeOf9
  v9 := Tryz.zeroValue9
  t20 := Tryz.underlying20
  a20 := Tryz.isAgg20
  z20 := Tryz.sizeOf20
  v20 := Tryz.zeroValue20
  t31 := Tryz.underlying38
  a31 := Tryz.isAgg38
  z31 := Tryz.sizeOf38
  v31 := Tryz.zeroValue38
  t37 := Tryz.underlying136
  a37 := Tryz.isAgg136
  z37 := Tryz.sizeOf136
  v37 := Tryz.zeroValue136
  t70 := Tryz.underlying303
  a70 := Tryz.isAgg303
  z70 := Tryz.sizeOf303
  v70 := Tryz.zeroValue303
  t72 := Tryz.underlying305
  a72 := Tryz.isAgg305
  z72 := Tryz.sizeOf305
  v72 := Tryz.zeroValue305
  t75 := Tryz.underlying81
  a75 := Tryz.isAgg81
  z75 := Tryz.sizeOf81
  v75 := Tryz.zeroValue81
  t76 := Tryz.underlying306
  a76 := Tryz.isAgg306
  z76 := Tryz.sizeOf306
  v76 := Tryz.zeroValue306
  t127 := Tryz.underlying333
  a127 := Tryz.isAgg333
  z127 := Tryz.sizeOf333
  v127 := Tryz.zeroValue333
  t164 := Tryz.underlying190
  a164 := Tryz.isAgg190
  z164 := Tryz.sizeOf190
  v164 := Tryz.zeroValue190 }
theorem Tryz.Builder_Extra_156 : Builder.Extra Tryz.prog Tryz.lays156_ren := {
  sizeBuilder := by kernel_rfl
  liesBuilder := by kernel_rfl
  t5 := Tryz.underlying5
  a5 := Tryz.isAgg5
  z5 := Tryz.sizeOf5
  v5 := Tryz.zeroValue5
  infoByte := by kernel_rfl
  cellsByte := by kernel_rfl
  sizeByte := by kernel_rfl
  neB5 := by decide }
open Go.RowKit in
/-- No element: the empty string; the world is as it was. (Whatever the slice's address and capacity: a nil slice too.) (LAID: no walk: one application.) -/
theorem Tryz.strings_Join_none (a : Option Addr) (c : Nat) (sep : ByteArray) (w : World) :
    Calls Tryz.prog 163 #[.slice a 0 c, .string sep] w fun e w' => e = .returned (.string ⟨#[]⟩) ∧ w' = w := Any.strings_Join_none Tryz.lays156 Tryz.Builder_Extra_156 a c sep w
open Go.RowKit in
/-- strings.Join: "Join concatenates the elements of its first argument to create a single string. The separator string sep is placed between elements in the resulting string.": HOWEVER MANY ELEMENTS. Below the heap's end the world is as it was. (LAID: no walk: one application.) -/
theorem Tryz.strings_Join (bk o c : Nat) (xs : List ByteArray) (sep : ByteArray) (w : World) (hcells : ∀ (j : Nat) x, xs[j]? = some x → w.cell? ⟨bk, o + j, none⟩ = some (.string x)) (hbk : bk < w.heap.size) (hN : xs.length ≤ 140737488355328) (hcap : xs.length ≤ c) (hlen : (Lib.join (xs.map (·.data.toList)) sep.data.toList).length ≤ 140737488355328) :
    Calls Tryz.prog 163 #[.slice (some ⟨bk, o, none⟩) xs.length c, .string sep] w fun e w' => e = .returned (.string ⟨(Lib.join (xs.map (·.data.toList)) sep.data.toList).toArray⟩) ∧ Below w.heap.size w w' := Any.strings_Join Tryz.lays156 Tryz.Builder_Extra_156 bk o c xs sep w hcells hbk hN hcap hlen
def Tryz.lays161_ren : Go.Shelf.Ren := ⟨fun | 161 => 90 | 231 => 135 | 227 => 136 | 233 => 137 | 235 => 138 | 228 => 182 | 197 => 183 | 151 => 184 | 260 => 223 | 152 => 224 | 137 => 250 | 119 => 251 | 224 => 252 | 225 => 253 | 217 => 255 | 266 => 271 | n => n, fun | 9 => 9 | 4 => 4 | 3 => 3 | 5 => 5 | 117 => 226 | 116 => 225 | 0 => 0 | 124 => 229 | 105 => 283 | 21 => 21 | 119 => 341 | 46 => 248 | 139 => 344 | 138 => 343 | n => n, fun | 3 => 3 | 4 => 4 | n => n⟩
theorem Tryz.lays161 : Go.Proofs.Lays.n161 Tryz.prog Tryz.lays161_ren := {
  mixed := by kernel_rfl
  f119 := Tryz.func251.trans (congrArg some (by kernel_rfl))
  f137 := Tryz.func250.trans (congrArg some (by kernel_rfl))
  f151 := Tryz.func184.trans (congrArg some (by kernel_rfl))
  f152 := Tryz.func224.trans (congrArg some (by kernel_rfl))
  f161 := Tryz.func90.trans (congrArg some (by kernel_rfl))
  f197 := Tryz.func183.trans (congrArg some (by kernel_rfl))
  f217 := Tryz.func255.trans (congrArg some (by kernel_rfl))
  f224 := Tryz.func252.trans (congrArg some (by kernel_rfl))
  f225 := Tryz.func253.trans (congrArg some (by kernel_rfl))
  f227 := Tryz.func136.trans (congrArg some (by kernel_rfl))
  f228 := Tryz.func182.trans (congrArg some (by kernel_rfl))
  f231 := Tryz.func135.trans (congrArg some (by kernel_rfl))
  f233 := Tryz.func137.trans (congrArg some (by kernel_rfl))
  f235 := Tryz.func138.trans (congrArg some (by kernel_rfl))
  f260 := Tryz.func223.trans (congrArg some (by kernel_rfl))
  f266 := Tryz.func271.trans (congrArg some (by kernel_rfl))
  t0 := Tryz.underlying0
  a0 := Tryz.isAgg0
  z0 := Tryz.sizeOf0
  v0 := Tryz.zeroValue0
  t3 := Tryz.underlying3
  a3 := Tryz.isAgg3
  z3 := Tryz.sizeOf3
  v3 := Tryz.zeroValue3
  t4 := Tryz.underlying4
  a4 := Tryz.isAgg4
  z4 := Tryz.sizeOf4
  v4 := Tryz.zeroValue4
  t5 := Tryz.underlying5
  a5 := Tryz.isAgg5
  z5 := Tryz.sizeOf5
  v5 := Tryz.zeroValue5
  t9 := Tryz.underlying9
  a9 := Tryz.isAgg9
  z9 := Tryz.sizeOf9
  v9 := Tryz.zeroValue9
  t21 := Tryz.underlying21
  a21 := Tryz.isAgg21
  z21 := Tryz.sizeOf21
  v21 := Tryz.zeroValue21
  t46 := Tryz.underlying248
  a46 := Tryz.isAgg248
  z46 := Tryz.sizeOf248
  v46 := Tryz.zeroValue248
  t105 := Tryz.underlying283
  a105 := Tryz.isAgg283
  z105 := Tryz.sizeOf283
  v105 := Tryz.zeroValue283
  t116 := Tryz.underlying225
  a116 := Tryz.isAgg225
  z116 := Tryz.sizeOf225
  t117 := Tryz.underlying226
  a117 := Tryz.isAgg226
  z117 := Tryz.sizeOf226
  v117 := Tryz.zeroValue226
  t119 := Tryz.underlying341
  a119 := Tryz.isAgg341
  z119 := Tryz.sizeOf341
  t124 := Tryz.underlying229
  a124 := Tryz.isAgg229
  z124 := Tryz.sizeOf229
  v124 := Tryz.zeroValue229
  t138 := Tryz.underlying343
  a138 := Tryz.isAgg343
  z138 := Tryz.sizeOf343
  v138 := Tryz.zeroValue343
  t139 := Tryz.underlying344
  a139 := Tryz.isAgg344
  z139 := Tryz.sizeOf344
  v139 := Tryz.zeroValue344
  g3 := by kernel_rfl
  g4 := by kernel_rfl }
open Go.RowKit in
/-- strings.TrimLeft: "TrimLeft returns a slice of the string s with all leading Unicode code points contained in cutset removed.": AT A cutset OF ONE ASCII BYTE. The world is as it was. (LAID: no walk: one application.) -/
theorem Tryz.strings_TrimLeft_one (s : ByteArray) (c : UInt8) (hc : c.toNat < 128) (w : World) :
    Calls Tryz.prog 90 #[.string s, .string ⟨#[c]⟩] w fun e w' => e = .returned (.string ⟨(Lib.trimLeftB s.data.toList c).toArray⟩) ∧ w' = w := Any.strings_TrimLeft_one Tryz.lays161 s c hc w
def Tryz.lays125_ren : Go.Shelf.Ren := ⟨fun | 125 => 161 | 128 => 207 | 129 => 208 | n => n, fun | 46 => 248 | 3 => 3 | 51 => 301 | 53 => 145 | 4 => 4 | 5 => 5 | 9 => 9 | n => n, fun | n => n⟩
theorem Tryz.lays125 : Go.Proofs.Lays.n125 Tryz.prog Tryz.lays125_ren := {
  mixed := by kernel_rfl
  f125 := Tryz.func161.trans (congrArg some (by kernel_rfl))
  f128 := Tryz.func207.trans (congrArg some (by kernel_rfl))
  f129 := Tryz.func208.trans (congrArg some (by kernel_rfl))
  t3 := Tryz.underlying3
  a3 := Tryz.isAgg3
  z3 := Tryz.sizeOf3
  v3 := Tryz.zeroValue3
  t4 := Tryz.underlying4
  a4 := Tryz.isAgg4
  z4 := Tryz.sizeOf4
  v4 := Tryz.zeroValue4
  t5 := Tryz.underlying5
  a5 := Tryz.isAgg5
  z5 := Tryz.sizeOf5
  v5 := Tryz.zeroValue5
  t9 := Tryz.underlying9
  a9 := Tryz.isAgg9
  z9 := Tryz.sizeOf9
  v9 := Tryz.zeroValue9
  t46 := Tryz.underlying248
  a46 := Tryz.isAgg248
  z46 := Tryz.sizeOf248
  v46 := Tryz.zeroValue248
  t51 := Tryz.underlying301
  a51 := Tryz.isAgg301
  z51 := Tryz.sizeOf301
  v51 := Tryz.zeroValue301
  t53 := Tryz.underlying145
  a53 := Tryz.isAgg145
  z53 := Tryz.sizeOf145
  v53 := Tryz.zeroValue145 }
/-- bits.Len: "Len returns the minimum number of bits required to represent x; the result is 0 for x == 0.": IT RETURNS 'Lib.bitLen x'; the world is as it was. (A uint has 64 bits in the model.) ITS CALLEE bits.Len64 IS MET BY ITS OWN CONTRACT OFF THE SHELF (lay that first). (LAID: no walk: one application.) -/
theorem Tryz.bits_Len (x : Int) (w : World) (h0 : 0 ≤ x) (h1 : x ≤ 18446744073709551615) :
    Calls Tryz.prog 161 #[.int .u64 x] w fun e w' => e = .returned (.int .i64 (Lib.bitLen x.toNat)) ∧ w' = w := Any.bits_Len Tryz.lays125 x w h0 h1
def Tryz.lays106_ren : Go.Shelf.Ren := ⟨fun | 106 => 106 | 213 => 162 | 265 => 209 | n => n, fun | 9 => 9 | 3 => 3 | n => n, fun | n => n⟩
theorem Tryz.lays106 : Go.Proofs.Lays.n106 Tryz.prog Tryz.lays106_ren := {
  mixed := by kernel_rfl
  f106 := Tryz.func106.trans (congrArg some (by kernel_rfl))
  f213 := Tryz.func162.trans (congrArg some (by kernel_rfl))
  f265 := Tryz.func209.trans (congrArg some (by kernel_rfl))
  t3 := Tryz.underlying3
  a3 := Tryz.isAgg3
  z3 := Tryz.sizeOf3
  v3 := Tryz.zeroValue3
  t9 := Tryz.underlying9
  a9 := Tryz.isAgg9
  z9 := Tryz.sizeOf9
  v9 := Tryz.zeroValue9 }
open Go.RowKit in
/-- strings.Compare: "Compare returns an integer comparing two strings lexicographically. The result will be 0 if a == b, -1 if a < b, and +1 if a > b.": IT RETURNS 'Lib.compareBytes a b'; the world is as it was. (LAID: no walk: one application.) -/
theorem Tryz.strings_Compare (a b : ByteArray) (w : World) :
    Calls Tryz.prog 106 #[.string a, .string b] w fun e w' => e = .returned (.int .i64 (Lib.compareBytes a.data.toList b.data.toList)) ∧ w' = w := Any.strings_Compare Tryz.lays106 a b w
def Tryz.lays215_ren : Go.Shelf.Ren := ⟨fun | 215 => 133 | n => n, fun | 3 => 3 | 4 => 4 | n => n, fun | n => n⟩
theorem Tryz.lays215 : Go.Proofs.Lays.n215 Tryz.prog Tryz.lays215_ren := {
  mixed := by kernel_rfl
  f215 := Tryz.func133.trans (congrArg some (by kernel_rfl))
  t3 := Tryz.underlying3
  a3 := Tryz.isAgg3
  z3 := Tryz.sizeOf3
  v3 := Tryz.zeroValue3
  t4 := Tryz.underlying4
  a4 := Tryz.isAgg4
  z4 := Tryz.sizeOf4
  v4 := Tryz.zeroValue4 }
open Go.RowKit in
/-- cmp.isNaN at int: 'x != x': false. (LAID: no walk: one application.) -/
theorem Tryz.cmp_isNaN_int (x : Int) (w : World) :
    Calls Tryz.prog 133 #[.int .i64 x] w fun e w' => e = .returned (.bool false) ∧ w' = w := Any.cmp_isNaN_int Tryz.lays215 x w
def Tryz.lays122_ren : Go.Shelf.Ren := ⟨fun | 122 => 88 | 215 => 133 | n => n, fun | 3 => 3 | 4 => 4 | n => n, fun | n => n⟩
theorem Tryz.lays122 : Go.Proofs.Lays.n122 Tryz.prog Tryz.lays122_ren := {
  mixed := by kernel_rfl
  f122 := Tryz.func88.trans (congrArg some (by kernel_rfl))
  f215 := Tryz.func133.trans (congrArg some (by kernel_rfl))
  t3 := Tryz.underlying3
  a3 := Tryz.isAgg3
  z3 := Tryz.sizeOf3
  v3 := Tryz.zeroValue3
  t4 := Tryz.underlying4
  a4 := Tryz.isAgg4
  z4 := Tryz.sizeOf4
  v4 := Tryz.zeroValue4 }
open Go.RowKit in
/-- cmp.Compare at int: "Compare returns -1 if x is less than y, 0 if x equals y, +1 if x is greater than y.": IT RETURNS 'Lib.compareInt x y'; the world is as it was. (LAID: no walk: one application.) -/
theorem Tryz.cmp_Compare_int (x y : Int) (w : World) :
    Calls Tryz.prog 88 #[.int .i64 x, .int .i64 y] w fun e w' => e = .returned (.int .i64 (Lib.compareInt x y)) ∧ w' = w := Any.cmp_Compare_int Tryz.lays122 x y w
def Tryz.lays144_ren : Go.Shelf.Ren := ⟨fun | 144 => 193 | 143 => 189 | 219 => 228 | 217 => 255 | 225 => 253 | 224 => 252 | 267 => 256 | 266 => 271 | 314 => 272 | n => n, fun | 9 => 9 | 4 => 4 | 3 => 3 | 5 => 5 | 46 => 248 | 146 => 355 | 51 => 301 | n => n, fun | 1 => 2 | n => n⟩
theorem Tryz.lays144 : Go.Proofs.Lays.n144 Tryz.prog Tryz.lays144_ren := {
  mixed := by kernel_rfl
  f143 := Tryz.func189.trans (congrArg some (by kernel_rfl))
  f144 := Tryz.func193.trans (congrArg some (by kernel_rfl))
  f217 := Tryz.func255.trans (congrArg some (by kernel_rfl))
  f219 := Tryz.func228.trans (congrArg some (by kernel_rfl))
  f224 := Tryz.func252.trans (congrArg some (by kernel_rfl))
  f225 := Tryz.func253.trans (congrArg some (by kernel_rfl))
  f266 := Tryz.func271.trans (congrArg some (by kernel_rfl))
  f267 := Tryz.func256.trans (congrArg some (by kernel_rfl))
  f314 := Tryz.func272.trans (congrArg some (by kernel_rfl))
  t3 := Tryz.underlying3
  a3 := Tryz.isAgg3
  z3 := Tryz.sizeOf3
  v3 := Tryz.zeroValue3
  t4 := Tryz.underlying4
  a4 := Tryz.isAgg4
  z4 := Tryz.sizeOf4
  v4 := Tryz.zeroValue4
  t5 := Tryz.underlying5
  a5 := Tryz.isAgg5
  z5 := Tryz.sizeOf5
  v5 := Tryz.zeroValue5
  t9 := Tryz.underlying9
  a9 := Tryz.isAgg9
  z9 := Tryz.sizeOf9
  v9 := Tryz.zeroValue9
  t46 := Tryz.underlying248
  a46 := Tryz.isAgg248
  z46 := Tryz.sizeOf248
  v46 := Tryz.zeroValue248
  t51 := Tryz.underlying301
  a51 := Tryz.isAgg301
  z51 := Tryz.sizeOf301
  v51 := Tryz.zeroValue301
  t146 := Tryz.underlying355
  a146 := Tryz.isAgg355
  z146 := Tryz.sizeOf355
  v146 := Tryz.zeroValue355
  g1 := by kernel_rfl }
open Go.RowKit Go.Lib in
/-- strings.Contains: "Contains reports whether substr is within s.": AT A substr OF ONE BYTE c: IT RETURNS 'decide (0 ≤ Lib.indexByte s c)'; the world is as it was. (LAID: no walk: one application.) -/
theorem Tryz.strings_Contains_one (s : ByteArray) (c : UInt8) (w : World) :
    Calls Tryz.prog 193 #[.string s, .string ⟨#[c]⟩] w fun e w' => e = .returned (.bool (decide (0 ≤ Lib.indexByte s.data.toList c))) ∧ w' = w := Any.strings_Contains_one Tryz.lays144 s c w
open Go.RowKit Go.Lib in
/-- strings.Contains: "Contains reports whether substr is within s.": IT RETURNS 'Lib.contains s substr'; the world is as it was. (LAID: no walk: one application.) -/
theorem Tryz.strings_Contains (s sub : ByteArray) (m : Int) (w : World) (hs : s.size < 4294967281) (hm : w.cell? ⟨2, 0, none⟩ = some (.int .i64 m)) :
    Calls Tryz.prog 193 #[.string s, .string sub] w fun e w' => e = .returned (.bool (Lib.contains s.data.toList sub.data.toList)) ∧ w' = w := Any.strings_Contains Tryz.lays144 s sub m w hs hm
def Tryz.lays145_ren : Go.Shelf.Ren := ⟨fun | 145 => 151 | 220 => 191 | 219 => 228 | 217 => 255 | 225 => 253 | 224 => 252 | 267 => 256 | 266 => 271 | 314 => 272 | n => n, fun | 9 => 9 | 4 => 4 | 59 => 239 | 3 => 3 | 5 => 5 | 46 => 248 | 146 => 355 | 51 => 301 | n => n, fun | 1 => 2 | n => n⟩
theorem Tryz.lays145 : Go.Proofs.Lays.n145 Tryz.prog Tryz.lays145_ren := {
  mixed := by kernel_rfl
  f145 := Tryz.func151.trans (congrArg some (by kernel_rfl))
  f217 := Tryz.func255.trans (congrArg some (by kernel_rfl))
  f219 := Tryz.func228.trans (congrArg some (by kernel_rfl))
  f220 := Tryz.func191.trans (congrArg some (by kernel_rfl))
  f224 := Tryz.func252.trans (congrArg some (by kernel_rfl))
  f225 := Tryz.func253.trans (congrArg some (by kernel_rfl))
  f266 := Tryz.func271.trans (congrArg some (by kernel_rfl))
  f267 := Tryz.func256.trans (congrArg some (by kernel_rfl))
  f314 := Tryz.func272.trans (congrArg some (by kernel_rfl))
  t3 := Tryz.underlying3
  a3 := Tryz.isAgg3
  z3 := Tryz.sizeOf3
  v3 := Tryz.zeroValue3
  t4 := Tryz.underlying4
  a4 := Tryz.isAgg4
  z4 := Tryz.sizeOf4
  v4 := Tryz.zeroValue4
  t5 := Tryz.underlying5
  a5 := Tryz.isAgg5
  z5 := Tryz.sizeOf5
  v5 := Tryz.zeroValue5
  t9 := Tryz.underlying9
  a9 := Tryz.isAgg9
  z9 := Tryz.sizeOf9
  v9 := Tryz.zeroValue9
  t46 := Tryz.underlying248
  a46 := Tryz.isAgg248
  z46 := Tryz.sizeOf248
  v46 := Tryz.zeroValue248
  t51 := Tryz.underlying301
  a51 := Tryz.isAgg301
  z51 := Tryz.sizeOf301
  v51 := Tryz.zeroValue301
  t59 := Tryz.underlying239
  a59 := Tryz.isAgg239
  z59 := Tryz.sizeOf239
  v59 := Tryz.zeroValue239
  t146 := Tryz.underlying355
  a146 := Tryz.isAgg355
  z146 := Tryz.sizeOf355
  v146 := Tryz.zeroValue355
  g1 := by kernel_rfl }
open Go.RowKit Go.Lib in
/-- strings.Cut: IT RETURNS 'Lib.cut s sep'; the world is as it was but for the count of draws. (LAID: no walk: one application.) -/
theorem Tryz.strings_Cut (s sep : ByteArray) (m : Int) (w : World) (hs : s.size < 4294967281) (hm : w.cell? ⟨2, 0, none⟩ = some (.int .i64 m)) :
    Calls Tryz.prog 151 #[.string s, .string sep] w fun e w' => e = .returned (.tuple #[.string ⟨(Lib.cut s.data.toList sep.data.toList).1.toArray⟩, .string ⟨(Lib.cut s.data.toList sep.data.toList).2.1.toArray⟩, .bool (Lib.cut s.data.toList sep.data.toList).2.2]) ∧ ∃ n, w' = w.drewN n := Any.strings_Cut Tryz.lays145 s sep m w hs hm
def Tryz.lays100_ren : Go.Shelf.Ren := ⟨fun | 100 => 196 | 207 => 190 | n => n, fun | 9 => 9 | 4 => 4 | 3 => 3 | n => n, fun | n => n⟩
theorem Tryz.lays100 : Go.Proofs.Lays.n100 Tryz.prog Tryz.lays100_ren := {
  mixed := by kernel_rfl
  f100 := Tryz.func196.trans (congrArg some (by kernel_rfl))
  f207 := Tryz.func190.trans (congrArg some (by kernel_rfl))
  t3 := Tryz.underlying3
  a3 := Tryz.isAgg3
  z3 := Tryz.sizeOf3
  v3 := Tryz.zeroValue3
  t4 := Tryz.underlying4
  a4 := Tryz.isAgg4
  z4 := Tryz.sizeOf4
  v4 := Tryz.zeroValue4
  t9 := Tryz.underlying9
  a9 := Tryz.isAgg9
  z9 := Tryz.sizeOf9
  v9 := Tryz.zeroValue9 }
open Go.RowKit Go.Lib in
/-- strings.HasSuffix: "HasSuffix reports whether the string s ends with suffix.": IT RETURNS 'Lib.hasSuffix s suffix'; the world is as it was. ('hs': no Go string is longer: a caller has it of every string that it was handed.) (LAID: no walk: one application.) -/
theorem Tryz.strings_HasSuffix (s p : ByteArray) (w : World) (hs : s.size ≤ 9223372036854775807) :
    Calls Tryz.prog 196 #[.string s, .string p] w fun e w' => e = .returned (.bool (Lib.hasSuffix s.data.toList p.data.toList)) ∧ w' = w := Any.strings_HasSuffix Tryz.lays100 s p w hs
def Tryz.lays102_ren : Go.Shelf.Ren := ⟨fun | 102 => 102 | 209 => 150 | 207 => 190 | n => n, fun | 9 => 9 | 4 => 4 | 3 => 3 | n => n, fun | n => n⟩
theorem Tryz.lays102 : Go.Proofs.Lays.n102 Tryz.prog Tryz.lays102_ren := {
  mixed := by kernel_rfl
  f102 := Tryz.func102.trans (congrArg some (by kernel_rfl))
  f207 := Tryz.func190.trans (congrArg some (by kernel_rfl))
  f209 := Tryz.func150.trans (congrArg some (by kernel_rfl))
  t3 := Tryz.underlying3
  a3 := Tryz.isAgg3
  z3 := Tryz.sizeOf3
  v3 := Tryz.zeroValue3
  t4 := Tryz.underlying4
  a4 := Tryz.isAgg4
  z4 := Tryz.sizeOf4
  v4 := Tryz.zeroValue4
  t9 := Tryz.underlying9
  a9 := Tryz.isAgg9
  z9 := Tryz.sizeOf9
  v9 := Tryz.zeroValue9 }
open Go.RowKit Go.Lib in
/-- strings.TrimSuffix: "TrimSuffix returns s without the provided trailing suffix string. If s doesn't end with suffix, s is returned unchanged.": IT RETURNS 'Lib.trimSuffix s suffix'; the world is as it was. (LAID: no walk: one application.) -/
theorem Tryz.strings_TrimSuffix (s p : ByteArray) (w : World) (hs : s.size ≤ 9223372036854775807) :
    Calls Tryz.prog 102 #[.string s, .string p] w fun e w' => e = .returned (.string ⟨(Lib.trimSuffix s.data.toList p.data.toList).toArray⟩) ∧ w' = w := Any.strings_TrimSuffix Tryz.lays102 s p w hs
def Tryz.lays146_ren : Go.Shelf.Ren := ⟨fun | 146 => 101 | 221 => 149 | 268 => 187 | 138 => 188 | 143 => 189 | 195 => 226 | 197 => 183 | 218 => 227 | 219 => 228 | 260 => 223 | 217 => 255 | 225 => 253 | 224 => 252 | 267 => 256 | 266 => 271 | 314 => 272 | n => n, fun | 9 => 9 | 31 => 38 | 3 => 3 | 4 => 4 | 0 => 0 | 105 => 283 | 21 => 21 | 5 => 5 | 46 => 248 | 119 => 341 | 139 => 344 | 138 => 343 | 146 => 355 | 51 => 301 | n => n, fun | 1 => 2 | 3 => 3 | 4 => 4 | n => n⟩
theorem Tryz.lays146 : Go.Proofs.Lays.n146 Tryz.prog Tryz.lays146_ren := {
  mixed := by kernel_rfl
  f138 := Tryz.func188.trans (congrArg some (by kernel_rfl))
  f143 := Tryz.func189.trans (congrArg some (by kernel_rfl))
  f146 := Tryz.func101.trans (congrArg some (by kernel_rfl))
  f195 := Tryz.func226.trans (congrArg some (by kernel_rfl))
  f197 := Tryz.func183.trans (congrArg some (by kernel_rfl))
  f217 := Tryz.func255.trans (congrArg some (by kernel_rfl))
  f218 := Tryz.func227.trans (congrArg some (by kernel_rfl))
  f219 := Tryz.func228.trans (congrArg some (by kernel_rfl))
  f221 := Tryz.func149.trans (congrArg some (by kernel_rfl))
  f224 := Tryz.func252.trans (congrArg some (by kernel_rfl))
  f225 := Tryz.func253.trans (congrArg some (by kernel_rfl))
  f260 := Tryz.func223.trans (congrArg some (by kernel_rfl))
  f266 := Tryz.func271.trans (congrArg some (by kernel_rfl))
  f267 := Tryz.func256.trans (congrArg some (by kernel_rfl))
  f268 := Tryz.func187.trans (congrArg some (by kernel_rfl))
  f314 := Tryz.func272.trans (congrArg some (by kernel_rfl))
  t0 := Tryz.underlying0
  a0 := Tryz.isAgg0
  z0 := Tryz.sizeOf0
  v0 := Tryz.zeroValue0
  t3 := Tryz.underlying3
  a3 := Tryz.isAgg3
  z3 := Tryz.sizeOf3
  v3 := Tryz.zeroValue3
  t4 := Tryz.underlying4
  a4 := Tryz.isAgg4
  z4 := Tryz.sizeOf4
  v4 := Tryz.zeroValue4
  t5 := Tryz.underlying5
  a5 := Tryz.isAgg5
  z5 := Tryz.sizeOf5
  v5 := Tryz.zeroValue5
  t9 := Tryz.underlying9
  a9 := Tryz.isAgg9
  z9 := Tryz.sizeOf9
  v9 := Tryz.zeroValue9
  t21 := Tryz.underlying21
  a21 := Tryz.isAgg21
  z21 := Tryz.sizeOf21
  v21 := Tryz.zeroValue21
  t31 := Tryz.underlying38
  a31 := Tryz.isAgg38
  z31 := Tryz.sizeOf38
  v31 := Tryz.zeroValue38
  t46 := Tryz.underlying248
  a46 := Tryz.isAgg248
  z46 := Tryz.sizeOf248
  v46 := Tryz.zeroValue248
  t51 := Tryz.underlying301
  a51 := Tryz.isAgg301
  z51 := Tryz.sizeOf301
  v51 := Tryz.zeroValue301
  t105 := Tryz.underlying283
  a105 := Tryz.isAgg283
  z105 := Tryz.sizeOf283
  v105 := Tryz.zeroValue283
  t119 := Tryz.underlying341
  a119 := Tryz.isAgg341
  z119 := Tryz.sizeOf341
  t138 := Tryz.underlying343
  a138 := Tryz.isAgg343
  z138 := Tryz.sizeOf343
  v138 := Tryz.zeroValue343
  t139 := Tryz.underlying344
  a139 := Tryz.isAgg344
  z139 := Tryz.sizeOf344
  v139 := Tryz.zeroValue344
  t146 := Tryz.underlying355
  a146 := Tryz.isAgg355
  z146 := Tryz.sizeOf355
  v146 := Tryz.zeroValue355
  g1 := by kernel_rfl
  g3 := by kernel_rfl
  g4 := by kernel_rfl }
open Go.RowKit Go.Lib in
/-- strings.Split. (LAID: no walk: one application.) -/
theorem Tryz.strings_Split (s sep : ByteArray) (m : Int) (w : World) (hs : s.size < 4294967281) (hm : w.cell? ⟨2, 0, none⟩ = some (.int .i64 m)) (h1 : 1 ≤ sep.size) :
    Calls Tryz.prog 101 #[.string s, .string sep] w fun e w' =>
      e = .returned (.slice (some ⟨w.heap.size, 0, none⟩) (Lib.countB s sep + 1) (Lib.countB s sep + 1)) ∧ w' = w.alloc (.cells ((Lib.splitB sep 0 (Lib.countB s sep) s).map Value.string).toArray 9) := Any.strings_Split Tryz.lays146 (by kernel_rfl) s sep m w hs hm h1
def Tryz.lays109_ren : Go.Shelf.Ren := ⟨fun | 109 => 232 | n => n, fun | 31 => 38 | 9 => 9 | 3 => 3 | 0 => 0 | 4 => 4 | n => n, fun | n => n⟩
theorem Tryz.lays109 : Go.Proofs.Lays.n109 Tryz.prog Tryz.lays109_ren := {
  mixed := by kernel_rfl
  f109 := Tryz.func232.trans (congrArg some (by kernel_rfl))
  t0 := Tryz.underlying0
  a0 := Tryz.isAgg0
  z0 := Tryz.sizeOf0
  v0 := Tryz.zeroValue0
  t3 := Tryz.underlying3
  a3 := Tryz.isAgg3
  z3 := Tryz.sizeOf3
  v3 := Tryz.zeroValue3
  t4 := Tryz.underlying4
  a4 := Tryz.isAgg4
  z4 := Tryz.sizeOf4
  v4 := Tryz.zeroValue4
  t9 := Tryz.underlying9
  a9 := Tryz.isAgg9
  z9 := Tryz.sizeOf9
  v9 := Tryz.zeroValue9
  t31 := Tryz.underlying38
  a31 := Tryz.isAgg38
  z31 := Tryz.sizeOf38
  v31 := Tryz.zeroValue38 }
open Go.Lib in
/-- slices.Index at []string: "Index returns the index of the first occurrence of v in s, or -1 if not present.": IT RETURNS 'Lib.idxOfS (the elements) v'; the world is as it was. 'zs': what the cells behind the slice's address hold (its spare capacity too, if you have it); 'zs.take n': its elements. (LAID: no walk: one application.) -/
theorem Tryz.slices_Index_string (b off n c : Nat) (zs : List ByteArray) (x : ByteArray) (w : World) (hz : n ≤ zs.length) (hbig : n ≤ 9223372036854775807) (hc : ∀ j, j < zs.length → w.cell? ⟨b, off + j, none⟩ = some (.string (zs.getD j ByteArray.empty))) :
    Calls Tryz.prog 232 #[.slice (some ⟨b, off, none⟩) n c, .string x] w fun e w' => e = .returned (.int .i64 (Lib.idxOfS (zs.take n) x)) ∧ w' = w := Any.slices_Index_string Tryz.lays109 b off n c zs x w hz hbig hc
open Go.Lib in
/-- The same at a slice of length 0, a nil one too: no cell is known, none is asked for. (LAID: no walk: one application.) -/
theorem Tryz.slices_Index_string_empty (a : Option Addr) (c : Nat) (x : ByteArray) (w : World) :
    Calls Tryz.prog 232 #[.slice a 0 c, .string x] w fun e w' => e = .returned (.int .i64 (Lib.idxOfS [] x)) ∧ w' = w := Any.slices_Index_string_empty Tryz.lays109 a c x w
def Tryz.lays110_ren : Go.Shelf.Ren := ⟨fun | 110 => 195 | 109 => 232 | n => n, fun | 31 => 38 | 9 => 9 | 4 => 4 | 3 => 3 | 0 => 0 | n => n, fun | n => n⟩
theorem Tryz.lays110 : Go.Proofs.Lays.n110 Tryz.prog Tryz.lays110_ren := {
  mixed := by kernel_rfl
  f109 := Tryz.func232.trans (congrArg some (by kernel_rfl))
  f110 := Tryz.func195.trans (congrArg some (by kernel_rfl))
  t0 := Tryz.underlying0
  a0 := Tryz.isAgg0
  z0 := Tryz.sizeOf0
  v0 := Tryz.zeroValue0
  t3 := Tryz.underlying3
  a3 := Tryz.isAgg3
  z3 := Tryz.sizeOf3
  v3 := Tryz.zeroValue3
  t4 := Tryz.underlying4
  a4 := Tryz.isAgg4
  z4 := Tryz.sizeOf4
  v4 := Tryz.zeroValue4
  t9 := Tryz.underlying9
  a9 := Tryz.isAgg9
  z9 := Tryz.sizeOf9
  v9 := Tryz.zeroValue9
  t31 := Tryz.underlying38
  a31 := Tryz.isAgg38
  z31 := Tryz.sizeOf38
  v31 := Tryz.zeroValue38 }
open Go.Lib in
/-- slices.Contains at []string: "Contains reports whether v is present in s.": IT RETURNS 'Lib.containsS (the elements) v', which is true just where v is among them ('Lib.containsS_iff'); the world is as it was. ITS CALLEE slices.Index IS MET BY ITS OWN CONTRACT OFF THE SHELF (lay that first): no loop is walked here. (LAID: no walk: one application.) -/
theorem Tryz.slices_Contains_string (b off n c : Nat) (zs : List ByteArray) (x : ByteArray) (w : World) (hz : n ≤ zs.length) (hbig : n ≤ 9223372036854775807) (hc : ∀ j, j < zs.length → w.cell? ⟨b, off + j, none⟩ = some (.string (zs.getD j ByteArray.empty))) :
    Calls Tryz.prog 195 #[.slice (some ⟨b, off, none⟩) n c, .string x] w fun e w' => e = .returned (.bool (Lib.containsS (zs.take n) x)) ∧ w' = w := Any.slices_Contains_string Tryz.lays110 b off n c zs x w hz hbig hc
open Go.Lib in
/-- The same at a slice of length 0, a nil one too. (LAID: no walk: one application.) -/
theorem Tryz.slices_Contains_string_empty (a : Option Addr) (c : Nat) (x : ByteArray) (w : World) :
    Calls Tryz.prog 195 #[.slice a 0 c, .string x] w fun e w' => e = .returned (.bool false) ∧ w' = w := Any.slices_Contains_string_empty Tryz.lays110 a c x w
end Go.Proofs
/-
The contracts of Go's library that the program calls, on lists of bytes.
-/
namespace Go.Proofs.YtfphcecjhdkcoaaGreatDoor
open Go.RowKit
/-- What the package-level variables hold: the blocks that they reach lie below G. -/
structure Glob (G : Nat) (w : World) : Prop where
  six : 6 ≤ G
  size : G ≤ w.heap.size
  maxlen : ∃ m, w.cell? ⟨2, 0, none⟩ = some (.int .i64 m)
  signs : ∃ b off cap, b < G ∧ w.cell? ⟨1, 0, none⟩ = some (.slice (some ⟨b, off, none⟩) 5 cap) ∧ ∀ k, (hk : k < 5) → w.cell? ⟨b, off + k, none⟩ = some (.string ⟨(Sp.signs[k]'hk).toArray⟩)
theorem Glob.below {G B : Nat} {w w' : World} (h : Glob G w) (hb : Below B w w') (hB : G ≤ B) : Glob G w' := by
  obtain ⟨h6, hs, ⟨m, hm⟩, ⟨b, off, cap, hbG, h1, h2⟩⟩ := h
  refine ⟨h6, Nat.le_trans hs hb.size, ⟨m, ?_⟩, ⟨b, off, cap, hbG, ?_, fun k hk => ?_⟩⟩
  · rw [hb.cell (by show 2 < B; omega)]; exact hm
  · rw [hb.cell (by show 1 < B; omega)]; exact h1
  · rw [hb.cell (by show b < B; omega)]; exact h2 k hk
theorem Glob.keep {G : Nat} {w w' : World} (h : Glob G w) (hb : Below w.heap.size w w') : Glob G w' := h.below hb h.size
theorem trim_any (s p : ByteArray) (w : World) (hs : s.size ≤ 9223372036854775807) :
    Calls Tryz.prog 102 #[.string s, .string p] w fun e w' => e = .returned (.string ⟨(Lib.trimSuffix (bl s) (bl p)).toArray⟩) ∧ w = w' :=
  (Tryz.strings_TrimSuffix s p w hs).mono fun _ _ ⟨h1, h2⟩ => ⟨h1, h2.symm⟩
theorem hasSuffix_any (s p : ByteArray) (w : World) (hs : s.size ≤ 9223372036854775807) :
    Calls Tryz.prog 196 #[.string s, .string p] w fun e w' => e = .returned (.bool (Lib.hasSuffix (bl s) (bl p))) ∧ w = w' :=
  (Tryz.strings_HasSuffix s p w hs).mono fun _ _ ⟨h1, h2⟩ => ⟨h1, h2.symm⟩
theorem cutS_any {G : Nat} (s p : ByteArray) (w : World) (hG : Glob G w) (hs : s.size < 4294967281) :
    Calls Tryz.prog 151 #[.string s, .string p] w fun e w' => e = .returned (.tuple #[.string ⟨(Lib.cut (bl s) (bl p)).1.toArray⟩, .string ⟨(Lib.cut (bl s) (bl p)).2.1.toArray⟩, .bool (Lib.cut (bl s) (bl p)).2.2]) ∧ ∃ n, w' = w.drewN n := by
  obtain ⟨m, hm⟩ := hG.maxlen
  exact Tryz.strings_Cut s p m w hs hm
theorem contains_any {G : Nat} (s p : ByteArray) (w : World) (hG : Glob G w) (hs : s.size < 4294967281) :
    Calls Tryz.prog 193 #[.string s, .string p] w fun e w' => e = .returned (.bool (Lib.contains (bl s) (bl p))) ∧ w = w' := by
  obtain ⟨m, hm⟩ := hG.maxlen
  exact (Tryz.strings_Contains s p m w hs hm).mono fun _ _ ⟨h1, h2⟩ => ⟨h1, h2.symm⟩
theorem splitS_any {G : Nat} (s p : ByteArray) (w : World) (hG : Glob G w) (hs : s.size < 4294967281) (hp : 0 < p.size) :
    Calls Tryz.prog 101 #[.string s, .string p] w fun e w' => ∃ v, e = .returned v ∧ StrsAt w' v (Lib.split (bl s) (bl p)) ∧ Below w.heap.size w w' := by
  obtain ⟨m, hm⟩ := hG.maxlen
  refine (Tryz.strings_Split s p m w hs hm hp).mono fun e w' ⟨h1, h2⟩ => ?_
  subst h1; subst h2
  have hlen : (Lib.splitB p 0 (Lib.countB s p) s).length = Lib.countB s p + 1 := Lib.splitB_all p hp 0 _ s rfl
  have hdat : (Lib.splitB p 0 (Lib.countB s p) s).map bl = Lib.split (bl s) (bl p) := Lib.splitB_data p 0 (Lib.countB s p) s
  have hl2 : (Lib.split (bl s) (bl p)).length = Lib.countB s p + 1 := by rw [← hdat, List.length_map, hlen]
  refine ⟨_, rfl, ?_, (Below.refl _ _).alloc (Nat.le_refl _) _⟩
  refine ⟨_, Lib.countB s p + 1, by rw [List.length_map, hl2], by rw [List.length_map, hl2]; exact Nat.le_refl _, fun k x hk => ?_⟩
  refine ⟨w.heap.size, 0, rfl, by simp, fun j u hj => ?_⟩
  rw [List.getElem?_map, Option.map_eq_some_iff] at hk
  obtain ⟨q, hq, rfl⟩ := hk
  have hj0 : j = 0 := by
    rcases j with _ | j
    · rfl
    · simp at hj
  subst hj0
  have hu : u = sv q := by simpa using hj.symm
  subst hu
  rw [← hdat, List.getElem?_map, Option.map_eq_some_iff] at hq
  obtain ⟨y, hy, rfl⟩ := hq
  rw [World.cell?_alloc_at _ _ _ _ rfl]
  simp only [Nat.zero_add, Nat.mul_one, Nat.add_zero, List.getElem?_toArray, List.getElem?_map, hy, Option.map_some]
  unfold sv; rw [mk_bl]
theorem upper_any (s : ByteArray) (w : World) (hs : s.size ≤ 140737488355328) (ha : ∀ (j : Nat) (b : UInt8), (bl s)[j]? = some b → b.toNat < 128) :
    Calls Tryz.prog 194 #[.string s] w fun e w' => e = .returned (.string ⟨(Lib.toUpperA (bl s)).toArray⟩) ∧ Below w.heap.size w w' :=
  Tryz.strings_ToUpper_ascii s w hs ha
theorem join_any (v : Value) (l : List Sp.Str) (p : ByteArray) (w : World) (hv : StrsAt w v l) (hl : l.length ≤ 140737488355328) (hj : (Lib.join l (bl p)).length ≤ 140737488355328) :
    Calls Tryz.prog 163 #[v, .string p] w fun e w' => e = .returned (.string ⟨(Lib.join l (bl p)).toArray⟩) ∧ Below w.heap.size w w' := by
  obtain ⟨a, cap, rfl, hc, h⟩ := hv.get
  cases l with
  | nil => exact (Tryz.strings_Join_none a cap p w).mono fun e w' ⟨h1, h2⟩ => ⟨h1, h2 ▸ Below.refl _ _⟩
  | cons x r =>
    obtain ⟨b, off, rfl, hb, _⟩ := h 0 (by simp)
    have hm : ((x :: r).map (fun s => (⟨s.toArray⟩ : ByteArray))).map (·.data.toList) = x :: r := by simp [Function.comp_def]
    have hlen : ((x :: r).map (fun s => (⟨s.toArray⟩ : ByteArray))).length = (x :: r).length := by simp
    have := Tryz.strings_Join b off cap ((x :: r).map (fun s => (⟨s.toArray⟩ : ByteArray))) p w (fun j y hj => by
      rw [List.getElem?_map, Option.map_eq_some_iff] at hj
      obtain ⟨s, hs, rfl⟩ := hj
      obtain ⟨hk, rfl⟩ := List.getElem?_eq_some_iff.1 hs
      obtain ⟨b', off', e, _, hx⟩ := h j hk
      cases e
      exact hx) hb (by rw [hlen]; exact hl) (by rw [hlen]; exact hc) (by rw [hm]; exact hj)
    rw [hlen, hm] at this
    exact this
theorem compare_any (s p : ByteArray) (w : World) :
    Calls Tryz.prog 106 #[.string s, .string p] w fun e w' => e = .returned (.int .i64 (Lib.compareBytes (bl s) (bl p))) ∧ w = w' :=
  (Tryz.strings_Compare s p w).mono fun _ _ ⟨h1, h2⟩ => ⟨h1, h2.symm⟩
theorem cmpInt_any (x y : Int) (w : World) :
    Calls Tryz.prog 88 #[.int .i64 x, .int .i64 y] w fun e w' => e = .returned (.int .i64 (Lib.compareInt x y)) ∧ w = w' :=
  (Tryz.cmp_Compare_int x y w).mono fun _ _ ⟨h1, h2⟩ => ⟨h1, h2.symm⟩
theorem trimLeft_any (s p : ByteArray) (w : World) (hp : p.size < 4294967281) (ha : ∀ (j : Nat) (b : UInt8), (bl p)[j]? = some b → b.toNat < 128) :
    Calls Tryz.prog 90 #[.string s, .string p] w fun e w' => e = .returned (.string ⟨(Lib.trimLeftS (bl s) (bl p)).toArray⟩) ∧ Below w.heap.size w w' :=
  Any.strings_TrimLeft_laid Tryz.lays161 (by kernel_rfl) s p w hp ha
end Go.Proofs.YtfphcecjhdkcoaaGreatDoor
namespace Go.Proofs.YtfphcecjhdkcoaaGreatDoor
open Go.RowKit
namespace W1
theorem dropWhile_nil (p : UInt8 → Bool) : ∀ l : List UInt8, (l.dropWhile p).isEmpty = l.all p
  | [] => rfl
  | c :: r => by
    cases h : p c
    · simp [List.dropWhile, h]
    · simp [List.dropWhile, h, dropWhile_nil p r]
theorem among_eq (s t : Sp.Str) (least most : Nat) : Sp.among s t least most = ((Lib.trimLeftS s t).isEmpty && decide (least ≤ s.length) && decide (s.length ≤ most)) := by
  unfold Sp.among Lib.trimLeftS
  rw [dropWhile_nil]
theorem among_yes {s t : Sp.Str} {least most : Nat} (h : Lib.trimLeftS s t = []) (h2 : least ≤ s.length) : Sp.among s t least most = decide (s.length ≤ most) := by
  rw [among_eq, h]; simp [h2]
theorem among_no {s t : Sp.Str} {least most : Nat} (h : ¬ Lib.trimLeftS s t = []) : Sp.among s t least most = false := by
  rw [among_eq]; simp [h]
theorem among_few {s t : Sp.Str} {least most : Nat} (h : ¬ least ≤ s.length) : Sp.among s t least most = false := by
  rw [among_eq]; simp [h]
theorem dig_and (c : UInt8) (h : 48 ≤ c.toNat) : Sp.isDig c = decide ((c.toNat : Int) ≤ 57) := by
  unfold Sp.isDig; rw [Bool.eq_iff_iff]; simp; omega
theorem dig_no (c : UInt8) (h : ¬ 48 ≤ c.toNat) : Sp.isDig c = false := by
  unfold Sp.isDig; simp; omega
theorem among_size {s t : Sp.Str} {least most : Nat} (h : Sp.among s t least most = true) : least ≤ s.length ∧ s.length ≤ most := by
  rw [Sp.among] at h; simp at h; exact ⟨h.1.2, h.2⟩
end W1
theorem must_true (w : World) : Calls Tryz.prog 152 #[.bool true] w fun e w' => e = .returned (.tuple #[]) ∧ w = w' := by
  go_enter Tryz.func152, Tryz.ntmps152
  go_wp2
  go_end0
  exact ⟨rfl, rfl⟩
theorem must_false (w : World) : Calls Tryz.prog 152 #[.bool false] w fun e w' => e = .panicked [{v := .iface 177 (.agg #[]), recovered := false}] ∧ w = w' := by
  go_enter Tryz.func152, Tryz.ntmps152
  go_wp2
  exact ⟨rfl, rfl, rfl⟩
theorem digit_any (c : UInt8) (w : World) : Calls Tryz.prog 86 #[.int .u8 (c.toNat : Int)] w fun e w' => e = .returned (.bool (Sp.isDig c)) ∧ w = w' := by
  by_cases h : 48 ≤ c.toNat
  · go_enter Tryz.func86, Tryz.ntmps86
    go_wp2
    go_ret
    exact ⟨ret_bool (W1.dig_and c h).symm, rfl⟩
  · go_enter Tryz.func86, Tryz.ntmps86
    go_wp2
    go_ret
    exact ⟨ret_bool (W1.dig_no c h).symm, rfl⟩
theorem among_any (s t : ByteArray) (least most : Nat) (w : World) (ht : t.size < 4294967281) (ha : ∀ (j : Nat) (b : UInt8), (bl t)[j]? = some b → b.toNat < 128) :
    Calls Tryz.prog 192 #[.string s, .string t, .int .i64 least, .int .i64 most] w fun e w' => e = .returned (.bool (Sp.among (bl s) (bl t) least most)) ∧ Below w.heap.size w w' := by
  have HA := Lib.hid ha
  clear ha
  go_enter Tryz.func192, Tryz.ntmps192
  go_wp2_with (go_at_call 90; refine (trimLeft_any _ _ _ ht HA.out).mono ?_; rintro e w' ⟨rfl, hb⟩)
  · have h1 : Lib.trimLeftS (bl s) (bl t) = [] := by assumption
    have h2 : least ≤ s.size := by assumption
    go_ret
    exact ⟨ret_bool (by rw [W1.among_yes h1 (by rw [bl_len]; exact h2), bl_len]), hb⟩
  · have h2 : ¬ least ≤ s.size := by assumption
    go_ret
    exact ⟨ret_bool (W1.among_few (by rw [bl_len]; exact h2)).symm, hb⟩
  · have h2 : ¬ Lib.trimLeftS (bl s) (bl t) = [] := by assumption
    go_ret
    exact ⟨ret_bool (W1.among_no h2).symm, hb⟩
namespace W1
theorem ascii_of {l : Sp.Str} (h : l.all (fun b => decide (b.toNat < 128)) = true) : ∀ (j : Nat) (b : UInt8), l[j]? = some b → b.toNat < 128 := fun j b hj => by
  have := List.all_eq_true.1 h b (List.mem_of_getElem? hj)
  simpa using this
theorem nameS_arr : bl ⟨#[97, 98, 99, 100, 101, 102, 103, 104, 105, 106, 107, 108, 109, 110, 111, 112, 113, 114, 115, 116, 117, 118, 119, 120, 121, 122, 48, 49, 50, 51, 52, 53, 54, 55, 56, 57, 45]⟩ = Sp.nameS := rfl
theorem index_one (s : Sp.Str) (c : UInt8) : Lib.contains s [c] = s.contains c := by
  unfold Lib.contains
  induction s with
  | nil => rfl
  | cons b l ih =>
    unfold Lib.index
    by_cases h : b = c
    · subst h; simp [List.isPrefixOf]
    · have hc : (c == b) = false := by simp; exact fun e => h e.symm
      have h1 : [c].isPrefixOf (b :: l) = false := by simp [List.isPrefixOf, hc]
      rw [if_neg (by rw [h1]; simp), List.contains_cons, hc, Bool.false_or, ← ih]
      have := Lib.index_ge l [c]
      split
      · rename_i h2
        have h2' : Lib.index l [c] = -1 := by simpa using h2
        rw [h2']
      · rename_i h2
        have h2' : ¬ Lib.index l [c] = -1 := by simpa using h2
        rw [Bool.eq_iff_iff]; simp; omega
theorem head_one (s : ByteArray) (h : 0 < s.size) : ∃ c r, bl s = c :: r ∧ bl (s.extract 0 1) = [c] ∧ s[0] = c := by
  have h1 := bl_one s 0 h
  cases hs : bl s with
  | nil => rw [← bl_len, hs] at h; simp at h
  | cons c r =>
    refine ⟨c, r, rfl, ?_, ?_⟩
    · rw [bl_to, hs]; rfl
    · rw [bl_to, hs] at h1; simpa using h1.symm
theorem name_yes {s : Sp.Str} {c : UInt8} {r : Sp.Str} (h : Sp.among s Sp.nameS 1 12 = true) (hs : s = c :: r) : Sp.isName s = Lib.contains Sp.smallS [c] := by
  unfold Sp.isName; rw [h, Bool.true_and, hs, index_one]; rfl
theorem name_no {s : Sp.Str} (h : Sp.among s Sp.nameS 1 12 = false) : Sp.isName s = false := by
  unfold Sp.isName; rw [h, Bool.false_and]
theorem ver_yes {s : Sp.Str} {c : UInt8} {r : Sp.Str} (h : Sp.among s Sp.verS 1 16 = true) (hs : s = c :: r) : Sp.isVer s = Sp.isDig c := by
  unfold Sp.isVer; rw [h, Bool.true_and, hs]; rfl
theorem ver_no {s : Sp.Str} (h : Sp.among s Sp.verS 1 16 = false) : Sp.isVer s = false := by
  unfold Sp.isVer; rw [h, Bool.false_and]
end W1
theorem smallS_arr : bl ⟨#[97, 98, 99, 100, 101, 102, 103, 104, 105, 106, 107, 108, 109, 110, 111, 112, 113, 114, 115, 116, 117, 118, 119, 120, 121, 122]⟩ = Sp.smallS := rfl
theorem name_yes {G : Nat} (s : ByteArray) (w : World) (hG : Glob G w) (hn : Sp.isName (bl s) = true) :
    Calls Tryz.prog 153 #[.string s] w fun e w' => e = .returned (.string s) ∧ Below w.heap.size w w' := by
  have ha : Sp.among (bl s) Sp.nameS 1 12 = true := by unfold Sp.isName at hn; simp at hn; exact hn.1
  have hsz := (W1.among_size ha).1
  rw [bl_len] at hsz
  obtain ⟨c, r, hcr, hone, _⟩ := W1.head_one s hsz
  have hcon : Lib.contains Sp.smallS [c] = true := by rw [← W1.name_yes ha hcr]; exact hn
  have HA := Lib.hid ha
  have HO := Lib.hid hone
  have HC := Lib.hid hcon
  clear ha hone hcon hn hcr
  go_enter Tryz.func153, Tryz.ntmps153
  go_wp2_with fail
  refine (among_any s _ 1 12 w (by decide) (W1.ascii_of (by decide))).mono ?_
  rintro e w1 ⟨rfl, hb⟩
  rw [W1.nameS_arr, HA.out]
  go_wp2_with fail
  refine (contains_any _ _ w1 (hG.keep hb) (by decide)).mono ?_
  rintro e w2 ⟨rfl, rfl⟩
  rw [smallS_arr, HO.out, HC.out]
  go_wp2_with fail
  refine (must_true _).mono ?_
  rintro e w2 ⟨rfl, rfl⟩
  go_wp2
  go_ret
  exact ⟨rfl, hb⟩
theorem name_no {G : Nat} (s : ByteArray) (w : World) (hG : Glob G w) (hn : Sp.isName (bl s) = false) :
    Calls Tryz.prog 153 #[.string s] w fun e w' => e = .panicked [{v := .iface 177 (.agg #[]), recovered := false}] ∧ Below w.heap.size w w' := by
  cases ha : Sp.among (bl s) Sp.nameS 1 12 with
  | false =>
    have HA := Lib.hid ha
    clear ha hn
    go_enter Tryz.func153, Tryz.ntmps153
    go_wp2_with fail
    refine (among_any s _ 1 12 w (by decide) (W1.ascii_of (by decide))).mono ?_
    rintro e w1 ⟨rfl, hb⟩
    rw [W1.nameS_arr, HA.out]
    go_wp2_with fail
    refine (must_false _).mono ?_
    rintro e w2 ⟨rfl, rfl⟩
    go_wp2
    exact ⟨rfl, rfl, hb⟩
  | true =>
    have hsz := (W1.among_size ha).1
    rw [bl_len] at hsz
    obtain ⟨c, r, hcr, hone, _⟩ := W1.head_one s hsz
    have hcon : Lib.contains Sp.smallS [c] = false := by rw [← W1.name_yes ha hcr]; exact hn
    have HA := Lib.hid ha
    have HO := Lib.hid hone
    have HC := Lib.hid hcon
    clear ha hone hcon hn hcr
    go_enter Tryz.func153, Tryz.ntmps153
    go_wp2_with fail
    refine (among_any s _ 1 12 w (by decide) (W1.ascii_of (by decide))).mono ?_
    rintro e w1 ⟨rfl, hb⟩
    rw [W1.nameS_arr, HA.out]
    go_wp2_with fail
    refine (contains_any _ _ w1 (hG.keep hb) (by decide)).mono ?_
    rintro e w2 ⟨rfl, rfl⟩
    rw [smallS_arr, HO.out, HC.out]
    go_wp2_with fail
    refine (must_false _).mono ?_
    rintro e w2 ⟨rfl, rfl⟩
    go_wp2
    exact ⟨rfl, rfl, hb⟩
theorem upS : Lib.toUpperA (bl ⟨#[97, 98, 99, 100, 101, 102, 103, 104, 105, 106, 107, 108, 109, 110, 111, 112, 113, 114, 115, 116, 117, 118, 119, 120, 121, 122]⟩) = [65, 66, 67, 68, 69, 70, 71, 72, 73, 74, 75, 76, 77, 78, 79, 80, 81, 82, 83, 84, 85, 86, 87, 88, 89, 90] := by decide +kernel
theorem verS_arr (x : ByteArray) (h : bl x = Sp.verS) : x.size < 4294967281 ∧ ∀ (j : Nat) (b : UInt8), (bl x)[j]? = some b → b.toNat < 128 := by
  refine ⟨?_, ?_⟩
  · rw [← bl_len, h]; decide
  · rw [h]; exact W1.ascii_of (by decide)
theorem ver_arg : bl ((⟨#[97, 98, 99, 100, 101, 102, 103, 104, 105, 106, 107, 108, 109, 110, 111, 112, 113, 114, 115, 116, 117, 118, 119, 120, 121, 122]⟩ : ByteArray) ++ ⟨([65, 66, 67, 68, 69, 70, 71, 72, 73, 74, 75, 76, 77, 78, 79, 80, 81, 82, 83, 84, 85, 86, 87, 88, 89, 90] : List UInt8).toArray⟩ ++ ⟨#[48, 49, 50, 51, 52, 53, 54, 55, 56, 57]⟩ ++ ⟨#[46, 43, 45, 126]⟩) = Sp.verS := by
  rw [bl_app, bl_app, bl_app]; rfl
theorem ver_yes (s : ByteArray) (w : World) (hn : Sp.isVer (bl s) = true) :
    Calls Tryz.prog 154 #[.string s] w fun e w' => e = .returned (.string s) ∧ Below w.heap.size w w' := by
  have ha : Sp.among (bl s) Sp.verS 1 16 = true := by unfold Sp.isVer at hn; simp at hn; exact hn.1
  have hsz := (W1.among_size ha).1
  rw [bl_len] at hsz
  obtain ⟨c, r, hcr, _, hc0⟩ := W1.head_one s hsz
  have hcon : Sp.isDig c = true := by rw [← W1.ver_yes ha hcr]; exact hn
  have HA := Lib.hid ha
  have HC := Lib.hid hcon
  have H0 := Lib.hid hc0
  clear ha hcon hn hcr hc0
  go_enter Tryz.func154, Tryz.ntmps154
  go_wp2_with fail
  refine (upper_any _ _ (by decide) (W1.ascii_of (by decide))).mono ?_
  rintro e w1 ⟨rfl, hb1⟩
  rw [upS]
  go_wp2_with fail
  refine (among_any s _ 1 16 w1 (verS_arr _ ver_arg).1 (verS_arr _ ver_arg).2).mono ?_
  rintro e w2 ⟨rfl, hb2⟩
  rw [ver_arg, HA.out]
  go_wp2_with fail
  rw [show (s[0].toNat : Int) = (c.toNat : Int) from by rw [H0.out]]
  refine (digit_any c w2).mono ?_
  rintro e w3 ⟨rfl, rfl⟩
  rw [HC.out]
  go_wp2_with fail
  refine (must_true _).mono ?_
  rintro e w3 ⟨rfl, rfl⟩
  go_wp2
  go_ret
  exact ⟨rfl, hb1.trans (hb2.mono hb1.size)⟩
theorem ver_no (s : ByteArray) (w : World) (hn : Sp.isVer (bl s) = false) :
    Calls Tryz.prog 154 #[.string s] w fun e w' => e = .panicked [{v := .iface 177 (.agg #[]), recovered := false}] ∧ Below w.heap.size w w' := by
  cases ha : Sp.among (bl s) Sp.verS 1 16 with
  | false =>
    have HA := Lib.hid ha
    clear ha hn
    go_enter Tryz.func154, Tryz.ntmps154
    go_wp2_with fail
    refine (upper_any _ _ (by decide) (W1.ascii_of (by decide))).mono ?_
    rintro e w1 ⟨rfl, hb1⟩
    rw [upS]
    go_wp2_with fail
    refine (among_any s _ 1 16 w1 (verS_arr _ ver_arg).1 (verS_arr _ ver_arg).2).mono ?_
    rintro e w2 ⟨rfl, hb2⟩
    rw [ver_arg, HA.out]
    go_wp2_with fail
    refine (must_false _).mono ?_
    rintro e w3 ⟨rfl, rfl⟩
    go_wp2
    exact ⟨rfl, rfl, hb1.trans (hb2.mono hb1.size)⟩
  | true =>
    have hsz := (W1.among_size ha).1
    rw [bl_len] at hsz
    obtain ⟨c, r, hcr, _, hc0⟩ := W1.head_one s hsz
    have hcon : Sp.isDig c = false := by rw [← W1.ver_yes ha hcr]; exact hn
    have HA := Lib.hid ha
    have HC := Lib.hid hcon
    have H0 := Lib.hid hc0
    clear ha hcon hn hcr hc0
    go_enter Tryz.func154, Tryz.ntmps154
    go_wp2_with fail
    refine (upper_any _ _ (by decide) (W1.ascii_of (by decide))).mono ?_
    rintro e w1 ⟨rfl, hb1⟩
    rw [upS]
    go_wp2_with fail
    refine (among_any s _ 1 16 w1 (verS_arr _ ver_arg).1 (verS_arr _ ver_arg).2).mono ?_
    rintro e w2 ⟨rfl, hb2⟩
    rw [ver_arg, HA.out]
    go_wp2_with fail
    rw [show (s[0].toNat : Int) = (c.toNat : Int) from by rw [H0.out]]
    refine (digit_any c w2).mono ?_
    rintro e w3 ⟨rfl, rfl⟩
    rw [HC.out]
    go_wp2_with fail
    refine (must_false _).mono ?_
    rintro e w3 ⟨rfl, rfl⟩
    go_wp2
    exact ⟨rfl, rfl, hb1.trans (hb2.mono hb1.size)⟩
end Go.Proofs.YtfphcecjhdkcoaaGreatDoor

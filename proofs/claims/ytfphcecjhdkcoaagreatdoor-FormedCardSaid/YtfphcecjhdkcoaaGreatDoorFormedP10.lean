/-
Walks on sets of packages: a range over a set; its size; the first path that clashes; an error about a package.
-/
import Derived.Test.YtfphcecjhdkcoaaGreatDoorFormedP02
import Derived.Test.YtfphcecjhdkcoaaGreatDoorFormedP04
import Derived.Test.YtfphcecjhdkcoaaGreatDoorFormedP09
import Derived.Test.YtfphcecjhdkcoaaGreatDoorProg
import Derived.BigQuiet
import Derived.StillTailTactics
import Derived.WalkMore
/-
Plain: sets of packages: what lacks, bars, clashes; in which order; what is planned, installed, removed.
-/
namespace Go.Proofs.YtfphcecjhdkcoaaGreatDoor
namespace Sp
def signOk (s : Str) (o : Int) : Bool :=
  if s == [60, 60] then decide (o < 0) else if s == [60, 61] then decide (o ≤ 0) else if s == [61] then decide (o = 0) else if s == [62, 61] then decide (0 ≤ o) else if s == [62, 62] then decide (0 < o) else true
/-- Is a package what is asked for? -/
def fits (c : Ch) (p : Pk) : Bool := c.name == p.name && signOk c.sign (cmp p.ver c.ver)
def any1 (g : List Ch) (l : List Pk) : Bool := g.any fun c => l.any (fits c)
/-- Of two names the lesser (none: the other). -/
def first (a b : Str) : Str := if a.isEmpty || (!b.isEmpty && strLt b a) then b else a
def least (l : List Str) : Str := l.foldl first []
def lacks (l : List Pk) (p : Pk) : Bool := p.needs.any fun g => !any1 g l
def lacking (l : List Pk) : Str := least ((l.filter (lacks l)).map (·.name))
def barsOne (l : List Pk) (p : Pk) : Bool := l.any fun q => q.name != p.name && any1 p.bars [q]
def barring (l : List Pk) : Str := least ((l.filter (barsOne l)).map (·.name))
def paths (l : List Pk) : List Str := l.flatMap fun p => p.files.map (·.path)
def clashAt (l : List Pk) (x : Str) : Bool := (paths l).any (over x) || decide (2 ≤ (paths l).count x)
def clash (l : List Pk) : Str := least ((paths l).filter (clashAt l))
def waitsFor (there : List Pk) (p q : Pk) : Bool := p.needs.any fun g => !any1 g there && !any1 g [p] && any1 g [q]
def free (there left : List Pk) : List Pk := left.filter fun p => !left.any (waitsFor there p)
def orderN (there : List Pk) : Nat → List Pk → List Str × List Pk
  | 0, left => ([], left)
  | n + 1, left =>
    if (least ((free there left).map (·.name))).isEmpty then ([], left)
    else ((least ((free there left).map (·.name))) :: (orderN there n (left.filter fun p => p.name != least ((free there left).map (·.name)))).1, (orderN there n (left.filter fun p => p.name != least ((free there left).map (·.name)))).2)
def order (there fresh : List Pk) : List Str × List Pk := orderN there fresh.length fresh
structure Fault where
  kind : Nat
  which : Nat
  line : Nat
  name : Str
def okF : Fault := ⟨0, 0, 0, []⟩
/-- The texts as packages; or the first that is none. -/
def readAll (i : Nat) : List Str → Fault ⊕ List Pk
  | [] => .inr []
  | t :: r => match parse t with
    | .inl n => .inl ⟨1, i, n, []⟩
    | .inr p => match readAll (i + 1) r with
      | .inl f => .inl f
      | .inr l => .inr (p :: l)
def names (l : List Pk) : List Str := l.map (·.name)
/-- The packages behind those that are there; or the first that is there already. -/
def addAll (i : Nat) (there : List Pk) : List Pk → Fault ⊕ List Pk
  | [] => .inr there
  | p :: r => if (names there).contains p.name then .inl ⟨2, i, 0, p.name⟩ else addAll (i + 1) (there ++ [p]) r
def judged (there fresh all : List Pk) : Fault ⊕ List Str :=
  if !(lacking all).isEmpty then .inl ⟨4, 0, 0, lacking all⟩
  else if !(barring all).isEmpty then .inl ⟨5, 0, 0, barring all⟩
  else if !(clash all).isEmpty then .inl ⟨6, 0, 0, clash all⟩
  else if !(order there fresh).2.isEmpty then .inl ⟨7, 0, 0, least (names (order there fresh).2)⟩
  else .inr (order there fresh).1
/-- What there would be with new packages, and their order; or the error. -/
def planned (there : List Pk) (texts : List Str) : Fault ⊕ (List Pk × List Str) :=
  match readAll 0 texts with
  | .inl f => .inl f
  | .inr fresh => match addAll 0 there fresh with
    | .inl f => .inl f
    | .inr all => match judged there fresh all with
      | .inl f => .inl f
      | .inr o => .inr (all, o)
def size (l : List Pk) : Nat := (l.map fun p => (print p).length).sum
def removeAll (i : Nat) (l : List Pk) : List Str → Fault ⊕ List Pk
  | [] => .inr l
  | n :: r => if (names l).contains n then removeAll (i + 1) (l.filter fun p => p.name != n) r else .inl ⟨3, i, 0, n⟩
def removed (l : List Pk) (ns : List Str) : Fault ⊕ List Pk :=
  match removeAll 0 l ns with
  | .inl f => .inl f
  | .inr all => if !(lacking all).isEmpty then .inl ⟨4, 0, 0, lacking all⟩ else .inr all
def installed (there : List Pk) (texts : List Str) (room : Nat) : Fault ⊕ List Pk :=
  match planned there texts with
  | .inl f => .inl f
  | .inr (all, _) => if room < size all then .inl ⟨8, 0, 0, []⟩ else .inr all
def sorted (l : List Str) : List Str := l.mergeSort fun x y => decide (x ≤ y)
def find? (l : List Pk) (n : Str) : Option Pk := l.find? fun p => p.name == n
/-- The texts of packages, by name. -/
def texts (l : List Pk) : List Str := (sorted (names l)).filterMap fun n => (find? l n).map print
/-- Whose path it is ([]: nobody's). -/
def owner (l : List Pk) (path : Str) : Str := match l.find? fun p => (p.files.map (·.path)).contains path with
  | some p => p.name
  | none => []
end Sp
namespace V5
open Sp (Str Pk)
theorem le_trans {a b c : Str} (h1 : a ≤ b) (h2 : b ≤ c) : a ≤ c := List.le_trans h1 h2
theorem least_spec : ∀ (l : List Str) (a : Str), (∀ x ∈ l, x ≠ []) → (l = [] ∧ l.foldl Sp.first a = a) ∨ (l ≠ [] ∧ (l.foldl Sp.first a = a ∨ l.foldl Sp.first a ∈ l) ∧ l.foldl Sp.first a ≠ [] ∧ (a ≠ [] → l.foldl Sp.first a ≤ a) ∧ ∀ x ∈ l, l.foldl Sp.first a ≤ x)
  | [], a, _ => .inl ⟨rfl, rfl⟩
  | b :: r, a, h => by
    have hb := h b (by simp)
    right
    rw [List.foldl_cons]
    have hf : (Sp.first a b = a ∨ Sp.first a b = b) ∧ Sp.first a b ≠ [] ∧ (a ≠ [] → Sp.first a b ≤ a) ∧ Sp.first a b ≤ b := by
      unfold Sp.first
      split
      · rename_i hc
        refine ⟨.inr rfl, hb, fun ha => ?_, List.le_refl _⟩
        rw [Bool.or_eq_true] at hc
        rcases hc with hc | hc
        · exact absurd (List.isEmpty_iff.1 hc) ha
        · rw [Bool.and_eq_true, P3.lt_iff] at hc; exact List.le_of_lt hc.2
      · rename_i hc
        simp only [Bool.or_eq_true, not_or, Bool.and_eq_true, Bool.not_eq_true', not_and] at hc
        have ha : a ≠ [] := fun e => hc.1 (by rw [e]; rfl)
        refine ⟨.inl rfl, ha, fun _ => List.le_refl _, ?_⟩
        have := hc.2 (by cases b; exact absurd rfl hb; rfl)
        rw [P3.lt_iff] at this
        exact List.not_lt.1 this
    obtain ⟨f1, f2, f3, f4⟩ := hf
    rcases least_spec r (Sp.first a b) fun x hx => h x (List.mem_cons_of_mem _ hx) with ⟨rfl, e⟩ | ⟨_, e1, e2, e3, e4⟩
    · rw [e]
      refine ⟨by simp, ?_, f2, f3, fun x hx => ?_⟩
      · rcases f1 with f1 | f1
        · exact .inl f1
        · right; rw [f1]; simp
      · rw [List.mem_singleton] at hx; subst hx; exact f4
    · refine ⟨by simp, ?_, e2, fun ha => le_trans (e3 f2) (f3 ha), fun x hx => ?_⟩
      · rcases e1 with e1 | e1
        · rw [e1]
          rcases f1 with f1 | f1
          · exact .inl f1
          · right; rw [f1]; simp
        · right; exact List.mem_cons_of_mem _ e1
      · rcases List.mem_cons.1 hx with rfl | hx
        · exact le_trans (e3 f2) f4
        · exact e4 x hx
theorem least_nil : Sp.least [] = [] := rfl
theorem least_mem {l : List Str} (h : ∀ x ∈ l, x ≠ []) (hl : l ≠ []) : Sp.least l ∈ l ∧ Sp.least l ≠ [] ∧ ∀ x ∈ l, Sp.least l ≤ x := by
  rcases least_spec l [] h with ⟨e, _⟩ | ⟨_, e1, e2, _, e4⟩
  · exact absurd e hl
  · rcases e1 with e1 | e1
    · exact absurd e1 e2
    · exact ⟨e1, e2, e4⟩
theorem least_eq {l : List Str} (h : ∀ x ∈ l, x ≠ []) {r : Str} (hr : r ∈ l) (hm : ∀ x ∈ l, r ≤ x) : Sp.least l = r := by
  obtain ⟨h1, _, h3⟩ := least_mem h (List.ne_nil_of_mem hr)
  exact List.le_antisymm (h3 r hr) (hm _ h1)
theorem least_none {l : List Str} (h : ∀ x ∈ l, x ≠ []) : Sp.least l = [] ↔ l = [] := by
  constructor
  · intro e
    by_cases hl : l = []
    · exact hl
    · exact absurd e (least_mem h hl).2.1
  · rintro rfl; rfl
theorem least_congr {l r : List Str} (h : ∀ x ∈ l, x ≠ []) (he : ∀ x, x ∈ l ↔ x ∈ r) : Sp.least l = Sp.least r := by
  have hr : ∀ x ∈ r, x ≠ [] := fun x hx => h x ((he x).2 hx)
  by_cases hl : l = []
  · subst hl
    have : r = [] := List.eq_nil_iff_forall_not_mem.2 fun x hx => by have := (he x).2 hx; cases this
    rw [this]
  · obtain ⟨h1, _, h3⟩ := least_mem h hl
    exact (least_eq hr ((he _).1 h1) fun x hx => h3 x ((he x).2 hx)).symm
/-- In a row in order the first of a kind is the least. -/
theorem least_find {ns : List Str} (ho : ns.Pairwise (· ≤ ·)) (h : ∀ x ∈ ns, x ≠ []) (P : Str → Bool) : Sp.least (ns.filter P) = (ns.find? P).getD [] := by
  have hf : ∀ x ∈ ns.filter P, x ≠ [] := fun x hx => h x (List.mem_filter.1 hx).1
  cases hp : ns.find? P with
  | none =>
    rw [List.find?_eq_none] at hp
    have : ns.filter P = [] := List.filter_eq_nil_iff.2 hp
    rw [this]; rfl
  | some n =>
    obtain ⟨h1, as0, bs, rfl, h2⟩ := List.find?_eq_some_iff_append.1 hp
    refine least_eq hf (by simp [h1]) fun x hx => ?_
    obtain ⟨hx1, hx2⟩ := List.mem_filter.1 hx
    rcases List.mem_append.1 hx1 with hx1 | hx1
    · have := h2 x hx1
      rw [hx2] at this; cases this
    · rcases List.mem_cons.1 hx1 with rfl | hx1
      · exact List.le_refl _
      · exact (List.pairwise_cons.1 (List.pairwise_append.1 ho).2.1).1 x hx1
theorem any1_perm {g : List Sp.Ch} {l r : List Pk} (h : ∀ p, p ∈ l ↔ p ∈ r) : Sp.any1 g l = Sp.any1 g r := by
  unfold Sp.any1
  congr 1; funext c
  rw [Bool.eq_iff_iff, List.any_eq_true, List.any_eq_true]
  exact ⟨fun ⟨p, hp, hf⟩ => ⟨p, (h p).1 hp, hf⟩, fun ⟨p, hp, hf⟩ => ⟨p, (h p).2 hp, hf⟩⟩
theorem lacks_perm {l r : List Pk} (h : ∀ p, p ∈ l ↔ p ∈ r) (p : Pk) : Sp.lacks l p = Sp.lacks r p := by
  unfold Sp.lacks
  congr 1; funext g
  rw [any1_perm h]
theorem names_ne {l : List Pk} (h : ∀ p ∈ l, p.name ≠ []) (P : Pk → Bool) : ∀ x ∈ (l.filter P).map (·.name), x ≠ [] := by
  intro x hx
  obtain ⟨p, hp, rfl⟩ := List.mem_map.1 hx
  exact h p (List.mem_filter.1 hp).1
theorem mem_names_filter {l r : List Pk} (h : ∀ p, p ∈ l ↔ p ∈ r) {P Q : Pk → Bool} (hPQ : ∀ p, P p = Q p) (x : Str) : x ∈ (l.filter P).map (·.name) ↔ x ∈ (r.filter Q).map (·.name) := by
  simp only [List.mem_map, List.mem_filter]
  constructor
  · rintro ⟨p, ⟨h1, h2⟩, rfl⟩; exact ⟨p, ⟨(h p).1 h1, by rw [← hPQ]; exact h2⟩, rfl⟩
  · rintro ⟨p, ⟨h1, h2⟩, rfl⟩; exact ⟨p, ⟨(h p).2 h1, by rw [hPQ]; exact h2⟩, rfl⟩
theorem lacking_perm {l r : List Pk} (hn : ∀ p ∈ l, p.name ≠ []) (h : ∀ p, p ∈ l ↔ p ∈ r) : Sp.lacking l = Sp.lacking r :=
  least_congr (names_ne hn _) (mem_names_filter h (lacks_perm h))
theorem bars_perm {l r : List Pk} (h : ∀ p, p ∈ l ↔ p ∈ r) (p : Pk) : Sp.barsOne l p = Sp.barsOne r p := by
  unfold Sp.barsOne
  rw [Bool.eq_iff_iff, List.any_eq_true, List.any_eq_true]
  exact ⟨fun ⟨q, hq, hf⟩ => ⟨q, (h q).1 hq, hf⟩, fun ⟨q, hq, hf⟩ => ⟨q, (h q).2 hq, hf⟩⟩
theorem barring_perm {l r : List Pk} (hn : ∀ p ∈ l, p.name ≠ []) (h : ∀ p, p ∈ l ↔ p ∈ r) : Sp.barring l = Sp.barring r :=
  least_congr (names_ne hn _) (mem_names_filter h (bars_perm h))
theorem paths_perm {l r : List Pk} (h : l.Perm r) : (Sp.paths l).Perm (Sp.paths r) := h.flatMap_right _
theorem clash_perm {l r : List Pk} (hn : ∀ x ∈ Sp.paths l, x ≠ []) (h : l.Perm r) : Sp.clash l = Sp.clash r := by
  have hp := paths_perm h
  have e : ∀ x, Sp.clashAt l x = Sp.clashAt r x := by
    intro x
    unfold Sp.clashAt
    rw [hp.count_eq]
    congr 1
    rw [Bool.eq_iff_iff, List.any_eq_true, List.any_eq_true]
    exact ⟨fun ⟨q, hq, hf⟩ => ⟨q, hp.mem_iff.1 hq, hf⟩, fun ⟨q, hq, hf⟩ => ⟨q, hp.mem_iff.2 hq, hf⟩⟩
  refine least_congr (fun x hx => hn x (List.mem_filter.1 hx).1) fun x => ?_
  rw [List.mem_filter, List.mem_filter, e, hp.mem_iff]
theorem waits_perm {t u : List Pk} (h : ∀ p, p ∈ t ↔ p ∈ u) (p q : Pk) : Sp.waitsFor t p q = Sp.waitsFor u p q := by
  unfold Sp.waitsFor
  congr 1; funext g
  rw [any1_perm h]
theorem free_mem {t u l r : List Pk} (ht : ∀ p, p ∈ t ↔ p ∈ u) (h : ∀ p, p ∈ l ↔ p ∈ r) (p : Pk) : (!l.any (Sp.waitsFor t p)) = !r.any (Sp.waitsFor u p) := by
  congr 1
  rw [Bool.eq_iff_iff, List.any_eq_true, List.any_eq_true]
  exact ⟨fun ⟨q, hq, hf⟩ => ⟨q, (h q).1 hq, by rw [← waits_perm ht]; exact hf⟩, fun ⟨q, hq, hf⟩ => ⟨q, (h q).2 hq, by rw [waits_perm ht]; exact hf⟩⟩
theorem order_perm {t u : List Pk} (ht : ∀ p, p ∈ t ↔ p ∈ u) : ∀ (n : Nat) {l r : List Pk}, (∀ p ∈ l, p.name ≠ []) → l.Perm r → (Sp.orderN t n l).1 = (Sp.orderN u n r).1 ∧ (Sp.orderN t n l).2.Perm (Sp.orderN u n r).2
  | 0, l, r, _, h => ⟨rfl, h⟩
  | n + 1, l, r, hn, h => by
    have e : Sp.least ((Sp.free t l).map (·.name)) = Sp.least ((Sp.free u r).map (·.name)) :=
      least_congr (names_ne hn _) (mem_names_filter (fun p => h.mem_iff) (free_mem ht fun p => h.mem_iff))
    unfold Sp.orderN
    rw [e]
    split
    · exact ⟨rfl, h⟩
    · have hf := h.filter fun p => p.name != Sp.least ((Sp.free u r).map (·.name))
      obtain ⟨h1, h2⟩ := order_perm ht n (fun p hp => hn p (List.mem_filter.1 hp).1) hf
      exact ⟨by rw [h1], h2⟩
end V5
end Go.Proofs.YtfphcecjhdkcoaaGreatDoor
/-
Plain: the disk: what is written, what takes hold, what is found again.
-/
namespace Go.Proofs.YtfphcecjhdkcoaaGreatDoor
namespace Sp
/-- The sum of bytes. -/
def sumN (h : Nat) (b : Str) : Nat := b.foldl (fun h c => ((h ^^^ c.toNat) * 1099511628211) % 18446744073709551616) h
def sum (b : Str) : Nat := sumN 14695981039346656037 b
def put (x : Nat) : Str := [56, 48, 40, 32, 24, 16, 8, 0].map fun k => UInt8.ofNat (x / 2 ^ k)
def num8 (b : Str) : Nat := b.foldl (fun a c => a * 256 + c.toNat) 0
/-- A head: its number, how many bytes lie in its area, their sum, its own sum. -/
def headB (n sz sm : Nat) : Str := put n ++ put sz ++ put sm ++ put (sum (put n ++ put sz ++ put sm))
structure Hd where
  number : Nat
  size : Nat
  sum : Nat
  ok : Bool
def headOf (b : Str) : Hd :=
  { number := num8 (b.take 8), size := num8 ((b.drop 8).take 8), sum := num8 ((b.drop 16).take 8), ok := decide (0 < num8 (b.take 8)) && decide (num8 ((b.drop 24).take 8) = Sp.sum (b.take 24)) }
def areaN (S : Nat) : Nat := (S - 2) / 2
def areaFrom (S number : Nat) : Nat := 2 + number % 2 * areaN S
def areaB (s : List Str) (number : Nat) : Str := ((List.range (areaN s.length)).map fun i => s.getD (areaFrom s.length number + i) []).flatten
/-- One head is looked at: is it a later one, and good? -/
def loadOne (s : List Str) (acc : Str × Nat) (i : Nat) : Str × Nat :=
  if (headOf (s.getD i [])).ok && decide (acc.2 < (headOf (s.getD i [])).number) && decide ((headOf (s.getD i [])).size ≤ areaN s.length * 64) && decide (sum ((areaB s (headOf (s.getD i [])).number).take (headOf (s.getD i [])).size) = (headOf (s.getD i [])).sum)
  then ((areaB s (headOf (s.getD i [])).number).take (headOf (s.getD i [])).size, (headOf (s.getD i [])).number) else acc
def load (s : List Str) (last : Nat) : Str × Nat := loadOne s (loadOne s ([], last) 0) 1
structure Dk where
  held : List Str
  seen : List Str
  late : List (Nat × Str)
  left : Int
  dead : Bool
def pad (d : Str) : Str := (d ++ List.replicate 64 0).take 64
namespace Dk
/-- One operation more. -/
def lost (d : Dk) : Dk := { d with dead := d.dead || decide (d.left = 0), left := if 0 < d.left then d.left - 1 else d.left }
def write (d : Dk) (n : Nat) (b : Str) : Dk :=
  if n < d.seen.length then
    { held := d.held, seen := d.seen.set n (pad b), late := if (d.dead || decide (d.left = 0)) = true then d.late else d.late ++ [(n, pad b)], left := if 0 < d.left then d.left - 1 else d.left, dead := d.dead || decide (d.left = 0) }
  else d
def hold (h : List Str) (l : List (Nat × Str)) : List Str := l.foldl (fun h w => h.set w.1 w.2) h
def sync (d : Dk) : Dk :=
  if (d.dead || decide (d.left = 0)) = true then d.lost else { d.lost with held := hold d.held d.late, late := [] }
def bit (mask : Int) (i : Nat) : Bool := decide (mask / 2 ^ (i % 60) % 2 = 1)
/-- Of what had not taken hold: that which does. -/
def some (dead : Bool) (mask : Int) (i : Nat) : List (Nat × Str) → List (Nat × Str)
  | [] => []
  | w :: r => if !dead || bit mask i then w :: some dead mask (i + 1) r else some dead mask (i + 1) r
def back (d : Dk) (mask : Int) : Dk :=
  { held := hold d.held (some d.dead mask 0 d.late), seen := hold d.held (some d.dead mask 0 d.late), late := [], left := -1, dead := false }
def cut (d : Dk) (after : Int) : Dk := { d with left := max after (-1) }
/-- Bytes are written, sector by sector. -/
def writes (d : Dk) (n : Nat) : List Str → Dk
  | [] => d
  | c :: r => writes (d.write n c) (n + 1) r
end Dk
def chunksN : Nat → Str → List Str
  | 0, _ => []
  | n + 1, b => if b.isEmpty then [] else b.take 64 :: chunksN n (b.drop 64)
def chunks (b : Str) : List Str := chunksN b.length b
/-- Bytes lie there from now on, or what lay there does. -/
def save (d : Dk) (last : Nat) (b : Str) : Dk :=
  (((d.writes (areaFrom d.seen.length (last + 1)) (chunks b)).sync).write ((last + 1) % 2) (headB (last + 1) b.length (sum b))).sync
def fresh (S : Nat) : Dk := { held := List.replicate S (List.replicate 64 0), seen := List.replicate S (List.replicate 64 0), late := [], left := -1, dead := false }
end Sp
namespace V6
open Sp (Str Dk)
theorem num8_lt : ∀ (b : Str) (a : Nat), b.foldl (fun a c => a * 256 + c.toNat) a < (a + 1) * 256 ^ b.length
  | [], a => by simp
  | c :: r, a => by
    rw [List.foldl_cons]
    have := num8_lt r (a * 256 + c.toNat)
    have hc := c.toNat_lt
    have e : (c :: r).length = r.length + 1 := rfl
    rw [e, Nat.pow_succ]
    refine Nat.lt_of_lt_of_le this ?_
    have : a * 256 + c.toNat + 1 ≤ (a + 1) * 256 := by omega
    calc (a * 256 + c.toNat + 1) * 256 ^ r.length ≤ ((a + 1) * 256) * 256 ^ r.length := Nat.mul_le_mul_right _ this
      _ = (a + 1) * (256 ^ r.length * 256) := by rw [Nat.mul_assoc, Nat.mul_comm 256]
theorem put_len (x : Nat) : (Sp.put x).length = 8 := rfl
theorem num8_put (x : Nat) (h : x < 18446744073709551616) : Sp.num8 (Sp.put x) = x := by
  unfold Sp.num8 Sp.put
  simp only [List.map_cons, List.map_nil, List.foldl_cons, List.foldl_nil, UInt8.toNat_ofNat']
  omega
theorem sumN_lt : ∀ (b : Str) (h : Nat), h < 18446744073709551616 → Sp.sumN h b < 18446744073709551616
  | [], h, hh => hh
  | c :: r, h, _ => by
    unfold Sp.sumN
    rw [List.foldl_cons]
    exact sumN_lt r _ (Nat.mod_lt _ (by decide))
theorem sum_lt (b : Str) : Sp.sum b < 18446744073709551616 := sumN_lt b _ (by decide)
theorem headB_len (n sz sm : Nat) : (Sp.headB n sz sm).length = 32 := by unfold Sp.headB; simp [put_len]
/-- A head, padded to a sector, is read as what it was. -/
theorem headOf_headB (n sz sm : Nat) (hn : n < 18446744073709551616) (hn0 : 0 < n) (hz : sz < 18446744073709551616) (hm : sm < 18446744073709551616) :
    Sp.headOf (Sp.pad (Sp.headB n sz sm)) = { number := n, size := sz, sum := sm, ok := true } := by
  have e : Sp.pad (Sp.headB n sz sm) = Sp.put n ++ (Sp.put sz ++ (Sp.put sm ++ (Sp.put (Sp.sum (Sp.put n ++ Sp.put sz ++ Sp.put sm)) ++ List.replicate 32 0))) := by
    unfold Sp.pad
    rw [List.take_append, headB_len, List.take_of_length_le (by rw [headB_len]; omega)]
    unfold Sp.headB
    simp
  have t : ∀ (x : Nat) (r : Str), (Sp.put x ++ r).take 8 = Sp.put x ∧ (Sp.put x ++ r).drop 8 = r := fun x r => ⟨List.take_left' (put_len x), List.drop_left' (put_len x)⟩
  have e24 : (Sp.pad (Sp.headB n sz sm)).take 24 = Sp.put n ++ Sp.put sz ++ Sp.put sm := by
    rw [e, ← List.append_assoc, ← List.append_assoc]
    exact List.take_left' (by simp [put_len])
  have d8 := congrArg (List.drop 8) e
  rw [(t n _).2] at d8
  have d16 := congrArg (List.drop 8) d8
  rw [List.drop_drop, (t sz _).2] at d16
  have d24 := congrArg (List.drop 8) d16
  rw [List.drop_drop, (t sm _).2] at d24
  simp only [Nat.reduceAdd] at d16 d24
  unfold Sp.headOf
  rw [e24, d8, d16, d24, e, (t n _).1, (t sz _).1, (t sm _).1, (t _ _).1, num8_put n hn, num8_put sz hz, num8_put sm hm, num8_put _ (sum_lt _)]
  simp [hn0]
theorem headOf_zero : (Sp.headOf (List.replicate 64 0)).ok = false := by decide +kernel
/-- What lies on a disk: the bytes b, under head N. -/
structure Lies (S : Nat) (s : List Str) (N : Nat) (b : Str) : Prop where
  len : s.length = S
  big : 4 ≤ S
  secs : ∀ x ∈ s, x.length = 64
  none : N = 0 → b = []
  head : 0 < N → Sp.headOf (s.getD (N % 2) []) = { number := N, size := b.length, sum := Sp.sum b, ok := true }
  fits : b.length ≤ Sp.areaN S * 64
  area : 0 < N → (Sp.areaB s N).take b.length = b
  other : ∀ i, i < 2 → (0 < N → i ≠ N % 2) → (Sp.headOf (s.getD i [])).ok = true → (Sp.headOf (s.getD i [])).number < N
theorem load_lies {S : Nat} {s : List Str} {N : Nat} {b : Str} (h : Lies S s N b) : Sp.load s 0 = (b, N) := by
  have hit : ∀ acc : Str × Nat, 0 < N → acc.2 < N → Sp.loadOne s acc (N % 2) = (b, N) := by
    intro acc hN ha
    unfold Sp.loadOne
    rw [h.head hN]
    simp only [h.area hN, h.len, decide_eq_true ha, decide_eq_true h.fits, Bool.and_self, if_true, decide_true]
  have miss : ∀ (acc : Str × Nat) (i : Nat), i < 2 → (0 < N → i ≠ N % 2) → (Sp.loadOne s acc i = acc ∨ ((Sp.loadOne s acc i).2 < N)) := by
    intro acc i hi hne
    unfold Sp.loadOne
    split
    · rename_i hc
      simp only [Bool.and_eq_true] at hc
      exact .inr (h.other i hi hne hc.1.1.1)
    · exact .inl rfl
  have keep : ∀ (i : Nat), i < 2 → (0 < N → i ≠ N % 2) → Sp.loadOne s (b, N) i = (b, N) := by
    intro i hi hne
    unfold Sp.loadOne
    split
    · rename_i hc
      simp only [Bool.and_eq_true, decide_eq_true_eq] at hc
      have := h.other i hi hne hc.1.1.1
      have := hc.1.1.2
      omega
    · rfl
  unfold Sp.load
  by_cases hN : 0 < N
  · rcases Nat.mod_two_eq_zero_or_one N with hp | hp
    · have := hit ([], 0) hN hN
      rw [hp] at this
      rw [this]
      exact keep 1 (by omega) (fun _ => by omega)
    · have := miss ([], 0) 0 (by omega) (fun _ => by omega)
      have h1 : (Sp.loadOne s ([], 0) 0).2 < N := by
        rcases this with e | e
        · rw [e]; exact hN
        · exact e
      have := hit _ hN h1
      rw [hp] at this
      exact this
  · have hN0 : N = 0 := by omega
    subst hN0
    rw [h.none rfl] at keep ⊢
    rw [keep 0 (by omega) (fun e => by omega), keep 1 (by omega) (fun e => by omega)]
theorem lies_fresh (S : Nat) (h : 4 ≤ S) : Lies S (List.replicate S (List.replicate 64 0)) 0 [] := by
  have hg : ∀ i, i < 2 → (List.replicate S (List.replicate 64 (0 : UInt8))).getD i [] = List.replicate 64 0 := by
    intro i hi
    simp [List.getD, show i < S from by omega]
  refine ⟨by simp, h, fun x hx => by rw [List.eq_of_mem_replicate hx]; simp, fun _ => rfl, fun e => by omega, by simp, fun e => by omega, fun i hi _ ho => ?_⟩
  rw [hg i hi, headOf_zero] at ho; cases ho
/-- A write beside the heads and the area of head N leaves what lies there. -/
theorem Lies.set {S : Nat} {s : List Str} {N : Nat} {b : Str} (h : Lies S s N b) (k : Nat) (x : Str) (hx : x.length = 64) (hk : 2 ≤ k) (ha : 0 < N → k < Sp.areaFrom S N ∨ Sp.areaFrom S N + Sp.areaN S ≤ k) : Lies S (s.set k x) N b := by
  have hg : ∀ i, i ≠ k → (s.set k x).getD i [] = s.getD i [] := by
    intro i hi
    rw [List.getD_eq_getElem?_getD, List.getD_eq_getElem?_getD, List.getElem?_set_ne (by omega)]
  refine ⟨by rw [List.length_set]; exact h.len, h.big, fun y hy => ?_, h.none, fun hN => ?_, h.fits, fun hN => ?_, fun i hi hne => ?_⟩
  · rcases List.mem_or_eq_of_mem_set hy with hy | rfl
    · exact h.secs y hy
    · exact hx
  · rw [hg _ (by omega)]; exact h.head hN
  · have : Sp.areaB (s.set k x) N = Sp.areaB s N := by
      unfold Sp.areaB
      rw [List.length_set]
      congr 1
      refine List.map_congr_left fun i hi => ?_
      rw [List.mem_range, h.len] at hi
      rw [hg _ (by rw [h.len]; have := ha hN; omega)]
    rw [this]; exact h.area hN
  · rw [hg _ (by omega)]; exact h.other i hi hne
/-- The area of head N + 1 is not the one of head N. -/
theorem area_other (S N i : Nat) (hi : i < Sp.areaN S) : Sp.areaFrom S (N + 1) + i < Sp.areaFrom S N ∨ Sp.areaFrom S N + Sp.areaN S ≤ Sp.areaFrom S (N + 1) + i := by
  unfold Sp.areaFrom
  rcases Nat.mod_two_eq_zero_or_one N with hp | hp
  · have : (N + 1) % 2 = 1 := by omega
    rw [hp, this]; omega
  · have : (N + 1) % 2 = 0 := by omega
    rw [hp, this]; omega
theorem area_in (S N i : Nat) (hS : 4 ≤ S) (hi : i < Sp.areaN S) : 2 ≤ Sp.areaFrom S N + i ∧ Sp.areaFrom S N + i < S := by
  unfold Sp.areaFrom Sp.areaN at *
  rcases Nat.mod_two_eq_zero_or_one N with hp | hp <;> rw [hp] <;> omega
theorem flat64 : ∀ (l : List Str), (∀ x ∈ l, x.length = 64) → ∀ j, l.flatten[j]? = (l[j / 64]?).bind fun x => x[j % 64]?
  | [], _, j => by simp
  | x :: r, h, j => by
    have hx := h x (by simp)
    rw [List.flatten_cons]
    by_cases hj : j < 64
    · rw [List.getElem?_append_left (by omega), Nat.div_eq_of_lt hj, Nat.mod_eq_of_lt hj]; rfl
    · rw [List.getElem?_append_right (by omega), hx, flat64 r (fun y hy => h y (List.mem_cons_of_mem _ hy))]
      have e1 : j / 64 = (j - 64) / 64 + 1 := by omega
      have e2 : (j - 64) % 64 = j % 64 := by omega
      rw [e1, e2, List.getElem?_cons_succ]
theorem chunksN_get : ∀ (n : Nat) (b : Str), b.length ≤ n → ∀ i, (Sp.chunksN n b)[i]? = if i * 64 < b.length then some ((b.drop (i * 64)).take 64) else none
  | 0, b, h, i => by
    have : b = [] := List.length_eq_zero_iff.1 (by omega)
    subst this
    simp [Sp.chunksN]
  | n + 1, b, h, i => by
    unfold Sp.chunksN
    cases b with
    | nil => simp
    | cons c r =>
      rw [if_neg (by simp)]
      cases i with
      | zero => simp
      | succ i =>
        rw [List.getElem?_cons_succ, chunksN_get n _ (by rw [List.length_drop]; simp at h ⊢; omega), List.drop_drop, List.length_drop]
        have e : 64 + i * 64 = (i + 1) * 64 := by omega
        rw [e]
        by_cases hl : (i + 1) * 64 < (c :: r).length
        · rw [if_pos (by omega), if_pos hl]
        · rw [if_neg (by omega), if_neg hl]
theorem chunks_get (b : Str) (i : Nat) : (Sp.chunks b)[i]? = if i * 64 < b.length then some ((b.drop (i * 64)).take 64) else none := chunksN_get _ _ (Nat.le_refl _) i
theorem chunks_len (b : Str) : (Sp.chunks b).length = (b.length + 63) / 64 := by
  have h1 : ∀ i, i < (Sp.chunks b).length ↔ i * 64 < b.length := by
    intro i
    have := chunks_get b i
    constructor
    · intro h
      rw [List.getElem?_eq_getElem h] at this
      split at this
      · assumption
      · cases this
    · intro h
      rw [if_pos h] at this
      exact (List.getElem?_eq_some_iff.1 this).1
  have a := h1 ((b.length + 63) / 64)
  have c := h1 ((b.length + 63) / 64 - 1)
  omega
theorem pad_len (d : Str) : (Sp.pad d).length = 64 := by unfold Sp.pad; simp
theorem pad_get (d : Str) (j : Nat) (hj : j < 64) (hd : j < d.length) : (Sp.pad d)[j]? = d[j]? := by
  unfold Sp.pad
  rw [List.getElem?_take, if_pos hj, List.getElem?_append_left hd]
/-- The area holds bytes if its sectors hold their chunks. -/
theorem area_chunks {s : List Str} {N : Nat} {b : Str} (hs : ∀ x ∈ s, x.length = 64) (hS : 4 ≤ s.length) (hb : b.length ≤ Sp.areaN s.length * 64)
    (hc : ∀ i c, (Sp.chunks b)[i]? = some c → s[Sp.areaFrom s.length N + i]? = some (Sp.pad c)) : (Sp.areaB s N).take b.length = b := by
  refine List.ext_getElem? fun j => ?_
  rw [List.getElem?_take]
  split
  · rename_i hj
    have hi : j / 64 < Sp.areaN s.length := by omega
    have hm : ((List.range (Sp.areaN s.length)).map fun i => s.getD (Sp.areaFrom s.length N + i) [])[j / 64]? = s[Sp.areaFrom s.length N + j / 64]? := by
      obtain ⟨_, hin⟩ := area_in s.length N (j / 64) hS hi
      rw [List.getElem?_map, List.getElem?_range hi, Option.map_some, List.getD_eq_getElem?_getD, List.getElem?_eq_getElem hin]; rfl
    unfold Sp.areaB
    rw [flat64 _ (fun x hx => ?_), hm]
    · have h1 := chunks_get b (j / 64)
      rw [if_pos (by omega)] at h1
      rw [hc _ _ h1, Option.bind_some, pad_get _ _ (by omega) (by rw [List.length_take, List.length_drop]; omega), List.getElem?_take, if_pos (by omega), List.getElem?_drop]
      congr 1; omega
    · obtain ⟨i, hi, rfl⟩ := List.mem_map.1 hx
      rw [List.mem_range] at hi
      obtain ⟨_, hin⟩ := area_in s.length N i hS hi
      rw [List.getD_eq_getElem?_getD, List.getElem?_eq_getElem hin]
      exact hs _ (List.getElem_mem hin)
  · rename_i hj
    exact (List.getElem?_eq_none (by omega)).symm
end V6
end Go.Proofs.YtfphcecjhdkcoaaGreatDoor
/-
Plain: what is saved lies on the disk; where the power goes in between, what lay there does, or what was saved.
-/
namespace Go.Proofs.YtfphcecjhdkcoaaGreatDoor
namespace V7
open Sp (Str Dk)
open V6
/-- The power is there: what is seen is held, and that is b. -/
structure Calm (S N : Nat) (b : Str) (d : Dk) : Prop where
  dead : d.dead = false
  late : d.late = []
  same : d.held = d.seen
  lies : Lies S d.seen N b
/-- The power is gone: whatever takes hold, what lies there then is of the kind Q. -/
structure Torn (S : Nat) (Q : Nat → Str → Prop) (d : Dk) : Prop where
  dead : d.dead = true
  slen : d.seen.length = S
  secs : ∀ x ∈ d.seen, x.length = 64
  lies : ∀ mask, ∃ N b, Q N b ∧ Lies S (Dk.hold d.held (Dk.some true mask 0 d.late)) N b
theorem Calm.back {S N : Nat} {b : Str} {d : Dk} (h : Calm S N b d) (mask : Int) : Calm S N b (d.back mask) := by
  have e : Dk.hold d.held (Dk.some d.dead mask 0 d.late) = d.seen := by rw [h.late, ← h.same]; rfl
  refine ⟨rfl, rfl, rfl, ?_⟩
  show Lies S (Dk.hold d.held (Dk.some d.dead mask 0 d.late)) N b
  rw [e]; exact h.lies
theorem Torn.back {S : Nat} {Q : Nat → Str → Prop} {d : Dk} (h : Torn S Q d) (mask : Int) : ∃ N b, Q N b ∧ Calm S N b (d.back mask) := by
  obtain ⟨N, b, hq, hl⟩ := h.lies mask
  refine ⟨N, b, hq, rfl, rfl, rfl, ?_⟩
  show Lies S (Dk.hold d.held (Dk.some d.dead mask 0 d.late)) N b
  rw [h.dead]; exact hl
theorem Calm.cut {S N : Nat} {b : Str} {d : Dk} (h : Calm S N b d) (k : Int) : Calm S N b (d.cut k) := ⟨h.dead, h.late, h.same, h.lies⟩
theorem Torn.cut {S : Nat} {Q : Nat → Str → Prop} {d : Dk} (h : Torn S Q d) (k : Int) : Torn S Q (d.cut k) := ⟨h.dead, h.slen, h.secs, h.lies⟩
theorem Calm.fresh (S : Nat) (h : 4 ≤ S) : Calm S 0 [] (Sp.fresh S) := ⟨rfl, rfl, rfl, lies_fresh S h⟩
theorem hold_append (s : List Str) (l : List (Nat × Str)) (w : Nat × Str) : Dk.hold s (l ++ [w]) = (Dk.hold s l).set w.1 w.2 := by
  unfold Dk.hold; rw [List.foldl_append]; rfl
theorem some_sub (dead : Bool) (mask : Int) : ∀ (l : List (Nat × Str)) (i : Nat) (w : Nat × Str), w ∈ Dk.some dead mask i l → w ∈ l
  | [], _, _, h => by cases h
  | x :: r, i, w, h => by
    unfold Dk.some at h
    split at h
    · rcases List.mem_cons.1 h with rfl | h
      · exact List.mem_cons_self
      · exact List.mem_cons_of_mem _ (some_sub dead mask r _ _ h)
    · exact List.mem_cons_of_mem _ (some_sub dead mask r _ _ h)
/-- In the area of the next head. -/
def InArea (S N : Nat) (w : Nat × Str) : Prop := w.2.length = 64 ∧ ∃ i, i < Sp.areaN S ∧ w.1 = Sp.areaFrom S (N + 1) + i
theorem lies_area {S N : Nat} {b : Str} {s : List Str} (h : Lies S s N b) (w : Nat × Str) (hw : InArea S N w) : Lies S (s.set w.1 w.2) N b := by
  obtain ⟨h1, i, hi, h2⟩ := hw
  have := area_in S (N + 1) i h.big hi
  rw [h2]
  exact h.set _ _ h1 this.1 fun _ => area_other S N i hi
theorem lies_hold {S N : Nat} {b : Str} : ∀ (l : List (Nat × Str)) {s : List Str}, Lies S s N b → (∀ w ∈ l, InArea S N w) → Lies S (Dk.hold s l) N b
  | [], s, h, _ => h
  | w :: r, s, h, hw => by
    show Lies S (Dk.hold (s.set w.1 w.2) r) N b
    exact lies_hold r (lies_area h w (hw w (by simp))) fun x hx => hw x (List.mem_cons_of_mem _ hx)
/-- While the sectors of the next area are written. -/
structure Ph (S N : Nat) (b : Str) (d : Dk) : Prop where
  slen : d.seen.length = S
  secs : ∀ x ∈ d.seen, x.length = 64
  held : Lies S d.held N b
  late : ∀ w ∈ d.late, InArea S N w
  same : d.dead = false → Dk.hold d.held d.late = d.seen
theorem Ph.write {S N : Nat} {b : Str} {d : Dk} (h : Ph S N b d) (i : Nat) (c : Str) (hi : i < Sp.areaN S) : Ph S N b (d.write (Sp.areaFrom S (N + 1) + i) c) ∧ (d.write (Sp.areaFrom S (N + 1) + i) c).seen = d.seen.set (Sp.areaFrom S (N + 1) + i) (Sp.pad c) := by
  have hin := area_in S (N + 1) i h.held.big hi
  unfold Dk.write
  rw [if_pos (by rw [h.slen]; exact hin.2)]
  refine ⟨⟨by simp [h.slen], fun x hx => ?_, h.held, fun w hw => ?_, fun hd => ?_⟩, rfl⟩
  · rcases List.mem_or_eq_of_mem_set hx with hx | rfl
    · exact h.secs x hx
    · exact pad_len c
  · simp only at hw
    split at hw
    · exact h.late w hw
    · rcases List.mem_append.1 hw with hw | hw
      · exact h.late w hw
      · rw [List.mem_singleton] at hw; subst hw
        exact ⟨pad_len c, i, hi, rfl⟩
  · simp only at hd ⊢
    rw [Bool.or_eq_false_iff] at hd
    rw [hd.1, hd.2]
    simp only [Bool.or_false, Bool.false_eq_true, if_false]
    rw [hold_append, h.same hd.1]
theorem Ph.writes {S N : Nat} {b : Str} : ∀ (cs : List Str) {d : Dk} (i : Nat), Ph S N b d → i + cs.length ≤ Sp.areaN S →
    Ph S N b (d.writes (Sp.areaFrom S (N + 1) + i) cs) ∧ (∀ k c, cs[k]? = some c → (d.writes (Sp.areaFrom S (N + 1) + i) cs).seen[Sp.areaFrom S (N + 1) + i + k]? = some (Sp.pad c)) ∧
      ∀ k, k < Sp.areaFrom S (N + 1) + i → (d.writes (Sp.areaFrom S (N + 1) + i) cs).seen[k]? = d.seen[k]?
  | [], d, i, h, _ => ⟨h, fun k c hc => by simp at hc, fun k _ => rfl⟩
  | c :: r, d, i, h, hl => by
    simp only [List.length_cons] at hl
    obtain ⟨h1, h2⟩ := h.write i c (by omega)
    obtain ⟨h3, h4, h5⟩ := Ph.writes r (d := d.write (Sp.areaFrom S (N + 1) + i) c) (i + 1) h1 (by omega)
    have e : Sp.areaFrom S (N + 1) + (i + 1) = Sp.areaFrom S (N + 1) + i + 1 := by omega
    rw [e] at h3 h4 h5
    have hin := area_in S (N + 1) i h.held.big (by omega)
    refine ⟨h3, fun k x hk => ?_, fun k hk => ?_⟩
    · cases k with
      | zero =>
        have : c = x := by simpa using hk
        subst this
        show ((d.write (Sp.areaFrom S (N + 1) + i) c).writes (Sp.areaFrom S (N + 1) + i + 1) r).seen[Sp.areaFrom S (N + 1) + i]? = _
        rw [h5 _ (by omega), h2, List.getElem?_set_self (by rw [h.slen]; exact hin.2)]
      | succ k =>
        have := h4 k x (by simpa using hk)
        rw [show Sp.areaFrom S (N + 1) + i + 1 + k = Sp.areaFrom S (N + 1) + i + (k + 1) from by omega] at this
        exact this
    · show ((d.write _ c).writes _ r).seen[k]? = _
      rw [h5 k (by omega), h2, List.getElem?_set_ne (by omega)]
/-- The head is laid. -/
theorem lies_head {S N : Nat} {b b' : Str} {s : List Str} (h : Lies S s N b) (hN : N + 1 < 18446744073709551616) (hb : b'.length ≤ Sp.areaN S * 64) (hz : b'.length < 18446744073709551616)
    (hc : ∀ i c, (Sp.chunks b')[i]? = some c → s[Sp.areaFrom S (N + 1) + i]? = some (Sp.pad c)) :
    Lies S (s.set ((N + 1) % 2) (Sp.pad (Sp.headB (N + 1) b'.length (Sp.sum b')))) (N + 1) b' := by
  have hS := h.big
  have hsl := h.len
  have hg : ∀ i, i ≠ (N + 1) % 2 → (s.set ((N + 1) % 2) (Sp.pad (Sp.headB (N + 1) b'.length (Sp.sum b')))).getD i [] = s.getD i [] := by
    intro i hi
    rw [List.getD_eq_getElem?_getD, List.getD_eq_getElem?_getD, List.getElem?_set_ne (by omega)]
  have hsec : ∀ x ∈ s.set ((N + 1) % 2) (Sp.pad (Sp.headB (N + 1) b'.length (Sp.sum b'))), x.length = 64 := by
    intro y hy
    rcases List.mem_or_eq_of_mem_set hy with hy | rfl
    · exact h.secs y hy
    · exact pad_len _
  refine ⟨by rw [List.length_set]; exact hsl, hS, hsec, fun e => by omega, fun _ => ?_, hb, fun _ => ?_, fun i hi hne ho => ?_⟩
  · rw [List.getD_eq_getElem?_getD, List.getElem?_set_self (by omega), Option.getD_some]
    exact headOf_headB _ _ _ hN (by omega) hz (sum_lt _)
  · refine area_chunks hsec (by rw [List.length_set, hsl]; exact hS) (by rw [List.length_set, hsl]; exact hb) fun i c hi => ?_
    rw [List.length_set, hsl, List.getElem?_set_ne (by
      have h1 := chunks_get b' i
      have : i < Sp.areaN S := by
        rw [hi] at h1
        split at h1
        · omega
        · cases h1
      have := area_in S (N + 1) i hS this
      omega)]
    exact hc i c hi
  · have hne' := hne (by omega)
    rw [hg i hne'] at ho ⊢
    by_cases hN0 : 0 < N
    · have hi2 : i = N % 2 := by omega
      subst hi2
      rw [h.head hN0]; simp
    · have := h.other i hi (fun e => absurd e hN0) ho
      omega
theorem write_dead {d : Dk} (hd : d.dead = true) (n : Nat) (c : Str) : (d.write n c).dead = true ∧ (d.write n c).held = d.held ∧ (d.write n c).late = d.late ∧ ((d.write n c).seen = d.seen ∨ (d.write n c).seen = d.seen.set n (Sp.pad c)) := by
  unfold Dk.write
  split
  · refine ⟨by simp [hd], rfl, by simp [hd], .inr rfl⟩
  · exact ⟨hd, rfl, rfl, .inl rfl⟩
theorem sync_dead {d : Dk} (hd : d.dead = true) : d.sync.dead = true ∧ d.sync.held = d.held ∧ d.sync.late = d.late ∧ d.sync.seen = d.seen := by
  unfold Dk.sync
  rw [if_pos (by simp [hd])]
  exact ⟨by simp [Dk.lost, hd], rfl, rfl, rfl⟩
/-- What is saved. -/
theorem save_law {S N : Nat} {b b' : Str} {d : Dk} (h : Calm S N b d) (hN : N + 1 < 18446744073709551616) (hb : b'.length ≤ Sp.areaN S * 64) (hz : b'.length < 18446744073709551616) :
    ((Sp.save d N b').dead = false ∧ Calm S (N + 1) b' (Sp.save d N b')) ∨ Torn S (fun n x => (n = N ∧ x = b) ∨ (n = N + 1 ∧ x = b')) (Sp.save d N b') := by
  have hsl : d.seen.length = S := h.lies.len
  have hcl : (Sp.chunks b').length ≤ Sp.areaN S := by rw [chunks_len]; omega
  have p0 : Ph S N b d := ⟨hsl, h.lies.secs, by rw [h.same]; exact h.lies, (by rw [h.late]; intro w hw; cases hw), fun _ => by rw [h.late, ← h.same]; rfl⟩
  obtain ⟨p1, c1, _⟩ := Ph.writes (Sp.chunks b') 0 p0 (by omega)
  rw [Nat.add_zero] at p1 c1
  unfold Sp.save
  rw [hsl]
  generalize he1 : d.writes (Sp.areaFrom S (N + 1)) (Sp.chunks b') = d1 at p1 c1
  have ntorn : ∀ (e : Dk), e.dead = true → e.held = d1.held → e.late = d1.late → e.seen.length = S → (∀ x ∈ e.seen, x.length = 64) → Torn S (fun n x => (n = N ∧ x = b) ∨ (n = N + 1 ∧ x = b')) e := by
    intro e h1 h2 h3 h4 h5
    refine ⟨h1, h4, h5, fun mask => ⟨N, b, .inl ⟨rfl, rfl⟩, ?_⟩⟩
    rw [h2, h3]
    exact lies_hold _ p1.held fun w hw => p1.late w (some_sub _ _ _ _ _ hw)
  have setlen : ∀ (s : List Str) (k : Nat) (x : Str), x.length = 64 → s.length = S → (∀ y ∈ s, y.length = 64) → (s.set k x).length = S ∧ ∀ y ∈ s.set k x, y.length = 64 := by
    intro s k x hx h1 h2
    refine ⟨by rw [List.length_set]; exact h1, fun y hy => ?_⟩
    rcases List.mem_or_eq_of_mem_set hy with hy | rfl
    · exact h2 y hy
    · exact hx
  generalize hhd : Sp.headB (N + 1) b'.length (Sp.sum b') = hd
  by_cases hdead : (d1.dead || decide (d1.left = 0)) = true
  · -- the power goes ahead of the first Sync's end
    right
    have s1 : d1.sync = d1.lost := by unfold Dk.sync; rw [if_pos hdead]
    rw [s1]
    have l1 : d1.lost.dead = true := hdead
    obtain ⟨w1, w2, w3, w4⟩ := write_dead l1 ((N + 1) % 2) hd
    obtain ⟨y1, y2, y3, y4⟩ := sync_dead w1
    have hws : (d1.lost.write ((N + 1) % 2) hd).seen.length = S ∧ ∀ x ∈ (d1.lost.write ((N + 1) % 2) hd).seen, x.length = 64 := by
      rcases w4 with e | e
      · rw [e]; exact ⟨p1.slen, p1.secs⟩
      · rw [e]; exact setlen _ _ _ (pad_len _) p1.slen p1.secs
    exact ntorn _ y1 (y2.trans w2) (y3.trans w3) (by rw [y4]; exact hws.1) (by rw [y4]; exact hws.2)
  · have hnd : d1.dead = false ∧ d1.left ≠ 0 := by
      simp only [Bool.not_eq_true, Bool.or_eq_false_iff, decide_eq_false_iff_not] at hdead; exact hdead
    have s1 : d1.sync = { d1.lost with held := Dk.hold d1.held d1.late, late := [] } := by unfold Dk.sync; rw [if_neg hdead]
    rw [s1, p1.same hnd.1]
    have hl1 : Lies S d1.seen N b := by rw [← p1.same hnd.1]; exact lies_hold _ p1.held p1.late
    have hlost : d1.lost = { d1 with dead := false, left := if 0 < d1.left then d1.left - 1 else d1.left } := by
      unfold Dk.lost; rw [hnd.1, decide_eq_false hnd.2]; rfl
    rw [hlost]
    generalize hleft : (if 0 < d1.left then d1.left - 1 else d1.left) = left2
    have hlt : (N + 1) % 2 < d1.seen.length := by rw [p1.slen]; have := h.lies.big; omega
    have hhead := lies_head hl1 hN hb hz c1
    rw [hhd] at hhead
    by_cases hd2 : left2 = 0
    · right
      unfold Dk.write
      rw [if_pos hlt]
      simp only [Bool.false_or, decide_eq_true hd2, if_true]
      obtain ⟨y1, y2, y3, y4⟩ := sync_dead (d := { held := d1.seen, seen := d1.seen.set ((N + 1) % 2) (Sp.pad hd), late := [], left := if 0 < left2 then left2 - 1 else left2, dead := true }) rfl
      obtain ⟨z1, z2⟩ := setlen d1.seen ((N + 1) % 2) (Sp.pad hd) (pad_len _) p1.slen p1.secs
      refine ⟨y1, by rw [y4]; exact z1, by rw [y4]; exact z2, fun mask => ⟨N, b, .inl ⟨rfl, rfl⟩, ?_⟩⟩
      rw [y2, y3]
      exact hl1
    · unfold Dk.write
      rw [if_pos hlt]
      simp only [Bool.false_or, decide_eq_false hd2, Bool.false_eq_true, if_false, List.nil_append]
      generalize hleft3 : (if 0 < left2 then left2 - 1 else left2) = left3
      by_cases hd3 : left3 = 0
      · right
        unfold Dk.sync Dk.lost
        simp only [Bool.false_or, decide_eq_true hd3, if_true]
        obtain ⟨z1, z2⟩ := setlen d1.seen ((N + 1) % 2) (Sp.pad hd) (pad_len _) p1.slen p1.secs
        refine ⟨rfl, z1, z2, fun mask => ?_⟩
        simp only [Dk.some]
        split
        · exact ⟨N + 1, b', .inr ⟨rfl, rfl⟩, hhead⟩
        · exact ⟨N, b, .inl ⟨rfl, rfl⟩, hl1⟩
      · left
        unfold Dk.sync Dk.lost
        simp only [Bool.false_or, decide_eq_false hd3, Bool.false_eq_true, if_false]
        exact ⟨trivial, rfl, rfl, rfl, hhead⟩
end V7
end Go.Proofs.YtfphcecjhdkcoaaGreatDoor
/-
Plain: what a set of packages is on the disk, and that it is found again; that it has room.
-/
namespace Go.Proofs.YtfphcecjhdkcoaaGreatDoor
namespace Sp
def joined (l : List Pk) : Str := Lib.join (texts l) [10, 10]
def packOf (t : Str) : Option Pk := match parse t with
  | .inr p => some p
  | .inl _ => none
/-- The packages whose texts lie there. -/
def loaded (b : Str) : List Pk := (Lib.split b [10, 10]).filterMap packOf
def room (S : Nat) : Nat := 24 * (S - 8)
/-- Packages that go together: each of the form, no two of one name. -/
structure Set (l : List Pk) : Prop where
  good : ∀ p ∈ l, V3.Good p
  apart : l.Pairwise fun p q => p.name ≠ q.name
end Sp
namespace V8
open Sp (Str Pk)
theorem names_nodup {l : List Pk} (h : Sp.Set l) : (Sp.names l).Nodup := by
  unfold Sp.names
  exact List.pairwise_map.2 h.apart
theorem Set.perm {l r : List Pk} (h : Sp.Set l) (hp : l.Perm r) : Sp.Set r :=
  ⟨fun p hp' => h.good p (hp.mem_iff.2 hp'), (hp.pairwise_iff (fun hab => fun e => hab e.symm)).1 h.apart⟩
theorem Set.filter {l : List Pk} (h : Sp.Set l) (P : Pk → Bool) : Sp.Set (l.filter P) :=
  ⟨fun p hp => h.good p (List.mem_filter.1 hp).1, h.apart.sublist List.filter_sublist⟩
theorem find_self {l : List Pk} (h : Sp.Set l) {p : Pk} (hp : p ∈ l) : Sp.find? l p.name = some p := by
  unfold Sp.find?
  have ha := h.apart
  clear h
  induction l with
  | nil => cases hp
  | cons q r ih =>
    obtain ⟨h1, h2⟩ := List.pairwise_cons.1 ha
    rcases List.mem_cons.1 hp with rfl | hp
    · rw [List.find?_cons_of_pos (by simp)]
    · rw [List.find?_cons_of_neg (by simpa using h1 p hp)]
      exact ih hp h2
theorem find_mem {l : List Pk} {n : Str} {p : Pk} (h : Sp.find? l n = some p) : p ∈ l ∧ p.name = n := by
  unfold Sp.find? at h
  exact ⟨List.mem_of_find?_eq_some h, by simpa using List.find?_some h⟩
theorem find_none {l : List Pk} {n : Str} (h : Sp.find? l n = none) : n ∉ Sp.names l := by
  intro hm
  obtain ⟨p, hp, rfl⟩ := List.mem_map.1 hm
  unfold Sp.find? at h
  rw [List.find?_eq_none] at h
  have := h p hp
  simp at this
theorem sorted_perm (l : List Str) : (Sp.sorted l).Perm l := List.mergeSort_perm _ _
theorem sorted_ord (l : List Str) : (Sp.sorted l).Pairwise (· ≤ ·) := by
  refine (List.pairwise_mergeSort (le := fun x y => decide (x ≤ y)) (fun a b c h1 h2 => ?_) (fun a b => ?_) l).imp fun h => of_decide_eq_true h
  · simp only [decide_eq_true_eq] at h1 h2 ⊢; exact List.le_trans h1 h2
  · simp only [Bool.or_eq_true, decide_eq_true_eq]; exact List.le_total a b
theorem sorted_eq {l r : List Str} (h : l.Perm r) : Sp.sorted l = Sp.sorted r := by
  refine List.Perm.eq_of_pairwise (le := (· ≤ ·)) (fun a b _ _ h1 h2 => List.le_antisymm h1 h2) (sorted_ord l) (sorted_ord r) ?_
  exact (sorted_perm l).trans (h.trans (sorted_perm r).symm)
/-- The packages by name. -/
def byName (l : List Pk) : List Pk := (Sp.sorted (Sp.names l)).filterMap fun n => Sp.find? l n
theorem texts_byName (l : List Pk) : Sp.texts l = (byName l).map Sp.print := by
  unfold Sp.texts byName
  rw [List.map_filterMap]
theorem filterMap_find {l : List Pk} : ∀ (ns : List Str), (∀ n ∈ ns, n ∈ Sp.names l) → (ns.filterMap fun n => Sp.find? l n).map (·.name) = ns
  | [], _ => rfl
  | n :: r, h => by
    have hn := h n (by simp)
    cases hf : Sp.find? l n with
    | none => exact absurd hn (find_none hf)
    | some p =>
      rw [List.filterMap_cons_some hf, List.map_cons, (find_mem hf).2, filterMap_find r fun m hm => h m (List.mem_cons_of_mem _ hm)]
theorem byName_names (l : List Pk) : (byName l).map (·.name) = Sp.sorted (Sp.names l) :=
  filterMap_find _ fun _ hn => (sorted_perm _).mem_iff.1 hn
theorem byName_mem {l : List Pk} (h : Sp.Set l) (p : Pk) : p ∈ byName l ↔ p ∈ l := by
  unfold byName
  rw [List.mem_filterMap]
  constructor
  · rintro ⟨n, _, hf⟩; exact (find_mem hf).1
  · intro hp
    exact ⟨p.name, (sorted_perm _).mem_iff.2 (List.mem_map.2 ⟨p, hp, rfl⟩), find_self h hp⟩
theorem byName_nodup {l : List Pk} (h : Sp.Set l) : (byName l).Nodup := by
  have : ((byName l).map (·.name)).Nodup := by
    rw [byName_names]
    exact (sorted_perm _).nodup_iff.2 (names_nodup h)
  exact List.Pairwise.imp (fun hab => fun e => hab (by rw [e])) (List.pairwise_map.1 this)
theorem nodup_of {l : List Pk} (h : Sp.Set l) : l.Nodup := h.apart.imp fun hab => fun e => hab (by rw [e])
theorem byName_perm {l : List Pk} (h : Sp.Set l) : (byName l).Perm l := by
  refine (List.perm_ext_iff_of_nodup (byName_nodup h) (nodup_of h)).2 (byName_mem h)
theorem byName_eq {l r : List Pk} (h : Sp.Set l) (hp : l.Perm r) : byName l = byName r := by
  unfold byName
  have hnn : (Sp.names l).Perm (Sp.names r) := hp.map _
  rw [sorted_eq hnn]
  congr 1; funext n
  cases hf : Sp.find? l n with
  | none =>
    cases hg : Sp.find? r n with
    | none => rfl
    | some p =>
      obtain ⟨h1, h2⟩ := find_mem hg
      exact absurd (List.mem_map.2 ⟨p, hp.mem_iff.2 h1, h2⟩) (find_none hf)
  | some p =>
    obtain ⟨h1, h2⟩ := find_mem hf
    rw [← h2, find_self (Set.perm h hp) (hp.mem_iff.1 h1)]
theorem texts_eq {l r : List Pk} (h : Sp.Set l) (hp : l.Perm r) : Sp.texts l = Sp.texts r := by rw [texts_byName, texts_byName, byName_eq h hp]
theorem joined_eq {l r : List Pk} (h : Sp.Set l) (hp : l.Perm r) : Sp.joined l = Sp.joined r := by unfold Sp.joined; rw [texts_eq h hp]
theorem packOf_print {p : Pk} (h : V3.Good p) : Sp.packOf (Sp.print p) = some p := by
  unfold Sp.packOf; rw [V3.parse_print h]
theorem packOf_nil : Sp.packOf [] = none := by
  unfold Sp.packOf
  cases h : Sp.parse [] with
  | inl n => rfl
  | inr p =>
    have := (V3.parse_good h).2
    exact absurd (List.length_eq_zero_iff.1 (Nat.le_zero.1 this)) (V3.print_ne p)
theorem loaded_nil : Sp.loaded [] = [] := by
  unfold Sp.loaded
  rw [Sp.split_end [] [10, 10] (by simp) 0 (by simp) (fun j h => absurd h (Nat.not_lt_zero _))]
  rw [List.filterMap_cons_none packOf_nil]; rfl
/-- What was saved is found. -/
theorem loaded_joined {l : List Pk} (h : Sp.Set l) : Sp.loaded (Sp.joined l) = byName l := by
  unfold Sp.joined
  by_cases hl : byName l = []
  · rw [texts_byName, hl]; exact loaded_nil
  · rw [texts_byName]
    unfold Sp.loaded
    rw [V3.split_tame _ (by simpa using hl) (fun x hx => by
      obtain ⟨p, hp, rfl⟩ := List.mem_map.1 hx
      exact V3.tame_print (h.good p ((byName_mem h p).1 hp)).wf)]
    have key : ∀ ps : List Pk, (∀ p ∈ ps, V3.Good p) → (ps.map Sp.print).filterMap Sp.packOf = ps := by
      intro ps
      induction ps with
      | nil => intro _; rfl
      | cons p r ih =>
        intro hg
        rw [List.map_cons, List.filterMap_cons_some (packOf_print (hg p (by simp))), ih fun q hq => hg q (List.mem_cons_of_mem _ hq)]
    exact key _ fun p hp => h.good p ((byName_mem h p).1 hp)
theorem print_min {p : Pk} (h : V2.WfP p) : 11 ≤ (Sp.print p).length := by
  obtain ⟨r, hr, hv⟩ := V3.print_head p
  have hn : 0 < p.name.length := List.length_pos_iff.2 (V1.name_ne h.name)
  have hvl : 0 < p.ver.length := by
    have := h.ver
    cases hv : p.ver with
    | nil => rw [hv] at this; cases this
    | cons a b => simp
  have := hv.length_le
  rw [hr]
  simp; omega
theorem size_perm {l r : List Pk} (h : l.Perm r) : Sp.size l = Sp.size r := by unfold Sp.size; exact (h.map _).sum_nat
theorem size_count {l : List Pk} (h : ∀ p ∈ l, V3.Good p) : 11 * l.length ≤ Sp.size l := by
  unfold Sp.size
  induction l with
  | nil => simp
  | cons p r ih =>
    have := print_min (h p (by simp)).wf
    have := ih fun q hq => h q (List.mem_cons_of_mem _ hq)
    simp only [List.map_cons, List.sum_cons, List.length_cons]; omega
theorem joined_len {l : List Pk} (h : Sp.Set l) : (Sp.joined l).length ≤ Sp.size l + 2 * l.length := by
  unfold Sp.joined
  have e : Lib.lens (Sp.texts l) = Sp.size l := by
    rw [texts_byName, ← size_perm (byName_perm h)]
    unfold Lib.lens Sp.size
    rw [List.map_map]; rfl
  have hl : (Sp.texts l).length = l.length := by rw [texts_byName, List.length_map, (byName_perm h).length_eq]
  cases ht : Sp.texts l with
  | nil => simp [Lib.join_nil]
  | cons x r =>
    rw [Lib.join_length, ← ht, e]
    rw [ht] at hl
    simp at hl ⊢; omega
/-- There is room for it. -/
theorem joined_fits {l : List Pk} (h : Sp.Set l) {S : Nat} (hS : 16 ≤ S) (hr : Sp.size l ≤ Sp.room S) : (Sp.joined l).length ≤ Sp.areaN S * 64 := by
  have h1 := joined_len h
  have h2 := size_count h.good
  unfold Sp.room at hr
  unfold Sp.areaN
  omega
theorem size_len {l : List Pk} (h : ∀ p ∈ l, V3.Good p) : Sp.size l ≤ 300 * l.length := by
  unfold Sp.size
  induction l with
  | nil => simp
  | cons p r ih =>
    have := (h p (by simp)).len
    have := ih fun q hq => h q (List.mem_cons_of_mem _ hq)
    simp only [List.map_cons, List.sum_cons, List.length_cons]; omega
end V8
end Go.Proofs.YtfphcecjhdkcoaaGreatDoor
/-
The keys of a map in order; the names of a set of packages.
-/
namespace Go.Proofs.YtfphcecjhdkcoaaGreatDoor
open Go.RowKit Go.Maps Go.Sort Go.Shelf
theorem keys_perm {w : World} {b n : Nat} {D : DataW Value} {kv : KV} (hown : w.ownsMap Tryz.prog 9 Rv b n D) (h : Shows D kv) : (strKeys D).Perm (kv.map (·.1)) := by
  obtain ⟨es, hD, hpw, hkl⟩ := hown.entries keyed9
  obtain ⟨es', hD', hko⟩ := hown.keysOf
  obtain rfl : es = es' := by rw [hD] at hD'; simpa using hD'
  subst hD
  have hstr : ∀ p ∈ es, p.1 = .string (strOf p.1) := by
    intro p hp
    obtain ⟨v, hv⟩ := hko p hp
    obtain ⟨s, _, hs, _⟩ := Maps.keyOf_str Tryz.underlying9 hv
    rw [hs]; rfl
  have hnd : (es.map fun p => strOf p.1).Nodup := by
    refine List.pairwise_map.2 ?_
    refine hpw.imp_of_mem fun {p q} hp hq hne e => hne ?_
    rw [hstr p hp, hstr q hq, e]
  refine (List.perm_ext_iff_of_nodup hnd (List.pairwise_map.2 h.apart)).2 fun x => ?_
  have h1 : x ∈ es.map (fun p => strOf p.1) ↔ Maps.has (.map es : DataW Value) (.string x) = true := by
    rw [has_eq, List.any_eq_true, List.mem_map]
    constructor
    · rintro ⟨p, hp, rfl⟩
      exact ⟨p, hp, by rw [← hstr p hp]; exact WideAt.sameKey_self (hkl p hp)⟩
    · rintro ⟨p, hp, e⟩
      refine ⟨p, hp, ?_⟩
      have := WideAt.sameKey_eq e
      rw [this]; rfl
  rw [h1, h.has_, List.mem_map]
  exact ⟨fun ⟨q, hq, e⟩ => ⟨q, hq, by injection e with e; exact e.symm⟩, fun ⟨q, hq, e⟩ => ⟨q, hq, by rw [e]⟩⟩
theorem keysP_any (mb : Option Nat) (w : World) : Calls Tryz.prog 130 #[.map mb] w fun e w' => e = .returned (.func (.func 179) #[] #[.pointer (some ⟨w.heap.size, 0, none⟩)]) ∧ w' = w.alloc (.cells #[.map mb] 140) :=
  (callsIn_wide (n := 5)).1 (AnyZ.keys_in Tryz.keysP Fence.wide 5 trivial rfl mb w)
theorem keysQ_any (mb : Option Nat) (w : World) : Calls Tryz.prog 173 #[.map mb] w fun e w' => e = .returned (.func (.func 218) #[] #[.pointer (some ⟨w.heap.size, 0, none⟩)]) ∧ w' = w.alloc (.cells #[.map mb] 274) :=
  (callsIn_wide (n := 5)).1 (AnyZ.keys_in Tryz.keysQ Fence.wide 5 trivial rfl mb w)
theorem sortedP_any (b : Nat) (kv : KV) (w : World) (h : MapAt w b kv) (hmax : kv.length < 1000000000) :
    Calls Tryz.prog 129 #[.func (.func 179) #[] #[.pointer (some ⟨w.heap.size, 0, none⟩)]] (w.alloc (.cells #[.map (some b)] 140)) fun e w' => ∃ v, e = .returned v ∧
      w'.ownsRow (w.alloc (.cells #[.map (some b)] 140)).heap.size 9 1 v kv.length ((Sp.sorted (kv.map (·.1))).map sv) ∧ Below w.heap.size w w' := by
  refine (callsIn_wide (n := 5)).1 ?_
  obtain ⟨D0, hown, hsh⟩ := h
  have hkp := keys_perm hown hsh
  have hbl := hown.lt
  have hsz := hsh.size_
  have hseq : SeqGives Fence.wide 2 Tryz.prog 179 #[.pointer (some ⟨w.heap.size, 0, none⟩)] encStr (fun ss => ss.Perm (strKeys D0)) (Maps.size D0) (w.alloc (.cells #[.map (some b)] 140)) :=
    AnyZ.keys_gives (ρ := Tryz.keysP_ren) { Tryz.keysP with } Fence.wide _ trivial rfl (by omega) w.heap.size b kv.length D0 _ (by simp) (by simp) (by
      obtain ⟨es, clock, hb, Ft, hs, hD⟩ := hown
      exact ⟨es, clock, (Below.heap_alloc _ _ b hbl).trans hb, Ft, hs, hD⟩)
  have cS := AnyZ.sorted_in Tryz.sortedI Fence.wide 5 trivial trivial trivial trivial rfl (by omega) (sorts_any _) (enters_of Tryz.func178 (by kernel_rfl) rfl) 179 #[.pointer (some ⟨w.heap.size, 0, none⟩)] trivial (enters_of Tryz.func179 (by kernel_rfl) rfl) _ _ (by unfold maxLen; omega) (by omega) _ hseq
  change CallsIn _ _ Tryz.prog 129 _ _ _ at cS
  refine cS.mono ?_
  rintro e w' ⟨v, ss, rfl, hS, hrow, hnil, hb⟩
  have hp := hS.trans hkp
  refine ⟨v, rfl, ?_, ((Below.refl _ w).alloc (Nat.le_refl _) _).trans (hb.mono (by simp))⟩
  have e1 : ss.mergeSort (fun x y => decide (x ≤ y)) = Sp.sorted (kv.map (·.1)) := V8.sorted_eq hp
  rw [← e1, ← show ss.length = kv.length from by rw [hp.length_eq, List.length_map]]
  exact hrow
theorem sortedQ_any (b : Nat) (kv : KV) (w : World) (h : MapAt w b kv) (hmax : kv.length < 1000000000) :
    Calls Tryz.prog 129 #[.func (.func 218) #[] #[.pointer (some ⟨w.heap.size, 0, none⟩)]] (w.alloc (.cells #[.map (some b)] 274)) fun e w' => ∃ v, e = .returned v ∧
      w'.ownsRow (w.alloc (.cells #[.map (some b)] 274)).heap.size 9 1 v kv.length ((Sp.sorted (kv.map (·.1))).map sv) ∧ Below w.heap.size w w' := by
  refine (callsIn_wide (n := 5)).1 ?_
  obtain ⟨D0, hown, hsh⟩ := h
  have hkp := keys_perm hown hsh
  have hbl := hown.lt
  have hsz := hsh.size_
  have hseq : SeqGives Fence.wide 2 Tryz.prog 218 #[.pointer (some ⟨w.heap.size, 0, none⟩)] encStr (fun ss => ss.Perm (strKeys D0)) (Maps.size D0) (w.alloc (.cells #[.map (some b)] 274)) :=
    AnyZ.keys_gives (ρ := Tryz.keysQ_ren) { Tryz.keysQ with } Fence.wide _ trivial rfl (by omega) w.heap.size b kv.length D0 _ (by simp) (by simp) (by
      obtain ⟨es, clock, hb, Ft, hs, hD⟩ := hown
      exact ⟨es, clock, (Below.heap_alloc _ _ b hbl).trans hb, Ft, hs, hD⟩)
  have cS := AnyZ.sorted_in Tryz.sortedI Fence.wide 5 trivial trivial trivial trivial rfl (by omega) (sorts_any _) (enters_of Tryz.func178 (by kernel_rfl) rfl) 218 #[.pointer (some ⟨w.heap.size, 0, none⟩)] trivial (enters_of Tryz.func218 (by kernel_rfl) rfl) _ _ (by unfold maxLen; omega) (by omega) _ hseq
  change CallsIn _ _ Tryz.prog 129 _ _ _ at cS
  refine cS.mono ?_
  rintro e w' ⟨v, ss, rfl, hS, hrow, hnil, hb⟩
  have hp := hS.trans hkp
  refine ⟨v, rfl, ?_, ((Below.refl _ w).alloc (Nat.le_refl _) _).trans (hb.mono (by simp))⟩
  have e1 : ss.mergeSort (fun x y => decide (x ≤ y)) = Sp.sorted (kv.map (·.1)) := V8.sorted_eq hp
  rw [← e1, ← show ss.length = kv.length from by rw [hp.length_eq, List.length_map]]
  exact hrow
/-- The keys of a set that lies in a map, in order. -/
theorem names_map (b : Nat) (kv : KV) (w : World) (h : MapAt w b kv) (hmax : kv.length < 1000000000) :
    Calls Tryz.prog 77 #[.map (some b)] w fun e w' => ∃ v, e = .returned v ∧ w'.ownsRow (w.heap.size + 1) 9 1 v kv.length ((Sp.sorted (kv.map (·.1))).map sv) ∧ Below w.heap.size w w' := by
  go_enter Tryz.func77, Tryz.ntmps77
  go_wp2_with fail
  refine (keysP_any _ _).mono ?_
  rintro e w1 ⟨rfl, rfl⟩
  go_wp2_with fail
  refine (sortedP_any _ _ _ h hmax).mono ?_
  rintro e w2 ⟨v, rfl, hrow, hb⟩
  go_wp2
  go_ret
  exact ⟨_, rfl, by simpa using hrow, hb⟩
def kvOf (L : List (Nat × Sp.Pk)) : KV := L.map fun q => (q.2.name, .pointer (some ⟨q.1, 0, none⟩))
theorem SetOn.map {S : Nat → Prop} {w : World} {mb : Nat} {L : List (Nat × Sp.Pk)} (h : SetOn S w mb L) : MapAt w mb (kvOf L) := by
  obtain ⟨⟨D, h1, h2, h3, h4⟩, hap, hpk⟩ := h
  refine ⟨D, by unfold kvOf; rw [List.length_map]; exact h1, h1.tidy keyed9, fun q hq z => ?_, fun k => ?_, by unfold kvOf; rw [List.length_map]; exact h2, List.pairwise_map.2 hap, fun q hq => ?_⟩
  · obtain ⟨r, hr, rfl⟩ := List.mem_map.1 hq
    exact h3 r hr z
  · constructor
    · intro hk
      obtain ⟨q, hq, rfl⟩ := h4 k hk
      exact ⟨_, List.mem_map.2 ⟨q, hq, rfl⟩, rfl⟩
    · rintro ⟨q, hq, rfl⟩
      obtain ⟨r, hr, rfl⟩ := List.mem_map.1 hq
      exact has_true_of_atKey (h3 r hr)
  · obtain ⟨r, hr, rfl⟩ := List.mem_map.1 hq
    have := (hpk r hr).2.name
    show r.2.name.length ≤ _
    unfold maxLen; omega
theorem SetOn.of_map {S : Nat → Prop} {w : World} {mb : Nat} {L : List (Nat × Sp.Pk)} (h : MapAt w mb (kvOf L)) (hp : ∀ q ∈ L, IsPack S w q.1 q.2 ∧ PkOk q.2) : SetOn S w mb L := by
  obtain ⟨D, h1, h2⟩ := h
  unfold kvOf at h1 h2
  rw [List.length_map] at h1
  refine ⟨⟨D, h1, by have := h2.size_; rwa [List.length_map] at this, fun q hq z => h2.at_ _ (List.mem_map.2 ⟨q, hq, rfl⟩) z, fun k hk => ?_⟩, by have := h2.apart; rw [List.pairwise_map] at this; exact this, hp⟩
  obtain ⟨r, hr, rfl⟩ := (h2.has_ k).1 hk
  obtain ⟨q, hq, rfl⟩ := List.mem_map.1 hr
  exact ⟨q, hq, rfl⟩
theorem SetOn.mono {S S' : Nat → Prop} {w : World} {mb : Nat} {L : List (Nat × Sp.Pk)} (h : SetOn S w mb L) (hs : ∀ x, S x → S' x) : SetOn S' w mb L :=
  ⟨h.1, h.2.1, fun q hq => ⟨(h.2.2 q hq).1.mono hs, (h.2.2 q hq).2⟩⟩
theorem SetOn.keep {S : Nat → Prop} {w w' : World} {mb : Nat} {L : List (Nat × Sp.Pk)} (h : SetOn S w mb L) (hm : w'.heap[mb]? = w.heap[mb]?) (hs : ∀ x, S x → w'.heap[x]? = w.heap[x]?) : SetOn S w' mb L :=
  SetOn.of_map (h.map.block hm) fun q hq => ⟨(h.2.2 q hq).1.keep hs, (h.2.2 q hq).2⟩
theorem SetOn.perm {S : Nat → Prop} {w : World} {mb : Nat} {L L' : List (Nat × Sp.Pk)} (h : SetOn S w mb L) (hp : L.Perm L') : SetOn S w mb L' :=
  SetOn.of_map (h.map.perm (hp.map _)) fun q hq => h.2.2 q (hp.mem_iff.2 hq)
theorem SetOn.below {w w' : World} {mb : Nat} {L : List (Nat × Sp.Pk)} (h : SetOn (fun x => x < w.heap.size) w mb L) (hb : Below w.heap.size w w') : SetOn (fun x => x < w'.heap.size) w' mb L :=
  (h.keep (hb.block _ h.map.lt) fun x hx => hb.block x hx).mono fun _ hx => Nat.lt_of_lt_of_le hx hb.size
theorem kvOf_names (L : List (Nat × Sp.Pk)) : (kvOf L).map (·.1) = Sp.names (L.map (·.2)) := by unfold kvOf Sp.names; rw [List.map_map, List.map_map]; rfl
theorem names_any (mb : Nat) (L : List (Nat × Sp.Pk)) (w : World) (h : SetOn (fun b => b < w.heap.size) w mb L) (hmax : L.length < 1000000000) :
    Calls Tryz.prog 77 #[.map (some mb)] w fun e w' => ∃ v, e = .returned v ∧ StrsAt w' v (Sp.sorted (Sp.names (L.map (·.2)))) ∧ Below w.heap.size w w' := by
  refine (names_map mb (kvOf L) w h.map (by unfold kvOf; rw [List.length_map]; exact hmax)).mono ?_
  rintro e w' ⟨v, rfl, hrow, hb⟩
  rw [kvOf_names] at hrow
  refine ⟨v, rfl, ?_, hb⟩
  have hl : (kvOf L).length = (Sp.sorted (Sp.names (L.map (·.2)))).length := by
    rw [(V8.sorted_perm _).length_eq]; unfold kvOf Sp.names; simp
  rw [hl] at hrow
  exact StrsAt.of_row hrow
end Go.Proofs.YtfphcecjhdkcoaaGreatDoor
/-
Walks of the reference's small text functions: in, made, isName, isVersion, begins, over.
-/
namespace Go.Proofs.YtfphcecjhdkcoaaGreatDoor
open Go.RowKit
namespace R1
def has (l : Sp.Str) (c : UInt8) : Bool := l.contains c
theorem has_of {x t : ByteArray} {c : UInt8} {k : Nat} (hx : bl x = [c]) (h : k < t.size) (hc : ((t.extract k (k + 1)).toList == x.toList) = true) : has (bl t) c = true := by
  rw [eqs_bl, hx, bl_one t k h] at hc
  have : t[k] = c := by simpa using hc
  unfold has
  rw [List.contains_iff_mem, ← this]
  exact List.getElem_mem (l := bl t) (by rw [bl_len]; exact h)
theorem has_snoc {x t : ByteArray} {c : UInt8} {k : Nat} (hx : bl x = [c]) (h : k < t.size) (hc : ((t.extract k (k + 1)).toList == x.toList) = false) (hn : has ((bl t).take k) c = false) : has ((bl t).take (k + 1)) c = false := by
  rw [eqs_bl, hx, bl_one t k h] at hc
  have : t[k] ≠ c := by simpa using hc
  unfold has at *
  rw [take_snoc t k h, List.contains_eq_any_beq, List.any_append, ← List.contains_eq_any_beq, hn]
  simp; exact fun e => this e.symm
end R1
theorem in_any (x t : ByteArray) (c : UInt8) (w : World) (hx : bl x = [c]) (ht : t.size ≤ 4611686018427387904) :
    Calls Tryz.prog 118 #[.string x, .string t] w fun e w' => e = .returned (.bool (R1.has (bl t) c)) ∧ w = w' := by
  have hx1 : x.size = 1 := by rw [← bl_len, hx]; rfl
  have HX := Lib.hid hx
  clear hx
  go_enter Tryz.func118, Tryz.ntmps118
  go_wp2
  go_loop [5] (fun i => ∃ k : Nat, k ≤ t.size ∧ R1.has ((bl t).take k) c = false ∧ i = .int .i64 k) (fun i => t.size + 1 - (intOf i).toNat)
  case atStart => exact ⟨0, Nat.zero_le _, rfl, rfl⟩
  case round =>
    obtain ⟨k, hk, hn, rfl⟩ := hrel
    have HN := Lib.hid hn
    clear hn
    by_cases h : k < t.size
    · go_wp2
      · have hc : ((t.extract k (k + 1)).toList == x.toList) = true := by assumption
        go_ret
        exact ⟨ret_bool (R1.has_of HX.out h hc).symm, rfl⟩
      · have hc : ((t.extract k (k + 1)).toList == x.toList) = false := by assumption
        go_round
        case rel => exact ⟨k + 1, by omega, R1.has_snoc HX.out h hc HN.out, by go_num⟩
        case measure => simp [intOf]; omega
    · go_wp2
      go_ret
      have : (bl t).take k = bl t := List.take_of_length_le (by rw [bl_len]; omega)
      rw [this] at HN
      exact ⟨ret_bool HN.out.symm, rfl⟩
namespace R1
theorem all_snoc {s : ByteArray} {f : UInt8 → Bool} {k : Nat} (h : k < s.size) (ha : ((bl s).take k).all f = true) (hk : f s[k] = true) : ((bl s).take (k + 1)).all f = true := by
  rw [take_snoc s k h, List.all_append, ha]; simp [hk]
theorem made_stop {s : ByteArray} {t : Sp.Str} {a b k : Nat} (h : k < s.size) (hk : has t s[k] = false) : Sp.among (bl s) t a b = false := by
  unfold Sp.among
  have : (bl s).all (fun c => t.contains c) = false := by
    rw [Bool.eq_false_iff]; intro ha
    rw [List.all_eq_true] at ha
    have := ha s[k] (List.getElem_mem (l := bl s) (by rw [bl_len]; exact h))
    unfold has at hk
    rw [this] at hk; cases hk
  rw [this]; rfl
theorem made_all {s : ByteArray} {t : Sp.Str} {a b k : Nat} (h : ¬ k < s.size) (ha : ((bl s).take k).all (fun c => has t c) = true) : Sp.among (bl s) t a b = (decide (a ≤ s.size) && decide (s.size ≤ b)) := by
  have : (bl s).take k = bl s := List.take_of_length_le (by rw [bl_len]; omega)
  rw [this] at ha
  unfold Sp.among
  unfold has at ha
  rw [ha, bl_len, Bool.true_and]
end R1
theorem made_any (s t : ByteArray) (least most : Nat) (w : World) (hs : s.size ≤ 4611686018427387904) (ht : t.size ≤ 4611686018427387904) (_hl : least ≤ 4611686018427387904) (_hm : most ≤ 4611686018427387904) :
    Calls Tryz.prog 117 #[.string s, .string t, .int .i64 least, .int .i64 most] w fun e w' => e = .returned (.bool (Sp.among (bl s) (bl t) least most)) ∧ w = w' := by
  go_enter Tryz.func117, Tryz.ntmps117
  go_wp2
  go_loop [9, 10] (fun i _ => ∃ k : Nat, k ≤ s.size ∧ ((bl s).take k).all (fun c => R1.has (bl t) c) = true ∧ i = .int .i64 k) (fun i _ => s.size + 1 - (intOf i).toNat)
  case atStart => exact ⟨0, Nat.zero_le _, rfl, rfl⟩
  case round =>
    obtain ⟨k, hk, hn, rfl⟩ := hrel
    have HN := Lib.hid hn
    clear hn
    by_cases h : k < s.size
    · cases hh : R1.has (bl t) s[k] with
      | true =>
        have HH := Lib.hid hh
        clear hh
        go_wp2_with fail
        refine (in_any _ _ s[k] _ (bl_one s k h) ht).mono ?_
        rintro e w' ⟨rfl, rfl⟩
        rw [HH.out]
        go_wp2
        go_round
        case rel => exact ⟨k + 1, by omega, R1.all_snoc h HN.out HH.out, by go_num⟩
        case measure => simp [intOf]; omega
      | false =>
        have HH := Lib.hid hh
        clear hh
        go_wp2_with fail
        refine (in_any _ _ s[k] _ (bl_one s k h) ht).mono ?_
        rintro e w' ⟨rfl, rfl⟩
        rw [HH.out]
        go_wp2
        go_ret
        exact ⟨ret_bool (R1.made_stop h HH.out).symm, rfl⟩
    · by_cases h1 : least ≤ s.size
      · go_wp2
        go_ret
        exact ⟨ret_bool (by rw [R1.made_all h HN.out]; simp [h1]), rfl⟩
      · go_wp2
        go_ret
        exact ⟨ret_bool (by rw [R1.made_all h HN.out]; simp [h1]), rfl⟩
namespace R1
theorem head_size {s : ByteArray} {t : Sp.Str} {m : Nat} (h : Sp.among (bl s) t 1 m = true) : 0 < s.size := by
  unfold Sp.among at h
  simp at h
  have := h.1.2
  rw [bl_len] at this; omega
theorem head_ex {s : ByteArray} (h : 0 < s.size) : ∃ c r, bl s = c :: r ∧ bl (s.extract 0 1) = [c] := by
  have h1 := bl_one s 0 h
  cases hs : bl s with
  | nil => rw [← bl_len, hs] at h; simp at h
  | cons c r => exact ⟨c, r, rfl, by rw [bl_to, hs]; rfl⟩
theorem dig_has (c : UInt8) : has [48, 49, 50, 51, 52, 53, 54, 55, 56, 57] c = Sp.isDig c := by
  unfold has Sp.isDig
  rw [Bool.eq_iff_iff]
  simp only [List.contains_iff_mem, List.mem_cons, List.not_mem_nil, or_false, Bool.and_eq_true, decide_eq_true_eq]
  constructor
  · rintro (rfl | rfl | rfl | rfl | rfl | rfl | rfl | rfl | rfl | rfl) <;> decide
  · rintro ⟨h1, h2⟩
    have : c.toNat = 48 ∨ c.toNat = 49 ∨ c.toNat = 50 ∨ c.toNat = 51 ∨ c.toNat = 52 ∨ c.toNat = 53 ∨ c.toNat = 54 ∨ c.toNat = 55 ∨ c.toNat = 56 ∨ c.toNat = 57 := by omega
    simp only [← UInt8.toNat_inj]
    exact this
end R1
theorem isName_any (s : ByteArray) (w : World) (hs : s.size ≤ 4611686018427387904) :
    Calls Tryz.prog 67 #[.string s] w fun e w' => e = .returned (.bool (Sp.isName (bl s))) ∧ w = w' := by
  cases ha : Sp.among (bl s) Sp.nameS 1 12 with
  | false =>
    have HA := Lib.hid ha
    clear ha
    go_enter Tryz.func67, Tryz.ntmps67
    go_wp2_with fail
    refine (made_any s _ 1 12 w hs (by decide) (by decide) (by decide)).mono ?_
    rintro e w1 ⟨rfl, rfl⟩
    rw [show bl ⟨#[97, 98, 99, 100, 101, 102, 103, 104, 105, 106, 107, 108, 109, 110, 111, 112, 113, 114, 115, 116, 117, 118, 119, 120, 121, 122, 48, 49, 50, 51, 52, 53, 54, 55, 56, 57, 45]⟩ = Sp.nameS from rfl, HA.out]
    go_wp2
    go_ret
    exact ⟨ret_bool (by unfold Sp.isName; rw [HA.out]; rfl), rfl⟩
  | true =>
    have hsz := R1.head_size ha
    obtain ⟨c, r, hcr, hone⟩ := R1.head_ex hsz
    have HA := Lib.hid ha
    have HC := Lib.hid hcr
    have HO := Lib.hid hone
    clear ha hcr hone
    go_enter Tryz.func67, Tryz.ntmps67
    go_wp2_with fail
    refine (made_any s _ 1 12 w hs (by decide) (by decide) (by decide)).mono ?_
    rintro e w1 ⟨rfl, rfl⟩
    rw [show bl ⟨#[97, 98, 99, 100, 101, 102, 103, 104, 105, 106, 107, 108, 109, 110, 111, 112, 113, 114, 115, 116, 117, 118, 119, 120, 121, 122, 48, 49, 50, 51, 52, 53, 54, 55, 56, 57, 45]⟩ = Sp.nameS from rfl, HA.out]
    go_wp2_with fail
    refine (in_any _ _ c _ HO.out (by decide)).mono ?_
    rintro e w1 ⟨rfl, rfl⟩
    go_wp2
    go_ret
    exact ⟨ret_bool (by unfold Sp.isName; rw [HA.out, HC.out]; rfl), rfl⟩
theorem isVer_any (s : ByteArray) (w : World) (hs : s.size ≤ 4611686018427387904) :
    Calls Tryz.prog 68 #[.string s] w fun e w' => e = .returned (.bool (Sp.isVer (bl s))) ∧ w = w' := by
  cases ha : Sp.among (bl s) Sp.verS 1 16 with
  | false =>
    have HA := Lib.hid ha
    clear ha
    go_enter Tryz.func68, Tryz.ntmps68
    go_wp2_with fail
    refine (made_any s _ 1 16 w hs (by decide) (by decide) (by decide)).mono ?_
    rintro e w1 ⟨rfl, rfl⟩
    rw [show bl ⟨#[97, 98, 99, 100, 101, 102, 103, 104, 105, 106, 107, 108, 109, 110, 111, 112, 113, 114, 115, 116, 117, 118, 119, 120, 121, 122, 65, 66, 67, 68, 69, 70, 71, 72, 73, 74, 75, 76, 77, 78, 79, 80, 81, 82, 83, 84, 85, 86, 87, 88, 89, 90, 48, 49, 50, 51, 52, 53, 54, 55, 56, 57, 46, 43, 45, 126]⟩ = Sp.verS from rfl, HA.out]
    go_wp2
    go_ret
    exact ⟨ret_bool (by unfold Sp.isVer; rw [HA.out]; rfl), rfl⟩
  | true =>
    have hsz := R1.head_size ha
    obtain ⟨c, r, hcr, hone⟩ := R1.head_ex hsz
    have HA := Lib.hid ha
    have HC := Lib.hid hcr
    have HO := Lib.hid hone
    clear ha hcr hone
    go_enter Tryz.func68, Tryz.ntmps68
    go_wp2_with fail
    refine (made_any s _ 1 16 w hs (by decide) (by decide) (by decide)).mono ?_
    rintro e w1 ⟨rfl, rfl⟩
    rw [show bl ⟨#[97, 98, 99, 100, 101, 102, 103, 104, 105, 106, 107, 108, 109, 110, 111, 112, 113, 114, 115, 116, 117, 118, 119, 120, 121, 122, 65, 66, 67, 68, 69, 70, 71, 72, 73, 74, 75, 76, 77, 78, 79, 80, 81, 82, 83, 84, 85, 86, 87, 88, 89, 90, 48, 49, 50, 51, 52, 53, 54, 55, 56, 57, 46, 43, 45, 126]⟩ = Sp.verS from rfl, HA.out]
    go_wp2_with fail
    refine (in_any _ _ c _ HO.out (by decide)).mono ?_
    rintro e w1 ⟨rfl, rfl⟩
    go_wp2
    go_ret
    exact ⟨ret_bool (by unfold Sp.isVer; rw [HA.out, HC.out]; exact R1.dig_has c), rfl⟩
namespace R1
theorem pre_yes {s t : ByteArray} (_h : t.size ≤ s.size) : (bl t).isPrefixOf (bl s) = ((s.extract 0 t.size).toList == t.toList) := by
  rw [eqs_bl, bl_to, Bool.eq_iff_iff, List.isPrefixOf_iff_prefix, List.prefix_iff_eq_take, beq_iff_eq, bl_len]
  exact ⟨fun h => h.symm, fun h => h.symm⟩
theorem pre_no {s t : ByteArray} (h : ¬ t.size ≤ s.size) : (bl t).isPrefixOf (bl s) = false := by
  rw [Bool.eq_false_iff]; intro e
  have := (List.isPrefixOf_iff_prefix.1 e).length_le
  rw [bl_len, bl_len] at this; omega
end R1
theorem begins_any (s t : ByteArray) (w : World) :
    Calls Tryz.prog 69 #[.string s, .string t] w fun e w' => e = .returned (.bool ((bl t).isPrefixOf (bl s))) ∧ w = w' := by
  by_cases h : t.size ≤ s.size
  · go_enter Tryz.func69, Tryz.ntmps69
    go_wp2
    go_ret
    exact ⟨ret_bool (R1.pre_yes h).symm, rfl⟩
  · go_enter Tryz.func69, Tryz.ntmps69
    go_wp2
    go_ret
    exact ⟨ret_bool (R1.pre_no h).symm, rfl⟩
theorem over_any (s t : ByteArray) (w : World) (hs : s.size < 1000000) :
    Calls Tryz.prog 72 #[.string s, .string t] w fun e w' => e = .returned (.bool (Sp.over (bl s) (bl t))) ∧ w = w' := by
  go_enter Tryz.func72, Tryz.ntmps72
  go_wp2_with fail
  refine (begins_any _ _ _).mono ?_
  rintro e w1 ⟨rfl, rfl⟩
  go_wp2
  go_ret
  exact ⟨ret_bool (by rw [bl_app]; rfl), rfl⟩
end Go.Proofs.YtfphcecjhdkcoaaGreatDoor
/-
Walks of the program's functions on versions: weight, at, split.
-/
namespace Go.Proofs.YtfphcecjhdkcoaaGreatDoor
open Go.RowKit
theorem bl_get (s : ByteArray) (k : Nat) (h : k < s.size) : (bl s)[k]? = some s[k] := by
  have h1 := congrArg (fun l : List UInt8 => l[k]?) (take_snoc s k h)
  have hl : ((bl s).take k).length = k := by rw [List.length_take, bl_len]; omega
  have h2 : ((bl s).take (k + 1))[k]? = ((bl s).take k ++ [s[k]])[k]? := h1
  rw [List.getElem?_take, if_pos (by omega), List.getElem?_append_right (by omega), hl, Nat.sub_self] at h2
  exact h2
namespace CM
theorem weight_til (c : UInt8) (h : c.toNat = 126) : Sp.weight c = -1 := by
  unfold Sp.weight; rw [if_pos (UInt8.toNat_inj.1 h)]
theorem weight_let (c : UInt8) (h : (97 ≤ c.toNat ∧ c.toNat ≤ 122) ∨ (65 ≤ c.toNat ∧ c.toNat ≤ 90)) : Sp.weight c = c.toNat := by
  unfold Sp.weight; rw [if_neg (by rintro rfl; revert h; decide), if_pos h]
theorem weight_oth (c : UInt8) (h0 : c.toNat ≠ 126) (h : ¬ ((97 ≤ c.toNat ∧ c.toNat ≤ 122) ∨ (65 ≤ c.toNat ∧ c.toNat ≤ 90))) : Sp.weight c = c.toNat + 256 := by
  unfold Sp.weight; rw [if_neg (by rintro rfl; exact h0 rfl), if_neg h]
end CM
theorem weight_any (c : UInt8) (w : World) : Calls Tryz.prog 134 #[.int .u8 (c.toNat : Int)] w fun e w' => e = .returned (.int .i64 (Sp.weight c)) ∧ w = w' := by
  have hc := c.toNat_lt
  by_cases h : c.toNat = 126
  · have HW := Lib.hid (CM.weight_til c h)
    have h' : ((c.toNat : Int) == 126) = true := by simp; omega
    go_enter Tryz.func134, Tryz.ntmps134
    go_wp2
    go_ret
    exact ⟨ret_int HW.out.symm, rfl⟩
  · have h' : ((c.toNat : Int) == 126) = false := by simp; omega
    by_cases h1 : 97 ≤ c.toNat
    · by_cases h2 : c.toNat ≤ 122
      · have HW := Lib.hid (CM.weight_let c (.inl ⟨h1, h2⟩))
        go_enter Tryz.func134, Tryz.ntmps134
        go_wp2
        go_ret
        exact ⟨ret_int HW.out.symm, rfl⟩
      · have h3 : 65 ≤ c.toNat := by omega
        have h4 : ¬ c.toNat ≤ 90 := by omega
        have HW := Lib.hid (CM.weight_oth c h (by omega))
        go_enter Tryz.func134, Tryz.ntmps134
        go_wp2
        go_ret
        exact ⟨ret_int HW.out.symm, rfl⟩
    · by_cases h3 : 65 ≤ c.toNat
      · by_cases h4 : c.toNat ≤ 90
        · have HW := Lib.hid (CM.weight_let c (.inr ⟨h3, h4⟩))
          go_enter Tryz.func134, Tryz.ntmps134
          go_wp2
          go_ret
          exact ⟨ret_int HW.out.symm, rfl⟩
        · have HW := Lib.hid (CM.weight_oth c h (by omega))
          go_enter Tryz.func134, Tryz.ntmps134
          go_wp2
          go_ret
          exact ⟨ret_int HW.out.symm, rfl⟩
      · have HW := Lib.hid (CM.weight_oth c h (by omega))
        go_enter Tryz.func134, Tryz.ntmps134
        go_wp2
        go_ret
        exact ⟨ret_int HW.out.symm, rfl⟩
namespace CM
/-- The weight at a place; of the end: 0. -/
def wAt (s : Sp.Str) (i : Nat) : Int := match s[i]? with
  | some c => Sp.weight c
  | none => 0
end CM
theorem at_any (s : ByteArray) (i : Nat) (w : World) : Calls Tryz.prog 89 #[.string s, .int .i64 i] w fun e w' => e = .returned (.int .i64 (CM.wAt (bl s) i)) ∧ w = w' := by
  by_cases h : i < s.size
  · have hw : CM.wAt (bl s) i = Sp.weight s[i] := by
      unfold CM.wAt; rw [bl_get s i h]
    have HW := Lib.hid hw
    clear hw
    go_enter Tryz.func89, Tryz.ntmps89
    go_wp2_with fail
    refine (weight_any _ _).mono ?_
    rintro e w' ⟨rfl, rfl⟩
    go_wp2
    go_ret
    exact ⟨ret_int HW.out.symm, rfl⟩
  · have hw : CM.wAt (bl s) i = 0 := by
      unfold CM.wAt; rw [List.getElem?_eq_none (by rw [bl_len]; omega)]
    have HW := Lib.hid hw
    clear hw
    go_enter Tryz.func89, Tryz.ntmps89
    go_wp2
    go_ret
    exact ⟨ret_int HW.out.symm, rfl⟩
theorem notDig_any (f : Nat) (hf : f = 85 ∨ f = 87) (c : UInt8) (w : World) : Calls Tryz.prog f #[.int .u8 (c.toNat : Int)] w fun e w' => e = .returned (.bool (Sp.notDig c)) ∧ w = w' := by
  have HS := Lib.hid (show Sp.notDig c = !Sp.isDig c from rfl)
  rcases hf with rfl | rfl
  · go_enter Tryz.func85, Tryz.ntmps85
    go_wp2_with fail
    refine (digit_any _ _).mono ?_
    rintro e w' ⟨rfl, rfl⟩
    go_wp2
    go_ret
    exact ⟨ret_bool (by rw [HS.out]), rfl⟩
  · go_enter Tryz.func87, Tryz.ntmps87
    go_wp2_with fail
    refine (digit_any _ _).mono ?_
    rintro e w' ⟨rfl, rfl⟩
    go_wp2
    go_ret
    exact ⟨ret_bool (by rw [HS.out]), rfl⟩
namespace CM
theorem take_all {p : UInt8 → Bool} : ∀ {l : Sp.Str} {k : Nat}, (l.take k).all p = true → (∀ c, l[k]? = some c → p c = false) → l.takeWhile p = l.take k ∧ l.dropWhile p = l.drop k
  | [], k, _, _ => by simp
  | c :: r, 0, _, h => by
    have := h c (by simp)
    simp [this]
  | c :: r, k + 1, h1, h2 => by
    rw [List.take_succ_cons, List.all_cons, Bool.and_eq_true] at h1
    obtain ⟨i1, i2⟩ := take_all (l := r) (k := k) h1.2 (fun d hd => h2 d (by simpa using hd))
    rw [List.takeWhile_cons_of_pos h1.1, List.dropWhile_cons_of_pos h1.1, i1, i2]
    simp
end CM
set_option maxRecDepth 100000 in
theorem vsplit_any (f : Nat) (p : UInt8 → Bool) (hf : ∀ (c : UInt8) (w : World), Calls Tryz.prog f #[.int .u8 (c.toNat : Int)] w fun e w' => e = .returned (.bool (p c)) ∧ w = w') (hcf : ∀ (args : Array Value) (w : World), (callFunc f args).run Tryz.prog w = .ok (.enter f args) w) (s : ByteArray) (w : World) (hs : s.size ≤ 4611686018427387904) :
    Calls Tryz.prog 84 #[.string s, .func (.func f) #[] #[]] w fun e w' => e = .returned (.tuple #[.string ⟨((bl s).takeWhile p).toArray⟩, .string ⟨((bl s).dropWhile p).toArray⟩]) ∧ Below w.heap.size w w' := by
  have HF := Lib.hid hf
  have HCF := Lib.hid hcf
  clear hf hcf
  go_enter Tryz.func84, Tryz.ntmps84
  go_wp2
  go_loopw [6] (fun i wr => ∃ k : Nat, k ≤ s.size ∧ ((bl s).take k).all p = true ∧ i = .int .i64 k ∧ wr = w) (fun i _ => s.size + 1 - (intOf i).toNat)
  case atStart => exact ⟨0, Nat.zero_le _, rfl, rfl, rfl⟩
  case round =>
    obtain ⟨k, hk, hn, rfl, rfl⟩ := hrel
    have HN := Lib.hid hn
    clear hn
    by_cases h : k < s.size
    · cases hh : p s[k] with
      | true =>
        have HH := Lib.hid hh
        clear hh
        go_wp2_with fail
        rw [HCF.out]
        refine (HF.out _ _).mono ?_
        rintro e w' ⟨rfl, rfl⟩
        rw [HH.out]
        go_wp2
        go_roundw
        case rel => exact ⟨k + 1, by omega, R1.all_snoc h HN.out HH.out, by go_num, trivial⟩
        case measure => simp [intOf]; omega
      | false =>
        have HH := Lib.hid hh
        clear hh
        have hts := CM.take_all HN.out (fun c hc => by
          rw [bl_get s k h] at hc
          injection hc with hc
          rw [← hc]; exact HH.out)
        have HT := Lib.hid hts
        clear hts
        go_wp2_with fail
        rw [HCF.out]
        refine (HF.out _ _).mono ?_
        rintro e w' ⟨rfl, rfl⟩
        rw [HH.out]
        go_wp2
        go_quiet (fail)
        go_wp2
        go_ret2
        exact ⟨by rw [HT.out.1, HT.out.2, ← bl_to, ← bl_from]; rfl, below_drawn _ _⟩
    · have hts := CM.take_all HN.out (fun c hc => by rw [List.getElem?_eq_none (by rw [bl_len]; omega)] at hc; cases hc)
      have HT := Lib.hid hts
      clear hts
      go_wp2_with fail
      go_quiet (fail)
      go_wp2
      go_ret2
      exact ⟨by rw [HT.out.1, HT.out.2, ← bl_to, ← bl_from]; rfl, below_drawn _ _⟩
end Go.Proofs.YtfphcecjhdkcoaaGreatDoor
/-
The walk of the program's Compare of two versions.
-/
namespace Go.Proofs.YtfphcecjhdkcoaaGreatDoor
open Go.RowKit
theorem isNaNs_any (s : ByteArray) (w : World) : Calls Tryz.prog 139 #[.string s] w fun e w' => e = .returned (.bool false) ∧ w = w' := by
  go_enter Tryz.func139, Tryz.ntmps139
  go_wp2
  go_ret
  exact ⟨rfl, rfl⟩
namespace CM
theorem less_lt : ∀ a b : Sp.Str, Op.bytesLess a b = Sp.strLt a b
  | [], [] => rfl
  | [], _ :: _ => rfl
  | _ :: _, [] => rfl
  | a :: x, b :: y => by
    unfold Op.bytesLess Sp.strLt
    rw [less_lt x y]
    by_cases h1 : a < b
    · simp [h1]
    · by_cases h2 : b < a
      · have : (a == b) = false := by simp; intro e; subst e; exact absurd h2 (UInt8.lt_irrefl _)
        simp [h1, h2, this]
      · have : a = b := UInt8.le_antisymm (UInt8.not_lt.1 h2) (UInt8.not_lt.1 h1)
        subst this; simp [h1]
theorem lt_conn {a b : Sp.Str} (h1 : Sp.strLt a b = false) (h2 : a ≠ b) : Sp.strLt b a = true := by
  rw [P3.lt_iff]
  rw [← Bool.not_eq_true, P3.lt_iff] at h1
  rcases List.le_iff_lt_or_eq.1 (List.not_lt.1 h1) with h | h
  · exact h
  · exact absurd h.symm h2
theorem cmpS_lt {a b : ByteArray} (h : Op.bytesLess a.toList b.toList = true) : Sp.cmpS (bl a) (bl b) = -1 := by
  rw [toList_bl, toList_bl, less_lt] at h
  unfold Sp.cmpS; rw [if_pos h]
theorem cmpS_gt {a b : ByteArray} (h : Op.bytesLess a.toList b.toList = false) (h2 : (!a.toList == b.toList) = true) : Sp.cmpS (bl a) (bl b) = 1 := by
  rw [toList_bl, toList_bl, less_lt] at h
  rw [toList_bl, toList_bl] at h2
  unfold Sp.cmpS; rw [if_neg (by rw [h]; simp), if_pos (lt_conn h (by simpa using h2))]
theorem cmpS_eq {a b : ByteArray} (_h : Op.bytesLess a.toList b.toList = false) (h2 : (!a.toList == b.toList) = false) : Sp.cmpS (bl a) (bl b) = 0 := by
  rw [toList_bl, toList_bl] at h2
  have e : bl a = bl b := by simpa using h2
  unfold Sp.cmpS; rw [e, V4.strLt_irrefl]; rfl
end CM
theorem cmpS_any (a b : ByteArray) (w : World) : Calls Tryz.prog 92 #[.string a, .string b] w fun e w' => e = .returned (.int .i64 (Sp.cmpS (bl a) (bl b))) ∧ w = w' := by
  go_enter Tryz.func92, Tryz.ntmps92
  go_wp2_with fail
  refine (isNaNs_any _ _).mono ?_
  rintro e w' ⟨rfl, rfl⟩
  go_wp2_with fail
  refine (isNaNs_any _ _).mono ?_
  rintro e w' ⟨rfl, rfl⟩
  go_wp2
  · go_ret
    exact ⟨ret_int (CM.cmpS_lt (by assumption)).symm, rfl⟩
  · go_ret
    exact ⟨ret_int (CM.cmpS_gt (by assumption) (by assumption)).symm, rfl⟩
  · go_ret
    exact ⟨ret_int (CM.cmpS_eq (by assumption) (by assumption)).symm, rfl⟩
theorem or2_any (b : Nat) (x y : Int) (w : World) (h0 : w.cell? ⟨b, 0, none⟩ = some (.int .i64 x)) (h1 : w.cell? ⟨b, 1, none⟩ = some (.int .i64 y)) : Calls Tryz.prog 91 #[.slice (some ⟨b, 0, none⟩) 2 2] w fun e w' => e = .returned (.int .i64 (if x = 0 then y else x)) ∧ w = w' := by
  by_cases hx : x = 0
  · subst hx
    by_cases hy : y = 0
    · subst hy
      go_enter Tryz.func91, Tryz.ntmps91
      go_wp2
      refine wp_loop_rounds 3 ?_
      rw [rounds_succ]
      go_wp2
      rw [rounds_succ]
      go_wp2
      rw [rounds_succ]
      go_wp2
      go_ret
      exact ⟨rfl, rfl⟩
    · have hy' : (y != 0) = true := by simpa using hy
      go_enter Tryz.func91, Tryz.ntmps91
      go_wp2
      refine wp_loop_rounds 2 ?_
      rw [rounds_succ]
      go_wp2
      rw [rounds_succ]
      go_wp2
      go_ret
      exact ⟨rfl, rfl⟩
  · have hx' : (x != 0) = true := by simpa using hx
    go_enter Tryz.func91, Tryz.ntmps91
    go_wp2
    refine wp_loop_rounds 1 ?_
    rw [rounds_succ]
    go_wp2
    go_ret
    exact ⟨rfl, rfl⟩
end Go.Proofs.YtfphcecjhdkcoaaGreatDoor
/-
The walk of the program's Compare of two versions, whole.
-/
namespace Go.Proofs.YtfphcecjhdkcoaaGreatDoor
open Go.RowKit
namespace CM
def strLen : Value → Nat
  | .string s => s.size
  | _ => 0
theorem cmpI (x y : Int) : Lib.compareInt x y = Sp.sgn (x - y) := by
  unfold Lib.compareInt Sp.sgn
  repeat' split
  all_goals first | rfl | omega
theorem wAt_drop (s : Sp.Str) (i : Nat) : wAt s i = match s.drop i with
  | c :: _ => Sp.weight c
  | [] => 0 := by
  unfold wAt
  by_cases h : i < s.length
  · rw [List.getElem?_eq_getElem h, List.drop_eq_getElem_cons h]
  · rw [List.getElem?_eq_none (by omega), List.drop_eq_nil_of_le (by omega)]
theorem diff_same {x y : Sp.Str} {i : Nat} (hi : i < x.length ∨ i < y.length) (h : Sp.sgn (wAt x i - wAt y i) = 0) : Sp.diffW Sp.weight (x.drop i) (y.drop i) = Sp.diffW Sp.weight (x.drop (i + 1)) (y.drop (i + 1)) := by
  rw [wAt_drop, wAt_drop] at h
  have e : ∀ s : Sp.Str, s.drop (i + 1) = (s.drop i).drop 1 := fun s => by rw [List.drop_drop]
  rw [e x, e y]
  cases hx : x.drop i with
  | nil =>
    cases hy : y.drop i with
    | nil =>
      have h1 := List.drop_eq_nil_iff.1 hx
      have h2 := List.drop_eq_nil_iff.1 hy
      omega
    | cons b r => rw [hx, hy] at h; simp only at h; rw [Sp.diffW, if_pos h]; rfl
  | cons a q =>
    cases hy : y.drop i with
    | nil => rw [hx, hy] at h; simp only [Int.sub_zero] at h; rw [Sp.diffW, if_pos h]; rfl
    | cons b r => rw [hx, hy] at h; simp only at h; rw [Sp.diffW, if_pos h]; rfl
theorem diff_other {x y : Sp.Str} {i : Nat} (hi : i < x.length ∨ i < y.length) (h : Sp.sgn (wAt x i - wAt y i) ≠ 0) : Sp.diffW Sp.weight (x.drop i) (y.drop i) = Sp.sgn (wAt x i - wAt y i) := by
  rw [wAt_drop, wAt_drop] at h ⊢
  cases hx : x.drop i with
  | nil =>
    cases hy : y.drop i with
    | nil =>
      have h1 := List.drop_eq_nil_iff.1 hx
      have h2 := List.drop_eq_nil_iff.1 hy
      omega
    | cons b r => rw [hx, hy] at h; simp only at h ⊢; rw [Sp.diffW, if_neg h]
  | cons a q =>
    cases hy : y.drop i with
    | nil => rw [hx, hy] at h; simp only [Int.sub_zero] at h ⊢; rw [Sp.diffW, if_neg h]
    | cons b r => rw [hx, hy] at h; simp only at h ⊢; rw [Sp.diffW, if_neg h]
theorem diff_end {x y : Sp.Str} {i : Nat} (h1 : x.length ≤ i) (h2 : y.length ≤ i) : Sp.diffW Sp.weight (x.drop i) (y.drop i) = 0 := by
  rw [List.drop_eq_nil_of_le h1, List.drop_eq_nil_of_le h2, Sp.diffW]
theorem bare_eq (s : Sp.Str) : Lib.trimLeftS s [48] = Sp.bare s := by
  unfold Lib.trimLeftS Sp.bare
  congr 1
  funext c
  rw [Bool.eq_iff_iff]; simp
theorem diffD_eq (x y : Sp.Str) : (if Lib.compareInt ((Sp.bare x).length : Int) (Sp.bare y).length = 0 then Sp.cmpS (Sp.bare x) (Sp.bare y) else Lib.compareInt ((Sp.bare x).length : Int) (Sp.bare y).length) = Sp.diffD x y := by
  rw [cmpI]
  unfold Sp.diffD
  by_cases h : (Sp.bare x).length = (Sp.bare y).length
  · rw [h, Int.sub_self, V4.sgn_zero, if_pos rfl, if_pos rfl]
  · rw [if_neg h, if_neg]
    unfold Sp.sgn
    repeat' split
    all_goals omega
theorem cmp_nil : Sp.cmp [] [] = 0 := rfl
theorem drop_sum {x y : Sp.Str} (h : (x.isEmpty && y.isEmpty) = false) : ((x.dropWhile Sp.notDig).dropWhile Sp.isDig).length + ((y.dropWhile Sp.notDig).dropWhile Sp.isDig).length < x.length + y.length := by
  have h1 := V4.drop_le x
  have h2 := V4.drop_le y
  by_cases hx : x = []
  · have hy : y ≠ [] := by rintro rfl; rw [hx] at h; simp at h
    have := V4.drop_lt hy; omega
  · have := V4.drop_lt hx; omega
theorem drops (x : Sp.Str) : ((x.dropWhile Sp.notDig).dropWhile Sp.isDig).length ≤ x.length := V4.drop_le x
end CM
theorem cf85 (args : Array Value) (w : World) : (callFunc 85 args).run Tryz.prog w = .ok (.enter 85 args) w := by kernel_rfl
theorem cf86 (args : Array Value) (w : World) : (callFunc 86 args).run Tryz.prog w = .ok (.enter 86 args) w := by kernel_rfl
theorem cf87 (args : Array Value) (w : World) : (callFunc 87 args).run Tryz.prog w = .ok (.enter 87 args) w := by kernel_rfl
theorem split85 (s : ByteArray) (w : World) (hs : s.size ≤ 4611686018427387904) : Calls Tryz.prog 84 #[.string s, .func (.func 85) #[] #[]] w fun e w' => e = .returned (.tuple #[.string ⟨((bl s).takeWhile Sp.notDig).toArray⟩, .string ⟨((bl s).dropWhile Sp.notDig).toArray⟩]) ∧ Below w.heap.size w w' :=
  vsplit_any 85 Sp.notDig (notDig_any 85 (.inl rfl)) cf85 s w hs
theorem split87 (s : ByteArray) (w : World) (hs : s.size ≤ 4611686018427387904) : Calls Tryz.prog 84 #[.string s, .func (.func 87) #[] #[]] w fun e w' => e = .returned (.tuple #[.string ⟨((bl s).takeWhile Sp.notDig).toArray⟩, .string ⟨((bl s).dropWhile Sp.notDig).toArray⟩]) ∧ Below w.heap.size w w' :=
  vsplit_any 87 Sp.notDig (notDig_any 87 (.inr rfl)) cf87 s w hs
theorem split86 (s : ByteArray) (w : World) (hs : s.size ≤ 4611686018427387904) : Calls Tryz.prog 84 #[.string s, .func (.func 86) #[] #[]] w fun e w' => e = .returned (.tuple #[.string ⟨((bl s).takeWhile Sp.isDig).toArray⟩, .string ⟨((bl s).dropWhile Sp.isDig).toArray⟩]) ∧ Below w.heap.size w w' :=
  vsplit_any 86 Sp.isDig digit_any cf86 s w hs
set_option maxRecDepth 100000 in
set_option maxHeartbeats 1000000 in
theorem cmp_any (s t : ByteArray) (w : World) (hs : s.size ≤ 1099511627776) (ht : t.size ≤ 1099511627776) :
    Calls Tryz.prog 57 #[.string s, .string t] w fun e w' => e = .returned (.int .i64 (Sp.cmp (bl s) (bl t))) ∧ Below w.heap.size w w' := by
  generalize hR : Sp.cmp (bl s) (bl t) = R
  have HR := Lib.hid hR
  clear hR
  obtain ⟨B, hB⟩ : ∃ B, w.heap.size = B := ⟨_, rfl⟩
  rw [hB]
  have HB := Lib.hid hB
  clear hB
  go_enter Tryz.func57, Tryz.ntmps57
  go_wp2
  go_loopw [0, 1] (fun a b wr => ∃ x y : Sp.Str, a = .string ⟨x.toArray⟩ ∧ b = .string ⟨y.toArray⟩ ∧ x.length ≤ 1099511627776 ∧ y.length ≤ 1099511627776 ∧ Sp.cmp x y = R ∧ Below B w wr) (fun a b _ => CM.strLen a + CM.strLen b)
  case atStart => exact ⟨bl s, bl t, by rw [mk_bl], by rw [mk_bl], by rw [bl_len]; exact hs, by rw [bl_len]; exact ht, HR.out, Below.refl _ _⟩
  case round =>
    obtain ⟨x, y, rfl, rfl, hx, hy, hcmp, hbel⟩ := hrel
    have hbs : B ≤ wr.heap.size := by rw [← HB.out]; exact hbel.size
    cases hxe : x.isEmpty with
    | true =>
      cases hye : y.isEmpty with
      | true =>
        have hr : R = 0 := by
          rw [← hcmp, List.isEmpty_iff.1 hxe, List.isEmpty_iff.1 hye]; rfl
        go_wp2_with fail
        go_ret
        exact ⟨ret_int hr.symm, hbel⟩
      | false =>
        have hemp : (x.isEmpty && y.isEmpty) = false := by rw [hye]; simp
        go_wp2_with fail
        refine (split85 _ _ (by rw [← bl_len]; first | (rw [bl_mk]; omega) | decide)).mono ?_
        rintro e w1 ⟨rfl, hb1⟩
        rw [show bl ⟨x.toArray⟩ = x from rfl]
        go_wp2_with fail
        refine (split87 _ _ (by rw [← bl_len, bl_mk]; omega)).mono ?_
        rintro e w2 ⟨rfl, hb2⟩
        rw [bl_mk]
        have hstep := V4.cmp_step x y hemp
        have hd1 := CM.drops x
        have hd2 := CM.drops y
        have hlt : ((x.dropWhile Sp.notDig).dropWhile Sp.isDig).length + ((y.dropWhile Sp.notDig).dropWhile Sp.isDig).length < x.length + y.length := CM.drop_sum hemp
        have hx1 : (x.takeWhile Sp.notDig).length ≤ x.length := (List.takeWhile_prefix _).length_le
        have hy1 : (y.takeWhile Sp.notDig).length ≤ y.length := (List.takeWhile_prefix _).length_le
        have hx2 : (x.dropWhile Sp.notDig).length ≤ x.length := (List.dropWhile_suffix _).length_le
        have hy2 : (y.dropWhile Sp.notDig).length ≤ y.length := (List.dropWhile_suffix _).length_le
        generalize x.takeWhile Sp.notDig = x1 at *
        generalize y.takeWhile Sp.notDig = y1 at *
        generalize x.dropWhile Sp.notDig = x2 at *
        generalize y.dropWhile Sp.notDig = y2 at *
        rw [hcmp] at hstep
        have HS := Lib.hid hstep
        clear hstep hcmp
        have hs1 := hb1.size
        have hs2 := hb2.size
        have hbw : Below B w w2 := hbel.trans ((hb1.mono hbs).trans (hb2.mono (by omega)))
        clear hb1 hb2
        by_cases hmax : x1.length ≤ y1.length
        all_goals
          go_wp2_with fail
          go_loopw [31] (fun i wi => ∃ k : Nat, i = .int .i64 k ∧ (k ≤ x1.length ∨ k ≤ y1.length) ∧ Sp.diffW Sp.weight x1 y1 = Sp.diffW Sp.weight (x1.drop k) (y1.drop k) ∧ wi = w2) (fun i _ => x1.length + y1.length + 1 - (intOf i).toNat)
          case atStart => exact ⟨0, rfl, .inl (Nat.zero_le _), rfl, rfl⟩
          case round =>
            obtain ⟨k, rfl, hk, hdiff, rfl⟩ := hrel
            have HD := Lib.hid hdiff
            clear hdiff
            by_cases h : k < max x1.length y1.length
            · have hkl : k < x1.length ∨ k < y1.length := by omega
              by_cases ho : Sp.sgn (CM.wAt x1 k - CM.wAt y1 k) = 0
              · have HO := Lib.hid ho
                clear ho
                have hkk : k < (if x1.length ≤ y1.length then y1.length else x1.length) := by split <;> omega
                go_wp2_with fail
                refine (at_any _ _ _).mono ?_
                rintro e w3 ⟨rfl, rfl⟩
                rw [bl_mk]
                go_wp2_with fail
                refine (at_any _ _ _).mono ?_
                rintro e w3 ⟨rfl, rfl⟩
                rw [bl_mk]
                go_wp2_with fail
                refine (cmpInt_any _ _ _).mono ?_
                rintro e w3 ⟨rfl, rfl⟩
                rw [CM.cmpI, HO.out]
                go_wp2
                go_roundw
                case rel => exact ⟨k + 1, by go_num, by omega, by rw [HD.out, CM.diff_same hkl HO.out], trivial⟩
                case measure => simp [intOf]; omega
              · have HO := Lib.hid ho
                have hob : (Sp.sgn (CM.wAt x1 k - CM.wAt y1 k) != 0) = true := by simpa using ho
                clear ho
                go_wp2_with fail
                refine (at_any _ _ _).mono ?_
                rintro e w3 ⟨rfl, rfl⟩
                rw [bl_mk]
                go_wp2_with fail
                refine (at_any _ _ _).mono ?_
                rintro e w3 ⟨rfl, rfl⟩
                rw [bl_mk]
                go_wp2_with fail
                refine (cmpInt_any _ _ _).mono ?_
                rintro e w3 ⟨rfl, rfl⟩
                rw [CM.cmpI]
                go_wp2
                go_ret
                exact ⟨ret_int (by rw [HS.out, HD.out, CM.diff_other hkl HO.out, if_neg HO.out]), hbw⟩
            · have hd0 : Sp.diffW Sp.weight x1 y1 = 0 := by rw [HD.out]; exact CM.diff_end (by omega) (by omega)
              have hS2 := HS.out
              rw [hd0, if_pos rfl] at hS2
              clear HS HD hd0
              have HS := Lib.hid hS2
              clear hS2
              go_wp2_with fail
              refine (split86 _ _ (by rw [← bl_len, bl_mk]; omega)).mono ?_
              rintro e w3 ⟨rfl, hb3⟩
              rw [bl_mk]
              go_wp2_with fail
              refine (split86 _ _ (by rw [← bl_len, bl_mk]; omega)).mono ?_
              rintro e w4 ⟨rfl, hb4⟩
              rw [bl_mk]
              go_wp2_with fail
              refine (trimLeft_any _ _ _ (by decide) (W1.ascii_of (by decide))).mono ?_
              rintro e w5 ⟨rfl, hb5⟩
              rw [bl_mk, show bl ⟨#[48]⟩ = [48] from rfl, CM.bare_eq]
              go_wp2_with fail
              refine (trimLeft_any _ _ _ (by decide) (W1.ascii_of (by decide))).mono ?_
              rintro e w6 ⟨rfl, hb6⟩
              rw [bl_mk, show bl ⟨#[48]⟩ = [48] from rfl, CM.bare_eq]
              have hs3 := hb3.size
              have hs4 := hb4.size
              have hs5 := hb5.size
              have hs6 := hb6.size
              have hbw6 : Below B w w6 := hbw.trans ((hb3.mono (by omega)).trans ((hb4.mono (by omega)).trans ((hb5.mono (by omega)).trans (hb6.mono (by omega)))))
              clear hb3 hb4 hb5 hb6
              go_wp2_with fail
              refine (cmpInt_any _ _ _).mono ?_
              rintro e w7 ⟨rfl, rfl⟩
              go_wp2_with fail
              refine (cmpS_any _ _ _).mono ?_
              rintro e w7 ⟨rfl, rfl⟩
              rw [bl_mk, bl_mk]
              go_wp2_with fail
              refine (or2_any _ _ _ _ (by rw [World.cell?_alloc_at _ _ _ _ rfl]; rfl) (by rw [World.cell?_alloc_at _ _ _ _ rfl]; rfl)).mono ?_
              rintro e w7 ⟨rfl, rfl⟩
              rw [CM.diffD_eq]
              by_cases hd : Sp.diffD (x2.takeWhile Sp.isDig) (y2.takeWhile Sp.isDig) = 0
              · have hS3 := HS.out
                rw [if_pos hd] at hS3
                have HS3 := Lib.hid hS3
                clear hS3
                rw [hd]
                clear hd
                go_wp2
                go_roundw
                case rel => exact ⟨_, _, rfl, rfl, by omega, by omega, HS3.out.symm, hbw6.alloc (by omega) _⟩
                case measure => simp only [CM.strLen, ← bl_len, bl_mk]; exact hlt
              · have hS3 := HS.out
                rw [if_neg hd] at hS3
                have HS3 := Lib.hid hS3
                have hob : (Sp.diffD (x2.takeWhile Sp.isDig) (y2.takeWhile Sp.isDig) != 0) = true := by simpa using hd
                clear hS3 hd
                go_wp2
                go_ret
                exact ⟨ret_int HS3.out.symm, hbw6.alloc (by omega) _⟩
    | false =>
      have hemp : (x.isEmpty && y.isEmpty) = false := by rw [hxe]; simp
      go_wp2_with fail
      refine (split85 _ _ (by rw [← bl_len]; first | (rw [bl_mk]; omega) | decide)).mono ?_
      rintro e w1 ⟨rfl, hb1⟩
      rw [show bl ⟨x.toArray⟩ = x from rfl]
      go_wp2_with fail
      refine (split87 _ _ (by rw [← bl_len, bl_mk]; omega)).mono ?_
      rintro e w2 ⟨rfl, hb2⟩
      rw [bl_mk]
      have hstep := V4.cmp_step x y hemp
      have hd1 := CM.drops x
      have hd2 := CM.drops y
      have hlt : ((x.dropWhile Sp.notDig).dropWhile Sp.isDig).length + ((y.dropWhile Sp.notDig).dropWhile Sp.isDig).length < x.length + y.length := CM.drop_sum hemp
      have hx1 : (x.takeWhile Sp.notDig).length ≤ x.length := (List.takeWhile_prefix _).length_le
      have hy1 : (y.takeWhile Sp.notDig).length ≤ y.length := (List.takeWhile_prefix _).length_le
      have hx2 : (x.dropWhile Sp.notDig).length ≤ x.length := (List.dropWhile_suffix _).length_le
      have hy2 : (y.dropWhile Sp.notDig).length ≤ y.length := (List.dropWhile_suffix _).length_le
      generalize x.takeWhile Sp.notDig = x1 at *
      generalize y.takeWhile Sp.notDig = y1 at *
      generalize x.dropWhile Sp.notDig = x2 at *
      generalize y.dropWhile Sp.notDig = y2 at *
      rw [hcmp] at hstep
      have HS := Lib.hid hstep
      clear hstep hcmp
      have hs1 := hb1.size
      have hs2 := hb2.size
      have hbw : Below B w w2 := hbel.trans ((hb1.mono hbs).trans (hb2.mono (by omega)))
      clear hb1 hb2
      by_cases hmax : x1.length ≤ y1.length
      all_goals
        go_wp2_with fail
        go_loopw [31] (fun i wi => ∃ k : Nat, i = .int .i64 k ∧ (k ≤ x1.length ∨ k ≤ y1.length) ∧ Sp.diffW Sp.weight x1 y1 = Sp.diffW Sp.weight (x1.drop k) (y1.drop k) ∧ wi = w2) (fun i _ => x1.length + y1.length + 1 - (intOf i).toNat)
        case atStart => exact ⟨0, rfl, .inl (Nat.zero_le _), rfl, rfl⟩
        case round =>
          obtain ⟨k, rfl, hk, hdiff, rfl⟩ := hrel
          have HD := Lib.hid hdiff
          clear hdiff
          by_cases h : k < max x1.length y1.length
          · have hkl : k < x1.length ∨ k < y1.length := by omega
            by_cases ho : Sp.sgn (CM.wAt x1 k - CM.wAt y1 k) = 0
            · have HO := Lib.hid ho
              clear ho
              have hkk : k < (if x1.length ≤ y1.length then y1.length else x1.length) := by split <;> omega
              go_wp2_with fail
              refine (at_any _ _ _).mono ?_
              rintro e w3 ⟨rfl, rfl⟩
              rw [bl_mk]
              go_wp2_with fail
              refine (at_any _ _ _).mono ?_
              rintro e w3 ⟨rfl, rfl⟩
              rw [bl_mk]
              go_wp2_with fail
              refine (cmpInt_any _ _ _).mono ?_
              rintro e w3 ⟨rfl, rfl⟩
              rw [CM.cmpI, HO.out]
              go_wp2
              go_roundw
              case rel => exact ⟨k + 1, by go_num, by omega, by rw [HD.out, CM.diff_same hkl HO.out], trivial⟩
              case measure => simp [intOf]; omega
            · have HO := Lib.hid ho
              have hob : (Sp.sgn (CM.wAt x1 k - CM.wAt y1 k) != 0) = true := by simpa using ho
              clear ho
              go_wp2_with fail
              refine (at_any _ _ _).mono ?_
              rintro e w3 ⟨rfl, rfl⟩
              rw [bl_mk]
              go_wp2_with fail
              refine (at_any _ _ _).mono ?_
              rintro e w3 ⟨rfl, rfl⟩
              rw [bl_mk]
              go_wp2_with fail
              refine (cmpInt_any _ _ _).mono ?_
              rintro e w3 ⟨rfl, rfl⟩
              rw [CM.cmpI]
              go_wp2
              go_ret
              exact ⟨ret_int (by rw [HS.out, HD.out, CM.diff_other hkl HO.out, if_neg HO.out]), hbw⟩
          · have hd0 : Sp.diffW Sp.weight x1 y1 = 0 := by rw [HD.out]; exact CM.diff_end (by omega) (by omega)
            have hS2 := HS.out
            rw [hd0, if_pos rfl] at hS2
            clear HS HD hd0
            have HS := Lib.hid hS2
            clear hS2
            go_wp2_with fail
            refine (split86 _ _ (by rw [← bl_len, bl_mk]; omega)).mono ?_
            rintro e w3 ⟨rfl, hb3⟩
            rw [bl_mk]
            go_wp2_with fail
            refine (split86 _ _ (by rw [← bl_len, bl_mk]; omega)).mono ?_
            rintro e w4 ⟨rfl, hb4⟩
            rw [bl_mk]
            go_wp2_with fail
            refine (trimLeft_any _ _ _ (by decide) (W1.ascii_of (by decide))).mono ?_
            rintro e w5 ⟨rfl, hb5⟩
            rw [bl_mk, show bl ⟨#[48]⟩ = [48] from rfl, CM.bare_eq]
            go_wp2_with fail
            refine (trimLeft_any _ _ _ (by decide) (W1.ascii_of (by decide))).mono ?_
            rintro e w6 ⟨rfl, hb6⟩
            rw [bl_mk, show bl ⟨#[48]⟩ = [48] from rfl, CM.bare_eq]
            have hs3 := hb3.size
            have hs4 := hb4.size
            have hs5 := hb5.size
            have hs6 := hb6.size
            have hbw6 : Below B w w6 := hbw.trans ((hb3.mono (by omega)).trans ((hb4.mono (by omega)).trans ((hb5.mono (by omega)).trans (hb6.mono (by omega)))))
            clear hb3 hb4 hb5 hb6
            go_wp2_with fail
            refine (cmpInt_any _ _ _).mono ?_
            rintro e w7 ⟨rfl, rfl⟩
            go_wp2_with fail
            refine (cmpS_any _ _ _).mono ?_
            rintro e w7 ⟨rfl, rfl⟩
            rw [bl_mk, bl_mk]
            go_wp2_with fail
            refine (or2_any _ _ _ _ (by rw [World.cell?_alloc_at _ _ _ _ rfl]; rfl) (by rw [World.cell?_alloc_at _ _ _ _ rfl]; rfl)).mono ?_
            rintro e w7 ⟨rfl, rfl⟩
            rw [CM.diffD_eq]
            by_cases hd : Sp.diffD (x2.takeWhile Sp.isDig) (y2.takeWhile Sp.isDig) = 0
            · have hS3 := HS.out
              rw [if_pos hd] at hS3
              have HS3 := Lib.hid hS3
              clear hS3
              rw [hd]
              clear hd
              go_wp2
              go_roundw
              case rel => exact ⟨_, _, rfl, rfl, by omega, by omega, HS3.out.symm, hbw6.alloc (by omega) _⟩
              case measure => simp only [CM.strLen, ← bl_len, bl_mk]; exact hlt
            · have hS3 := HS.out
              rw [if_neg hd] at hS3
              have HS3 := Lib.hid hS3
              have hob : (Sp.diffD (x2.takeWhile Sp.isDig) (y2.takeWhile Sp.isDig) != 0) = true := by simpa using hd
              clear hS3 hd
              go_wp2
              go_ret
              exact ⟨ret_int HS3.out.symm, hbw6.alloc (by omega) _⟩
end Go.Proofs.YtfphcecjhdkcoaaGreatDoor
/-
The walk of the program's fits: is a package what is asked for?
-/
namespace Go.Proofs.YtfphcecjhdkcoaaGreatDoor
open Go.RowKit
theorem fits_nil (n s v : ByteArray) (w : World) : Calls Tryz.prog 167 #[.agg #[.string n, .string s, .string v], .pointer none] w fun e w' => e = .returned (.bool false) ∧ Below w.heap.size w w' := by
  go_enter Tryz.func167, Tryz.ntmps167
  go_wp2_with fail
  go_quiet (fail)
  go_wp2
  go_ret
  exact ⟨rfl, below_drewN ((Below.refl _ _).alloc (Nat.le_refl _) _) _⟩
namespace FT
theorem fits_name {c : Sp.Ch} {p : Sp.Pk} (h : (p.name == c.name) = false) : Sp.fits c p = false := by
  unfold Sp.fits
  have : (c.name == p.name) = false := by
    rw [← Bool.not_eq_true] at h ⊢
    intro e; exact h (by rw [eq_of_beq e]; exact BEq.rfl)
  rw [this]; rfl
theorem fits_sign {c : Sp.Ch} {p : Sp.Pk} (h : (p.name == c.name) = true) : Sp.fits c p = Sp.signOk c.sign (Sp.cmp p.ver c.ver) := by
  unfold Sp.fits
  have : (c.name == p.name) = true := by rw [eq_of_beq h]; exact BEq.rfl
  rw [this]; rfl
theorem sgn1 {s : Sp.Str} {o : Int} (h : (s == [60, 60]) = true) : Sp.signOk s o = decide (o < 0) := by unfold Sp.signOk; rw [if_pos h]
theorem sgn2 {s : Sp.Str} {o : Int} (h1 : (s == [60, 60]) = false) (h : (s == [60, 61]) = true) : Sp.signOk s o = decide (o ≤ 0) := by unfold Sp.signOk; rw [if_neg (by rw [h1]; simp), if_pos h]
theorem sgn3 {s : Sp.Str} {o : Int} (h1 : (s == [60, 60]) = false) (h2 : (s == [60, 61]) = false) (h : (s == [61]) = true) : Sp.signOk s o = decide (o = 0) := by unfold Sp.signOk; rw [if_neg (by rw [h1]; simp), if_neg (by rw [h2]; simp), if_pos h]
theorem sgn4 {s : Sp.Str} {o : Int} (h1 : (s == [60, 60]) = false) (h2 : (s == [60, 61]) = false) (h3 : (s == [61]) = false) (h : (s == [62, 61]) = true) : Sp.signOk s o = decide (0 ≤ o) := by unfold Sp.signOk; rw [if_neg (by rw [h1]; simp), if_neg (by rw [h2]; simp), if_neg (by rw [h3]; simp), if_pos h]
theorem sgn5 {s : Sp.Str} {o : Int} (h1 : (s == [60, 60]) = false) (h2 : (s == [60, 61]) = false) (h3 : (s == [61]) = false) (h4 : (s == [62, 61]) = false) (h : (s == [62, 62]) = true) : Sp.signOk s o = decide (0 < o) := by unfold Sp.signOk; rw [if_neg (by rw [h1]; simp), if_neg (by rw [h2]; simp), if_neg (by rw [h3]; simp), if_neg (by rw [h4]; simp), if_pos h]
theorem sgn6 {s : Sp.Str} {o : Int} (h1 : (s == [60, 60]) = false) (h2 : (s == [60, 61]) = false) (h3 : (s == [61]) = false) (h4 : (s == [62, 61]) = false) (h5 : (s == [62, 62]) = false) : Sp.signOk s o = true := by unfold Sp.signOk; rw [if_neg (by rw [h1]; simp), if_neg (by rw [h2]; simp), if_neg (by rw [h3]; simp), if_neg (by rw [h4]; simp), if_neg (by rw [h5]; simp)]
end FT
theorem fits_other (c : Sp.Ch) (b : Nat) (p : Sp.Pk) (w : World) (hb : b < w.heap.size) (h2 : w.cell? ⟨b, 2, none⟩ = some (sv p.name)) (hn : (p.name == c.name) = false) :
    Calls Tryz.prog 167 #[.agg #[sv c.name, sv c.sign, sv c.ver], .pointer (some ⟨b, 0, none⟩)] w fun e w' => e = .returned (.bool (Sp.fits c p)) ∧ Below w.heap.size w w' := by
  rw [FT.fits_name hn]
  unfold sv at h2 ⊢
  have hn' : (!(p.name == c.name)) = true := by rw [hn]; rfl
  go_enter Tryz.func167, Tryz.ntmps167
  go_wp2_with fail
  go_quiet (fail)
  go_wp2
  go_ret
  exact ⟨rfl, below_drewN ((Below.refl _ _).alloc (Nat.le_refl _) _) _⟩
set_option maxRecDepth 100000 in
set_option maxHeartbeats 1000000 in
theorem fits_same (c : Sp.Ch) (b : Nat) (p : Sp.Pk) (w : World) (hb : b < w.heap.size) (h2 : w.cell? ⟨b, 2, none⟩ = some (sv p.name)) (h3 : w.cell? ⟨b, 3, none⟩ = some (sv p.ver)) (hn : (p.name == c.name) = true) (hv : p.ver.length < 1000) (hc : c.ver.length < 1000) :
    Calls Tryz.prog 167 #[.agg #[sv c.name, sv c.sign, sv c.ver], .pointer (some ⟨b, 0, none⟩)] w fun e w' => e = .returned (.bool (Sp.fits c p)) ∧ Below w.heap.size w w' := by
  rw [FT.fits_sign hn]
  generalize hS : Sp.signOk c.sign (Sp.cmp p.ver c.ver) = R
  have HS := Lib.hid hS
  clear hS
  unfold sv at h2 h3 ⊢
  have hn' : (!(p.name == c.name)) = false := by rw [hn]; rfl
  have hcmp := fun (W : World) => cmp_any ⟨p.ver.toArray⟩ ⟨c.ver.toArray⟩ W (by rw [← bl_len, bl_mk]; omega) (by rw [← bl_len, bl_mk]; omega)
  simp only [bl_mk] at hcmp
  have HC := Lib.hid hcmp
  clear hcmp
  go_enter Tryz.func167, Tryz.ntmps167
  go_wp2_with fail
  go_quiet (fail)
  go_wp2_with fail
  have hb0 : Below w.heap.size w ((w.alloc (.cells #[.string ⟨c.name.toArray⟩, .string ⟨c.sign.toArray⟩, .string ⟨c.ver.toArray⟩] 187)).drewN nq) := below_drewN ((Below.refl _ _).alloc (Nat.le_refl _) _) _
  have hg1 : ((w.alloc (.cells #[.string ⟨c.name.toArray⟩, .string ⟨c.sign.toArray⟩, .string ⟨c.ver.toArray⟩] 187)).drewN nq).cell? ⟨w.heap.size, 1, none⟩ = some (.string ⟨c.sign.toArray⟩) := by
    show (w.alloc _).cell? _ = _
    rw [World.cell?_alloc_at _ _ _ _ rfl]; rfl
  have hg2 : ((w.alloc (.cells #[.string ⟨c.name.toArray⟩, .string ⟨c.sign.toArray⟩, .string ⟨c.ver.toArray⟩] 187)).drewN nq).cell? ⟨w.heap.size, 2, none⟩ = some (.string ⟨c.ver.toArray⟩) := by
    show (w.alloc _).cell? _ = _
    rw [World.cell?_alloc_at _ _ _ _ rfl]; rfl
  have hgl : w.heap.size < ((w.alloc (.cells #[.string ⟨c.name.toArray⟩, .string ⟨c.sign.toArray⟩, .string ⟨c.ver.toArray⟩] 187)).drewN nq).heap.size := by show _ < (w.alloc _).heap.size; simp
  have h3' := ((bcell hb0).1 b 3 hb).trans h3
  clear h2 h3
  generalize (w.alloc (.cells #[.string ⟨c.name.toArray⟩, .string ⟨c.sign.toArray⟩, .string ⟨c.ver.toArray⟩] 187)).drewN nq = W2 at *
  have hb1 := hb0.size
  go_still_tail 6, (by kernel_rfl)
  change wpList _ _ _ _ _ (World.drew W2)
  go_wp2_with fail
  refine (HC.out _).mono ?_
  rintro e w3 ⟨rfl, hb3⟩
  have hs3 := (bcell (W := W2) ⟨hb3.os, hb3.tape, hb3.output, hb3.size, hb3.block⟩).1 w.heap.size 1 hgl
  have hg3 := hs3.trans hg1
  have hbw : Below w.heap.size w w3 := hb0.trans ((show Below W2.heap.size W2 w3 from ⟨hb3.os, hb3.tape, hb3.output, hb3.size, hb3.block⟩).mono hb1)
  clear hs3 hg1 hg2 hgl hb3 h3'
  generalize Sp.cmp p.ver c.ver = o at *
  cases s1 : (c.sign == [60, 60]) with
  | true =>
    have hR := HS.out
    rw [FT.sgn1 s1] at hR
    have HR := Lib.hid hR
    clear hR HS
    go_wp2
    go_ret
    exact ⟨ret_bool (by rw [← HR.out]), hbw⟩
  | false =>
    cases s2 : (c.sign == [60, 61]) with
    | true =>
      have hR := HS.out
      rw [FT.sgn2 s1 s2] at hR
      have HR := Lib.hid hR
      clear hR HS
      go_wp2
      go_ret
      exact ⟨ret_bool (by rw [← HR.out]), hbw⟩
    | false =>
      cases s3 : (c.sign == [61]) with
      | true =>
        have hR := HS.out
        rw [FT.sgn3 s1 s2 s3] at hR
        have HR := Lib.hid hR
        clear hR HS
        go_wp2
        go_ret
        exact ⟨ret_bool (by rw [← HR.out, Bool.eq_iff_iff]; simp), hbw⟩
      | false =>
        cases s4 : (c.sign == [62, 61]) with
        | true =>
          have hR := HS.out
          rw [FT.sgn4 s1 s2 s3 s4] at hR
          have HR := Lib.hid hR
          clear hR HS
          go_wp2
          go_ret
          exact ⟨ret_bool (by rw [← HR.out]), hbw⟩
        | false =>
          cases s5 : (c.sign == [62, 62]) with
          | true =>
            have hR := HS.out
            rw [FT.sgn5 s1 s2 s3 s4 s5] at hR
            have HR := Lib.hid hR
            clear hR HS
            go_wp2
            go_ret
            exact ⟨ret_bool (by rw [← HR.out]), hbw⟩
          | false =>
            have hR := HS.out
            rw [FT.sgn6 s1 s2 s3 s4 s5] at hR
            have HR := Lib.hid hR
            clear hR HS
            go_wp2
            go_ret
            exact ⟨ret_bool HR.out, hbw⟩
/-- Is a package that lies in memory what is asked for? -/
theorem fits_any (c : Sp.Ch) (b : Nat) (p : Sp.Pk) (w : World) (h : IsPack (fun x => x < w.heap.size) w b p) (hok : PkOk p) (hc : ChOk c) :
    Calls Tryz.prog 167 #[.agg #[sv c.name, sv c.sign, sv c.ver], .pointer (some ⟨b, 0, none⟩)] w fun e w' => e = .returned (.bool (Sp.fits c p)) ∧ Below w.heap.size w w' := by
  obtain ⟨nv, bv, fv, hS, h0, h1, h2, h3, h4, g0, g1, g2, n0, n1⟩ := h
  unfold ChOk at hc
  cases hn : (p.name == c.name) with
  | true => exact fits_same c b p w hS h2 h3 hn (by have := hok.ver; omega) (by omega)
  | false => exact fits_other c b p w hS h2 hn
end Go.Proofs.YtfphcecjhdkcoaaGreatDoor
/-
Walks on sets of packages: has, lacking, barring.
-/
namespace Go.Proofs.YtfphcecjhdkcoaaGreatDoor
open Go.RowKit Go.Maps
/-- The packages of a set. -/
def pks (L : List (Nat × Sp.Pk)) : List Sp.Pk := L.map (·.2)
theorem zero118 (w : World) : (zeroValue 118).run Tryz.prog w = .ok (.pointer none) w := by kernel_rfl
namespace MP
theorem kv_get {L : List (Nat × Sp.Pk)} (x : Sp.Str) : (getKV (kvOf L) x (.pointer none) = .pointer none ∧ ∀ q ∈ L, q.2.name ≠ x) ∨ ∃ q ∈ L, q.2.name = x ∧ getKV (kvOf L) x (.pointer none) = .pointer (some ⟨q.1, 0, none⟩) := by
  unfold getKV kvOf
  cases hf : (L.map fun q => (q.2.name, Value.pointer (some ⟨q.1, 0, none⟩))).find? (fun q => q.1 == x) with
  | none =>
    left
    refine ⟨rfl, fun q hq e => ?_⟩
    rw [List.find?_eq_none] at hf
    exact hf _ (List.mem_map.2 ⟨q, hq, rfl⟩) (by simpa using e)
  | some r =>
    right
    obtain ⟨q, hq, rfl⟩ := List.mem_map.1 (List.mem_of_find?_eq_some hf)
    exact ⟨q, hq, by simpa using List.find?_some hf, rfl⟩
/-- Of packages of which no two have one name: what is asked for is there just if the one of the name is it. -/
theorem any_fits {L : List (Nat × Sp.Pk)} (ha : L.Pairwise fun q r => q.2.name ≠ r.2.name) (c : Sp.Ch) {q : Nat × Sp.Pk} (hq : q ∈ L) (hn : q.2.name = c.name) : (pks L).any (Sp.fits c) = Sp.fits c q.2 := by
  rw [Bool.eq_iff_iff, List.any_eq_true]
  constructor
  · rintro ⟨p, hp, hf⟩
    obtain ⟨r, hr, rfl⟩ := List.mem_map.1 hp
    have hrn : r.2.name = c.name := by
      unfold Sp.fits at hf
      rw [Bool.and_eq_true] at hf
      exact (eq_of_beq hf.1).symm
    have := names_one ha r hr q hq (hrn.trans hn.symm)
    rw [← this]; exact hf
  · intro hf
    exact ⟨q.2, List.mem_map.2 ⟨q, hq, rfl⟩, hf⟩
theorem none_fits {L : List (Nat × Sp.Pk)} (c : Sp.Ch) (hn : ∀ q ∈ L, q.2.name ≠ c.name) : (pks L).any (Sp.fits c) = false := by
  rw [List.any_eq_false]
  intro p hp hf
  obtain ⟨r, hr, rfl⟩ := List.mem_map.1 hp
  unfold Sp.fits at hf
  rw [Bool.and_eq_true] at hf
  exact hn r hr (eq_of_beq hf.1).symm
end MP
/-- What fits is asked of the value that a set's map gives. -/
theorem fits_look (c : Sp.Ch) (mb : Nat) (L : List (Nat × Sp.Pk)) (w : World) (h : SetOn (fun b => b < w.heap.size) w mb L) (hc : ChOk c) (w2 : World) (hb : Below w.heap.size w w2) :
    Calls Tryz.prog 167 #[.agg #[sv c.name, sv c.sign, sv c.ver], getKV (kvOf L) c.name (.pointer none)] w2 fun e w' => e = .returned (.bool ((pks L).any (Sp.fits c))) ∧ Below w2.heap.size w2 w' := by
  rcases MP.kv_get (L := L) c.name with ⟨h1, h2⟩ | ⟨q, hq, h1, h2⟩
  · rw [h1, MP.none_fits c h2]
    exact fits_nil _ _ _ _
  · rw [h2, MP.any_fits h.2.1 c hq h1]
    obtain ⟨hp, hok⟩ := h.2.2 q hq
    exact fits_any c q.1 q.2 w2 ((hp.keep fun x hx => hb.block x hx).mono fun x hx => Nat.lt_of_lt_of_le hx hb.size) hok hc
set_option maxRecDepth 100000 in
set_option maxHeartbeats 1000000 in
theorem hasOne_any (c : Sp.Ch) (bx mb : Nat) (L : List (Nat × Sp.Pk)) (w : World) (h : SetOn (fun b => b < w.heap.size) w mb L) (hc : ChOk c) (hb : w.cell? ⟨bx, 0, none⟩ = some (.map (some mb))) :
    Calls Tryz.prog 181 #[.agg #[sv c.name, sv c.sign, sv c.ver], .pointer (some ⟨bx, 0, none⟩)] w fun e w' => e = .returned (.bool ((pks L).any (Sp.fits c))) ∧ Below w.heap.size w w' := by
  have hbw : bx < w.heap.size := by
    rcases Nat.lt_or_ge bx w.heap.size with h | h
    · exact h
    · simp [World.cell?, Array.getElem?_eq_none h] at hb
  have hfl := fits_look c mb L w h hc _ ((Below.refl _ w).alloc (Nat.le_refl _) (.cells #[sv c.name, sv c.sign, sv c.ver] 187))
  have hlk := (h.map.below (w' := w.alloc (.cells #[sv c.name, sv c.sign, sv c.ver] 187)) ((Below.refl _ w).alloc (Nat.le_refl _) _) h.map.lt).look Tryz.underlying140 zero118 c.name (by unfold ChOk at hc; unfold maxLen; omega)
  have HF := Lib.hid hfl
  clear hfl
  unfold sv at *
  go_enter Tryz.func181, Tryz.ntmps181
  go_wp2_with fail
  refine HF.out.mono ?_
  rintro e w1 ⟨rfl, hb1⟩
  go_wp2
  go_ret
  exact ⟨rfl, ((Below.refl _ w).alloc (Nat.le_refl _) _).trans (hb1.mono (by simp))⟩
namespace MP
theorem any_next {α : Type} {l : List α} {f : α → Bool} {k : Nat} (hk : k < l.length) (h : (l.take k).any f = false) (hf : f l[k] = false) : (l.take (k + 1)).any f = false := by
  rw [List.take_succ_eq_append_getElem hk, List.any_append, h]; simp [hf]
theorem any_hit {α : Type} {l : List α} {f : α → Bool} {k : Nat} (hk : k < l.length) (hf : f l[k] = true) : l.any f = true :=
  List.any_eq_true.2 ⟨_, List.getElem_mem hk, hf⟩
end MP
set_option maxRecDepth 100000 in
set_option maxHeartbeats 1000000 in
theorem index_any (v : Value) (g : List Sp.Ch) (bx mb : Nat) (L : List (Nat × Sp.Pk)) (w : World) (h : SetOn (fun b => b < w.heap.size) w mb L) (hg : ChOn (fun b => b < w.heap.size) w v g) (hgl : g.length ≤ 3) (hc : ∀ c ∈ g, ChOk c) (hb : w.cell? ⟨bx, 0, none⟩ = some (.map (some mb))) :
    Calls Tryz.prog 222 #[v, .func (.func 181) #[] #[.pointer (some ⟨bx, 0, none⟩)]] w fun e w' => (∃ i : Int, e = .returned (.int .i64 i) ∧ decide (0 ≤ i) = Sp.any1 g (pks L)) ∧ Below w.heap.size w w' := by
  obtain ⟨a, cap, rfl, hcap, hget⟩ := hg.get
  have hbw : bx < w.heap.size := by
    rcases Nat.lt_or_ge bx w.heap.size with h | h
    · exact h
    · simp [World.cell?, Array.getElem?_eq_none h] at hb
  have HG := Lib.hid hget
  have HS := Lib.hid h
  have HC := Lib.hid hc
  have HD := Lib.hid (show Sp.any1 g (pks L) = g.any fun c => (pks L).any (Sp.fits c) from rfl)
  clear hget hg h hc
  go_enter Tryz.func222, Tryz.ntmps222
  go_wp2
  go_loopw [8] (fun i wr => ∃ k : Nat, k ≤ g.length ∧ (g.take k).any (fun c => (pks L).any (Sp.fits c)) = false ∧ i = .int .i64 k ∧ Below w.heap.size w wr) (fun i _ => g.length + 1 - (intOf i).toNat)
  case atStart => exact ⟨0, Nat.zero_le _, rfl, rfl, Below.refl _ _⟩
  case round =>
    obtain ⟨k, hk, hn, rfl, hbel⟩ := hrel
    have HN := Lib.hid hn
    clear hn
    by_cases h : k < g.length
    · obtain ⟨b, off, rfl, hbb, c0, c1, c2⟩ := HG.out k h
      have d0 := (hbel.cell (p := ⟨b, off + k * 3, none⟩) hbb).trans c0
      have d1 := (hbel.cell (p := ⟨b, off + k * 3 + 1, none⟩) hbb).trans c1
      have d2 := (hbel.cell (p := ⟨b, off + k * 3 + 2, none⟩) hbb).trans c2
      have hcall := hasOne_any g[k] bx mb L wr (HS.out.below hbel) (HC.out _ (List.getElem_mem h)) ((hbel.cell (p := ⟨bx, 0, none⟩) hbw).trans hb)
      have HCALL := Lib.hid hcall
      clear hcall c0 c1 c2
      have hws := hbel.size
      unfold sv at d0 d1 d2 HCALL
      cases hf : (pks L).any (Sp.fits g[k]) with
      | true =>
        have HF := Lib.hid hf
        clear hf
        go_wp2_with fail
        refine HCALL.out.mono ?_
        rintro e w1 ⟨rfl, hb1⟩
        rw [HF.out]
        go_wp2
        go_ret
        exact ⟨⟨_, rfl, by rw [HD.out, MP.any_hit h HF.out]; simp⟩, hbel.trans (hb1.mono hws)⟩
      | false =>
        have HF := Lib.hid hf
        clear hf
        go_wp2_with fail
        refine HCALL.out.mono ?_
        rintro e w1 ⟨rfl, hb1⟩
        rw [HF.out]
        go_wp2
        go_roundw
        case rel => exact ⟨k + 1, h, MP.any_next h HN.out HF.out, by go_num, hbel.trans (hb1.mono hws)⟩
        case measure => simp [intOf]; omega
    · obtain rfl : k = g.length := by omega
      have hall := HN.out
      rw [List.take_length] at hall
      have HA := Lib.hid hall
      clear hall HN HG
      go_wp2
      go_ret
      exact ⟨⟨_, rfl, by rw [HD.out, HA.out]; rfl⟩, hbel⟩
theorem hasFn_any (v : Value) (g : List Sp.Ch) (L : List (Nat × Sp.Pk)) {W : World} {bx : Nat}
    (h : Calls Tryz.prog 222 #[v, .func (.func 181) #[] #[.pointer (some ⟨bx, 0, none⟩)]] W fun e w' => (∃ i : Int, e = .returned (.int .i64 i) ∧ decide (0 ≤ i) = Sp.any1 g (pks L)) ∧ Below W.heap.size W w') :
    Calls Tryz.prog 180 #[v, .func (.func 181) #[] #[.pointer (some ⟨bx, 0, none⟩)]] W fun e w' => e = .returned (.bool (Sp.any1 g (pks L))) ∧ Below W.heap.size W w' := by
  have H := Lib.hid h
  clear h
  go_enter Tryz.func180, Tryz.ntmps180
  go_wp2_with fail
  refine H.out.mono ?_
  rintro e w1 ⟨⟨i, rfl, hi⟩, hb1⟩
  go_wp2
  go_ret
  exact ⟨rfl, hb1⟩
set_option maxRecDepth 100000 in
theorem has_any (v : Value) (g : List Sp.Ch) (mb : Nat) (L : List (Nat × Sp.Pk)) (w : World) (h : SetOn (fun b => b < w.heap.size) w mb L) (hg : ChOn (fun b => b < w.heap.size) w v g) (hgl : g.length ≤ 3) (hc : ∀ c ∈ g, ChOk c) :
    Calls Tryz.prog 132 #[.map (some mb), v] w fun e w' => e = .returned (.bool (Sp.any1 g (pks L))) ∧ Below w.heap.size w w' := by
  have hb0 : Below w.heap.size w (w.alloc (.cells #[.map (some mb)] 140)) := (Below.refl _ w).alloc (Nat.le_refl _) _
  have hcall := index_any v g w.heap.size mb L (w.alloc (.cells #[.map (some mb)] 140)) (h.below hb0) ((SlOn.keep hg fun x hx => hb0.block x hx).mono fun x hx => Nat.lt_of_lt_of_le hx hb0.size) hgl hc (by rw [World.cell?_alloc_at _ _ _ _ rfl]; rfl)
  have HCALL := Lib.hid hcall
  clear hcall h hg hc
  have hmf : ∀ (fn : Fn) (first cap : Array Value) (w : World), (Instr.makeFunc fn first cap).run Tryz.prog w = .ok (.func fn first cap) w := fun _ _ _ _ => rfl
  have h180 := hasFn_any v g L HCALL.out
  have H180 := Lib.hid h180
  clear h180 HCALL
  go_enter Tryz.func132, Tryz.ntmps132
  go_wp2_with fail
  refine H180.out.mono ?_
  rintro e w1 ⟨rfl, hb1⟩
  go_wp2
  go_ret
  exact ⟨rfl, hb0.trans (hb1.mono hb0.size)⟩
end Go.Proofs.YtfphcecjhdkcoaaGreatDoor
/-
Walks on sets of packages: the first that lacks something; the first that bars another.
-/
namespace Go.Proofs.YtfphcecjhdkcoaaGreatDoor
open Go.RowKit Go.Maps
namespace MP
/-- The first of the names of a kind is the least of the packages' of that kind. -/
theorem first_least {l : List Sp.Pk} (hn : ∀ p ∈ l, p.name ≠ []) (P : Sp.Str → Bool) (Q : Sp.Pk → Bool) (hPQ : ∀ p ∈ l, P p.name = Q p) : Sp.least ((l.filter Q).map (·.name)) = ((Sp.sorted (Sp.names l)).find? P).getD [] := by
  have hne : ∀ x ∈ Sp.sorted (Sp.names l), x ≠ [] := fun x hx => by
    obtain ⟨p, hp, rfl⟩ := List.mem_map.1 ((V8.sorted_perm _).mem_iff.1 hx)
    exact hn p hp
  rw [← V5.least_find (V8.sorted_ord _) hne P]
  refine V5.least_congr (V5.names_ne hn Q) fun x => ?_
  rw [List.mem_map, List.mem_filter, (V8.sorted_perm _).mem_iff]
  constructor
  · rintro ⟨p, hp, rfl⟩
    obtain ⟨h1, h2⟩ := List.mem_filter.1 hp
    exact ⟨List.mem_map.2 ⟨p, h1, rfl⟩, by rw [hPQ p h1]; exact h2⟩
  · rintro ⟨h1, h2⟩
    obtain ⟨p, hp, rfl⟩ := List.mem_map.1 h1
    exact ⟨p, List.mem_filter.2 ⟨hp, by rw [← hPQ p hp]; exact h2⟩, rfl⟩
/-- Of what is asked of a name, by its package. -/
def byN (L : List (Nat × Sp.Pk)) (Q : Sp.Pk → Bool) (n : Sp.Str) : Bool := (pks L).any fun p => p.name == n && Q p
theorem byN_eq {L : List (Nat × Sp.Pk)} (ha : L.Pairwise fun q r => q.2.name ≠ r.2.name) (Q : Sp.Pk → Bool) {q : Nat × Sp.Pk} (hq : q ∈ L) : byN L Q q.2.name = Q q.2 := by
  unfold byN
  rw [Bool.eq_iff_iff, List.any_eq_true]
  constructor
  · rintro ⟨p, hp, h⟩
    obtain ⟨r, hr, rfl⟩ := List.mem_map.1 hp
    rw [Bool.and_eq_true] at h
    have := names_one ha r hr q hq (eq_of_beq h.1)
    rw [← this]; exact h.2
  · intro h
    exact ⟨q.2, List.mem_map.2 ⟨q, hq, rfl⟩, by simp [h]⟩
theorem first_of {L : List (Nat × Sp.Pk)} (ha : L.Pairwise fun q r => q.2.name ≠ r.2.name) (hn : ∀ p ∈ pks L, p.name ≠ []) (Q : Sp.Pk → Bool) : Sp.least (((pks L).filter Q).map (·.name)) = ((Sp.sorted (Sp.names (pks L))).find? (byN L Q)).getD [] :=
  first_least hn _ _ fun p hp => by
    obtain ⟨q, hq, rfl⟩ := List.mem_map.1 hp
    exact byN_eq ha Q hq
theorem find_hit {l : List Sp.Str} {P : Sp.Str → Bool} {k : Nat} (hk : k < l.length) (h : (l.take k).any P = false) (hp : P l[k] = true) : (l.find? P).getD [] = l[k] := by
  have : l = l.take k ++ l[k] :: l.drop (k + 1) := by rw [← List.drop_eq_getElem_cons hk, List.take_append_drop]
  have h2 : (l.take k).find? P = none := by
    rw [List.find?_eq_none]; intro x hx
    rw [List.any_eq_false] at h
    simpa using h x hx
  conv => lhs; rw [this]
  rw [List.find?_append, h2, List.find?_cons_of_pos hp]; rfl
theorem find_no {l : List Sp.Str} {P : Sp.Str → Bool} (h : l.any P = false) : (l.find? P).getD [] = [] := by
  have h2 : l.find? P = none := by
    rw [List.find?_eq_none]; intro x hx
    rw [List.any_eq_false] at h
    simpa using h x hx
  rw [h2]; rfl
theorem mem_sorted_names {L : List (Nat × Sp.Pk)} {n : Sp.Str} (h : n ∈ Sp.sorted (Sp.names (pks L))) : ∃ q ∈ L, q.2.name = n := by
  obtain ⟨p, hp, rfl⟩ := List.mem_map.1 ((V8.sorted_perm _).mem_iff.1 h)
  obtain ⟨q, hq, rfl⟩ := List.mem_map.1 hp
  exact ⟨q, hq, rfl⟩
theorem kv_at {L : List (Nat × Sp.Pk)} (ha : L.Pairwise fun q r => q.2.name ≠ r.2.name) {q : Nat × Sp.Pk} (hq : q ∈ L) : getKV (kvOf L) q.2.name (.pointer none) = .pointer (some ⟨q.1, 0, none⟩) :=
  get_mem (kv := kvOf L) (List.pairwise_map.2 ha) (q := (q.2.name, .pointer (some ⟨q.1, 0, none⟩))) (List.mem_map.2 ⟨q, hq, rfl⟩) _
end MP
set_option maxRecDepth 100000 in
set_option maxHeartbeats 1000000 in
theorem lacking_any (mb : Nat) (L : List (Nat × Sp.Pk)) (w : World) (h : SetOn (fun b => b < w.heap.size) w mb L) (hmax : L.length < 1000000000) (hn : ∀ p ∈ pks L, p.name ≠ []) :
    Calls Tryz.prog 80 #[.map (some mb)] w fun e w' => e = .returned (sv (Sp.lacking (pks L))) ∧ Below w.heap.size w w' := by
  have hres : Sp.lacking (pks L) = ((Sp.sorted (Sp.names (pks L))).find? (MP.byN L (Sp.lacks (pks L)))).getD [] := MP.first_of h.2.1 hn _
  rw [hres]
  have hnames := names_any mb L w h hmax
  have hmem : ∀ n ∈ Sp.sorted (Sp.names (pks L)), ∃ q ∈ L, q.2.name = n := fun n => MP.mem_sorted_names
  change Calls _ _ _ _ (fun e w' => ∃ v, e = .returned v ∧ StrsAt w' v (Sp.sorted (Sp.names (pks L))) ∧ Below w.heap.size w w') at hnames
  have hnsl : (Sp.sorted (Sp.names (pks L))).length < 1000000000 := by rw [(V8.sorted_perm _).length_eq]; unfold Sp.names pks; simp; exact hmax
  generalize Sp.sorted (Sp.names (pks L)) = ns at hnames hmem hnsl ⊢
  have HM := Lib.hid hmem
  have HS := Lib.hid h
  have HN := Lib.hid hnames
  have hlt := h.map.lt
  have hap := h.2.1
  have HB := Lib.hid (fun (q : Nat × Sp.Pk) (hq : q ∈ L) => MP.byN_eq hap (Sp.lacks (pks L)) hq)
  have HK := Lib.hid (fun (q : Nat × Sp.Pk) (hq : q ∈ L) => MP.kv_at hap hq)
  clear hmem h hnames hres hn
  unfold sv
  go_enter Tryz.func80, Tryz.ntmps80
  go_wp2_with fail
  refine HN.out.mono ?_
  rintro e w1 ⟨v, rfl, hv, hb1⟩
  obtain ⟨a, cap, rfl, hcap, hget⟩ := hv.get
  have HG := Lib.hid hget
  have hs1 := hb1.size
  clear hv hget HN
  go_wp2
  go_loopw [10] (fun i wr => ∃ k : Nat, k ≤ ns.length ∧ (ns.take k).any (MP.byN L (Sp.lacks (pks L))) = false ∧ i = .int .i64 k ∧ Below w.heap.size w wr ∧ Below w1.heap.size w1 wr) (fun i _ => ns.length + 1 - (intOf i).toNat)
  case atStart => exact ⟨0, Nat.zero_le _, rfl, rfl, hb1, Below.refl _ _⟩
  case round =>
    obtain ⟨k, hk, hno, rfl, hbel, hbel1⟩ := hrel
    have HNO := Lib.hid hno
    clear hno
    by_cases h : k < ns.length
    · obtain ⟨b, off, rfl, hbb, hcell⟩ := HG.out k h
      have hcell' := (hbel1.cell (p := ⟨b, off + k, none⟩) hbb).trans hcell
      clear hcell
      obtain ⟨q, hq, hqn⟩ := HM.out _ (List.getElem_mem h)
      have hQ := HB.out q hq
      have hKV := HK.out q hq
      rw [hqn] at hQ hKV
      have hSr := HS.out.below hbel
      obtain ⟨hip, hok⟩ := hSr.2.2 q hq
      have hlk := hSr.map.look Tryz.underlying140 zero118 ns[k] (by rw [← hqn]; have := hok.name; unfold maxLen; omega)
      rw [hKV] at hlk
      obtain ⟨nv, bv, fv, hSS, h0, h1, h2, h3, h4, g0, g1, g2, n0, n1⟩ := hip
      obtain ⟨na, nc, rfl, hnc, gn⟩ := g0.get
      have GN := Lib.hid gn
      have HQ := Lib.hid hQ
      have HOK := Lib.hid hok
      have HSR := Lib.hid hSr
      have hnl := hok.needs
      clear g0 g1 g2 n0 n1 gn hok hQ h1 h2 h3 h4 hKV hSr
      generalize hnk : ns[k] = nm at *
      have HNK := Lib.hid hnk
      clear hnk
      go_wp2_with fail
      go_loopw [22] (fun i wi => ∃ j : Nat, j ≤ q.2.needs.length ∧ (q.2.needs.take j).any (fun g => !Sp.any1 g (pks L)) = false ∧ i = .int .i64 j ∧ Below w.heap.size w wi ∧ Below w1.heap.size w1 wi ∧ Below wr.heap.size wr wi) (fun i _ => q.2.needs.length + 1 - (intOf i).toNat)
      case atStart => exact ⟨0, Nat.zero_le _, rfl, rfl, hbel, hbel1, Below.refl _ _⟩
      case round =>
        obtain ⟨j, hj, hnj, rfl, hbi, hbi1, hbir⟩ := hrel
        have HNJ := Lib.hid hnj
        clear hnj
        by_cases hjl : j < q.2.needs.length
        · obtain ⟨gb, goff, x, rfl, hgb, hgc, hgch⟩ := GN.out j hjl
          have hgc' := (hbir.cell (p := ⟨gb, goff + j, none⟩) hgb).trans hgc
          obtain ⟨hgl, hgok⟩ := HOK.out.groups _ (List.getElem_mem hjl)
          have hcall := has_any x q.2.needs[j] mb L wr (HS.out.below hbi) ((SlOn.keep hgch fun y hy => hbir.block y hy).mono fun y hy => Nat.lt_of_lt_of_le hy hbir.size) hgl hgok
          have HCALL := Lib.hid hcall
          clear hcall hgc hgch hgok
          have hwi := hbi.size
          have hwi1 := hbi1.size
          have hwir := hbir.size
          cases hf : Sp.any1 q.2.needs[j] (pks L) with
          | true =>
            have HF := Lib.hid hf
            clear hf
            go_wp2_with fail
            refine HCALL.out.mono ?_
            rintro e w2 ⟨rfl, hb2⟩
            rw [HF.out]
            go_wp2
            go_roundw
            case rel => exact ⟨j + 1, hjl, MP.any_next hjl HNJ.out (by rw [HF.out]; rfl), by go_num, hbi.trans (hb2.mono hwi), hbi1.trans (hb2.mono hwi1), hbir.trans (hb2.mono hwir)⟩
            case measure => simp [intOf]; omega
          | false =>
            have HF := Lib.hid hf
            clear hf
            go_wp2_with fail
            refine HCALL.out.mono ?_
            rintro e w2 ⟨rfl, hb2⟩
            rw [HF.out]
            go_wp2
            go_ret
            have hl : Sp.lacks (pks L) q.2 = true := by unfold Sp.lacks; exact MP.any_hit hjl (by rw [HF.out]; rfl)
            exact ⟨by rw [MP.find_hit h HNO.out (by rw [HNK.out, HQ.out]; exact hl), HNK.out]; rfl, hbi.trans (hb2.mono hwi)⟩
        · obtain rfl : j = q.2.needs.length := by omega
          have hl : Sp.lacks (pks L) q.2 = false := by
            have := HNJ.out
            rw [List.take_length] at this
            unfold Sp.lacks; exact this
          have HL := Lib.hid hl
          clear hl HNJ
          go_wp2
          go_roundw
          case rel => exact ⟨k + 1, h, MP.any_next h HNO.out (by rw [HNK.out, HQ.out]; exact HL.out), by go_num, hbi, hbi1⟩
          case measure => simp [intOf]; omega
    · obtain rfl : k = ns.length := by omega
      have hall := HNO.out
      rw [List.take_length] at hall
      have HA := Lib.hid hall
      clear hall HNO HG
      go_wp2
      go_ret
      exact ⟨by rw [MP.find_no HA.out]; rfl, hbel⟩
namespace MP
def barC (l : List Sp.Pk) (n : Sp.Str) (c : Sp.Ch) : Bool := !(c.name == n) && l.any (Sp.fits c)
theorem bars_eq (l : List Sp.Pk) (p : Sp.Pk) : Sp.barsOne l p = p.bars.any (barC l p.name) := by
  unfold Sp.barsOne Sp.any1 barC
  rw [Bool.eq_iff_iff, List.any_eq_true, List.any_eq_true]
  have hf : ∀ (c : Sp.Ch) (q : Sp.Pk), Sp.fits c q = true → c.name = q.name := fun c q h => by
    unfold Sp.fits at h; rw [Bool.and_eq_true] at h; exact eq_of_beq h.1
  constructor
  · rintro ⟨q, hq, h⟩
    rw [Bool.and_eq_true, List.any_eq_true] at h
    obtain ⟨h1, c, hc, h2⟩ := h
    simp only [List.any_cons, List.any_nil, Bool.or_false] at h2
    refine ⟨c, hc, ?_⟩
    rw [Bool.and_eq_true, List.any_eq_true]
    refine ⟨?_, q, hq, h2⟩
    rw [hf c q h2]
    simpa using h1
  · rintro ⟨c, hc, h⟩
    rw [Bool.and_eq_true, List.any_eq_true] at h
    obtain ⟨h1, q, hq, h2⟩ := h
    refine ⟨q, hq, ?_⟩
    rw [Bool.and_eq_true, List.any_eq_true]
    refine ⟨?_, c, hc, by simpa using h2⟩
    rw [← hf c q h2]
    simpa using h1
end MP
set_option maxRecDepth 100000 in
set_option maxHeartbeats 1000000 in
theorem barring_any (mb : Nat) (L : List (Nat × Sp.Pk)) (w : World) (h : SetOn (fun b => b < w.heap.size) w mb L) (hmax : L.length < 1000000000) (hn : ∀ p ∈ pks L, p.name ≠ []) :
    Calls Tryz.prog 123 #[.map (some mb)] w fun e w' => e = .returned (sv (Sp.barring (pks L))) ∧ Below w.heap.size w w' := by
  have hres : Sp.barring (pks L) = ((Sp.sorted (Sp.names (pks L))).find? (MP.byN L (Sp.barsOne (pks L)))).getD [] := MP.first_of h.2.1 hn _
  rw [hres]
  have hnames := names_any mb L w h hmax
  have hmem : ∀ n ∈ Sp.sorted (Sp.names (pks L)), ∃ q ∈ L, q.2.name = n := fun n => MP.mem_sorted_names
  change Calls _ _ _ _ (fun e w' => ∃ v, e = .returned v ∧ StrsAt w' v (Sp.sorted (Sp.names (pks L))) ∧ Below w.heap.size w w') at hnames
  have hnsl : (Sp.sorted (Sp.names (pks L))).length < 1000000000 := by rw [(V8.sorted_perm _).length_eq]; unfold Sp.names pks; simp; exact hmax
  generalize Sp.sorted (Sp.names (pks L)) = ns at hnames hmem hnsl ⊢
  have HM := Lib.hid hmem
  have HS := Lib.hid h
  have HN := Lib.hid hnames
  have hlt := h.map.lt
  have hap := h.2.1
  have HB := Lib.hid (fun (q : Nat × Sp.Pk) (hq : q ∈ L) => (MP.byN_eq hap (Sp.barsOne (pks L)) hq).trans (MP.bars_eq (pks L) q.2))
  have HK := Lib.hid (fun (q : Nat × Sp.Pk) (hq : q ∈ L) => MP.kv_at hap hq)
  clear hmem h hnames hres hn
  unfold sv
  go_enter Tryz.func123, Tryz.ntmps123
  go_wp2
  go_step3
  go_wp2
  try go_step3
  go_wp2_with fail
  refine HN.out.mono ?_
  rintro e w1 ⟨v, rfl, hv, hb1⟩
  obtain ⟨a, cap, rfl, hcap, hget⟩ := hv.get
  have HG := Lib.hid hget
  have hs1 := hb1.size
  clear hv hget HN
  go_wp2
  go_loopw [10] (fun i wr => ∃ k : Nat, k ≤ ns.length ∧ (ns.take k).any (MP.byN L (Sp.barsOne (pks L))) = false ∧ i = .int .i64 k ∧ Below w.heap.size w wr ∧ Below w1.heap.size w1 wr) (fun i _ => ns.length + 1 - (intOf i).toNat)
  case atStart => exact ⟨0, Nat.zero_le _, rfl, rfl, hb1, Below.refl _ _⟩
  case round =>
    obtain ⟨k, hk, hno, rfl, hbel, hbel1⟩ := hrel
    have HNO := Lib.hid hno
    clear hno
    by_cases h : k < ns.length
    · obtain ⟨b, off, rfl, hbb, hcell⟩ := HG.out k h
      have hcell' := (hbel1.cell (p := ⟨b, off + k, none⟩) hbb).trans hcell
      clear hcell
      obtain ⟨q, hq, hqn⟩ := HM.out _ (List.getElem_mem h)
      have hQ := HB.out q hq
      have hKV := HK.out q hq
      rw [hqn] at hQ hKV
      have hSr := HS.out.below hbel
      obtain ⟨hip, hok⟩ := hSr.2.2 q hq
      have hlk := hSr.map.look Tryz.underlying140 zero118 ns[k] (by rw [← hqn]; have := hok.name; unfold maxLen; omega)
      rw [hKV] at hlk
      obtain ⟨nv, bv, fv, hSS, h0, h1, h2, h3, h4, g0, g1, g2, n0, n1⟩ := hip
      obtain ⟨ba, bc, rfl, hbc, gb⟩ := g1.get
      have GB := Lib.hid gb
      have HQ := Lib.hid hQ
      have HOK := Lib.hid hok
      have hbl := hok.bars
      clear g0 g1 g2 n0 n1 gb hok hQ h0 h2 h3 h4 hKV hSr
      generalize hnk : ns[k] = nm at *
      have HNK := Lib.hid hnk
      clear hnk
      go_wp2_with fail
      go_loopw [22] (fun i wi => ∃ j : Nat, j ≤ q.2.bars.length ∧ (q.2.bars.take j).any (MP.barC (pks L) nm) = false ∧ i = .int .i64 j ∧ Below w.heap.size w wi ∧ Below w1.heap.size w1 wi ∧ Below wr.heap.size wr wi) (fun i _ => q.2.bars.length + 1 - (intOf i).toNat)
      case atStart => exact ⟨0, Nat.zero_le _, rfl, rfl, hbel, hbel1, Below.refl _ _⟩
      case round =>
        obtain ⟨j, hj, hnj, rfl, hbi, hbi1, hbir⟩ := hrel
        have HNJ := Lib.hid hnj
        clear hnj
        by_cases hjl : j < q.2.bars.length
        · obtain ⟨gb, goff, rfl, hgb, hc0, hc1, hc2⟩ := GB.out j hjl
          have d0 := (hbir.cell (p := ⟨gb, goff + j * 3, none⟩) hgb).trans hc0
          have d1 := (hbir.cell (p := ⟨gb, goff + j * 3 + 1, none⟩) hgb).trans hc1
          have d2 := (hbir.cell (p := ⟨gb, goff + j * 3 + 2, none⟩) hgb).trans hc2
          have hcok := HOK.out.barred _ (List.getElem_mem hjl)
          have HBC := Lib.hid (show MP.barC (pks L) nm q.2.bars[j] = (!(q.2.bars[j].name == nm) && (pks L).any (Sp.fits q.2.bars[j])) from rfl)
          have hbA : Below wr.heap.size wr (wr.alloc (.cells #[sv q.2.bars[j].name, sv q.2.bars[j].sign, sv q.2.bars[j].ver] 187)) := (Below.refl _ wr).alloc (Nat.le_refl _) _
          have hcall := fits_look q.2.bars[j] mb L wr (HS.out.below hbi) hcok _ hbA
          have hlk2 := ((HS.out.below hbi).map.below hbA (HS.out.below hbi).map.lt).look Tryz.underlying140 zero118 q.2.bars[j].name (by unfold ChOk at hcok; unfold maxLen; omega)
          have HCALL := Lib.hid hcall
          clear hcall hc0 hc1 hc2
          have hwi := hbi.size
          have hwi1 := hbi1.size
          have hwir := hbir.size
          unfold sv at d0 d1 d2 hlk2 HCALL hbA
          generalize hcj : q.2.bars[j] = c at *
          have HCJ := Lib.hid hcj
          clear hcj
          cases hcn : (c.name == nm) with
          | true =>
            have HCN := Lib.hid hcn
            go_wp2_with fail
            go_roundw
            case rel => exact ⟨j + 1, hjl, MP.any_next hjl HNJ.out (by rw [HCJ.out, HBC.out]; simp [HCN.out]), by go_num, hbi.trans (hbA.mono hwi), hbi1.trans (hbA.mono hwi1), hbir.trans (hbA.mono hwir)⟩
            case measure => simp [intOf]; omega
          | false =>
            have HCN := Lib.hid hcn
            cases hf : (pks L).any (Sp.fits c) with
            | false =>
              have HF := Lib.hid hf
              clear hf
              go_wp2_with fail
              refine HCALL.out.mono ?_
              rintro e w2 ⟨rfl, hb2⟩
              rw [HF.out]
              go_wp2
              go_roundw
              case rel => exact ⟨j + 1, hjl, MP.any_next hjl HNJ.out (by rw [HCJ.out, HBC.out, HF.out]; simp), by go_num, hbi.trans ((hbA.trans (hb2.mono hbA.size)).mono hwi), hbi1.trans ((hbA.trans (hb2.mono hbA.size)).mono hwi1), hbir.trans ((hbA.trans (hb2.mono hbA.size)).mono hwir)⟩
              case measure => simp [intOf]; omega
            | true =>
              have HF := Lib.hid hf
              clear hf
              go_wp2_with fail
              refine HCALL.out.mono ?_
              rintro e w2 ⟨rfl, hb2⟩
              rw [HF.out]
              go_wp2
              try rw [Exit.noGoto_ret]
              go_ret
              have hl : q.2.bars.any (MP.barC (pks L) nm) = true := MP.any_hit hjl (by rw [HCJ.out, HBC.out, HF.out, HCN.out]; rfl)
              exact ⟨by rw [MP.find_hit h HNO.out (by rw [HNK.out, HQ.out]; exact hl), HNK.out]; rfl, hbi.trans ((hbA.trans (hb2.mono hbA.size)).mono hwi)⟩
        · obtain rfl : j = q.2.bars.length := by omega
          have hl : q.2.bars.any (MP.barC (pks L) nm) = false := by
            have := HNJ.out
            rw [List.take_length] at this
            exact this
          have HL := Lib.hid hl
          clear hl HNJ
          go_wp2
          go_roundw
          case rel => exact ⟨k + 1, h, MP.any_next h HNO.out (by rw [HNK.out, HQ.out]; exact HL.out), by go_num, hbi, hbi1⟩
          case measure => simp [intOf]; omega
    · obtain rfl : k = ns.length := by omega
      have hall := HNO.out
      rw [List.take_length] at hall
      have HA := Lib.hid hall
      clear hall HNO HG
      go_wp2
      try rw [Exit.noGoto_ret]
      go_ret
      exact ⟨by rw [MP.find_no HA.out]; rfl, hbel⟩
end Go.Proofs.YtfphcecjhdkcoaaGreatDoor
namespace Go.Proofs.YtfphcecjhdkcoaaGreatDoor
open Go.RowKit Go.Maps
/-- A range over a set of packages: which are still to come. -/
structure RangeS (w : World) (mb r : Nat) (L T : List (Nat × Sp.Pk)) : Prop where
  at_ : RangeAt w mb r (kvOf L) (kvOf T)
  sub : ∀ q ∈ T, q ∈ L
  apart : T.Pairwise fun q r => q.2.name ≠ r.2.name
namespace MP
def dropL (T : List (Nat × Sp.Pk)) (n : Sp.Str) : List (Nat × Sp.Pk) := T.filter fun q => q.2.name != n
theorem drop_kv (T : List (Nat × Sp.Pk)) (n : Sp.Str) : dropKV (kvOf T) n = kvOf (dropL T n) := by
  unfold dropKV kvOf dropL
  rw [List.filter_map]; rfl
theorem dropL_perm {T : List (Nat × Sp.Pk)} (ha : T.Pairwise fun q r => q.2.name ≠ r.2.name) {t : Nat × Sp.Pk} (ht : t ∈ T) : T.Perm (t :: dropL T t.2.name) := by
  induction T with
  | nil => cases ht
  | cons p r ih =>
    obtain ⟨h1, h2⟩ := List.pairwise_cons.1 ha
    unfold dropL at ih ⊢
    rcases List.mem_cons.1 ht with rfl | ht
    · rw [List.filter_cons_of_neg (by simp)]
      have : r.filter (fun q => q.2.name != t.2.name) = r := by
        rw [List.filter_eq_self]; intro p hp; simpa using fun e => h1 p hp e.symm
      rw [this]
    · rw [List.filter_cons_of_pos (by simpa using h1 t ht)]
      exact ((ih h2 ht).cons p).trans (List.Perm.swap t p _)
theorem dropL_len {T : List (Nat × Sp.Pk)} (ha : T.Pairwise fun q r => q.2.name ≠ r.2.name) {t : Nat × Sp.Pk} (ht : t ∈ T) : (dropL T t.2.name).length < T.length := by
  have := (dropL_perm ha ht).length_eq
  rw [List.length_cons] at this; omega
end MP
theorem RangeS.block {w w' : World} {mb r : Nat} {L T : List (Nat × Sp.Pk)} (h : RangeS w mb r L T) (hb : w'.heap[mb]? = w.heap[mb]?) (hr : w'.heap[r]? = w.heap[r]?) : RangeS w' mb r L T := ⟨h.at_.block hb hr, h.sub, h.apart⟩
section
variable (w : World) {ops : Array Oper} {rest : List Oper} {o : Oper} {a : Act} {Q : Exit → Act → World → Prop}
theorem wp_set_range {S : Nat → Prop} (t e : TypeId) (hg : o.guard = none) (m : Operand) (hop : o.op = Op.range t m) (ht : Tryz.prog.underlying t = some (.map 9 e)) (b : Nat) (L : List (Nat × Sp.Pk)) (hm : a.eval m = .map (some b)) (h : SetOn S w b L)
    (K : ∀ w', RangeS w' b w.heap.size L L → w.grownBy w' none → w'.heap.size = w.heap.size + 1 → wpList Tryz.prog ops Q rest (a.put o.dst (.pointer (some ⟨w.heap.size, 0, none⟩))) w') : wpList Tryz.prog ops Q (o :: rest) a w :=
  wp_map_range w t e hg m hop ht b (kvOf L) hm h.map fun w' h1 h2 h3 => K w' ⟨h1, fun _ hq => hq, h.2.1⟩ h2 h3
theorem wp_set_next (hg : o.guard = none) (it : Operand) (hop : o.op = Op.next it false) (b r : Nat) (L T : List (Nat × Sp.Pk)) (hit : a.eval it = .pointer (some ⟨r, 0, none⟩)) (h : RangeS w b r L T)
    (hDone : T = [] → wpList Tryz.prog ops Q rest (a.put o.dst (.tuple #[.bool false])) w)
    (hMore : ∀ (t : Nat × Sp.Pk) (w' : World), t ∈ T → RangeS w' b r L (MP.dropL T t.2.name) → w.grownBy w' (some r) → w'.heap.size = w.heap.size →
      (Instr.entry (.pointer (some ⟨r, 0, none⟩))).run Tryz.prog w' = .ok (.tuple #[.string ⟨t.2.name.toArray⟩, .pointer (some ⟨t.1, 0, none⟩)]) w' → w'.rangeLeft b r < w.rangeLeft b r → wpList Tryz.prog ops Q rest (a.put o.dst (.tuple #[.bool true, .string ⟨t.2.name.toArray⟩, .pointer (some ⟨t.1, 0, none⟩)])) w') : wpList Tryz.prog ops Q (o :: rest) a w := by
  refine wp_map_next w hg it hop b r (kvOf L) (kvOf T) hit h.at_ (fun e => hDone (List.map_eq_nil_iff.1 e)) fun q w' hq h1 h2 h3 h4 h5 => ?_
  obtain ⟨t, ht, rfl⟩ := List.mem_map.1 hq
  rw [MP.drop_kv] at h1
  exact hMore t w' ht ⟨h1, fun q hq => h.sub q (List.mem_filter.1 hq).1, h.apart.sublist List.filter_sublist⟩ h2 h3 h4 h5
end
theorem grown_below {w w' : World} {r B : Nat} (h : w.grownBy w' (some r)) (hr : B ≤ r) (hB : B ≤ w.heap.size) : Below B w w' :=
  ⟨h.os, h.tape, h.output, h.size, fun k hk => h.block k (by omega) (by simp; omega)⟩
namespace MP
def tot (T : List (Nat × Sp.Pk)) : Nat := Sp.size (pks T)
theorem tot_drop {T : List (Nat × Sp.Pk)} (ha : T.Pairwise fun q r => q.2.name ≠ r.2.name) {t : Nat × Sp.Pk} (ht : t ∈ T) : tot T = (Sp.print t.2).length + tot (dropL T t.2.name) := by
  unfold tot
  have hp : (pks T).Perm (pks (t :: dropL T t.2.name)) := (dropL_perm ha ht).map _
  rw [V8.size_perm hp]
  unfold Sp.size pks
  simp
end MP
set_option maxRecDepth 100000 in
set_option maxHeartbeats 1000000 in
theorem size_any (mb : Nat) (L : List (Nat × Sp.Pk)) (w : World) (h : SetOn (fun b => b < w.heap.size) w mb L) (hsz : Sp.size (pks L) < 4611686018427387904) :
    Calls Tryz.prog 81 #[.map (some mb)] w fun e w' => e = .returned (.int .i64 (Sp.size (pks L))) ∧ Below w.heap.size w w' := by
  have hlt := h.map.lt
  have HS := Lib.hid h
  change MP.tot L < _ at hsz
  change Calls _ _ _ _ fun e w' => e = .returned (.int .i64 (MP.tot L)) ∧ _
  generalize htot : MP.tot L = tt at hsz ⊢
  have HT := Lib.hid htot
  clear htot
  go_enter Tryz.func81, Tryz.ntmps81
  go_wp2_with (at_range; refine wp_set_range _ 140 118 rfl _ rfl Tryz.underlying140 mb L rfl h ?_; intro w1 hr1 hg1 hs1)
  go_frame
  have hb1 : Below w.heap.size w w1 := ⟨hg1.os, hg1.tape, hg1.output, by omega, fun k hk => hg1.block k hk (by simp)⟩
  clear h hg1
  go_loopw [3, 8] (fun n _ wr => ∃ (T : List (Nat × Sp.Pk)) (k : Nat), RangeS wr mb w.heap.size L T ∧ n = .int .i64 k ∧ k + MP.tot T = tt ∧ Below w.heap.size w wr) (fun _ _ wr => wr.rangeLeft mb w.heap.size)
  case atStart => exact ⟨L, 0, hr1, rfl, by rw [HT.out]; omega, hb1⟩
  case round =>
    obtain ⟨T, k, hr, rfl, hk, hbel⟩ := hrel
    go_wp2_with (at_next; refine wp_set_next _ rfl _ rfl mb w.heap.size L T rfl hr ?_ ?_)
    · intro hT
      subst hT
      have hkt : k = tt := by unfold MP.tot Sp.size pks at hk; simpa using hk
      subst hkt
      go_wp2
      go_ret
      exact ⟨rfl, hbel⟩
    · intro tb tp w2 ht hr2 hg2 hs2 hen hleft
      have hq := hr.sub (tb, tp) ht
      have hbel2 : Below w.heap.size w w2 := hbel.trans (grown_below hg2 (Nat.le_refl _) hbel.size)
      obtain ⟨hip, hok⟩ := (HS.out.below hbel2).2.2 (tb, tp) hq
      have hp := print_any tb tp w2 hip hok
      have hd := MP.tot_drop hr.apart ht
      have HP := Lib.hid hp
      have hrl := hr2.at_.lt
      have hml := hr2.at_.map.lt
      have hws := hbel2.size
      clear hp hip hok hr
      unfold sv at HP
      generalize Sp.print tp = pt at *
      go_wp2_with fail
      refine HP.out.mono ?_
      rintro e w3 ⟨rfl, hb3⟩
      go_wp2
      go_roundw
      case rel => exact ⟨_, k + pt.length, hr2.block (hb3.block _ hml) (hb3.block _ hrl), by go_num, by omega, hbel2.trans (hb3.mono hws)⟩
      case measure => rw [rangeLeft_block (hb3.block _ hml) (hb3.block _ hrl)]; exact hleft
end Go.Proofs.YtfphcecjhdkcoaaGreatDoor

/-
The walk of the statement's plans: a table in memory.
-/
import Derived.Test.YtfphcecjhdkcoaaGreatDoorKnownP19
namespace Go.Proofs.YtfphcecjhdkcoaaGreatDoor
open Go.RowKit
namespace V21
def slV (n : Nat) (l : List Sp.Str) : Value := .slice (some ⟨n, 0, none⟩) l.length l.length
def pCells (n : Nat) (r : RowP) : List Value := [slV n r.ts, slV (n + 1) r.os, .int .i64 (r.f.kind : Int), .int .i64 (r.f.which : Int), .int .i64 (r.f.line : Int), sv r.f.name]
def plCells (n : Nat) : List RowP → List (List Value)
  | [] => []
  | r :: rs => pCells n r :: plCells (n + 1 + 1) rs
def plWorld (w : World) : List RowP → World
  | [] => w
  | r :: rs => plWorld ((w.alloc (.cells (r.ts.map sv).toArray 9)).alloc (.cells (r.os.map sv).toArray 9)) rs
theorem plCells_len : ∀ (l : List RowP) (n : Nat), (plCells n l).length = l.length
  | [], _ => rfl
  | _ :: r, n => by unfold plCells; rw [List.length_cons, List.length_cons, plCells_len r]
theorem plCells_six : ∀ (l : List RowP) (n : Nat), ∀ x ∈ plCells n l, x.length = 6
  | [], _ => fun x hx => by cases hx
  | r :: rs, n => fun x hx => by
    unfold plCells at hx
    rcases List.mem_cons.1 hx with rfl | hx
    · rfl
    · exact plCells_six rs _ x hx
theorem plCells_get : ∀ (l : List RowP) (n k : Nat) (hk : k < l.length), (plCells n l)[k]? = some (pCells (n + 2 * k) l[k])
  | r :: rs, n, 0, _ => rfl
  | r :: rs, n, k + 1, hk => by
    have := plCells_get rs (n + 1 + 1) k (by simpa using hk)
    unfold plCells
    rw [List.getElem?_cons_succ, this, show n + 1 + 1 + 2 * k = n + 2 * (k + 1) from by omega]
    rfl
theorem plWorld_below : ∀ (l : List RowP) (w : World), Below w.heap.size w (plWorld w l) ∧ (plWorld w l).heap.size = w.heap.size + 2 * l.length
  | [], w => ⟨Below.refl _ _, rfl⟩
  | r :: rs, w => by
    obtain ⟨h1, h2⟩ := plWorld_below rs ((w.alloc (.cells (r.ts.map sv).toArray 9)).alloc (.cells (r.os.map sv).toArray 9))
    simp only [World.size_alloc] at h1 h2
    unfold plWorld
    exact ⟨(((Below.refl _ _).alloc (Nat.le_refl _) _).alloc (by simp) _).trans (h1.mono (by omega)), by rw [h2, List.length_cons]; omega⟩
theorem flat_one : ∀ l : List Sp.Str, l.map sv = (l.map fun s => [sv s]).flatten
  | [] => rfl
  | a :: r => by rw [List.map_cons, List.map_cons, List.flatten_cons, ← flat_one r]; rfl
theorem strs_block {w : World} {b : Nat} {l : List Sp.Str} (h : w.heap[b]? = some (.cells (l.map sv).toArray 9 (0, 0))) : StrsAt w (slV b l) l := by
  have hl : b < w.heap.size := (Array.getElem?_eq_some_iff.1 h).1
  have := sl_of_block (w := w) (sz := 1) (b := b) (n := l.length) (e := 9) (xs := l.map fun s => [sv s]) (by rw [List.length_map]) (fun x hx => by obtain ⟨s, _, rfl⟩ := List.mem_map.1 hx; rfl) h (by rw [flat_one])
  exact SlOn.mono this fun k hk => by have : k = b := hk; omega
theorem plWorld_row : ∀ (l : List RowP) (w : World) (k : Nat) (hk : k < l.length), (plWorld w l).heap[w.heap.size + 2 * k]? = some (.cells (l[k].ts.map sv).toArray 9 (0, 0)) ∧ (plWorld w l).heap[w.heap.size + 2 * k + 1]? = some (.cells (l[k].os.map sv).toArray 9 (0, 0))
  | r :: rs, w, 0, _ => by
    obtain ⟨h1, _⟩ := plWorld_below rs ((w.alloc (.cells (r.ts.map sv).toArray 9)).alloc (.cells (r.os.map sv).toArray 9))
    simp only [World.size_alloc] at h1
    have a1 := heap_alloc_new w (.cells (r.ts.map sv).toArray 9)
    have a2 := heap_alloc_new (w.alloc (.cells (r.ts.map sv).toArray 9)) (.cells (r.os.map sv).toArray 9)
    have a3 : Below (w.heap.size + 1) (w.alloc (.cells (r.ts.map sv).toArray 9)) ((w.alloc (.cells (r.ts.map sv).toArray 9)).alloc (.cells (r.os.map sv).toArray 9)) := (Below.refl _ _).alloc (by simp) _
    rw [World.size_alloc] at a2
    unfold plWorld
    exact ⟨(h1.block _ (by omega)).trans ((a3.block _ (by omega)).trans a1), (h1.block _ (by omega)).trans a2⟩
  | r :: rs, w, k + 1, hk => by
    have := plWorld_row rs ((w.alloc (.cells (r.ts.map sv).toArray 9)).alloc (.cells (r.os.map sv).toArray 9)) k (by simpa using hk)
    simp only [World.size_alloc] at this
    unfold plWorld
    rw [show w.heap.size + 2 * (k + 1) = w.heap.size + 1 + 1 + 2 * k from by omega]
    exact this
/-- The table in memory. -/
def PlansAt (l : List RowP) (w : World) (a : Option Addr) : Prop := ∀ k, (hk : k < l.length) → ∃ b off tv ov, a = some ⟨b, off, none⟩ ∧ b < w.heap.size ∧ w.cell? ⟨b, off + k * 6, none⟩ = some tv ∧ w.cell? ⟨b, off + k * 6 + 1, none⟩ = some ov ∧
    w.cell? ⟨b, off + k * 6 + 2, none⟩ = some (.int .i64 ((l[k]'hk).f.kind : Int)) ∧ w.cell? ⟨b, off + k * 6 + 3, none⟩ = some (.int .i64 ((l[k]'hk).f.which : Int)) ∧ w.cell? ⟨b, off + k * 6 + 4, none⟩ = some (.int .i64 ((l[k]'hk).f.line : Int)) ∧
    w.cell? ⟨b, off + k * 6 + 5, none⟩ = some (sv (l[k]'hk).f.name) ∧ StrsAt w tv (l[k]'hk).ts ∧ StrsAt w ov (l[k]'hk).os
theorem plans_done (l : List RowP) (w : World) (n : Nat) (hn : n = w.heap.size + 2 * l.length) (W : World) (hW : W = (plWorld w l).alloc (.cells (plCells w.heap.size l).flatten.toArray 73)) : PlansAt l W (some ⟨n, 0, none⟩) ∧ Below w.heap.size w W := by
  subst hn
  subst hW
  obtain ⟨h1, h2⟩ := plWorld_below l w
  have hA : Below (plWorld w l).heap.size (plWorld w l) ((plWorld w l).alloc (.cells (plCells w.heap.size l).flatten.toArray 73)) := (Below.refl _ _).alloc (Nat.le_refl _) _
  have hnew := heap_alloc_new (plWorld w l) (.cells (plCells w.heap.size l).flatten.toArray 73)
  have hsl := sl_of_block (plCells_len l w.heap.size).symm (plCells_six l w.heap.size) hnew rfl
  refine ⟨fun k hk => ?_, h1.trans (hA.mono (by omega))⟩
  obtain ⟨a, cap, e, _, hx⟩ := hsl
  injection e with e1 e2 e3
  obtain ⟨b, off, ea, hb, hc⟩ := hx k _ (plCells_get l w.heap.size k hk)
  rw [← e1] at ea
  injection ea with ea
  injection ea with ea1 ea2
  subst ea2
  have hb' : b = (plWorld w l).heap.size := hb
  subst hb'
  obtain ⟨r1, r2⟩ := plWorld_row l w k hk
  have q : (plWorld w l).heap.size < ((plWorld w l).alloc (.cells (plCells w.heap.size l).flatten.toArray 73)).heap.size := by simp
  refine ⟨_, _, _, _, by rw [h2], q, hc 0 _ rfl, hc 1 _ rfl, hc 2 _ rfl, hc 3 _ rfl, hc 4 _ rfl, hc 5 _ rfl, strs_block ((hA.block _ (by omega)).trans r1), strs_block ((hA.block _ (by omega)).trans r2)⟩
end V21
set_option maxRecDepth 100000 in
set_option maxHeartbeats 40000000 in
theorem plans_any (w : World) : Calls Tryz.prog 37 #[] w fun e w' => ∃ a, e = .returned (.slice a 24 24) ∧ V21.PlansAt V21.plans w' a ∧ Below w.heap.size w w' := by
  go_enter Tryz.func37, Tryz.ntmps37
  go_wp2_with fail
  go_ret
  exact ⟨_, rfl, V21.plans_done V21.plans w _ (by kernel_rfl) _ (by kernel_rfl)⟩
end Go.Proofs.YtfphcecjhdkcoaaGreatDoor

/-
Walks on sets of packages: has, lacking, barring.
-/
import Derived.Test.YtfphcecjhdkcoaaGreatDoorKnownP01
import Derived.Test.YtfphcecjhdkcoaaGreatDoorKnownP03
import Derived.Test.YtfphcecjhdkcoaaGreatDoorProg
import Derived.BigQuiet
import Derived.StillTailTactics
/-
The keys of a map in order; the names of a set of packages.
-/
namespace Go.Proofs.YtfphcecjhdkcoaaGreatDoor
open Go.RowKit Go.Maps Go.Sort Go.Shelf
theorem keys_perm {w : World} {b n : Nat} {D : DataW Value} {kv : KV} (hown : w.ownsMap Tryz.prog 9 Rv b n D) (h : Shows D kv) : (strKeys D).Perm (kv.map (·.1)) := by
  obtain ⟨es, hD, hpw, hkl⟩ := hown.entries keyed9
  obtain ⟨es', hD', hko⟩ := hown.keysOf
  obtain rfl : es = es' := by rw [hD] at hD'; simpa using hD'
  subst hD
  have hstr : ∀ p ∈ es, p.1 = .string (strOf p.1) := by
    intro p hp
    obtain ⟨v, hv⟩ := hko p hp
    obtain ⟨s, _, hs, _⟩ := Maps.keyOf_str Tryz.underlying9 hv
    rw [hs]; rfl
  have hnd : (es.map fun p => strOf p.1).Nodup := by
    refine List.pairwise_map.2 ?_
    refine hpw.imp_of_mem fun {p q} hp hq hne e => hne ?_
    rw [hstr p hp, hstr q hq, e]
  refine (List.perm_ext_iff_of_nodup hnd (List.pairwise_map.2 h.apart)).2 fun x => ?_
  have h1 : x ∈ es.map (fun p => strOf p.1) ↔ Maps.has (.map es : DataW Value) (.string x) = true := by
    rw [has_eq, List.any_eq_true, List.mem_map]
    constructor
    · rintro ⟨p, hp, rfl⟩
      exact ⟨p, hp, by rw [← hstr p hp]; exact WideAt.sameKey_self (hkl p hp)⟩
    · rintro ⟨p, hp, e⟩
      refine ⟨p, hp, ?_⟩
      have := WideAt.sameKey_eq e
      rw [this]; rfl
  rw [h1, h.has_, List.mem_map]
  exact ⟨fun ⟨q, hq, e⟩ => ⟨q, hq, by injection e with e; exact e.symm⟩, fun ⟨q, hq, e⟩ => ⟨q, hq, by rw [e]⟩⟩
theorem keysP_any (mb : Option Nat) (w : World) : Calls Tryz.prog 130 #[.map mb] w fun e w' => e = .returned (.func (.func 179) #[] #[.pointer (some ⟨w.heap.size, 0, none⟩)]) ∧ w' = w.alloc (.cells #[.map mb] 140) :=
  (callsIn_wide (n := 5)).1 (AnyZ.keys_in Tryz.keysP Fence.wide 5 trivial rfl mb w)
theorem keysQ_any (mb : Option Nat) (w : World) : Calls Tryz.prog 173 #[.map mb] w fun e w' => e = .returned (.func (.func 218) #[] #[.pointer (some ⟨w.heap.size, 0, none⟩)]) ∧ w' = w.alloc (.cells #[.map mb] 274) :=
  (callsIn_wide (n := 5)).1 (AnyZ.keys_in Tryz.keysQ Fence.wide 5 trivial rfl mb w)
theorem sortedP_any (b : Nat) (kv : KV) (w : World) (h : MapAt w b kv) (hmax : kv.length < 1000000000) :
    Calls Tryz.prog 129 #[.func (.func 179) #[] #[.pointer (some ⟨w.heap.size, 0, none⟩)]] (w.alloc (.cells #[.map (some b)] 140)) fun e w' => ∃ v, e = .returned v ∧
      w'.ownsRow (w.alloc (.cells #[.map (some b)] 140)).heap.size 9 1 v kv.length ((Sp.sorted (kv.map (·.1))).map sv) ∧ Below w.heap.size w w' := by
  refine (callsIn_wide (n := 5)).1 ?_
  obtain ⟨D0, hown, hsh⟩ := h
  have hkp := keys_perm hown hsh
  have hbl := hown.lt
  have hsz := hsh.size_
  have hseq : SeqGives Fence.wide 2 Tryz.prog 179 #[.pointer (some ⟨w.heap.size, 0, none⟩)] encStr (fun ss => ss.Perm (strKeys D0)) (Maps.size D0) (w.alloc (.cells #[.map (some b)] 140)) :=
    AnyZ.keys_gives (ρ := Tryz.keysP_ren) { Tryz.keysP with } Fence.wide _ trivial rfl (by omega) w.heap.size b kv.length D0 _ (by simp) (by simp) (by
      obtain ⟨es, clock, hb, Ft, hs, hD⟩ := hown
      exact ⟨es, clock, (Below.heap_alloc _ _ b hbl).trans hb, Ft, hs, hD⟩)
  have cS := AnyZ.sorted_in Tryz.sortedI Fence.wide 5 trivial trivial trivial trivial rfl (by omega) (sorts_any _) (enters_of Tryz.func178 (by kernel_rfl) rfl) 179 #[.pointer (some ⟨w.heap.size, 0, none⟩)] trivial (enters_of Tryz.func179 (by kernel_rfl) rfl) _ _ (by unfold maxLen; omega) (by omega) _ hseq
  change CallsIn _ _ Tryz.prog 129 _ _ _ at cS
  refine cS.mono ?_
  rintro e w' ⟨v, ss, rfl, hS, hrow, hnil, hb⟩
  have hp := hS.trans hkp
  refine ⟨v, rfl, ?_, ((Below.refl _ w).alloc (Nat.le_refl _) _).trans (hb.mono (by simp))⟩
  have e1 : ss.mergeSort (fun x y => decide (x ≤ y)) = Sp.sorted (kv.map (·.1)) := V8.sorted_eq hp
  rw [← e1, ← show ss.length = kv.length from by rw [hp.length_eq, List.length_map]]
  exact hrow
theorem sortedQ_any (b : Nat) (kv : KV) (w : World) (h : MapAt w b kv) (hmax : kv.length < 1000000000) :
    Calls Tryz.prog 129 #[.func (.func 218) #[] #[.pointer (some ⟨w.heap.size, 0, none⟩)]] (w.alloc (.cells #[.map (some b)] 274)) fun e w' => ∃ v, e = .returned v ∧
      w'.ownsRow (w.alloc (.cells #[.map (some b)] 274)).heap.size 9 1 v kv.length ((Sp.sorted (kv.map (·.1))).map sv) ∧ Below w.heap.size w w' := by
  refine (callsIn_wide (n := 5)).1 ?_
  obtain ⟨D0, hown, hsh⟩ := h
  have hkp := keys_perm hown hsh
  have hbl := hown.lt
  have hsz := hsh.size_
  have hseq : SeqGives Fence.wide 2 Tryz.prog 218 #[.pointer (some ⟨w.heap.size, 0, none⟩)] encStr (fun ss => ss.Perm (strKeys D0)) (Maps.size D0) (w.alloc (.cells #[.map (some b)] 274)) :=
    AnyZ.keys_gives (ρ := Tryz.keysQ_ren) { Tryz.keysQ with } Fence.wide _ trivial rfl (by omega) w.heap.size b kv.length D0 _ (by simp) (by simp) (by
      obtain ⟨es, clock, hb, Ft, hs, hD⟩ := hown
      exact ⟨es, clock, (Below.heap_alloc _ _ b hbl).trans hb, Ft, hs, hD⟩)
  have cS := AnyZ.sorted_in Tryz.sortedI Fence.wide 5 trivial trivial trivial trivial rfl (by omega) (sorts_any _) (enters_of Tryz.func178 (by kernel_rfl) rfl) 218 #[.pointer (some ⟨w.heap.size, 0, none⟩)] trivial (enters_of Tryz.func218 (by kernel_rfl) rfl) _ _ (by unfold maxLen; omega) (by omega) _ hseq
  change CallsIn _ _ Tryz.prog 129 _ _ _ at cS
  refine cS.mono ?_
  rintro e w' ⟨v, ss, rfl, hS, hrow, hnil, hb⟩
  have hp := hS.trans hkp
  refine ⟨v, rfl, ?_, ((Below.refl _ w).alloc (Nat.le_refl _) _).trans (hb.mono (by simp))⟩
  have e1 : ss.mergeSort (fun x y => decide (x ≤ y)) = Sp.sorted (kv.map (·.1)) := V8.sorted_eq hp
  rw [← e1, ← show ss.length = kv.length from by rw [hp.length_eq, List.length_map]]
  exact hrow
/-- The keys of a set that lies in a map, in order. -/
theorem names_map (b : Nat) (kv : KV) (w : World) (h : MapAt w b kv) (hmax : kv.length < 1000000000) :
    Calls Tryz.prog 77 #[.map (some b)] w fun e w' => ∃ v, e = .returned v ∧ w'.ownsRow (w.heap.size + 1) 9 1 v kv.length ((Sp.sorted (kv.map (·.1))).map sv) ∧ Below w.heap.size w w' := by
  go_enter Tryz.func77, Tryz.ntmps77
  go_wp2_with fail
  refine (keysP_any _ _).mono ?_
  rintro e w1 ⟨rfl, rfl⟩
  go_wp2_with fail
  refine (sortedP_any _ _ _ h hmax).mono ?_
  rintro e w2 ⟨v, rfl, hrow, hb⟩
  go_wp2
  go_ret
  exact ⟨_, rfl, by simpa using hrow, hb⟩
def kvOf (L : List (Nat × Sp.Pk)) : KV := L.map fun q => (q.2.name, .pointer (some ⟨q.1, 0, none⟩))
theorem SetOn.map {S : Nat → Prop} {w : World} {mb : Nat} {L : List (Nat × Sp.Pk)} (h : SetOn S w mb L) : MapAt w mb (kvOf L) := by
  obtain ⟨⟨D, h1, h2, h3, h4⟩, hap, hpk⟩ := h
  refine ⟨D, by unfold kvOf; rw [List.length_map]; exact h1, h1.tidy keyed9, fun q hq z => ?_, fun k => ?_, by unfold kvOf; rw [List.length_map]; exact h2, List.pairwise_map.2 hap, fun q hq => ?_⟩
  · obtain ⟨r, hr, rfl⟩ := List.mem_map.1 hq
    exact h3 r hr z
  · constructor
    · intro hk
      obtain ⟨q, hq, rfl⟩ := h4 k hk
      exact ⟨_, List.mem_map.2 ⟨q, hq, rfl⟩, rfl⟩
    · rintro ⟨q, hq, rfl⟩
      obtain ⟨r, hr, rfl⟩ := List.mem_map.1 hq
      exact has_true_of_atKey (h3 r hr)
  · obtain ⟨r, hr, rfl⟩ := List.mem_map.1 hq
    have := (hpk r hr).2.name
    show r.2.name.length ≤ _
    unfold maxLen; omega
theorem SetOn.of_map {S : Nat → Prop} {w : World} {mb : Nat} {L : List (Nat × Sp.Pk)} (h : MapAt w mb (kvOf L)) (hp : ∀ q ∈ L, IsPack S w q.1 q.2 ∧ PkOk q.2) : SetOn S w mb L := by
  obtain ⟨D, h1, h2⟩ := h
  unfold kvOf at h1 h2
  rw [List.length_map] at h1
  refine ⟨⟨D, h1, by have := h2.size_; rwa [List.length_map] at this, fun q hq z => h2.at_ _ (List.mem_map.2 ⟨q, hq, rfl⟩) z, fun k hk => ?_⟩, by have := h2.apart; rw [List.pairwise_map] at this; exact this, hp⟩
  obtain ⟨r, hr, rfl⟩ := (h2.has_ k).1 hk
  obtain ⟨q, hq, rfl⟩ := List.mem_map.1 hr
  exact ⟨q, hq, rfl⟩
theorem SetOn.mono {S S' : Nat → Prop} {w : World} {mb : Nat} {L : List (Nat × Sp.Pk)} (h : SetOn S w mb L) (hs : ∀ x, S x → S' x) : SetOn S' w mb L :=
  ⟨h.1, h.2.1, fun q hq => ⟨(h.2.2 q hq).1.mono hs, (h.2.2 q hq).2⟩⟩
theorem SetOn.keep {S : Nat → Prop} {w w' : World} {mb : Nat} {L : List (Nat × Sp.Pk)} (h : SetOn S w mb L) (hm : w'.heap[mb]? = w.heap[mb]?) (hs : ∀ x, S x → w'.heap[x]? = w.heap[x]?) : SetOn S w' mb L :=
  SetOn.of_map (h.map.block hm) fun q hq => ⟨(h.2.2 q hq).1.keep hs, (h.2.2 q hq).2⟩
theorem SetOn.perm {S : Nat → Prop} {w : World} {mb : Nat} {L L' : List (Nat × Sp.Pk)} (h : SetOn S w mb L) (hp : L.Perm L') : SetOn S w mb L' :=
  SetOn.of_map (h.map.perm (hp.map _)) fun q hq => h.2.2 q (hp.mem_iff.2 hq)
theorem SetOn.below {w w' : World} {mb : Nat} {L : List (Nat × Sp.Pk)} (h : SetOn (fun x => x < w.heap.size) w mb L) (hb : Below w.heap.size w w') : SetOn (fun x => x < w'.heap.size) w' mb L :=
  (h.keep (hb.block _ h.map.lt) fun x hx => hb.block x hx).mono fun _ hx => Nat.lt_of_lt_of_le hx hb.size
theorem kvOf_names (L : List (Nat × Sp.Pk)) : (kvOf L).map (·.1) = Sp.names (L.map (·.2)) := by unfold kvOf Sp.names; rw [List.map_map, List.map_map]; rfl
theorem names_any (mb : Nat) (L : List (Nat × Sp.Pk)) (w : World) (h : SetOn (fun b => b < w.heap.size) w mb L) (hmax : L.length < 1000000000) :
    Calls Tryz.prog 77 #[.map (some mb)] w fun e w' => ∃ v, e = .returned v ∧ StrsAt w' v (Sp.sorted (Sp.names (L.map (·.2)))) ∧ Below w.heap.size w w' := by
  refine (names_map mb (kvOf L) w h.map (by unfold kvOf; rw [List.length_map]; exact hmax)).mono ?_
  rintro e w' ⟨v, rfl, hrow, hb⟩
  rw [kvOf_names] at hrow
  refine ⟨v, rfl, ?_, hb⟩
  have hl : (kvOf L).length = (Sp.sorted (Sp.names (L.map (·.2)))).length := by
    rw [(V8.sorted_perm _).length_eq]; unfold kvOf Sp.names; simp
  rw [hl] at hrow
  exact StrsAt.of_row hrow
end Go.Proofs.YtfphcecjhdkcoaaGreatDoor
/-
Walks of the reference's small text functions: in, made, isName, isVersion, begins, over.
-/
namespace Go.Proofs.YtfphcecjhdkcoaaGreatDoor
open Go.RowKit
namespace R1
def has (l : Sp.Str) (c : UInt8) : Bool := l.contains c
theorem has_of {x t : ByteArray} {c : UInt8} {k : Nat} (hx : bl x = [c]) (h : k < t.size) (hc : ((t.extract k (k + 1)).toList == x.toList) = true) : has (bl t) c = true := by
  rw [eqs_bl, hx, bl_one t k h] at hc
  have : t[k] = c := by simpa using hc
  unfold has
  rw [List.contains_iff_mem, ← this]
  exact List.getElem_mem (l := bl t) (by rw [bl_len]; exact h)
theorem has_snoc {x t : ByteArray} {c : UInt8} {k : Nat} (hx : bl x = [c]) (h : k < t.size) (hc : ((t.extract k (k + 1)).toList == x.toList) = false) (hn : has ((bl t).take k) c = false) : has ((bl t).take (k + 1)) c = false := by
  rw [eqs_bl, hx, bl_one t k h] at hc
  have : t[k] ≠ c := by simpa using hc
  unfold has at *
  rw [take_snoc t k h, List.contains_eq_any_beq, List.any_append, ← List.contains_eq_any_beq, hn]
  simp; exact fun e => this e.symm
end R1
theorem in_any (x t : ByteArray) (c : UInt8) (w : World) (hx : bl x = [c]) (ht : t.size ≤ 4611686018427387904) :
    Calls Tryz.prog 118 #[.string x, .string t] w fun e w' => e = .returned (.bool (R1.has (bl t) c)) ∧ w = w' := by
  have hx1 : x.size = 1 := by rw [← bl_len, hx]; rfl
  have HX := Lib.hid hx
  clear hx
  go_enter Tryz.func118, Tryz.ntmps118
  go_wp2
  go_loop [5] (fun i => ∃ k : Nat, k ≤ t.size ∧ R1.has ((bl t).take k) c = false ∧ i = .int .i64 k) (fun i => t.size + 1 - (intOf i).toNat)
  case atStart => exact ⟨0, Nat.zero_le _, rfl, rfl⟩
  case round =>
    obtain ⟨k, hk, hn, rfl⟩ := hrel
    have HN := Lib.hid hn
    clear hn
    by_cases h : k < t.size
    · go_wp2
      · have hc : ((t.extract k (k + 1)).toList == x.toList) = true := by assumption
        go_ret
        exact ⟨ret_bool (R1.has_of HX.out h hc).symm, rfl⟩
      · have hc : ((t.extract k (k + 1)).toList == x.toList) = false := by assumption
        go_round
        case rel => exact ⟨k + 1, by omega, R1.has_snoc HX.out h hc HN.out, by go_num⟩
        case measure => simp [intOf]; omega
    · go_wp2
      go_ret
      have : (bl t).take k = bl t := List.take_of_length_le (by rw [bl_len]; omega)
      rw [this] at HN
      exact ⟨ret_bool HN.out.symm, rfl⟩
namespace R1
theorem all_snoc {s : ByteArray} {f : UInt8 → Bool} {k : Nat} (h : k < s.size) (ha : ((bl s).take k).all f = true) (hk : f s[k] = true) : ((bl s).take (k + 1)).all f = true := by
  rw [take_snoc s k h, List.all_append, ha]; simp [hk]
theorem made_stop {s : ByteArray} {t : Sp.Str} {a b k : Nat} (h : k < s.size) (hk : has t s[k] = false) : Sp.among (bl s) t a b = false := by
  unfold Sp.among
  have : (bl s).all (fun c => t.contains c) = false := by
    rw [Bool.eq_false_iff]; intro ha
    rw [List.all_eq_true] at ha
    have := ha s[k] (List.getElem_mem (l := bl s) (by rw [bl_len]; exact h))
    unfold has at hk
    rw [this] at hk; cases hk
  rw [this]; rfl
theorem made_all {s : ByteArray} {t : Sp.Str} {a b k : Nat} (h : ¬ k < s.size) (ha : ((bl s).take k).all (fun c => has t c) = true) : Sp.among (bl s) t a b = (decide (a ≤ s.size) && decide (s.size ≤ b)) := by
  have : (bl s).take k = bl s := List.take_of_length_le (by rw [bl_len]; omega)
  rw [this] at ha
  unfold Sp.among
  unfold has at ha
  rw [ha, bl_len, Bool.true_and]
end R1
theorem made_any (s t : ByteArray) (least most : Nat) (w : World) (hs : s.size ≤ 4611686018427387904) (ht : t.size ≤ 4611686018427387904) (_hl : least ≤ 4611686018427387904) (_hm : most ≤ 4611686018427387904) :
    Calls Tryz.prog 117 #[.string s, .string t, .int .i64 least, .int .i64 most] w fun e w' => e = .returned (.bool (Sp.among (bl s) (bl t) least most)) ∧ w = w' := by
  go_enter Tryz.func117, Tryz.ntmps117
  go_wp2
  go_loop [9, 10] (fun i _ => ∃ k : Nat, k ≤ s.size ∧ ((bl s).take k).all (fun c => R1.has (bl t) c) = true ∧ i = .int .i64 k) (fun i _ => s.size + 1 - (intOf i).toNat)
  case atStart => exact ⟨0, Nat.zero_le _, rfl, rfl⟩
  case round =>
    obtain ⟨k, hk, hn, rfl⟩ := hrel
    have HN := Lib.hid hn
    clear hn
    by_cases h : k < s.size
    · cases hh : R1.has (bl t) s[k] with
      | true =>
        have HH := Lib.hid hh
        clear hh
        go_wp2_with fail
        refine (in_any _ _ s[k] _ (bl_one s k h) ht).mono ?_
        rintro e w' ⟨rfl, rfl⟩
        rw [HH.out]
        go_wp2
        go_round
        case rel => exact ⟨k + 1, by omega, R1.all_snoc h HN.out HH.out, by go_num⟩
        case measure => simp [intOf]; omega
      | false =>
        have HH := Lib.hid hh
        clear hh
        go_wp2_with fail
        refine (in_any _ _ s[k] _ (bl_one s k h) ht).mono ?_
        rintro e w' ⟨rfl, rfl⟩
        rw [HH.out]
        go_wp2
        go_ret
        exact ⟨ret_bool (R1.made_stop h HH.out).symm, rfl⟩
    · by_cases h1 : least ≤ s.size
      · go_wp2
        go_ret
        exact ⟨ret_bool (by rw [R1.made_all h HN.out]; simp [h1]), rfl⟩
      · go_wp2
        go_ret
        exact ⟨ret_bool (by rw [R1.made_all h HN.out]; simp [h1]), rfl⟩
namespace R1
theorem head_size {s : ByteArray} {t : Sp.Str} {m : Nat} (h : Sp.among (bl s) t 1 m = true) : 0 < s.size := by
  unfold Sp.among at h
  simp at h
  have := h.1.2
  rw [bl_len] at this; omega
theorem head_ex {s : ByteArray} (h : 0 < s.size) : ∃ c r, bl s = c :: r ∧ bl (s.extract 0 1) = [c] := by
  have h1 := bl_one s 0 h
  cases hs : bl s with
  | nil => rw [← bl_len, hs] at h; simp at h
  | cons c r => exact ⟨c, r, rfl, by rw [bl_to, hs]; rfl⟩
theorem dig_has (c : UInt8) : has [48, 49, 50, 51, 52, 53, 54, 55, 56, 57] c = Sp.isDig c := by
  unfold has Sp.isDig
  rw [Bool.eq_iff_iff]
  simp only [List.contains_iff_mem, List.mem_cons, List.not_mem_nil, or_false, Bool.and_eq_true, decide_eq_true_eq]
  constructor
  · rintro (rfl | rfl | rfl | rfl | rfl | rfl | rfl | rfl | rfl | rfl) <;> decide
  · rintro ⟨h1, h2⟩
    have : c.toNat = 48 ∨ c.toNat = 49 ∨ c.toNat = 50 ∨ c.toNat = 51 ∨ c.toNat = 52 ∨ c.toNat = 53 ∨ c.toNat = 54 ∨ c.toNat = 55 ∨ c.toNat = 56 ∨ c.toNat = 57 := by omega
    simp only [← UInt8.toNat_inj]
    exact this
end R1
theorem isName_any (s : ByteArray) (w : World) (hs : s.size ≤ 4611686018427387904) :
    Calls Tryz.prog 67 #[.string s] w fun e w' => e = .returned (.bool (Sp.isName (bl s))) ∧ w = w' := by
  cases ha : Sp.among (bl s) Sp.nameS 1 12 with
  | false =>
    have HA := Lib.hid ha
    clear ha
    go_enter Tryz.func67, Tryz.ntmps67
    go_wp2_with fail
    refine (made_any s _ 1 12 w hs (by decide) (by decide) (by decide)).mono ?_
    rintro e w1 ⟨rfl, rfl⟩
    rw [show bl ⟨#[97, 98, 99, 100, 101, 102, 103, 104, 105, 106, 107, 108, 109, 110, 111, 112, 113, 114, 115, 116, 117, 118, 119, 120, 121, 122, 48, 49, 50, 51, 52, 53, 54, 55, 56, 57, 45]⟩ = Sp.nameS from rfl, HA.out]
    go_wp2
    go_ret
    exact ⟨ret_bool (by unfold Sp.isName; rw [HA.out]; rfl), rfl⟩
  | true =>
    have hsz := R1.head_size ha
    obtain ⟨c, r, hcr, hone⟩ := R1.head_ex hsz
    have HA := Lib.hid ha
    have HC := Lib.hid hcr
    have HO := Lib.hid hone
    clear ha hcr hone
    go_enter Tryz.func67, Tryz.ntmps67
    go_wp2_with fail
    refine (made_any s _ 1 12 w hs (by decide) (by decide) (by decide)).mono ?_
    rintro e w1 ⟨rfl, rfl⟩
    rw [show bl ⟨#[97, 98, 99, 100, 101, 102, 103, 104, 105, 106, 107, 108, 109, 110, 111, 112, 113, 114, 115, 116, 117, 118, 119, 120, 121, 122, 48, 49, 50, 51, 52, 53, 54, 55, 56, 57, 45]⟩ = Sp.nameS from rfl, HA.out]
    go_wp2_with fail
    refine (in_any _ _ c _ HO.out (by decide)).mono ?_
    rintro e w1 ⟨rfl, rfl⟩
    go_wp2
    go_ret
    exact ⟨ret_bool (by unfold Sp.isName; rw [HA.out, HC.out]; rfl), rfl⟩
theorem isVer_any (s : ByteArray) (w : World) (hs : s.size ≤ 4611686018427387904) :
    Calls Tryz.prog 68 #[.string s] w fun e w' => e = .returned (.bool (Sp.isVer (bl s))) ∧ w = w' := by
  cases ha : Sp.among (bl s) Sp.verS 1 16 with
  | false =>
    have HA := Lib.hid ha
    clear ha
    go_enter Tryz.func68, Tryz.ntmps68
    go_wp2_with fail
    refine (made_any s _ 1 16 w hs (by decide) (by decide) (by decide)).mono ?_
    rintro e w1 ⟨rfl, rfl⟩
    rw [show bl ⟨#[97, 98, 99, 100, 101, 102, 103, 104, 105, 106, 107, 108, 109, 110, 111, 112, 113, 114, 115, 116, 117, 118, 119, 120, 121, 122, 65, 66, 67, 68, 69, 70, 71, 72, 73, 74, 75, 76, 77, 78, 79, 80, 81, 82, 83, 84, 85, 86, 87, 88, 89, 90, 48, 49, 50, 51, 52, 53, 54, 55, 56, 57, 46, 43, 45, 126]⟩ = Sp.verS from rfl, HA.out]
    go_wp2
    go_ret
    exact ⟨ret_bool (by unfold Sp.isVer; rw [HA.out]; rfl), rfl⟩
  | true =>
    have hsz := R1.head_size ha
    obtain ⟨c, r, hcr, hone⟩ := R1.head_ex hsz
    have HA := Lib.hid ha
    have HC := Lib.hid hcr
    have HO := Lib.hid hone
    clear ha hcr hone
    go_enter Tryz.func68, Tryz.ntmps68
    go_wp2_with fail
    refine (made_any s _ 1 16 w hs (by decide) (by decide) (by decide)).mono ?_
    rintro e w1 ⟨rfl, rfl⟩
    rw [show bl ⟨#[97, 98, 99, 100, 101, 102, 103, 104, 105, 106, 107, 108, 109, 110, 111, 112, 113, 114, 115, 116, 117, 118, 119, 120, 121, 122, 65, 66, 67, 68, 69, 70, 71, 72, 73, 74, 75, 76, 77, 78, 79, 80, 81, 82, 83, 84, 85, 86, 87, 88, 89, 90, 48, 49, 50, 51, 52, 53, 54, 55, 56, 57, 46, 43, 45, 126]⟩ = Sp.verS from rfl, HA.out]
    go_wp2_with fail
    refine (in_any _ _ c _ HO.out (by decide)).mono ?_
    rintro e w1 ⟨rfl, rfl⟩
    go_wp2
    go_ret
    exact ⟨ret_bool (by unfold Sp.isVer; rw [HA.out, HC.out]; exact R1.dig_has c), rfl⟩
namespace R1
theorem pre_yes {s t : ByteArray} (_h : t.size ≤ s.size) : (bl t).isPrefixOf (bl s) = ((s.extract 0 t.size).toList == t.toList) := by
  rw [eqs_bl, bl_to, Bool.eq_iff_iff, List.isPrefixOf_iff_prefix, List.prefix_iff_eq_take, beq_iff_eq, bl_len]
  exact ⟨fun h => h.symm, fun h => h.symm⟩
theorem pre_no {s t : ByteArray} (h : ¬ t.size ≤ s.size) : (bl t).isPrefixOf (bl s) = false := by
  rw [Bool.eq_false_iff]; intro e
  have := (List.isPrefixOf_iff_prefix.1 e).length_le
  rw [bl_len, bl_len] at this; omega
end R1
theorem begins_any (s t : ByteArray) (w : World) :
    Calls Tryz.prog 69 #[.string s, .string t] w fun e w' => e = .returned (.bool ((bl t).isPrefixOf (bl s))) ∧ w = w' := by
  by_cases h : t.size ≤ s.size
  · go_enter Tryz.func69, Tryz.ntmps69
    go_wp2
    go_ret
    exact ⟨ret_bool (R1.pre_yes h).symm, rfl⟩
  · go_enter Tryz.func69, Tryz.ntmps69
    go_wp2
    go_ret
    exact ⟨ret_bool (R1.pre_no h).symm, rfl⟩
theorem over_any (s t : ByteArray) (w : World) (hs : s.size < 1000000) :
    Calls Tryz.prog 72 #[.string s, .string t] w fun e w' => e = .returned (.bool (Sp.over (bl s) (bl t))) ∧ w = w' := by
  go_enter Tryz.func72, Tryz.ntmps72
  go_wp2_with fail
  refine (begins_any _ _ _).mono ?_
  rintro e w1 ⟨rfl, rfl⟩
  go_wp2
  go_ret
  exact ⟨ret_bool (by rw [bl_app]; rfl), rfl⟩
end Go.Proofs.YtfphcecjhdkcoaaGreatDoor
/-
Walks of the program's functions on versions: weight, at, split.
-/
namespace Go.Proofs.YtfphcecjhdkcoaaGreatDoor
open Go.RowKit
theorem bl_get (s : ByteArray) (k : Nat) (h : k < s.size) : (bl s)[k]? = some s[k] := by
  have h1 := congrArg (fun l : List UInt8 => l[k]?) (take_snoc s k h)
  have hl : ((bl s).take k).length = k := by rw [List.length_take, bl_len]; omega
  have h2 : ((bl s).take (k + 1))[k]? = ((bl s).take k ++ [s[k]])[k]? := h1
  rw [List.getElem?_take, if_pos (by omega), List.getElem?_append_right (by omega), hl, Nat.sub_self] at h2
  exact h2
namespace CM
theorem weight_til (c : UInt8) (h : c.toNat = 126) : Sp.weight c = -1 := by
  unfold Sp.weight; rw [if_pos (UInt8.toNat_inj.1 h)]
theorem weight_let (c : UInt8) (h : (97 ≤ c.toNat ∧ c.toNat ≤ 122) ∨ (65 ≤ c.toNat ∧ c.toNat ≤ 90)) : Sp.weight c = c.toNat := by
  unfold Sp.weight; rw [if_neg (by rintro rfl; revert h; decide), if_pos h]
theorem weight_oth (c : UInt8) (h0 : c.toNat ≠ 126) (h : ¬ ((97 ≤ c.toNat ∧ c.toNat ≤ 122) ∨ (65 ≤ c.toNat ∧ c.toNat ≤ 90))) : Sp.weight c = c.toNat + 256 := by
  unfold Sp.weight; rw [if_neg (by rintro rfl; exact h0 rfl), if_neg h]
end CM
theorem weight_any (c : UInt8) (w : World) : Calls Tryz.prog 134 #[.int .u8 (c.toNat : Int)] w fun e w' => e = .returned (.int .i64 (Sp.weight c)) ∧ w = w' := by
  have hc := c.toNat_lt
  by_cases h : c.toNat = 126
  · have HW := Lib.hid (CM.weight_til c h)
    have h' : ((c.toNat : Int) == 126) = true := by simp; omega
    go_enter Tryz.func134, Tryz.ntmps134
    go_wp2
    go_ret
    exact ⟨ret_int HW.out.symm, rfl⟩
  · have h' : ((c.toNat : Int) == 126) = false := by simp; omega
    by_cases h1 : 97 ≤ c.toNat
    · by_cases h2 : c.toNat ≤ 122
      · have HW := Lib.hid (CM.weight_let c (.inl ⟨h1, h2⟩))
        go_enter Tryz.func134, Tryz.ntmps134
        go_wp2
        go_ret
        exact ⟨ret_int HW.out.symm, rfl⟩
      · have h3 : 65 ≤ c.toNat := by omega
        have h4 : ¬ c.toNat ≤ 90 := by omega
        have HW := Lib.hid (CM.weight_oth c h (by omega))
        go_enter Tryz.func134, Tryz.ntmps134
        go_wp2
        go_ret
        exact ⟨ret_int HW.out.symm, rfl⟩
    · by_cases h3 : 65 ≤ c.toNat
      · by_cases h4 : c.toNat ≤ 90
        · have HW := Lib.hid (CM.weight_let c (.inr ⟨h3, h4⟩))
          go_enter Tryz.func134, Tryz.ntmps134
          go_wp2
          go_ret
          exact ⟨ret_int HW.out.symm, rfl⟩
        · have HW := Lib.hid (CM.weight_oth c h (by omega))
          go_enter Tryz.func134, Tryz.ntmps134
          go_wp2
          go_ret
          exact ⟨ret_int HW.out.symm, rfl⟩
      · have HW := Lib.hid (CM.weight_oth c h (by omega))
        go_enter Tryz.func134, Tryz.ntmps134
        go_wp2
        go_ret
        exact ⟨ret_int HW.out.symm, rfl⟩
namespace CM
/-- The weight at a place; of the end: 0. -/
def wAt (s : Sp.Str) (i : Nat) : Int := match s[i]? with
  | some c => Sp.weight c
  | none => 0
end CM
theorem at_any (s : ByteArray) (i : Nat) (w : World) : Calls Tryz.prog 89 #[.string s, .int .i64 i] w fun e w' => e = .returned (.int .i64 (CM.wAt (bl s) i)) ∧ w = w' := by
  by_cases h : i < s.size
  · have hw : CM.wAt (bl s) i = Sp.weight s[i] := by
      unfold CM.wAt; rw [bl_get s i h]
    have HW := Lib.hid hw
    clear hw
    go_enter Tryz.func89, Tryz.ntmps89
    go_wp2_with fail
    refine (weight_any _ _).mono ?_
    rintro e w' ⟨rfl, rfl⟩
    go_wp2
    go_ret
    exact ⟨ret_int HW.out.symm, rfl⟩
  · have hw : CM.wAt (bl s) i = 0 := by
      unfold CM.wAt; rw [List.getElem?_eq_none (by rw [bl_len]; omega)]
    have HW := Lib.hid hw
    clear hw
    go_enter Tryz.func89, Tryz.ntmps89
    go_wp2
    go_ret
    exact ⟨ret_int HW.out.symm, rfl⟩
theorem notDig_any (f : Nat) (hf : f = 85 ∨ f = 87) (c : UInt8) (w : World) : Calls Tryz.prog f #[.int .u8 (c.toNat : Int)] w fun e w' => e = .returned (.bool (Sp.notDig c)) ∧ w = w' := by
  have HS := Lib.hid (show Sp.notDig c = !Sp.isDig c from rfl)
  rcases hf with rfl | rfl
  · go_enter Tryz.func85, Tryz.ntmps85
    go_wp2_with fail
    refine (digit_any _ _).mono ?_
    rintro e w' ⟨rfl, rfl⟩
    go_wp2
    go_ret
    exact ⟨ret_bool (by rw [HS.out]), rfl⟩
  · go_enter Tryz.func87, Tryz.ntmps87
    go_wp2_with fail
    refine (digit_any _ _).mono ?_
    rintro e w' ⟨rfl, rfl⟩
    go_wp2
    go_ret
    exact ⟨ret_bool (by rw [HS.out]), rfl⟩
namespace CM
theorem take_all {p : UInt8 → Bool} : ∀ {l : Sp.Str} {k : Nat}, (l.take k).all p = true → (∀ c, l[k]? = some c → p c = false) → l.takeWhile p = l.take k ∧ l.dropWhile p = l.drop k
  | [], k, _, _ => by simp
  | c :: r, 0, _, h => by
    have := h c (by simp)
    simp [this]
  | c :: r, k + 1, h1, h2 => by
    rw [List.take_succ_cons, List.all_cons, Bool.and_eq_true] at h1
    obtain ⟨i1, i2⟩ := take_all (l := r) (k := k) h1.2 (fun d hd => h2 d (by simpa using hd))
    rw [List.takeWhile_cons_of_pos h1.1, List.dropWhile_cons_of_pos h1.1, i1, i2]
    simp
end CM
set_option maxRecDepth 100000 in
theorem vsplit_any (f : Nat) (p : UInt8 → Bool) (hf : ∀ (c : UInt8) (w : World), Calls Tryz.prog f #[.int .u8 (c.toNat : Int)] w fun e w' => e = .returned (.bool (p c)) ∧ w = w') (hcf : ∀ (args : Array Value) (w : World), (callFunc f args).run Tryz.prog w = .ok (.enter f args) w) (s : ByteArray) (w : World) (hs : s.size ≤ 4611686018427387904) :
    Calls Tryz.prog 84 #[.string s, .func (.func f) #[] #[]] w fun e w' => e = .returned (.tuple #[.string ⟨((bl s).takeWhile p).toArray⟩, .string ⟨((bl s).dropWhile p).toArray⟩]) ∧ Below w.heap.size w w' := by
  have HF := Lib.hid hf
  have HCF := Lib.hid hcf
  clear hf hcf
  go_enter Tryz.func84, Tryz.ntmps84
  go_wp2
  go_loopw [6] (fun i wr => ∃ k : Nat, k ≤ s.size ∧ ((bl s).take k).all p = true ∧ i = .int .i64 k ∧ wr = w) (fun i _ => s.size + 1 - (intOf i).toNat)
  case atStart => exact ⟨0, Nat.zero_le _, rfl, rfl, rfl⟩
  case round =>
    obtain ⟨k, hk, hn, rfl, rfl⟩ := hrel
    have HN := Lib.hid hn
    clear hn
    by_cases h : k < s.size
    · cases hh : p s[k] with
      | true =>
        have HH := Lib.hid hh
        clear hh
        go_wp2_with fail
        rw [HCF.out]
        refine (HF.out _ _).mono ?_
        rintro e w' ⟨rfl, rfl⟩
        rw [HH.out]
        go_wp2
        go_roundw
        case rel => exact ⟨k + 1, by omega, R1.all_snoc h HN.out HH.out, by go_num, trivial⟩
        case measure => simp [intOf]; omega
      | false =>
        have HH := Lib.hid hh
        clear hh
        have hts := CM.take_all HN.out (fun c hc => by
          rw [bl_get s k h] at hc
          injection hc with hc
          rw [← hc]; exact HH.out)
        have HT := Lib.hid hts
        clear hts
        go_wp2_with fail
        rw [HCF.out]
        refine (HF.out _ _).mono ?_
        rintro e w' ⟨rfl, rfl⟩
        rw [HH.out]
        go_wp2
        go_quiet (fail)
        go_wp2
        go_ret2
        exact ⟨by rw [HT.out.1, HT.out.2, ← bl_to, ← bl_from]; rfl, below_drawn _ _⟩
    · have hts := CM.take_all HN.out (fun c hc => by rw [List.getElem?_eq_none (by rw [bl_len]; omega)] at hc; cases hc)
      have HT := Lib.hid hts
      clear hts
      go_wp2_with fail
      go_quiet (fail)
      go_wp2
      go_ret2
      exact ⟨by rw [HT.out.1, HT.out.2, ← bl_to, ← bl_from]; rfl, below_drawn _ _⟩
end Go.Proofs.YtfphcecjhdkcoaaGreatDoor
/-
The walk of the program's Compare of two versions.
-/
namespace Go.Proofs.YtfphcecjhdkcoaaGreatDoor
open Go.RowKit
theorem isNaNs_any (s : ByteArray) (w : World) : Calls Tryz.prog 139 #[.string s] w fun e w' => e = .returned (.bool false) ∧ w = w' := by
  go_enter Tryz.func139, Tryz.ntmps139
  go_wp2
  go_ret
  exact ⟨rfl, rfl⟩
namespace CM
theorem less_lt : ∀ a b : Sp.Str, Op.bytesLess a b = Sp.strLt a b
  | [], [] => rfl
  | [], _ :: _ => rfl
  | _ :: _, [] => rfl
  | a :: x, b :: y => by
    unfold Op.bytesLess Sp.strLt
    rw [less_lt x y]
    by_cases h1 : a < b
    · simp [h1]
    · by_cases h2 : b < a
      · have : (a == b) = false := by simp; intro e; subst e; exact absurd h2 (UInt8.lt_irrefl _)
        simp [h1, h2, this]
      · have : a = b := UInt8.le_antisymm (UInt8.not_lt.1 h2) (UInt8.not_lt.1 h1)
        subst this; simp [h1]
theorem lt_conn {a b : Sp.Str} (h1 : Sp.strLt a b = false) (h2 : a ≠ b) : Sp.strLt b a = true := by
  rw [P3.lt_iff]
  rw [← Bool.not_eq_true, P3.lt_iff] at h1
  rcases List.le_iff_lt_or_eq.1 (List.not_lt.1 h1) with h | h
  · exact h
  · exact absurd h.symm h2
theorem cmpS_lt {a b : ByteArray} (h : Op.bytesLess a.toList b.toList = true) : Sp.cmpS (bl a) (bl b) = -1 := by
  rw [toList_bl, toList_bl, less_lt] at h
  unfold Sp.cmpS; rw [if_pos h]
theorem cmpS_gt {a b : ByteArray} (h : Op.bytesLess a.toList b.toList = false) (h2 : (!a.toList == b.toList) = true) : Sp.cmpS (bl a) (bl b) = 1 := by
  rw [toList_bl, toList_bl, less_lt] at h
  rw [toList_bl, toList_bl] at h2
  unfold Sp.cmpS; rw [if_neg (by rw [h]; simp), if_pos (lt_conn h (by simpa using h2))]
theorem cmpS_eq {a b : ByteArray} (_h : Op.bytesLess a.toList b.toList = false) (h2 : (!a.toList == b.toList) = false) : Sp.cmpS (bl a) (bl b) = 0 := by
  rw [toList_bl, toList_bl] at h2
  have e : bl a = bl b := by simpa using h2
  unfold Sp.cmpS; rw [e, V4.strLt_irrefl]; rfl
end CM
theorem cmpS_any (a b : ByteArray) (w : World) : Calls Tryz.prog 92 #[.string a, .string b] w fun e w' => e = .returned (.int .i64 (Sp.cmpS (bl a) (bl b))) ∧ w = w' := by
  go_enter Tryz.func92, Tryz.ntmps92
  go_wp2_with fail
  refine (isNaNs_any _ _).mono ?_
  rintro e w' ⟨rfl, rfl⟩
  go_wp2_with fail
  refine (isNaNs_any _ _).mono ?_
  rintro e w' ⟨rfl, rfl⟩
  go_wp2
  · go_ret
    exact ⟨ret_int (CM.cmpS_lt (by assumption)).symm, rfl⟩
  · go_ret
    exact ⟨ret_int (CM.cmpS_gt (by assumption) (by assumption)).symm, rfl⟩
  · go_ret
    exact ⟨ret_int (CM.cmpS_eq (by assumption) (by assumption)).symm, rfl⟩
theorem or2_any (b : Nat) (x y : Int) (w : World) (h0 : w.cell? ⟨b, 0, none⟩ = some (.int .i64 x)) (h1 : w.cell? ⟨b, 1, none⟩ = some (.int .i64 y)) : Calls Tryz.prog 91 #[.slice (some ⟨b, 0, none⟩) 2 2] w fun e w' => e = .returned (.int .i64 (if x = 0 then y else x)) ∧ w = w' := by
  by_cases hx : x = 0
  · subst hx
    by_cases hy : y = 0
    · subst hy
      go_enter Tryz.func91, Tryz.ntmps91
      go_wp2
      refine wp_loop_rounds 3 ?_
      rw [rounds_succ]
      go_wp2
      rw [rounds_succ]
      go_wp2
      rw [rounds_succ]
      go_wp2
      go_ret
      exact ⟨rfl, rfl⟩
    · have hy' : (y != 0) = true := by simpa using hy
      go_enter Tryz.func91, Tryz.ntmps91
      go_wp2
      refine wp_loop_rounds 2 ?_
      rw [rounds_succ]
      go_wp2
      rw [rounds_succ]
      go_wp2
      go_ret
      exact ⟨rfl, rfl⟩
  · have hx' : (x != 0) = true := by simpa using hx
    go_enter Tryz.func91, Tryz.ntmps91
    go_wp2
    refine wp_loop_rounds 1 ?_
    rw [rounds_succ]
    go_wp2
    go_ret
    exact ⟨rfl, rfl⟩
end Go.Proofs.YtfphcecjhdkcoaaGreatDoor
/-
The walk of the program's Compare of two versions, whole.
-/
namespace Go.Proofs.YtfphcecjhdkcoaaGreatDoor
open Go.RowKit
namespace CM
def strLen : Value → Nat
  | .string s => s.size
  | _ => 0
theorem cmpI (x y : Int) : Lib.compareInt x y = Sp.sgn (x - y) := by
  unfold Lib.compareInt Sp.sgn
  repeat' split
  all_goals first | rfl | omega
theorem wAt_drop (s : Sp.Str) (i : Nat) : wAt s i = match s.drop i with
  | c :: _ => Sp.weight c
  | [] => 0 := by
  unfold wAt
  by_cases h : i < s.length
  · rw [List.getElem?_eq_getElem h, List.drop_eq_getElem_cons h]
  · rw [List.getElem?_eq_none (by omega), List.drop_eq_nil_of_le (by omega)]
theorem diff_same {x y : Sp.Str} {i : Nat} (hi : i < x.length ∨ i < y.length) (h : Sp.sgn (wAt x i - wAt y i) = 0) : Sp.diffW Sp.weight (x.drop i) (y.drop i) = Sp.diffW Sp.weight (x.drop (i + 1)) (y.drop (i + 1)) := by
  rw [wAt_drop, wAt_drop] at h
  have e : ∀ s : Sp.Str, s.drop (i + 1) = (s.drop i).drop 1 := fun s => by rw [List.drop_drop]
  rw [e x, e y]
  cases hx : x.drop i with
  | nil =>
    cases hy : y.drop i with
    | nil =>
      have h1 := List.drop_eq_nil_iff.1 hx
      have h2 := List.drop_eq_nil_iff.1 hy
      omega
    | cons b r => rw [hx, hy] at h; simp only at h; rw [Sp.diffW_nc, if_pos h]; rfl
  | cons a q =>
    cases hy : y.drop i with
    | nil => rw [hx, hy] at h; simp only [Int.sub_zero] at h; rw [Sp.diffW, if_pos h]; rfl
    | cons b r => rw [hx, hy] at h; simp only at h; rw [Sp.diffW, if_pos h]; rfl
theorem diff_other {x y : Sp.Str} {i : Nat} (hi : i < x.length ∨ i < y.length) (h : Sp.sgn (wAt x i - wAt y i) ≠ 0) : Sp.diffW Sp.weight (x.drop i) (y.drop i) = Sp.sgn (wAt x i - wAt y i) := by
  rw [wAt_drop, wAt_drop] at h ⊢
  cases hx : x.drop i with
  | nil =>
    cases hy : y.drop i with
    | nil =>
      have h1 := List.drop_eq_nil_iff.1 hx
      have h2 := List.drop_eq_nil_iff.1 hy
      omega
    | cons b r => rw [hx, hy] at h; simp only at h ⊢; rw [Sp.diffW_nc, if_neg h]
  | cons a q =>
    cases hy : y.drop i with
    | nil => rw [hx, hy] at h; simp only [Int.sub_zero] at h ⊢; rw [Sp.diffW, if_neg h]
    | cons b r => rw [hx, hy] at h; simp only at h ⊢; rw [Sp.diffW, if_neg h]
theorem diff_end {x y : Sp.Str} {i : Nat} (h1 : x.length ≤ i) (h2 : y.length ≤ i) : Sp.diffW Sp.weight (x.drop i) (y.drop i) = 0 := by
  rw [List.drop_eq_nil_of_le h1, List.drop_eq_nil_of_le h2]; rfl
theorem bare_eq (s : Sp.Str) : Lib.trimLeftS s [48] = Sp.bare s := by
  unfold Lib.trimLeftS Sp.bare
  congr 1
  funext c
  rw [Bool.eq_iff_iff]; simp
theorem diffD_eq (x y : Sp.Str) : (if Lib.compareInt ((Sp.bare x).length : Int) (Sp.bare y).length = 0 then Sp.cmpS (Sp.bare x) (Sp.bare y) else Lib.compareInt ((Sp.bare x).length : Int) (Sp.bare y).length) = Sp.diffD x y := by
  rw [cmpI]
  unfold Sp.diffD
  by_cases h : (Sp.bare x).length = (Sp.bare y).length
  · rw [h, Int.sub_self, V4.sgn_zero, if_pos rfl, if_pos rfl]
  · rw [if_neg h, if_neg]
    unfold Sp.sgn
    repeat' split
    all_goals omega
theorem cmp_nil : Sp.cmp [] [] = 0 := rfl
theorem drop_sum {x y : Sp.Str} (h : (x.isEmpty && y.isEmpty) = false) : ((x.dropWhile Sp.notDig).dropWhile Sp.isDig).length + ((y.dropWhile Sp.notDig).dropWhile Sp.isDig).length < x.length + y.length := by
  have h1 := V4.drop_le x
  have h2 := V4.drop_le y
  by_cases hx : x = []
  · have hy : y ≠ [] := by rintro rfl; rw [hx] at h; simp at h
    have := V4.drop_lt hy; omega
  · have := V4.drop_lt hx; omega
theorem drops (x : Sp.Str) : ((x.dropWhile Sp.notDig).dropWhile Sp.isDig).length ≤ x.length := V4.drop_le x
end CM
theorem cf85 (args : Array Value) (w : World) : (callFunc 85 args).run Tryz.prog w = .ok (.enter 85 args) w := by kernel_rfl
theorem cf86 (args : Array Value) (w : World) : (callFunc 86 args).run Tryz.prog w = .ok (.enter 86 args) w := by kernel_rfl
theorem cf87 (args : Array Value) (w : World) : (callFunc 87 args).run Tryz.prog w = .ok (.enter 87 args) w := by kernel_rfl
theorem split85 (s : ByteArray) (w : World) (hs : s.size ≤ 4611686018427387904) : Calls Tryz.prog 84 #[.string s, .func (.func 85) #[] #[]] w fun e w' => e = .returned (.tuple #[.string ⟨((bl s).takeWhile Sp.notDig).toArray⟩, .string ⟨((bl s).dropWhile Sp.notDig).toArray⟩]) ∧ Below w.heap.size w w' :=
  vsplit_any 85 Sp.notDig (notDig_any 85 (.inl rfl)) cf85 s w hs
theorem split87 (s : ByteArray) (w : World) (hs : s.size ≤ 4611686018427387904) : Calls Tryz.prog 84 #[.string s, .func (.func 87) #[] #[]] w fun e w' => e = .returned (.tuple #[.string ⟨((bl s).takeWhile Sp.notDig).toArray⟩, .string ⟨((bl s).dropWhile Sp.notDig).toArray⟩]) ∧ Below w.heap.size w w' :=
  vsplit_any 87 Sp.notDig (notDig_any 87 (.inr rfl)) cf87 s w hs
theorem split86 (s : ByteArray) (w : World) (hs : s.size ≤ 4611686018427387904) : Calls Tryz.prog 84 #[.string s, .func (.func 86) #[] #[]] w fun e w' => e = .returned (.tuple #[.string ⟨((bl s).takeWhile Sp.isDig).toArray⟩, .string ⟨((bl s).dropWhile Sp.isDig).toArray⟩]) ∧ Below w.heap.size w w' :=
  vsplit_any 86 Sp.isDig digit_any cf86 s w hs
set_option maxRecDepth 100000 in
set_option maxHeartbeats 1000000 in
theorem cmp_any (s t : ByteArray) (w : World) (hs : s.size ≤ 1099511627776) (ht : t.size ≤ 1099511627776) :
    Calls Tryz.prog 57 #[.string s, .string t] w fun e w' => e = .returned (.int .i64 (Sp.cmp (bl s) (bl t))) ∧ Below w.heap.size w w' := by
  generalize hR : Sp.cmp (bl s) (bl t) = R
  have HR := Lib.hid hR
  clear hR
  obtain ⟨B, hB⟩ : ∃ B, w.heap.size = B := ⟨_, rfl⟩
  rw [hB]
  have HB := Lib.hid hB
  clear hB
  go_enter Tryz.func57, Tryz.ntmps57
  go_wp2
  go_loopw [0, 1] (fun a b wr => ∃ x y : Sp.Str, a = .string ⟨x.toArray⟩ ∧ b = .string ⟨y.toArray⟩ ∧ x.length ≤ 1099511627776 ∧ y.length ≤ 1099511627776 ∧ Sp.cmp x y = R ∧ Below B w wr) (fun a b _ => CM.strLen a + CM.strLen b)
  case atStart => exact ⟨bl s, bl t, by rw [mk_bl], by rw [mk_bl], by rw [bl_len]; exact hs, by rw [bl_len]; exact ht, HR.out, Below.refl _ _⟩
  case round =>
    obtain ⟨x, y, rfl, rfl, hx, hy, hcmp, hbel⟩ := hrel
    have hbs : B ≤ wr.heap.size := by rw [← HB.out]; exact hbel.size
    cases hxe : x.isEmpty with
    | true =>
      cases hye : y.isEmpty with
      | true =>
        have hr : R = 0 := by
          rw [← hcmp, List.isEmpty_iff.1 hxe, List.isEmpty_iff.1 hye]; rfl
        go_wp2_with fail
        go_ret
        exact ⟨ret_int hr.symm, hbel⟩
      | false =>
        have hemp : (x.isEmpty && y.isEmpty) = false := by rw [hye]; simp
        go_wp2_with fail
        refine (split85 _ _ (by rw [← bl_len]; first | (rw [bl_mk]; omega) | decide)).mono ?_
        rintro e w1 ⟨rfl, hb1⟩
        rw [show bl ⟨x.toArray⟩ = x from rfl]
        go_wp2_with fail
        refine (split87 _ _ (by rw [← bl_len, bl_mk]; omega)).mono ?_
        rintro e w2 ⟨rfl, hb2⟩
        rw [bl_mk]
        have hstep := V4.cmp_step x y hemp
        have hd1 := CM.drops x
        have hd2 := CM.drops y
        have hlt : ((x.dropWhile Sp.notDig).dropWhile Sp.isDig).length + ((y.dropWhile Sp.notDig).dropWhile Sp.isDig).length < x.length + y.length := CM.drop_sum hemp
        have hx1 : (x.takeWhile Sp.notDig).length ≤ x.length := (List.takeWhile_prefix _).length_le
        have hy1 : (y.takeWhile Sp.notDig).length ≤ y.length := (List.takeWhile_prefix _).length_le
        have hx2 : (x.dropWhile Sp.notDig).length ≤ x.length := (List.dropWhile_suffix _).length_le
        have hy2 : (y.dropWhile Sp.notDig).length ≤ y.length := (List.dropWhile_suffix _).length_le
        generalize x.takeWhile Sp.notDig = x1 at *
        generalize y.takeWhile Sp.notDig = y1 at *
        generalize x.dropWhile Sp.notDig = x2 at *
        generalize y.dropWhile Sp.notDig = y2 at *
        rw [hcmp] at hstep
        have HS := Lib.hid hstep
        clear hstep hcmp
        have hs1 := hb1.size
        have hs2 := hb2.size
        have hbw : Below B w w2 := hbel.trans ((hb1.mono hbs).trans (hb2.mono (by omega)))
        clear hb1 hb2
        by_cases hmax : x1.length ≤ y1.length
        all_goals
          go_wp2_with fail
          go_loopw [31] (fun i wi => ∃ k : Nat, i = .int .i64 k ∧ (k ≤ x1.length ∨ k ≤ y1.length) ∧ Sp.diffW Sp.weight x1 y1 = Sp.diffW Sp.weight (x1.drop k) (y1.drop k) ∧ wi = w2) (fun i _ => x1.length + y1.length + 1 - (intOf i).toNat)
          case atStart => exact ⟨0, rfl, .inl (Nat.zero_le _), rfl, rfl⟩
          case round =>
            obtain ⟨k, rfl, hk, hdiff, rfl⟩ := hrel
            have HD := Lib.hid hdiff
            clear hdiff
            by_cases h : k < max x1.length y1.length
            · have hkl : k < x1.length ∨ k < y1.length := by omega
              by_cases ho : Sp.sgn (CM.wAt x1 k - CM.wAt y1 k) = 0
              · have HO := Lib.hid ho
                clear ho
                have hkk : k < (if x1.length ≤ y1.length then y1.length else x1.length) := by split <;> omega
                go_wp2_with fail
                refine (at_any _ _ _).mono ?_
                rintro e w3 ⟨rfl, rfl⟩
                rw [bl_mk]
                go_wp2_with fail
                refine (at_any _ _ _).mono ?_
                rintro e w3 ⟨rfl, rfl⟩
                rw [bl_mk]
                go_wp2_with fail
                refine (cmpInt_any _ _ _).mono ?_
                rintro e w3 ⟨rfl, rfl⟩
                rw [CM.cmpI, HO.out]
                go_wp2
                go_roundw
                case rel => exact ⟨k + 1, by go_num, by omega, by rw [HD.out, CM.diff_same hkl HO.out], trivial⟩
                case measure => simp [intOf]; omega
              · have HO := Lib.hid ho
                have hob : (Sp.sgn (CM.wAt x1 k - CM.wAt y1 k) != 0) = true := by simpa using ho
                clear ho
                go_wp2_with fail
                refine (at_any _ _ _).mono ?_
                rintro e w3 ⟨rfl, rfl⟩
                rw [bl_mk]
                go_wp2_with fail
                refine (at_any _ _ _).mono ?_
                rintro e w3 ⟨rfl, rfl⟩
                rw [bl_mk]
                go_wp2_with fail
                refine (cmpInt_any _ _ _).mono ?_
                rintro e w3 ⟨rfl, rfl⟩
                rw [CM.cmpI]
                go_wp2
                go_ret
                exact ⟨ret_int (by rw [HS.out, HD.out, CM.diff_other hkl HO.out, if_neg HO.out]), hbw⟩
            · have hd0 : Sp.diffW Sp.weight x1 y1 = 0 := by rw [HD.out]; exact CM.diff_end (by omega) (by omega)
              have hS2 := HS.out
              rw [hd0, if_pos rfl] at hS2
              clear HS HD hd0
              have HS := Lib.hid hS2
              clear hS2
              go_wp2_with fail
              refine (split86 _ _ (by rw [← bl_len, bl_mk]; omega)).mono ?_
              rintro e w3 ⟨rfl, hb3⟩
              rw [bl_mk]
              go_wp2_with fail
              refine (split86 _ _ (by rw [← bl_len, bl_mk]; omega)).mono ?_
              rintro e w4 ⟨rfl, hb4⟩
              rw [bl_mk]
              go_wp2_with fail
              refine (trimLeft_any _ _ _ (by decide) (W1.ascii_of (by decide))).mono ?_
              rintro e w5 ⟨rfl, hb5⟩
              rw [bl_mk, show bl ⟨#[48]⟩ = [48] from rfl, CM.bare_eq]
              go_wp2_with fail
              refine (trimLeft_any _ _ _ (by decide) (W1.ascii_of (by decide))).mono ?_
              rintro e w6 ⟨rfl, hb6⟩
              rw [bl_mk, show bl ⟨#[48]⟩ = [48] from rfl, CM.bare_eq]
              have hs3 := hb3.size
              have hs4 := hb4.size
              have hs5 := hb5.size
              have hs6 := hb6.size
              have hbw6 : Below B w w6 := hbw.trans ((hb3.mono (by omega)).trans ((hb4.mono (by omega)).trans ((hb5.mono (by omega)).trans (hb6.mono (by omega)))))
              clear hb3 hb4 hb5 hb6
              go_wp2_with fail
              refine (cmpInt_any _ _ _).mono ?_
              rintro e w7 ⟨rfl, rfl⟩
              go_wp2_with fail
              refine (cmpS_any _ _ _).mono ?_
              rintro e w7 ⟨rfl, rfl⟩
              rw [bl_mk, bl_mk]
              go_wp2_with fail
              refine (or2_any _ _ _ _ (by rw [World.cell?_alloc_at _ _ _ _ rfl]; rfl) (by rw [World.cell?_alloc_at _ _ _ _ rfl]; rfl)).mono ?_
              rintro e w7 ⟨rfl, rfl⟩
              rw [CM.diffD_eq]
              by_cases hd : Sp.diffD (x2.takeWhile Sp.isDig) (y2.takeWhile Sp.isDig) = 0
              · have hS3 := HS.out
                rw [if_pos hd] at hS3
                have HS3 := Lib.hid hS3
                clear hS3
                rw [hd]
                clear hd
                go_wp2
                go_roundw
                case rel => exact ⟨_, _, rfl, rfl, by omega, by omega, HS3.out.symm, hbw6.alloc (by omega) _⟩
                case measure => simp only [CM.strLen, ← bl_len, bl_mk]; exact hlt
              · have hS3 := HS.out
                rw [if_neg hd] at hS3
                have HS3 := Lib.hid hS3
                have hob : (Sp.diffD (x2.takeWhile Sp.isDig) (y2.takeWhile Sp.isDig) != 0) = true := by simpa using hd
                clear hS3 hd
                go_wp2
                go_ret
                exact ⟨ret_int HS3.out.symm, hbw6.alloc (by omega) _⟩
    | false =>
      have hemp : (x.isEmpty && y.isEmpty) = false := by rw [hxe]; simp
      go_wp2_with fail
      refine (split85 _ _ (by rw [← bl_len]; first | (rw [bl_mk]; omega) | decide)).mono ?_
      rintro e w1 ⟨rfl, hb1⟩
      rw [show bl ⟨x.toArray⟩ = x from rfl]
      go_wp2_with fail
      refine (split87 _ _ (by rw [← bl_len, bl_mk]; omega)).mono ?_
      rintro e w2 ⟨rfl, hb2⟩
      rw [bl_mk]
      have hstep := V4.cmp_step x y hemp
      have hd1 := CM.drops x
      have hd2 := CM.drops y
      have hlt : ((x.dropWhile Sp.notDig).dropWhile Sp.isDig).length + ((y.dropWhile Sp.notDig).dropWhile Sp.isDig).length < x.length + y.length := CM.drop_sum hemp
      have hx1 : (x.takeWhile Sp.notDig).length ≤ x.length := (List.takeWhile_prefix _).length_le
      have hy1 : (y.takeWhile Sp.notDig).length ≤ y.length := (List.takeWhile_prefix _).length_le
      have hx2 : (x.dropWhile Sp.notDig).length ≤ x.length := (List.dropWhile_suffix _).length_le
      have hy2 : (y.dropWhile Sp.notDig).length ≤ y.length := (List.dropWhile_suffix _).length_le
      generalize x.takeWhile Sp.notDig = x1 at *
      generalize y.takeWhile Sp.notDig = y1 at *
      generalize x.dropWhile Sp.notDig = x2 at *
      generalize y.dropWhile Sp.notDig = y2 at *
      rw [hcmp] at hstep
      have HS := Lib.hid hstep
      clear hstep hcmp
      have hs1 := hb1.size
      have hs2 := hb2.size
      have hbw : Below B w w2 := hbel.trans ((hb1.mono hbs).trans (hb2.mono (by omega)))
      clear hb1 hb2
      by_cases hmax : x1.length ≤ y1.length
      all_goals
        go_wp2_with fail
        go_loopw [31] (fun i wi => ∃ k : Nat, i = .int .i64 k ∧ (k ≤ x1.length ∨ k ≤ y1.length) ∧ Sp.diffW Sp.weight x1 y1 = Sp.diffW Sp.weight (x1.drop k) (y1.drop k) ∧ wi = w2) (fun i _ => x1.length + y1.length + 1 - (intOf i).toNat)
        case atStart => exact ⟨0, rfl, .inl (Nat.zero_le _), rfl, rfl⟩
        case round =>
          obtain ⟨k, rfl, hk, hdiff, rfl⟩ := hrel
          have HD := Lib.hid hdiff
          clear hdiff
          by_cases h : k < max x1.length y1.length
          · have hkl : k < x1.length ∨ k < y1.length := by omega
            by_cases ho : Sp.sgn (CM.wAt x1 k - CM.wAt y1 k) = 0
            · have HO := Lib.hid ho
              clear ho
              have hkk : k < (if x1.length ≤ y1.length then y1.length else x1.length) := by split <;> omega
              go_wp2_with fail
              refine (at_any _ _ _).mono ?_
              rintro e w3 ⟨rfl, rfl⟩
              rw [bl_mk]
              go_wp2_with fail
              refine (at_any _ _ _).mono ?_
              rintro e w3 ⟨rfl, rfl⟩
              rw [bl_mk]
              go_wp2_with fail
              refine (cmpInt_any _ _ _).mono ?_
              rintro e w3 ⟨rfl, rfl⟩
              rw [CM.cmpI, HO.out]
              go_wp2
              go_roundw
              case rel => exact ⟨k + 1, by go_num, by omega, by rw [HD.out, CM.diff_same hkl HO.out], trivial⟩
              case measure => simp [intOf]; omega
            · have HO := Lib.hid ho
              have hob : (Sp.sgn (CM.wAt x1 k - CM.wAt y1 k) != 0) = true := by simpa using ho
              clear ho
              go_wp2_with fail
              refine (at_any _ _ _).mono ?_
              rintro e w3 ⟨rfl, rfl⟩
              rw [bl_mk]
              go_wp2_with fail
              refine (at_any _ _ _).mono ?_
              rintro e w3 ⟨rfl, rfl⟩
              rw [bl_mk]
              go_wp2_with fail
              refine (cmpInt_any _ _ _).mono ?_
              rintro e w3 ⟨rfl, rfl⟩
              rw [CM.cmpI]
              go_wp2
              go_ret
              exact ⟨ret_int (by rw [HS.out, HD.out, CM.diff_other hkl HO.out, if_neg HO.out]), hbw⟩
          · have hd0 : Sp.diffW Sp.weight x1 y1 = 0 := by rw [HD.out]; exact CM.diff_end (by omega) (by omega)
            have hS2 := HS.out
            rw [hd0, if_pos rfl] at hS2
            clear HS HD hd0
            have HS := Lib.hid hS2
            clear hS2
            go_wp2_with fail
            refine (split86 _ _ (by rw [← bl_len, bl_mk]; omega)).mono ?_
            rintro e w3 ⟨rfl, hb3⟩
            rw [bl_mk]
            go_wp2_with fail
            refine (split86 _ _ (by rw [← bl_len, bl_mk]; omega)).mono ?_
            rintro e w4 ⟨rfl, hb4⟩
            rw [bl_mk]
            go_wp2_with fail
            refine (trimLeft_any _ _ _ (by decide) (W1.ascii_of (by decide))).mono ?_
            rintro e w5 ⟨rfl, hb5⟩
            rw [bl_mk, show bl ⟨#[48]⟩ = [48] from rfl, CM.bare_eq]
            go_wp2_with fail
            refine (trimLeft_any _ _ _ (by decide) (W1.ascii_of (by decide))).mono ?_
            rintro e w6 ⟨rfl, hb6⟩
            rw [bl_mk, show bl ⟨#[48]⟩ = [48] from rfl, CM.bare_eq]
            have hs3 := hb3.size
            have hs4 := hb4.size
            have hs5 := hb5.size
            have hs6 := hb6.size
            have hbw6 : Below B w w6 := hbw.trans ((hb3.mono (by omega)).trans ((hb4.mono (by omega)).trans ((hb5.mono (by omega)).trans (hb6.mono (by omega)))))
            clear hb3 hb4 hb5 hb6
            go_wp2_with fail
            refine (cmpInt_any _ _ _).mono ?_
            rintro e w7 ⟨rfl, rfl⟩
            go_wp2_with fail
            refine (cmpS_any _ _ _).mono ?_
            rintro e w7 ⟨rfl, rfl⟩
            rw [bl_mk, bl_mk]
            go_wp2_with fail
            refine (or2_any _ _ _ _ (by rw [World.cell?_alloc_at _ _ _ _ rfl]; rfl) (by rw [World.cell?_alloc_at _ _ _ _ rfl]; rfl)).mono ?_
            rintro e w7 ⟨rfl, rfl⟩
            rw [CM.diffD_eq]
            by_cases hd : Sp.diffD (x2.takeWhile Sp.isDig) (y2.takeWhile Sp.isDig) = 0
            · have hS3 := HS.out
              rw [if_pos hd] at hS3
              have HS3 := Lib.hid hS3
              clear hS3
              rw [hd]
              clear hd
              go_wp2
              go_roundw
              case rel => exact ⟨_, _, rfl, rfl, by omega, by omega, HS3.out.symm, hbw6.alloc (by omega) _⟩
              case measure => simp only [CM.strLen, ← bl_len, bl_mk]; exact hlt
            · have hS3 := HS.out
              rw [if_neg hd] at hS3
              have HS3 := Lib.hid hS3
              have hob : (Sp.diffD (x2.takeWhile Sp.isDig) (y2.takeWhile Sp.isDig) != 0) = true := by simpa using hd
              clear hS3 hd
              go_wp2
              go_ret
              exact ⟨ret_int HS3.out.symm, hbw6.alloc (by omega) _⟩
end Go.Proofs.YtfphcecjhdkcoaaGreatDoor
/-
The walk of the program's fits: is a package what is asked for?
-/
namespace Go.Proofs.YtfphcecjhdkcoaaGreatDoor
open Go.RowKit
theorem fits_nil (n s v : ByteArray) (w : World) : Calls Tryz.prog 167 #[.agg #[.string n, .string s, .string v], .pointer none] w fun e w' => e = .returned (.bool false) ∧ Below w.heap.size w w' := by
  go_enter Tryz.func167, Tryz.ntmps167
  go_wp2_with fail
  go_quiet (fail)
  go_wp2
  go_ret
  exact ⟨rfl, below_drewN ((Below.refl _ _).alloc (Nat.le_refl _) _) _⟩
namespace FT
theorem fits_name {c : Sp.Ch} {p : Sp.Pk} (h : (p.name == c.name) = false) : Sp.fits c p = false := by
  unfold Sp.fits
  have : (c.name == p.name) = false := by
    rw [← Bool.not_eq_true] at h ⊢
    intro e; exact h (by rw [eq_of_beq e]; exact BEq.rfl)
  rw [this]; rfl
theorem fits_sign {c : Sp.Ch} {p : Sp.Pk} (h : (p.name == c.name) = true) : Sp.fits c p = Sp.signOk c.sign (Sp.cmp p.ver c.ver) := by
  unfold Sp.fits
  have : (c.name == p.name) = true := by rw [eq_of_beq h]; exact BEq.rfl
  rw [this]; rfl
theorem sgn1 {s : Sp.Str} {o : Int} (h : (s == [60, 60]) = true) : Sp.signOk s o = decide (o < 0) := by unfold Sp.signOk; rw [if_pos h]
theorem sgn2 {s : Sp.Str} {o : Int} (h1 : (s == [60, 60]) = false) (h : (s == [60, 61]) = true) : Sp.signOk s o = decide (o ≤ 0) := by unfold Sp.signOk; rw [if_neg (by rw [h1]; simp), if_pos h]
theorem sgn3 {s : Sp.Str} {o : Int} (h1 : (s == [60, 60]) = false) (h2 : (s == [60, 61]) = false) (h : (s == [61]) = true) : Sp.signOk s o = decide (o = 0) := by unfold Sp.signOk; rw [if_neg (by rw [h1]; simp), if_neg (by rw [h2]; simp), if_pos h]
theorem sgn4 {s : Sp.Str} {o : Int} (h1 : (s == [60, 60]) = false) (h2 : (s == [60, 61]) = false) (h3 : (s == [61]) = false) (h : (s == [62, 61]) = true) : Sp.signOk s o = decide (0 ≤ o) := by unfold Sp.signOk; rw [if_neg (by rw [h1]; simp), if_neg (by rw [h2]; simp), if_neg (by rw [h3]; simp), if_pos h]
theorem sgn5 {s : Sp.Str} {o : Int} (h1 : (s == [60, 60]) = false) (h2 : (s == [60, 61]) = false) (h3 : (s == [61]) = false) (h4 : (s == [62, 61]) = false) (h : (s == [62, 62]) = true) : Sp.signOk s o = decide (0 < o) := by unfold Sp.signOk; rw [if_neg (by rw [h1]; simp), if_neg (by rw [h2]; simp), if_neg (by rw [h3]; simp), if_neg (by rw [h4]; simp), if_pos h]
theorem sgn6 {s : Sp.Str} {o : Int} (h1 : (s == [60, 60]) = false) (h2 : (s == [60, 61]) = false) (h3 : (s == [61]) = false) (h4 : (s == [62, 61]) = false) (h5 : (s == [62, 62]) = false) : Sp.signOk s o = true := by unfold Sp.signOk; rw [if_neg (by rw [h1]; simp), if_neg (by rw [h2]; simp), if_neg (by rw [h3]; simp), if_neg (by rw [h4]; simp), if_neg (by rw [h5]; simp)]
end FT
theorem fits_other (c : Sp.Ch) (b : Nat) (p : Sp.Pk) (w : World) (hb : b < w.heap.size) (h2 : w.cell? ⟨b, 2, none⟩ = some (sv p.name)) (hn : (p.name == c.name) = false) :
    Calls Tryz.prog 167 #[.agg #[sv c.name, sv c.sign, sv c.ver], .pointer (some ⟨b, 0, none⟩)] w fun e w' => e = .returned (.bool (Sp.fits c p)) ∧ Below w.heap.size w w' := by
  rw [FT.fits_name hn]
  unfold sv at h2 ⊢
  have hn' : (!(p.name == c.name)) = true := by rw [hn]; rfl
  go_enter Tryz.func167, Tryz.ntmps167
  go_wp2_with fail
  go_quiet (fail)
  go_wp2
  go_ret
  exact ⟨rfl, below_drewN ((Below.refl _ _).alloc (Nat.le_refl _) _) _⟩
set_option maxRecDepth 100000 in
set_option maxHeartbeats 1000000 in
theorem fits_same (c : Sp.Ch) (b : Nat) (p : Sp.Pk) (w : World) (hb : b < w.heap.size) (h2 : w.cell? ⟨b, 2, none⟩ = some (sv p.name)) (h3 : w.cell? ⟨b, 3, none⟩ = some (sv p.ver)) (hn : (p.name == c.name) = true) (hv : p.ver.length < 1000) (hc : c.ver.length < 1000) :
    Calls Tryz.prog 167 #[.agg #[sv c.name, sv c.sign, sv c.ver], .pointer (some ⟨b, 0, none⟩)] w fun e w' => e = .returned (.bool (Sp.fits c p)) ∧ Below w.heap.size w w' := by
  rw [FT.fits_sign hn]
  generalize hS : Sp.signOk c.sign (Sp.cmp p.ver c.ver) = R
  have HS := Lib.hid hS
  clear hS
  unfold sv at h2 h3 ⊢
  have hn' : (!(p.name == c.name)) = false := by rw [hn]; rfl
  have hcmp := fun (W : World) => cmp_any ⟨p.ver.toArray⟩ ⟨c.ver.toArray⟩ W (by rw [← bl_len, bl_mk]; omega) (by rw [← bl_len, bl_mk]; omega)
  simp only [bl_mk] at hcmp
  have HC := Lib.hid hcmp
  clear hcmp
  go_enter Tryz.func167, Tryz.ntmps167
  go_wp2_with fail
  go_quiet (fail)
  go_wp2_with fail
  have hb0 : Below w.heap.size w ((w.alloc (.cells #[.string ⟨c.name.toArray⟩, .string ⟨c.sign.toArray⟩, .string ⟨c.ver.toArray⟩] 187)).drewN nq) := below_drewN ((Below.refl _ _).alloc (Nat.le_refl _) _) _
  have hg1 : ((w.alloc (.cells #[.string ⟨c.name.toArray⟩, .string ⟨c.sign.toArray⟩, .string ⟨c.ver.toArray⟩] 187)).drewN nq).cell? ⟨w.heap.size, 1, none⟩ = some (.string ⟨c.sign.toArray⟩) := by
    show (w.alloc _).cell? _ = _
    rw [World.cell?_alloc_at _ _ _ _ rfl]; rfl
  have hg2 : ((w.alloc (.cells #[.string ⟨c.name.toArray⟩, .string ⟨c.sign.toArray⟩, .string ⟨c.ver.toArray⟩] 187)).drewN nq).cell? ⟨w.heap.size, 2, none⟩ = some (.string ⟨c.ver.toArray⟩) := by
    show (w.alloc _).cell? _ = _
    rw [World.cell?_alloc_at _ _ _ _ rfl]; rfl
  have hgl : w.heap.size < ((w.alloc (.cells #[.string ⟨c.name.toArray⟩, .string ⟨c.sign.toArray⟩, .string ⟨c.ver.toArray⟩] 187)).drewN nq).heap.size := by show _ < (w.alloc _).heap.size; simp
  have h3' := ((bcell hb0).1 b 3 hb).trans h3
  clear h2 h3
  generalize (w.alloc (.cells #[.string ⟨c.name.toArray⟩, .string ⟨c.sign.toArray⟩, .string ⟨c.ver.toArray⟩] 187)).drewN nq = W2 at *
  have hb1 := hb0.size
  go_still_tail 6, (by kernel_rfl)
  change wpList _ _ _ _ _ (World.drew W2)
  go_wp2_with fail
  refine (HC.out _).mono ?_
  rintro e w3 ⟨rfl, hb3⟩
  have hs3 := (bcell (W := W2) ⟨hb3.os, hb3.tape, hb3.output, hb3.size, hb3.block⟩).1 w.heap.size 1 hgl
  have hg3 := hs3.trans hg1
  have hbw : Below w.heap.size w w3 := hb0.trans ((show Below W2.heap.size W2 w3 from ⟨hb3.os, hb3.tape, hb3.output, hb3.size, hb3.block⟩).mono hb1)
  clear hs3 hg1 hg2 hgl hb3 h3'
  generalize Sp.cmp p.ver c.ver = o at *
  cases s1 : (c.sign == [60, 60]) with
  | true =>
    have hR := HS.out
    rw [FT.sgn1 s1] at hR
    have HR := Lib.hid hR
    clear hR HS
    go_wp2
    go_ret
    exact ⟨ret_bool (by rw [← HR.out]), hbw⟩
  | false =>
    cases s2 : (c.sign == [60, 61]) with
    | true =>
      have hR := HS.out
      rw [FT.sgn2 s1 s2] at hR
      have HR := Lib.hid hR
      clear hR HS
      go_wp2
      go_ret
      exact ⟨ret_bool (by rw [← HR.out]), hbw⟩
    | false =>
      cases s3 : (c.sign == [61]) with
      | true =>
        have hR := HS.out
        rw [FT.sgn3 s1 s2 s3] at hR
        have HR := Lib.hid hR
        clear hR HS
        go_wp2
        go_ret
        exact ⟨ret_bool (by rw [← HR.out, Bool.eq_iff_iff]; simp), hbw⟩
      | false =>
        cases s4 : (c.sign == [62, 61]) with
        | true =>
          have hR := HS.out
          rw [FT.sgn4 s1 s2 s3 s4] at hR
          have HR := Lib.hid hR
          clear hR HS
          go_wp2
          go_ret
          exact ⟨ret_bool (by rw [← HR.out]), hbw⟩
        | false =>
          cases s5 : (c.sign == [62, 62]) with
          | true =>
            have hR := HS.out
            rw [FT.sgn5 s1 s2 s3 s4 s5] at hR
            have HR := Lib.hid hR
            clear hR HS
            go_wp2
            go_ret
            exact ⟨ret_bool (by rw [← HR.out]), hbw⟩
          | false =>
            have hR := HS.out
            rw [FT.sgn6 s1 s2 s3 s4 s5] at hR
            have HR := Lib.hid hR
            clear hR HS
            go_wp2
            go_ret
            exact ⟨ret_bool HR.out, hbw⟩
/-- Is a package that lies in memory what is asked for? -/
theorem fits_any (c : Sp.Ch) (b : Nat) (p : Sp.Pk) (w : World) (h : IsPack (fun x => x < w.heap.size) w b p) (hok : PkOk p) (hc : ChOk c) :
    Calls Tryz.prog 167 #[.agg #[sv c.name, sv c.sign, sv c.ver], .pointer (some ⟨b, 0, none⟩)] w fun e w' => e = .returned (.bool (Sp.fits c p)) ∧ Below w.heap.size w w' := by
  obtain ⟨nv, bv, fv, hS, h0, h1, h2, h3, h4, g0, g1, g2, n0, n1⟩ := h
  unfold ChOk at hc
  cases hn : (p.name == c.name) with
  | true => exact fits_same c b p w hS h2 h3 hn (by have := hok.ver; omega) (by omega)
  | false => exact fits_other c b p w hS h2 hn
end Go.Proofs.YtfphcecjhdkcoaaGreatDoor
namespace Go.Proofs.YtfphcecjhdkcoaaGreatDoor
open Go.RowKit Go.Maps
/-- The packages of a set. -/
def pks (L : List (Nat × Sp.Pk)) : List Sp.Pk := L.map (·.2)
theorem zero118 (w : World) : (zeroValue 118).run Tryz.prog w = .ok (.pointer none) w := by kernel_rfl
namespace MP
theorem kv_get {L : List (Nat × Sp.Pk)} (x : Sp.Str) : (getKV (kvOf L) x (.pointer none) = .pointer none ∧ ∀ q ∈ L, q.2.name ≠ x) ∨ ∃ q ∈ L, q.2.name = x ∧ getKV (kvOf L) x (.pointer none) = .pointer (some ⟨q.1, 0, none⟩) := by
  unfold getKV kvOf
  cases hf : (L.map fun q => (q.2.name, Value.pointer (some ⟨q.1, 0, none⟩))).find? (fun q => q.1 == x) with
  | none =>
    left
    refine ⟨rfl, fun q hq e => ?_⟩
    rw [List.find?_eq_none] at hf
    exact hf _ (List.mem_map.2 ⟨q, hq, rfl⟩) (by simpa using e)
  | some r =>
    right
    obtain ⟨q, hq, rfl⟩ := List.mem_map.1 (List.mem_of_find?_eq_some hf)
    exact ⟨q, hq, by simpa using List.find?_some hf, rfl⟩
/-- Of packages of which no two have one name: what is asked for is there just if the one of the name is it. -/
theorem any_fits {L : List (Nat × Sp.Pk)} (ha : L.Pairwise fun q r => q.2.name ≠ r.2.name) (c : Sp.Ch) {q : Nat × Sp.Pk} (hq : q ∈ L) (hn : q.2.name = c.name) : (pks L).any (Sp.fits c) = Sp.fits c q.2 := by
  rw [Bool.eq_iff_iff, List.any_eq_true]
  constructor
  · rintro ⟨p, hp, hf⟩
    obtain ⟨r, hr, rfl⟩ := List.mem_map.1 hp
    have hrn : r.2.name = c.name := by
      unfold Sp.fits at hf
      rw [Bool.and_eq_true] at hf
      exact (eq_of_beq hf.1).symm
    have := names_one ha r hr q hq (hrn.trans hn.symm)
    rw [← this]; exact hf
  · intro hf
    exact ⟨q.2, List.mem_map.2 ⟨q, hq, rfl⟩, hf⟩
theorem none_fits {L : List (Nat × Sp.Pk)} (c : Sp.Ch) (hn : ∀ q ∈ L, q.2.name ≠ c.name) : (pks L).any (Sp.fits c) = false := by
  rw [List.any_eq_false]
  intro p hp hf
  obtain ⟨r, hr, rfl⟩ := List.mem_map.1 hp
  unfold Sp.fits at hf
  rw [Bool.and_eq_true] at hf
  exact hn r hr (eq_of_beq hf.1).symm
end MP
/-- What fits is asked of the value that a set's map gives. -/
theorem fits_look (c : Sp.Ch) (mb : Nat) (L : List (Nat × Sp.Pk)) (w : World) (h : SetOn (fun b => b < w.heap.size) w mb L) (hc : ChOk c) (w2 : World) (hb : Below w.heap.size w w2) :
    Calls Tryz.prog 167 #[.agg #[sv c.name, sv c.sign, sv c.ver], getKV (kvOf L) c.name (.pointer none)] w2 fun e w' => e = .returned (.bool ((pks L).any (Sp.fits c))) ∧ Below w2.heap.size w2 w' := by
  rcases MP.kv_get (L := L) c.name with ⟨h1, h2⟩ | ⟨q, hq, h1, h2⟩
  · rw [h1, MP.none_fits c h2]
    exact fits_nil _ _ _ _
  · rw [h2, MP.any_fits h.2.1 c hq h1]
    obtain ⟨hp, hok⟩ := h.2.2 q hq
    exact fits_any c q.1 q.2 w2 ((hp.keep fun x hx => hb.block x hx).mono fun x hx => Nat.lt_of_lt_of_le hx hb.size) hok hc
set_option maxRecDepth 100000 in
set_option maxHeartbeats 1000000 in
theorem hasOne_any (c : Sp.Ch) (bx mb : Nat) (L : List (Nat × Sp.Pk)) (w : World) (h : SetOn (fun b => b < w.heap.size) w mb L) (hc : ChOk c) (hb : w.cell? ⟨bx, 0, none⟩ = some (.map (some mb))) :
    Calls Tryz.prog 181 #[.agg #[sv c.name, sv c.sign, sv c.ver], .pointer (some ⟨bx, 0, none⟩)] w fun e w' => e = .returned (.bool ((pks L).any (Sp.fits c))) ∧ Below w.heap.size w w' := by
  have hbw : bx < w.heap.size := by
    rcases Nat.lt_or_ge bx w.heap.size with h | h
    · exact h
    · simp [World.cell?, Array.getElem?_eq_none h] at hb
  have hfl := fits_look c mb L w h hc _ ((Below.refl _ w).alloc (Nat.le_refl _) (.cells #[sv c.name, sv c.sign, sv c.ver] 187))
  have hlk := (h.map.below (w' := w.alloc (.cells #[sv c.name, sv c.sign, sv c.ver] 187)) ((Below.refl _ w).alloc (Nat.le_refl _) _) h.map.lt).look Tryz.underlying140 zero118 c.name (by unfold ChOk at hc; unfold maxLen; omega)
  have HF := Lib.hid hfl
  clear hfl
  unfold sv at *
  go_enter Tryz.func181, Tryz.ntmps181
  go_wp2_with fail
  refine HF.out.mono ?_
  rintro e w1 ⟨rfl, hb1⟩
  go_wp2
  go_ret
  exact ⟨rfl, ((Below.refl _ w).alloc (Nat.le_refl _) _).trans (hb1.mono (by simp))⟩
namespace MP
theorem any_next {α : Type} {l : List α} {f : α → Bool} {k : Nat} (hk : k < l.length) (h : (l.take k).any f = false) (hf : f l[k] = false) : (l.take (k + 1)).any f = false := by
  rw [List.take_succ_eq_append_getElem hk, List.any_append, h]; simp [hf]
theorem any_hit {α : Type} {l : List α} {f : α → Bool} {k : Nat} (hk : k < l.length) (hf : f l[k] = true) : l.any f = true :=
  List.any_eq_true.2 ⟨_, List.getElem_mem hk, hf⟩
end MP
set_option maxRecDepth 100000 in
set_option maxHeartbeats 1000000 in
theorem index_any (v : Value) (g : List Sp.Ch) (bx mb : Nat) (L : List (Nat × Sp.Pk)) (w : World) (h : SetOn (fun b => b < w.heap.size) w mb L) (hg : ChOn (fun b => b < w.heap.size) w v g) (hgl : g.length ≤ 3) (hc : ∀ c ∈ g, ChOk c) (hb : w.cell? ⟨bx, 0, none⟩ = some (.map (some mb))) :
    Calls Tryz.prog 222 #[v, .func (.func 181) #[] #[.pointer (some ⟨bx, 0, none⟩)]] w fun e w' => (∃ i : Int, e = .returned (.int .i64 i) ∧ decide (0 ≤ i) = Sp.any1 g (pks L)) ∧ Below w.heap.size w w' := by
  obtain ⟨a, cap, rfl, hcap, hget⟩ := hg.get
  have hbw : bx < w.heap.size := by
    rcases Nat.lt_or_ge bx w.heap.size with h | h
    · exact h
    · simp [World.cell?, Array.getElem?_eq_none h] at hb
  have HG := Lib.hid hget
  have HS := Lib.hid h
  have HC := Lib.hid hc
  have HD := Lib.hid (show Sp.any1 g (pks L) = g.any fun c => (pks L).any (Sp.fits c) from rfl)
  clear hget hg h hc
  go_enter Tryz.func222, Tryz.ntmps222
  go_wp2
  go_loopw [8] (fun i wr => ∃ k : Nat, k ≤ g.length ∧ (g.take k).any (fun c => (pks L).any (Sp.fits c)) = false ∧ i = .int .i64 k ∧ Below w.heap.size w wr) (fun i _ => g.length + 1 - (intOf i).toNat)
  case atStart => exact ⟨0, Nat.zero_le _, rfl, rfl, Below.refl _ _⟩
  case round =>
    obtain ⟨k, hk, hn, rfl, hbel⟩ := hrel
    have HN := Lib.hid hn
    clear hn
    by_cases h : k < g.length
    · obtain ⟨b, off, rfl, hbb, c0, c1, c2⟩ := HG.out k h
      have d0 := (hbel.cell (p := ⟨b, off + k * 3, none⟩) hbb).trans c0
      have d1 := (hbel.cell (p := ⟨b, off + k * 3 + 1, none⟩) hbb).trans c1
      have d2 := (hbel.cell (p := ⟨b, off + k * 3 + 2, none⟩) hbb).trans c2
      have hcall := hasOne_any g[k] bx mb L wr (HS.out.below hbel) (HC.out _ (List.getElem_mem h)) ((hbel.cell (p := ⟨bx, 0, none⟩) hbw).trans hb)
      have HCALL := Lib.hid hcall
      clear hcall c0 c1 c2
      have hws := hbel.size
      unfold sv at d0 d1 d2 HCALL
      cases hf : (pks L).any (Sp.fits g[k]) with
      | true =>
        have HF := Lib.hid hf
        clear hf
        go_wp2_with fail
        refine HCALL.out.mono ?_
        rintro e w1 ⟨rfl, hb1⟩
        rw [HF.out]
        go_wp2
        go_ret
        exact ⟨⟨_, rfl, by rw [HD.out, MP.any_hit h HF.out]; simp⟩, hbel.trans (hb1.mono hws)⟩
      | false =>
        have HF := Lib.hid hf
        clear hf
        go_wp2_with fail
        refine HCALL.out.mono ?_
        rintro e w1 ⟨rfl, hb1⟩
        rw [HF.out]
        go_wp2
        go_roundw
        case rel => exact ⟨k + 1, h, MP.any_next h HN.out HF.out, by go_num, hbel.trans (hb1.mono hws)⟩
        case measure => simp [intOf]; omega
    · obtain rfl : k = g.length := by omega
      have hall := HN.out
      rw [List.take_length] at hall
      have HA := Lib.hid hall
      clear hall HN HG
      go_wp2
      go_ret
      exact ⟨⟨_, rfl, by rw [HD.out, HA.out]; rfl⟩, hbel⟩
theorem hasFn_any (v : Value) (g : List Sp.Ch) (L : List (Nat × Sp.Pk)) {W : World} {bx : Nat}
    (h : Calls Tryz.prog 222 #[v, .func (.func 181) #[] #[.pointer (some ⟨bx, 0, none⟩)]] W fun e w' => (∃ i : Int, e = .returned (.int .i64 i) ∧ decide (0 ≤ i) = Sp.any1 g (pks L)) ∧ Below W.heap.size W w') :
    Calls Tryz.prog 180 #[v, .func (.func 181) #[] #[.pointer (some ⟨bx, 0, none⟩)]] W fun e w' => e = .returned (.bool (Sp.any1 g (pks L))) ∧ Below W.heap.size W w' := by
  have H := Lib.hid h
  clear h
  go_enter Tryz.func180, Tryz.ntmps180
  go_wp2_with fail
  refine H.out.mono ?_
  rintro e w1 ⟨⟨i, rfl, hi⟩, hb1⟩
  go_wp2
  go_ret
  exact ⟨rfl, hb1⟩
set_option maxRecDepth 100000 in
theorem has_any (v : Value) (g : List Sp.Ch) (mb : Nat) (L : List (Nat × Sp.Pk)) (w : World) (h : SetOn (fun b => b < w.heap.size) w mb L) (hg : ChOn (fun b => b < w.heap.size) w v g) (hgl : g.length ≤ 3) (hc : ∀ c ∈ g, ChOk c) :
    Calls Tryz.prog 132 #[.map (some mb), v] w fun e w' => e = .returned (.bool (Sp.any1 g (pks L))) ∧ Below w.heap.size w w' := by
  have hb0 : Below w.heap.size w (w.alloc (.cells #[.map (some mb)] 140)) := (Below.refl _ w).alloc (Nat.le_refl _) _
  have hcall := index_any v g w.heap.size mb L (w.alloc (.cells #[.map (some mb)] 140)) (h.below hb0) ((SlOn.keep hg fun x hx => hb0.block x hx).mono fun x hx => Nat.lt_of_lt_of_le hx hb0.size) hgl hc (by rw [World.cell?_alloc_at _ _ _ _ rfl]; rfl)
  have HCALL := Lib.hid hcall
  clear hcall h hg hc
  have hmf : ∀ (fn : Fn) (first cap : Array Value) (w : World), (Instr.makeFunc fn first cap).run Tryz.prog w = .ok (.func fn first cap) w := fun _ _ _ _ => rfl
  have h180 := hasFn_any v g L HCALL.out
  have H180 := Lib.hid h180
  clear h180 HCALL
  go_enter Tryz.func132, Tryz.ntmps132
  go_wp2_with fail
  refine H180.out.mono ?_
  rintro e w1 ⟨rfl, hb1⟩
  go_wp2
  go_ret
  exact ⟨rfl, hb0.trans (hb1.mono hb0.size)⟩
end Go.Proofs.YtfphcecjhdkcoaaGreatDoor

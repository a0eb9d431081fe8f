/-
The walk of the store's Remove.
-/
import Derived.Test.YtfphcecjhdkcoaaGreatDoorSoundP12
import Derived.Test.YtfphcecjhdkcoaaGreatDoorSoundP13
/-
The walk of the program's planned: the texts are read.
-/
namespace Go.Proofs.YtfphcecjhdkcoaaGreatDoor
open Go.RowKit Go.Maps
namespace PL
theorem order_sub (there : List Sp.Pk) : ∀ (n : Nat) (l : List Sp.Pk), ∀ p ∈ (Sp.orderN there n l).2, p ∈ l
  | 0, l, p, h => h
  | n + 1, l, p, h => by
    rw [Sp.orderN] at h
    split at h
    · exact h
    · exact (List.mem_filter.1 (order_sub there n _ p h)).1
end PL
set_option maxRecDepth 100000 in
set_option maxHeartbeats 4000000 in
theorem planned_any {G : Nat} {S : Nat → Prop} (mt : Nat) (tv : Value) (ts : List Sp.Str) (L : List (Nat × Sp.Pk)) (w : World) (hG : Glob G w) (hS : ∀ x, S x → x < w.heap.size) (hT : SetOn S w mt L) (htv : StrsAt w tv ts) (hts : ts.length ≤ 50000) (hL : L.length ≤ 50000) (hgood : ∀ p ∈ pks L, V3.Good p) :
    Calls Tryz.prog 74 #[.map (some mt), tv] w (PlanRes S L ts w) := by
  have hmm := @run_makeMap Tryz.prog
  have hmtl := hT.map.lt
  have hcl := clone_map mt (kvOf L) w hT.map
  have HT := Lib.hid hT
  have HGO := Lib.hid hgood
  have HTV := Lib.hid htv
  have HS := Lib.hid hS
  have HG := Lib.hid hG
  obtain ⟨ta, tc, rfl, htc, htg⟩ := htv.get
  have HTG := Lib.hid htg
  clear hT hgood htv hS htg hG
  go_enter Tryz.func74, Tryz.ntmps74
  go_wp2_with fail
  refine hcl.mono ?_
  rintro e w1 ⟨rfl, hall, hb1⟩
  have hs1 := hb1.size
  have hal := hall.lt
  have HALL := Lib.hid hall
  clear hall hcl
  go_wp2
  go_loopw [9, 27] (fun pvv i wr => ∃ (k : Nat) (F : List (Nat × Sp.Pk)), k ≤ ts.length ∧ i = .int .i64 k ∧ F.length = k ∧ Sp.readAll 0 (ts.take k) = .inr (pks F) ∧ wr.ownsRow (w1.heap.size + 1) 118 1 pvv F.length (F.map fun q => pv q.1) ∧
      PL.PacksAt (fun x => w1.heap.size + 1 ≤ x ∧ x < wr.heap.size ∧ pvv.ownBlock ≠ some x) wr F ∧ (∀ p ∈ pks F, V3.Good p) ∧ Below (w1.heap.size + 1) (w1.alloc (.map #[] 0)) wr) (fun _ i _ => ts.length + 1 - (intOf i).toNat)
  case atStart => exact ⟨0, [], Nat.zero_le _, rfl, rfl, rfl, World.ownsRow_nil _ _ _ _, fun q hq => (by cases hq), fun p hp => (by cases hp), Below.refl _ _⟩
  case round =>
    obtain ⟨k, F, hk, rfl, hFl, hread, hrow, hpks, hgd, hbel⟩ := hrel
    have HR := Lib.hid hread
    have HROW := Lib.hid hrow
    have HPK := Lib.hid hpks
    have HGD := Lib.hid hgd
    have hws := hbel.size
    simp only [World.size_alloc] at hws
    have hbw : Below w.heap.size w wr := hb1.trans ((((Below.refl w1.heap.size w1).alloc (Nat.le_refl _) (.map #[] 0)).trans (hbel.mono (by omega))).mono hs1)
    clear hread hrow hpks hgd
    by_cases h : k < ts.length
    · obtain ⟨tb, toff, rfl, htb, htcell⟩ := HTG.out k h
      have htc' := (hbw.cell (p := ⟨tb, toff + k, none⟩) htb).trans htcell
      have hpc := parsed_any ⟨ts[k].toArray⟩ wr (HG.out.keep hbw)
      rw [bl_mk] at hpc
      have HPC := Lib.hid hpc
      have htk : ts.take (k + 1) = ts.take k ++ [ts[k]] := List.take_succ_eq_append_getElem h
      have htd : ts.take (k + 1) ++ ts.drop (k + 1) = ts := List.take_append_drop _ _
      have HTD := Lib.hid htd
      clear htd
      have hrs := PL.read_snoc 0 (ts.take k) ts[k]
      rw [← htk, HR.out] at hrs
      have hlk : (ts.take k).length = k := by rw [List.length_take]; omega
      rw [hlk] at hrs
      have HRS := Lib.hid hrs
      clear hpc htcell htk hrs hlk
      generalize hx : ts[k] = x at *
      clear hx
      go_wp2_with fail
      refine HPC.out.mono ?_
      rintro e w2 ⟨hb2, ⟨n, hp, rfl⟩ | ⟨p, b, hp, rfl, hpk, hok⟩⟩
      · have hrd := HRS.out
        rw [hp] at hrd
        have hpl : Sp.planned (pks L) ts = .inl ⟨1, 0 + k, n, []⟩ := by
          have := PL.read_stop 0 _ (ts.drop (k + 1)) hrd
          rw [HTD.out] at this
          unfold Sp.planned; rw [this]
        have HPL := Lib.hid hpl
        have hs2 := hb2.size
        clear hp hrd hpl
        go_wp2
        go_ret3
        refine ⟨(hbw.trans (hb2.mono hbw.size)).alloc (by omega) _, .inl ⟨_, w2.heap.size, HPL.out, Nat.le_refl _, by simp, rfl, by omega, ⟨by simp, ?_, ?_, ?_, ?_⟩⟩⟩ <;> rw [World.cell?_alloc_at _ _ _ _ rfl]
        all_goals simp [sv]
      · have hrd := HRS.out
        rw [hp] at hrd
        have hgp := (V3.parse_good hp).1
        have HGP := Lib.hid hgp
        have HPKN := Lib.hid hpk
        have HRD := Lib.hid hrd
        have hs2 := hb2.size
        have hrow2 := W3.row_keep HROW.out hb2
        have HROW2 := Lib.hid hrow2
        clear hp hrd hgp hpk hrow2
        go_wp2_with (at_builtin; refine wp_app_at app209 w2 [pv b] rfl (by simp [Value.oneCell', pv]) rfl _ _ rfl (w1.heap.size + 1) _ _ _ rfl HROW2.out rfl (by omega) (by omega) ?_; intro v' w3 hrow3 hg3 hv3 hloc3)
        have hb3 := below_of_grown (Below.refl (w1.heap.size + 1) w2) (by omega) HROW2.out hg3
        have hs3 := hb3.size
        have hPK3 : PL.PacksAt (fun y => w1.heap.size + 1 ≤ y ∧ y < w3.heap.size ∧ v'.ownBlock ≠ some y) w3 (F ++ [(b, p)]) := by
          intro q hq
          rcases List.mem_append.1 hq with hq | hq
          · refine PL.PacksAt.keep (w' := w3) HPK.out (fun y hy => (hg3.block y (by omega) (fun e => hy.2.2 e.symm)).trans (hb2.block y hy.2.1)) (fun y hy => ⟨hy.1, by omega, fun e => ?_⟩) q hq
            rcases hloc3 with h1 | ⟨g, h1, h2⟩
            · exact hy.2.2 (h1 ▸ e)
            · rw [h1] at e; have := Option.some.inj e; omega
          · rw [List.mem_singleton] at hq; subst hq
            refine ⟨(HPKN.out.keep fun y hy => hg3.block y hy.2 fun e => ?_).mono fun y hy => ⟨by omega, by omega, fun e => ?_⟩, hok⟩
            · have := (HROW.out.lt y e.symm).2; omega
            · rcases hloc3 with h1 | ⟨g, h1, h2⟩
              · have := (HROW.out.lt y (h1 ▸ e)).2; omega
              · rw [h1] at e; have := Option.some.inj e; omega
        have HPK3 := Lib.hid hPK3
        have HROW3 := Lib.hid hrow3
        clear hPK3 hrow3 hloc3 hg3
        go_roundw
        case rel => exact ⟨k + 1, F ++ [(b, p)], h, by go_num, by rw [List.length_append, hFl]; rfl, by rw [HRD.out]; simp [pks], by rw [List.length_append, List.map_append]; exact HROW3.out, HPK3.out, fun q hq => by
            unfold pks at hq
            rw [List.map_append, List.mem_append] at hq
            rcases hq with hq | hq
            · exact HGD.out q hq
            · have : q = p := by simpa using hq
              rw [this]; exact HGP.out, (hbel.trans (hb2.mono (by omega))).trans hb3⟩
        case measure => simp [intOf]; omega
    · have hke : k = ts.length := by omega
      have hread := HR.out
      rw [hke, List.take_length] at hread
      have HRD := Lib.hid hread
      have hFn : F.length = ts.length := by omega
      have HFN := Lib.hid hFn
      have hFle := Nat.le_of_eq hFn
      have HFL := Lib.hid hFl
      clear hFn hke hFl
      obtain ⟨W0, hW0⟩ : ∃ W0, W0 = wr := ⟨_, rfl⟩
      have hsl := PL.row_get HROW.out
      obtain ⟨pa, pc, hpv, hpc, hpg⟩ := hsl
      have hall0 : MapAt wr w.heap.size (kvOf L) := (HALL.out.below (w' := w1.alloc (.map #[] 0)) ((Below.refl w1.heap.size w1).alloc (Nat.le_refl _) _) hal).below hbel (by omega)
      have hfr0 : MapAt wr w1.heap.size (kvOf []) := (MapAt.made w1).below hbel (by omega)
      have HA0 := Lib.hid hall0
      have HF0 := Lib.hid hfr0
      have HPG := Lib.hid hpg
      rw [← hW0] at HPG HPK HROW
      have hW0s : W0.heap.size = wr.heap.size := by rw [hW0]
      have hbw0 := hbw
      have hle0 := Nat.le_of_eq hW0s
      have HW0 := Lib.hid hW0
      clear hread hpg hall0 hfr0 hW0 HR hW0s
      subst hpv
      go_wp2
      go_loopw [50] (fun i wr => ∃ k : Nat, k ≤ F.length ∧ i = .int .i64 k ∧ MapAt wr w.heap.size (kvOf (L ++ F.take k)) ∧ MapAt wr w1.heap.size (kvOf (F.take k)) ∧ Sp.addAll 0 (pks L) (pks (F.take k)) = .inr (pks (L ++ F.take k)) ∧
          (∀ j, w1.heap.size + 1 ≤ j → j < W0.heap.size → wr.heap[j]? = W0.heap[j]?) ∧ W0.heap.size ≤ wr.heap.size ∧ Below w.heap.size w wr) (fun i _ => F.length + 1 - (intOf i).toNat)
      case atStart => exact ⟨0, Nat.zero_le _, rfl, by simpa using HA0.out, HF0.out, by simp [pks, Sp.addAll], fun j _ _ => by rw [HW0.out], hle0, hbw0⟩
      case round =>
        obtain ⟨k2, hk2, rfl, hA2, hF2, hadd, hkp, hsz0, hbw2⟩ := hrel
        have HA2 := Lib.hid hA2
        have HF2 := Lib.hid hF2
        have HADD := Lib.hid hadd
        have HKP := Lib.hid hkp
        clear hA2 hF2 hadd hkp
        by_cases h2 : k2 < F.length
        · obtain ⟨rb, ro, rfl, hrb1, hrb2, hrc⟩ := HPG.out k2 h2
          have hrc2 := (World.cell?_of_block (w := W0) (a := ⟨rb, ro + k2, none⟩) (HKP.out rb hrb1 hrb2)).trans hrc
          obtain ⟨hpk, hok⟩ := HPK.out F[k2] (List.getElem_mem h2)
          have hpk2 := hpk.keep (w' := wr) fun x hx => HKP.out x hx.1 hx.2.1
          have hnl := hok.name
          have HOK := Lib.hid hok
          have HPKW := Lib.hid hpk2
          obtain ⟨_, _, _, ⟨hS1, hS2, _⟩, _, _, hc2, _⟩ := hpk2
          have htk : F.take (k2 + 1) = F.take k2 ++ [F[k2]] := List.take_succ_eq_append_getElem h2
          have htd : F.take (k2 + 1) ++ F.drop (k2 + 1) = F := List.take_append_drop _ _
          have has := PL.add_snoc (pks (F.take k2)) 0 (pks L) F[k2].2
          rw [HADD.out] at has
          have hlk : (pks (F.take k2)).length = k2 := by unfold pks; rw [List.length_map, List.length_take]; omega
          have e1 : pks (F.take k2) ++ [F[k2].2] = pks (F.take (k2 + 1)) := by rw [htk]; unfold pks; rw [List.map_append]; rfl
          rw [hlk, e1] at has
          have HAS := Lib.hid has
          have HTK := Lib.hid htk
          have HTDF := Lib.hid htd
          have hlkk := HA2.out.look Tryz.underlying140 zero118 F[k2].2.name (by unfold maxLen; omega)
          have hSr : F[k2].1 < wr.heap.size := by omega
          clear hpk hok hrc htk htd has hlk e1
          unfold sv at hc2
          unfold pv at hrc2
          generalize hq : F[k2] = q at *
          have HQ := Lib.hid hq
          clear hq
          obtain ⟨qb, qp⟩ := q
          simp only at hnl hc2 hrc2 hlkk hSr hS1 hS2
          rcases MP.kv_get (L := L ++ F.take k2) qp.name with ⟨g1, g2⟩ | ⟨q0, hq0, hqn, g2⟩
          · rw [g1] at hlkk
            have HNEW := Lib.hid g2
            clear g1 g2
            go_wp2_with fail
            have hnewA : hasKV (kvOf (L ++ F.take k2)) qp.name = false := by
              rw [← Bool.not_eq_true, MP.has_kv]; rintro ⟨q, hq, e⟩; exact HNEW.out q hq e
            have hnewF : hasKV (kvOf (F.take k2)) qp.name = false := by
              rw [← Bool.not_eq_true, MP.has_kv]; rintro ⟨q, hq, e⟩; exact HNEW.out q (List.mem_append.2 (.inr hq)) e
            have hnmx : qp.name.length ≤ maxLen := by unfold maxLen; omega
            have hAd : MapAt wr.drew w.heap.size (kvOf (L ++ F.take k2)) := HA2.out
            have hlA : (kvOf (L ++ F.take k2)).length < 1000000000 := by unfold kvOf; rw [List.length_map, List.length_append, List.length_take]; omega
            have hlF : (kvOf (F.take k2)).length < 1000000000 := by unfold kvOf; rw [List.length_map, List.length_take]; omega
            obtain ⟨v1, st1, u1, u2, r1, r2, hA3, f1, f2, ⟨o1, o2, o3, o4⟩, ⟨p1, p2, p3, p4⟩⟩ := hAd.enter Tryz.underlying140 zero118 hlA qp.name hnmx hnewA (.pointer (some ⟨qb, 0, none⟩))
            have hF3 : MapAt u2 w1.heap.size (kvOf (F.take k2)) := HF2.out.block (f2 _ (by omega))
            obtain ⟨v2, st2, u3, u4, r3, r4, hF4, f3, f4, ⟨o5, o6, o7, o8⟩, ⟨p5, p6, p7, p8⟩⟩ := hF3.enter Tryz.underlying140 zero118 hlF qp.name hnmx hnewF (.pointer (some ⟨qb, 0, none⟩))
            have hcd : ∀ W : World, W.heap[qb]? = wr.heap[qb]? → W.cell? ⟨qb, 2, none⟩ = some (.string ⟨qp.name.toArray⟩) := fun W hW => (World.cell?_of_block (w := wr) (a := ⟨qb, 2, none⟩) hW).trans hc2
            have d1 := hcd u1 (f1 qb (by omega))
            have d2 := hcd u2 (f2 qb (by omega))
            have d3 := hcd u3 ((f3 qb (by omega)).trans (f2 qb (by omega)))
            have d0 := hcd wr.drew rfl
            have q1 : qb < u1.heap.size := by rw [o4]; exact hSr
            have q2 : qb < u2.heap.size := by rw [p4]; exact hSr
            clear hcd
            have hno : (Sp.names (pks (L ++ F.take k2))).contains qp.name = false := by
              rw [← Bool.not_eq_true, List.contains_iff_mem]
              intro hm
              obtain ⟨p, hp, e⟩ := List.mem_map.1 hm
              obtain ⟨q, hq, rfl⟩ := List.mem_map.1 hp
              exact HNEW.out q hq e
            have hk1 : kvOf (L ++ F.take (k2 + 1)) = kvOf (L ++ F.take k2) ++ [(qp.name, .pointer (some ⟨qb, 0, none⟩))] := by
              rw [HTK.out, ← List.append_assoc, kv_snoc]
            have hk3 : kvOf (F.take (k2 + 1)) = kvOf (F.take k2) ++ [(qp.name, .pointer (some ⟨qb, 0, none⟩))] := by
              rw [HTK.out, kv_snoc]
            have hA5 : MapAt u4 w.heap.size (kvOf (L ++ F.take (k2 + 1))) := by rw [hk1]; exact hA3.block (f4 _ (by omega))
            have hF5 : MapAt u4 w1.heap.size (kvOf (F.take (k2 + 1))) := by rw [hk3]; exact hF4
            have hadd5 : Sp.addAll 0 (pks L) (pks (F.take (k2 + 1))) = .inr (pks (L ++ F.take (k2 + 1))) := by
              have h5 : Sp.addAll 0 (pks L) (pks (F.take (k2 + 1))) = if (Sp.names (pks (L ++ F.take k2))).contains qp.name then _ else _ := HAS.out
              rw [hno, if_neg Bool.false_ne_true] at h5
              rw [h5, HTK.out, ← List.append_assoc]
              unfold pks; simp only [List.map_append, List.map_cons, List.map_nil]
            have hf24 : ∀ j, w1.heap.size + 1 ≤ j → u4.heap[j]? = wr.heap[j]? := fun j hj => (f4 j (by omega)).trans (f2 j (by omega))
            have hkp5 : ∀ j, w1.heap.size + 1 ≤ j → j < W0.heap.size → u4.heap[j]? = W0.heap[j]? := fun j hj hj2 => (hf24 j hj).trans (HKP.out j hj hj2)
            have hb5 : Below w.heap.size wr u4 := ⟨p5.trans p1, p6.trans p2, p7.trans p3, by rw [p8, p4]; exact Nat.le_refl _, fun j hj => (f4 j (by omega)).trans (f2 j (by omega))⟩
            have hz5 : wr.heap.size ≤ u4.heap.size := hb5.size
            have HA5 := Lib.hid hA5
            have HF5 := Lib.hid hF5
            have HADD5 := Lib.hid hadd5
            have HKP5 := Lib.hid hkp5
            clear hA5 hF5 hadd5 hkp5 hk1 hk3 hno hf24 o1 o2 o3 o5 o6 o7 p1 p2 p3 p5 p6 p7 f1 f2 f3 f4 hA3 hF4 hF3 hAd
            go_region
            go_wp2
            go_roundw
            case rel => exact ⟨k2 + 1, h2, by go_num, HA5.out, HF5.out, HADD5.out, HKP5.out, by omega, hbw2.trans hb5⟩
            case measure => simp [intOf]; omega
          · rw [g2] at hlkk
            have hyes : (Sp.names (pks (L ++ F.take k2))).contains qp.name = true := by
              rw [List.contains_iff_mem]
              exact List.mem_map.2 ⟨q0.2, List.mem_map.2 ⟨q0, hq0, rfl⟩, hqn⟩
            have hpl : Sp.planned (pks L) ts = .inl ⟨2, 0 + k2, 0, qp.name⟩ := by
              have h5 := HAS.out
              simp only at h5
              rw [hyes, if_pos rfl] at h5
              have h6 := PL.add_stop (pks L) _ 0 (pks L) (pks (F.drop (k2 + 1))) h5
              have h7 : pks (F.take (k2 + 1)) ++ pks (F.drop (k2 + 1)) = pks F := by
                unfold pks; rw [← List.map_append, HTDF.out]
              rw [h7] at h6
              unfold Sp.planned
              rw [HRD.out]
              simp only
              rw [h6]
            have HPL := Lib.hid hpl
            have hfa := fault_any 2 (k2 : Int) qp.name wr
            have HFA := Lib.hid hfa
            clear hyes hpl hfa g2 hqn hq0
            unfold sv at HFA
            go_wp2_with fail
            refine HFA.out.mono ?_
            rintro e w4 ⟨rfl, hfl, hb4⟩
            go_wp2
            go_ret3
            refine ⟨hbw2.trans (hb4.mono hbw2.size), .inl ⟨_, _, HPL.out, by simp, by simp, rfl, hbw2.size, by simpa using hfl⟩⟩
        · have hk2e : k2 = F.length := by omega
          have hA6 := HA2.out
          have hF6 := HF2.out
          have hadd6 := HADD.out
          rw [hk2e, List.take_length] at hA6 hF6 hadd6
          have hpks6 : PL.PacksAt (fun x => x < wr.heap.size ∧ (S x ∨ w.heap.size ≤ x)) wr (L ++ F) := fun q hq => by
            rcases List.mem_append.1 hq with hq | hq
            · obtain ⟨h5, h6⟩ := HT.out.2.2 q hq
              exact ⟨(h5.keep fun x hx => hbw2.block x (HS.out x hx)).mono fun x hx => ⟨by have := HS.out x hx; have := hbw2.size; omega, .inl hx⟩, h6⟩
            · obtain ⟨h5, h6⟩ := HPK.out q hq
              exact ⟨(h5.keep fun x hx => HKP.out x hx.1 hx.2.1).mono fun x hx => ⟨by omega, .inr (by omega)⟩, h6⟩
          have hset : SetOn (fun x => x < wr.heap.size ∧ (S x ∨ w.heap.size ≤ x)) wr w.heap.size (L ++ F) := SetOn.of_map hA6 hpks6
          have hfset : SetOn (fun x => x < wr.heap.size) wr w1.heap.size F := SetOn.of_map hF6 fun q hq => by
            obtain ⟨h5, h6⟩ := hpks6 q (List.mem_append.2 (.inr hq))
            exact ⟨h5.mono fun x hx => hx.1, h6⟩
          have htset : SetOn (fun x => x < wr.heap.size) wr mt L := (HT.out.keep (hbw2.block _ hmtl) fun x hx => hbw2.block x (HS.out x hx)).mono fun x hx => by have := HS.out x hx; have := hbw2.size; omega
          have hgall : ∀ p ∈ pks (L ++ F), V3.Good p := fun p hp => by
            unfold pks at hp
            rw [List.map_append] at hp
            rcases List.mem_append.1 hp with hp | hp
            · exact HGO.out p hp
            · exact HGD.out p hp
          have hlen6 : (L ++ F).length ≤ 100000 := by rw [List.length_append]; omega
          have hplan : Sp.planned (pks L) ts = match Sp.judged (pks L) (pks F) (pks (L ++ F)) with
              | .inl f => .inl f
              | .inr o => .inr (pks (L ++ F), o) := by
            unfold Sp.planned
            rw [HRD.out]
            simp only
            rw [hadd6]
            dsimp only
            cases Sp.judged (pks L) (pks F) (pks (L ++ F)) <;> rfl
          have HSET := Lib.hid hset
          have HFSET := Lib.hid hfset
          have HTSET := Lib.hid htset
          have HGALL := Lib.hid hgall
          have HPLAN := Lib.hid hplan
          have hbw2s := hbw2.size
          clear hA6 hF6 hadd6 hpks6 hset hfset htset hgall hplan hk2e HA2 HF2 HADD
          -- the three checks
          have hnm6 : ∀ p ∈ pks (L ++ F), p.name ≠ [] := fun p hp => V1.name_ne (HGALL.out p hp).wf.name
          have hcl6 : ∀ p ∈ pks (L ++ F), Sp.clash1 (p.files.map (·.path)) = false ∧ ∀ f ∈ p.files, f.path ≠ [] := fun p hp => ⟨(HGALL.out p hp).wf.clash, fun f hf e => by
            have := ((HGALL.out p hp).wf.paths f hf).1
            rw [e] at this; cases this⟩
          have HNM6 := Lib.hid hnm6
          have HCL6 := Lib.hid hcl6
          clear hnm6 hcl6
          have hjd : Sp.judged (pks L) (pks F) (pks (L ++ F)) = (if !(Sp.lacking (pks (L ++ F))).isEmpty then .inl ⟨4, 0, 0, Sp.lacking (pks (L ++ F))⟩
            else if !(Sp.barring (pks (L ++ F))).isEmpty then .inl ⟨5, 0, 0, Sp.barring (pks (L ++ F))⟩
            else if !(Sp.clash (pks (L ++ F))).isEmpty then .inl ⟨6, 0, 0, Sp.clash (pks (L ++ F))⟩
            else if !(Sp.order (pks L) (pks F)).2.isEmpty then .inl ⟨7, 0, 0, Sp.least (Sp.names (Sp.order (pks L) (pks F)).2)⟩
            else .inr (Sp.order (pks L) (pks F)).1) := rfl
          have HJD := Lib.hid hjd
          clear hjd
          have hsf := fun (w : World) (a : Addr) (fn : Fn) (f c : Array Value) (m : Mode) => run_store Tryz.prog w a (.func fn f c) m rfl
          go_wp2
          refine wp_loop_rounds 4 ?_
          have hbk : Below wr.heap.size wr (wr.alloc (.cells #[.int .i64 4, .func (.func 80) #[] #[], .int .i64 5, .func (.func 123) #[] #[], .int .i64 6, .func (.func 124) #[] #[]] 211)) := (Below.refl _ _).alloc (Nat.le_refl _) _
          have hk0 : (wr.alloc (.cells #[.int .i64 4, .func (.func 80) #[] #[], .int .i64 5, .func (.func 123) #[] #[], .int .i64 6, .func (.func 124) #[] #[]] 211)).cell? ⟨wr.heap.size, 0, none⟩ = some (.int .i64 4) := by rw [World.cell?_alloc_at _ _ _ _ rfl]; rfl
          have hk1 : (wr.alloc (.cells #[.int .i64 4, .func (.func 80) #[] #[], .int .i64 5, .func (.func 123) #[] #[], .int .i64 6, .func (.func 124) #[] #[]] 211)).cell? ⟨wr.heap.size, 1, none⟩ = some (.func (.func 80) #[] #[]) := by rw [World.cell?_alloc_at _ _ _ _ rfl]; rfl
          have hk2' : (wr.alloc (.cells #[.int .i64 4, .func (.func 80) #[] #[], .int .i64 5, .func (.func 123) #[] #[], .int .i64 6, .func (.func 124) #[] #[]] 211)).cell? ⟨wr.heap.size, 2, none⟩ = some (.int .i64 5) := by rw [World.cell?_alloc_at _ _ _ _ rfl]; rfl
          have hk3 : (wr.alloc (.cells #[.int .i64 4, .func (.func 80) #[] #[], .int .i64 5, .func (.func 123) #[] #[], .int .i64 6, .func (.func 124) #[] #[]] 211)).cell? ⟨wr.heap.size, 3, none⟩ = some (.func (.func 123) #[] #[]) := by rw [World.cell?_alloc_at _ _ _ _ rfl]; rfl
          have hk4 : (wr.alloc (.cells #[.int .i64 4, .func (.func 80) #[] #[], .int .i64 5, .func (.func 123) #[] #[], .int .i64 6, .func (.func 124) #[] #[]] 211)).cell? ⟨wr.heap.size, 4, none⟩ = some (.int .i64 6) := by rw [World.cell?_alloc_at _ _ _ _ rfl]; rfl
          have hk5 : (wr.alloc (.cells #[.int .i64 4, .func (.func 80) #[] #[], .int .i64 5, .func (.func 123) #[] #[], .int .i64 6, .func (.func 124) #[] #[]] 211)).cell? ⟨wr.heap.size, 5, none⟩ = some (.func (.func 124) #[] #[]) := by rw [World.cell?_alloc_at _ _ _ _ rfl]; rfl
          have hkl : wr.heap.size < (wr.alloc (.cells #[.int .i64 4, .func (.func 80) #[] #[], .int .i64 5, .func (.func 123) #[] #[], .int .i64 6, .func (.func 124) #[] #[]] 211)).heap.size := by simp
          generalize (wr.alloc (.cells #[.int .i64 4, .func (.func 80) #[] #[], .int .i64 5, .func (.func 123) #[] #[], .int .i64 6, .func (.func 124) #[] #[]] 211)) = x0 at *
          have hbx0 : Below wr.heap.size wr x0 := hbk
          clear hbk
          have hsx0 := hbx0.size
          have hbA0 : Below x0.heap.size x0 (x0.alloc (.cells #[.int .i64 4, .func (.func 80) #[] #[]] 211)) := (Below.refl _ _).alloc (Nat.le_refl _) _
          have hst0 : SetOn (fun b => b < (x0.alloc (.cells #[.int .i64 4, .func (.func 80) #[] #[]] 211)).heap.size) (x0.alloc (.cells #[.int .i64 4, .func (.func 80) #[] #[]] 211)) w.heap.size (L ++ F) := (HSET.out.mono fun _ hx => hx.1).below (hbx0.trans (hbA0.mono hsx0))
          have hcall0 := lacking_any w.heap.size (L ++ F) _ hst0 (by rw [List.length_append]; omega) HNM6.out
          have HC0 := Lib.hid hcall0
          clear hcall0 hst0
          unfold sv at HC0
          rw [rounds_succ]
          cases he0 : (Sp.lacking (pks (L ++ F))).isEmpty with
          | false =>
            have hpl : Sp.planned (pks L) ts = .inl ⟨4, 0, 0, Sp.lacking (pks (L ++ F))⟩ := by
              rw [HPLAN.out, HJD.out, he0]; rfl
            have HPL := Lib.hid hpl
            clear hpl
            go_wp2_with fail
            refine HC0.out.mono ?_
            rintro e z ⟨rfl, hbz⟩
            have hz0 := hbz.cell (p := ⟨x0.heap.size, 0, none⟩) (show x0.heap.size < _ by simp)
            rw [World.cell?_alloc_at _ _ _ _ rfl] at hz0
            simp only [List.getElem?_toArray, List.getElem?_cons_zero] at hz0
            have hbzz : Below w.heap.size w z := hbw2.trans ((hbx0.trans ((hbA0.trans (hbz.mono hbA0.size)).mono hsx0)).mono hbw2s)
            have hfa := fault_any 4 0 (Sp.lacking (pks (L ++ F))) z
            have HFA := Lib.hid hfa
            clear hfa
            unfold sv at HFA
            go_wp2_with fail
            refine HFA.out.mono ?_
            rintro e z2 ⟨rfl, hfl, hb4⟩
            go_wp2
            go_ret3
            exact ⟨hbzz.trans (hb4.mono hbzz.size), .inl ⟨_, _, HPL.out, by simp, by simp, rfl, hbzz.size, hfl⟩⟩
          | true =>
            go_wp2_with fail
            refine HC0.out.mono ?_
            rintro e x1 ⟨rfl, hbz⟩
            have hbx1 : Below wr.heap.size wr x1 := hbx0.trans ((hbA0.trans (hbz.mono hbA0.size)).mono hsx0)
            have hk2q := (hbz.cell (p := ⟨wr.heap.size, 2, none⟩) (show wr.heap.size < _ by simp; omega)).trans ((World.cell?_alloc_lt _ _ _ (show wr.heap.size < _ by omega)).trans hk2')
            have hk3q := (hbz.cell (p := ⟨wr.heap.size, 3, none⟩) (show wr.heap.size < _ by simp; omega)).trans ((World.cell?_alloc_lt _ _ _ (show wr.heap.size < _ by omega)).trans hk3)
            have hk4q := (hbz.cell (p := ⟨wr.heap.size, 4, none⟩) (show wr.heap.size < _ by simp; omega)).trans ((World.cell?_alloc_lt _ _ _ (show wr.heap.size < _ by omega)).trans hk4)
            have hk5q := (hbz.cell (p := ⟨wr.heap.size, 5, none⟩) (show wr.heap.size < _ by simp; omega)).trans ((World.cell?_alloc_lt _ _ _ (show wr.heap.size < _ by omega)).trans hk5)
            have hkl1 : wr.heap.size < x1.heap.size := by have := hbz.size; simp at this; omega
            go_wp2_with fail
            have hsx1 := hbx1.size
            have hbA1 : Below x1.heap.size x1 (x1.alloc (.cells #[.int .i64 5, .func (.func 123) #[] #[]] 211)) := (Below.refl _ _).alloc (Nat.le_refl _) _
            have hst1 : SetOn (fun b => b < (x1.alloc (.cells #[.int .i64 5, .func (.func 123) #[] #[]] 211)).heap.size) (x1.alloc (.cells #[.int .i64 5, .func (.func 123) #[] #[]] 211)) w.heap.size (L ++ F) := (HSET.out.mono fun _ hx => hx.1).below (hbx1.trans (hbA1.mono hsx1))
            have hcall1 := barring_any w.heap.size (L ++ F) _ hst1 (by rw [List.length_append]; omega) HNM6.out
            have HC1 := Lib.hid hcall1
            clear hcall1 hst1
            unfold sv at HC1
            rw [rounds_succ]
            cases he1 : (Sp.barring (pks (L ++ F))).isEmpty with
            | false =>
              have hpl : Sp.planned (pks L) ts = .inl ⟨5, 0, 0, Sp.barring (pks (L ++ F))⟩ := by
                rw [HPLAN.out, HJD.out, he0, he1]; rfl
              have HPL := Lib.hid hpl
              clear hpl
              go_wp2_with fail
              refine HC1.out.mono ?_
              rintro e z ⟨rfl, hbz⟩
              have hz0 := hbz.cell (p := ⟨x1.heap.size, 0, none⟩) (show x1.heap.size < _ by simp)
              rw [World.cell?_alloc_at _ _ _ _ rfl] at hz0
              simp only [List.getElem?_toArray, List.getElem?_cons_zero] at hz0
              have hbzz : Below w.heap.size w z := hbw2.trans ((hbx1.trans ((hbA1.trans (hbz.mono hbA1.size)).mono hsx1)).mono hbw2s)
              have hfa := fault_any 5 0 (Sp.barring (pks (L ++ F))) z
              have HFA := Lib.hid hfa
              clear hfa
              unfold sv at HFA
              go_wp2_with fail
              refine HFA.out.mono ?_
              rintro e z2 ⟨rfl, hfl, hb4⟩
              go_wp2
              go_ret3
              exact ⟨hbzz.trans (hb4.mono hbzz.size), .inl ⟨_, _, HPL.out, by simp, by simp, rfl, hbzz.size, hfl⟩⟩
            | true =>
              go_wp2_with fail
              refine HC1.out.mono ?_
              rintro e x2 ⟨rfl, hbz⟩
              have hbx2 : Below wr.heap.size wr x2 := hbx1.trans ((hbA1.trans (hbz.mono hbA1.size)).mono hsx1)
              have hk4qq := (hbz.cell (p := ⟨wr.heap.size, 4, none⟩) (show wr.heap.size < _ by simp; omega)).trans ((World.cell?_alloc_lt _ _ _ (show wr.heap.size < _ by omega)).trans hk4q)
              have hk5qq := (hbz.cell (p := ⟨wr.heap.size, 5, none⟩) (show wr.heap.size < _ by simp; omega)).trans ((World.cell?_alloc_lt _ _ _ (show wr.heap.size < _ by omega)).trans hk5q)
              have hkl2 : wr.heap.size < x2.heap.size := by have := hbz.size; simp at this; omega
              go_wp2_with fail
              have hsx2 := hbx2.size
              have hbA2 : Below x2.heap.size x2 (x2.alloc (.cells #[.int .i64 6, .func (.func 124) #[] #[]] 211)) := (Below.refl _ _).alloc (Nat.le_refl _) _
              have hst2 : SetOn (fun b => b < (x2.alloc (.cells #[.int .i64 6, .func (.func 124) #[] #[]] 211)).heap.size) (x2.alloc (.cells #[.int .i64 6, .func (.func 124) #[] #[]] 211)) w.heap.size (L ++ F) := (HSET.out.mono fun _ hx => hx.1).below (hbx2.trans (hbA2.mono hsx2))
              have hcall2 := planned1_any w.heap.size (L ++ F) _ hst2 hlen6 HCL6.out
              have HC2 := Lib.hid hcall2
              clear hcall2 hst2
              unfold sv at HC2
              rw [rounds_succ]
              cases he2 : (Sp.clash (pks (L ++ F))).isEmpty with
              | false =>
                have hpl : Sp.planned (pks L) ts = .inl ⟨6, 0, 0, Sp.clash (pks (L ++ F))⟩ := by
                  rw [HPLAN.out, HJD.out, he0, he1, he2]; rfl
                have HPL := Lib.hid hpl
                clear hpl
                go_wp2_with fail
                refine HC2.out.mono ?_
                rintro e z ⟨rfl, hbz⟩
                have hz0 := hbz.cell (p := ⟨x2.heap.size, 0, none⟩) (show x2.heap.size < _ by simp)
                rw [World.cell?_alloc_at _ _ _ _ rfl] at hz0
                simp only [List.getElem?_toArray, List.getElem?_cons_zero] at hz0
                have hbzz : Below w.heap.size w z := hbw2.trans ((hbx2.trans ((hbA2.trans (hbz.mono hbA2.size)).mono hsx2)).mono hbw2s)
                have hfa := fault_any 6 0 (Sp.clash (pks (L ++ F))) z
                have HFA := Lib.hid hfa
                clear hfa
                unfold sv at HFA
                go_wp2_with fail
                refine HFA.out.mono ?_
                rintro e z2 ⟨rfl, hfl, hb4⟩
                go_wp2
                go_ret3
                exact ⟨hbzz.trans (hb4.mono hbzz.size), .inl ⟨_, _, HPL.out, by simp, by simp, rfl, hbzz.size, hfl⟩⟩
              | true =>
                go_wp2_with fail
                refine HC2.out.mono ?_
                rintro e x3 ⟨rfl, hbz⟩
                have hbx3 : Below wr.heap.size wr x3 := hbx2.trans ((hbA2.trans (hbz.mono hbA2.size)).mono hsx2)
                have hkl3 : wr.heap.size < x3.heap.size := by have := hbz.size; simp at this; omega
                go_wp2_with fail
                rw [rounds_succ]
                go_wp2_with fail
                have hsx := hbx3.size
                have hord := order_any mt w1.heap.size L F x3 (HTSET.out.below hbx3) (HFSET.out.below hbx3) (by omega) (fun p hp => ⟨by
                    have := (HGALL.out p (by unfold pks at hp ⊢; rw [List.map_append]; exact List.mem_append.2 (.inr hp))).wf.name
                    have := P2.name_len this
                    omega, V1.name_ne (HGALL.out p (by unfold pks at hp ⊢; rw [List.map_append]; exact List.mem_append.2 (.inr hp))).wf.name⟩)
                refine hord.mono ?_
                rintro e x4 ⟨hb4, v, l, ok, rfl, hv, hor⟩
                have hbw4 : Below w.heap.size w x4 := hbw2.trans ((hbx3.trans (hb4.mono hsx)).mono hbw2s)
                rcases hor with ⟨rfl, hor2, rfl⟩ | ⟨rfl, hor2, rfl⟩
                · have hpl : Sp.planned (pks L) ts = .inr (pks (L ++ F), (Sp.order (pks L) (pks F)).1) := by
                    rw [HPLAN.out, HJD.out, he0, he1, he2, hor2]; rfl
                  have HPL := Lib.hid hpl
                  have HV := Lib.hid hv
                  clear hpl hor2 hv
                  go_wp2
                  go_ret3
                  refine ⟨hbw4, .inr ⟨F, _, w.heap.size, v, HPL.out, rfl, Nat.le_refl _, HFN.out, ?_, HV.out.base (by have := hbw2.size; omega), HGD.out⟩⟩
                  have hbx4 := hbx3.trans (hb4.mono hsx)
                  refine (HSET.out.keep (hbx4.block w.heap.size HSET.out.map.lt) fun x hx => hbx4.block x hx.1).mono fun x hx => ?_
                  have := hbx4.size
                  rcases hx.2 with h5 | h5
                  · exact .inl h5
                  · exact .inr (by omega)
                · have hle : ∀ x ∈ Sp.names (Sp.order (pks L) (pks F)).2, x ≠ [] := fun x hx => by
                    obtain ⟨p, hp, rfl⟩ := List.mem_map.1 hx
                    have hp2 := PL.order_sub (pks L) _ _ p hp
                    exact V1.name_ne (HGALL.out p (by unfold pks at hp2 ⊢; rw [List.map_append]; exact List.mem_append.2 (.inr hp2))).wf.name
                  have hso := V8.sorted_ord (Sp.names (Sp.order (pks L) (pks F)).2)
                  have hsp := V8.sorted_perm (Sp.names (Sp.order (pks L) (pks F)).2)
                  cases hl : Sp.sorted (Sp.names (Sp.order (pks L) (pks F)).2) with
                  | nil =>
                    rw [hl] at hsp
                    exact absurd (List.map_eq_nil_iff.1 (List.nil_perm.1 hsp)) hor2
                  | cons n r =>
                    rw [hl] at hsp hso hv
                    have hlst : Sp.least (Sp.names (Sp.order (pks L) (pks F)).2) = n := V5.least_eq hle (hsp.mem_iff.1 (by simp)) fun x hx => by
                      rcases List.mem_cons.1 (hsp.mem_iff.2 hx) with rfl | hx
                      · exact List.le_refl _
                      · exact (List.pairwise_cons.1 hso).1 x hx
                    have hne : (Sp.order (pks L) (pks F)).2.isEmpty = false := by
                      cases h5 : (Sp.order (pks L) (pks F)).2 with
                      | nil => exact absurd h5 hor2
                      | cons _ _ => rfl
                    have hpl : Sp.planned (pks L) ts = .inl ⟨7, 0, 0, n⟩ := by
                      rw [HPLAN.out, HJD.out, he0, he1, he2, hne, hlst]; rfl
                    have HPL := Lib.hid hpl
                    obtain ⟨va, vc, rfl, hvc, hvg⟩ := hv.at_.get
                    obtain ⟨vb, vo, rfl, hvb, hvcell⟩ := hvg 0 (by simp)
                    simp only [List.getElem_cons_zero, Nat.add_zero] at hvcell
                    have hfa := fault_any 7 0 n x4
                    have HFA := Lib.hid hfa
                    have hvl : 0 < (n :: r).length := by simp
                    clear hpl hor2 hle hso hsp hlst hne hfa hvg hv hl
                    unfold sv at HFA
                    go_wp2_with fail
                    refine HFA.out.mono ?_
                    rintro e x5 ⟨rfl, hfl, hb5⟩
                    go_wp2
                    go_ret3
                    exact ⟨hbw4.trans (hb5.mono hbw4.size), .inl ⟨_, _, HPL.out, by simp, by simp, rfl, hbw4.size, hfl⟩⟩
end Go.Proofs.YtfphcecjhdkcoaaGreatDoor
/-
A store in memory; the walks of its Plan and Install.
-/
namespace Go.Proofs.YtfphcecjhdkcoaaGreatDoor
open Go.RowKit Go.Maps
/-- A fault in plain data. -/
def faultV (f : Sp.Fault) : Value := .agg #[.int .i64 (f.kind : Int), .int .i64 (f.which : Int), .int .i64 (f.line : Int), sv f.name]
/-- An error value that tells this fault; or that there is none. -/
def ErrAt (w : World) (v : Value) (f : Sp.Fault) : Prop :=
  (f = Sp.okF ∧ v = .nilIface) ∨ (1 ≤ f.kind ∧ f.kind ≤ 8 ∧ ∃ b, v = .iface 121 (.pointer (some ⟨b, 0, none⟩)) ∧ FaultAt w b f.kind f.which f.line f.name)
theorem parts_any {w : World} {v : Value} {f : Sp.Fault} (hE : ErrT w) (h : ErrAt w v f) : Calls Tryz.prog 42 #[v] w fun e w' => e = .returned (faultV f) ∧ Below w.heap.size w w' := by
  rcases h with ⟨rfl, rfl⟩ | ⟨h1, h8, b, rfl, hF⟩
  · exact parts_nil w
  · exact parts_fault b f.kind f.which f.line f.name w hE hF (by omega) (by omega)
/-- What the calls of a store ask of it. -/
structure Fit (st : Sp.St) : Prop where
  ok : Sp.Ok st.L
  big : 16 ≤ st.d.seen.length
  room : Sp.size st.L ≤ Sp.room st.d.seen.length
  last : st.last + 1 < 18446744073709551616
  late : st.d.late.length < 900000
/-- A store in memory: its own block s, its disk D, all of it in O. -/
def Sto (O : Nat → Prop) (w : World) (s D : Nat) (st : Sp.St) : Prop :=
  ∃ mb ob OD S L, StBlk w s D st.last (.map (some mb)) (.map (some ob)) ∧ DkE OD w D st.d ∧ SetOn S w mb L ∧ MapAt w ob (ownKV (pks L)) ∧ pks L = st.L ∧ O s ∧
    (∀ k, OD k → O k ∧ k ≠ s ∧ k < w.heap.size) ∧ (∀ k, (S k ∨ k = mb ∨ k = ob) → k < w.heap.size ∧ O k ∧ ¬ OD k ∧ k ≠ s)
namespace Sto
variable {O O' : Nat → Prop} {w w' : World} {s D : Nat} {st : Sp.St}
theorem mono (h : Sto O w s D st) (hm : ∀ k, k < w.heap.size → O k → O' k) : Sto O' w s D st := by
  obtain ⟨mb, ob, OD, S, L, h1, h2, h3, h4, h5, h6, h7, h8⟩ := h
  exact ⟨mb, ob, OD, S, L, h1, h2, h3, h4, h5, hm s h1.lt h6, fun k hk => ⟨hm k (h7 k hk).2.2 (h7 k hk).1, (h7 k hk).2⟩, fun k hk => ⟨(h8 k hk).1, hm k (h8 k hk).1 (h8 k hk).2.1, (h8 k hk).2.2⟩⟩
theorem keep (h : Sto O w s D st) (hk : ∀ k, O k → k < w.heap.size → w'.heap[k]? = w.heap[k]?) (hs : w.heap.size ≤ w'.heap.size) : Sto O w' s D st := by
  obtain ⟨mb, ob, OD, S, L, h1, h2, h3, h4, h5, h6, h7, h8⟩ := h
  have k8 : ∀ k, (S k ∨ k = mb ∨ k = ob) → w'.heap[k]? = w.heap[k]? := fun k hk' => hk k (h8 k hk').2.1 (h8 k hk').1
  exact ⟨mb, ob, OD, S, L, h1.keep (hk s h6 h1.lt), h2.keep (fun k hk' hl => hk k (h7 k hk').1 hl) hs, h3.keep (k8 mb (.inr (.inl rfl))) fun x hx => k8 x (.inl hx), h4.block (k8 ob (.inr (.inr rfl))), h5, h6,
    fun k hk' => ⟨(h7 k hk').1, (h7 k hk').2.1, by have := (h7 k hk').2.2; omega⟩, fun k hk' => ⟨by have := (h8 k hk').1; omega, (h8 k hk').2⟩⟩
theorem below (h : Sto O w s D st) (hb : Below w.heap.size w w') : Sto O w' s D st := h.keep (fun k _ hl => hb.block k hl) hb.size
theorem lt (h : Sto O w s D st) : s < w.heap.size := by
  obtain ⟨mb, ob, OD, S, L, h1, _⟩ := h
  exact h1.lt
theorem own (h : Sto O w s D st) : O s ∧ O D := by
  obtain ⟨mb, ob, OD, S, L, h1, h2, _, _, _, h6, h7, _⟩ := h
  exact ⟨h6, (h7 D h2.own).1⟩
end Sto
theorem pks_len (L : List (Nat × Sp.Pk)) : (pks L).length = L.length := by unfold pks; rw [List.length_map]
theorem Fit.few {st : Sp.St} (h : Fit st) (hS : st.d.seen.length ≤ 256) : st.L.length ≤ 600 := by
  have h1 := V8.size_count h.ok.set.good
  have h2 := h.room
  unfold Sp.room at h2
  omega
theorem become_eq (st : Sp.St) (L L2 : List (Nat × Sp.Pk)) (hL : pks L = st.L) : st.become (pks L2) = ⟨ST.dkOf L2.length L.length st.d (Sp.save st.d st.last (Sp.joined (pks L2))), ST.lastOf L2.length L.length st.last, pks L2⟩ := by
  unfold Sp.St.become ST.dkOf ST.lastOf
  rw [← hL, pks_len, pks_len]
  split <;> rfl
set_option maxRecDepth 100000 in
set_option maxHeartbeats 2000000 in
theorem storePlan_any {G : Nat} {O : Nat → Prop} {w : World} {s D : Nat} {st : Sp.St} (hG : Glob G w) (h : Sto O w s D st) (hf : Fit st) (tv : Value) (ts : List Sp.Str) (htv : StrsAt w tv ts) (hts : ts.length ≤ 9000) :
    Calls Tryz.prog 48 #[.pointer (some ⟨s, 0, none⟩), tv] w fun e w' => ∃ v ev, e = .returned (.tuple #[v, ev]) ∧ StrsFrom w.heap.size w' v (st.plan ts).2 ∧ ErrAt w' ev (st.plan ts).1 ∧ Below w.heap.size w w' := by
  obtain ⟨mb, ob, OD, S, L, h1, h2, h3, h4, h5, h6, h7, h8⟩ := h
  have hfew := hf.few h2.lens.2.2
  rw [← h5, pks_len] at hfew
  have hp := planned_any (G := G) mb tv ts L w hG (fun x hx => (h8 x (.inl hx)).1) h3 htv (by omega) (by omega) (by rw [h5]; exact hf.ok.set.good)
  obtain ⟨c0, c1, c2, c3, cz⟩ := h1.cells
  have hlt := h1.lt
  have HP := Lib.hid hp
  have H5 := Lib.hid h5
  have HTV := Lib.hid htv
  clear hp h1 h2 h3 h4 h5 h7 h8 htv
  go_enter Tryz.func48, Tryz.ntmps48
  go_wp2_with fail
  refine HP.out.mono ?_
  rintro e w1 ⟨hb1, ⟨f, b, hpl, hk1, hk8, rfl, hge, hF⟩ | ⟨F, o, mb2, v, hpl, rfl, hge, hFl, hset, hv, hgood⟩⟩
  · have e1 : st.plan ts = (f, []) := by unfold Sp.St.plan; rw [← H5.out, hpl]
    have E1 := Lib.hid e1
    have HF := Lib.hid hF
    clear hpl e1 hF
    unfold pv
    go_wp2
    go_ret2
    rw [E1.out]
    exact ⟨_, _, rfl, StrsFrom.nil _ _, .inr ⟨hk1, hk8, b, rfl, HF.out⟩, hb1⟩
  · have e1 : st.plan ts = (Sp.okF, o) := by unfold Sp.St.plan; rw [← H5.out, hpl]
    have E1 := Lib.hid e1
    have HV := Lib.hid hv
    clear hpl e1 hset hgood hv
    go_wp2
    go_ret2
    rw [E1.out]
    exact ⟨_, _, rfl, HV.out, .inl ⟨rfl, rfl⟩, hb1⟩
/-- The store behind 'become'. -/
theorem sto_become {O : Nat → Prop} {w w1 w' : World} {s D mb mb2 ob ob2 : Nat} {st : Sp.St} {L L2 : List (Nat × Sp.Pk)} {OD S S2 O2 : Nat → Prop} (hb1 : Below w.heap.size w w1) (hL : pks L = st.L)
    (h1 : StBlk w s D st.last (.map (some mb)) (.map (some ob))) (h6 : O s) (h7 : ∀ k, OD k → O k ∧ k ≠ s ∧ k < w.heap.size) (h8 : ∀ k, (S k ∨ k = mb ∨ k = ob) → k < w.heap.size ∧ O k ∧ ¬ OD k ∧ k ≠ s)
    (hset : SetOn S2 w1 mb2 L2) (hS2 : ∀ x, (S2 x ∨ x = mb2) → S x ∨ w.heap.size ≤ x) (hS2l : ∀ x, (S2 x ∨ x = mb2) → x < w1.heap.size)
    (hch : Chg (fun k => OD k ∨ k = s) w1 w') (hob : w1.heap.size ≤ ob2) (hobl : ob2 < w'.heap.size) (hobn : ¬ O2 ob2) (hO2 : ∀ k, O2 k → (OD k ∨ w1.heap.size ≤ k) ∧ k < w'.heap.size)
    (hst : StBlk w' s D (ST.lastOf L2.length L.length st.last) (.map (some mb2)) (.map (some ob2))) (hdk : DkE O2 w' D (ST.dkOf L2.length L.length st.d (Sp.save st.d st.last (Sp.joined (pks L2))))) (hmap : MapAt w' ob2 (ownKV (pks L2))) :
    Chg O w w' ∧ Sto (fun k => O k ∨ w.heap.size ≤ k) w' s D (st.become (pks L2)) := by
  have hz1 := hb1.size
  have hslt := h1.lt
  have hz' := hch.size
  have hnS : ∀ x, (S2 x ∨ x = mb2) → ¬ OD x ∧ x ≠ s := fun x hx => by
    rcases hS2 x hx with h | h
    · exact (h8 x (.inl h)).2.2
    · exact ⟨fun hy => by have := (h7 x hy).2.2; omega, by omega⟩
  refine ⟨(Chg.of_below hb1).trans (hch.mono fun x hx => ?_), ?_⟩
  · rcases hx with hx | rfl
    · exact (h7 x hx).1
    · exact h6
  · have hk : ∀ x, (S2 x ∨ x = mb2) → w'.heap[x]? = w1.heap[x]? := fun x hx => hch.block x (hS2l x hx) fun hy => by
      rcases hy with hy | hy
      · exact (hnS x hx).1 hy
      · exact (hnS x hx).2 hy
    rw [become_eq st L L2 hL]
    refine ⟨mb2, ob2, O2, S2, L2, hst, hdk, hset.keep (hk mb2 (.inr rfl)) fun x hx => hk x (.inl hx), hmap, rfl, .inl h6, fun k hk' => ⟨?_, ?_, (hO2 k hk').2⟩, fun k hk' => ?_⟩
    · rcases (hO2 k hk').1 with h | h
      · exact .inl (h7 k h).1
      · exact .inr (by omega)
    · rcases (hO2 k hk').1 with h | h
      · exact (h7 k h).2.1
      · omega
    · have key : (S2 k ∨ k = mb2) → k < w'.heap.size ∧ (O k ∨ w.heap.size ≤ k) ∧ ¬ O2 k ∧ k ≠ s := fun hx => by
        refine ⟨by have := hS2l k hx; omega, ?_, fun hy => ?_, (hnS k hx).2⟩
        · rcases hS2 k hx with h | h
          · exact .inl (h8 k (.inl h)).2.1
          · exact .inr h
        · rcases (hO2 k hy).1 with h | h
          · exact (hnS k hx).1 h
          · have := hS2l k hx; omega
      rcases hk' with hx | hx | rfl
      · exact key (.inl hx)
      · exact key (.inr hx)
      · exact ⟨hobl, .inr (by omega), hobn, by omega⟩
set_option maxRecDepth 100000 in
set_option maxHeartbeats 2000000 in
theorem storeInstall_any {G : Nat} {O : Nat → Prop} {w : World} {s D : Nat} {st : Sp.St} (hG : Glob G w) (h : Sto O w s D st) (hf : Fit st) (tv : Value) (ts : List Sp.Str) (htv : StrsAt w tv ts) (hts : ts.length ≤ 9000) :
    Calls Tryz.prog 49 #[.pointer (some ⟨s, 0, none⟩), tv] w fun e w' => ∃ ev, e = .returned ev ∧ ErrAt w' ev (st.install ts).1 ∧ Chg O w w' ∧ Sto (fun k => O k ∨ w.heap.size ≤ k) w' s D (st.install ts).2 := by
  have h0 := h
  obtain ⟨mb, ob, OD, S, L, h1, h2, h3, h4, h5, h6, h7, h8⟩ := h
  have hl256 := h2.lens.2.2
  have hfew := hf.few hl256
  rw [← h5, pks_len] at hfew
  have hp := planned_any (G := G) mb tv ts L w hG (fun x hx => (h8 x (.inl hx)).1) h3 htv (by omega) (by omega) (by rw [h5]; exact hf.ok.set.good)
  obtain ⟨c0, c1, c2, c3, cz⟩ := h1.cells
  have hlt := h1.lt
  have H0 := Lib.hid h0
  have H1 := Lib.hid h1
  have H2 := Lib.hid h2
  have H3 := Lib.hid h3
  have H5 := Lib.hid h5
  have H6 := Lib.hid h6
  have H7 := Lib.hid h7
  have H8 := Lib.hid h8
  have HF := Lib.hid hf
  have HP := Lib.hid hp
  have hmlt := h3.map.lt
  clear hp h0 h1 h2 h3 h4 h5 h6 h7 h8 htv hf hG
  go_enter Tryz.func49, Tryz.ntmps49
  go_wp2_with fail
  refine HP.out.mono ?_
  rintro e w1 ⟨hb1, ⟨f, b, hpl, hk1, hk8, rfl, hge, hFa⟩ | ⟨F, o, mb2, v, hpl, rfl, hge, hFl, hset, hv, hgood⟩⟩
  · have e1 : st.install ts = (f, st) := V10.install_no (by rw [← H5.out]; exact hpl)
    have E1 := Lib.hid e1
    have HFA := Lib.hid hFa
    have HB1 := Lib.hid hb1
    clear hpl e1 hFa hb1
    unfold pv
    go_wp2
    go_ret
    rw [E1.out]
    exact ⟨_, rfl, .inr ⟨hk1, hk8, b, rfl, HFA.out⟩, Chg.of_below HB1.out, (H0.out.below HB1.out).mono fun k _ hk => .inl hk⟩
  · have hz1 := hb1.size
    have hpl' : Sp.planned st.L ts = .inr (pks (L ++ F), o) := by rw [← H5.out]; exact hpl
    obtain ⟨hok, _⟩ := V9.planned_ok HF.out.ok.set hpl'
    have hml2 := hset.map.lt
    have hS2 : ∀ x, ((S x ∨ w.heap.size ≤ x ∧ x < w1.heap.size) ∨ x = mb2) → S x ∨ w.heap.size ≤ x := fun x hx => by
      rcases hx with (hx | hx) | hx
      · exact .inl hx
      · exact .inr hx.1
      · exact .inr (by omega)
    have hS2l : ∀ x, ((S x ∨ w.heap.size ≤ x ∧ x < w1.heap.size) ∨ x = mb2) → x < w1.heap.size := fun x hx => by
      rcases hx with (hx | hx) | hx
      · have := (H8.out x (.inl hx)).1; omega
      · exact hx.2
      · omega
    have hnOD : ∀ x, w.heap.size ≤ x → ¬ OD x ∧ x ≠ s := fun x hx => ⟨fun hy => by have := (H7.out x hy).2.2; omega, by omega⟩
    have hbc := become_any (O := OD) (S := S) (L2 := L ++ F) (H1.out.keep (hb1.block s hlt)) (H2.out.below hb1) (fun hy => (H7.out s hy).2.1 rfl)
      (H3.out.keep (w' := w1) (hb1.block mb hmlt) fun x hx => hb1.block x (H8.out x (.inl hx)).1) (fun x hx => by have := (H8.out x (.inl hx)).1; omega)
      hset (fun x hx => ⟨hS2l x (.inl hx), by
        rcases hx with hx | hx
        · exact (H8.out x (.inl hx)).2.2
        · exact hnOD x hx.1⟩) (hnOD mb2 hge) hok.set (V9.paths_nodup hok) HF.out.big HF.out.last HF.out.late (by rw [List.length_append]; omega)
      (fun he => by rw [List.length_append] at he; rw [List.length_eq_zero_iff.1 (show F.length = 0 by omega), List.append_nil])
    have HBC := Lib.hid hbc
    have HPL := Lib.hid hpl'
    have HB1 := Lib.hid hb1
    have HSET := Lib.hid hset
    have HS2 := Lib.hid hS2
    have HS2L := Lib.hid hS2l
    clear hbc hpl hpl' hset hgood hv hS2 hS2l hnOD hok hb1
    go_wp2_with fail
    refine HBC.out.mono ?_
    rintro e w2 (⟨hr, b, rfl, hge2, hFa, hb2⟩ | ⟨hr, rfl, hch, ob2, O2, hob, hobl, hobn, hO2, hst, hdk, hmap⟩)
    · have e1 : st.install ts = (⟨8, 0, 0, []⟩, st) := by unfold Sp.St.install; rw [HPL.out]; simp only; rw [if_pos hr]
      have E1 := Lib.hid e1
      have HFA := Lib.hid hFa
      have HB2 := Lib.hid (HB1.out.trans (hb2.mono hz1))
      clear e1 hFa hb2
      go_wp2
      go_ret
      rw [E1.out]
      exact ⟨_, rfl, .inr ⟨by simp, by simp, b, rfl, HFA.out⟩, Chg.of_below HB2.out, (H0.out.below HB2.out).mono fun k _ hk => .inl hk⟩
    · have e1 : st.install ts = (Sp.okF, st.become (pks (L ++ F))) := by unfold Sp.St.install; rw [HPL.out]; simp only; rw [if_neg (by omega)]
      have E1 := Lib.hid e1
      have hfin := sto_become HB1.out H5.out H1.out H6.out H7.out H8.out HSET.out HS2.out HS2L.out hch hob hobl hobn hO2 hst hdk hmap
      have HFIN := Lib.hid hfin
      clear e1 hfin hch hO2 hst hdk hmap
      go_wp2
      go_ret
      rw [E1.out]
      exact ⟨_, rfl, .inl ⟨rfl, rfl⟩, HFIN.out⟩
end Go.Proofs.YtfphcecjhdkcoaaGreatDoor
namespace Go.Proofs.YtfphcecjhdkcoaaGreatDoor
open Go.RowKit Go.Maps
namespace ST
theorem rem_snoc : ∀ (ns : List Sp.Str) (i : Nat) (L : List Sp.Pk) (n : Sp.Str), Sp.removeAll i L (ns ++ [n]) = match Sp.removeAll i L ns with
    | .inl f => .inl f
    | .inr A => if (Sp.names A).contains n then .inr (A.filter fun p => p.name != n) else .inl ⟨3, i + ns.length, 0, n⟩
  | [], i, L, n => by
    simp only [List.nil_append, Sp.removeAll]
    split <;> rfl
  | m :: r, i, L, n => by
    rw [List.cons_append, Sp.removeAll, Sp.removeAll]
    split
    · rw [rem_snoc r (i + 1) _ n, List.length_cons, show i + (r.length + 1) = i + 1 + r.length by omega]
    · rfl
theorem rem_stop : ∀ (ns ms : List Sp.Str) (i : Nat) (L : List Sp.Pk) {f : Sp.Fault}, Sp.removeAll i L ns = .inl f → Sp.removeAll i L (ns ++ ms) = .inl f
  | [], _, _, _, _, h => by cases h
  | n :: r, ms, i, L, f, h => by
    rw [Sp.removeAll] at h
    rw [List.cons_append, Sp.removeAll]
    split at h
    · rename_i hc
      rw [if_pos hc]; exact rem_stop r ms (i + 1) _ h
    · rename_i hc
      rw [if_neg hc]; exact h
theorem pks_drop (L : List (Nat × Sp.Pk)) (n : Sp.Str) : pks (MP.dropL L n) = (pks L).filter fun p => p.name != n := by
  unfold pks MP.dropL; rw [List.filter_map]; rfl
theorem names_mem {L : List (Nat × Sp.Pk)} {n : Sp.Str} : (Sp.names (pks L)).contains n = true ↔ ∃ q ∈ L, q.2.name = n := by
  rw [List.contains_iff_mem]
  unfold Sp.names pks
  constructor
  · intro h
    obtain ⟨p, hp, e⟩ := List.mem_map.1 h
    obtain ⟨q, hq, rfl⟩ := List.mem_map.1 hp
    exact ⟨q, hq, e⟩
  · rintro ⟨q, hq, rfl⟩
    exact List.mem_map.2 ⟨q.2, List.mem_map.2 ⟨q, hq, rfl⟩, rfl⟩
end ST
set_option maxRecDepth 100000 in
set_option maxHeartbeats 2000000 in
theorem storeRemove_any {O : Nat → Prop} {w : World} {s D : Nat} {st : Sp.St} (h : Sto O w s D st) (hf : Fit st) (tv : Value) (ns : List Sp.Str) (htv : StrsAt w tv ns) (hns : ns.length ≤ 9000) (hnl : ∀ n ∈ ns, n.length ≤ 10000) :
    Calls Tryz.prog 53 #[.pointer (some ⟨s, 0, none⟩), tv] w fun e w' => ∃ ev, e = .returned ev ∧ ErrAt w' ev (st.remove ns).1 ∧ Chg O w w' ∧ Sto (fun k => O k ∨ w.heap.size ≤ k) w' s D (st.remove ns).2 := by
  have h0 := h
  obtain ⟨mb, ob, OD, S, L, h1, h2, h3, h4, h5, h6, h7, h8⟩ := h
  have hl256 := h2.lens.2.2
  have hfew := hf.few hl256
  rw [← h5, pks_len] at hfew
  have hmlt := h3.map.lt
  have hcl := clone_map mb (kvOf L) w h3.map
  obtain ⟨c0, c1, c2, c3, cz⟩ := h1.cells
  have hlt := h1.lt
  obtain ⟨ta, tc, rfl, htc, htg⟩ := htv.get
  have HTG := Lib.hid htg
  have H0 := Lib.hid h0
  have H1 := Lib.hid h1
  have H2 := Lib.hid h2
  have H3 := Lib.hid h3
  have H5 := Lib.hid h5
  have H6 := Lib.hid h6
  have H7 := Lib.hid h7
  have H8 := Lib.hid h8
  have HF := Lib.hid hf
  have HCL := Lib.hid hcl
  have HNL := Lib.hid hnl
  clear hcl h0 h1 h2 h3 h4 h5 h6 h7 h8 htv hf htg htc hnl
  go_enter Tryz.func53, Tryz.ntmps53
  go_wp2_with fail
  refine HCL.out.mono ?_
  rintro e w1 ⟨rfl, hcm, hb1⟩
  have hz1 := hb1.size
  have hcl := hcm.lt
  have HCM := Lib.hid hcm
  have HB1 := Lib.hid hb1
  clear hcm hb1 HCL
  go_wp2_with fail
  go_loopw [16] (fun i wr => ∃ (k : Nat) (L' : List (Nat × Sp.Pk)), k ≤ ns.length ∧ i = .int .i64 k ∧ Sp.removeAll 0 (pks L) (ns.take k) = .inr (pks L') ∧ L'.Sublist L ∧ MapAt wr w.heap.size (kvOf L') ∧ Below w.heap.size w wr) (fun i _ => ns.length + 1 - (intOf i).toNat)
  case atStart => exact ⟨0, L, Nat.zero_le _, rfl, rfl, List.Sublist.refl _, HCM.out, HB1.out⟩
  case round =>
    obtain ⟨k, L', hk, rfl, hrem, hsub, hmap, hbel⟩ := hrel
    have HREM := Lib.hid hrem
    have HSUB := Lib.hid hsub
    have HMAP := Lib.hid hmap
    have HBEL := Lib.hid hbel
    have hzr := hbel.size
    have hmapl := hmap.lt
    have hapart : L'.Pairwise fun q r => q.2.name ≠ r.2.name := H3.out.2.1.sublist hsub
    have HAP := Lib.hid hapart
    clear hrem hsub hmap hapart
    by_cases hklt : k < ns.length
    · obtain ⟨b, off, rfl, hb, hc⟩ := HTG.out k hklt
      have hc' := (hbel.cell (p := ⟨b, off + k, none⟩) hb).trans hc
      have htk : ns.take (k + 1) = ns.take k ++ [ns[k]] := List.take_succ_eq_append_getElem hklt
      have hsn := ST.rem_snoc (ns.take k) 0 (pks L) ns[k]
      rw [← htk, HREM.out] at hsn
      have hlk : (ns.take k).length = k := by rw [List.length_take]; omega
      rw [hlk] at hsn
      have htd : ns.take (k + 1) ++ ns.drop (k + 1) = ns := List.take_append_drop _ _
      have HSN := Lib.hid hsn
      have HTD := Lib.hid htd
      have hnm : (ns[k]).length ≤ 10000 := HNL.out _ (List.getElem_mem hklt)
      have hlook := HMAP.out.look Tryz.underlying140 zero118 ns[k] (by unfold maxLen; omega)
      have hbW : b < wr.heap.size := by omega
      clear hc htk hsn hlk htd hbel
      generalize hx : ns[k] = n at *
      clear hx
      rcases MP.kv_get (L := L') n with ⟨g1, g2⟩ | ⟨q0, hq0, hqn, g2⟩
      · rw [g1] at hlook
        have hno : (Sp.names (pks L')).contains n = false := by
          rw [← Bool.not_eq_true, ST.names_mem]
          rintro ⟨q, hq, e⟩; exact g2 q hq e
        have hre : Sp.removed st.L ns = .inl ⟨3, 0 + k, 0, n⟩ := by
          have h9 := HSN.out
          simp only [hno] at h9
          have := ST.rem_stop _ (ns.drop (k + 1)) 0 (pks L) h9
          rw [HTD.out] at this
          unfold Sp.removed; rw [← H5.out, this]
        have e1 : st.remove ns = (⟨3, 0 + k, 0, n⟩, st) := by unfold Sp.St.remove; rw [hre]
        have E1 := Lib.hid e1
        have hfa := fault_any 3 (k : Int) n wr
        have HFA := Lib.hid hfa
        clear g1 g2 hno hre e1 hfa
        unfold sv at HFA
        go_wp2_with fail
        refine HFA.out.mono ?_
        rintro e w2 ⟨rfl, hF, hb2⟩
        have HFT := Lib.hid hF
        have HB2 := Lib.hid (HBEL.out.trans (hb2.mono hzr))
        clear hF hb2
        go_wp2
        go_ret
        rw [E1.out]
        refine ⟨_, rfl, .inr ⟨by simp, by simp, _, rfl, ?_⟩, Chg.of_below HB2.out, (H0.out.below HB2.out).mono fun k _ hk => .inl hk⟩
        simpa using HFT.out
      · rw [g2] at hlook
        have hyes : (Sp.names (pks L')).contains n = true := ST.names_mem.2 ⟨q0, hq0, hqn⟩
        have h9 := HSN.out
        simp only [hyes] at h9
        have h9' : Sp.removeAll 0 (pks L) (ns.take (k + 1)) = .inr (pks (MP.dropL L' n)) := by rw [ST.pks_drop]; exact h9
        have H9 := Lib.hid h9'
        clear hyes h9 h9' g2
        go_wp2_with (at_delete; refine wp_map_del _ 140 118 rfl _ _ rfl Tryz.underlying140 w.heap.size (kvOf L') rfl HMAP.out n (by unfold maxLen; omega) rfl ?_; intro w2 hm2 hg2; rw [MP.drop_kv] at hm2)
        have hb2 := grown_below hg2 (Nat.le_refl w.heap.size) hzr
        go_roundw
        case rel => exact ⟨k + 1, MP.dropL L' n, hklt, by go_num, H9.out, (List.filter_sublist).trans HSUB.out, hm2, HBEL.out.trans hb2⟩
        case measure => simp [intOf]; omega
    · obtain rfl : k = ns.length := by omega
      have hrem := HREM.out
      rw [List.take_length] at hrem
      have hset : SetOn S wr w.heap.size L' := SetOn.of_map HMAP.out fun q hq => ⟨(H3.out.2.2 q (HSUB.out.subset hq)).1.keep fun x hx => hbel.block x (H8.out x (.inl hx)).1, (H3.out.2.2 q (HSUB.out.subset hq)).2⟩
      have hln := HSUB.out.length_le
      have hpsub : (pks L').Sublist (pks L) := HSUB.out.map _
      have hne : ∀ p ∈ pks L', p.name ≠ [] := fun p hp => V9.names_ne HF.out.ok.set.good p (by rw [← H5.out]; exact hpsub.subset hp)
      have hlk := lacking_any w.heap.size L' wr (hset.mono fun x hx => by have := (H8.out x (.inl hx)).1; omega) (by omega) hne
      have HLK := Lib.hid hlk
      have HSET := Lib.hid hset
      have HRM := Lib.hid hrem
      clear hlk hset hrem hne hpsub hbel
      go_wp2_with fail
      refine HLK.out.mono ?_
      rintro e w2 ⟨rfl, hb2⟩
      have hz2 := hb2.size
      have hB2 := HBEL.out.trans (hb2.mono hzr)
      have HB2 := Lib.hid hB2
      cases hlack : Sp.lacking (pks L') with
      | cons c r =>
        have hre : Sp.removed st.L ns = .inl ⟨4, 0, 0, c :: r⟩ := by unfold Sp.removed; rw [← H5.out, HRM.out]; simp only; rw [hlack]; rfl
        have e1 : st.remove ns = (⟨4, 0, 0, c :: r⟩, st) := by unfold Sp.St.remove; rw [hre]
        have E1 := Lib.hid e1
        have hfa := fault_any 4 0 (c :: r) w2
        have HFA := Lib.hid hfa
        clear hre e1 hfa hb2 hB2 hlack
        unfold sv at HFA
        unfold sv
        go_wp2_with fail
        refine HFA.out.mono ?_
        rintro e w3 ⟨rfl, hF, hb3⟩
        have HFT := Lib.hid hF
        have HB3 := Lib.hid (HB2.out.trans (hb3.mono (by omega)))
        clear hF hb3
        go_wp2
        go_ret
        rw [E1.out]
        exact ⟨_, rfl, .inr ⟨by simp, by simp, _, rfl, HFT.out⟩, Chg.of_below HB3.out, (H0.out.below HB3.out).mono fun k _ hk => .inl hk⟩
      | nil =>
        have hre : Sp.removed st.L ns = .inr (pks L') := by unfold Sp.removed; rw [← H5.out, HRM.out]; simp only; rw [hlack]; rfl
        obtain ⟨hok, _⟩ := V9.removed_ok HF.out.ok hre
        have hnOD : ∀ x, w.heap.size ≤ x → ¬ OD x ∧ x ≠ s := fun x hx => ⟨fun hy => by have := (H7.out x hy).2.2; omega, by omega⟩
        have hset2 : SetOn S w2 w.heap.size L' := HSET.out.keep (hb2.block _ hmapl) fun x hx => hb2.block x (by have := (H8.out x (.inl hx)).1; omega)
        have hbc := become_any (O := OD) (S := S) (S2 := S) (L2 := L') (H1.out.keep (hB2.block s hlt)) (H2.out.below hB2) (fun hy => (H7.out s hy).2.1 rfl)
          (H3.out.keep (w' := w2) (hB2.block mb hmlt) fun x hx => hB2.block x (H8.out x (.inl hx)).1) (fun x hx => by have := (H8.out x (.inl hx)).1; omega)
          hset2 (fun x hx => ⟨by have := (H8.out x (.inl hx)).1; omega, (H8.out x (.inl hx)).2.2⟩) (hnOD _ (Nat.le_refl _)) hok.set (V9.paths_nodup hok) HF.out.big HF.out.last HF.out.late (by omega)
          (fun he => HSUB.out.eq_of_length he)
        have HBC := Lib.hid hbc
        have HRE := Lib.hid hre
        have HSET2 := Lib.hid hset2
        have hS2 : ∀ x, (S x ∨ x = w.heap.size) → S x ∨ w.heap.size ≤ x := fun x hx => hx.imp id fun e => by omega
        have hS2l : ∀ x, (S x ∨ x = w.heap.size) → x < w2.heap.size := fun x hx => by
          rcases hx with hx | hx
          · have := (H8.out x (.inl hx)).1; omega
          · omega
        have HS2 := Lib.hid hS2
        have HS2L := Lib.hid hS2l
        clear hbc hre hset2 hnOD hok hb2 hB2 hlack hS2 hS2l
        unfold sv
        go_wp2_with fail
        refine HBC.out.mono ?_
        rintro e w3 (⟨hr, b, rfl, hge2, hFa, hb3⟩ | ⟨hr, rfl, hch, ob2, O2, hob, hobl, hobn, hO2, hst, hdk, hmap⟩)
        · have e1 : st.remove ns = (⟨8, 0, 0, []⟩, st) := by unfold Sp.St.remove; rw [HRE.out]; simp only; rw [if_pos hr]
          have E1 := Lib.hid e1
          have HFA := Lib.hid hFa
          have HB3 := Lib.hid (HB2.out.trans (hb3.mono (by omega)))
          clear e1 hFa hb3
          go_wp2
          go_ret
          rw [E1.out]
          exact ⟨_, rfl, .inr ⟨by simp, by simp, b, rfl, HFA.out⟩, Chg.of_below HB3.out, (H0.out.below HB3.out).mono fun k _ hk => .inl hk⟩
        · have e1 : st.remove ns = (Sp.okF, st.become (pks L')) := by unfold Sp.St.remove; rw [HRE.out]; simp only; rw [if_neg (by omega)]
          have E1 := Lib.hid e1
          have hfin := sto_become HB2.out H5.out H1.out H6.out H7.out H8.out HSET2.out HS2.out HS2L.out hch hob hobl hobn hO2 hst hdk hmap
          have HFIN := Lib.hid hfin
          clear e1 hfin hch hO2 hst hdk hmap
          go_wp2
          go_ret
          rw [E1.out]
          exact ⟨_, rfl, .inl ⟨rfl, rfl⟩, HFIN.out⟩
end Go.Proofs.YtfphcecjhdkcoaaGreatDoor

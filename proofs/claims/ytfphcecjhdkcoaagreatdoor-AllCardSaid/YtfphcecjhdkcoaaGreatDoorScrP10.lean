/-
Bytes in memory; their sum (FNV); a number laid in eight bytes.
-/
import Derived.Test.YtfphcecjhdkcoaaGreatDoorScrP06
import Derived.Test.YtfphcecjhdkcoaaGreatDoorScrP07
import Derived.Test.YtfphcecjhdkcoaaGreatDoorScrP09
import Derived.BigQuiet
import Derived.Shelf.SlMaps.Clone
import Derived.Ground.SlmcProg
import Derived.LaidEql
import Derived.WalkMore
set_option maxRecDepth 100000
set_option maxHeartbeats 8000000
namespace Go.Proofs.YtfphcecjhdkcoaaGreatDoor
open Go.Lib (hid)
section
open Go.RowKit
theorem parts_nil(w:World):Calls Tryz.prog 42 #[.nilIface] w fun e w'=>e=.returned (.agg #[.int .i64 0,.int .i64 0,.int .i64 0,.string ⟨#[]⟩])/\Below w.heap.size w w':=by
 go_enter Tryz.func42,Tryz.ntmps42;go_wp2;refine bodyPost_ret (v:=.agg #[.int .i64 0,.int .i64 0,.int .i64 0,.string ⟨#[]⟩]) (by simp[results,Tryz.results42,go_sem]) rfl ⟨rfl,?_⟩;exact(Below.refl _ _).alloc (Nat.le_refl _) _
theorem print_ne(p:Sp.Pk):(Sp.print p == [])=false:=by
 unfold Sp.print;rfl
end
section
open Go.RowKit
def ErrT(w:World):Prop:=w.cell? ⟨0,0,none⟩=some (.iface 251 (.agg #[.pointer (some ⟨6,81,none⟩)]))
structure FaultAt(w:World)(b:Nat)(k which line:Int)(name:Sp.Str):Prop where
 lt:b<w.heap.size
 kind:w.cell? ⟨b,0,none⟩=some (.int .i64 k)
 wh:w.cell? ⟨b,1,none⟩=some (.int .i64 which)
 ln:w.cell? ⟨b,2,none⟩=some (.int .i64 line)
 nm:w.cell? ⟨b,3,none⟩=some (sv name)
theorem as_any(e:Addr)(t:Nat)(old:Value)(w:World)(hg:ErrT w)(ht0:w.cell? ⟨t,0,none⟩=some old)(hf0:∀ o,w.frozen? ⟨t,o,none⟩=false)(_ht:0<t):
  Calls Tryz.prog 65 #[.iface 121 (.pointer (some e)),.iface 127 (.pointer (some ⟨t,0,none⟩))] w fun ev w'=>ev=.returned (.bool true)/\FrN w.heap.size t w w'/\w'.cell? ⟨t,0,none⟩=some (.pointer (some e)):=by
 have hlt:t<w.heap.size:=by
  rcases Nat.lt_or_ge t w.heap.size with h|h
  ·exact h
  ·simp[World.cell?,Array.getElem?_eq_none h] at ht0
 refine(as_hit e ⟨t,0,none⟩ old w hg ht0 (hf0 0)).mono ?_;rintro ev w' ⟨rfl,rfl⟩;have hb:∀ W,Below w.heap.size w W->W.cell? ⟨t,0,none⟩=some old/\∀ o,W.frozen? ⟨t,o,none⟩=false:=fun W hW=>⟨((bcell hW).1 t 0 hlt).trans ht0,fun o=>((bcell hW).2 t o hlt).trans (hf0 o)⟩
 have hbel:=((((Below.refl w.heap.size w).alloc (Nat.le_refl _) (.cells #[.pointer (some ⟨t,0,none⟩)] 127)).alloc (by simp) (.cells #[.pointer (some ⟨6,127,none⟩),.pointer (some ⟨w.heap.size,0,none⟩),.int .u64 150] 193)).alloc (by simp;omega) (.cells #[.pointer (some ⟨6,127,none⟩),.pointer (some ⟨w.heap.size,0,none⟩),.int .u64 150] 193)).alloc (by simp;omega) (.cells #[.pointer (some e)] 121);obtain⟨h1,h2⟩:=hb _ hbel;obtain⟨s1,_⟩:=set_facts _ t 0 (.pointer (some e)) _ h1 h2;exact⟨rfl,(FrN.of_below hbel (Nat.le_refl _)).trans (FrN.set _ _ _ _ _),s1⟩
theorem parts_fault(b:Nat)(k which line:Int)(name:Sp.Str)(w:World)(hg:ErrT w)(hF:FaultAt w b k which line name)(hk1:1<=k)(hk8:k<=8):
  Calls Tryz.prog 42 #[.iface 121 (.pointer (some ⟨b,0,none⟩))] w fun e w'=>e=.returned (.agg #[.int .i64 k,.int .i64 which,.int .i64 line,sv name])/\Below w.heap.size w w':=by
 obtain⟨hbl,f0,f1,f2,f3⟩:=hF;have h0:0<w.heap.size:=by omega
 have H0:=hid f0;have H1:=hid f1;have H2:=hid f2;have H3:=hid f3;clear f0 f1 f2 f3;unfold sv;go_enter Tryz.func42,Tryz.ntmps42;have q0:(k == 0)=false:=by rw[beq_eq_false_iff_ne];omega
 go_wp2_with fail;generalize hw0:((w.alloc (Obj.cells #[Value.int IntKind.i64 0,Value.int IntKind.i64 0,Value.int IntKind.i64 0,Value.string ⟨#[]⟩] 23)).alloc (Obj.cells #[Value.pointer none] 121))=w0;have hs0:w0.heap.size=w.heap.size+2:=by rw[<-hw0];simp
 have hb0:Below w.heap.size w w0:=by rw[<-hw0];exact((Below.refl _ _).alloc (Nat.le_refl _) _).alloc (by simp) _
 have hr0:∀ o,w0.cell? ⟨w.heap.size,o,none⟩=(#[Value.int IntKind.i64 0,Value.int IntKind.i64 0,Value.int IntKind.i64 0,Value.string ⟨#[]⟩]:Array Value)[o]?:=fun o=>by
  rw[<-hw0,World.cell?_alloc_lt _ _ ⟨w.heap.size,o,none⟩ (by simp),World.cell?_alloc_at _ _ _ _ rfl]
 have hz0:∀ o,w0.frozen? ⟨w.heap.size,o,none⟩=false:=fun o=>by rw[<-hw0];simp
 have ht0:w0.cell? ⟨w.heap.size+1,0,none⟩=some (.pointer none):=by rw[<-hw0,World.cell?_alloc_at _ _ _ _ (by simp)];rfl
 have hzt:∀ o,w0.frozen? ⟨w.heap.size+1,o,none⟩=false:=fun o=>by rw[<-hw0];simp
 have hg0:ErrT w0:=(hb0.cell (p:=⟨0,0,none⟩) h0).trans hg;refine(as_any ⟨b,0,none⟩ (w.heap.size+1) _ w0 hg0 ht0 hzt (by omega)).mono ?_;rintro e w1 ⟨rfl,hfr,ct⟩;have hs1:=hfr.size;have c0:=((hfr.cell (p:=⟨b,0,none⟩) (show b<w0.heap.size by omega) (show b≠w.heap.size+1 by omega)).trans (hb0.cell (p:=⟨b,0,none⟩) hbl)).trans H0.out;have c1:=((hfr.cell (p:=⟨b,1,none⟩) (show b<w0.heap.size by omega) (show b≠w.heap.size+1 by omega)).trans (hb0.cell (p:=⟨b,1,none⟩) hbl)).trans H1.out;have c2:=((hfr.cell (p:=⟨b,2,none⟩) (show b<w0.heap.size by omega) (show b≠w.heap.size+1 by omega)).trans (hb0.cell (p:=⟨b,2,none⟩) hbl)).trans H2.out;have c3:=((hfr.cell (p:=⟨b,3,none⟩) (show b<w0.heap.size by omega) (show b≠w.heap.size+1 by omega)).trans (hb0.cell (p:=⟨b,3,none⟩) hbl)).trans H3.out;have r0:=(hfr.cell (p:=⟨w.heap.size,0,none⟩) (show w.heap.size<w0.heap.size by omega) (show w.heap.size≠w.heap.size+1 by omega)).trans (hr0 0);have r1:=(hfr.cell (p:=⟨w.heap.size,1,none⟩) (show w.heap.size<w0.heap.size by omega) (show w.heap.size≠w.heap.size+1 by omega)).trans (hr0 1);have r2:=(hfr.cell (p:=⟨w.heap.size,2,none⟩) (show w.heap.size<w0.heap.size by omega) (show w.heap.size≠w.heap.size+1 by omega)).trans (hr0 2);have r3:=(hfr.cell (p:=⟨w.heap.size,3,none⟩) (show w.heap.size<w0.heap.size by omega) (show w.heap.size≠w.heap.size+1 by omega)).trans (hr0 3);simp only[List.getElem?_toArray,List.getElem?_cons_zero,List.getElem?_cons_succ] at r0 r1 r2 r3;have hblk:=hfr.block w.heap.size (by omega) (by omega);have zz:∀ o,w1.frozen? ⟨w.heap.size,o,none⟩=false:=fun o=>(World.frozen?_of_block (w:=w0) (a:=⟨w.heap.size,o,none⟩) hblk).trans (hz0 o)
 have z0:=zz 0;have z1:=zz 1;have z2:=zz 2;have z3:=zz 3;have hbel:Below w.heap.size w w1:=hb0.trans ⟨hfr.os,hfr.tape,hfr.output,hfr.size,fun x hx=>hfr.block x (by omega) (by omega)⟩;have HIS:=hid (fun (j:Int) (W:World) (hW:W.cell? ⟨b,0,none⟩=some (.int .i64 k))=>is_any b k j W hW);unfold sv at c3;clear hw0 hr0 hz0 ht0 hzt hg0 hblk zz hfr hb0 H0 H1 H2 H3 hg;go_wp2_with fail
 go_loopw [4] (fun i wr=>∃ j n:Nat,j<=9/\i=.int .i64 j/\wr=w1.drewN n) (fun i _=>9-(intOf i).toNat)
 case atStart=>exact⟨0,0,by omega,rfl,rfl⟩
 case round =>
  obtain⟨j,n,hj,rfl,hwr⟩:=hrel;have e0:wr.cell? ⟨b,0,none⟩=some (.int .i64 k):=by rw[hwr];exact c0
  have et:wr.cell? ⟨w.heap.size+1,0,none⟩=some (.pointer (some ⟨b,0,none⟩)):=by rw[hwr];exact ct
  by_cases h:j<=8
  ·have HWR:=hid hwr
   have hgen:∀ N,wr.drewN N=w1.drewN (n+N):=fun N=>by rw[hwr,World.drewN_drewN]
   have HGEN:=hid hgen;clear hwr hgen;have hjk:((j:Int) == k)=(k == (j:Int)):=by rw[Bool.eq_iff_iff];simp;exact⟨fun h=>h.symm,fun h=>h.symm⟩
   have HJK:=hid hjk;clear hjk;go_wp2_with fail;go_quiet (first|(go_at_call 66;refine(HIS.out _ _ ?_).mono fun e w' h=>⟨h.1,_,h.2⟩;exact e0));rw[HJK.out]
   cases (k == (j:Int)) <;> (go_wp2_with fail;exact⟨⟨j+1,_,by omega,by go_num,HGEN.out _⟩,by simp[intOf];omega⟩)
  ·obtain rfl:j=9:=by omega
   have t0:wr.cell? ⟨b,1,none⟩=some (.int .i64 which):=by rw[hwr];exact c1
   have t1:wr.cell? ⟨b,2,none⟩=some (.int .i64 line):=by rw[hwr];exact c2
   have t2:wr.cell? ⟨b,3,none⟩=some (.string ⟨name.toArray⟩):=by rw[hwr];exact c3
   have s0:wr.cell? ⟨w.heap.size,0,none⟩=some (.int .i64 0):=by rw[hwr];exact r0
   have s1:wr.cell? ⟨w.heap.size,1,none⟩=some (.int .i64 0):=by rw[hwr];exact r1
   have s2:wr.cell? ⟨w.heap.size,2,none⟩=some (.int .i64 0):=by rw[hwr];exact r2
   have s3:wr.cell? ⟨w.heap.size,3,none⟩=some (.string ⟨#[]⟩):=by rw[hwr];exact r3
   have y0:wr.frozen? ⟨w.heap.size,0,none⟩=false:=by rw[hwr];exact z0
   have y1:wr.frozen? ⟨w.heap.size,1,none⟩=false:=by rw[hwr];exact z1
   have y2:wr.frozen? ⟨w.heap.size,2,none⟩=false:=by rw[hwr];exact z2
   have y3:wr.frozen? ⟨w.heap.size,3,none⟩=false:=by rw[hwr];exact z3
   have hbr:Below w.heap.size w wr:=by rw[hwr];exact below_drewN hbel n
   clear hwr c0 c1 c2 c3 r0 r1 r2 r3 z0 z1 z2 z3 ct;go_wp2_with fail;go_region;go_wp2_with fail;refine bodyPost_ret (v:=.agg #[.int .i64 k,.int .i64 which,.int .i64 line,.string ⟨name.toArray⟩]) (by simp[results,Tryz.results42,go_sem,s0,s1,s2,s3]) rfl ⟨rfl,?_⟩;refine Below.drew ?_
   repeat' (first|exact hbr|refine Below.setCell ?_ (by simp) _)
end
end Go.Proofs.YtfphcecjhdkcoaaGreatDoor
namespace Go.Proofs
open Go.Shelf
def Tryz.cloneI_ren:Go.Shelf.Ren:=⟨fun|5=>78|7=>131|n=>n,fun|23=>140|25=>9|3=>118|4=>4|20=>20|n=>n,fun|n=>n⟩
theorem Tryz.cloneI:Go.Proofs.SlLaysW.n5 Tryz.prog Tryz.cloneI_ren:={
 mixed:=by kernel_rfl
 f5:=⟨Tryz.f78.name,by decide,Tryz.func78.trans (congrArg some (by kernel_rfl))⟩
 f7:=Tryz.func131.trans (congrArg some (by kernel_rfl))
 t4:=Tryz.underlying4
 a4:=Tryz.isAgg4
 z4:=Tryz.sizeOf4
 v4:=Tryz.zeroValue4
 t20:=Tryz.underlying20
 a20:=Tryz.isAgg20
 z20:=Tryz.sizeOf20
 v20:=Tryz.zeroValue20
 t23:=Tryz.underlying140
 a23:=Tryz.isAgg140
 z23:=Tryz.sizeOf140
 v23:=Tryz.zeroValue140 }
end Go.Proofs
namespace Go.Proofs.YtfphcecjhdkcoaaGreatDoor
open Go.Lib (hid)
open Go.RowKit Go.Maps
theorem clone_map(b:Nat)(kv:KV)(w:World)(h:MapAt w b kv):Calls Tryz.prog 78 #[.map (some b)] w fun e w'=>e=.returned (.map (some w.heap.size))/\MapAt w' w.heap.size kv/\Below w.heap.size w w':=by
 obtain⟨D,h1,h2⟩:=h;refine(AnyW.maps_Clone_owns Tryz.cloneI 9 Rv b _ D w h1).mono ?_;rintro e w' ⟨rfl,h3,_,hb⟩;exact⟨rfl,⟨D,h3,h2⟩,hb⟩
theorem equal_len(b1 b2:Nat)(kv1 kv2:KV)(w:World)(h1:MapAt w b1 kv1)(h2:MapAt w b2 kv2)(hn:kv1.length≠kv2.length):
  Calls Tryz.prog 127 #[.map (some b1),.map (some b2)] w fun e w'=>e=.returned (.bool false)/\Below w.heap.size w w':=by
 have l1:=fun ty=>h1.len Tryz.underlying140 ty
 have l2:=fun ty=>h2.len Tryz.underlying140 ty
 have hne:¬((kv1.length:Int)=(kv2.length:Int)):=fun e=>hn (by exact_mod_cast e)
 go_enter Tryz.func127,Tryz.ntmps127;go_wp2;go_ret;exact⟨rfl,Below.refl _ _⟩
theorem same_ptr(a:Addr)(W:World):(binOp .neq 118 (.pointer (some a)) (.pointer (some a))).run Tryz.prog W=.ok (.bool false) W:=by
 have hi:∃ j,Tryz.prog.info? 175=some j:=by
  cases h:Tryz.prog.info? 175 with
  | none=>exact absurd (congrArg Option.isSome h) (by rw[show(Tryz.prog.info? 175).isSome=true by kernel_rfl];decide)
  | some j=>exact⟨j,rfl⟩
 obtain⟨j,hte⟩:=hi;have h:∀ d:Nat,(Op.equalIn (d+1) 118 (.pointer (some a)) (.pointer (some a))).run Tryz.prog W=.ok true W:=fun d=>by
  simp[Op.equalIn,run_underlying Tryz.underlying118,sizeOf,typeInfo,hte,run_sameAddr_same]
 simp only[binOp];simp[Op.equal,Op.maxDepth,h 9999]
theorem equal_same{S1 S2:Nat->Prop}(b1 b2:Nat)(L:List (Nat × Sp.Pk))(w:World)(h1:SetOn S1 w b1 L)(h2:SetOn S2 w b2 L):
  Calls Tryz.prog 127 #[.map (some b1),.map (some b2)] w fun e w'=>e=.returned (.bool true)/\Below w.heap.size w w':=by
 have l1:=fun ty=>h1.map.len Tryz.underlying140 ty
 have l2:=fun ty=>h2.map.len Tryz.underlying140 ty
 have hlt1:=h1.map.lt;have hlt2:=h2.map.lt;have HL:=hid (fun (W:World) (hW:Below w.heap.size w W) (q:Nat × Sp.Pk) (hq:q∈L)=>(h2.map.below hW hlt2).look_ok Tryz.underlying140 zero118 q.2.name (by have:=(h2.2.2 q hq).2.name;unfold maxLen;omega));have HK:=hid (fun (q:Nat × Sp.Pk) (hq:q∈L)=>MP.kv_at h2.2.1 hq);have HH:=hid (fun (q:Nat × Sp.Pk) (hq:q∈L)=>MP.has_iff (kv:=kvOf L) (x:=q.2.name).2 ⟨(q.2.name,.pointer (some ⟨q.1,0,none⟩)),List.mem_map.2 ⟨q,hq,rfl⟩,rfl⟩);have hsp:=same_ptr;clear h2;go_enter Tryz.func127,Tryz.ntmps127;go_wp2_with (at_range;refine wp_set_range _ 140 118 rfl _ rfl Tryz.underlying140 b1 L rfl h1 ?_;intro w1 hr1 hg1 hs1)
 go_frame
 have hb1:Below w.heap.size w w1:=⟨hg1.os,hg1.tape,hg1.output,by omega,fun k hk=>hg1.block k hk (by simp)⟩
 clear h1 hg1 l1 l2
 go_loopw [16] (fun _ wr=>∃ (T:List (Nat × Sp.Pk)),RangeS wr b1 w.heap.size L T/\Below w.heap.size w wr) (fun _ wr=>wr.rangeLeft b1 w.heap.size)
 case atStart=>exact⟨L,hr1,hb1⟩
 case round =>
  obtain⟨T,hr,hbel⟩:=hrel;go_wp2_with (at_next;refine wp_set_next _ rfl _ rfl b1 w.heap.size L T rfl hr ?_ ?_)
  ·intro hT
   go_wp2;go_ret;exact⟨rfl,hbel⟩
  ·intro tb tp w2 ht hr2 hg2 hs2 hen hleft
   have hq:=hr.sub (tb,tp) ht;have hbel2:Below w.heap.size w w2:=hbel.trans (grown_below hg2 (Nat.le_refl _) hbel.size);have hlk:=HL.out w2 hbel2 (tb,tp) hq;rw[HK.out (tb,tp) hq,HH.out (tb,tp) hq] at hlk;clear hr;go_wp2;go_roundw
   case rel=>exact⟨_,hr2,hbel2⟩
   case measure=>exact hleft
theorem planned1_any(mb:Nat)(L:List (Nat × Sp.Pk))(w:World)(h:SetOn (fun b=>b<w.heap.size) w mb L)(hL:L.length<=100000)(hgood:∀ p∈pks L,Sp.clash1 (p.files.map (·.path))=false/\∀ f∈p.files,f.path≠[]):
  Calls Tryz.prog 124 #[.map (some mb)] w fun e w'=>e=.returned (sv (Sp.clash (pks L)))/\Below w.heap.size w w':=by
 have hc:=clashes_any mb L w h hL;have hpaths:(L.flatMap fun q=>pathsOf q.2)=Sp.paths (pks L):=by unfold Sp.paths pks pathsOf;rw[List.flatMap_map]
 rw[hpaths] at hc;have hne:∀ x∈Sp.paths (pks L),x≠[]:=fun x hx=>by
  unfold Sp.paths at hx;obtain⟨p,hp,hx⟩:=List.mem_flatMap.1 hx;obtain⟨f,hf,rfl⟩:=List.mem_map.1 hx;exact(hgood p hp).2 f hf
 have key:∀ l:List Sp.Str,l.Pairwise (·<=·)->(∀ x:Sp.Str,x∈l↔x∈Sp.paths (pks L)/\(2<=(Sp.paths (pks L)).count x\/x∈(Sp.paths (pks L)).flatMap Sp.folders))->Sp.clash (pks L)=l.head?.getD []:=by
  intro l ho hm;have he:∀ x,x∈(Sp.paths (pks L)).filter (Sp.clashAt (pks L))↔x∈l:=by
   intro x;rw[hm,List.mem_filter];refine and_congr_right fun _=>?_
   unfold Sp.clashAt;rw[Bool.or_eq_true,decide_eq_true_eq,List.mem_flatMap,List.any_eq_true,or_comm];refine or_congr_right ⟨fun ⟨q,hq,h⟩=>⟨q,hq,(mem_folders x q).2 h⟩,fun ⟨q,hq,h⟩=>⟨q,hq,(mem_folders x q).1 h⟩⟩
  have hnf:∀ x∈(Sp.paths (pks L)).filter (Sp.clashAt (pks L)),x≠[]:=fun x hx=>hne x (List.mem_filter.1 hx).1
  unfold Sp.clash
  cases l with
  | nil=>rw[(V5.least_none hnf).2 (List.eq_nil_iff_forall_not_mem.2 fun x hx=>by have:=(he x).1 hx;cases this)];rfl
  | cons a r =>
   refine V5.least_eq hnf ((he a).2 (by simp)) fun x hx=>?_
   rcases List.mem_cons.1 ((he x).1 hx) with rfl|hx
   ·exact List.le_refl _
   ·exact(List.pairwise_cons.1 ho).1 x hx
 have HC:=hid hc;have HKEY:=hid key;clear hc key hne hpaths hgood h;go_enter Tryz.func124,Tryz.ntmps124;go_wp2_with fail;refine HC.out.mono ?_;rintro e w1 ⟨v,l,rfl,hb1,hv,ho,hm⟩;have hk:=HKEY.out l ho hm;have HK:=hid hk;obtain⟨a,cap,rfl,hcap,hget⟩:=hv.get;clear hk hv ho hm HC HKEY
 cases l with
 | nil =>
  go_wp2;go_ret;exact⟨by rw[HK.out];rfl,hb1⟩
 | cons x r =>
  obtain⟨b,off,rfl,hbb,hcell⟩:=hget 0 (by simp);have hcell':w1.cell? ⟨b,off,none⟩=some (.string ⟨x.toArray⟩):=hcell;have hlen:(r.length:Int)+1≠0:=by omega
  have hlen2:(0:Int)<(r.length:Int)+1:=by omega
  go_wp2;go_ret;exact⟨by rw[HK.out];rfl,hb1⟩
theorem fault_any(k which:Int)(name:Sp.Str)(w:World):Calls Tryz.prog 79 #[.int .i64 k,.int .i64 which,sv name] w fun e w'=>e=.returned (.pointer (some ⟨w.heap.size,0,none⟩))/\FaultAt w' w.heap.size k which 0 name/\Below w.heap.size w w':=by
 unfold sv;go_enter Tryz.func79,Tryz.ntmps79;go_wp2;go_ret;refine⟨rfl,⟨by simp,?_,?_,?_,?_⟩,(Below.refl _ _).alloc (Nat.le_refl _) _⟩ <;> rw[World.cell?_alloc_at _ _ _ _ rfl] <;> rfl
end Go.Proofs.YtfphcecjhdkcoaaGreatDoor
namespace Go.Proofs.YtfphcecjhdkcoaaGreatDoor
open Go.Lib (hid)
section
open Go.RowKit Go.Maps
namespace MP
def needs1(there:List Sp.Pk)(p:Sp.Pk)(g:List Sp.Ch):Bool:=!Sp.any1 g there && !Sp.any1 g [p]
theorem waits_eq(there:List Sp.Pk)(p q:Sp.Pk):Sp.waitsFor there p q=p.needs.any fun g=>needs1 there p g && Sp.any1 g [q]:=rfl
theorem any1_one(g:List Sp.Ch)(q:Sp.Pk):Sp.any1 g [q]=g.any fun c=>Sp.fits c q:=by
 unfold Sp.any1
 congr 1;funext c
 simp
structure Pick(F O:List (Nat × Sp.Pk))(P:Sp.Pk->Bool):Prop where
 sub:∀ q∈O,q∈F
 apart:O.Pairwise fun q r=>q.2.name≠r.2.name
 iff_:∀ q∈F,q∈O↔P q.2=true
theorem Pick.nil(F:List (Nat × Sp.Pk)){P:Sp.Pk->Bool}(h:∀ q∈F,P q.2=false):Pick F [] P:=⟨fun q hq=>by(cases hq),List.Pairwise.nil,fun q hq=>by rw[h q hq];simp⟩
theorem Pick.congr{F O:List (Nat × Sp.Pk)}{P Q:Sp.Pk->Bool}(h:Pick F O P)(he:∀ q∈F,P q.2=Q q.2):Pick F O Q:=⟨h.sub,h.apart,fun q hq=>by rw[h.iff_ q hq,he q hq]⟩
theorem Pick.perm{F O:List (Nat × Sp.Pk)}{P:Sp.Pk->Bool}(hF:F.Pairwise fun q r=>q.2.name≠r.2.name)(h:Pick F O P):O.Perm (F.filter fun q=>P q.2):=by
 have hnd:O.Nodup:=h.apart.imp fun hab e=>hab (by rw[e])
 have hnf:F.Nodup:=hF.imp fun hab e=>hab (by rw[e])
 refine(List.perm_ext_iff_of_nodup hnd (hnf.sublist List.filter_sublist)).2 fun q=>?_
 rw[List.mem_filter];exact⟨fun hq=>⟨h.sub q hq,(h.iff_ q (h.sub q hq)).1 hq⟩,fun hq=>(h.iff_ q hq.1).2 hq.2⟩
theorem Pick.len{F O:List (Nat × Sp.Pk)}{P:Sp.Pk->Bool}(hF:F.Pairwise fun q r=>q.2.name≠r.2.name)(h:Pick F O P):O.length<=F.length:=by
 rw[(h.perm hF).length_eq];exact List.length_filter_le _ _
theorem Pick.add{F O:List (Nat × Sp.Pk)}{P Q:Sp.Pk->Bool}(hF:F.Pairwise fun q r=>q.2.name≠r.2.name)(h:Pick F O P){q0:Nat × Sp.Pk}(h0:q0∈F)(hn:q0 ∉ O)(he:∀ q∈F,Q q.2=true↔P q.2=true\/q=q0):Pick F (O ++ [q0]) Q:=by
 refine⟨fun q hq=>?_,?_,fun q hq=>?_⟩
 ·rcases List.mem_append.1 hq with hq|hq
  ·exact h.sub q hq
  ·rw[List.mem_singleton] at hq;exact hq ▸ h0
 ·rw[List.pairwise_append]
  refine⟨h.apart,by simp,fun q hq r hr=>?_⟩;rw[List.mem_singleton] at hr;subst hr;intro e;exact hn (names_one hF q (h.sub q hq) r h0 e ▸ hq)
 ·rw[List.mem_append,List.mem_singleton,he q hq,h.iff_ q hq]
theorem Pick.same{F O:List (Nat × Sp.Pk)}{P Q:Sp.Pk->Bool}(h:Pick F O P){q0:Nat × Sp.Pk}(h0:q0∈O)(he:∀ q∈F,Q q.2=true↔P q.2=true\/q=q0):Pick F O Q:=by
 refine⟨h.sub,h.apart,fun q hq=>?_⟩;rw[he q hq,<-h.iff_ q hq];exact⟨fun h=>.inl h,fun h=>h.elim id fun e=>e ▸ h0⟩
theorem has_kv{O:List (Nat × Sp.Pk)}{n:Sp.Str}:hasKV (kvOf O) n=true↔∃ q∈O,q.2.name=n:=by
 rw[has_iff];constructor
 ·rintro ⟨x,hx,rfl⟩;obtain⟨q,hq,rfl⟩:=List.mem_map.1 hx;exact⟨q,hq,rfl⟩
 ·rintro ⟨q,hq,rfl⟩;exact⟨_,List.mem_map.2 ⟨q,hq,rfl⟩,rfl⟩
theorem fits_iff{F:List (Nat × Sp.Pk)}(hF:F.Pairwise fun q r=>q.2.name≠r.2.name){c:Sp.Ch}{q0:Nat × Sp.Pk}(h0:q0∈F)(hn:q0.2.name=c.name)(hf:Sp.fits c q0.2=true):∀ q∈F,Sp.fits c q.2=true↔q=q0:=by
 intro q hq;constructor
 ·intro h
  unfold Sp.fits at h;rw[Bool.and_eq_true] at h;exact names_one hF q hq q0 h0 ((eq_of_beq h.1).symm.trans hn.symm)
 ·rintro rfl;exact hf
theorem take_any{α:Type}{l:List α}{f:α->Bool}{k:Nat}(hk:k<l.length):(l.take (k+1)).any f=((l.take k).any f || f l[k]):=by
 rw[List.take_succ_eq_append_getElem hk,List.any_append];simp
end MP
theorem kv_snoc(O:List (Nat × Sp.Pk))(q:Nat × Sp.Pk):kvOf (O ++ [q])=kvOf O ++ [(q.2.name,.pointer (some ⟨q.1,0,none⟩))]:=by simp[kvOf]
theorem waits_any(pb mt mf:Nat)(p:Sp.Pk)(L F:List (Nat × Sp.Pk))(w:World)(hT:SetOn (fun b=>b<w.heap.size) w mt L)(hF:SetOn (fun b=>b<w.heap.size) w mf F)(hp:IsPack (fun b=>b<w.heap.size) w pb p)(hok:PkOk p)(hmax:F.length<100000000):
  Calls Tryz.prog 172 #[.pointer (some ⟨pb,0,none⟩),.map (some mt),.map (some mf)] w fun e w'=>e=.returned (.map (some w.heap.size))/\(∃ O,MapAt w' w.heap.size (kvOf O)/\MP.Pick F O (Sp.waitsFor (pks L) p))/\Below w.heap.size w w':=by
 have hmm:=@run_makeMap Tryz.prog;have hap:=hF.2.1;have hmtl:=hT.map.lt;have hmfl:=hF.map.lt;have HT:=hid hT;have HF:=hid hF;have HP:=hid hp;have HOK:=hid hok;have HAP:=hid hap;obtain⟨nv,bv,fv,hS,h0,h1,h2,h3,h4,g0,g1,g2,n0,n1⟩:=hp;obtain⟨na,nc,rfl,hnc,gn⟩:=g0.get;have GN:=hid gn;have hnl:=hok.needs;have hnm:=hok.name;clear hT hF hap g0 g1 g2 n0 n1 gn h1 h3 h4 hok;unfold sv at h2;go_enter Tryz.func172,Tryz.ntmps172;go_wp2
 go_loopw [20] (fun i wr=>∃ (k:Nat) (O:List (Nat × Sp.Pk)),k<=p.needs.length/\i=.int .i64 k/\MapAt wr w.heap.size (kvOf O)/\MP.Pick F O (fun q=>(p.needs.take k).any fun g=>MP.needs1 (pks L) p g && Sp.any1 g [q])/\Below w.heap.size w wr) (fun i _=>p.needs.length+1-(intOf i).toNat)
 case atStart=>exact⟨0,[],Nat.zero_le _,rfl,MapAt.made w,MP.Pick.nil F (fun _ _=>rfl),(Below.refl _ _).alloc (Nat.le_refl _) _⟩
 case round =>
  obtain⟨k,O,hk,rfl,hO,hpick,hbel⟩:=hrel;have HO:=hid hO;have HPI:=hid hpick;clear hO hpick
  by_cases h:k<p.needs.length
  ·obtain⟨gb,goff,x,rfl,hgb,hgc,hgch⟩:=GN.out k h
   have hgc':=(hbel.cell (p:=⟨gb,goff+k,none⟩) hgb).trans hgc;obtain⟨hgl,hgok⟩:=HOK.out.groups _ (List.getElem_mem h);have HGC:=hid hgch;have HGO:=hid hgok;have hws:=hbel.size;have hcall:=has_any x p.needs[k] mt L wr (HT.out.below hbel) ((SlOn.keep hgch fun y hy=>hbel.block y hy).mono fun y hy=>Nat.lt_of_lt_of_le hy hws) hgl hgok;have HCALL:=hid hcall;have HNX:=hid (fun f=>MP.take_any (f:=f) h);clear hcall hgc hgch hgok;generalize hgk:p.needs[k]=g at *;have HGK:=hid hgk;clear hgk;have HBW:=hid (fun (W:World) (hW:Below wr.heap.size wr W)=>hbel.trans (hW.mono hws))
   cases hg1:Sp.any1 g (pks L) with
   | true =>
    have HG1:=hid hg1;clear hg1;go_wp2_with fail;refine HCALL.out.mono ?_;rintro e w1 ⟨rfl,hb1⟩;rw[HG1.out];go_wp2;go_roundw
    case rel=>exact⟨k+1,O,h,by go_num,HO.out.below hb1 HO.out.lt,HPI.out.congr fun q _=>by rw[HNX.out];simp[MP.needs1,HG1.out],HBW.out _ hb1⟩
    case measure=>simp[intOf];omega
   | false =>
    have HG1:=hid hg1;clear hg1;go_wp2_with fail;refine HCALL.out.mono ?_;rintro e w1 ⟨rfl,hb1⟩;rw[HG1.out];have hws1:=hb1.size;obtain⟨w7,hins,hown7,hg7⟩:=(MapAt.made w1).put (t:=140) Tryz.underlying140 (by decide) p.name (by unfold maxLen;omega) rfl (.pointer (some ⟨pb,0,none⟩));have hs7:=hg7.size;simp only[World.size_alloc] at hs7;have hb7:Below w1.heap.size w1 w7:=⟨hg7.os,hg7.tape,hg7.output,by omega,fun k hk=>(hg7.block k (by simp;omega) (by simp;omega)).trans (Below.heap_alloc _ _ _ hk)⟩
    have hb17:Below wr.heap.size wr w7:=hb1.trans (hb7.mono hws1);have hone:SetOn (fun b=>b<w7.heap.size) w7 w1.heap.size [(pb,p)]:=SetOn.of_map hown7 fun q hq=>by
     rw[List.mem_singleton] at hq;subst hq;exact⟨(HP.out.keep fun y hy=>(hbel.trans (hb17.mono hws)).block y hy).mono fun y hy=>Nat.lt_of_lt_of_le hy (hbel.trans (hb17.mono hws)).size,HOK.out⟩
    have hcall2:=has_any x g w1.heap.size [(pb,p)] w7 hone ((SlOn.keep HGC.out fun y hy=>(hbel.trans (hb17.mono hws)).block y hy).mono fun y hy=>Nat.lt_of_lt_of_le hy (hbel.trans (hb17.mono hws)).size) hgl HGO.out;have HCALL2:=hid hcall2;have h2':=((hbel.trans (hb1.mono hws)).cell (p:=⟨pb,2,none⟩) hS).trans h2;have hSw:pb<w1.heap.size:=by omega
    clear hcall2 hone hown7 hg7
    cases hg2:Sp.any1 g [p] with
    | true =>
     have HG2:=hid hg2;clear hg2;go_wp2_with fail;refine HCALL2.out.mono ?_;rintro e w2 ⟨rfl,hb2⟩;rw[show pks [(pb,p)]=[p] from rfl,HG2.out];have hbA:Below wr.heap.size wr w2:=hb17.trans (hb2.mono hb17.size);go_wp2;go_roundw
     case rel=>exact⟨k+1,O,h,by go_num,HO.out.below hbA HO.out.lt,HPI.out.congr fun q _=>by rw[HNX.out];simp[MP.needs1,HG2.out],HBW.out _ hbA⟩
     case measure=>simp[intOf];omega
    | false =>
     have HG2:=hid hg2;clear hg2;go_wp2_with fail;refine HCALL2.out.mono ?_;rintro e w2 ⟨rfl,hb2⟩;rw[show pks [(pb,p)]=[p] from rfl,HG2.out];have hbA:Below wr.heap.size wr w2:=hb17.trans (hb2.mono hb17.size);have hO2:=HO.out.below hbA HO.out.lt;have hb2w:=HBW.out _ hbA;obtain⟨ca,cc,rfl,hcc,hcg⟩:=HGC.out.get;have HCG:=hid hcg;have HO2:=hid hO2;clear hcg hO2 HO HCALL HCALL2 hins h2' hb7 hb1 hb17 hb2;go_wp2
     go_loopw [40] (fun i wi=>∃ (j:Nat) (O':List (Nat × Sp.Pk)),j<=g.length/\i=.int .i64 j/\MapAt wi w.heap.size (kvOf O')/\MP.Pick F O' (fun q=>((p.needs.take k).any fun g=>MP.needs1 (pks L) p g && Sp.any1 g [q]) || (g.take j).any fun c=>Sp.fits c q)/\Below w.heap.size w wi) (fun i _=>g.length+1-(intOf i).toNat)
     case atStart=>exact⟨0,O,Nat.zero_le _,rfl,HO2.out,HPI.out.congr fun q _=>by simp,hb2w⟩
     case round =>
      obtain⟨j,O',hj,rfl,hO',hpick',hbi⟩:=hrel;have HO':=hid hO';have HPI':=hid hpick';have hwi:=hbi.size;clear hO' hpick'
      by_cases hjl:j<g.length
      ·obtain⟨cb,coff,rfl,hcb,hc0,hc1,hc2⟩:=HCG.out j hjl
       have d0:=(hbi.cell (p:=⟨cb,coff+j*3,none⟩) hcb).trans hc0;have d1:=(hbi.cell (p:=⟨cb,coff+j*3+1,none⟩) hcb).trans hc1;have d2:=(hbi.cell (p:=⟨cb,coff+j*3+2,none⟩) hcb).trans hc2;have hcok:=HGO.out _ (List.getElem_mem hjl);have HNJ:=hid (fun f=>MP.take_any (f:=f) hjl);have hbA:Below wr.heap.size wr (wr.alloc (.cells #[sv g[j].name,sv g[j].sign,sv g[j].ver] 187)):=(Below.refl _ wr).alloc (Nat.le_refl _) _;have hFr:=HF.out.below hbi;have hcall:=fits_look g[j] mf F wr hFr hcok _ hbA;have hlk2:=(hFr.map.below hbA hFr.map.lt).look Tryz.underlying140 zero118 g[j].name (by unfold ChOk at hcok;unfold maxLen;omega);have HCALL:=hid hcall;have hOA:=HO'.out.below hbA HO'.out.lt;have hol:=HPI'.out.len HAP.out;have hOL:=HO'.out.lt;clear hcall hc0 hc1 hc2 HCG hFr;unfold sv at d0 d1 d2 hlk2 HCALL hbA hOA;generalize hcj:g[j]=c at *;have HCJ:=hid hcj;clear hcj
       rcases MP.kv_get (L:=F) c.name with⟨h1,h2'⟩|⟨q0,hq0,hqn,h2'⟩
       ·have hf:(pks F).any (Sp.fits c)=false:=MP.none_fits c h2'
        have HFF:=hid hf;rw[h1] at hlk2 HCALL;clear hf h2' h1;go_wp2_with fail;refine HCALL.out.mono ?_;rintro e w3 ⟨rfl,hb3⟩;rw[HFF.out];have hs3:=hb3.size;have hbA3:=hbA.trans (hb3.mono hbA.size);go_wp2;go_roundw
        case rel=>exact⟨j+1,O',hjl,by go_num,hOA.below hb3 hOA.lt,HPI'.out.congr fun q hq=>by
          have hfq:Sp.fits c q.2=false:=by
           have:=HFF.out;rw[List.any_eq_false] at this
           simpa using this q.2 (List.mem_map.2 ⟨q,hq,rfl⟩)
          rw[HNJ.out,hfq,Bool.or_false],hbi.trans (hbA3.mono hwi)⟩
        case measure=>simp[intOf];omega
       ·rw[h2'] at hlk2 HCALL
        clear h2'
        cases hf:(pks F).any (Sp.fits c) with
        | false =>
         have HFF:=hid hf;clear hf;go_wp2_with fail;refine HCALL.out.mono ?_;rintro e w3 ⟨rfl,hb3⟩;rw[HFF.out];have hs3:=hb3.size;have hbA3:=hbA.trans (hb3.mono hbA.size);go_wp2;go_roundw
         case rel=>exact⟨j+1,O',hjl,by go_num,hOA.below hb3 hOA.lt,HPI'.out.congr fun q hq=>by
           have hfq:Sp.fits c q.2=false:=by
            have:=HFF.out;rw[List.any_eq_false] at this
            simpa using this q.2 (List.mem_map.2 ⟨q,hq,rfl⟩)
           rw[HNJ.out,hfq,Bool.or_false],hbi.trans (hbA3.mono hwi)⟩
         case measure=>simp[intOf];omega
        | true =>
         have hf0:=(MP.any_fits HAP.out c hq0 hqn).symm.trans hf;have hfi:=MP.fits_iff HAP.out hq0 hqn hf0;have HFF:=hid hf;have HFI:=hid hfi;have hcn:c.name.length<=maxLen:=by unfold ChOk at hcok;unfold maxLen;omega
         clear hf hf0 hfi
         by_cases hin:q0∈O'
         ·go_wp2_with fail
          refine HCALL.out.mono ?_;rintro e w3 ⟨rfl,hb3⟩;rw[HFF.out];have hs3:=hb3.size;have hbA3:=hbA.trans (hb3.mono hbA.size);have hO3:=hOA.below hb3 hOA.lt;have k0:=hb3.cell (p:=⟨wr.heap.size,0,none⟩) (show wr.heap.size<_ by simp);rw[World.cell?_alloc_at _ _ _ _ rfl] at k0;simp only[List.getElem?_toArray,List.getElem?_cons_zero] at k0;go_wp2_with (at_mapUpdate;refine wp_map_same _ 140 118 rfl _ _ _ rfl Tryz.underlying140 w.heap.size (kvOf O') rfl hO3 (by unfold kvOf;rw[List.length_map];omega) c.name (.pointer (some ⟨q0.1,0,none⟩)) (by rw[<-hqn];exact List.mem_map.2 ⟨q0,hin,rfl⟩) rfl rfl ?_;intro w4 hO4 hg4);have hb4:Below w.heap.size w3 w4:=grown_below hg4 (Nat.le_refl _) (by have:=hbA3.size;omega);go_roundw
          case rel=>exact⟨j+1,O',hjl,by go_num,hO4,HPI'.out.same hin fun q hq=>by rw[HNJ.out,Bool.or_eq_true,Bool.or_eq_true,Bool.or_eq_true,HFI.out q hq,or_assoc],(hbi.trans (hbA3.mono hwi)).trans hb4⟩
          case measure=>simp[intOf];omega
         ·have hnew:hasKV (kvOf O') c.name=false:=by
           rw[<-Bool.not_eq_true,MP.has_kv];rintro ⟨q,hq,hqc⟩;have:=names_one HAP.out q (HPI'.out.sub q hq) q0 hq0 (hqc.trans hqn.symm);exact hin (this ▸ hq)
          go_wp2_with fail;refine HCALL.out.mono ?_;rintro e w3 ⟨rfl,hb3⟩;rw[HFF.out];have hs3:=hb3.size;have hbA3:=hbA.trans (hb3.mono hbA.size);have hO3:=hOA.below hb3 hOA.lt;have k0:=hb3.cell (p:=⟨wr.heap.size,0,none⟩) (show wr.heap.size<_ by simp);rw[World.cell?_alloc_at _ _ _ _ rfl] at k0;simp only[List.getElem?_toArray,List.getElem?_cons_zero] at k0;go_wp2_with (at_mapUpdate;refine wp_map_put _ 140 118 rfl _ _ _ rfl Tryz.underlying140 w.heap.size (kvOf O') rfl hO3 (by unfold kvOf;rw[List.length_map];omega) c.name hcn hnew rfl (.pointer (some ⟨q0.1,0,none⟩)) rfl ?_;intro w4 hO4 hg4);have hb4:Below w.heap.size w3 w4:=grown_below hg4 (Nat.le_refl _) (by have:=hbA3.size;omega);have hO5:MapAt w4 w.heap.size (kvOf (O' ++ [q0])):=by rw[kv_snoc,hqn];exact hO4
          go_roundw
          case rel=>exact⟨j+1,O' ++ [q0],hjl,by go_num,hO5,HPI'.out.add HAP.out hq0 hin fun q hq=>by rw[HNJ.out,Bool.or_eq_true,Bool.or_eq_true,Bool.or_eq_true,HFI.out q hq,or_assoc],(hbi.trans (hbA3.mono hwi)).trans hb4⟩
          case measure=>simp[intOf];omega
      ·obtain rfl:j=g.length:=by omega
       go_wp2;go_roundw
       case rel=>exact⟨k+1,O',h,by go_num,HO'.out,HPI'.out.congr fun q _=>by rw[HNX.out,List.take_length];simp[MP.needs1,HG1.out,HG2.out,MP.any1_one],hbi⟩
       case measure=>simp[intOf];omega
  ·obtain rfl:k=p.needs.length:=by omega
   go_wp2;go_ret;exact⟨rfl,⟨O,HO.out,HPI.out.congr fun q _=>by rw[List.take_length,MP.waits_eq]⟩,hbel⟩
end
section
open Go.RowKit Go.Maps
abbrev LM:=List ((Nat × Sp.Pk) × Nat)
def lkv(M:LM):KV:=M.map fun m=>(m.1.2.name,.map (some m.2))
def remOf(M:LM):List (Nat × Sp.Pk):=M.map (·.1)
def dropM(M:LM)(n:Sp.Str):LM:=M.filter fun m=>m.1.2.name != n
theorem zero140(w:World):(zeroValue 140).run Tryz.prog w=.ok (.map none) w:=by kernel_rfl
theorem drop_lkv(M:LM)(n:Sp.Str):dropKV (lkv M) n=lkv (dropM M n):=by
 unfold dropKV lkv dropM;rw[List.filter_map];rfl
theorem drop_rem(M:LM)(n:Sp.Str):remOf (dropM M n)=MP.dropL (remOf M) n:=by
 unfold remOf dropM MP.dropL;rw[List.filter_map];rfl
theorem lkv_names(M:LM):(lkv M).map (·.1)=Sp.names (pks (remOf M)):=by
 unfold lkv Sp.names pks remOf;rw[List.map_map,List.map_map,List.map_map];rfl
theorem lkv_len(M:LM):(lkv M).length=M.length:=by unfold lkv;rw[List.length_map]
theorem MP.Pick.drop{F O:List (Nat × Sp.Pk)}{P:Sp.Pk->Bool}(h:MP.Pick F O P)(n:Sp.Str):MP.Pick (MP.dropL F n) (MP.dropL O n) P:=by
 unfold MP.dropL;refine⟨fun q hq=>?_,h.apart.sublist List.filter_sublist,fun q hq=>?_⟩
 ·obtain⟨h1,h2⟩:=List.mem_filter.1 hq
  exact List.mem_filter.2 ⟨h.sub q h1,h2⟩
 ·obtain⟨h1,h2⟩:=List.mem_filter.1 hq
  rw[List.mem_filter,h.iff_ q h1];exact⟨fun h=>h.1,fun h=>⟨h,h2⟩⟩
structure LeftAt(w:World)(lb b0 B:Nat)(there:List Sp.Pk)(M:LM):Prop where
 map:MapAt w lb (lkv M)
 each:∀ m∈M,∃ O,MapAt w m.2 (kvOf O)/\MP.Pick (remOf M) O (Sp.waitsFor there m.1.2)
 apart:M.Pairwise fun m n=>m.1.2.name≠n.1.2.name
 blocks:M.Pairwise fun m n=>m.2≠n.2
 lb_:b0<=lb/\lb<B
 obs:∀ m∈M,b0<=m.2/\m.2<B/\m.2≠lb
theorem LeftAt.keep{w w':World}{lb b0 B:Nat}{there:List Sp.Pk}{M:LM}(h:LeftAt w lb b0 B there M)(hb:∀ k,k<B->w'.heap[k]? = w.heap[k]?):LeftAt w' lb b0 B there M:=
 ⟨h.map.block (hb _ h.lb_.2),fun m hm=>by
  obtain⟨O,h1,h2⟩:=h.each m hm;exact⟨O,h1.block (hb _ (h.obs m hm).2.1),h2⟩,h.apart,h.blocks,h.lb_,h.obs⟩
theorem LeftAt.rem_apart{w:World}{lb b0 B:Nat}{there:List Sp.Pk}{M:LM}(h:LeftAt w lb b0 B there M):(remOf M).Pairwise fun q r=>q.2.name≠r.2.name:=List.pairwise_map.2 h.apart
def freeB(there:List Sp.Pk)(M:LM)(p:Sp.Pk):Bool:=!(pks (remOf M)).any (Sp.waitsFor there p)
theorem pick_free{there:List Sp.Pk}{M:LM}{O:List (Nat × Sp.Pk)}{p:Sp.Pk}(h:MP.Pick (remOf M) O (Sp.waitsFor there p)):O=[]↔freeB there M p=true:=by
 unfold freeB;rw[Bool.not_eq_true',List.any_eq_false];constructor
 ·rintro rfl q hq hw
  obtain⟨r,hr,rfl⟩:=List.mem_map.1 hq;have:=(h.iff_ r hr).2 hw
  cases this
 ·intro hall
  refine List.eq_nil_iff_forall_not_mem.2 fun q hq=>?_
  exact hall q.2 (List.mem_map.2 ⟨q,h.sub q hq,rfl⟩) ((h.iff_ q (h.sub q hq)).1 hq)
theorem order_step{there:List Sp.Pk}{l:List Sp.Pk}{n:Nat}{m:Sp.Str}(hm:Sp.least ((Sp.free there l).map (·.name))=m)(hne:m≠[]):
  Sp.orderN there (n+1) l=(m :: (Sp.orderN there n (l.filter fun p=>p.name != m)).1,(Sp.orderN there n (l.filter fun p=>p.name != m)).2):=by
 have he:m.isEmpty=false:=by
  cases m with
  | nil=>exact absurd rfl hne
  | cons a b=>rfl
 rw[Sp.orderN,hm,he]
 rfl
theorem order_stuck{there:List Sp.Pk}{l:List Sp.Pk}(n:Nat)(hm:Sp.least ((Sp.free there l).map (·.name))=[]):Sp.orderN there n l=([],l):=by
 cases n with
 | zero=>rfl
 | succ n=>rw[Sp.orderN,hm];rfl
theorem free_least{L:List (Nat × Sp.Pk)}(ha:L.Pairwise fun q r=>q.2.name≠r.2.name)(hn:∀ p∈pks L,p.name≠[])(there:List Sp.Pk):
  Sp.least ((Sp.free there (pks L)).map (·.name))=((Sp.sorted (Sp.names (pks L))).find? (MP.byN L fun p=>!(pks L).any (Sp.waitsFor there p))).getD []:=MP.first_of ha hn _
theorem row_mid{wa w':World}{B:Nat}{e:TypeId}{size n:Nat}{v:Value}{xs:List Value}(h:wa.ownsRow B e size v n xs)(hb:∀ k,B<=k->k<wa.heap.size->w'.heap[k]? = wa.heap[k]?):w'.ownsRow B e size v n xs:=by
 obtain⟨hl,h⟩:=h;refine⟨hl,?_⟩
 rcases h with h|⟨g,cap,cur,hv,hg,hh,r⟩
 ·exact .inl h
 ·exact .inr ⟨g,cap,cur,hv,hg,(hb g hg (Array.getElem?_eq_some_iff.1 hh).1).trans hh,r⟩
end
section
open Go.RowKit Go.Maps
def StrsFrom(B:Nat)(w:World)(v:Value)(l:List Sp.Str):Prop:=SlOn (fun b=>B<=b/\b<w.heap.size) w 1 v (l.map fun s=>[sv s])
theorem StrsFrom.at_{B:Nat}{w:World}{v:Value}{l:List Sp.Str}(h:StrsFrom B w v l):StrsAt w v l:=SlOn.mono h fun _ hb=>hb.2
theorem StrsFrom.base{B B':Nat}{w:World}{v:Value}{l:List Sp.Str}(h:StrsFrom B w v l)(hB:B'<=B):StrsFrom B' w v l:=SlOn.mono h fun _ hb=>⟨Nat.le_trans hB hb.1,hb.2⟩
theorem StrsFrom.below{B:Nat}{w w':World}{v:Value}{l:List Sp.Str}(h:StrsFrom B w v l)(hb:Below w.heap.size w w'):StrsFrom B w' v l:=SlOn.mono (SlOn.keep h fun b hm=>hb.block b hm.2) fun _ hm=>⟨hm.1,Nat.lt_of_lt_of_le hm.2 hb.size⟩
theorem StrsFrom.nil(B:Nat)(w:World):StrsFrom B w (.slice none 0 0) []:=SlOn.nil _ w 1
theorem StrsFrom.of_row{w:World}{B B':Nat}{e:TypeId}{v:Value}{l:List Sp.Str}(h:w.ownsRow B e 1 v l.length (l.map sv))(hB:B'<=B):StrsFrom B' w v l:=by
 have e1:(l.map fun s=>[sv s]).flatten=l.map sv:=by
  induction l with
  | nil=>rfl
  | cons a r ih =>
   rw[List.map_cons,List.flatten_cons,List.map_cons];have:(r.map fun s=>[sv s]).flatten=r.map sv:=by clear ih h;induction r with
    | nil=>rfl
    | cons b q ih=>rw[List.map_cons,List.flatten_cons,List.map_cons,ih];rfl
   rw[this];rfl
 refine SlOn.mono (sl_of_row (B:=B) (e:=e) (fun x hx=>?_) ?_) fun _ hb=>⟨Nat.le_trans hB hb.2.1,hb.1⟩
 ·obtain⟨s,_,rfl⟩:=List.mem_map.1 hx;rfl
 ·rw[e1,List.length_map];exact h
def OrderRes(there fresh:List Sp.Pk)(w:World)(e:Ending)(w':World):Prop:=
 Below w.heap.size w w'/\∃ v l ok,e=.returned (.tuple #[v,.bool ok])/\StrsFrom w.heap.size w' v l /\
  ((ok=true/\(Sp.order there fresh).2=[]/\l=(Sp.order there fresh).1)\/(ok=false/\(Sp.order there fresh).2≠[]/\l=Sp.sorted (Sp.names (Sp.order there fresh).2)))
structure Asked(w:World)(lb b0:Nat)(there:List Sp.Pk)(F T:List (Nat × Sp.Pk))(M:LM):Prop where
 map:MapAt w lb (lkv M)
 each:∀ m∈M,∃ O,MapAt w m.2 (kvOf O)/\MP.Pick F O (Sp.waitsFor there m.1.2)
 perm:F.Perm (remOf M ++ T)
 blocks:M.Pairwise fun m n=>m.2≠n.2
 lb_:lb+1<b0/\b0<=w.heap.size
 obs:∀ m∈M,b0<=m.2/\m.2<w.heap.size
theorem Asked.keep{w w':World}{lb b0:Nat}{there:List Sp.Pk}{F T:List (Nat × Sp.Pk)}{M:LM}(h:Asked w lb b0 there F T M)(hs:w.heap.size<=w'.heap.size)(hb:∀ k,k<w.heap.size->k≠lb+1->w'.heap[k]? = w.heap[k]?):Asked w' lb b0 there F T M:=by
 have h1:=h.lb_;refine⟨h.map.block (hb _ (by omega) (by omega)),fun m hm=>?_,h.perm,h.blocks,⟨h1.1,by omega⟩,fun m hm=>⟨(h.obs m hm).1,by have:=(h.obs m hm).2;omega⟩⟩;obtain⟨O,h2,h3⟩:=h.each m hm;have:=h.obs m hm;exact⟨O,h2.block (hb _ (by omega) (by omega)),h3⟩
theorem Asked.add{w w':World}{lb b0:Nat}{there:List Sp.Pk}{F T:List (Nat × Sp.Pk)}{M:LM}(h:Asked w lb b0 there F T M){t:Nat × Sp.Pk}(hT:T.Pairwise fun q r=>q.2.name≠r.2.name)(ht:t∈T){ob:Nat}{O:List (Nat × Sp.Pk)}(hO:MapAt w' ob (kvOf O))(hp:MP.Pick F O (Sp.waitsFor there t.2))
  (hob:w.heap.size<=ob)(hob2:ob<w'.heap.size)(hm:MapAt w' lb (lkv M ++ [(t.2.name,.map (some ob))]))(hb:∀ k,k<w.heap.size->k≠lb->w'.heap[k]? = w.heap[k]?):Asked w' lb b0 there F (MP.dropL T t.2.name) (M ++ [(t,ob)]):=by
 have h1:=h.lb_;refine⟨by simpa[lkv] using hm,fun m hm=>?_,?_,?_,⟨h1.1,by omega⟩,fun m hm=>?_⟩
 ·rcases List.mem_append.1 hm with hm|hm
  ·obtain⟨O',h2,h3⟩:=h.each m hm
   have:=h.obs m hm;exact⟨O',h2.block (hb _ (by omega) (by omega)),h3⟩
  ·rw[List.mem_singleton] at hm;subst hm
   exact⟨O,hO,hp⟩
 ·refine h.perm.trans ?_
  unfold remOf;rw[List.map_append,List.append_assoc];exact List.Perm.append_left _ (MP.dropL_perm hT ht)
 ·rw[List.pairwise_append]
  refine⟨h.blocks,by simp,fun m hm n hn=>?_⟩;rw[List.mem_singleton] at hn;subst hn;have:=h.obs m hm
  show m.2≠ob
  omega
 ·rcases List.mem_append.1 hm with hm|hm
  ·have:=h.obs m hm;omega
  ·rw[List.mem_singleton] at hm;subst hm
   exact⟨by show b0<=ob;omega,hob2⟩
theorem Asked.fresh{w:World}{lb b0:Nat}{there:List Sp.Pk}{F T:List (Nat × Sp.Pk)}{M:LM}(h:Asked w lb b0 there F T M)(hF:F.Pairwise fun q r=>q.2.name≠r.2.name){t:Nat × Sp.Pk}(ht:t∈T):hasKV (lkv M) t.2.name=false:=by
 rw[<-Bool.not_eq_true,MP.has_iff];rintro ⟨x,hx,e⟩;obtain⟨m,hm,rfl⟩:=List.mem_map.1 hx;have hp:=(h.perm.pairwise_iff (R:=fun q r:Nat × Sp.Pk=>q.2.name≠r.2.name) (fun hab=>fun e=>hab e.symm)).1 hF;exact(List.pairwise_append.1 hp).2.2 m.1 (List.mem_map.2 ⟨m,hm,rfl⟩) t ht e
theorem blk_one{M:LM}(h:M.Pairwise fun m n=>m.2≠n.2):∀ x∈M,∀ y∈M,x.2=y.2->x=y:=by
 induction M with
 | nil=>intro x hx;cases hx
 | cons m r ih =>
  obtain⟨h1,h2⟩:=List.pairwise_cons.1 h;intro x hx y hy e
  rcases List.mem_cons.1 hx with e1|hx' <;> rcases List.mem_cons.1 hy with e2|hy'
  ·rw[e1,e2]
  ·subst e1;exact absurd e (h1 y hy')
  ·subst e2;exact absurd e.symm (h1 x hx')
  ·exact ih h2 x hx' y hy' e
theorem nam_one{M:LM}(h:M.Pairwise fun m n=>m.1.2.name≠n.1.2.name):∀ x∈M,∀ y∈M,x.1.2.name=y.1.2.name->x=y:=by
 induction M with
 | nil=>intro x hx;cases hx
 | cons m r ih =>
  obtain⟨h1,h2⟩:=List.pairwise_cons.1 h;intro x hx y hy e
  rcases List.mem_cons.1 hx with e1|hx' <;> rcases List.mem_cons.1 hy with e2|hy'
  ·rw[e1,e2]
  ·subst e1;exact absurd e (h1 y hy')
  ·subst e2;exact absurd e.symm (h1 x hx')
  ·exact ih h2 x hx' y hy' e
theorem pks_drop(M:LM)(n:Sp.Str):(pks (remOf M)).filter (fun p=>p.name != n)=pks (remOf (dropM M n)):=by
 unfold pks remOf dropM;rw[List.map_map,List.map_map,List.filter_map];rfl
def mapLen(w:World)(b:Nat):Nat:=match w.heap[b]? with
 | some (.map es _)=>es.size
 | _=>0
theorem mapLen_of{w:World}{b:Nat}{kv:KV}(h:MapAt w b kv):mapLen w b=kv.length:=by
 obtain⟨D,⟨es,clock,h1,h2,h3,h4⟩,h5⟩:=h;unfold mapLen;rw[h1];have:=h5.size_;rw[h4] at this
 simpa[Maps.size,Go.length_sorted] using this
theorem order_any(mt mf:Nat)(L F:List (Nat × Sp.Pk))(w:World)(hT:SetOn (fun b=>b<w.heap.size) w mt L)(hF:SetOn (fun b=>b<w.heap.size) w mf F)(hmax:F.length<100000000)(hn:∀ p∈pks F,p.name.length<1000/\p.name≠[]):
  Calls Tryz.prog 126 #[.map (some mt),.map (some mf)] w (OrderRes (pks L) (pks F) w):=by
 have hmm:=@run_makeMap Tryz.prog;have hap:=hF.2.1;have hmtl:=hT.map.lt;have hmfl:=hF.map.lt;have HT:=hid hT;have HF:=hid hF;have HAP:=hid hap;have HN:=hid hn;have hbA:Below w.heap.size w (w.alloc (.map #[] 0)):=(Below.refl _ _).alloc (Nat.le_refl _) _;have hFA:=hF.below hbA;clear hT hap hn hF;go_enter Tryz.func126,Tryz.ntmps126;go_wp2
 go_step3
 go_wp2_with (at_range;refine wp_set_range _ 140 118 rfl _ rfl Tryz.underlying140 mf F rfl hFA ?_;intro w1 hr1 hg1 hs1)
 go_frame
 simp only[World.size_alloc] at hr1 hs1 ⊢;have hb1:Below w.heap.size w w1:=⟨hg1.os,hg1.tape,hg1.output,by omega,fun k hk=>(hg1.block k (by simp;omega) (by simp)).trans (Below.heap_alloc _ _ _ hk)⟩
 have hl1:MapAt w1 w.heap.size (lkv []):=(MapAt.made w).block (hg1.block _ (by simp) (by simp));clear hg1 hFA hbA
 go_loopw [18] (fun _ wr=>∃ (T:List (Nat × Sp.Pk)) (M:LM),RangeS wr mf (w.heap.size+1) F T/\Asked wr w.heap.size (w.heap.size+2) (pks L) F T M/\Below w.heap.size w wr) (fun _ wr=>wr.rangeLeft mf (w.heap.size+1))
 case atStart=>exact⟨F,[],hr1,⟨hl1,fun m hm=>(by cases hm),List.Perm.refl _,List.Pairwise.nil,⟨by omega,by omega⟩,fun m hm=>(by cases hm)⟩,hb1⟩
 case round =>
  obtain⟨T,M,hr,hA,hbel⟩:=hrel;have HA:=hid hA;have hAl:=hA.lb_;clear hA;go_wp2_with (at_next;refine wp_set_next _ rfl _ rfl mf (w.heap.size+1) F T rfl hr ?_ ?_)
  ·intro hT0
   subst hT0;have hperm:=HA.out.perm;rw[List.append_nil] at hperm;have hra:(remOf M).Pairwise fun q r=>q.2.name≠r.2.name:=(hperm.pairwise_iff (R:=fun q r:Nat × Sp.Pk=>q.2.name≠r.2.name) (fun hab=>fun e=>hab e.symm)).1 HAP.out
   have hLeft:LeftAt wr w.heap.size w.heap.size wr.heap.size (pks L) M:=by
    have hA:=HA.out;refine⟨hA.map,fun m hm=>?_,by have:=hra;unfold remOf at this;rw[List.pairwise_map] at this;exact this,hA.blocks,⟨Nat.le_refl _,by omega⟩,fun m hm=>by have:=hA.obs m hm;omega⟩;obtain⟨O,h1,h2⟩:=hA.each m hm;exact⟨O,h1,fun q hq=>hperm.mem_iff.1 (h2.sub q hq),h2.apart,fun q hq=>h2.iff_ q (hperm.mem_iff.2 hq)⟩
   have hpp:(pks F).Perm (pks (remOf M)):=by unfold pks;exact hperm.map _
   obtain⟨ho1,ho2⟩:=V5.order_perm (t:=pks L) (u:=pks L) (fun _=>Iff.rfl) (pks F).length (fun p hp=>(HN.out p hp).2) hpp;have hMl:M.length=F.length:=by
    have:=hperm.length_eq;unfold remOf at this;rw[List.length_map] at this;exact this.symm
   have hNM:∀ p∈pks (remOf M),p.name.length<1000/\p.name≠[]:=fun p hp=>HN.out p (hpp.mem_iff.2 hp)
   have HRES:=hid (show ∀ v l ok (w':World),Below w.heap.size w w'->StrsFrom w.heap.size w' v l->((ok=true/\(Sp.orderN (pks L) (pks F).length (pks (remOf M))).2=[]/\l=(Sp.orderN (pks L) (pks F).length (pks (remOf M))).1)\/(ok=false/\(Sp.orderN (pks L) (pks F).length (pks (remOf M))).2≠[]/\l=Sp.sorted (Sp.names (Sp.orderN (pks L) (pks F).length (pks (remOf M))).2)))->OrderRes (pks L) (pks F) w (.returned (.tuple #[v,.bool ok])) w' from fun v l ok w' hb hv h=>by
    refine⟨hb,v,l,ok,rfl,hv,?_⟩;unfold Sp.order;rw[ho1]
    rcases h with⟨h1,h2,h3⟩|⟨h1,h2,h3⟩
    ·left;refine⟨h1,?_,h3⟩;rw[h2] at ho2;exact ho2.eq_nil
    ·right
     refine⟨h1,fun e=>h2 ?_,?_⟩
     ·rw[e] at ho2;exact(List.nil_perm.1 ho2)
     ·rw[h3];unfold Sp.names;exact(V8.sorted_eq (ho2.map _)).symm)
   have hfuel:(pks F).length=F.length:=by unfold pks;rw[List.length_map]
   rw[hfuel] at HRES;have HL:=hid hLeft;have HNM:=hid hNM;generalize hres:Sp.orderN (pks L) F.length (pks (remOf M))=res at HRES;have HR:=hid hres;have hbl:=hbel.size;clear hpp hperm hra hLeft ho1 ho2 hfuel hres HA hr hNM;obtain⟨w5,hw5⟩:∃ w5,w5=wr:=⟨_,rfl⟩
   rw[<-hw5] at HL hbel hbl ⊢;clear hw5;go_wp2
   go_step3
   go_wp2
   go_loopw [9] (fun vo wr=>∃ (M':LM) (out:List Sp.Str) (n:Nat),LeftAt wr w.heap.size w.heap.size w5.heap.size (pks L) M'/\wr.ownsRow w5.heap.size 9 1 vo out.length (out.map sv)/\M'.length<=n/\res=(out ++ (Sp.orderN (pks L) n (pks (remOf M'))).1,(Sp.orderN (pks L) n (pks (remOf M'))).2)/\out.length+M'.length<=F.length/\(∀ p∈pks (remOf M'),p.name.length<1000/\p.name≠[])/\Below w.heap.size w wr/\w5.heap.size<=wr.heap.size) (fun _ wr=>mapLen wr w.heap.size)
   case atStart=>exact⟨M,[],F.length,HL.out,World.ownsRow_nil _ _ _ _,by omega,by rw[HR.out];simp,by simp;omega,HNM.out,hbel,Nat.le_refl _⟩
   case round =>
    obtain⟨M',out,n,hL',hrow,hn',hres',hcnt,hnm',hbw,hw5⟩:=hrel;have hlen:=fun ty=>hL'.map.len Tryz.underlying274 ty
    rw[lkv_len] at hlen;have HL':=hid hL';have hml0:=mapLen_of hL'.map;rw[lkv_len] at hml0;have HML:=hid hml0;clear hml0;have HROW:=hid hrow;have HRS:=hid hres';have HNM':=hid hnm';clear hL' hrow hres' hnm'
    by_cases hM:M'.length=0
    ·have hM0:M'=[]:=List.length_eq_zero_iff.1 hM
     subst hM0;go_wp2
     try rw[Exit.noGoto_ret]
     go_ret2
     refine HRES.out _ out true _ hbw (StrsFrom.of_row HROW.out (by omega)) (.inl ⟨rfl,?_,?_⟩)
     ·rw[HRS.out];show(Sp.orderN (pks L) n []).2=[];rw[order_stuck n rfl]
     ·rw[HRS.out];show out=out ++ (Sp.orderN (pks L) n []).1;rw[order_stuck n rfl];simp
    ·have hM1:0<M'.length:=by omega
     go_wp2_with fail;refine(keysQ_any _ _).mono ?_;rintro e w6 ⟨rfl,rfl⟩;go_wp2_with fail;refine(sortedQ_any _ _ _ HL'.out.map (by rw[lkv_len];omega)).mono ?_;rintro e w7 ⟨vn,rfl,hnrow,hb7⟩;rw[lkv_names] at hnrow;have hsn:(Sp.sorted (Sp.names (pks (remOf M')))).length=M'.length:=by
      rw[(V8.sorted_perm _).length_eq];unfold Sp.names pks remOf;simp
     have hmem:∀ x∈Sp.sorted (Sp.names (pks (remOf M'))),∃ m∈M',m.1.2.name=x:=fun x hx=>by
      obtain⟨q,hq,rfl⟩:=MP.mem_sorted_names hx;obtain⟨m,hm,rfl⟩:=List.mem_map.1 hq;exact⟨m,hm,rfl⟩
     have hfl:=free_least HL'.out.rem_apart (fun p hp=>(HNM'.out p hp).2) (pks L);have hnv:StrsAt w7 vn (Sp.sorted (Sp.names (pks (remOf M')))):=by
      refine StrsAt.of_row (B:=(wr.alloc (.cells #[.map (some w.heap.size)] 274)).heap.size) (e:=9) ?_;rw[hsn,<-lkv_len];exact hnrow
     have hnvf:StrsFrom w.heap.size w7 vn (Sp.sorted (Sp.names (pks (remOf M')))):=by
      refine StrsFrom.of_row (B:=(wr.alloc (.cells #[.map (some w.heap.size)] 274)).heap.size) (e:=9) ?_ (by have:=hbw.size;simp;omega);rw[hsn,<-lkv_len];exact hnrow
     generalize hns:Sp.sorted (Sp.names (pks (remOf M')))=ns at hsn hmem hfl hnv hnvf;have HNVF:=hid hnvf;clear hnvf;have HNS:=hid hns;have HNV:=hid hnv;clear hns;have HFL:=hid hfl;have HMEM:=hid hmem;have HSN:=hid hsn;have hnsl:ns.length<100000000:=by omega
     have hbw7:Below w.heap.size w w7:=hbw.trans (hb7.mono hbw.size);have hL7:LeftAt w7 w.heap.size w.heap.size w5.heap.size (pks L) M':=HL'.out.keep fun k hk=>hb7.block k (by omega)
     have hrow7:=W3.row_keep HROW.out hb7;have hs7:=hb7.size;have HL7:=hid hL7;have HROW7:=hid hrow7;obtain⟨na,nc,rfl,hnc,hng⟩:=hnv.get;have HNG:=hid hng;clear hsn hmem hfl hnv hnrow hL7 hrow7 HL' HROW hng hb7;go_wp2
     go_loopw [9,37] (fun vo2 i wi=>∃ k:Nat,k<=ns.length/\(ns.take k).any (MP.byN (remOf M') fun p=>!(pks (remOf M')).any (Sp.waitsFor (pks L) p))=false/\i=.int .i64 k/\wi.ownsRow w5.heap.size 9 1 vo2 out.length (out.map sv)/\wi=w7) (fun _ i _=>ns.length+1-(intOf i).toNat)
     case atStart=>exact⟨0,Nat.zero_le _,rfl,rfl,HROW7.out,rfl⟩
     case round =>
      obtain⟨k,hk,hno,rfl,hrow7,rfl⟩:=hrel;have HROW8:=hid hrow7;clear hrow7 HROW7;have HNO:=hid hno;clear hno
      by_cases h:k<ns.length
      ·obtain⟨nb,noff,rfl,hnb,hncell⟩:=HNG.out k h
       obtain⟨m,hm,hmn⟩:=HMEM.out _ (List.getElem_mem h);obtain⟨O,hO,hpk⟩:=HL7.out.each m hm;have hget:getKV (lkv M') ns[k] (.map none)=.map (some m.2):=by
        rw[<-hmn];exact MP.get_mem (kv:=lkv M') HL7.out.map.apart (q:=(m.1.2.name,.map (some m.2))) (List.mem_map.2 ⟨m,hm,rfl⟩) _
       have hbn:=MP.byN_eq HL7.out.rem_apart (fun p=>!(pks (remOf M')).any (Sp.waitsFor (pks L) p)) (List.mem_map.2 ⟨m,hm,rfl⟩:m.1∈remOf M');rw[hmn] at hbn;have hnl:=(HNM'.out m.1.2 (List.mem_map.2 ⟨m.1,List.mem_map.2 ⟨m,hm,rfl⟩,rfl⟩))
       rw[hmn] at hnl;have hlk:=HL7.out.map.look Tryz.underlying274 zero140 ns[k] (by unfold maxLen;omega);rw[hget] at hlk;have hol:=fun ty=>hO.len Tryz.underlying140 ty
       have hok:(kvOf O).length=O.length:=by unfold kvOf;rw[List.length_map]
       rw[hok] at hol;have hpf:=pick_free hpk;have HPF:=hid hpf;have HBN:=hid hbn;have hol2:=hpk.len HL7.out.rem_apart;have hrl:(remOf M').length=M'.length:=by unfold remOf;rw[List.length_map]
       have hol3:O.length<100000000:=by omega
       have hnn:=hnl.2;have hnl1:=hnl.1;clear hget hbn hok hpf hpk hO hol2 hrl hnl;generalize hnk:ns[k]=nm at *;have HNK:=hid hnk;have HMN:=hid hmn;clear hnk hmn
       by_cases hO0:0<O.length
       ·have hfr:freeB (pks L) M' m.1.2=false:=by
         rw[<-Bool.not_eq_true,<-HPF.out];rintro rfl;simp at hO0
        have HFR:=hid hfr;clear hfr;go_wp2_with fail;go_roundw
        case rel=>exact⟨k+1,h,MP.any_next h HNO.out (by rw[HNK.out,HBN.out];exact HFR.out),by go_num,HROW8.out,trivial⟩
        case measure=>simp[intOf];omega
       ·have hO1:O.length=0:=by omega
        have hfr:freeB (pks L) M' m.1.2=true:=HPF.out.1 (List.length_eq_zero_iff.1 hO1);have HFR:=hid hfr;have hlst:Sp.least ((Sp.free (pks L) (pks (remOf M'))).map (·.name))=nm:=by
         rw[HFL.out,MP.find_hit h HNO.out (by rw[HNK.out,HBN.out];exact HFR.out),HNK.out]
        have HLST:=hid hlst;clear hfr hO0 hlst;go_wp2_with (first
         | (at_builtin;refine wp_app app38 wr [.string ⟨nm.toArray⟩] rfl (by simp[Value.oneCell']) rfl _ _ rfl w5.heap.size _ _ _ rfl HROW8.out rfl (by omega) (by omega) ?_;intro v' w8 hrow8 hg8 hv8;have hb8:=below_of_grown (Below.refl w5.heap.size wr) (by omega) HROW8.out hg8;have hl8:=HL7.out.map.block (hb8.block _ HL7.out.lb_.2))
         | (at_delete;refine wp_map_del _ 274 140 rfl _ _ rfl Tryz.underlying274 w.heap.size (lkv M') rfl hl8 nm (by unfold maxLen;omega) rfl ?_;intro w9 hl9 hg9;rw[drop_lkv] at hl9)
         | (at_range;refine wp_map_range _ 274 140 rfl _ rfl Tryz.underlying274 w.heap.size (lkv (dropM M' nm)) rfl hl9 ?_;intro w10 hr10 hg10 hs10))
        go_frame
        have hs8:=hb8.size;have hs9:=hg9.size;have hL7:=HL7.out;have hlb:=hL7.lb_;have hk9:∀ k,k<w8.heap.size->k≠w.heap.size->w9.heap[k]? = w8.heap[k]?:=fun k hk hne=>hg9.block k hk (by simp;exact hne)
        have hk10:∀ k,k<w9.heap.size->w10.heap[k]? = w9.heap[k]?:=fun k hk=>hg10.block k hk (by simp)
        have hrow10:=row_mid hrow8 (w':=w9) fun k hk hk2=>hk9 k hk2 (by omega)
        have HK10:=hid hk10;have hbw10:Below w.heap.size w w10:=hbw7.trans ((hb8.mono (by omega)).trans ((grown_below hg9 (Nat.le_refl _) (by omega)).trans ⟨hg10.os,hg10.tape,hg10.output,hg10.size,fun k hk=>hk10 k (by omega)⟩));have heach:∀ x∈dropM M' nm,∃ O,MapAt w10 x.2 (kvOf O)/\MP.Pick (remOf M') O (Sp.waitsFor (pks L) x.1.2):=fun x hx=>by
         have hx':=(List.mem_filter.1 hx).1;obtain⟨O',h1,h2⟩:=hL7.each x hx';have hob:=hL7.obs x hx';exact⟨O',h1.block ((hk10 _ (by omega)).trans ((hk9 _ (by omega) hob.2.2).trans (hb8.block _ hob.2.1))),h2⟩
        have hblk:(dropM M' nm).Pairwise fun m n=>m.2≠n.2:=hL7.blocks.sublist List.filter_sublist
        have hobs:∀ x∈dropM M' nm,w.heap.size<=x.2/\x.2<w5.heap.size/\x.2≠w.heap.size:=fun x hx=>hL7.obs x (List.mem_filter.1 hx).1
        have hapt:(dropM M' nm).Pairwise fun m n=>m.1.2.name≠n.1.2.name:=hL7.apart.sublist List.filter_sublist
        have hdm:(dropM M' nm).length+1=M'.length:=by
         have h1:=(MP.dropL_perm hL7.rem_apart (List.mem_map.2 ⟨m,hm,rfl⟩:m.1∈remOf M')).length_eq;rw[HMN.out,<-drop_rem] at h1;unfold remOf at h1;simp only[List.length_map,List.length_cons] at h1;omega
        have hdel:∀ O (P:Sp.Pk->Bool),MP.Pick (remOf M') O P->MP.Pick (remOf (dropM M' nm)) (MP.dropL O nm) P:=fun O P h=>by rw[drop_rem];exact h.drop nm
        have HDEL:=hid hdel;have HEACH:=hid heach;have HBLK:=hid hblk;have HOBS:=hid hobs;have HAPT:=hid hapt;have HROW10:=hid hrow10;have hnmx:nm.length<=maxLen:=by unfold maxLen;omega
        have hmx:(maxLen:Nat)=maxLen:=rfl;generalize hM2:dropM M' nm=M2 at *;have HM2:=hid hM2;have h10:w9.heap.size<w10.heap.size:=by omega
        have h95:w5.heap.size<=w9.heap.size:=by omega
        clear hdel heach hblk hobs hapt hrow10 hM2 hk9 hk10 hL7 hb8 hl8 hg8 hrow8 hl9 hg9 hg10 hs10 hlk hol
        go_loopw [54] (fun _ wi=>∃ TL:LM,RangeAt wi w.heap.size w9.heap.size (lkv M2) (lkv TL)/\(∀ x∈TL,x∈M2) /\
          (∀ x∈M2,∃ O,MapAt wi x.2 (kvOf O)/\(x∈TL->MP.Pick (remOf M') O (Sp.waitsFor (pks L) x.1.2))/\(x ∉ TL->MP.Pick (remOf M2) O (Sp.waitsFor (pks L) x.1.2))) /\
          (∀ k,w5.heap.size<=k->k<w9.heap.size->wi.heap[k]? = w9.heap[k]?)/\w9.heap.size<wi.heap.size/\Below w.heap.size w wi) (fun _ wi=>wi.rangeLeft w.heap.size w9.heap.size)
        case atStart =>
         refine⟨M2,hr10,fun _ h=>h,fun x hx=>?_,fun k _ hk=>HK10.out k hk,h10,hbw10⟩;obtain⟨O',h1,h2⟩:=HEACH.out x hx;exact⟨O',h1,fun _=>h2,fun hn=>absurd hx hn⟩
        case round =>
         obtain⟨TL,hr11,hsub,hea,hkp,hsz,hbw11⟩:=hrel;have HEA:=hid hea;have HKP:=hid hkp;clear hea hkp;go_wp2_with (at_next;refine wp_map_next _ rfl _ rfl w.heap.size w9.heap.size (lkv M2) (lkv TL) rfl hr11 ?_ ?_)
         ·intro hT0
          have hTL:TL=[]:=List.map_eq_nil_iff.1 hT0;subst hTL;have hmap:=hr11.map;have hLft:LeftAt wr w.heap.size w.heap.size w5.heap.size (pks L) M2:=⟨hmap,fun x hx=>by
           obtain⟨O',h1,_,h3⟩:=HEA.out x hx;exact⟨O',h1,h3 (by simp)⟩,HAPT.out,HBLK.out,⟨Nat.le_refl _,by omega⟩,HOBS.out⟩
          have hrowE:=row_mid HROW10.out (w':=wr) fun k hk hk2=>HKP.out k hk hk2
          obtain⟨n',rfl⟩:∃ n',n=n'+1:=⟨n-1,by omega⟩
          have hrs:=HRS.out;rw[order_step HLST.out hnn,pks_drop,HM2.out] at hrs;have hnmE:∀ p∈pks (remOf M2),p.name.length<1000/\p.name≠[]:=fun p hp=>by
           rw[<-HM2.out,<-pks_drop] at hp;exact HNM'.out p (List.mem_filter.1 hp).1
          have hml2:=mapLen_of hmap;rw[lkv_len] at hml2;have HLF:=hid hLft;have HRE:=hid hrowE;have HRS2:=hid hrs;have HNME:=hid hnmE;have HML2:=hid hml2;clear hLft hrowE hrs hnmE hml2 hr11 hmap;go_wp2;go_roundw
          case rel=>exact⟨M2,out ++ [nm],n',HLF.out,by rw[List.length_append,List.map_append];exact HRE.out,by omega,by rw[HRS2.out];simp,by rw[List.length_append];simp;omega,HNME.out,hbw11,by omega⟩
          case measure=>rw[HML2.out,HML.out];omega
         ·intro qn qv w12 hq hr12 hg12 hs12 hen hleft
          have hle12:=Nat.le_of_eq hs12;have hle12':=Nat.le_of_eq hs12.symm;clear hs12;obtain⟨x,hx,hxe⟩:=List.mem_map.1 hq;obtain⟨rfl,rfl⟩:=Prod.mk.inj hxe;have hxM:=hsub x hx;obtain⟨O',h1,h2,h3⟩:=HEA.out x hxM;have hob:=HOBS.out x hxM;have hO12:MapAt w12 x.2 (kvOf O'):=h1.block (hg12.block _ h1.lt (by simp;omega));clear h1 hxe hq;go_wp2_with (at_delete;refine wp_map_del _ 140 118 rfl _ _ rfl Tryz.underlying140 x.2 (kvOf O') rfl hO12 nm hnmx rfl ?_;intro w13 hO13 hg13)
          go_frame
          rw[MP.drop_kv] at hO13;rw[drop_lkv] at hr12;have hs13:=hg13.size;have hk13:∀ k,k<w12.heap.size->k≠x.2->w13.heap[k]? = w12.heap[k]?:=fun k hk hne=>hg13.block k hk (by simp;exact hne)
          have hk12:∀ k,k<wr.heap.size->k≠w9.heap.size->w12.heap[k]? = wr.heap[k]?:=fun k hk hne=>hg12.block k hk (by simp;exact hne)
          have hr13:=hr12.block (hk13 _ (by omega) (by omega)) (hk13 _ (by omega) (by omega));have hlf:=rangeLeft_block (hk13 w.heap.size (by omega) (by omega)) (hk13 w9.heap.size (by omega) (by omega));have hea13:∀ y∈M2,∃ O,MapAt w13 y.2 (kvOf O)/\(y∈dropM TL x.1.2.name->MP.Pick (remOf M') O (Sp.waitsFor (pks L) y.1.2))/\(y ∉ dropM TL x.1.2.name->MP.Pick (remOf M2) O (Sp.waitsFor (pks L) y.1.2)):=fun y hy=>by
           by_cases hyx:y=x
           ·subst hyx
            refine⟨_,hO13,fun hin=>?_,fun _=>HDEL.out _ _ (h2 hx)⟩;have:=(List.mem_filter.1 hin).2;simp at this
           ·obtain⟨O2,k1,k2,k3⟩:=HEA.out y hy
            have hyo:=HOBS.out y hy;have hne2:y.2≠x.2:=fun e=>hyx (blk_one HBLK.out y hy x hxM e)
            have hne3:y.1.2.name≠x.1.2.name:=fun e=>hyx (nam_one HAPT.out y hy x hxM e)
            refine⟨O2,k1.block ((hk13 _ (by omega) hne2).trans (hk12 _ (by omega) (by omega))),fun hin=>k2 (List.mem_filter.1 hin).1,fun hout=>k3 fun hin=>hout (List.mem_filter.2 ⟨hin,by simpa using hne3⟩)⟩
          have hb13:Below w.heap.size w w13:=hbw11.trans ((grown_below hg12 (by omega) (by omega)).trans (grown_below hg13 hob.1 (by omega)));have hkp13:∀ k,w5.heap.size<=k->k<w9.heap.size->w13.heap[k]? = w9.heap[k]?:=fun k hk hk2=>(hk13 k (by omega) (by omega)).trans ((hk12 k (by omega) (by omega)).trans (HKP.out k hk hk2))
          have HEA13:=hid hea13;have HKP13:=hid hkp13;clear hea13 hkp13 hk12 hk13 hg12 hg13 h2 h3;go_roundw
          case rel=>exact⟨dropM TL x.1.2.name,hr13,fun y hy=>hsub y (List.mem_filter.1 hy).1,HEA13.out,HKP13.out,by omega,hb13⟩
          case measure=>rw[hlf];exact hleft
      ·obtain rfl:k=ns.length:=by omega
       have hall:=HNO.out;rw[List.take_length] at hall;have HA:=hid hall;clear hall HNO;go_wp2
       try rw[Exit.noGoto_ret]
       go_ret2
       have hst:=order_stuck n (by rw[HFL.out,MP.find_no HA.out]:Sp.least ((Sp.free (pks L) (pks (remOf M'))).map (·.name))=[]);refine HRES.out _ ns false _ hbw7 HNVF.out (.inr ⟨rfl,?_,?_⟩)
       ·rw[HRS.out,hst]
        intro e;have:(pks (remOf M')).length=0:=congrArg List.length e;unfold pks remOf at this;rw[List.length_map,List.length_map] at this;omega
       ·rw[HRS.out,hst];exact HNS.out.symm
  ·intro tb tp w2 ht hr2 hg2 hs2 hen hleft
   have hle:=Nat.le_of_eq hs2;have hle2:=Nat.le_of_eq hs2.symm;clear hs2;have hq:=hr.sub (tb,tp) ht;have hbel2:Below w.heap.size w w2:=hbel.trans (grown_below hg2 (by omega) hbel.size);obtain⟨hip,hok⟩:=(HF.out.below hbel2).2.2 (tb,tp) hq;have hws:=hbel2.size;have hcall:=waits_any tb mt mf tp L F w2 (HT.out.below hbel2) (HF.out.below hbel2) hip hok hmax;have hA2:Asked w2 w.heap.size (w.heap.size+2) (pks L) F T M:=HA.out.keep (by omega) fun k hk hne=>hg2.block k hk (by simp;exact hne)
   have hfr:=hA2.fresh HAP.out ht;have hTa:=hr.apart;have hrl:=hr2.at_.lt;have hml:=hr2.at_.map.lt;have hMl:(lkv M).length<1000000000:=by
    have:=HA.out.perm.length_eq;rw[List.length_append] at this;unfold remOf at this;rw[List.length_map] at this;rw[lkv_len];omega
   have hnm:=hok.name;have HCALL:=hid hcall;have HA2:=hid hA2;have HTA:=hid hTa;clear hcall hip hok hr HA hA2 hTa hg2;go_wp2_with fail;refine HCALL.out.mono ?_;rintro e w3 ⟨rfl,⟨O,hO,hpk⟩,hb3⟩;have hs3:=hb3.size;have hol:=hO.lt;have hlm:=HA2.out.map.below hb3 HA2.out.map.lt;have HO:=hid hO;have HPK:=hid hpk;clear hO hpk;go_wp2_with (at_mapUpdate;refine wp_map_put _ 274 140 rfl _ _ _ rfl Tryz.underlying274 w.heap.size (lkv M) rfl hlm hMl tp.name (by unfold maxLen;omega) hfr rfl (.map (some w2.heap.size)) rfl ?_;intro w4 hl4 hg4)
   go_frame
   have hs4:=hg4.size;have hb4:Below w.heap.size w3 w4:=grown_below hg4 (Nat.le_refl _) (by omega);have hA4:=HA2.out.add HTA.out ht (w':=w4) (HO.out.block (hg4.block _ hol (by simp;omega))) HPK.out (Nat.le_refl _) (by omega) hl4 (fun k hk hne=>(hg4.block k (by omega) (by simp;exact hne)).trans (hb3.block k hk));have hrb:∀ k,k<w2.heap.size->k≠w.heap.size->w4.heap[k]? = w2.heap[k]?:=fun k hk hne=>(hg4.block k (by omega) (by simp;exact hne)).trans (hb3.block k hk)
   go_roundw
   case rel=>exact⟨_,_,hr2.block (hrb _ hml (by omega)) (hrb _ hrl (by omega)),hA4,(hbel2.trans (hb3.mono hws)).trans hb4⟩
   case measure=>rw[rangeLeft_block (hrb _ hml (by omega)) (hrb _ hrl (by omega))];exact hleft
end
section
open Go.RowKit Go.Maps
def u8v(c:UInt8):Value:=.int .u8 (c.toNat:Int)
def BytesOn(S:Nat->Prop)(w:World)(v:Value)(b:Sp.Str):Prop:=SlOn S w 1 v (b.map fun c=>[u8v c])
theorem BytesOn.keep{S S':Nat->Prop}{w w':World}{v:Value}{b:Sp.Str}(h:BytesOn S w v b)(hb:∀ x,S x->w'.heap[x]? = w.heap[x]?)(hs:∀ x,S x->S' x):BytesOn S' w' v b:=SlOn.mono (SlOn.keep h hb) hs
theorem BytesOn.mono{S S':Nat->Prop}{w:World}{v:Value}{b:Sp.Str}(h:BytesOn S w v b)(hs:∀ x,S x->S' x):BytesOn S' w v b:=SlOn.mono h hs
theorem BytesOn.get{S:Nat->Prop}{w:World}{v:Value}{l:Sp.Str}(h:BytesOn S w v l):∃ a cap,v=.slice a l.length cap/\l.length<=cap/\∀ k,(hk:k<l.length)->∃ b off,a=some ⟨b,off,none⟩/\S b/\w.cell? ⟨b,off+k,none⟩=some (.int .u8 ((l[k]).toNat:Int)):=by
 obtain⟨a,cap,hv,hc,h⟩:=h;refine⟨a,cap,by simpa using hv,by simpa using hc,fun k hk=>?_⟩;obtain⟨b,off,ha,hb,hx⟩:=h k [u8v l[k]] (by rw[List.getElem?_map,List.getElem?_eq_getElem hk];rfl);exact⟨b,off,ha,hb,by have:=hx 0 (u8v l[k]) rfl;simpa[u8v] using this⟩
namespace DS
theorem wrap64(n:Nat)(h:n<18446744073709551616):IntKind.u64.wrap (n:Int)=n:=by
 unfold IntKind.wrap;simp only[IntKind.signed,IntKind.bits,Bool.false_and,Bool.false_eq_true,if_false];omega
theorem of64(a:Nat):BitVec.ofInt 64 (a:Int)=BitVec.ofNat 64 a:=by
 apply BitVec.eq_of_toNat_eq
 rw[BitVec.toNat_ofInt,BitVec.toNat_ofNat];omega
theorem bits_xor(a b:Nat)(ha:a<18446744073709551616)(hb:b<18446744073709551616):bits .xor .u64 (a:Int) (b:Int)=((a ^^^ b:Nat):Int):=by
 have h:a ^^^ b<2 ^ 64:=Nat.xor_lt_two_pow ha hb
 show IntKind.u64.wrap (((BitVec.ofInt 64 (a:Int) ^^^ BitVec.ofInt 64 (b:Int)).toNat:Nat):Int)=_
 rw[of64 a,of64 b,BitVec.toNat_xor,BitVec.toNat_ofNat,BitVec.toNat_ofNat,Nat.mod_eq_of_lt ha,Nat.mod_eq_of_lt hb,wrap64 _ h]
theorem bits_or(a b:Nat)(ha:a<18446744073709551616)(hb:b<18446744073709551616):bits .or .u64 (a:Int) (b:Int)=((a ||| b:Nat):Int):=by
 have h:a ||| b<2 ^ 64:=Nat.or_lt_two_pow ha hb
 show IntKind.u64.wrap (((BitVec.ofInt 64 (a:Int) ||| BitVec.ofInt 64 (b:Int)).toNat:Nat):Int)=_
 rw[of64 a,of64 b,BitVec.toNat_or,BitVec.toNat_ofNat,BitVec.toNat_ofNat,Nat.mod_eq_of_lt ha,Nat.mod_eq_of_lt hb,wrap64 _ h]
theorem wrapN64(n:Nat):IntKind.u64.wrap (n:Int)=((n % 18446744073709551616:Nat):Int):=by
 unfold IntKind.wrap;simp only[IntKind.signed,IntKind.bits,Bool.false_and,Bool.false_eq_true,if_false];omega
def stepN(h:Nat)(c:UInt8):Nat:=((h ^^^ c.toNat)*1099511628211) % 18446744073709551616
theorem sumN_eq(h:Nat)(b:Sp.Str):Sp.sumN h b=b.foldl stepN h:=rfl
theorem sumN_snoc(h:Nat)(b:Sp.Str)(c:UInt8):Sp.sumN h (b ++ [c])=stepN (Sp.sumN h b) c:=by
 rw[sumN_eq,sumN_eq,List.foldl_append,List.foldl_cons,List.foldl_nil]
theorem step(h:Nat)(hh:h<18446744073709551616)(c:UInt8):IntKind.u64.wrap (bits .xor .u64 (h:Int) (IntKind.u64.wrap (c.toNat:Int))*1099511628211)=((stepN h c:Nat):Int):=by
 have hc:=c.toNat_lt;rw[wrap64 _ (by omega),bits_xor h _ hh (by omega)];unfold stepN;generalize h ^^^ c.toNat=x;rw[show(x:Int)*1099511628211=((x*1099511628211:Nat):Int) from by omega,wrapN64]
end DS
theorem sum_any{S:Nat->Prop}(v:Value)(b:Sp.Str)(w:World)(hv:BytesOn S w v b)(hl:b.length<=100000000):
  Calls Tryz.prog 215 #[v] w fun e w'=>e=.returned (.int .u64 (Sp.sum b:Int))/\w'=w:=by
 obtain⟨a,cap,rfl,hcap,hg⟩:=hv.get;have HG:=hid hg;clear hg hv;go_enter Tryz.func215,Tryz.ntmps215;go_wp2
 go_loopw [3,5,8] (fun h _ i wr=>∃ k:Nat,k<=b.length/\i=.int .i64 k/\h=.int .u64 (Sp.sumN 14695981039346656037 (b.take k):Int)/\wr=w) (fun _ _ i _=>b.length+1-(intOf i).toNat)
 case atStart=>exact⟨0,Nat.zero_le _,rfl,rfl,rfl⟩
 case round =>
  obtain⟨k,hk,rfl,rfl,rfl⟩:=hrel
  by_cases h:k<b.length
  ·obtain⟨bb,off,rfl,hb,hc⟩:=HG.out k h
   have hlt:=V6.sumN_lt (b.take k) 14695981039346656037 (by decide);have hs:=DS.sumN_snoc 14695981039346656037 (b.take k) b[k];rw[<-List.take_succ_eq_append_getElem h] at hs;have hs:=(congrArg (fun n:Nat=>(n:Int)) hs).trans (DS.step _ hlt b[k]).symm;have HS:=hid hs;clear hs hlt;go_wp2
   case roundEnd=>exact⟨⟨k+1,h,by go_num,by rw[HS.out],trivial⟩,by simp[intOf];omega⟩
  ·have hke:k=b.length:=by omega
   have hr:Sp.sumN 14695981039346656037 (b.take k)=Sp.sum b:=by rw[hke,List.take_length];rfl
   have HR:=hid hr;clear hr hke;go_wp2;go_ret;refine⟨?_,rfl⟩;rw[HR.out];rfl
end
end Go.Proofs.YtfphcecjhdkcoaaGreatDoor

/-
The walk of the disk's save: bytes lie there from now on, or what lay there does.
-/
import Derived.Test.YtfphcecjhdkcoaaGreatDoorScrP06
import Derived.Test.YtfphcecjhdkcoaaGreatDoorScrP07
import Derived.Test.YtfphcecjhdkcoaaGreatDoorScrP11
import Derived.StillTailTactics
import Derived.BigQuiet
import Derived.Deep.RegionHeld3
import Derived.Deep.DeepCutAuto
import Derived.Lib.MinMax
set_option maxRecDepth 100000
set_option maxHeartbeats 8000000
namespace Go.Proofs.YtfphcecjhdkcoaaGreatDoor
open Go.Lib (hid)
section
open Go.RowKit Go.Maps
theorem Tryz.mSectors(a : Addr)(w : World): (Go.method 496 90 (.pointer (some a)) "Sectors").run Tryz.prog w = .ok (297, .pointer (some a)) w := by kernel_rfl
theorem Tryz.mRead(a : Addr)(w : World): (Go.method 496 90 (.pointer (some a)) "Read").run Tryz.prog w = .ok (296, .pointer (some a)) w := by kernel_rfl
theorem Tryz.mSync(a : Addr)(w : World): (Go.method 496 90 (.pointer (some a)) "Sync").run Tryz.prog w = .ok (298, .pointer (some a)) w := by kernel_rfl
theorem Tryz.mWrite(a : Addr)(w : World): (Go.method 496 90 (.pointer (some a)) "Write").run Tryz.prog w = .ok (299, .pointer (some a)) w := by kernel_rfl
theorem Chg.low{M:Nat->Prop}{a b c:World}(h:Chg M a b)(k:Below a.heap.size b c):Chg M a c:=
 ⟨k.os.trans h.os,k.tape.trans h.tape,k.output.trans h.output,Nat.le_trans h.size k.size,fun i hi hm=>(k.block i hi).trans (h.block i hi hm)⟩
def dptr(D:Nat):Value:=.iface 90 (.pointer (some ⟨D,0,none⟩))
def StBlk(w:World)(s D:Nat)(last:Nat)(mv ov:Value):Prop:=w.heap[s]? = some (.cells #[dptr D,.int .u64 (last:Int),mv,ov] 150 (0,0))
namespace StBlk
variable {w w':World} {s D last:Nat} {mv ov:Value}
theorem lt(h:StBlk w s D last mv ov):s<w.heap.size:=(Array.getElem?_eq_some_iff.1 h).1
theorem cells(h:StBlk w s D last mv ov):w.cell? ⟨s,0,none⟩=some (dptr D)/\w.cell? ⟨s,1,none⟩=some (.int .u64 (last:Int))/\w.cell? ⟨s,2,none⟩=some mv/\w.cell? ⟨s,3,none⟩=some ov/\∀ o,w.frozen? ⟨s,o,none⟩=false:=by
 have h':w.heap[s]? = some (.cells #[dptr D,.int .u64 (last:Int),mv,ov] 150 (0,0)):=h;refine⟨?_,?_,?_,?_,fun o=>?_⟩
 ·rw[cell_of_row _ _ _ _ _ _ h'];rfl
 ·rw[cell_of_row _ _ _ _ _ _ h'];rfl
 ·rw[cell_of_row _ _ _ _ _ _ h'];rfl
 ·rw[cell_of_row _ _ _ _ _ _ h'];rfl
 ·simp[World.frozen?,h']
theorem keep(h:StBlk w s D last mv ov)(hb:w'.heap[s]? = w.heap[s]?):StBlk w' s D last mv ov:=hb.trans h
theorem set1(h:StBlk w s D last mv ov)(n:Nat):StBlk (w.setCell ⟨s,1,none⟩ (.int .u64 (n:Int))) s D n mv ov:=DS.set_blk h 1 _
theorem set2(h:StBlk w s D last mv ov)(v:Value):StBlk (w.setCell ⟨s,2,none⟩ v) s D last v ov:=DS.set_blk h 2 _
theorem set3(h:StBlk w s D last mv ov)(v:Value):StBlk (w.setCell ⟨s,3,none⟩ v) s D last mv v:=DS.set_blk h 3 _
end StBlk
namespace DkE
variable {O O':Nat->Prop} {w w':World} {b:Nat} {d:Sp.Dk}
theorem sectors(h:DkE O w b d):Calls Tryz.prog 297 #[.pointer (some ⟨b,0,none⟩)] w fun e w'=>e=.returned (.int .i64 (d.seen.length:Int))/\w'=w:=by
 obtain⟨I,hb,sb,hc,sc,lv,hv,sv,lt,h,_⟩:=h;exact sectors_any h
theorem lens(h:DkE O w b d):d.held.length=d.seen.length/\2<=d.seen.length/\d.seen.length<=256:=by
 obtain⟨I,hb,sb,hc,sc,lv,hv,sv,lt,h,_⟩:=h;exact h.lens
theorem secs(h:DkE O w b d):∀ x∈d.seen,x.length=64:=by
 obtain⟨I,hb,sb,hc,sc,lv,hv,sv,lt,h,_⟩:=h;intro x hx;obtain⟨n,hn,rfl⟩:=List.getElem_of_mem hx;obtain⟨v,_,_,_,h64⟩:=h.sec n hn;rw[List.getD_eq_getElem?_getD,List.getElem?_eq_getElem hn] at h64;exact h64
theorem read(h:DkE O w b d)(n:Nat)(hn:n<d.seen.length):
  Calls Tryz.prog 296 #[.pointer (some ⟨b,0,none⟩),.int .i64 (n:Int)] w fun e w'=>∃ g,e=.returned (.slice (some ⟨g,0,none⟩) 64 64)/\Below w.heap.size w w'/\BytesOn (fun x=>w.heap.size<=x/\x<w'.heap.size) w' (.slice (some ⟨g,0,none⟩) 64 64) (d.seen.getD n []):=by
 obtain⟨I,hb,sb,hc,sc,lv,hv,sv,lt,h,_⟩:=h;exact dread_any h n hn
theorem mono(h:DkE O w b d)(hm:∀ k,O k->O' k):DkE O' w b d:=by
 obtain⟨I,hb,sb,hc,sc,lv,hv,sv,lt,h,hO⟩:=h;exact⟨I,hb,sb,hc,sc,lv,hv,sv,lt,h,fun k hk=>hm k (hO k hk)⟩
theorem inside(h:DkE O w b d):DkE (fun k=>O k/\k<w.heap.size) w b d:=by
 obtain⟨I,hb,sb,hc,sc,lv,hv,sv,lt,h,hO⟩:=h;refine⟨I,hb,sb,hc,sc,lv,hv,sv,lt,h,fun k hk=>⟨hO k hk,?_⟩⟩
 rcases hk with(rfl|rfl|rfl|hk)|hk
 ·exact h.lt_b
 ·exact h.lt_hb
 ·exact h.lt_sb
 ·exact h.lt_late hk
 ·exact(h.imm k hk).1
theorem keep(h:DkE O w b d)(hk:∀ k,O k->k<w.heap.size->w'.heap[k]? = w.heap[k]?)(hs:w.heap.size<=w'.heap.size):DkE O w' b d:=by
 obtain⟨I,hb,sb,hc,sc,lv,hv,sv,lt,h,hO⟩:=h.inside;exact⟨I,hb,sb,hc,sc,lv,hv,sv,lt,h.keep (fun k hk'=>hk k (hO k hk').1 (hO k hk').2) hs,fun k hk=>(hO k hk).1⟩
theorem below(h:DkE O w b d)(hb:Below w.heap.size w w'):DkE O w' b d:=h.keep (fun k _ hl=>hb.block k hl) hb.size
theorem own(h:DkE O w b d):O b:=by
 obtain⟨I,hb,sb,hc,sc,lv,hv,sv,lt,h,hO⟩:=h;exact hO b (.inl (.inl rfl))
end DkE
theorem room_any{O:Nat->Prop}{w:World}{s D last:Nat}{mv ov:Value}{d:Sp.Dk}(hs:StBlk w s D last mv ov)(hd:DkE O w D d):
  Calls Tryz.prog 82 #[.pointer (some ⟨s,0,none⟩)] w fun e w'=>e=.returned (.int .i64 (24*((d.seen.length:Int)-8)))/\w'=w:=by
 obtain⟨c0,_,_,_,_⟩:=hs.cells;have hlt:=hs.lt;have hsec:=hd.sectors;have hl:=hd.lens;have m0:=Tryz.mSectors;clear hd hs;unfold dptr at c0;go_enter Tryz.func82,Tryz.ntmps82;go_wp2_with fail;refine hsec.mono ?_;rintro e w1 ⟨rfl,rfl⟩;go_wp2;go_ret;exact⟨rfl,rfl⟩
theorem area_any{O:Nat->Prop}{w:World}{s D last:Nat}{mv ov:Value}{d:Sp.Dk}(hs:StBlk w s D last mv ov)(hd:DkE O w D d)(number:Nat)(hn:number<18446744073709551616):
  Calls Tryz.prog 214 #[.pointer (some ⟨s,0,none⟩),.int .u64 (number:Int)] w fun e w'=>e=.returned (.tuple #[.int .i64 (Sp.areaFrom d.seen.length number:Int),.int .i64 (Sp.areaN d.seen.length:Int)])/\w'=w:=by
 obtain⟨c0,_,_,_,_⟩:=hs.cells;have hlt:=hs.lt;have hsec:=hd.sectors;have hl:=hd.lens;have m0:=Tryz.mSectors;obtain⟨n,hN⟩:∃ n:Nat,n=Sp.areaN d.seen.length:=⟨_,rfl⟩
 have hq:((d.seen.length:Int)-2) / 2=(n:Int):=by rw[hN];unfold Sp.areaN;omega
 have hn1:n<=127:=by rw[hN];unfold Sp.areaN;omega
 have hr:Sp.areaFrom d.seen.length number=2+number % 2*n:=by rw[hN];rfl
 have HR:=hid hr;have HN:=hid hN;clear hd hs hr hN;unfold dptr at c0;have h01:number % 2=0\/number % 2=1:=by omega
 rcases h01 with h01|h01
 ·have h2:(number:Int) % 2=0:=by omega
  have H01:=hid h01;clear h01;go_enter Tryz.func214,Tryz.ntmps214;go_wp2_with fail;refine hsec.mono ?_;rintro e w1 ⟨rfl,rfl⟩;go_wp2
  go_ret2
  exact⟨by rw[HR.out,H01.out,<-HN.out];simp[hq],rfl⟩
 ·have h2:(number:Int) % 2=1:=by omega
  have H01:=hid h01;clear h01;go_enter Tryz.func214,Tryz.ntmps214;go_wp2_with fail;refine hsec.mono ?_;rintro e w1 ⟨rfl,rfl⟩;go_wp2
  go_ret2
  exact⟨by rw[HR.out,H01.out,<-HN.out];simp[hq],rfl⟩
end
section
namespace Sp
structure Ok(L:List Pk):Prop where
 set:Set L
 need:lacking L=[]
 bar:barring L=[]
 clash:Sp.clash L=[]
end Sp
namespace V9
open Sp (Str Pk)
theorem nil_ok:Sp.Ok []:=⟨⟨fun p hp=>(by cases hp),List.Pairwise.nil⟩,rfl,rfl,rfl⟩
theorem readAll_map:∀ (ts:List Str) (i:Nat) (F:List Pk),Sp.readAll i ts=.inr F↔ts.map Sp.parse=F.map Sum.inr
 | [],i,F=>by
  simp only[Sp.readAll,List.map_nil];constructor
  ·intro h;cases h;rfl
  ·intro h;cases F with
   | nil=>rfl
   | cons _ _=>cases h
 | t :: r,i,F=>by
  simp only[Sp.readAll,List.map_cons]
  cases hp:Sp.parse t with
  | inl n =>
   simp only;constructor
   ·intro h;cases h
   ·intro h;cases F with
    | nil=>cases h
    | cons p F=>rw[List.map_cons] at h;injection h with h _;cases h
  | inr p =>
   simp only;have ih:=readAll_map r (i+1)
   cases hr:Sp.readAll (i+1) r with
   | inl f =>
    simp only;constructor
    ·intro h;cases h
    ·intro h
     cases F with
     | nil=>cases h
     | cons q F =>
      rw[List.map_cons] at h;injection h with h1 h2
      have:=(ih F).2 h2;rw[hr] at this;cases this
   | inr l =>
    simp only;have:=(ih l).1 hr;constructor
    ·intro h;cases h;rw[List.map_cons,this]
    ·intro h
     cases F with
     | nil=>cases h
     | cons q F =>
      rw[List.map_cons] at h;injection h with h1 h2
      cases h1
      have:=(ih F).2 h2;rw[hr] at this;cases this;rfl
theorem read_len{ts:List Str}{i:Nat}{F:List Pk}(h:Sp.readAll i ts=.inr F):F.length=ts.length:=by
 have:=congrArg List.length ((readAll_map ts i F).1 h)
 simpa using this.symm
theorem read_good{ts:List Str}{i:Nat}{F:List Pk}(h:Sp.readAll i ts=.inr F):∀ p∈F,V3.Good p:=by
 intro p hp;have hm:=(readAll_map ts i F).1 h;have:(Sum.inr p:Nat ⊕ Pk)∈ts.map Sp.parse:=by rw[hm];exact List.mem_map.2 ⟨p,hp,rfl⟩
 obtain⟨t,_,ht⟩:=List.mem_map.1 this;exact(V3.parse_good ht).1
theorem add_iff:∀ (F:List Pk) (i:Nat) (T A:List Pk),Sp.addAll i T F=.inr A↔A=T ++ F/\F.Pairwise (fun p q=>p.name≠q.name)/\∀ p∈F,p.name ∉ Sp.names T
 | [],i,T,A=>by
  simp only[Sp.addAll,List.append_nil];constructor
  ·intro h;cases h;exact⟨rfl,List.Pairwise.nil,fun p hp=>(by cases hp)⟩
  ·rintro ⟨rfl,_⟩;rfl
 | p :: r,i,T,A=>by
  rw[Sp.addAll]
  split
  ·rename_i hc
   constructor
   ·intro h;cases h
   ·rintro ⟨_,_,h3⟩
    exact absurd (List.contains_iff_mem.1 hc) (h3 p (by simp))
  ·rename_i hc
   have hc':p.name ∉ Sp.names T:=fun hm=>hc (List.contains_iff_mem.2 hm)
   rw[add_iff r (i+1) (T ++ [p]) A,List.append_assoc,List.singleton_append,List.pairwise_cons];refine and_congr_right fun _=>?_
   constructor
   ·rintro ⟨h1,h2⟩
    refine⟨⟨fun q hq e=>h2 q hq (by simp[Sp.names,e]),h1⟩,fun q hq=>?_⟩
    rcases List.mem_cons.1 hq with rfl|hq
    ·exact hc'
    ·intro hm;exact h2 q hq (by unfold Sp.names at hm ⊢;rw[List.map_append];exact List.mem_append.2 (.inl hm))
   ·rintro ⟨⟨h1,h2⟩,h3⟩
    refine⟨h2,fun q hq hm=>?_⟩;unfold Sp.names at hm;rw[List.map_append] at hm
    rcases List.mem_append.1 hm with hm|hm
    ·exact h3 q (List.mem_cons_of_mem _ hq) hm
    ·simp at hm;exact h1 q hq hm.symm
theorem set_append{T F:List Pk}(hT:Sp.Set T)(hg:∀ p∈F,V3.Good p)(h1:F.Pairwise fun p q=>p.name≠q.name)(h2:∀ p∈F,p.name ∉ Sp.names T):Sp.Set (T ++ F):=by
 refine⟨fun p hp=>?_,List.pairwise_append.2 ⟨hT.apart,h1,fun p hp q hq e=>h2 q hq ?_⟩⟩
 ·rcases List.mem_append.1 hp with hp|hp
  ·exact hT.good p hp
  ·exact hg p hp
 ·rw[<-e];exact List.mem_map.2 ⟨p,hp,rfl⟩
theorem judged_ok{T F A:List Pk}{o:List Str}(h:Sp.judged T F A=.inr o):Sp.lacking A=[]/\Sp.barring A=[]/\Sp.clash A=[]/\(Sp.order T F).2=[]/\o=(Sp.order T F).1:=by
 unfold Sp.judged at h
 split at h
 ·cases h
 ·rename_i h1
  split at h
  ·cases h
  ·rename_i h2
   split at h
   ·cases h
   ·rename_i h3
    split at h
    ·cases h
    ·rename_i h4
     cases h
     simp only[Bool.not_eq_true',Bool.not_eq_false,List.isEmpty_iff] at h1 h2 h3 h4;exact⟨h1,h2,h3,h4,rfl⟩
theorem planned_iff{T:List Pk}{ts:List Str}{A:List Pk}{o:List Str}:Sp.planned T ts=.inr (A,o)↔∃ F,Sp.readAll 0 ts=.inr F/\Sp.addAll 0 T F=.inr A/\Sp.judged T F A=.inr o:=by
 unfold Sp.planned
 cases hr:Sp.readAll 0 ts with
 | inl f=>simp
 | inr F =>
  simp only
  cases ha:Sp.addAll 0 T F with
  | inl f =>
   simp only;constructor
   ·intro h;cases h
   ·rintro ⟨F',h1,h2,_⟩;cases h1;rw[ha] at h2;cases h2
  | inr B =>
   simp only
   cases hj:Sp.judged T F B with
   | inl f =>
    simp only;constructor
    ·intro h;cases h
    ·rintro ⟨F',h1,h2,h3⟩;cases h1;rw[ha] at h2;cases h2;rw[hj] at h3;cases h3
   | inr o' =>
    simp only;constructor
    ·intro h;cases h;exact⟨F,rfl,ha,hj⟩
    ·rintro ⟨F',h1,h2,h3⟩;cases h1;rw[ha] at h2;cases h2;rw[hj] at h3;cases h3;rfl
theorem planned_ok{T:List Pk}(hT:Sp.Set T){ts:List Str}{A:List Pk}{o:List Str}(h:Sp.planned T ts=.inr (A,o)):Sp.Ok A/\∃ F,A=T ++ F/\F.length=ts.length/\Sp.readAll 0 ts=.inr F/\(∀ p∈F,p.name ∉ Sp.names T)/\(Sp.order T F).2=[]/\o=(Sp.order T F).1:=by
 obtain⟨F,h1,h2,h3⟩:=planned_iff.1 h;obtain⟨rfl,h4,h5⟩:=(add_iff F 0 T A).1 h2;obtain⟨j1,j2,j3,j4,j5⟩:=judged_ok h3;exact⟨⟨set_append hT (read_good h1) h4 h5,j1,j2,j3⟩,F,rfl,read_len h1,h1,h5,j4,j5⟩
theorem filter_one:∀ {l:List Pk},l.Pairwise (fun p q=>p.name≠q.name)->∀ {p:Pk},p∈l->(l.filter fun q=>q.name != p.name).length+1=l.length
 | [],_,p,h=>by cases h
 | q :: r,ha,p,h=>by
  obtain⟨h1,h2⟩:=List.pairwise_cons.1 ha
  rcases List.mem_cons.1 h with rfl|h
  ·rw[List.filter_cons_of_neg (by simp)]
   have:r.filter (fun q=>q.name != p.name)=r:=by
    rw[List.filter_eq_self];intro q hq;simpa using fun e=>h1 q hq e.symm
   rw[this];rfl
  ·rw[List.filter_cons_of_pos (by simpa using h1 p h)]
   have:=filter_one h2 h;simp only[List.length_cons];omega
theorem order_len(T:List Pk):∀ (n:Nat) (l:List Pk),(∀ p∈l,p.name≠[])->l.Pairwise (fun p q=>p.name≠q.name)->(Sp.orderN T n l).1.length+(Sp.orderN T n l).2.length=l.length
 | 0,l,_,_=>by simp[Sp.orderN]
 | n+1,l,hn,ha=>by
  unfold Sp.orderN
  split
  ·simp
  ·rename_i hne
   have hnn:=V5.names_ne hn (fun p=>!l.any (Sp.waitsFor T p));have hf:(Sp.free T l).map (·.name)≠[]:=fun e=>hne (by rw[e];rfl)
   obtain⟨hm,_,_⟩:=V5.least_mem hnn hf;obtain⟨p,hp,he⟩:=List.mem_map.1 hm;have hpl:p∈l:=(List.mem_filter.1 hp).1;have h1:=filter_one ha hpl;have he':p.name=Sp.least ((Sp.free T l).map (·.name)):=he;rw[he'] at h1;have ih:=order_len T n (l.filter fun p=>p.name != Sp.least ((Sp.free T l).map (·.name))) (fun p hp=>hn p (List.mem_filter.1 hp).1) (ha.sublist List.filter_sublist);simp only[List.length_cons];omega
theorem names_ne{l:List Pk}(h:∀ p∈l,V3.Good p):∀ p∈l,p.name≠[]:=fun p hp=>V1.name_ne (h p hp).wf.name
theorem planned_len{T:List Pk}(hT:Sp.Set T){ts:List Str}{A:List Pk}{o:List Str}(h:Sp.planned T ts=.inr (A,o)):o.length=ts.length:=by
 obtain⟨hok,F,rfl,hl,hr,_,h2,rfl⟩:=planned_ok hT h;have:=order_len T F.length F (names_ne (read_good hr)) (List.pairwise_append.1 hok.set.apart).2.1;unfold Sp.order at h2 ⊢;rw[h2] at this
 simpa[hl] using this
theorem paths_ne{L:List Pk}(h:∀ p∈L,V3.Good p):∀ x∈Sp.paths L,x≠[]:=by
 intro x hx;unfold Sp.paths at hx;obtain⟨p,hp,hx⟩:=List.mem_flatMap.1 hx;obtain⟨f,hf,rfl⟩:=List.mem_map.1 hx;have:=((h p hp).wf.paths f hf).1;rintro e;rw[e] at this;exact absurd this (by decide)
theorem ok_perm{L R:List Pk}(h:Sp.Ok L)(hp:L.Perm R):Sp.Ok R:=by
 have hn:=names_ne h.set.good;refine⟨V8.Set.perm h.set hp,?_,?_,?_⟩
 ·rw[<-V5.lacking_perm hn (fun p=>hp.mem_iff)];exact h.need
 ·rw[<-V5.barring_perm hn (fun p=>hp.mem_iff)];exact h.bar
 ·rw[<-V5.clash_perm (paths_ne h.set.good) hp];exact h.clash
theorem bar_sub{L R:List Pk}(hn:∀ p∈R,p.name≠[])(h:∀ p∈L,p∈R)(hb:Sp.barring R=[]):Sp.barring L=[]:=by
 unfold Sp.barring at hb ⊢;rw[V5.least_none (V5.names_ne hn _)] at hb;rw[V5.least_none (V5.names_ne (fun p hp=>hn p (h p hp)) _)];rw[List.map_eq_nil_iff,List.filter_eq_nil_iff] at hb ⊢;intro p hp hbp;refine hb p (h p hp) ?_;unfold Sp.barsOne at hbp ⊢;rw[List.any_eq_true] at hbp ⊢;obtain⟨q,hq,hf⟩:=hbp;exact⟨q,h q hq,hf⟩
theorem paths_sub{L R:List Pk}(h:L.Sublist R):(Sp.paths L).Sublist (Sp.paths R):=by
 unfold Sp.paths
 induction h with
 | slnil=>exact List.Sublist.refl _
 | cons a _ ih=>rw[List.flatMap_cons];exact ih.trans (List.sublist_append_right _ _)
 | cons_cons a _ ih=>rw[List.flatMap_cons,List.flatMap_cons];exact(List.Sublist.refl _).append ih
theorem clash_sub{L R:List Pk}(hn:∀ x∈Sp.paths R,x≠[])(h:L.Sublist R)(hb:Sp.clash R=[]):Sp.clash L=[]:=by
 have hs:=paths_sub h;unfold Sp.clash at hb ⊢;rw[V5.least_none (fun x hx=>hn x (List.mem_filter.1 hx).1)] at hb;rw[V5.least_none (fun x hx=>hn x (hs.subset (List.mem_filter.1 hx).1))];rw[List.filter_eq_nil_iff] at hb ⊢;intro x hx hc;refine hb x (hs.subset hx) ?_;unfold Sp.clashAt at hc ⊢;rw[Bool.or_eq_true,decide_eq_true_eq] at hc ⊢
 rcases hc with hc|hc
 ·left
  rw[List.any_eq_true] at hc ⊢;obtain⟨q,hq,ho⟩:=hc;exact⟨q,hs.subset hq,ho⟩
 ·right
  exact Nat.le_trans hc (hs.count_le x)
theorem ok_sub{L R:List Pk}(hR:Sp.Ok R)(h:L.Sublist R)(hl:Sp.lacking L=[]):Sp.Ok L:=
 ⟨⟨fun p hp=>hR.set.good p (h.subset hp),hR.set.apart.sublist h⟩,hl,bar_sub (names_ne hR.set.good) (fun _ hp=>h.subset hp) hR.bar,clash_sub (paths_ne hR.set.good) h hR.clash⟩
theorem remove_sub:∀ (ns:List Str) (i:Nat) {L A:List Pk},Sp.removeAll i L ns=.inr A->A.Sublist L
 | [],i,L,A,h=>by cases h;exact List.Sublist.refl _
 | n :: r,i,L,A,h=>by
  rw[Sp.removeAll] at h
  split at h
  ·exact(remove_sub r (i+1) h).trans List.filter_sublist
  ·cases h
theorem removed_ok{L A:List Pk}(hL:Sp.Ok L){ns:List Str}(h:Sp.removed L ns=.inr A):Sp.Ok A/\A.Sublist L:=by
 unfold Sp.removed at h
 cases hr:Sp.removeAll 0 L ns with
 | inl f=>rw[hr] at h;cases h
 | inr B =>
  rw[hr] at h;simp only at h
  split at h
  ·cases h
  ·rename_i hc
   cases h
   simp only[Bool.not_eq_true',Bool.not_eq_false,List.isEmpty_iff] at hc;have:=remove_sub ns 0 hr;exact⟨ok_sub hL this hc,this⟩
theorem paths_nodup{L:List Pk}(h:Sp.Ok L):(Sp.paths L).Nodup:=by
 have hc:=h.clash;unfold Sp.clash at hc;rw[V5.least_none (fun x hx=>paths_ne h.set.good x (List.mem_filter.1 hx).1),List.filter_eq_nil_iff] at hc;rw[List.nodup_iff_count];intro x
 by_cases hx:x∈Sp.paths L
 ·have:=hc x hx
  unfold Sp.clashAt at this;simp only[Bool.or_eq_true,decide_eq_true_eq,not_or] at this;omega
 ·rw[List.count_eq_zero_of_not_mem hx];omega
end V9
end
section
open Go.RowKit Go.Maps
def ownKV(L:List Sp.Pk):KV:=L.flatMap fun p=>p.files.map fun f=>(f.path,sv p.name)
namespace ST
theorem own_keys(L:List Sp.Pk):(ownKV L).map (·.1)=Sp.paths L:=by
 unfold ownKV Sp.paths;rw[List.map_flatMap]
 congr 1;funext p
 rw[List.map_map];rfl
theorem own_len(L:List Sp.Pk):(ownKV L).length=(Sp.paths L).length:=by rw[<-own_keys,List.length_map]
theorem own_append(L R:List Sp.Pk):ownKV (L ++ R)=ownKV L ++ ownKV R:=by unfold ownKV;rw[List.flatMap_append]
theorem own_perm{L R:List Sp.Pk}(h:L.Perm R):(ownKV L).Perm (ownKV R):=h.flatMap_right _
theorem paths_len:∀ (L:List Sp.Pk),(∀ p∈L,p.files.length<=4)->(Sp.paths L).length<=4*L.length
 | [],_=>by simp[Sp.paths]
 | p :: r,h=>by
  have h1:=h p (by simp);have h2:=paths_len r fun q hq=>h q (List.mem_cons_of_mem _ hq)
  unfold Sp.paths at h2 ⊢;rw[List.flatMap_cons,List.length_append,List.length_map,List.length_cons];omega
def someKV(p:Sp.Pk)(k:Nat):KV:=(p.files.take k).map fun f=>(f.path,sv p.name)
theorem some_snoc(p:Sp.Pk)(k:Nat)(hk:k<p.files.length):someKV p (k+1)=someKV p k ++ [(p.files[k].path,sv p.name)]:=by
 unfold someKV;rw[List.take_succ_eq_append_getElem hk,List.map_append];rfl
theorem some_all(p:Sp.Pk):someKV p p.files.length=ownKV [p]:=by unfold someKV ownKV;rw[List.take_length];simp
theorem own_new{done rest:List Sp.Pk}{p:Sp.Pk}(hn:(Sp.paths (done ++ p :: rest)).Nodup)(k:Nat)(hk:k<p.files.length):hasKV (ownKV done ++ someKV p k) p.files[k].path=false:=by
 rw[<-Bool.not_eq_true,MP.has_iff];rintro ⟨q,hq,he⟩;have hp:Sp.paths (done ++ p :: rest)=Sp.paths done ++ (p.files.map (·.path) ++ Sp.paths rest):=by unfold Sp.paths;rw[List.flatMap_append,List.flatMap_cons]
 rw[hp,List.nodup_append] at hn;obtain⟨_,h2,h3⟩:=hn;have hmem:p.files[k].path∈p.files.map (·.path):=List.mem_map.2 ⟨_,List.getElem_mem hk,rfl⟩
 rcases List.mem_append.1 hq with hq|hq
 ·have:q.1∈Sp.paths done:=by rw[<-own_keys];exact List.mem_map.2 ⟨q,hq,rfl⟩
  exact h3 q.1 this p.files[k].path (List.mem_append.2 (.inl hmem)) he
 ·have hnd:=(List.nodup_append.1 h2).1
  have hsplit:p.files.map (·.path)=(p.files.take k).map (·.path) ++ (p.files[k].path :: (p.files.drop (k+1)).map (·.path)):=by
   rw[<-List.map_cons,<-List.drop_eq_getElem_cons hk,<-List.map_append,List.take_append_drop]
  rw[hsplit,List.nodup_append] at hnd;obtain⟨f,hf,rfl⟩:=List.mem_map.1 hq;exact hnd.2.2 f.path (List.mem_map.2 ⟨f,hf,rfl⟩) _ (by simp) he
end ST
theorem take_any{S:Nat->Prop}{w:World}{s D last:Nat}{mv ov:Value}(hs:StBlk w s D last mv ov)(mb:Nat)(L:List (Nat × Sp.Pk))(h:SetOn S w mb L)(hS:∀ x,S x->x<w.heap.size/\x≠s)(hms:mb≠s)(hL:L.length<100000)(hnd:(Sp.paths (pks L)).Nodup):
  Calls Tryz.prog 121 #[.pointer (some ⟨s,0,none⟩),.map (some mb)] w fun e w'=>e=.returned (.tuple #[])/\Chg (·=s) w w'/\∃ ob,w.heap.size<=ob/\StBlk w' s D last (.map (some mb)) (.map (some ob))/\MapAt w' ob (ownKV (pks L)):=by
 have hmm:=@run_makeMap Tryz.prog;obtain⟨c0,c1,c2,c3,cz⟩:=hs.cells;have hlt:=hs.lt;have hml:=h.map.lt;have H:=hid h;have HSL:=hid hS;have HST:=hid hs;have HND:=hid hnd;clear h hS hs hnd;have hW:∀ k,k<w.heap.size->k≠s->(((w.setCell ⟨s,2,none⟩ (.map (some mb))).setCell ⟨s,3,none⟩ (.map (some w.heap.size))).alloc (.map #[] 0)).heap[k]? = w.heap[k]?:=fun k hk hne=>by
  rw[Below.heap_alloc _ _ _ (by simpa[World.setCell] using hk),Below.heap_setCell _ _ _ _ hne,Below.heap_setCell _ _ _ _ hne]
 have h2:SetOn S (((w.setCell ⟨s,2,none⟩ (.map (some mb))).setCell ⟨s,3,none⟩ (.map (some w.heap.size))).alloc (.map #[] 0)) mb L:=H.out.keep (hW mb hml hms) fun x hx=>hW x (HSL.out x hx).1 (HSL.out x hx).2
 have hB2:StBlk (((w.setCell ⟨s,2,none⟩ (.map (some mb))).setCell ⟨s,3,none⟩ (.map (some w.heap.size))).alloc (.map #[] 0)) s D last (.map (some mb)) (.map (some w.heap.size)):=
  ((HST.out.set2 (.map (some mb))).set3 (.map (some w.heap.size))).keep (Below.heap_alloc _ _ _ (by simpa[World.setCell] using hlt))
 have hM2:MapAt (((w.setCell ⟨s,2,none⟩ (.map (some mb))).setCell ⟨s,3,none⟩ (.map (some w.heap.size))).alloc (.map #[] 0)) w.heap.size []:=by
  have:=MapAt.made ((w.setCell ⟨s,2,none⟩ (.map (some mb))).setCell ⟨s,3,none⟩ (.map (some w.heap.size)))
  simpa[World.setCell] using this
 have hC2:Chg (·=s) w (((w.setCell ⟨s,2,none⟩ (.map (some mb))).setCell ⟨s,3,none⟩ (.map (some w.heap.size))).alloc (.map #[] 0)):=(((Chg.refl (·=s) w).setCell (p:=⟨s,2,none⟩) rfl _).setCell (p:=⟨s,3,none⟩) rfl _).alloc _;have hz2:(((w.setCell ⟨s,2,none⟩ (.map (some mb))).setCell ⟨s,3,none⟩ (.map (some w.heap.size))).alloc (.map #[] 0)).heap.size=w.heap.size+1:=by simp[World.setCell]
 have HH2:=hid h2;have HB2:=hid hB2;have HM2:=hid hM2;have HC2:=hid hC2;have HZ2:=hid hz2;clear hW h2 hB2 hM2 hC2 hz2;go_enter Tryz.func121,Tryz.ntmps121;go_wp2_with (at_range;refine wp_set_range _ 140 118 rfl _ rfl Tryz.underlying140 mb L rfl HH2.out ?_;intro w1 hr1 hg1 hs1)
 go_frame
 generalize (((w.setCell ⟨s,2,none⟩ (.map (some mb))).setCell ⟨s,3,none⟩ (.map (some w.heap.size))).alloc (.map #[] 0))=w0 at *;rw[HZ2.out] at hs1;have hb1:Below w0.heap.size w0 w1:=⟨hg1.os,hg1.tape,hg1.output,by rw[HZ2.out];omega,fun k hk=>hg1.block k hk (by simp)⟩
 have hz0:=Nat.le_of_eq HZ2.out;have hz1:=Nat.le_of_eq HZ2.out.symm;have hM1:=HM2.out.below hb1 HM2.out.lt;have hB1:=HB2.out.keep (hb1.block s HB2.out.lt);have hC1:=HC2.out.trans (Chg.of_below (M:=(·=s)) hb1);have hbw1:Below w.heap.size w0 w1:=hb1.mono (by omega);have HPK:=hid (fun (W:World) (hW:Below w.heap.size w0 W) (q:Nat × Sp.Pk) (hq:q∈L)=>(⟨(HH2.out.2.2 q hq).1.keep fun x hx=>hW.block x (HSL.out x hx).1,(HH2.out.2.2 q hq).2⟩:IsPack S W q.1 q.2/\PkOk q.2));have HBK:=hid (fun (W:World) (hW:Below w.heap.size w0 W)=>HB2.out.keep (hW.block s hlt));have HC0:=hid HC2.out;have HM1:=hid hM1;clear hM1 hB1 hC1 hg1 c0 c1 c2 c3 cz HM2 HST
 go_loopw [5] (fun _ wr=>∃ (T done:List (Nat × Sp.Pk)),RangeS wr mb w0.heap.size L T/\(done ++ T).Perm L/\MapAt wr w.heap.size (ownKV (pks done))/\Below w.heap.size w0 wr) (fun _ wr=>wr.rangeLeft mb w0.heap.size)
 case atStart=>exact⟨L,[],hr1,List.Perm.refl _,HM1.out,hbw1⟩
 case round =>
  obtain⟨T,done,hr,hperm,hmap,hbel⟩:=hrel;have HPE:=hid hperm;have HMA:=hid hmap;clear hperm hmap;go_wp2_with (at_next;refine wp_set_next _ rfl _ rfl mb w0.heap.size L T rfl hr ?_ ?_)
  ·intro hT
   subst hT;go_wp2
   go_end0
   have hp:=HPE.out;rw[List.append_nil] at hp;exact⟨rfl,HC0.out.low hbel,w.heap.size,Nat.le_refl _,HBK.out _ hbel,HMA.out.perm (ST.own_perm (hp.map _))⟩
  ·intro tb tp w2 ht hr2 hg2 hs2 hen hleft
   have hq:=hr.sub (tb,tp) ht;have hw0:=hbel.size;have hg2b:Below (w.heap.size+1) wr w2:=grown_below hg2 (by omega) (by have:=hr.at_.lt;omega);have hbel2:Below w.heap.size w0 w2:=hbel.trans (hg2b.mono (by omega));obtain⟨hip,hok⟩:=HPK.out w2 hbel2 (tb,tp) hq;obtain⟨nv,bv,fv,hSb,h0,h1,h2,h3,h4,g0,g1,g2,n0,n1⟩:=hip;obtain⟨fa,fc,rfl,hfc,hfl⟩:=FlOn.get g2;have hfew:tp.files.length<=4:=hok.files;have hpl:∀ (j:Nat) (hj:j<tp.files.length),(tp.files[j]).path.length<=maxLen:=fun j hj=>by
    have:=hok.paths _ (List.getElem_mem hj);unfold maxLen;omega
   have htb:=(HSL.out tb hSb).1;have hperm2:(pks done ++ tp :: pks (MP.dropL T tp.name)).Perm (pks L):=by
    have e1:(done ++ T).Perm (done ++ (tb,tp) :: MP.dropL T tp.name):=(MP.dropL_perm hr.apart ht).append_left done;have e2:=(e1.symm.trans HPE.out).map (·.2);unfold pks
    simpa using e2
   have HPT:=hid ((MP.dropL_perm hr.apart ht).append_left done);have hnew:∀ (j:Nat) (hj:j<tp.files.length),hasKV (ownKV (pks done) ++ ST.someKV tp j) tp.files[j].path=false:=fun j hj=>ST.own_new ((V5.paths_perm hperm2).nodup_iff.2 HND.out) j hj
   have hcnt:∀ j,(ownKV (pks done) ++ ST.someKV tp j).length<1000000:=fun j=>by
    have h5:(ST.someKV tp j).length<=4:=by unfold ST.someKV;rw[List.length_map,List.length_take];omega
    have h6:=ST.paths_len (pks done) (fun p hp=>by
     obtain⟨q,hq,rfl⟩:=List.mem_map.1 hp;exact(H.out.2.2 q (HPE.out.mem_iff.1 (List.mem_append.2 (.inl hq)))).2.files)
    have h7:=HPE.out.length_eq;rw[List.length_append] at h7;have h8:(pks done).length=done.length:=by unfold pks;rw[List.length_map]
    rw[List.length_append,ST.own_len];omega
   have hM2:=HMA.out.below hg2b (Nat.lt_succ_self _);have HM2:=hid hM2;have HFL:=hid hfl;have HPL:=hid hpl;have HNEW:=hid hnew;have HCNT:=hid hcnt;have HPE2:=hid hperm2;have HR2:=hid hr2;clear hM2 hfl hpl hnew hcnt hperm2 g0 g1 g2 n0 n1 h0 h1 h3 hr hok hr2 hg2 hfc;unfold sv at h2;have H2:=hid h2;go_wp2_with fail;obtain⟨wo,rfl⟩:∃ wo:World,wo=wr:=⟨_,rfl⟩
   go_loopw [27] (fun i wi=>∃ j:Nat,j<=tp.files.length/\i=.int .i64 j/\MapAt wi w.heap.size (ownKV (pks done) ++ ST.someKV tp j)/\RangeS wi mb w0.heap.size L (MP.dropL T tp.name)/\Below w.heap.size w0 wi/\wi.rangeLeft mb w0.heap.size<wo.rangeLeft mb w0.heap.size) (fun i _=>tp.files.length+1-(intOf i).toNat)
   case atStart=>exact⟨0,Nat.zero_le _,rfl,by simpa[ST.someKV] using HM2.out,HR2.out,hbel2,hleft⟩
   case round =>
    obtain⟨j,hj,rfl,hmi,hri,hbi,hlefti⟩:=hrel;have HMI:=hid hmi;have HRI:=hid hri;have hwi:=hbi.size;clear hmi hri
    by_cases hlt2:j<tp.files.length
    ·obtain⟨b,off,rfl,hbS,hc0,hc1⟩:=HFL.out j hlt2
     have hbl:=(HSL.out b hbS).1;have hb2i:∀ (p:Addr),p.block<w.heap.size->wr.cell? p=w2.cell? p:=fun p hp=>(hbi.cell (p:=p) hp).trans (hbel2.cell (p:=p) hp).symm
     have d0:=(hb2i ⟨b,off+j*2,none⟩ hbl).trans hc0;have d1:=(hb2i ⟨b,off+j*2+1,none⟩ hbl).trans hc1;have d2:=(hb2i ⟨tb,2,none⟩ htb).trans H2.out;obtain⟨s0,s1,s2,s3,sz⟩:=(HBK.out wr hbi).cells;have hpj:=HPL.out j hlt2;have hnj:=HNEW.out j hlt2;have hcj:=HCNT.out j;have hsn:=ST.some_snoc tp j hlt2;have htbl:tb<wr.heap.size:=by omega
     have hsl:s<wr.heap.size:=by omega
     unfold sv at d0 d1 hsn;generalize tp.files[j].path=path at *;generalize tp.files[j].content=cont at *;have HPJ:=hid hpj;have HNJ:=hid hnj;have HSN:=hid hsn;clear hc0 hc1 hpj hnj hsn hb2i;have e0:(wr.alloc (.cells #[.string ⟨path.toArray⟩,.string ⟨cont.toArray⟩] 182)).cell? ⟨wr.heap.size,0,none⟩=some (.string ⟨path.toArray⟩):=by rw[World.cell?_alloc_at _ _ _ _ rfl];rfl
     go_wp2_with fail;have hbA:Below wr.heap.size wr (wr.alloc (.cells #[.string ⟨path.toArray⟩,.string ⟨cont.toArray⟩] 182)):=(Below.refl _ _).alloc (Nat.le_refl _) _;have q3:=((bcell hbA).1 s 3 hsl).trans s3;have q2:=((bcell hbA).1 tb 2 htbl).trans d2;have hMA:=HMI.out.below hbA HMI.out.lt;have hRA:=HRI.out.block (hbA.block mb (by omega)) (hbA.block w0.heap.size HRI.out.at_.lt);have hLA:(wr.alloc (.cells #[.string ⟨path.toArray⟩,.string ⟨cont.toArray⟩] 182)).rangeLeft mb w0.heap.size<wo.rangeLeft mb w0.heap.size:=by
      rw[rangeLeft_block (hbA.block mb (by omega)) (hbA.block w0.heap.size HRI.out.at_.lt)];exact hlefti
     have hBA:Below w.heap.size w0 (wr.alloc (.cells #[.string ⟨path.toArray⟩,.string ⟨cont.toArray⟩] 182)):=hbi.trans (hbA.mono (by omega));generalize (wr.alloc (.cells #[.string ⟨path.toArray⟩,.string ⟨cont.toArray⟩] 182))=x0 at *;have HMA2:=hid hMA;have HRA:=hid hRA;clear hMA hRA;go_still_tail 10,(by kernel_rfl)
     change wpList _ _ _ _ _ (World.drew x0);have hMD:MapAt x0.drew w.heap.size (ownKV (pks done) ++ ST.someKV tp j):=HMA2.out.block rfl;have HMD:=hid hMD;have hx0l:w0.heap.size<x0.heap.size:=HRA.out.at_.lt;clear hMD;go_wp2_with (at_mapUpdate;refine wp_map_put _ 148 9 rfl _ _ _ rfl Tryz.underlying148 w.heap.size _ rfl HMD.out (by omega) path HPJ.out HNJ.out rfl (.string ⟨tp.name.toArray⟩) rfl ?_;intro w4 hO4 hg4);have hk4:∀ k,k<x0.heap.size->k≠w.heap.size->w4.heap[k]? = x0.heap[k]?:=fun k hk hne=>hg4.block k hk (by simpa using hne)
     have hb4:Below w.heap.size x0 w4:=⟨hg4.os,hg4.tape,hg4.output,hg4.size,fun k hk=>hk4 k (by omega) (by omega)⟩
     go_roundw
     case rel=>exact⟨j+1,hlt2,by go_num,by rw[HSN.out,<-List.append_assoc];exact hO4,HRA.out.block (hk4 mb (by omega) (by omega)) (hk4 w0.heap.size hx0l (by omega)),hBA.trans hb4,by rw[rangeLeft_block (hk4 mb (by omega) (by omega)) (hk4 w0.heap.size hx0l (by omega))];exact hLA⟩
     case measure=>simp[intOf];omega
    ·obtain rfl:j=tp.files.length:=by omega
     go_wp2;go_roundw
     case rel=>exact⟨MP.dropL T tp.name,done ++ [(tb,tp)],HRI.out,by
       have e1:(done ++ T).Perm (done ++ (tb,tp) :: MP.dropL T tp.name):=HPT.out;rw[List.append_assoc];exact e1.symm.trans HPE.out,by
       have:=HMI.out;rw[ST.some_all] at this;unfold pks;rw[List.map_append,ST.own_append];exact this,hbi⟩
     case measure=>exact hlefti
end
section
namespace Sp
structure St where
 d:Dk
 last:Nat
 L:List Pk
namespace St
def become(x:St)(A:List Pk):St:=if A.length=x.L.length then { d:=x.d,last:=x.last,L:=A } else { d:=save x.d x.last (joined A),last:=x.last+1,L:=A }
def opened(d:Dk):St:={ d:=d,last:=(load d.seen 0).2,L:=loaded (load d.seen 0).1 }
def new(S:Nat):St:=opened (fresh S)
def cut(x:St)(k:Int):St:={ d:=x.d.cut k,last:=x.last,L:=x.L }
def reopen(x:St)(mask after:Int):St:=opened ((x.d.back mask).cut after)
def install(x:St)(ts:List Str):Fault × St:=
 match planned x.L ts with
 | .inl f=>(f,x)
 | .inr (A,_)=>if room x.d.seen.length<size A then(⟨8,0,0,[]⟩,x) else(okF,x.become A)
def remove(x:St)(ns:List Str):Fault × St:=
 match removed x.L ns with
 | .inl f=>(f,x)
 | .inr A=>if room x.d.seen.length<size A then(⟨8,0,0,[]⟩,x) else(okF,x.become A)
end St
end Sp
namespace V10
open Sp (Str Pk Dk St)
open V6 V7
structure Live(S:Nat)(x:St):Prop where
 ok:Sp.Ok x.L
 room:Sp.size x.L<=Sp.room S
 calm:V7.Calm S x.last (Sp.joined x.L) x.d
 big:16<=S/\S<=256
theorem Live.seen{S:Nat}{x:St}(h:Live S x):x.d.seen.length=S:=h.calm.lies.len
theorem room_small{L:List Pk}{S:Nat}(h:Sp.Set L)(hS:16<=S/\S<=256)(hr:Sp.size L<=Sp.room S):(Sp.joined L).length<=Sp.areaN S*64/\(Sp.joined L).length<18446744073709551616/\L.length<=600:=by
 have h1:=V8.joined_fits h hS.1 hr;have h2:=V8.size_count h.good;unfold Sp.room at hr;refine⟨h1,Nat.lt_of_le_of_lt h1 ?_,by omega⟩;unfold Sp.areaN;omega
def Two(n:Nat)(L A:List Pk)(m:Nat)(b:Str):Prop:=(m=n/\b=Sp.joined L)\/(m=n+1/\b=Sp.joined A)
theorem become_live{S:Nat}{x:St}(h:Live S x){A:List Pk}(hA:Sp.Ok A)(hr:Sp.size A<=Sp.room S)(hn:x.last+1<18446744073709551616)(hp:A.length=x.L.length->A.Perm x.L):
  ((x.become A).d.dead=false/\Live S (x.become A))\/V7.Torn S (Two x.last x.L A) (x.become A).d:=by
 unfold St.become
 split
 ·rename_i hl
  left;refine⟨h.calm.dead,hA,hr,?_,h.big⟩;rw[V8.joined_eq hA.set (hp hl)];exact h.calm
 ·obtain⟨r1,r2,r3⟩:=room_small hA.set h.big hr
  rcases save_law h.calm hn r1 r2 with⟨h1,h2⟩|h1
  ·exact .inl ⟨h1,hA,hr,h2,h.big⟩
  ·exact .inr h1
theorem opened_live{S N:Nat}{L:List Pk}{d:Dk}(h:V7.Calm S N (Sp.joined L) d)(hL:Sp.Ok L)(hr:Sp.size L<=Sp.room S)(hS:16<=S/\S<=256):Live S (St.opened d)/\(St.opened d).last=N/\(St.opened d).L=V8.byName L:=by
 have hl:=load_lies h.lies;have e1:(St.opened d).last=N:=by unfold St.opened;rw[hl]
 have e2:(St.opened d).L=V8.byName L:=by unfold St.opened;rw[hl];exact V8.loaded_joined hL.set
 have hp:=V8.byName_perm hL.set;refine⟨⟨?_,?_,?_,hS⟩,e1,e2⟩
 ·rw[e2];exact V9.ok_perm hL hp.symm
 ·rw[e2,V8.size_perm hp];exact hr
 ·rw[e1,e2,<-V8.joined_eq hL.set hp.symm];exact h
theorem new_live{S:Nat}(hS:16<=S/\S<=256):Live S (St.new S)/\(St.new S).last=0/\(St.new S).L=[]:=by
 have h:V7.Calm S 0 (Sp.joined []) (Sp.fresh S):=by
  have e:Sp.joined []=[]:=by simp[Sp.joined,Sp.texts,Sp.names,Sp.sorted,Lib.join_nil]
  rw[e];exact V7.Calm.fresh S (by omega)
 obtain⟨h1,h2,h3⟩:=opened_live h V9.nil_ok (by unfold Sp.size;simp) hS;exact⟨h1,h2,by unfold St.new;rw[h3];simp[V8.byName,Sp.names,Sp.sorted]⟩
theorem cut_live{S:Nat}{x:St}(h:Live S x)(k:Int):Live S (x.cut k):=⟨h.ok,h.room,h.calm.cut k,h.big⟩
theorem reopen_live{S:Nat}{x:St}(h:Live S x)(mask after:Int):Live S (x.reopen mask after)/\(x.reopen mask after).last=x.last/\(x.reopen mask after).L=V8.byName x.L:=
 opened_live ((h.calm.back mask).cut after) h.ok h.room h.big
theorem reopen_torn{S n:Nat}{L A:List Pk}{d:Dk}(h:V7.Torn S (Two n L A) d)(hL:Sp.Ok L)(hA:Sp.Ok A)(rL:Sp.size L<=Sp.room S)(rA:Sp.size A<=Sp.room S)(hS:16<=S/\S<=256)(mask after:Int):
  Live S (St.opened ((d.back mask).cut after))/\(((St.opened ((d.back mask).cut after)).last=n/\(St.opened ((d.back mask).cut after)).L=V8.byName L)\/((St.opened ((d.back mask).cut after)).last=n+1/\(St.opened ((d.back mask).cut after)).L=V8.byName A)):=by
 obtain⟨N,b,hq,hc⟩:=h.back mask
 rcases hq with⟨rfl,rfl⟩|⟨rfl,rfl⟩
 ·obtain⟨h1,h2,h3⟩:=opened_live (hc.cut after) hL rL hS
  exact⟨h1,.inl ⟨h2,h3⟩⟩
 ·obtain⟨h1,h2,h3⟩:=opened_live (hc.cut after) hA rA hS
  exact⟨h1,.inr ⟨h2,h3⟩⟩
theorem perm_of_len{T F:List Pk}(h:(T ++ F).length=T.length):F=[]:=by
 rw[List.length_append] at h;exact List.length_eq_zero_iff.1 (by omega)
theorem install_no{x:St}{ts:List Str}{f:Sp.Fault}(hp:Sp.planned x.L ts=.inl f):x.install ts=(f,x):=by
 unfold St.install;rw[hp]
theorem install_full{S:Nat}{x:St}(h:Live S x){ts:List Str}{A:List Pk}{o:List Str}(hp:Sp.planned x.L ts=.inr (A,o))(hr:Sp.room S<Sp.size A):x.install ts=(⟨8,0,0,[]⟩,x):=by
 unfold St.install;rw[hp,h.seen];simp only;rw[if_pos hr]
theorem install_yes{S:Nat}{x:St}(h:Live S x)(hn:x.last+1<18446744073709551616){ts:List Str}{A:List Pk}{o:List Str}(hp:Sp.planned x.L ts=.inr (A,o))(hr:Sp.size A<=Sp.room S):
  x.install ts=(Sp.okF,x.become A)/\Sp.Ok A/\(((x.become A).d.dead=false/\Live S (x.become A))\/V7.Torn S (Two x.last x.L A) (x.become A).d):=by
 obtain⟨hok,F,rfl,hl,_⟩:=V9.planned_ok h.ok.set hp;refine⟨?_,hok,become_live h hok hr hn fun e=>?_⟩
 ·unfold St.install;rw[hp,h.seen];simp only;rw[if_neg (by omega)]
 ·rw[perm_of_len e,List.append_nil]
end V10
end
section
namespace Sp
namespace St
def plan(x:St)(ts:List Str):Fault × List Str:=
 match planned x.L ts with
 | .inl f=>(f,[])
 | .inr (_,o)=>(okF,o)
end St
end Sp
namespace V11
open Sp (Str Pk Dk St)
open V6 V7
theorem write_sure{d:Dk}(h:d.left<0)(hd:d.dead=false)(n:Nat)(c:Str):(d.write n c).left=d.left/\(d.write n c).dead=false:=by
 unfold Dk.write
 split
 ·refine⟨if_neg (by omega),?_⟩
  show(d.dead || decide (d.left=0))=false
  rw[hd,decide_eq_false (by omega)];rfl
 ·exact⟨rfl,hd⟩
theorem sync_sure{d:Dk}(h:d.left<0)(hd:d.dead=false):d.sync.left=d.left/\d.sync.dead=false:=by
 have e:(d.dead || decide (d.left=0))=false:=by rw[hd,decide_eq_false (by omega)];rfl
 unfold Dk.sync;rw[if_neg (by rw[e];decide)];exact⟨if_neg (by omega),e⟩
theorem writes_sure:∀ (cs:List Str) (n:Nat) {d:Dk},d.left<0->d.dead=false->(d.writes n cs).left=d.left/\(d.writes n cs).dead=false
 | [],_,_,_,hd=>⟨rfl,hd⟩
 | c :: r,n,d,h,hd=>by
  obtain⟨h1,h2⟩:=write_sure h hd n c;obtain⟨h3,h4⟩:=writes_sure r (n+1) (d:=d.write n c) (by rw[h1];exact h) h2;exact⟨h3.trans h1,h4⟩
theorem save_sure{d:Dk}(h:d.left<0)(hd:d.dead=false)(N:Nat)(b:Str):(Sp.save d N b).left=d.left/\(Sp.save d N b).dead=false:=by
 unfold Sp.save;obtain⟨a1,a2⟩:=writes_sure (Sp.chunks b) (Sp.areaFrom d.seen.length (N+1)) h hd;obtain⟨b1,b2⟩:=sync_sure (by rw[a1];exact h) a2;obtain⟨c1,c2⟩:=write_sure (by rw[b1,a1];exact h) b2 ((N+1) % 2) (Sp.headB (N+1) b.length (Sp.sum b));obtain⟨d1,d2⟩:=sync_sure (by rw[c1,b1,a1];exact h) c2;exact⟨by rw[d1,c1,b1,a1],d2⟩
structure Sure(S:Nat)(x:St):Prop where
 live:V10.Live S x
 left:x.d.left=-1
theorem new_sure{S:Nat}(hS:16<=S/\S<=256):Sure S (St.new S)/\(St.new S).last=0/\(St.new S).L=[]:=by
 obtain⟨h1,h2,h3⟩:=V10.new_live hS;exact⟨⟨h1,rfl⟩,h2,h3⟩
theorem become_sure{S:Nat}{x:St}(h:Sure S x){A:List Pk}(hA:Sp.Ok A)(hr:Sp.size A<=Sp.room S)(hn:x.last+1<18446744073709551616)(hp:A.length=x.L.length->A.Perm x.L):
  Sure S (x.become A)/\(x.become A).last<=x.last+1/\(x.become A).L=A:=by
 have e2:(x.become A).L=A:=by unfold St.become;split <;> rfl
 have e1:(x.become A).last<=x.last+1:=by unfold St.become;split <;> simp
 have hl:(x.become A).d.left=-1/\(x.become A).d.dead=false:=by
  unfold St.become
  split
  ·exact⟨h.left,h.live.calm.dead⟩
  ·obtain⟨h1,h2⟩:=save_sure (d:=x.d) (by rw[h.left];decide) h.live.calm.dead x.last (Sp.joined A)
   exact⟨h1.trans h.left,h2⟩
 rcases V10.become_live h.live hA hr hn hp with⟨_,h1⟩|h1
 ·exact⟨⟨h1,hl.1⟩,e1,e2⟩
 ·have:=h1.dead
  rw[hl.2] at this;cases this
theorem readAll_kind:∀ (ts:List Str) (i:Nat) {f:Sp.Fault},Sp.readAll i ts=.inl f->f.kind=1
 | [],i,f,h=>by cases h
 | t :: r,i,f,h=>by
  rw[Sp.readAll] at h
  split at h
  ·cases h;rfl
  ·split at h
   ·rename_i hr
    cases h;exact readAll_kind r (i+1) hr
   ·cases h
theorem addAll_kind:∀ (F:List Pk) (i:Nat) {T:List Pk} {f:Sp.Fault},Sp.addAll i T F=.inl f->f.kind=2
 | [],i,T,f,h=>by cases h
 | p :: r,i,T,f,h=>by
  rw[Sp.addAll] at h
  split at h
  ·cases h;rfl
  ·exact addAll_kind r (i+1) h
theorem judged_kind{T F A:List Pk}{f:Sp.Fault}(h:Sp.judged T F A=.inl f):4<=f.kind/\f.kind<=7:=by
 unfold Sp.judged at h
 split at h
 ·cases h;exact⟨by simp,by simp⟩
 ·split at h
  ·cases h;exact⟨by simp,by simp⟩
  ·split at h
   ·cases h;exact⟨by simp,by simp⟩
   ·split at h
    ·cases h;exact⟨by simp,by simp⟩
    ·cases h
theorem planned_kind{T:List Pk}{ts:List Str}{f:Sp.Fault}(h:Sp.planned T ts=.inl f):1<=f.kind/\f.kind<=7:=by
 unfold Sp.planned at h
 cases hr:Sp.readAll 0 ts with
 | inl g=>rw[hr] at h;cases h;have:=readAll_kind ts 0 hr;omega
 | inr F =>
  rw[hr] at h;simp only at h
  cases ha:Sp.addAll 0 T F with
  | inl g=>rw[ha] at h;cases h;have:=addAll_kind F 0 ha;omega
  | inr A =>
   rw[ha] at h;simp only at h
   cases hj:Sp.judged T F A with
   | inl g=>rw[hj] at h;cases h;have:=judged_kind hj;omega
   | inr o=>rw[hj] at h;cases h
theorem removeAll_kind:∀ (ns:List Str) (i:Nat) {L:List Pk} {f:Sp.Fault},Sp.removeAll i L ns=.inl f->f.kind=3
 | [],i,L,f,h=>by cases h
 | n :: r,i,L,f,h=>by
  rw[Sp.removeAll] at h
  split at h
  ·exact removeAll_kind r (i+1) h
  ·cases h;rfl
theorem removed_kind{L:List Pk}{ns:List Str}{f:Sp.Fault}(h:Sp.removed L ns=.inl f):f.kind=3\/f.kind=4:=by
 unfold Sp.removed at h
 cases hr:Sp.removeAll 0 L ns with
 | inl g=>rw[hr] at h;cases h;exact .inl (removeAll_kind ns 0 hr)
 | inr A =>
  rw[hr] at h;simp only at h
  split at h
  ·cases h;exact .inr rfl
  ·cases h
theorem install_cases{S:Nat}{x:St}(h:Sure S x)(hn:x.last+1<18446744073709551616)(ts:List Str):
  ((x.install ts).1.kind≠0/\(x.install ts).2=x/\((∃ f,Sp.planned x.L ts=.inl f/\(x.install ts).1=f)\/∃ A o,Sp.planned x.L ts=.inr (A,o)/\Sp.room S<Sp.size A/\(x.install ts).1=⟨8,0,0,[]⟩)) \/
  ∃ A o,Sp.planned x.L ts=.inr (A,o)/\Sp.size A<=Sp.room S/\(x.install ts).1=Sp.okF/\(x.install ts).2=x.become A/\Sure S (x.become A)/\(x.become A).last<=x.last+1/\(x.become A).L=A:=by
 cases hp:Sp.planned x.L ts with
 | inl f =>
  rw[V10.install_no hp];have:=planned_kind hp;exact .inl ⟨by show f.kind≠0;omega,rfl,.inl ⟨f,rfl,rfl⟩⟩
 | inr Ao =>
  obtain⟨A,o⟩:=Ao
  by_cases hr:Sp.room S<Sp.size A
  ·rw[V10.install_full h.live hp hr]
   exact .inl ⟨by simp,rfl,.inr ⟨A,o,rfl,hr,rfl⟩⟩
  ·obtain⟨e,hA,_⟩:=V10.install_yes h.live hn hp (by omega)
   rw[e];obtain⟨_,F,rfl,_⟩:=V9.planned_ok h.live.ok.set hp;obtain⟨s1,s2,s3⟩:=become_sure h hA (by omega) hn fun e=>by rw[V10.perm_of_len e,List.append_nil]
   exact .inr ⟨_,o,rfl,by omega,rfl,rfl,s1,s2,s3⟩
theorem install_sure{S:Nat}{x:St}(h:Sure S x)(hn:x.last+1<18446744073709551616)(ts:List Str):Sure S (x.install ts).2/\(x.install ts).2.last<=x.last+1:=by
 rcases install_cases h hn ts with⟨_,e,_⟩|⟨A,o,_,_,_,e,s1,s2,_⟩
 ·rw[e];exact⟨h,by omega⟩
 ·rw[e];exact⟨s1,s2⟩
theorem sum_sub:∀ {l r:List Nat},l.Sublist r->l.sum<=r.sum
 | _,_,.slnil=>Nat.le_refl _
 | _,_,.cons a h=>by rw[List.sum_cons];have:=sum_sub h;omega
 | _,_,.cons_cons a h=>by rw[List.sum_cons,List.sum_cons];have:=sum_sub h;omega
theorem filter_len{L:List Pk}{A:List Pk}(h:A.Sublist L)(e:A.length=L.length):A=L:=h.eq_of_length e
theorem remove_cases{S:Nat}{x:St}(h:Sure S x)(hn:x.last+1<18446744073709551616)(ns:List Str):
  ((x.remove ns).1.kind≠0/\(x.remove ns).2=x/\∃ f,Sp.removed x.L ns=.inl f/\(x.remove ns).1=f) \/
  ∃ A,Sp.removed x.L ns=.inr A/\(x.remove ns).1=Sp.okF/\(x.remove ns).2=x.become A/\Sure S (x.become A)/\(x.become A).last<=x.last+1/\(x.become A).L=A:=by
 cases hp:Sp.removed x.L ns with
 | inl f =>
  have e:x.remove ns=(f,x):=by unfold St.remove;rw[hp]
  rw[e];have:=removed_kind hp;exact .inl ⟨by show f.kind≠0;omega,rfl,f,rfl,rfl⟩
 | inr A =>
  obtain⟨hA,hsub⟩:=V9.removed_ok h.live.ok hp;have hsz:Sp.size A<=Sp.room S:=by
   refine Nat.le_trans ?_ h.live.room;unfold Sp.size;exact sum_sub (hsub.map _)
  obtain⟨s1,s2,s3⟩:=become_sure h hA hsz hn fun e=>by rw[filter_len hsub e]
  have e:x.remove ns=(Sp.okF,x.become A):=by unfold St.remove;rw[hp,h.live.seen];simp only;rw[if_neg (by omega)]
  rw[e];exact .inr ⟨A,rfl,rfl,rfl,s1,s2,s3⟩
theorem remove_sure{S:Nat}{x:St}(h:Sure S x)(hn:x.last+1<18446744073709551616)(ns:List Str):Sure S (x.remove ns).2/\(x.remove ns).2.last<=x.last+1:=by
 rcases remove_cases h hn ns with⟨_,e,_⟩|⟨A,_,_,e,s1,s2,_⟩
 ·rw[e];exact⟨h,by omega⟩
 ·rw[e];exact⟨s1,s2⟩
theorem texts_len{L:List Pk}(h:Sp.Set L):(Sp.texts L).length=L.length:=by
 rw[V8.texts_byName,List.length_map,(V8.byName_perm h).length_eq]
end V11
end
section
namespace V12
open Sp (Str Pk Dk St)
theorem write_len(d:Dk)(n:Nat)(c:Str):(d.write n c).seen.length=d.seen.length/\(d.write n c).late.length<=d.late.length+1:=by
 unfold Dk.write
 split
 ·refine⟨by simp,?_⟩
  show(if _ then _ else _:List (Nat × Str)).length<=_
  split
  ·omega
  ·simp
 ·exact⟨rfl,by omega⟩
theorem sync_len(d:Dk):d.sync.seen.length=d.seen.length/\d.sync.late.length<=d.late.length:=by
 unfold Dk.sync
 split
 ·exact⟨rfl,Nat.le_refl _⟩
 ·exact⟨rfl,Nat.zero_le _⟩
theorem writes_len:∀ (cs:List Str) (n:Nat) (d:Dk),(d.writes n cs).seen.length=d.seen.length/\(d.writes n cs).late.length<=d.late.length+cs.length
 | [],_,d=>⟨rfl,by simp[Dk.writes]⟩
 | c :: r,n,d=>by
  obtain⟨h1,h2⟩:=write_len d n c;obtain⟨h3,h4⟩:=writes_len r (n+1) (d.write n c);refine⟨h3.trans h1,?_⟩
  show((d.write n c).writes (n+1) r).late.length<=_
  rw[List.length_cons];omega
theorem writes_snoc:∀ (cs:List Str) (n:Nat) (d:Dk) (c:Str),d.writes n (cs ++ [c])=(d.writes n cs).write (n+cs.length) c
 | [],_,_,_=>rfl
 | a :: r,n,d,c=>by
  show(d.write n a).writes (n+1) (r ++ [c])=((d.write n a).writes (n+1) r).write (n+(r.length+1)) c
  rw[writes_snoc r (n+1) (d.write n a) c]
  congr 1;omega
theorem chunks_take(b:Str)(k:Nat)(hk:k*64<b.length):(Sp.chunks b).take (k+1)=(Sp.chunks b).take k ++ [(b.drop (k*64)).take 64]:=by
 have h:=V6.chunks_get b k;rw[if_pos hk] at h;obtain⟨hl,he⟩:=List.getElem?_eq_some_iff.1 h;rw[List.take_succ_eq_append_getElem hl,he]
theorem chunks_all(b:Str)(k:Nat)(hk:b.length<=k*64):(Sp.chunks b).take k=Sp.chunks b:=by
 refine List.take_of_length_le ?_;rw[V6.chunks_len];omega
end V12
end
section
open Go.RowKit Go.Maps
theorem save_any{O S:Nat->Prop}{w:World}{s D last:Nat}{mv ov:Value}{d:Sp.Dk}(hs:StBlk w s D last mv ov)(hd:DkE O w D d)(hO:¬O s)(hl:last+1<18446744073709551616)(bv:Value)(b:Sp.Str)(hb:BytesOn S w bv b)(hSb:∀ x,S x->x<w.heap.size/\¬O x/\x≠s)
  (hlen:b.length<=Sp.areaN d.seen.length*64)(hlate:d.late.length<900000):
  Calls Tryz.prog 174 #[.pointer (some ⟨s,0,none⟩),bv] w fun e w'=>e=.returned (.tuple #[])/\Chg (fun k=>O k\/k=s) w w'/\StBlk w' s D (last+1) mv ov/\DkE (fun k=>O k\/w.heap.size<=k) w' D (Sp.save d last b):=by
 have hlens:=hd.lens;have m0:=Tryz.mSync;have m1:=Tryz.mWrite;obtain⟨c0,c1,c2,c3,cz⟩:=hs.cells;have hslt:=hs.lt;have han:Sp.areaN d.seen.length<=127:=by unfold Sp.areaN;omega
 have hw1:=DS.wrap64 (last+1) hl;rw[show((last+1:Nat):Int)=(last:Int)+1 by omega] at hw1;have hw2:=DS.wrap64 b.length (by omega);obtain⟨va,vcap,rfl,hcap,_⟩:=hb.get;have hsum:=fun (W:World) (hW:BytesOn S W (.slice va b.length vcap) b)=>sum_any _ _ W hW (by omega)
 have HSUM:=hid hsum;have HB:=hid hb;have HSB:=hid hSb;have HST:=hid hs;have HO:=hid hO;have HDK:=hid hd;have hS0:=hid (show w.drew.cell? ⟨s,1,none⟩=some (.int .u64 (last:Int))/\BytesOn S w.drew (.slice va b.length vcap) b from⟨c1,hb.keep (fun _ _=>rfl) fun _ h=>h⟩);have hSA:=hid (fun (o:Obj)=>show(w.alloc o).drew.cell? ⟨s,1,none⟩=some (.int .u64 (last:Int))/\BytesOn S (w.alloc o).drew (.slice va b.length vcap) b from⟨(World.cell?_alloc_lt _ _ _ hslt).trans c1,hb.keep (fun x hx=>Below.heap_alloc _ _ _ (hSb x hx).1) fun _ h=>h⟩);clear hd hs hb hSb hsum hO;go_enter Tryz.func174,Tryz.ntmps174;go_wp2_with fail
 go_cut [4] from 8 to 18 (fun s4 wx=>s4=.pointer (some ⟨w.heap.size,0,none⟩)/\wx=(w.alloc (.cells #[.int .u64 ((last:Int)+1),.int .u64 (b.length:Int),.int .u64 (Sp.sum b:Int)] 309)).drew)
 case first =>
  go_region_held3 (fun x=>x.cell? ⟨s,1,none⟩=some (.int .u64 (last:Int))/\BytesOn S x (.slice va b.length vcap) b)
   (first|(with_reducible exact hS0.out)|(with_reducible exact hSA.out _))
   (first|(go_at_call 215;refine(HSUM.out _ ?_).mono ?_;(simp only[*]);rintro e w' ⟨rfl,rfl⟩))
  all_goals (go_wp2_with fail;go_meet;exact⟨rfl,by first|rfl|(rw[hw1])|(simp only[*])⟩)
 case rest =>
  obtain⟨rfl,rfl⟩:=hcut;have hbA:Below w.heap.size w (w.alloc (.cells #[.int .u64 ((last:Int)+1),.int .u64 (b.length:Int),.int .u64 (Sp.sum b:Int)] 309)).drew:=((Below.refl _ _).alloc (Nat.le_refl _) _).drew;have k0:(w.alloc (.cells #[.int .u64 ((last:Int)+1),.int .u64 (b.length:Int),.int .u64 (Sp.sum b:Int)] 309)).drew.cell? ⟨w.heap.size,0,none⟩=some (.int .u64 ((last:Int)+1)):=by show(w.alloc _).cell? _=_;rw[World.cell?_alloc_at _ _ _ _ rfl];rfl
  have k1:(w.alloc (.cells #[.int .u64 ((last:Int)+1),.int .u64 (b.length:Int),.int .u64 (Sp.sum b:Int)] 309)).drew.cell? ⟨w.heap.size,1,none⟩=some (.int .u64 (b.length:Int)):=by show(w.alloc _).cell? _=_;rw[World.cell?_alloc_at _ _ _ _ rfl];rfl
  have k2:(w.alloc (.cells #[.int .u64 ((last:Int)+1),.int .u64 (b.length:Int),.int .u64 (Sp.sum b:Int)] 309)).drew.cell? ⟨w.heap.size,2,none⟩=some (.int .u64 (Sp.sum b:Int)):=by show(w.alloc _).cell? _=_;rw[World.cell?_alloc_at _ _ _ _ rfl];rfl
  have hzA:(w.alloc (.cells #[.int .u64 ((last:Int)+1),.int .u64 (b.length:Int),.int .u64 (Sp.sum b:Int)] 309)).drew.heap.size=w.heap.size+1:=by simp
  generalize (w.alloc (.cells #[.int .u64 ((last:Int)+1),.int .u64 (b.length:Int),.int .u64 (Sp.sum b:Int)] 309)).drew=wA at *;have hstA:=HST.out.keep (hbA.block s hslt);have hdA:=HDK.out.inside.below hbA;have har:=area_any hstA hdA (last+1) hl;rw[show((last+1:Nat):Int)=(last:Int)+1 by omega] at har;obtain⟨from_,hfrom⟩:∃ f,f=Sp.areaFrom d.seen.length (last+1):=⟨_,rfl⟩
  rw[<-hfrom] at har;have hfr:2<=from_/\from_+Sp.areaN d.seen.length<=d.seen.length:=by
   rw[hfrom];unfold Sp.areaFrom Sp.areaN;have:(last+1) % 2=0\/(last+1) % 2=1:=by omega
   rcases this with h|h <;> rw[h] <;> omega
  obtain⟨an,han2⟩:∃ an,an=Sp.areaN d.seen.length:=⟨_,rfl⟩
  rw[<-han2] at han hlen hfr;have HFR:=hid hfrom;have HAN:=hid han2;have HAR:=hid har;have HSA:=hid hstA;have HDA:=hid hdA;have HBA:=hid hbA;have HZA:=hid hzA;have hzA1:=Nat.le_of_eq hzA;have hzA2:=Nat.le_of_eq hzA.symm;clear har hstA hdA hbA hfrom han2 hzA c0 c1 c2 c3 cz hw2;go_wp2_with fail;refine HAR.out.mono ?_;rintro e w1 ⟨rfl,rfl⟩;go_wp2_with fail
  go_loopw [7] (fun i wr=>∃ k j:Nat,j=k*64/\k*64<b.length+64/\i=.int .i64 (j:Int)/\DkE (fun x=>(O x/\x<w.heap.size)\/w.heap.size<x) wr D (d.writes from_ ((Sp.chunks b).take k))/\Chg (fun x=>O x/\x<w.heap.size) w1 wr) (fun i _=>b.length+64-(intOf i).toNat)
  case atStart=>exact⟨0,0,rfl,by omega,rfl,HDA.out.mono fun x hx=>.inl hx,Chg.refl _ _⟩
  case round =>
   obtain⟨k,j,hj,hk,rfl,hdk,hch⟩:=hrel;have HJ:=hid hj;have HDK2:=hid hdk;have HCH:=hid hch;have hzr:=hch.size;have hsr:¬(O s/\s<w.heap.size):=fun h=>HO.out h.1
   have hstr:=HSA.out.keep (hch.block s (by omega) hsr);have hkj:k*64<=j:=by omega
   have hjk:j<=k*64:=by omega
   obtain⟨c0,c1,c2,c3,cz⟩:=hstr.cells;unfold dptr at c0;have HSR:=hid hstr;clear hj hdk hch hstr
   by_cases hlt:j<b.length
   ·obtain⟨bb,off,rfl,hbS,_⟩:=HB.out.src (by omega)
    have hS1:=hid (show wr.drew.cell? ⟨s,0,none⟩=some (.iface 90 (.pointer (some ⟨D,0,none⟩))) from c0);obtain⟨m,hm⟩:∃ m,m=min (j+64) b.length:=⟨_,rfl⟩
    have hm1:j<=m/\m<=b.length/\m-j<=64/\m<9223372036854775807:=by omega
    have hm2:min ((j:Int)+64) (b.length:Int)=(m:Int):=by omega
    have hmj:(0:Int)<=(j:Int)/\(j:Int)<=(m:Int)/\(m:Int)<=(vcap:Int)/\(m:Int)<=(b.length:Int):=by omega
    obtain⟨hmj0,hmj1,hmj2,hmj3⟩:=hmj;have hne:¬(vcap=j):=by omega
    have hjb:j<=8128:=by omega
    have hwk:IntKind.i64.wrap (k:Int)=(k:Int):=IntWalk.i64_in _ (by omega);have hwf:IntKind.i64.wrap ((from_:Int)+(k:Int))=(from_:Int)+(k:Int):=IntWalk.i64_in _ (by omega);have hwj:IntKind.i64.wrap ((j:Int)+64)=(j:Int)+64:=IntWalk.i64_in _ (by omega);have HM:=hid hm;clear hm;have hq:(j:Int) / 64=(k:Int):=by omega
    go_wp2_with fail;have hbW:=((HB.out.keep (w':=wr.drew) (S':=S) (fun x hx=>(HCH.out.block x (by have:=(HSB.out x hx).1;omega) fun h=>(HSB.out x hx).2.1 h.1).trans (HBA.out.block x (HSB.out x hx).1)) fun _ h=>h).cut j m (vcap-j) (by omega) (by omega) (by omega))
    have hce:(b.drop j).take (m-j)=(b.drop (k*64)).take 64:=by
     rw[<-HJ.out,List.take_eq_take_iff,List.length_drop,HM.out];omega
    rw[hce] at hbW;obtain⟨wl1,wl2⟩:=V12.writes_len ((Sp.chunks b).take k) from_ d;have htl:((Sp.chunks b).take k).length<=k:=by rw[List.length_take];omega
    have hct:=V12.chunks_take b k (by omega);have hcl:((Sp.chunks b).take k).length=k:=by
     have h1:=V6.chunks_get b k;rw[if_pos (by omega)] at h1;have:=(List.getElem?_eq_some_iff.1 h1).1;rw[List.length_take];omega
    have hdw:=dwrite_any (HDK2.out.keep (w':=wr.drew) (fun _ _ _=>rfl) (Nat.le_refl _)) (from_+k) (by rw[wl1];omega) _ _ (by rw[List.length_take];omega) hbW (fun x hx=>by have:=(HSB.out x hx).1;show x<wr.heap.size;omega) (by omega);have hws:(d.writes from_ ((Sp.chunks b).take k)).write (from_+k) ((b.drop (k*64)).take 64)=d.writes from_ ((Sp.chunks b).take (k+1)):=by rw[hct,V12.writes_snoc,hcl]
    rw[hws,show((from_+k:Nat):Int)=(from_:Int)+(k:Int) by omega] at hdw;have HDW:=hid hdw;clear hbW hce wl1 wl2 htl hct hcl hdw hws;go_still_tail 18,(by kernel_rfl)
    change wpList _ _ _ _ _ (World.drew wr);go_wp2_with fail;refine HDW.out.mono ?_;rintro e w2 ⟨rfl,hch2,hdk2⟩;have hch3:Chg (fun x=>O x/\x<w.heap.size) w1 w2:=(HCH.out.drew).trans' hch2 fun x hx=>by
     rcases hx with hx|hx
     ·exact .inl hx
     ·exact .inr (by omega)
    have hdk3:=hdk2.mono (O':=fun x=>(O x/\x<w.heap.size)\/w.heap.size<x) fun x hx=>by
     rcases hx with hx|hx
     ·exact hx
     ·exact .inr (by have:wr.heap.size<=x:=hx;omega)
    have HCH3:=hid hch3;have HDK3:=hid hdk3;clear hch2 hdk2 hch3 hdk3;go_wp2_with fail;go_roundw
    case rel=>exact⟨k+1,j+64,by have:=HJ.out;omega,by omega,by go_num,HDK3.out,HCH3.out⟩
    case measure=>simp[intOf];omega
   ·have hall:=HDK2.out
    rw[V12.chunks_all b k (by omega)] at hall;obtain⟨wl1,wl2⟩:=V12.writes_len (Sp.chunks b) from_ d;have hcl:(Sp.chunks b).length<=200:=by rw[V6.chunks_len];omega
    obtain⟨sl1,sl2⟩:=V12.sync_len (d.writes from_ (Sp.chunks b));have hsy:=dsync_any hall (by omega);obtain⟨d1,hd1⟩:∃ d1,d1=(d.writes from_ (Sp.chunks b)).sync:=⟨_,rfl⟩
    rw[<-hd1] at hsy sl1 sl2;have hsl1:d1.seen.length=d.seen.length:=sl1.trans wl1;have hll1:d1.late.length<=900200:=by omega
    have HSY:=hid hsy;have HD1:=hid hd1;have HSL:=hid hsl1;clear hall wl1 wl2 sl1 sl2 hsy hd1 hsl1 hcl;go_wp2_with fail;refine HSY.out.mono ?_;rintro e w2 ⟨rfl,hch2,hdk2⟩;have hch3:Chg (fun x=>O x/\x<w.heap.size) w1 w2:=HCH.out.trans' hch2 fun x hx=>by
     rcases hx with hx|hx
     ·exact .inl hx
     ·exact .inr (by omega)
    have hdk3:=hdk2.mono (O':=fun x=>(O x/\x<w.heap.size)\/w.heap.size<x) fun x hx=>by
     rcases hx with hx|hx
     ·exact hx
     ·exact .inr (by omega)
    have hz2:=hch3.size;have hst2:=HSA.out.keep (hch3.block s (by omega) hsr);have hH2:∀ o,w2.cell? ⟨w.heap.size,o,none⟩=w1.cell? ⟨w.heap.size,o,none⟩:=fun o=>World.cell?_of_block (w:=w1) (a:=⟨w.heap.size,o,none⟩) (hch3.block _ (by show w.heap.size<_;omega) fun h=>Nat.lt_irrefl _ h.2)
    obtain⟨c0,c1,c2,c3,cz⟩:=hst2.cells;unfold dptr at c0;have q0:=(hH2 0).trans k0;have q1:=(hH2 1).trans k1;have q2:=(hH2 2).trans k2;have hhb:=headBytes_any (last+1) b.length (Sp.sum b) w2.drew;rw[show((last+1:Nat):Int)=(last:Int)+1 by omega] at hhb;have HHB:=hid hhb;have HCH3:=hid hch3;have HDK3:=hid hdk3;have HST2:=hid hst2;have hS1:=hid (show w2.drew.cell? ⟨s,0,none⟩=some (.iface 90 (.pointer (some ⟨D,0,none⟩)))/\w2.drew.cell? ⟨w.heap.size,0,none⟩=some (.int .u64 ((last:Int)+1))/\w2.drew.cell? ⟨w.heap.size,1,none⟩=some (.int .u64 (b.length:Int))/\w2.drew.cell? ⟨w.heap.size,2,none⟩=some (.int .u64 (Sp.sum b:Int)) from⟨c0,q0,q1,q2⟩);have hb01:(last+1) % 2<2:=Nat.mod_lt _ (by decide);obtain⟨r,hr⟩:∃ r,r=(last+1) % 2:=⟨_,rfl⟩
    have hr2:((last:Int)+1) % 2=(r:Int):=by omega
    rw[<-hr] at hb01;have HRR:=hid hr;have hem:=hid (show(r:Int)=IntKind.i64.wrap (Int.tmod ((last:Int)+1) 2) by rw[Int.tmod_eq_emod_of_nonneg (by omega),hr2];exact(IntWalk.i64_in _ (by omega)).symm);clear hch2 hdk2 hch3 hdk3 hst2 hH2 hhb hr;go_wp2_with fail;have hns:=hid (show ¬((O s/\s<w.heap.size)\/w.heap.size<s) from fun h=>h.elim hsr fun h=>by omega);have hnH:=hid (show ¬((O w.heap.size/\w.heap.size<w.heap.size)\/w.heap.size<w.heap.size) from fun h=>h.elim (fun h=>Nat.lt_irrefl _ h.2) fun h=>Nat.lt_irrefl _ h)
    go_region_held3 (fun x=>x.cell? ⟨s,0,none⟩=some (.iface 90 (.pointer (some ⟨D,0,none⟩)))/\x.cell? ⟨w.heap.size,0,none⟩=some (.int .u64 ((last:Int)+1))/\x.cell? ⟨w.heap.size,1,none⟩=some (.int .u64 (b.length:Int))/\x.cell? ⟨w.heap.size,2,none⟩=some (.int .u64 (Sp.sum b:Int)))
     (first|(with_reducible exact hS1.out)|(with_reducible exact HS3.out)|(with_reducible exact HS4.out))
     (first
         | (
          go_at_call 219;(with_reducible refine HHB.out.mono ?_);rintro e w3 ⟨v3,rfl,hr3,hb3⟩
          have hz3:=hb3.size;have HR3:=hid hr3;have HB3:=hid hb3;have HS3:=hid (And.intro ((hb3.cell (p:=⟨s,0,none⟩) (show s<w2.heap.size by omega)).trans c0) (And.intro ((hb3.cell (p:=⟨w.heap.size,0,none⟩) (show w.heap.size<w2.heap.size by omega)).trans q0) (And.intro ((hb3.cell (p:=⟨w.heap.size,1,none⟩) (show w.heap.size<w2.heap.size by omega)).trans q1) ((hb3.cell (p:=⟨w.heap.size,2,none⟩) (show w.heap.size<w2.heap.size by omega)).trans q2))));have hdw:=dwrite_any ((HDK3.out.keep (w':=w2.drew) (fun _ _ _=>rfl) (Nat.le_refl _)).below hb3) r (by rw[HSL.out];omega) v3 _ (by rw[V6.headB_len];omega) (BytesOn.of_row HR3.out) (fun x hx=>hx.1) (by omega);rw[hem.out] at hdw;have HDW:=hid hdw;clear hr3 hb3 hdw)
         | (
          go_at_call 299;(with_reducible refine HDW.out.mono ?_);rintro e w4 ⟨rfl,hch4,hdk4⟩
          have HC4:=hid hch4;have HD4:=hid hdk4;have hz4:=hch4.size;have hk4:∀ a:Addr,a.block<w3.heap.size->¬((O a.block/\a.block<w.heap.size)\/w.heap.size<a.block)->w4.cell? a=w3.cell? a:=fun a ha hn=>World.cell?_of_block (hch4.block a.block ha hn)
          have hz34:w2.heap.size<=w3.heap.size:=hz3;have hsl3:s<w3.heap.size:=by omega
          have hHl3:w.heap.size<w3.heap.size:=by omega
          have HS4:=hid (And.intro ((hk4 ⟨s,0,none⟩ hsl3 hns.out).trans HS3.out.1) (And.intro ((hk4 ⟨w.heap.size,0,none⟩ hHl3 hnH.out).trans HS3.out.2.1) (And.intro ((hk4 ⟨w.heap.size,1,none⟩ hHl3 hnH.out).trans HS3.out.2.2.1) ((hk4 ⟨w.heap.size,2,none⟩ hHl3 hnH.out).trans HS3.out.2.2.2))));clear hch4 hdk4 hk4))
    have hz34':w2.heap.size<=w3.heap.size:=hz3;have hch5:Chg (fun x=>O x/\x<w.heap.size) w1 w4:=(HCH3.out.drew.trans (Chg.of_below HB3.out)).trans' HC4.out fun x hx=>by
     rcases hx with hx|hx
     ·exact .inl hx
     ·exact .inr (by omega)
    have hdk5:=HD4.out.mono (O':=fun x=>(O x/\x<w.heap.size)\/w.heap.size<x) fun x hx=>by
     rcases hx with hx|hx
     ·exact hx
     ·exact .inr (by omega)
    obtain⟨dl1,dl2⟩:=V12.write_len d1 r (Sp.headB (last+1) b.length (Sp.sum b));have hsy2:=dsync_any hdk5 (by omega);have HSY2:=hid hsy2;have HCH5:=hid hch5;obtain⟨e0,e1,e2,e3⟩:=HS4.out;have hz5:=hch5.size;clear hdk5 hsy2 hch5 dl1 dl2;go_wp2_with fail;refine HSY2.out.mono ?_;rintro e w5 ⟨rfl,hch6,hdk6⟩;have hz6:=hch6.size;have hch7:Chg (fun x=>O x/\x<w.heap.size) w1 w5:=HCH5.out.trans' hch6 fun x hx=>by
     rcases hx with hx|hx
     ·exact .inl hx
     ·exact .inr (by omega)
    have hst7:=HSA.out.keep (hch7.block s (by omega) hsr);have q0':w5.cell? ⟨w.heap.size,0,none⟩=some (.int .u64 ((last:Int)+1)):=(World.cell?_of_block (w:=w4) (a:=⟨w.heap.size,0,none⟩) (hch6.block w.heap.size (by omega) hnH.out)).trans e1;obtain⟨c0,c1,c2,c3,cz⟩:=hst7.cells;have f1:=cz 1;have hst8:=hst7.set1 (last+1);rw[show((last+1:Nat):Int)=(last:Int)+1 by omega] at hst8;have hch8:Chg (fun k=>O k\/k=s) w (w5.setCell ⟨s,1,none⟩ (.int .u64 ((last:Int)+1))):=((Chg.of_below HBA.out).trans (hch7.mono fun x hx=>.inl hx.1)).setCell (p:=⟨s,1,none⟩) (.inr rfl) _;have hdk8:DkE (fun k=>O k\/w.heap.size<=k) (w5.setCell ⟨s,1,none⟩ (.int .u64 ((last:Int)+1))) D (Sp.save d last b):=by
     have h9:=(hdk6.mono (O':=fun x=>(O x/\x<w.heap.size)\/w.heap.size<x) fun x hx=>by
      rcases hx with hx|hx
      ·exact hx
      ·exact .inr (by omega))
     have h10:=h9.keep (w':=w5.setCell ⟨s,1,none⟩ (.int .u64 ((last:Int)+1))) (fun k hk _=>Below.heap_setCell _ _ _ _ (show k≠s from fun e=>hns.out (e ▸ hk))) (by simp[World.setCell]);unfold Sp.save;rw[<-HFR.out,<-HD1.out,<-HRR.out];exact h10.mono fun x hx=>by
      rcases hx with hx|hx
      ·exact .inl hx.1
      ·exact .inr (by omega)
    have HST8:=hid hst8;have HCH8:=hid hch8;have HDK8:=hid hdk8;have hsl5:s<w5.heap.size:=by omega
    clear hch6 hdk6 hch7 hst7 hst8 hch8 hdk8 e0 e1 e2 e3;go_wp2_with fail
    go_end0
    exact⟨rfl,HCH8.out,HST8.out,HDK8.out⟩
end
end Go.Proofs.YtfphcecjhdkcoaaGreatDoor

/-
The walks of the reference's line behind the first: lines that are none; the line that names what is barred.
-/
import Derived.Test.YtfphcecjhdkcoaaGreatDoorScrP15
import Derived.Test.YtfphcecjhdkcoaaGreatDoorScrP18
set_option maxRecDepth 100000
set_option maxHeartbeats 8000000
namespace Go.Proofs.YtfphcecjhdkcoaaGreatDoor
open Go.Lib (hid)
section
open Go.RowKit
theorem SlOn.sub{S:Nat->Prop}{w:World}{sz b off n cap:Nat}{xs:List (List Value)}(h:SlOn S w sz (.slice (some ⟨b,off,none⟩) n cap) xs)(k m c:Nat)(hk:k+m<=xs.length)(hc:m<=c):
  SlOn S w sz (.slice (some ⟨b,off+k*sz,none⟩) m c) ((xs.drop k).take m):=by
 obtain⟨a,cp,e,_,hx⟩:=h;injection e with e1 _ _
 subst e1;have hl:((xs.drop k).take m).length=m:=by rw[List.length_take,List.length_drop];omega
 refine⟨some ⟨b,off+k*sz,none⟩,c,by rw[hl],by rw[hl];exact hc,fun j x hj=>?_⟩;rw[List.getElem?_take] at hj
 split at hj
 ·rw[List.getElem?_drop] at hj
  obtain⟨b',o',ea,hS,hu⟩:=hx (k+j) x hj;injection ea with ea
  injection ea with ea1 ea2 _
  subst ea1 ea2;refine⟨b,off+k*sz,rfl,hS,fun i u hi=>?_⟩;rw[show off+k*sz+j*sz+i=off+(k+j)*sz+i from by rw[Nat.add_mul];omega];exact hu i u hi
 ·cases hj
theorem PksOn.sub{S:Nat->Prop}{w:World}{b off n cap:Nat}{X:List PV}(h:PksOn S w (.slice (some ⟨b,off,none⟩) n cap) X)(k m c:Nat)(hk:k+m<=X.length)(hc:m<=c):
  PksOn S w (.slice (some ⟨b,off+k*5,none⟩) m c) ((X.drop k).take m):=by
 refine⟨?_,fun x hx=>h.2 x (List.mem_of_mem_drop (List.mem_of_mem_take hx))⟩;have:=SlOn.sub h.1 k m c (by rw[List.length_map];exact hk) hc;rw[List.map_take,List.map_drop];exact this
theorem PksOn.one{S:Nat->Prop}{w:World}{b off n cap:Nat}{X:List PV}(h:PksOn S w (.slice (some ⟨b,off,none⟩) n cap) X){k:Nat}(hk:k<X.length)(c:Nat)(hc:1<=c):
  PksOn S w (.slice (some ⟨b,off+k*5,none⟩) 1 c) [X[k]]:=by
 have:=h.sub k 1 c (by omega) hc;rw[List.drop_eq_getElem_cons hk] at this;exact this
namespace Z6
theorem apart_ne{L:List Sp.Pk}(h:L.Pairwise fun p q=>p.name≠q.name){i k:Nat}(hi:i<L.length)(hk:k<L.length):(L[k].name != L[i].name)=decide (k≠i):=by
 rw[Bool.eq_iff_iff,bne_iff_ne,decide_eq_true_eq];constructor
 ·intro hne e;subst e;exact hne rfl
 ·intro hne
  rw[List.pairwise_iff_getElem] at h
  rcases Nat.lt_or_gt_of_ne hne with hlt|hlt
  ·exact h k i hk hi hlt
  ·exact fun e=>h i k hi hk hlt e.symm
end Z6
theorem barR_any{S:Nat->Prop}(v:Value)(X:List PV)(w:World)(h:PksOn S w v X)(hS:∀ b,S b->b<w.heap.size)(hX:X.length<=1099511627776)(hap:(pk X).Pairwise fun p q=>p.name≠q.name):
  Calls Tryz.prog 145 #[v] w fun e w'=>e=.returned (sv (Sp.barring (pk X)))/\Below w.heap.size w w':=by
 have hk:∀ W,Below w.heap.size w W->PksOn S W v X:=fun W hW=>h.keep fun b hb=>hW.block b (hS b hb)
 have hon:∀ x∈X,x.On S w:=h.2;obtain⟨a,cap,rfl,hc,hx⟩:=h.get;have HX:=hid hx;have HON:=hid hon;have HS:=hid hS;have HK:=hid hk;have HAP:=hid hap;clear h hx hon hS hk hap;go_enter Tryz.func145,Tryz.ntmps145;go_wp2
 go_loopw [3,4,5,6] (fun n i _ _ wr=>∃ k:Nat,k<=X.length/\i=.int .i64 k/\n=sv (Z5.upTo (Sp.barsOne (pk X)) (pk X) k)/\Below w.heap.size w wr) (fun _ i _ _ _=>X.length-(intOf i).toNat)
 case atStart=>exact⟨0,Nat.zero_le _,rfl,rfl,Below.refl _ _⟩
 case round =>
  obtain⟨k,hk,rfl,rfl,hbel⟩:=hrel;have HBL:=hid hbel;have hzr:=hbel.size;clear hbel
  by_cases hlt:k<X.length
  ·obtain⟨b,off,rfl,hSb,x0,x1,x2,x3,x4⟩:=HX.out k hlt
   have hbl:=HS.out b hSb;have hpl:k<(pk X).length:=by rw[pk_len];exact hlt
   have hpe:(pk X)[k]=X[k].p:=pk_get hpl hlt;have hxo:=HON.out _ (List.getElem_mem hlt);have hnx:=Z5.upTo_next (Sp.barsOne (pk X)) (pk X) hpl;have hape:=fun j (hj:j<(pk X).length)=>Z6.apart_ne HAP.out hpl hj
   rw[hpe] at hnx hape;obtain⟨y,hy⟩:∃ y,y=X[k]:=⟨_,rfl⟩
   rw[<-hy] at x0 x3 hxo hnx hape;have HNX:=hid hnx;have HBAR:=hid (fun W (hW:Below w.heap.size w W)=>(SlOn.keep hxo.bars fun c hc=>hW.block c (HS.out c hc):ChOn S W y.bv y.p.bars));have HCO:=hid hxo.ok.barred;have hb3:=hxo.ok.bars;have HAPE:=hid hape;obtain⟨n0,hn0⟩:∃ n0,n0=Z5.upTo (Sp.barsOne (pk X)) (pk X) k:=⟨_,rfl⟩
   rw[<-hn0] at HNX ⊢;clear x1 x2 x4 hpe hnx hxo hy hn0 hape;generalize wr=wo at *;unfold sv at x0 ⊢;go_wp2_with fail
   go_loopw [3,5,6] (fun n i _ wr=>∃ j:Nat,j<=X.length/\i=.int .i64 j/\n=sv (Z5.part (fun q=>q.name != y.p.name && Sp.any1 y.p.bars [q]) (pk X) j n0 y.p.name)/\Below w.heap.size w wr) (fun _ i _ _=>X.length-(intOf i).toNat)
   case atStart=>exact⟨0,Nat.zero_le _,rfl,by rw[Z5.part_zero];rfl,HBL.out⟩
   case round =>
    obtain⟨j,hj,rfl,rfl,hbelj⟩:=hrel;have HBLJ:=hid hbelj;have hzj:=hbelj.size;have d0:=(hbelj.cell (p:=⟨b,off+k*5,none⟩) hbl).trans x0;have d3:=(hbelj.cell (p:=⟨b,off+k*5+3,none⟩) hbl).trans x3;have hbr:b<wr.heap.size:=by omega
    clear hbelj
    by_cases hjl:j<X.length
    ·have hjp:j<(pk X).length:=by rw[pk_len];exact hjl
     have hje:(pk X)[j]=X[j].p:=pk_get hjp hjl;have hone:=(HK.out wr HBLJ.out).one hjl (cap-j) (by omega);have hany:=fun W (hW:Below wr.heap.size wr W)=>any1R_any y.bv _ y.p.bars [X[j]] W (HBAR.out W (HBLJ.out.trans (hW.mono (by omega)))) (fun c hc=>by have:=HS.out c hc;have:=hW.size;omega) HCO.out hb3 (hone.keep fun c hc=>hW.block c (by have:=HS.out c hc;omega)) (fun c hc=>by have:=HS.out c hc;have:=hW.size;omega) (by simp)
     have hpn:=Z5.part_next (fun q=>q.name != y.p.name && Sp.any1 y.p.bars [q]) (pk X) hjp n0 y.p.name;rw[HAPE.out j hjp,hje] at hpn;have hpk1:pk [X[j]]=[X[j].p]:=rfl;rw[hpk1] at hany;obtain⟨r,hr⟩:∃ r,r=Sp.any1 y.p.bars [X[j].p]:=⟨_,rfl⟩
     rw[<-hr] at hany hpn;have HANY:=hid hany;have HPN:=hid hpn;obtain⟨nn,hnn⟩:∃ nn,nn=Z5.part (fun q=>q.name != y.p.name && Sp.any1 y.p.bars [q]) (pk X) j n0 y.p.name:=⟨_,rfl⟩
     rw[<-hnn] at HPN ⊢;have hw1:IntKind.i64.wrap ((j:Int)+1)=(j:Int)+1:=IntWalk.i64_in _ (by omega);have q1:(0:Int)<=(j:Int)+1:=by omega
     have q2:((j:Int)+1).toNat=j+1:=by omega
     have q3:(j:Int)+1<=(cap:Int):=by omega
     have q4:(j:Int)<=(j:Int)+1:=by omega
     have q5:j+1<=cap:=by omega
     have q6:¬cap=j:=by omega
     clear hone hje hany hpn hpk1 hr hnn;unfold sv;go_wp2_with fail;go_still_tail 10,(by kernel_rfl)
     change wpList _ _ _ _ _ (World.drew wr);clear q1 q2 q3 q4 q5 q6 hw1;go_wp2_with fail;refine(HANY.out _ (Below.drew (Below.refl _ wr))).mono ?_;rintro e w2 ⟨rfl,hb2⟩;have hb2':Below wr.heap.size wr w2:=(Below.drew (Below.refl wr.heap.size wr)).trans hb2;have HB2:=hid (HBLJ.out.trans (hb2'.mono (by omega)));have e0:=(hb2'.cell (p:=⟨b,off+k*5,none⟩) hbr).trans d0;have hbr2:b<w2.heap.size:=by have:=hb2'.size;omega
     clear hb2 hb2' d0 d3
     by_cases hjk:j=k
     ·have hpf:decide (j≠k)=false:=decide_eq_false (fun h=>h hjk)
      have hpn:=HPN.out;rw[hpf] at hpn;have HPN2:=hid hpn;have hne:((j:Int) != (k:Int))=false:=by rw[hjk];simp
      clear hpf hpn
      cases r with
      | true =>
       go_wp2;go_roundw
       case rel=>exact⟨j+1,hjl,by go_num,by rw[HPN2.out];rfl,HB2.out⟩
       case measure=>simp[intOf];omega
      | false =>
       go_wp2;go_roundw
       case rel=>exact⟨j+1,hjl,by go_num,by rw[HPN2.out];rfl,HB2.out⟩
       case measure=>simp[intOf];omega
     ·have hpf:decide (j≠k)=true:=decide_eq_true hjk
      have hpn:=HPN.out;rw[hpf] at hpn;have HPN2:=hid hpn;have hne:((j:Int) != (k:Int))=true:=by rw[bne_iff_ne];omega
      clear hpf hpn
      cases r with
      | true =>
       go_wp2_with fail;refine(firstR_any nn y.p.name w2).mono ?_;rintro e w3 ⟨rfl,hw3⟩;have hw3':=hw3.symm;subst hw3';go_wp2;go_roundw
       case rel=>exact⟨j+1,hjl,by go_num,by rw[HPN2.out];rfl,HB2.out⟩
       case measure=>simp[intOf];omega
      | false =>
       go_wp2;go_roundw
       case rel=>exact⟨j+1,hjl,by go_num,by rw[HPN2.out];rfl,HB2.out⟩
       case measure=>simp[intOf];omega
    ·obtain rfl:j=X.length:=by omega
     have hpa:=Z5.part_all (fun q=>q.name != y.p.name && Sp.any1 y.p.bars [q]) (pk X) (k:=X.length) (by rw[pk_len];exact Nat.le_refl _) n0 y.p.name;have HPA:=hid hpa;clear hpa;go_wp2;go_roundw
     case rel=>exact⟨k+1,hlt,by go_num,by rw[HNX.out,HPA.out];rfl,HBLJ.out⟩
     case measure=>simp[intOf];omega
  ·obtain rfl:k=X.length:=by omega
   have hr:=Z5.upTo_all (Sp.barsOne (pk X)) (pk X) (i:=X.length) (by rw[pk_len];exact Nat.le_refl _);have HR:=hid hr;clear hr;unfold sv;go_wp2;go_ret;exact⟨by rw[HR.out];rfl,HBL.out⟩
end
section
namespace V14
open Sp (Str Pk Dk St)
structure Gone(S n:Nat)(L A:List Pk)(x:St):Prop where
 torn:V7.Torn S (V10.Two n L A) x.d
 okL:Sp.Ok L
 okA:Sp.Ok A
 roomL:Sp.size L<=Sp.room S
 roomA:Sp.size A<=Sp.room S
 big:16<=S/\S<=256
 late:x.d.late.length<900000
 few:n+1<18446744073709551616
theorem save_late(d:Dk)(last:Nat)(b:Str):(Sp.save d last b).late.length<=d.late.length+(b.length+63) / 64+1:=by
 unfold Sp.save;have h1:=V12.writes_len (Sp.chunks b) (Sp.areaFrom d.seen.length (last+1)) d;have h2:=V12.sync_len (d.writes (Sp.areaFrom d.seen.length (last+1)) (Sp.chunks b));have h3:=V12.write_len ((d.writes (Sp.areaFrom d.seen.length (last+1)) (Sp.chunks b)).sync) ((last+1) % 2) (Sp.headB (last+1) b.length (Sp.sum b));have h4:=V12.sync_len (((d.writes (Sp.areaFrom d.seen.length (last+1)) (Sp.chunks b)).sync).write ((last+1) % 2) (Sp.headB (last+1) b.length (Sp.sum b)));rw[V6.chunks_len] at h1;omega
theorem become_L(x:St)(A:List Pk):(x.become A).L=A/\(x.become A).last<=x.last+1:=by
 unfold St.become;split <;> exact⟨rfl,by simp⟩
theorem become_cases{S:Nat}{x:St}(h:V10.Live S x){A:List Pk}(hA:Sp.Ok A)(hr:Sp.size A<=Sp.room S)(hn:x.last+1<18446744073709551616)(hp:A.length=x.L.length->A.Perm x.L):
  ((x.become A).d.dead=false/\V10.Live S (x.become A))\/((x.become A).d.dead=true/\Gone S x.last x.L A (x.become A)):=by
 rcases V10.become_live h hA hr hn hp with h1|h1
 ·exact .inl h1
 ·refine .inr ⟨h1.dead,h1,h.ok,hA,h.room,hr,h.big,?_,hn⟩
  unfold St.become
  split
  ·rw[h.calm.late];decide
  ·have h2:=save_late x.d x.last (Sp.joined A)
   have h3:=(V10.room_small hA.set h.big hr).1;have h4:=h.big
   show(Sp.save x.d x.last (Sp.joined A)).late.length<900000
   rw[h.calm.late] at h2;unfold Sp.areaN at h3;simp only[List.length_nil] at h2;omega
theorem gone_reopen{S n:Nat}{L A:List Pk}{x:St}(h:Gone S n L A x)(mask after:Int):
  V10.Live S (x.reopen mask after)/\(((x.reopen mask after).last=n/\(x.reopen mask after).L=V8.byName L)\/((x.reopen mask after).last=n+1/\(x.reopen mask after).L=V8.byName A)):=
 V10.reopen_torn h.torn h.okL h.okA h.roomL h.roomA h.big mask after
theorem gone_cut{S n:Nat}{L A:List Pk}{x:St}(h:Gone S n L A x)(k:Int):Gone S n L A (x.cut k):=
 ⟨h.torn.cut k,h.okL,h.okA,h.roomL,h.roomA,h.big,h.late,h.few⟩
theorem texts_byName{L:List Pk}(h:Sp.Set L):Sp.texts (V8.byName L)=Sp.texts L:=(V8.texts_eq h (V8.byName_perm h).symm).symm
theorem live_few{S:Nat}{x:St}(h:V10.Live S x):x.L.length<=600:=by
 have h1:=V8.size_count h.ok.set.good;have h2:=h.room;have h3:=h.big;unfold Sp.room at h2;omega
end V14
end
section
namespace Sp
def fileOf(s:Str):Option Str:=if s.length<5 || s.take 5 != [102,105,108,101,32] then none else some ((s.drop 5).takeWhile (fun c=>c != 61))
end Sp
namespace V15
open Sp (Str Pk Dk St)
open V2 V3
theorem take_no{c:UInt8}:∀ {a:Str} (r:Str),c ∉ a->(a ++ c :: r).takeWhile (fun x=>x != c)=a
 | [],r,_=>by simp
 | x :: a,r,h=>by
  have h1:x≠c:=fun e=>h (by rw[e];simp)
  have h2:c ∉ a:=fun e=>h (List.mem_cons_of_mem _ e)
  rw[List.cons_append,List.takeWhile_cons_of_pos (by simpa using h1),take_no r h2]
theorem split_print{p:Pk}(h:V3.Good p):Lib.split (Sp.print p) [10]=linesOf p:=by
 have hn:=no10_lines h.wf;rw[print_join,V1.split_join 10 [10] 0 rfl u10 (linesOf p) (linesOf_ne p) fun s hs=>(hn s hs).1]
theorem fileOf_fileL{f:Sp.Fl}(h:WfF f):Sp.fileOf (fileL f)=some f.path:=by
 unfold Sp.fileOf fileL Sp.fileW;have e:([102,105,108,101] ++ 32 :: (f.path ++ 61 :: f.content):Str)=102 :: 105 :: 108 :: 101 :: 32 :: (f.path ++ 61 :: f.content):=rfl;rw[e];rw[if_neg (by simp)]
 show some ((f.path ++ 61 :: f.content).takeWhile _)=_
 rw[take_no _ (V1.path_no h.1 (by decide) (by decide))]
theorem fileOf_other{a:UInt8}{s:Str}(h:a≠102):Sp.fileOf (a :: s)=none:=by
 unfold Sp.fileOf;rw[if_pos]
 cases s with
 | nil=>rfl
 | cons b r=>simp[h]
theorem lines_files{p:Pk}(h:V3.Good p):∀ s∈Lib.split (Sp.print p) [10],∀ x,Sp.fileOf s=some x->x∈p.files.map (·.path):=by
 intro s hs x hx;rw[split_print h] at hs;unfold linesOf at hs
 rcases List.mem_cons.1 hs with rfl|hs
 ·rw[show pkL p=112 :: _ from rfl,fileOf_other (by decide)] at hx;cases hx
 ·rcases List.mem_append.1 hs with hs|hs
  ·unfold needsLs at hs
   split at hs
   ·cases hs
   ·rw[List.mem_singleton] at hs;subst hs
    rw[show needsL p.needs=110 :: _ from rfl,fileOf_other (by decide)] at hx;cases hx
  ·rcases List.mem_append.1 hs with hs|hs
   ·unfold barsLs at hs
    split at hs
    ·cases hs
    ·rw[List.mem_singleton] at hs;subst hs
     rw[show barsL p.bars=98 :: _ from rfl,fileOf_other (by decide)] at hx;cases hx
   ·obtain⟨f,hf,rfl⟩:=List.mem_map.1 hs
    rw[fileOf_fileL (h.wf.paths f hf)] at hx;injection hx with hx
    exact List.mem_map.2 ⟨f,hf,hx⟩
theorem path_one{L:List Pk}(h:Sp.Ok L){p q:Pk}(hp:p∈L)(hq:q∈L){x:Str}(h1:x∈p.files.map (·.path))(h2:x∈q.files.map (·.path)):p=q:=by
 have hn:=V9.paths_nodup h;clear h
 induction L with
 | nil=>cases hp
 | cons a r ih =>
  have e:Sp.paths (a :: r)=a.files.map (·.path) ++ Sp.paths r:=by unfold Sp.paths;rw[List.flatMap_cons]
  rw[e,List.nodup_append] at hn;have hr:∀ {b:Pk},b∈r->x∈b.files.map (·.path)->x∈Sp.paths r:=fun hb hx=>by unfold Sp.paths;exact List.mem_flatMap.2 ⟨_,hb,hx⟩
  rcases List.mem_cons.1 hp with e1|hp1
  ·rcases List.mem_cons.1 hq with e2|hq1
   ·rw[e1,e2]
   ·subst e1;exact absurd rfl (hn.2.2 x h1 x (hr hq1 h2))
  ·rcases List.mem_cons.1 hq with e2|hq1
   ·subst e2;exact absurd rfl (hn.2.2 x h2 x (hr hp1 h1))
   ·exact ih hp1 hq1 hn.2.1
theorem owner_of{L:List Pk}(h:Sp.Ok L){p:Pk}(hp:p∈L){x:Str}(hx:x∈p.files.map (·.path)):Sp.owner L x=p.name:=by
 unfold Sp.owner
 cases hf:L.find? (fun p=>(p.files.map (·.path)).contains x) with
 | none =>
  rw[List.find?_eq_none] at hf;exact absurd (List.contains_iff_mem.2 hx) (hf p hp)
 | some q =>
  have h1:=List.mem_of_find?_eq_some hf;have h2:=List.find?_some hf;simp only;rw[path_one h h1 hp (List.contains_iff_mem.1 h2) hx]
theorem owner_none{L:List Pk}{x:Str}(hx:∀ p∈L,x ∉ p.files.map (·.path)):Sp.owner L x=[]:=by
 unfold Sp.owner;have hf:L.find? (fun p=>(p.files.map (·.path)).contains x)=none:=by
  rw[List.find?_eq_none];intro p hp hc;exact hx p hp (List.contains_iff_mem.1 hc)
 rw[hf]
end V15
end
section
namespace V17
open Sp (Str Pk Fl)
def hit(i k:Nat)(f g:Fl):Bool:=Sp.over f.path g.path || (f.path == g.path && decide (i≠k))
def fs(L:List Pk)(i:Nat):List Fl:=match L[i]? with
 | some p=>p.files
 | none=>[]
theorem fs_get{L:List Pk}{i:Nat}(h:i<L.length):fs L i=L[i].files:=by unfold fs;rw[List.getElem?_eq_getElem h]
def D1(L:List Pk)(i:Nat)(x:Str):Prop:=∃ i' k,i'<i/\k<L.length/\∃ f∈fs L i',∃ g∈fs L k,hit i' k f g=true/\f.path=x
def D2(L:List Pk)(i k:Nat)(x:Str):Prop:=D1 L i x\/∃ k',k'<k/\∃ f∈fs L i,∃ g∈fs L k',hit i k' f g=true/\f.path=x
def D3(L:List Pk)(i k a:Nat)(x:Str):Prop:=D2 L i k x\/∃ f∈(fs L i).take a,∃ g∈fs L k,hit i k f g=true/\f.path=x
def D4(L:List Pk)(i k a:Nat)(f:Fl)(b:Nat)(x:Str):Prop:=D3 L i k a x\/∃ g∈(fs L k).take b,hit i k f g=true/\f.path=x
theorem d1_zero(L:List Pk)(x:Str):¬D1 L 0 x:=by rintro ⟨i,k,h,_⟩;omega
theorem d2_zero(L:List Pk)(i:Nat)(x:Str):D2 L i 0 x↔D1 L i x:=⟨fun h=>h.elim id fun ⟨k,h,_⟩=>by omega,.inl⟩
theorem d3_zero(L:List Pk)(i k:Nat)(x:Str):D3 L i k 0 x↔D2 L i k x:=⟨fun h=>h.elim id fun ⟨f,h,_⟩=>by simp at h,.inl⟩
theorem d4_zero(L:List Pk)(i k a:Nat)(f:Fl)(x:Str):D4 L i k a f 0 x↔D3 L i k a x:=⟨fun h=>h.elim id fun ⟨g,h,_⟩=>by simp at h,.inl⟩
theorem mem_take{α:Type}{l:List α}{b:Nat}(h:b<l.length){g:α}:g∈l.take (b+1)↔g∈l.take b\/g=l[b]:=by
 rw[List.take_succ_eq_append_getElem h,List.mem_append,List.mem_singleton]
theorem d4_next{L:List Pk}{i k a:Nat}{f:Fl}{b:Nat}(h:b<(fs L k).length)(x:Str):D4 L i k a f (b+1) x↔D4 L i k a f b x\/(hit i k f (fs L k)[b]=true/\f.path=x):=by
 unfold D4;constructor
 ·rintro (h1|⟨g,hg,h2⟩)
  ·exact .inl (.inl h1)
  ·rcases (mem_take h).1 hg with hg|rfl
   ·exact .inl (.inr ⟨g,hg,h2⟩)
   ·exact .inr h2
 ·rintro ((h1|⟨g,hg,h2⟩)|h2)
  ·exact .inl h1
  ·exact .inr ⟨g,(mem_take h).2 (.inl hg),h2⟩
  ·exact .inr ⟨_,(mem_take h).2 (.inr rfl),h2⟩
theorem d3_next{L:List Pk}{i k a:Nat}(h:a<(fs L i).length)(x:Str):D3 L i k (a+1) x↔D4 L i k a (fs L i)[a] (fs L k).length x:=by
 unfold D4 D3;rw[List.take_length];constructor
 ·rintro (h1|⟨f,hf,h2⟩)
  ·exact .inl (.inl h1)
  ·rcases (mem_take h).1 hf with hf|rfl
   ·exact .inl (.inr ⟨f,hf,h2⟩)
   ·exact .inr h2
 ·rintro ((h1|⟨f,hf,h2⟩)|h2)
  ·exact .inl h1
  ·exact .inr ⟨f,(mem_take h).2 (.inl hf),h2⟩
  ·exact .inr ⟨_,(mem_take h).2 (.inr rfl),h2⟩
theorem d2_next(L:List Pk)(i k:Nat)(x:Str):D2 L i (k+1) x↔D3 L i k (fs L i).length x:=by
 unfold D3 D2;rw[List.take_length];constructor
 ·rintro (h1|⟨k',hk,h2⟩)
  ·exact .inl (.inl h1)
  ·by_cases e:k'=k
   ·subst e;exact .inr h2
   ·exact .inl (.inr ⟨k',by omega,h2⟩)
 ·rintro ((h1|⟨k',hk,h2⟩)|h2)
  ·exact .inl h1
  ·exact .inr ⟨k',by omega,h2⟩
  ·exact .inr ⟨k,by omega,h2⟩
theorem d1_next(L:List Pk)(i:Nat)(x:Str):D1 L (i+1) x↔D2 L i L.length x:=by
 unfold D2 D1;constructor
 ·rintro ⟨i',k,hi,hk,h2⟩
  by_cases e:i'=i
  ·subst e;exact .inr ⟨k,hk,h2⟩
  ·exact .inl ⟨i',k,by omega,hk,h2⟩
 ·rintro (⟨i',k,hi,hk,h2⟩|⟨k,hk,h2⟩)
  ·exact⟨i',k,by omega,hk,h2⟩
  ·exact⟨i,k,by omega,hk,h2⟩
def Found(D:Str->Prop)(n:Str):Prop:=∃ H:List Str,n=Sp.least H/\∀ x,x∈H↔D x
theorem Found.congr{D E:Str->Prop}{n:Str}(h:Found D n)(he:∀ x,E x↔D x):Found E n:=by
 obtain⟨H,h1,h2⟩:=h;exact⟨H,h1,fun x=>(h2 x).trans (he x).symm⟩
theorem Found.more{D:Str->Prop}{n:Str}(h:Found D n)(y:Str):Found (fun x=>D x\/y=x) (Sp.first n y):=by
 obtain⟨H,rfl,h2⟩:=h;refine⟨H ++ [y],by unfold Sp.least;rw[List.foldl_append];rfl,fun x=>?_⟩;rw[List.mem_append,List.mem_singleton,h2];exact or_congr Iff.rfl eq_comm
theorem found_nil{D:Str->Prop}(h:∀ x,¬D x):Found D []:=⟨[],rfl,fun x=>⟨fun h'=>(by cases h'),fun h'=>absurd h' (h x)⟩⟩
theorem clash1_nodup:∀ {l:List Str},Sp.clash1 l=false->l.Nodup
 | [],_=>List.nodup_nil
 | p :: r,h=>by
  unfold Sp.clash1 at h;rw[Bool.or_eq_false_iff] at h;rw[List.nodup_cons];refine⟨fun hm=>?_,clash1_nodup h.2⟩;have:=h.1;rw[List.any_eq_false] at this;exact this p hm (by simp)
theorem paths_mem{L:List Pk}{x:Str}:x∈Sp.paths L↔∃ i,i<L.length/\∃ f∈fs L i,f.path=x:=by
 unfold Sp.paths;rw[List.mem_flatMap];constructor
 ·rintro ⟨p,hp,hx⟩
  obtain⟨f,hf,rfl⟩:=List.mem_map.1 hx;obtain⟨i,hi,rfl⟩:=List.mem_iff_getElem.1 hp;exact⟨i,hi,f,by rw[fs_get hi];exact hf,rfl⟩
 ·rintro ⟨i,hi,f,hf,rfl⟩
  rw[fs_get hi] at hf;exact⟨L[i],List.getElem_mem hi,List.mem_map.2 ⟨f,hf,rfl⟩⟩
theorem two_of_count:∀ {L:List Pk},(∀ p∈L,(p.files.map (·.path)).Nodup)->∀ {x:Str},2<=(Sp.paths L).count x->∃ i k,i<L.length/\k<L.length/\i≠k/\(∃ f∈fs L i,f.path=x)/\∃ g∈fs L k,g.path=x
 | [],_,x,h=>by simp[Sp.paths] at h
 | p :: r,hn,x,h=>by
  have e:Sp.paths (p :: r)=p.files.map (·.path) ++ Sp.paths r:=by unfold Sp.paths;rw[List.flatMap_cons]
  rw[e,List.count_append] at h;have h1:(p.files.map (·.path)).count x<=1:=List.nodup_iff_count.1 (hn p (by simp)) x
  by_cases h2:2<=(Sp.paths r).count x
  ·obtain⟨i,k,hi,hk,hne,hf,hg⟩:=two_of_count (fun q hq=>hn q (List.mem_cons_of_mem _ hq)) h2
   exact⟨i+1,k+1,by simpa using hi,by simpa using hk,by omega,hf,hg⟩
  ·have h3:0<(p.files.map (·.path)).count x:=by omega
   have h4:0<(Sp.paths r).count x:=by omega
   rw[List.count_pos_iff] at h3 h4;obtain⟨f,hf,hfx⟩:=List.mem_map.1 h3;obtain⟨k,hk,g,hg,hgx⟩:=paths_mem.1 h4;exact⟨0,k+1,by simp,by simpa using hk,by omega,⟨f,hf,hfx⟩,⟨g,hg,hgx⟩⟩
theorem count_of_two:∀ {L:List Pk} {x:Str} {i k:Nat},i<k->k<L.length->(∃ f∈fs L i,f.path=x)->(∃ g∈fs L k,g.path=x)->2<=(Sp.paths L).count x
 | [],_,_,_,_,h,_,_=>by simp at h
 | p :: r,x,0,k+1,_,hk,⟨f,hf,hfx⟩,hg=>by
  have e:Sp.paths (p :: r)=p.files.map (·.path) ++ Sp.paths r:=by unfold Sp.paths;rw[List.flatMap_cons]
  rw[e,List.count_append];have h1:0<(p.files.map (·.path)).count x:=List.count_pos_iff.2 (List.mem_map.2 ⟨f,hf,hfx⟩);have h2:0<(Sp.paths r).count x:=List.count_pos_iff.2 (paths_mem.2 ⟨k,by simpa using hk,hg⟩);omega
 | p :: r,x,i+1,k+1,hik,hk,hf,hg=>by
  have e:Sp.paths (p :: r)=p.files.map (·.path) ++ Sp.paths r:=by unfold Sp.paths;rw[List.flatMap_cons]
  rw[e,List.count_append];have:=count_of_two (L:=r) (x:=x) (i:=i) (k:=k) (by omega) (by simpa using hk) hf hg;omega
theorem found_clash{L:List Pk}(hn:∀ p∈L,(p.files.map (·.path)).Nodup)(hne:∀ x∈Sp.paths L,x≠[]){n:Str}(h:Found (D1 L L.length) n):n=Sp.clash L:=by
 obtain⟨H,rfl,h2⟩:=h;unfold Sp.clash;refine V5.least_congr (fun x hx=>?_) fun x=>?_
 ·obtain⟨i,k,hi,hk,f,hf,g,hg,hh,hfx⟩:=(h2 x).1 hx
  exact hne x (paths_mem.2 ⟨i,hi,f,hf,hfx⟩)
 ·rw[h2,List.mem_filter]
  constructor
  ·rintro ⟨i,k,hi,hk,f,hf,g,hg,hh,rfl⟩
   refine⟨paths_mem.2 ⟨i,hi,f,hf,rfl⟩,?_⟩;unfold Sp.clashAt;rw[Bool.or_eq_true,decide_eq_true_eq];unfold hit at hh;rw[Bool.or_eq_true,Bool.and_eq_true,decide_eq_true_eq,beq_iff_eq] at hh
   rcases hh with hh|⟨he,hne⟩
   ·left;rw[List.any_eq_true]
    exact⟨g.path,paths_mem.2 ⟨k,hk,g,hg,rfl⟩,hh⟩
   ·right
    rcases Nat.lt_or_gt_of_ne hne with hlt|hlt
    ·exact count_of_two hlt hk ⟨f,hf,rfl⟩ ⟨g,hg,he.symm⟩
    ·exact count_of_two hlt hi ⟨g,hg,he.symm⟩ ⟨f,hf,rfl⟩
  ·rintro ⟨hp,hc⟩
   unfold Sp.clashAt at hc;rw[Bool.or_eq_true,decide_eq_true_eq] at hc
   rcases hc with hc|hc
   ·rw[List.any_eq_true] at hc
    obtain⟨y,hy,ho⟩:=hc;obtain⟨i,hi,f,hf,rfl⟩:=paths_mem.1 hp;obtain⟨k,hk,g,hg,rfl⟩:=paths_mem.1 hy;exact⟨i,k,hi,hk,f,hf,g,hg,by unfold hit;rw[ho];rfl,rfl⟩
   ·obtain⟨i,k,hi,hk,hne,⟨f,hf,hfx⟩,⟨g,hg,hgx⟩⟩:=two_of_count hn hc
    exact⟨i,k,hi,hk,f,hf,g,hg,by unfold hit;rw[hfx,hgx,decide_eq_true hne];simp,hfx⟩
end V17
end
section
open Go.RowKit
theorem clashR_any{S:Nat->Prop}(v:Value)(X:List PV)(w:World)(h:PksOn S w v X)(hS:∀ b,S b->b<w.heap.size)(hX:X.length<=1099511627776)(hn:∀ p∈pk X,(p.files.map (·.path)).Nodup)(hne:∀ x∈Sp.paths (pk X),x≠[]):
  Calls Tryz.prog 146 #[v] w fun e w'=>e=.returned (sv (Sp.clash (pk X)))/\w'=w:=by
 have hon:∀ x∈X,x.On S w:=h.2;obtain⟨a,cap,rfl,hc,hx⟩:=h.get;have HX:=hid hx;have HON:=hid hon;have HS:=hid hS;have HN:=hid hn;have HNE:=hid hne;have HL:=hid (pk_len X);clear h hx hon hS hn hne;have hfs:∀ k (hk:k<X.length),V17.fs (pk X) k=X[k].p.files:=fun k hk=>by rw[V17.fs_get (by rw[HL.out];exact hk),pk_get _ hk]
 have HFS:=hid hfs;clear hfs;go_enter Tryz.func146,Tryz.ntmps146;go_wp2
 go_loop [3,4] (fun n i=>∃ k:Nat,k<=X.length/\i=.int .i64 k/\∃ m,n=sv m/\V17.Found (V17.D1 (pk X) k) m) (fun _ i=>X.length-(intOf i).toNat)
 case atStart=>exact⟨0,Nat.zero_le _,rfl,[],rfl,V17.found_nil (V17.d1_zero _)⟩
 case round =>
  obtain⟨i,hi,rfl,m1,rfl,hf1⟩:=hrel;have HF1:=hid hf1;clear hf1
  by_cases hil:i<X.length
  ·obtain⟨b,off,rfl,hSb,x0,x1,x2,x3,x4⟩:=HX.out i hil
   have hbl:=HS.out b hSb;have hxo:=HON.out _ (List.getElem_mem hil);have hfi:=HFS.out i hil;obtain⟨fi,hfie⟩:∃ fi,fi=X[i].p.files:=⟨_,rfl⟩
   rw[<-hfie] at hfi;obtain⟨fa,fc,hfv,hfc,hfg⟩:=hxo.files.get;rw[<-hfie] at hfv hfc hfg;rw[hfv] at x4;have hf4:=hxo.ok.files;have hfp:=hxo.ok.paths;rw[<-hfie] at hf4 hfp;have HFI:=hid hfi;have HFG:=hid hfg;have HFP:=hid hfp;clear x0 x1 x2 x3 hxo hfi hfie hfv hfg hfp;unfold sv;go_wp2_with fail
   go_loop [3,5] (fun n i5=>∃ k:Nat,k<=X.length/\i5=.int .i64 k/\∃ m,n=sv m/\V17.Found (V17.D2 (pk X) i k) m) (fun _ i=>X.length-(intOf i).toNat)
   case atStart=>exact⟨0,Nat.zero_le _,rfl,m1,rfl,HF1.out.congr (V17.d2_zero _ _)⟩
   case round =>
    obtain⟨k,hk,rfl,m2,rfl,hf2⟩:=hrel;have HF2:=hid hf2;clear hf2
    by_cases hkl:k<X.length
    ·obtain⟨b',off',ea,hSb',y0,y1,y2,y3,y4⟩:=HX.out k hkl
     injection ea with ea
     injection ea with ea1 ea2 _
     subst ea1 ea2;have hyo:=HON.out _ (List.getElem_mem hkl);have hfk:=HFS.out k hkl;obtain⟨fk,hfke⟩:∃ fk,fk=X[k].p.files:=⟨_,rfl⟩
     rw[<-hfke] at hfk;obtain⟨ga,gc,hgv,hgc,hgg⟩:=hyo.files.get;rw[<-hfke] at hgv hgc hgg;rw[hgv] at y4;have hg4:=hyo.ok.files;have hgp:=hyo.ok.paths;rw[<-hfke] at hg4 hgp;have HFK:=hid hfk;have HGG:=hid hgg;have HGP:=hid hgp;clear y0 y1 y2 y3 hyo hfk hfke hgv hgg hgp;unfold sv;go_wp2_with fail
     go_loop [3,6] (fun n i6=>∃ c:Nat,c<=fi.length/\i6=.int .i64 c/\∃ m,n=sv m/\V17.Found (V17.D3 (pk X) i k c) m) (fun _ i=>fi.length-(intOf i).toNat)
     case atStart=>exact⟨0,Nat.zero_le _,rfl,m2,rfl,HF2.out.congr (V17.d3_zero _ _ _)⟩
     case round =>
      obtain⟨c,hc3,rfl,m3,rfl,hf3⟩:=hrel;have HF3:=hid hf3;clear hf3
      by_cases hcl:c<fi.length
      ·obtain⟨fb,foff,rfl,hSf,z0,_⟩:=HFG.out c hcl
       have hfbl:=HS.out fb hSf;have hplen:=HFP.out _ (List.getElem_mem hcl);have hd3:=fun x=>V17.d3_next (L:=pk X) (i:=i) (k:=k) (a:=c) (by rw[HFI.out];exact hcl) x
       have hfe:∀ h:c<(V17.fs (pk X) i).length,(V17.fs (pk X) i)[c]=fi[c]:=fun h=>by simp only[HFI.out]
       simp only[hfe] at hd3;obtain⟨f,hf⟩:∃ f,f=fi[c]:=⟨_,rfl⟩
       rw[<-hf] at z0 hplen hd3;have HD3:=hid hd3;clear hf hfe hd3;unfold sv at z0 ⊢;go_wp2_with fail
       go_loop [3,7] (fun n i7=>∃ d:Nat,d<=fk.length/\i7=.int .i64 d/\∃ m,n=sv m/\V17.Found (V17.D4 (pk X) i k c f d) m) (fun _ i=>fk.length-(intOf i).toNat)
       case atStart=>exact⟨0,Nat.zero_le _,rfl,m3,rfl,HF3.out.congr (V17.d4_zero _ _ _ _ _)⟩
       case round =>
        obtain⟨d,hd,rfl,m4,rfl,hf4'⟩:=hrel;have HF4:=hid hf4';clear hf4'
        by_cases hdl:d<fk.length
        ·obtain⟨gb,goff,rfl,hSg,q0,_⟩:=HGG.out d hdl
         have hgbl:=HS.out gb hSg;have hqlen:=HGP.out _ (List.getElem_mem hdl);have hd4:=fun x=>V17.d4_next (L:=pk X) (i:=i) (k:=k) (a:=c) (f:=f) (b:=d) (by rw[HFK.out];exact hdl) x
         have hge:∀ h:d<(V17.fs (pk X) k).length,(V17.fs (pk X) k)[d]=fk[d]:=fun h=>by simp only[HFK.out]
         simp only[hge] at hd4;obtain⟨g,hg⟩:∃ g,g=fk[d]:=⟨_,rfl⟩
         rw[<-hg] at q0 hqlen hd4;have HD4:=hid hd4;have hov:=over_any ⟨f.path.toArray⟩ ⟨g.path.toArray⟩ w (by rw[<-bl_len,bl_mk];omega);rw[bl_mk,bl_mk] at hov;have HOV:=hid hov;clear hg hge hd4 hov;unfold sv at q0 ⊢;go_wp2_with fail;refine HOV.out.mono ?_;rintro e w1 ⟨rfl,hw1⟩;subst hw1
         cases ho:Sp.over f.path g.path with
         | true =>
          have hh:V17.hit i k f g=true:=by unfold V17.hit;rw[ho];rfl
          have HY:=hid ((HF4.out.more f.path).congr (E:=V17.D4 (pk X) i k c f (d+1)) (fun x=>by rw[HD4.out x,hh];simp));clear hh ho;go_wp2_with fail;refine(firstR_any m4 f.path w).mono ?_;rintro e w1 ⟨rfl,hw1⟩;have hw1':=hw1.symm;subst hw1';go_wp2;go_round
          case rel=>exact⟨d+1,hdl,by go_num,_,rfl,HY.out⟩
          case measure=>simp[intOf];omega
         | false =>
          cases hq:(f.path == g.path) with
          | false =>
           have hh:V17.hit i k f g=false:=by unfold V17.hit;rw[ho,hq];rfl
           have HY:=hid (HF4.out.congr (E:=V17.D4 (pk X) i k c f (d+1)) (fun x=>by rw[HD4.out x,hh];simp));clear hh ho;go_wp2;go_round
           case rel=>exact⟨d+1,hdl,by go_num,_,rfl,HY.out⟩
           case measure=>simp[intOf];omega
          | true =>
           by_cases hik:i=k
           ·have hne:((i:Int) != (k:Int))=false:=by rw[hik];simp
            have hh:V17.hit i k f g=false:=by unfold V17.hit;rw[ho,hq,decide_eq_false (fun h=>h hik)];rfl
            have HY:=hid (HF4.out.congr (E:=V17.D4 (pk X) i k c f (d+1)) (fun x=>by rw[HD4.out x,hh];simp));clear hh ho hik;go_wp2;go_round
            case rel=>exact⟨d+1,hdl,by go_num,_,rfl,HY.out⟩
            case measure=>simp[intOf];omega
           ·have hne:((i:Int) != (k:Int))=true:=by rw[bne_iff_ne];omega
            have hh:V17.hit i k f g=true:=by unfold V17.hit;rw[ho,hq,decide_eq_true hik];rfl
            have HY:=hid ((HF4.out.more f.path).congr (E:=V17.D4 (pk X) i k c f (d+1)) (fun x=>by rw[HD4.out x,hh];simp));clear hh ho hik;go_wp2_with fail;refine(firstR_any m4 f.path w).mono ?_;rintro e w1 ⟨rfl,hw1⟩;have hw1':=hw1.symm;subst hw1';go_wp2;go_round
            case rel=>exact⟨d+1,hdl,by go_num,_,rfl,HY.out⟩
            case measure=>simp[intOf];omega
        ·obtain rfl:d=fk.length:=by omega
         have hdone:=HF4.out.congr (E:=V17.D3 (pk X) i k (c+1)) (fun x=>by rw[HD3.out x,HFK.out]);have HDN:=hid hdone;clear hdone;unfold sv;go_wp2;go_round
         case rel=>exact⟨c+1,hcl,by go_num,m4,rfl,HDN.out⟩
         case measure=>simp[intOf];omega
      ·obtain rfl:c=fi.length:=by omega
       have hdone:=HF3.out.congr (E:=V17.D2 (pk X) i (k+1)) (fun x=>by rw[V17.d2_next,HFI.out]);have HDN:=hid hdone;clear hdone;unfold sv;go_wp2;go_round
       case rel=>exact⟨k+1,hkl,by go_num,m3,rfl,HDN.out⟩
       case measure=>simp[intOf];omega
    ·obtain rfl:k=X.length:=by omega
     have hdone:=HF2.out.congr (E:=V17.D1 (pk X) (i+1)) (fun x=>by rw[V17.d1_next,HL.out]);have HDN:=hid hdone;clear hdone;unfold sv;go_wp2;go_round
     case rel=>exact⟨i+1,hil,by go_num,m2,rfl,HDN.out⟩
     case measure=>simp[intOf];omega
  ·obtain rfl:i=X.length:=by omega
   have hr:=V17.found_clash HN.out HNE.out (by rw[HL.out];exact HF1.out);have HR:=hid hr;clear hr;unfold sv;go_wp2;go_ret;exact⟨by rw[HR.out];rfl,rfl⟩
end
section
open Go.RowKit
namespace Z8
theorem single{S:Nat->Prop}{W:World}{x:PV}(hx:x.On S W)(hS:∀ b,S b->b<W.heap.size):PksOn (fun b=>b<(W.alloc (.cells #[sv x.p.name,sv x.p.ver,x.nv,x.bv,x.fv] 30)).heap.size) (W.alloc (.cells #[sv x.p.name,sv x.p.ver,x.nv,x.bv,x.fv] 30)) (.slice (some ⟨W.heap.size,0,none⟩) 1 1) [x]:=by
 refine⟨⟨some ⟨W.heap.size,0,none⟩,1,rfl,Nat.le_refl _,fun k y hk=>?_⟩,fun z hz=>?_⟩
 ·cases k with
  | zero =>
   have hy:y=x.cells:=by simpa using hk.symm
   subst hy;refine⟨W.heap.size,0,rfl,by simp,fun j u hj=>?_⟩;have hj5:x.cells[j]? = (#[sv x.p.name,sv x.p.ver,x.nv,x.bv,x.fv]:Array Value)[j]?:=by unfold PV.cells;simp
   rw[show 0+0*5+j=j from by omega,World.cell?_alloc_at _ _ _ _ rfl,<-hj5];exact hj
  | succ k=>simp at hk
 ·rw[List.mem_singleton] at hz;subst hz
  exact(hx.keep fun b hb=>Below.heap_alloc _ _ _ (hS b hb)).mono fun b hb=>by have:=hS b hb;simp;omega
def hitN(there:List Sp.Pk)(p q:Sp.Pk)(g:List Sp.Ch):Bool:=!Sp.any1 g there && !Sp.any1 g [p] && Sp.any1 g [q]
end Z8
theorem waitsR_any{S:Nat->Prop}(v:Value)(x y:PV)(X:List PV)(w:World)(h:PksOn S w v X)(hx:x.On S w)(hy:y.On S w)(hS:∀ b,S b->b<w.heap.size)(hX:X.length<=1099511627776):
  Calls Tryz.prog 186 #[x.agg,y.agg,v] w fun e w'=>e=.returned (.bool (Sp.waitsFor (pk X) x.p y.p))/\Below w.heap.size w w':=by
 have HXS:=hid (fun W (hW:Below w.heap.size w W)=>h.keep fun b hb=>hW.block b (hS b hb));have HPX:=hid (fun W (hW:Below w.heap.size w W)=>hx.keep fun b hb=>hW.block b (hS b hb));have HPY:=hid (fun W (hW:Below w.heap.size w W)=>hy.keep fun b hb=>hW.block b (hS b hb));obtain⟨na,nc,hnv,hnc,hng⟩:=hx.needs.get;have hn3:=hx.ok.needs;have HNG:=hid hng;have HGO:=hid hx.ok.groups;have HS:=hid hS;obtain⟨w2,hw2⟩:∃ w2,w2=(w.alloc (.cells #[sv x.p.name,sv x.p.ver,x.nv,x.bv,x.fv] 30)).alloc (.cells #[sv y.p.name,sv y.p.ver,y.nv,y.bv,y.fv] 30):=⟨_,rfl⟩
 have hb2:Below w.heap.size w w2:=by rw[hw2];exact((Below.refl _ _).alloc (Nat.le_refl _) _).alloc (by simp) _
 have hz2:w2.heap.size=w.heap.size+2:=by rw[hw2];simp
 have hcx:∀ o,w2.cell? ⟨w.heap.size,o,none⟩=(#[sv x.p.name,sv x.p.ver,x.nv,x.bv,x.fv]:Array Value)[o]?:=fun o=>by rw[hw2,World.cell?_alloc_past _ _ _ (by simp),World.cell?_alloc_at _ _ _ _ rfl]
 have hcy:∀ o,w2.cell? ⟨w.heap.size+1,o,none⟩=(#[sv y.p.name,sv y.p.ver,y.nv,y.bv,y.fv]:Array Value)[o]?:=fun o=>by rw[hw2,World.cell?_alloc_at _ _ _ _ (by simp)]
 have x0:=hcx 0;have x1:=hcx 1;have x2:=hcx 2;have x3:=hcx 3;have x4:=hcx 4;have y0:=hcy 0;have y1:=hcy 1;have y2:=hcy 2;have y3:=hcy 3;have y4:=hcy 4;simp only[List.getElem?_toArray,List.getElem?_cons_zero,List.getElem?_cons_succ] at x0 x1 x2 x3 x4 y0 y1 y2 y3 y4;have HW2:=hid hw2;have HB2:=hid hb2;have hza:=Nat.le_of_eq hz2;have hzb:=Nat.le_of_eq hz2.symm;have HNVV:=hid hnv;clear h hx hy hS hng hcx hcy hw2 hb2 hz2 hnv;unfold PV.agg;unfold sv at x0 x1 y0 y1 HW2 ⊢;go_enter Tryz.func186,Tryz.ntmps186;go_wp2_with fail;rw[<-HW2.out];have hnv2:w2.cell? ⟨w.heap.size,2,none⟩=some (.slice na x.p.needs.length nc):=by rw[x2,HNVV.out]
 have X0:=hid x0;have X1:=hid x1;have X2:=hid x2;have X3:=hid x3;have X4:=hid x4;have Y0:=hid y0;have Y1:=hid y1;have Y2:=hid y2;have Y3:=hid y3;have Y4:=hid y4;have HNV:=hid hnv2;clear HW2 x0 x1 x2 x3 x4 y0 y1 y2 y3 y4 hnv2
 go_loopw [7] (fun i wr=>∃ k:Nat,k<=x.p.needs.length/\i=.int .i64 k/\(∀ g∈x.p.needs.take k,Z8.hitN (pk X) x.p y.p g=false)/\Below w2.heap.size w2 wr) (fun i _=>x.p.needs.length-(intOf i).toNat)
 case atStart=>exact⟨0,Nat.zero_le _,rfl,fun g hg=>by simp at hg,Below.refl _ _⟩
 case round =>
  obtain⟨k,hk,rfl,hno,hbel⟩:=hrel;have HNO:=hid hno;have HBL:=hid hbel;have hzr:=hbel.size;have cn:=(hbel.cell (p:=⟨w.heap.size,2,none⟩) (show w.heap.size<w2.heap.size by omega)).trans HNV.out;have hl1:w.heap.size<wr.heap.size:=by omega
  have hl2:w.heap.size+1<wr.heap.size:=by omega
  clear hno hbel
  by_cases hlt:k<x.p.needs.length
  ·obtain⟨gb,goff,gx,rfl,hSg,hgc,hgch⟩:=HNG.out k hlt
   have hgbl:=HS.out gb hSg;have HBW:=hid (HB2.out.trans (HBL.out.mono (by omega)));have hgc':=(HBW.out.cell (p:=⟨gb,goff+k,none⟩) hgbl).trans hgc;have hgr:gb<wr.heap.size:=by omega
   have hgo:=HGO.out _ (List.getElem_mem hlt);have HCH:=hid (fun W (hW:Below w.heap.size w W)=>(SlOn.keep hgch fun c hc=>hW.block c (HS.out c hc):ChOn S W gx x.p.needs[k]));have HA1:=hid (any1R_any gx _ x.p.needs[k] X wr (HCH.out wr HBW.out) (fun c hc=>by have:=HS.out c hc;omega) hgo.2 hgo.1 (HXS.out wr HBW.out) (fun c hc=>by have:=HS.out c hc;omega) hX);have HA2:=hid (fun (z:PV) W (hW:Below w.heap.size w W) (hz:z.On S W)=>any1R_any gx _ x.p.needs[k] [z] (W.alloc (.cells #[sv z.p.name,sv z.p.ver,z.nv,z.bv,z.fv] 30)) (HCH.out _ (hW.alloc hW.size _)) (fun c hc=>by have:=HS.out c hc;have:=hW.size;simp;omega) hgo.2 hgo.1 (Z8.single hz fun c hc=>by have:=HS.out c hc;have:=hW.size;omega) (fun c hc=>hc) (by simp));obtain⟨r1,hr1⟩:∃ r1,r1=Sp.any1 x.p.needs[k] (pk X):=⟨_,rfl⟩
   obtain⟨r2,hr2⟩:∃ r2,r2=Sp.any1 x.p.needs[k] [x.p]:=⟨_,rfl⟩
   obtain⟨r3,hr3⟩:∃ r3,r3=Sp.any1 x.p.needs[k] [y.p]:=⟨_,rfl⟩
   rw[<-hr1] at HA1;have hhit:Z8.hitN (pk X) x.p y.p x.p.needs[k]=(!r1 && !r2 && r3):=by unfold Z8.hitN;rw[hr1,hr2,hr3]
   have HH:=hid hhit;have HR2:=hid hr2;have HR3:=hid hr3;clear hgc hgch hgo hhit hr1 hr2 hr3;go_wp2_with fail;refine HA1.out.mono ?_;rintro e w3 ⟨rfl,hb3⟩;have hz3:=hb3.size;have hbA:=HBW.out.trans (hb3.mono (by omega));have hbA2:=HBL.out.trans (hb3.mono hzr);have x0:=(hbA2.cell (p:=⟨w.heap.size,0,none⟩) (show w.heap.size<w2.heap.size by omega)).trans X0.out;have x1:=(hbA2.cell (p:=⟨w.heap.size,1,none⟩) (show w.heap.size<w2.heap.size by omega)).trans X1.out;have x2:=(hbA2.cell (p:=⟨w.heap.size,2,none⟩) (show w.heap.size<w2.heap.size by omega)).trans X2.out;have x3:=(hbA2.cell (p:=⟨w.heap.size,3,none⟩) (show w.heap.size<w2.heap.size by omega)).trans X3.out;have x4:=(hbA2.cell (p:=⟨w.heap.size,4,none⟩) (show w.heap.size<w2.heap.size by omega)).trans X4.out;have hl3:w.heap.size<w3.heap.size:=by omega
   have ha2:=HA2.out x w3 hbA (HPX.out w3 hbA);rw[show Sp.any1 x.p.needs[k] (pk [x])=r2 from HR2.out.symm] at ha2;unfold sv at ha2;have HA2':=hid ha2;have HBA:=hid hbA;have HBA2:=hid hbA2;clear hbA hbA2 ha2 hb3 cn hgc';go_wp2_with fail;refine HA2'.out.mono ?_;rintro e w4 ⟨rfl,hb4⟩;have hz4:=hb4.size;rw[World.size_alloc] at hz4;have hb4':Below w3.heap.size w3 w4:=((Below.refl _ _).alloc (Nat.le_refl _) _).trans (hb4.mono (by simp));have hbA:=HBA.out.trans (hb4'.mono (by omega));have hbA2:=HBA2.out.trans (hb4'.mono (by omega));have y0:=(hbA2.cell (p:=⟨w.heap.size+1,0,none⟩) (show w.heap.size+1<w2.heap.size by omega)).trans Y0.out;have y1:=(hbA2.cell (p:=⟨w.heap.size+1,1,none⟩) (show w.heap.size+1<w2.heap.size by omega)).trans Y1.out;have y2:=(hbA2.cell (p:=⟨w.heap.size+1,2,none⟩) (show w.heap.size+1<w2.heap.size by omega)).trans Y2.out;have y3:=(hbA2.cell (p:=⟨w.heap.size+1,3,none⟩) (show w.heap.size+1<w2.heap.size by omega)).trans Y3.out;have y4:=(hbA2.cell (p:=⟨w.heap.size+1,4,none⟩) (show w.heap.size+1<w2.heap.size by omega)).trans Y4.out;have hl4:w.heap.size+1<w4.heap.size:=by omega
   have ha3:=HA2.out y w4 hbA (HPY.out w4 hbA);rw[show Sp.any1 x.p.needs[k] (pk [y])=r3 from HR3.out.symm] at ha3;unfold sv at ha3;have HA3:=hid ha3;have HBB:=hid hbA2;clear hbA hbA2 ha3 hb4 hb4' x0 x1 x2 x3 x4;go_wp2_with fail;refine HA3.out.mono ?_;rintro e w5 ⟨rfl,hb5⟩;have hz5:=hb5.size;rw[World.size_alloc] at hz5;have hb5':Below w4.heap.size w4 w5:=((Below.refl _ _).alloc (Nat.le_refl _) _).trans (hb5.mono (by simp));have HB5:=hid (HBB.out.trans (hb5'.mono (by omega)));clear hb5 hb5' y0 y1 y2 y3 y4
   cases hh:(!r1 && !r2 && r3) with
   | true =>
    have hr:Sp.waitsFor (pk X) x.p y.p=true:=by
     unfold Sp.waitsFor;rw[List.any_eq_true];refine⟨_,List.getElem_mem hlt,?_⟩;have:=HH.out;rw[hh] at this;exact this
    have HR:=hid hr;have e1:r1=false:=by cases r1;rfl;simp at hh
    have e2:r2=false:=by cases r2;rfl;simp at hh
    have e3:r3=true:=by cases r3;simp at hh;rfl
    clear hr hh;subst e1 e2 e3;go_wp2;go_ret;exact⟨ret_bool HR.out.symm,HB2.out.trans (HB5.out.mono (by omega))⟩
   | false =>
    have hnx:=Z4.take_next hlt HNO.out (by rw[HH.out,hh]);have HNX:=hid hnx;clear hnx
    cases r1 with
    | true =>
     clear hh;go_wp2;go_roundw
     case rel=>exact⟨k+1,hlt,by go_num,HNX.out,HB5.out⟩
     case measure=>simp[intOf];omega
    | false =>
     cases r2 with
     | true =>
      clear hh;go_wp2;go_roundw
      case rel=>exact⟨k+1,hlt,by go_num,HNX.out,HB5.out⟩
      case measure=>simp[intOf];omega
     | false =>
      cases r3 with
      | true=>simp at hh
      | false =>
       clear hh;go_wp2;go_roundw
       case rel=>exact⟨k+1,hlt,by go_num,HNX.out,HB5.out⟩
       case measure=>simp[intOf];omega
  ·obtain rfl:k=x.p.needs.length:=by omega
   have hr:Sp.waitsFor (pk X) x.p y.p=false:=by
    unfold Sp.waitsFor;rw[List.any_eq_false];intro g hg;have:=HNO.out g (by rw[List.take_length];exact hg);unfold Z8.hitN at this;rw[this];decide
   have HR:=hid hr;clear hr;go_wp2;go_ret;exact⟨ret_bool HR.out.symm,HB2.out.trans (HBL.out.mono (by omega))⟩
end
section
open Go.RowKit
namespace R8
theorem pre_excl{a b s:Sp.Str}{x y:UInt8}{a' b':Sp.Str}(ha:a=x :: a')(hb:b=y :: b')(hxy:x≠y)(h:a.isPrefixOf s=true):b.isPrefixOf s=false:=by
 subst ha;subst hb
 cases s with
 | nil=>rfl
 | cons c r =>
  simp only[List.isPrefixOf,Bool.and_eq_true,beq_iff_eq] at h;obtain⟨rfl,_⟩:=h;simp only[List.isPrefixOf];rw[show(y == x)=false from by simp;exact fun e=>hxy e.symm];rfl
theorem needs_not{s:Sp.Str}(h:T2.needsP.isPrefixOf s=true):T2.barsP.isPrefixOf s=false/\T2.fileP.isPrefixOf s=false:=
 ⟨pre_excl (x:=110) (y:=98) rfl rfl (by decide) h,pre_excl (x:=110) (y:=102) rfl rfl (by decide) h⟩
theorem bars_not{s:Sp.Str}(h:T2.barsP.isPrefixOf s=true):T2.fileP.isPrefixOf s=false:=pre_excl (x:=98) (y:=102) rfl rfl (by decide) h
theorem pre_size{a:Sp.Str}{s:ByteArray}(h:a.isPrefixOf (bl s)=true):a.length<=s.size:=by
 have:=(List.isPrefixOf_iff_prefix.1 h).length_le
 rwa [bl_len] at this
end R8
theorem lineR_none7(m b:Nat)(p:Sp.Pk)(s:ByteArray)(w:World)(hP:RPk w m b p)(hok:PkOk p)(_hs:s.size<1000000)(i:Nat)(hi:((i:Int) == 0)=false)(h1:T2.needsP.isPrefixOf (bl s)=false)(h2:T2.barsP.isPrefixOf (bl s)=false)(h3:T2.fileP.isPrefixOf (bl s)=false):
  Calls Tryz.prog 44 #[.pointer (some ⟨b,0,none⟩),.int .i64 i,.string s] w (LineR (T2.laterR p (bl s)) m b w):=by
 have hc:T2.laterR p (bl s)=none:=by unfold T2.laterR;rw[h1,h2,h3];rfl
 have hb1:=hok.needs;have hb2:=hok.bars;have hb3:=hok.files;have HC:=hid hc;have H1:=hid h1;have H2:=hid h2;have H3:=hid h3;have hm:m<=w.heap.size:=by obtain⟨_,_,_,h,_⟩:=hP;exact h
 clear hc h1 h2 h3 hP;go_enter Tryz.func44,Tryz.ntmps44;go_wp2_with fail;refine(begins_any _ _ _).mono ?_;rintro e w1 ⟨rfl,rfl⟩;rw[show bl ⟨#[110,101,101,100,115,32]⟩=T2.needsP from rfl,H1.out];go_wp2_with fail;refine(begins_any _ _ _).mono ?_;rintro e w1 ⟨rfl,rfl⟩;rw[show bl ⟨#[98,97,114,115,32]⟩=T2.barsP from rfl,H2.out];go_wp2_with fail;refine(begins_any _ _ _).mono ?_;rintro e w1 ⟨rfl,rfl⟩;rw[show bl ⟨#[102,105,108,101,32]⟩=T2.fileP from rfl,H3.out];go_wp2;go_quiet (fail);go_wp2;go_quiet (fail);go_wp2;go_ret;exact⟨FrN.of_below (below_drawn w _) hm,.inl ⟨rfl,HC.out⟩⟩
theorem lineR_none6(m b:Nat)(p:Sp.Pk)(s:ByteArray)(w:World)(hP:RPk w m b p)(hok:PkOk p)(_hs:s.size<1000000)(i:Nat)(hi:((i:Int) == 0)=false)(h1:T2.needsP.isPrefixOf (bl s)=false)(h2:T2.barsP.isPrefixOf (bl s)=false)(h3:T2.fileP.isPrefixOf (bl s)=true)(hl:¬p.files.length<4):
  Calls Tryz.prog 44 #[.pointer (some ⟨b,0,none⟩),.int .i64 i,.string s] w (LineR (T2.laterR p (bl s)) m b w):=by
 have hc:T2.laterR p (bl s)=none:=by unfold T2.laterR;rw[h1,h2,h3];simp[hl]
 have hb1:=hok.needs;have hb2:=hok.bars;have hb3:=hok.files;have HC:=hid hc;have H1:=hid h1;have H2:=hid h2;have H3:=hid h3;have hm:m<=w.heap.size:=by obtain⟨_,_,_,h,_⟩:=hP;exact h
 obtain⟨na,nc,ba,bc,fa,fc,hbs,k2,k3,k4,hz⟩:=hP.lens;clear hc h1 h2 h3 hP k2 k3;go_enter Tryz.func44,Tryz.ntmps44;go_wp2_with fail;refine(begins_any _ _ _).mono ?_;rintro e w1 ⟨rfl,rfl⟩;rw[show bl ⟨#[110,101,101,100,115,32]⟩=T2.needsP from rfl,H1.out];go_wp2_with fail;refine(begins_any _ _ _).mono ?_;rintro e w1 ⟨rfl,rfl⟩;rw[show bl ⟨#[98,97,114,115,32]⟩=T2.barsP from rfl,H2.out];go_wp2_with fail;refine(begins_any _ _ _).mono ?_;rintro e w1 ⟨rfl,rfl⟩;rw[show bl ⟨#[102,105,108,101,32]⟩=T2.fileP from rfl,H3.out];go_wp2;go_quiet (fail);go_wp2;go_quiet (fail);go_wp2;go_ret;exact⟨FrN.of_below (below_drawn w _) hm,.inl ⟨rfl,HC.out⟩⟩
theorem lineR_none4(m b:Nat)(p:Sp.Pk)(s:ByteArray)(w:World)(hP:RPk w m b p)(hok:PkOk p)(_hs:s.size<1000000)(i:Nat)(hi:((i:Int) == 0)=false)(h1:T2.needsP.isPrefixOf (bl s)=false)(h2:T2.barsP.isPrefixOf (bl s)=true)(hd:(((p.bars.length:Int)+(p.files.length:Int)) == 0)=false):
  Calls Tryz.prog 44 #[.pointer (some ⟨b,0,none⟩),.int .i64 i,.string s] w (LineR (T2.laterR p (bl s)) m b w):=by
 have h3:=R8.bars_not h2;have hc:T2.laterR p (bl s)=none:=by unfold T2.laterR;rw[h1,h2,h3,show decide (p.bars.length+p.files.length=0)=false from decide_eq_false (by rw[beq_eq_false_iff_ne] at hd;omega)];rfl
 have hb1:=hok.needs;have hb2:=hok.bars;have hb3:=hok.files;have HC:=hid hc;have H1:=hid h1;have H2:=hid h2;have H3:=hid h3;have hm:m<=w.heap.size:=by obtain⟨_,_,_,h,_⟩:=hP;exact h
 obtain⟨na,nc,ba,bc,fa,fc,hbs,k2,k3,k4,hz⟩:=hP.lens;clear hc h1 h2 h3 hP k2;go_enter Tryz.func44,Tryz.ntmps44;go_wp2_with fail;refine(begins_any _ _ _).mono ?_;rintro e w1 ⟨rfl,rfl⟩;rw[show bl ⟨#[110,101,101,100,115,32]⟩=T2.needsP from rfl,H1.out];go_wp2_with fail;refine(begins_any _ _ _).mono ?_;rintro e w1 ⟨rfl,rfl⟩;rw[show bl ⟨#[98,97,114,115,32]⟩=T2.barsP from rfl,H2.out];go_wp2_with fail;refine(begins_any _ _ _).mono ?_;rintro e w1 ⟨rfl,rfl⟩;rw[show bl ⟨#[102,105,108,101,32]⟩=T2.fileP from rfl,H3.out];go_wp2;go_quiet (fail);go_wp2;go_quiet (fail);go_wp2;go_ret;exact⟨FrN.of_below (below_drawn w _) hm,.inl ⟨rfl,HC.out⟩⟩
theorem lineR_none2(m b:Nat)(p:Sp.Pk)(s:ByteArray)(w:World)(hP:RPk w m b p)(hok:PkOk p)(_hs:s.size<1000000)(i:Nat)(hi:((i:Int) == 0)=false)(h1:T2.needsP.isPrefixOf (bl s)=true)(hd:(((p.needs.length:Int)+(p.bars.length:Int)+(p.files.length:Int)) == 0)=false):
  Calls Tryz.prog 44 #[.pointer (some ⟨b,0,none⟩),.int .i64 i,.string s] w (LineR (T2.laterR p (bl s)) m b w):=by
 obtain⟨h2,h3⟩:=R8.needs_not h1;have hc:T2.laterR p (bl s)=none:=by unfold T2.laterR;rw[h1,h2,h3,show decide (p.needs.length+p.bars.length+p.files.length=0)=false from decide_eq_false (by rw[beq_eq_false_iff_ne] at hd;omega)];rfl
 have hb1:=hok.needs;have hb2:=hok.bars;have hb3:=hok.files;have HC:=hid hc;have H1:=hid h1;have H2:=hid h2;have H3:=hid h3;have hm:m<=w.heap.size:=by obtain⟨_,_,_,h,_⟩:=hP;exact h
 obtain⟨na,nc,ba,bc,fa,fc,hbs,k2,k3,k4,hz⟩:=hP.lens;clear hc h1 h2 h3 hP;go_enter Tryz.func44,Tryz.ntmps44;go_wp2_with fail;refine(begins_any _ _ _).mono ?_;rintro e w1 ⟨rfl,rfl⟩;rw[show bl ⟨#[110,101,101,100,115,32]⟩=T2.needsP from rfl,H1.out];go_wp2_with fail;refine(begins_any _ _ _).mono ?_;rintro e w1 ⟨rfl,rfl⟩;rw[show bl ⟨#[98,97,114,115,32]⟩=T2.barsP from rfl,H2.out];go_wp2_with fail;refine(begins_any _ _ _).mono ?_;rintro e w1 ⟨rfl,rfl⟩;rw[show bl ⟨#[102,105,108,101,32]⟩=T2.fileP from rfl,H3.out];go_wp2;go_quiet (fail);go_wp2;go_quiet (fail);go_wp2;go_ret;exact⟨FrN.of_below (below_drawn w _) hm,.inl ⟨rfl,HC.out⟩⟩
theorem lineR_bars(m b:Nat)(p:Sp.Pk)(s:ByteArray)(w:World)(hP:RPk w m b p)(hok:PkOk p)(hs:s.size<1000000)(i:Nat)(hi:((i:Int) == 0)=false)(h1:T2.needsP.isPrefixOf (bl s)=false)(h2:T2.barsP.isPrefixOf (bl s)=true)(hd:(((p.bars.length:Int)+(p.files.length:Int)) == 0)=true):
  Calls Tryz.prog 44 #[.pointer (some ⟨b,0,none⟩),.int .i64 i,.string s] w (LineR (T2.laterR p (bl s)) m b w):=by
 have h3:=R8.bars_not h2;have hf0:p.files=[]:=List.length_eq_zero_iff.1 (by rw[beq_iff_eq] at hd;omega);have hc:T2.laterR p (bl s)=(Sp.each ((bl s).drop 5) [44,32] 3 Sp.choose).map fun n=>{ p with bars:=n }:=by
  unfold T2.laterR;rw[h1,h2,show decide (p.bars.length+p.files.length=0)=true from decide_eq_true (by rw[beq_iff_eq] at hd;omega)];rfl
 have h5:5<=s.size:=R8.pre_size h2;have hbm:b<m:=by obtain⟨_,_,_,_,h,_⟩:=hP;exact h
 have hb1:=hok.needs;have hb2:=hok.bars;have hb3:=hok.files;have HC:=hid hc;have H1:=hid h1;have H2:=hid h2;have H3:=hid h3;have hm:m<=w.heap.size:=by obtain⟨_,_,_,h,_⟩:=hP;exact h
 obtain⟨na,nc,ba,bc,fa,fc,hbs,k2,k3,k4,hz⟩:=hP.lens;have HP:=hid hP;clear hc h1 h2 h3 hP k2;go_enter Tryz.func44,Tryz.ntmps44;go_wp2_with fail;refine(begins_any _ _ _).mono ?_;rintro e w1 ⟨rfl,rfl⟩;rw[show bl ⟨#[110,101,101,100,115,32]⟩=T2.needsP from rfl,H1.out];go_wp2_with fail;refine(begins_any _ _ _).mono ?_;rintro e w1 ⟨rfl,rfl⟩;rw[show bl ⟨#[98,97,114,115,32]⟩=T2.barsP from rfl,H2.out];go_wp2_with fail;refine(begins_any _ _ _).mono ?_;rintro e w1 ⟨rfl,rfl⟩;rw[show bl ⟨#[102,105,108,101,32]⟩=T2.fileP from rfl,H3.out];go_wp2;go_quiet (fail);go_wp2;go_quiet (fail);go_wp2_with fail;refine(choices_any _ _ 3 _ (by rw[<-bl_len,bl_from,List.length_drop,bl_len];omega) (by decide) (by decide)).mono ?_;rintro e w1 ⟨hb,l,v,ok,rfl,heach,hown⟩;rw[bl_from,show bl ⟨#[44,32]⟩=[44,32] from rfl] at heach;have HE:=hid heach;clear heach;have hbw:Below w.heap.size w w1:=Below.trans (below_drawn w _) (hb.mono (by simp));have hP1:=HP.out.below hbw;have hs1:=hbw.size;have hsb:=hb.size;have hk3:=((bcell hbw).1 b 3 hbs).trans k3;have hz3:=((bcell hbw).2 b 3 hbs).trans (hz 3);have hfr:FrN m b w (w1.setCell ⟨b,3,none⟩ v):=(FrN.of_below hbw hm).trans (FrN.set _ _ _ _ _);have HP1:=hid hP1;have HO:=hid hown;clear hP1 HP k3;obtain⟨ra,rc,rfl⟩:=W3.row_slice hown
 cases ok with
 | false =>
  go_wp2;go_ret;exact⟨hfr,.inl ⟨rfl,by rw[HC.out,HE.out];rfl⟩⟩
 | true =>
  go_wp2;go_ret;have hP2:=HP1.out.setBars (v:=.slice ra l.length rc) (cs:=l) hf0 (SlOn.mono (sl_of_row (e:=135) (fun x hx=>by obtain⟨c,_,rfl⟩:=List.mem_map.1 hx;rfl) (by rw[List.length_map,chRow_flat];exact HO.out)) fun x hx=>⟨hx.1,by have:=hx.2.1;simp at this;omega⟩) (fun e0=>absurd e0 (each_ne (by simp) (HE.out.trans rfl)));exact⟨hfr,.inr ⟨_,w1.heap.size,rfl,by rw[HC.out,HE.out];rfl,by omega,hP2⟩⟩
end
end Go.Proofs.YtfphcecjhdkcoaaGreatDoor

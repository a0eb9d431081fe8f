/-
The walk of the program's Compare of two versions, whole.
-/
import Derived.Test.YtfphcecjhdkcoaaGreatDoorScrP01
import Derived.Test.YtfphcecjhdkcoaaGreatDoorScrP02
import Derived.Test.YtfphcecjhdkcoaaGreatDoorScrP04
import Derived.Test.YtfphcecjhdkcoaaGreatDoorScrP05
import Derived.Test.YtfphcecjhdkcoaaGreatDoorProg
import Derived.BigQuiet
set_option maxRecDepth 100000
set_option maxHeartbeats 8000000
namespace Go.Proofs.YtfphcecjhdkcoaaGreatDoor
open Go.Lib (hid)
section
namespace V7
open Sp (Str Dk)
open V6
structure Calm(S N:Nat)(b:Str)(d:Dk):Prop where
 dead:d.dead=false
 late:d.late=[]
 same:d.held=d.seen
 lies:Lies S d.seen N b
structure Torn(S:Nat)(Q:Nat->Str->Prop)(d:Dk):Prop where
 dead:d.dead=true
 slen:d.seen.length=S
 secs:∀ x∈d.seen,x.length=64
 lies:∀ mask,∃ N b,Q N b/\Lies S (Dk.hold d.held (Dk.some true mask 0 d.late)) N b
theorem Calm.back{S N:Nat}{b:Str}{d:Dk}(h:Calm S N b d)(mask:Int):Calm S N b (d.back mask):=by
 have e:Dk.hold d.held (Dk.some d.dead mask 0 d.late)=d.seen:=by rw[h.late,<-h.same];rfl
 refine⟨rfl,rfl,rfl,?_⟩
 show Lies S (Dk.hold d.held (Dk.some d.dead mask 0 d.late)) N b
 rw[e];exact h.lies
theorem Torn.back{S:Nat}{Q:Nat->Str->Prop}{d:Dk}(h:Torn S Q d)(mask:Int):∃ N b,Q N b/\Calm S N b (d.back mask):=by
 obtain⟨N,b,hq,hl⟩:=h.lies mask;refine⟨N,b,hq,rfl,rfl,rfl,?_⟩
 show Lies S (Dk.hold d.held (Dk.some d.dead mask 0 d.late)) N b
 rw[h.dead];exact hl
theorem Calm.cut{S N:Nat}{b:Str}{d:Dk}(h:Calm S N b d)(k:Int):Calm S N b (d.cut k):=⟨h.dead,h.late,h.same,h.lies⟩
theorem Torn.cut{S:Nat}{Q:Nat->Str->Prop}{d:Dk}(h:Torn S Q d)(k:Int):Torn S Q (d.cut k):=⟨h.dead,h.slen,h.secs,h.lies⟩
theorem Calm.fresh(S:Nat)(h:4<=S):Calm S 0 [] (Sp.fresh S):=⟨rfl,rfl,rfl,lies_fresh S h⟩
theorem hold_append(s:List Str)(l:List (Nat × Str))(w:Nat × Str):Dk.hold s (l ++ [w])=(Dk.hold s l).set w.1 w.2:=by
 unfold Dk.hold;rw[List.foldl_append];rfl
theorem some_sub(dead:Bool)(mask:Int):∀ (l:List (Nat × Str)) (i:Nat) (w:Nat × Str),w∈Dk.some dead mask i l->w∈l
 | [],_,_,h=>by cases h
 | x :: r,i,w,h=>by
  unfold Dk.some at h
  split at h
  ·rcases List.mem_cons.1 h with rfl|h
   ·exact List.mem_cons_self
   ·exact List.mem_cons_of_mem _ (some_sub dead mask r _ _ h)
  ·exact List.mem_cons_of_mem _ (some_sub dead mask r _ _ h)
def InArea(S N:Nat)(w:Nat × Str):Prop:=w.2.length=64/\∃ i,i<Sp.areaN S/\w.1=Sp.areaFrom S (N+1)+i
theorem lies_area{S N:Nat}{b:Str}{s:List Str}(h:Lies S s N b)(w:Nat × Str)(hw:InArea S N w):Lies S (s.set w.1 w.2) N b:=by
 obtain⟨h1,i,hi,h2⟩:=hw;have:=area_in S (N+1) i h.big hi;rw[h2];exact h.set _ _ h1 this.1 fun _=>area_other S N i hi
theorem lies_hold{S N:Nat}{b:Str}:∀ (l:List (Nat × Str)) {s:List Str},Lies S s N b->(∀ w∈l,InArea S N w)->Lies S (Dk.hold s l) N b
 | [],s,h,_=>h
 | w :: r,s,h,hw=>by
  show Lies S (Dk.hold (s.set w.1 w.2) r) N b
  exact lies_hold r (lies_area h w (hw w (by simp))) fun x hx=>hw x (List.mem_cons_of_mem _ hx)
structure Ph(S N:Nat)(b:Str)(d:Dk):Prop where
 slen:d.seen.length=S
 secs:∀ x∈d.seen,x.length=64
 held:Lies S d.held N b
 late:∀ w∈d.late,InArea S N w
 same:d.dead=false->Dk.hold d.held d.late=d.seen
theorem Ph.write{S N:Nat}{b:Str}{d:Dk}(h:Ph S N b d)(i:Nat)(c:Str)(hi:i<Sp.areaN S):Ph S N b (d.write (Sp.areaFrom S (N+1)+i) c)/\(d.write (Sp.areaFrom S (N+1)+i) c).seen=d.seen.set (Sp.areaFrom S (N+1)+i) (Sp.pad c):=by
 have hin:=area_in S (N+1) i h.held.big hi;unfold Dk.write;rw[if_pos (by rw[h.slen];exact hin.2)];refine⟨⟨by simp[h.slen],fun x hx=>?_,h.held,fun w hw=>?_,fun hd=>?_⟩,rfl⟩
 ·rcases List.mem_or_eq_of_mem_set hx with hx|rfl
  ·exact h.secs x hx
  ·exact pad_len c
 ·simp only at hw
  split at hw
  ·exact h.late w hw
  ·rcases List.mem_append.1 hw with hw|hw
   ·exact h.late w hw
   ·rw[List.mem_singleton] at hw;subst hw
    exact⟨pad_len c,i,hi,rfl⟩
 ·simp only at hd ⊢
  rw[Bool.or_eq_false_iff] at hd;rw[hd.1,hd.2];simp only[Bool.or_false,Bool.false_eq_true,if_false];rw[hold_append,h.same hd.1]
theorem Ph.writes{S N:Nat}{b:Str}:∀ (cs:List Str) {d:Dk} (i:Nat),Ph S N b d->i+cs.length<=Sp.areaN S ->
  Ph S N b (d.writes (Sp.areaFrom S (N+1)+i) cs)/\(∀ k c,cs[k]? = some c->(d.writes (Sp.areaFrom S (N+1)+i) cs).seen[Sp.areaFrom S (N+1)+i+k]? = some (Sp.pad c)) /\
   ∀ k,k<Sp.areaFrom S (N+1)+i->(d.writes (Sp.areaFrom S (N+1)+i) cs).seen[k]? = d.seen[k]?
 | [],d,i,h,_=>⟨h,fun k c hc=>by simp at hc,fun k _=>rfl⟩
 | c :: r,d,i,h,hl=>by
  simp only[List.length_cons] at hl;obtain⟨h1,h2⟩:=h.write i c (by omega);obtain⟨h3,h4,h5⟩:=Ph.writes r (d:=d.write (Sp.areaFrom S (N+1)+i) c) (i+1) h1 (by omega);have e:Sp.areaFrom S (N+1)+(i+1)=Sp.areaFrom S (N+1)+i+1:=by omega
  rw[e] at h3 h4 h5;have hin:=area_in S (N+1) i h.held.big (by omega);refine⟨h3,fun k x hk=>?_,fun k hk=>?_⟩
  ·cases k with
   | zero =>
    have:c=x:=by simpa using hk
    subst this
    show((d.write (Sp.areaFrom S (N+1)+i) c).writes (Sp.areaFrom S (N+1)+i+1) r).seen[Sp.areaFrom S (N+1)+i]? = _
    rw[h5 _ (by omega),h2,List.getElem?_set_self (by rw[h.slen];exact hin.2)]
   | succ k =>
    have:=h4 k x (by simpa using hk);rw[show Sp.areaFrom S (N+1)+i+1+k=Sp.areaFrom S (N+1)+i+(k+1) from by omega] at this;exact this
  ·show((d.write _ c).writes _ r).seen[k]? = _
   rw[h5 k (by omega),h2,List.getElem?_set_ne (by omega)]
theorem lies_head{S N:Nat}{b b':Str}{s:List Str}(h:Lies S s N b)(hN:N+1<18446744073709551616)(hb:b'.length<=Sp.areaN S*64)(hz:b'.length<18446744073709551616)
  (hc:∀ i c,(Sp.chunks b')[i]? = some c->s[Sp.areaFrom S (N+1)+i]? = some (Sp.pad c)):
  Lies S (s.set ((N+1) % 2) (Sp.pad (Sp.headB (N+1) b'.length (Sp.sum b')))) (N+1) b':=by
 have hS:=h.big;have hsl:=h.len;have hg:∀ i,i≠(N+1) % 2->(s.set ((N+1) % 2) (Sp.pad (Sp.headB (N+1) b'.length (Sp.sum b')))).getD i []=s.getD i []:=by
  intro i hi;rw[List.getD_eq_getElem?_getD,List.getD_eq_getElem?_getD,List.getElem?_set_ne (by omega)]
 have hsec:∀ x∈s.set ((N+1) % 2) (Sp.pad (Sp.headB (N+1) b'.length (Sp.sum b'))),x.length=64:=by
  intro y hy
  rcases List.mem_or_eq_of_mem_set hy with hy|rfl
  ·exact h.secs y hy
  ·exact pad_len _
 refine⟨by rw[List.length_set];exact hsl,hS,hsec,fun e=>by omega,fun _=>?_,hb,fun _=>?_,fun i hi hne ho=>?_⟩
 ·rw[List.getD_eq_getElem?_getD,List.getElem?_set_self (by omega),Option.getD_some]
  exact headOf_headB _ _ _ hN (by omega) hz (sum_lt _)
 ·refine area_chunks hsec (by rw[List.length_set,hsl];exact hS) (by rw[List.length_set,hsl];exact hb) fun i c hi=>?_
  rw[List.length_set,hsl,List.getElem?_set_ne (by
   have h1:=chunks_get b' i;have:i<Sp.areaN S:=by
    rw[hi] at h1
    split at h1
    ·omega
    ·cases h1
   have:=area_in S (N+1) i hS this;omega)]
  exact hc i c hi
 ·have hne':=hne (by omega)
  rw[hg i hne'] at ho ⊢
  by_cases hN0:0<N
  ·have hi2:i=N % 2:=by omega
   subst hi2;rw[h.head hN0];simp
  ·have:=h.other i hi (fun e=>absurd e hN0) ho
   omega
theorem write_dead{d:Dk}(hd:d.dead=true)(n:Nat)(c:Str):(d.write n c).dead=true/\(d.write n c).held=d.held/\(d.write n c).late=d.late/\((d.write n c).seen=d.seen\/(d.write n c).seen=d.seen.set n (Sp.pad c)):=by
 unfold Dk.write
 split
 ·refine⟨by simp[hd],rfl,by simp[hd],.inr rfl⟩
 ·exact⟨hd,rfl,rfl,.inl rfl⟩
theorem sync_dead{d:Dk}(hd:d.dead=true):d.sync.dead=true/\d.sync.held=d.held/\d.sync.late=d.late/\d.sync.seen=d.seen:=by
 unfold Dk.sync;rw[if_pos (by simp[hd])];exact⟨by simp[Dk.lost,hd],rfl,rfl,rfl⟩
theorem save_law{S N:Nat}{b b':Str}{d:Dk}(h:Calm S N b d)(hN:N+1<18446744073709551616)(hb:b'.length<=Sp.areaN S*64)(hz:b'.length<18446744073709551616):
  ((Sp.save d N b').dead=false/\Calm S (N+1) b' (Sp.save d N b'))\/Torn S (fun n x=>(n=N/\x=b)\/(n=N+1/\x=b')) (Sp.save d N b'):=by
 have hsl:d.seen.length=S:=h.lies.len;have hcl:(Sp.chunks b').length<=Sp.areaN S:=by rw[chunks_len];omega
 have p0:Ph S N b d:=⟨hsl,h.lies.secs,by rw[h.same];exact h.lies,(by rw[h.late];intro w hw;cases hw),fun _=>by rw[h.late,<-h.same];rfl⟩
 obtain⟨p1,c1,_⟩:=Ph.writes (Sp.chunks b') 0 p0 (by omega);rw[Nat.add_zero] at p1 c1;unfold Sp.save;rw[hsl];generalize he1:d.writes (Sp.areaFrom S (N+1)) (Sp.chunks b')=d1 at p1 c1;have ntorn:∀ (e:Dk),e.dead=true->e.held=d1.held->e.late=d1.late->e.seen.length=S->(∀ x∈e.seen,x.length=64)->Torn S (fun n x=>(n=N/\x=b)\/(n=N+1/\x=b')) e:=by
  intro e h1 h2 h3 h4 h5;refine⟨h1,h4,h5,fun mask=>⟨N,b,.inl ⟨rfl,rfl⟩,?_⟩⟩;rw[h2,h3];exact lies_hold _ p1.held fun w hw=>p1.late w (some_sub _ _ _ _ _ hw)
 have setlen:∀ (s:List Str) (k:Nat) (x:Str),x.length=64->s.length=S->(∀ y∈s,y.length=64)->(s.set k x).length=S/\∀ y∈s.set k x,y.length=64:=by
  intro s k x hx h1 h2;refine⟨by rw[List.length_set];exact h1,fun y hy=>?_⟩
  rcases List.mem_or_eq_of_mem_set hy with hy|rfl
  ·exact h2 y hy
  ·exact hx
 generalize hhd:Sp.headB (N+1) b'.length (Sp.sum b')=hd
 by_cases hdead:(d1.dead || decide (d1.left=0))=true
 ·
  right;have s1:d1.sync=d1.lost:=by unfold Dk.sync;rw[if_pos hdead]
  rw[s1];have l1:d1.lost.dead=true:=hdead;obtain⟨w1,w2,w3,w4⟩:=write_dead l1 ((N+1) % 2) hd;obtain⟨y1,y2,y3,y4⟩:=sync_dead w1;have hws:(d1.lost.write ((N+1) % 2) hd).seen.length=S/\∀ x∈(d1.lost.write ((N+1) % 2) hd).seen,x.length=64:=by
   rcases w4 with e|e
   ·rw[e];exact⟨p1.slen,p1.secs⟩
   ·rw[e];exact setlen _ _ _ (pad_len _) p1.slen p1.secs
  exact ntorn _ y1 (y2.trans w2) (y3.trans w3) (by rw[y4];exact hws.1) (by rw[y4];exact hws.2)
 ·have hnd:d1.dead=false/\d1.left≠0:=by
   simp only[Bool.not_eq_true,Bool.or_eq_false_iff,decide_eq_false_iff_not] at hdead;exact hdead
  have s1:d1.sync={ d1.lost with held:=Dk.hold d1.held d1.late,late:=[] }:=by unfold Dk.sync;rw[if_neg hdead]
  rw[s1,p1.same hnd.1];have hl1:Lies S d1.seen N b:=by rw[<-p1.same hnd.1];exact lies_hold _ p1.held p1.late
  have hlost:d1.lost={ d1 with dead:=false,left:=if 0<d1.left then d1.left-1 else d1.left }:=by
   unfold Dk.lost;rw[hnd.1,decide_eq_false hnd.2];rfl
  rw[hlost];generalize hleft:(if 0<d1.left then d1.left-1 else d1.left)=left2;have hlt:(N+1) % 2<d1.seen.length:=by rw[p1.slen];have:=h.lies.big;omega
  have hhead:=lies_head hl1 hN hb hz c1;rw[hhd] at hhead
  by_cases hd2:left2=0
  ·right
   unfold Dk.write;rw[if_pos hlt];simp only[Bool.false_or,decide_eq_true hd2,if_true];obtain⟨y1,y2,y3,y4⟩:=sync_dead (d:={ held:=d1.seen,seen:=d1.seen.set ((N+1) % 2) (Sp.pad hd),late:=[],left:=if 0<left2 then left2-1 else left2,dead:=true }) rfl;obtain⟨z1,z2⟩:=setlen d1.seen ((N+1) % 2) (Sp.pad hd) (pad_len _) p1.slen p1.secs;refine⟨y1,by rw[y4];exact z1,by rw[y4];exact z2,fun mask=>⟨N,b,.inl ⟨rfl,rfl⟩,?_⟩⟩;rw[y2,y3];exact hl1
  ·unfold Dk.write
   rw[if_pos hlt];simp only[Bool.false_or,decide_eq_false hd2,Bool.false_eq_true,if_false,List.nil_append];generalize hleft3:(if 0<left2 then left2-1 else left2)=left3
   by_cases hd3:left3=0
   ·right
    unfold Dk.sync Dk.lost;simp only[Bool.false_or,decide_eq_true hd3,if_true];obtain⟨z1,z2⟩:=setlen d1.seen ((N+1) % 2) (Sp.pad hd) (pad_len _) p1.slen p1.secs;refine⟨rfl,z1,z2,fun mask=>?_⟩;simp only[Dk.some]
    split
    ·exact⟨N+1,b',.inr ⟨rfl,rfl⟩,hhead⟩
    ·exact⟨N,b,.inl ⟨rfl,rfl⟩,hl1⟩
   ·left
    unfold Dk.sync Dk.lost;simp only[Bool.false_or,decide_eq_false hd3,Bool.false_eq_true,if_false];exact⟨trivial,rfl,rfl,rfl,hhead⟩
end V7
end
section
namespace Sp
def joined(l:List Pk):Str:=Lib.join (texts l) [10,10]
def packOf(t:Str):Option Pk:=match parse t with
 | .inr p=>some p
 | .inl _=>none
def loaded(b:Str):List Pk:=(Lib.split b [10,10]).filterMap packOf
def room(S:Nat):Nat:=24*(S-8)
structure Set(l:List Pk):Prop where
 good:∀ p∈l,V3.Good p
 apart:l.Pairwise fun p q=>p.name≠q.name
end Sp
namespace V8
open Sp (Str Pk)
theorem names_nodup{l:List Pk}(h:Sp.Set l):(Sp.names l).Nodup:=by
 unfold Sp.names;exact List.pairwise_map.2 h.apart
theorem Set.perm{l r:List Pk}(h:Sp.Set l)(hp:l.Perm r):Sp.Set r:=
 ⟨fun p hp'=>h.good p (hp.mem_iff.2 hp'),(hp.pairwise_iff (fun hab=>fun e=>hab e.symm)).1 h.apart⟩
theorem Set.filter{l:List Pk}(h:Sp.Set l)(P:Pk->Bool):Sp.Set (l.filter P):=
 ⟨fun p hp=>h.good p (List.mem_filter.1 hp).1,h.apart.sublist List.filter_sublist⟩
theorem find_self{l:List Pk}(h:Sp.Set l){p:Pk}(hp:p∈l):Sp.find? l p.name=some p:=by
 unfold Sp.find?;have ha:=h.apart;clear h
 induction l with
 | nil=>cases hp
 | cons q r ih =>
  obtain⟨h1,h2⟩:=List.pairwise_cons.1 ha
  rcases List.mem_cons.1 hp with rfl|hp
  ·rw[List.find?_cons_of_pos (by simp)]
  ·rw[List.find?_cons_of_neg (by simpa using h1 p hp)]
   exact ih hp h2
theorem find_mem{l:List Pk}{n:Str}{p:Pk}(h:Sp.find? l n=some p):p∈l/\p.name=n:=by
 unfold Sp.find? at h;exact⟨List.mem_of_find?_eq_some h,by simpa using List.find?_some h⟩
theorem find_none{l:List Pk}{n:Str}(h:Sp.find? l n=none):n ∉ Sp.names l:=by
 intro hm;obtain⟨p,hp,rfl⟩:=List.mem_map.1 hm;unfold Sp.find? at h;rw[List.find?_eq_none] at h;have:=h p hp;simp at this
theorem sorted_perm(l:List Str):(Sp.sorted l).Perm l:=List.mergeSort_perm _ _
theorem sorted_ord(l:List Str):(Sp.sorted l).Pairwise (·<=·):=by
 refine(List.pairwise_mergeSort (le:=fun x y=>decide (x<=y)) (fun a b c h1 h2=>?_) (fun a b=>?_) l).imp fun h=>of_decide_eq_true h
 ·simp only[decide_eq_true_eq] at h1 h2 ⊢;exact List.le_trans h1 h2
 ·simp only[Bool.or_eq_true,decide_eq_true_eq];exact List.le_total a b
theorem sorted_eq{l r:List Str}(h:l.Perm r):Sp.sorted l=Sp.sorted r:=by
 refine List.Perm.eq_of_pairwise (le:=(·<=·)) (fun a b _ _ h1 h2=>List.le_antisymm h1 h2) (sorted_ord l) (sorted_ord r) ?_;exact(sorted_perm l).trans (h.trans (sorted_perm r).symm)
def byName(l:List Pk):List Pk:=(Sp.sorted (Sp.names l)).filterMap fun n=>Sp.find? l n
theorem texts_byName(l:List Pk):Sp.texts l=(byName l).map Sp.print:=by
 unfold Sp.texts byName;rw[List.map_filterMap]
theorem filterMap_find{l:List Pk}:∀ (ns:List Str),(∀ n∈ns,n∈Sp.names l)->(ns.filterMap fun n=>Sp.find? l n).map (·.name)=ns
 | [],_=>rfl
 | n :: r,h=>by
  have hn:=h n (by simp)
  cases hf:Sp.find? l n with
  | none=>exact absurd hn (find_none hf)
  | some p =>
   rw[List.filterMap_cons_some hf,List.map_cons,(find_mem hf).2,filterMap_find r fun m hm=>h m (List.mem_cons_of_mem _ hm)]
theorem byName_names(l:List Pk):(byName l).map (·.name)=Sp.sorted (Sp.names l):=
 filterMap_find _ fun _ hn=>(sorted_perm _).mem_iff.1 hn
theorem byName_mem{l:List Pk}(h:Sp.Set l)(p:Pk):p∈byName l↔p∈l:=by
 unfold byName;rw[List.mem_filterMap];constructor
 ·rintro ⟨n,_,hf⟩;exact(find_mem hf).1
 ·intro hp
  exact⟨p.name,(sorted_perm _).mem_iff.2 (List.mem_map.2 ⟨p,hp,rfl⟩),find_self h hp⟩
theorem byName_nodup{l:List Pk}(h:Sp.Set l):(byName l).Nodup:=by
 have:((byName l).map (·.name)).Nodup:=by
  rw[byName_names];exact(sorted_perm _).nodup_iff.2 (names_nodup h)
 exact List.Pairwise.imp (fun hab=>fun e=>hab (by rw[e])) (List.pairwise_map.1 this)
theorem nodup_of{l:List Pk}(h:Sp.Set l):l.Nodup:=h.apart.imp fun hab=>fun e=>hab (by rw[e])
theorem byName_perm{l:List Pk}(h:Sp.Set l):(byName l).Perm l:=by
 refine(List.perm_ext_iff_of_nodup (byName_nodup h) (nodup_of h)).2 (byName_mem h)
theorem byName_eq{l r:List Pk}(h:Sp.Set l)(hp:l.Perm r):byName l=byName r:=by
 unfold byName;have hnn:(Sp.names l).Perm (Sp.names r):=hp.map _;rw[sorted_eq hnn]
 congr 1;funext n
 cases hf:Sp.find? l n with
 | none =>
  cases hg:Sp.find? r n with
  | none=>rfl
  | some p =>
   obtain⟨h1,h2⟩:=find_mem hg;exact absurd (List.mem_map.2 ⟨p,hp.mem_iff.2 h1,h2⟩) (find_none hf)
 | some p =>
  obtain⟨h1,h2⟩:=find_mem hf;rw[<-h2,find_self (Set.perm h hp) (hp.mem_iff.1 h1)]
theorem texts_eq{l r:List Pk}(h:Sp.Set l)(hp:l.Perm r):Sp.texts l=Sp.texts r:=by rw[texts_byName,texts_byName,byName_eq h hp]
theorem joined_eq{l r:List Pk}(h:Sp.Set l)(hp:l.Perm r):Sp.joined l=Sp.joined r:=by unfold Sp.joined;rw[texts_eq h hp]
theorem packOf_print{p:Pk}(h:V3.Good p):Sp.packOf (Sp.print p)=some p:=by
 unfold Sp.packOf;rw[V3.parse_print h]
theorem packOf_nil:Sp.packOf []=none:=by
 unfold Sp.packOf
 cases h:Sp.parse [] with
 | inl n=>rfl
 | inr p =>
  have:=(V3.parse_good h).2;exact absurd (List.length_eq_zero_iff.1 (Nat.le_zero.1 this)) (V3.print_ne p)
theorem loaded_nil:Sp.loaded []=[]:=by
 unfold Sp.loaded;rw[Sp.split_end [] [10,10] (by simp) 0 (by simp) (fun j h=>absurd h (Nat.not_lt_zero _))];rw[List.filterMap_cons_none packOf_nil];rfl
theorem loaded_joined{l:List Pk}(h:Sp.Set l):Sp.loaded (Sp.joined l)=byName l:=by
 unfold Sp.joined
 by_cases hl:byName l=[]
 ·rw[texts_byName,hl];exact loaded_nil
 ·rw[texts_byName]
  unfold Sp.loaded;rw[V3.split_tame _ (by simpa using hl) (fun x hx=>by
   obtain⟨p,hp,rfl⟩:=List.mem_map.1 hx;exact V3.tame_print (h.good p ((byName_mem h p).1 hp)).wf)]
  have key:∀ ps:List Pk,(∀ p∈ps,V3.Good p)->(ps.map Sp.print).filterMap Sp.packOf=ps:=by
   intro ps
   induction ps with
   | nil=>intro _;rfl
   | cons p r ih =>
    intro hg;rw[List.map_cons,List.filterMap_cons_some (packOf_print (hg p (by simp))),ih fun q hq=>hg q (List.mem_cons_of_mem _ hq)]
  exact key _ fun p hp=>h.good p ((byName_mem h p).1 hp)
theorem print_min{p:Pk}(h:V2.WfP p):11<=(Sp.print p).length:=by
 obtain⟨r,hr,hv⟩:=V3.print_head p;have hn:0<p.name.length:=List.length_pos_iff.2 (V1.name_ne h.name);have hvl:0<p.ver.length:=by
  have:=h.ver
  cases hv:p.ver with
  | nil=>rw[hv] at this;cases this
  | cons a b=>simp
 have:=hv.length_le;rw[hr];simp;omega
theorem size_perm{l r:List Pk}(h:l.Perm r):Sp.size l=Sp.size r:=by unfold Sp.size;exact(h.map _).sum_nat
theorem size_count{l:List Pk}(h:∀ p∈l,V3.Good p):11*l.length<=Sp.size l:=by
 unfold Sp.size
 induction l with
 | nil=>simp
 | cons p r ih =>
  have:=print_min (h p (by simp)).wf;have:=ih fun q hq=>h q (List.mem_cons_of_mem _ hq)
  simp only[List.map_cons,List.sum_cons,List.length_cons];omega
theorem joined_len{l:List Pk}(h:Sp.Set l):(Sp.joined l).length<=Sp.size l+2*l.length:=by
 unfold Sp.joined;have e:Lib.lens (Sp.texts l)=Sp.size l:=by
  rw[texts_byName,<-size_perm (byName_perm h)];unfold Lib.lens Sp.size;rw[List.map_map];rfl
 have hl:(Sp.texts l).length=l.length:=by rw[texts_byName,List.length_map,(byName_perm h).length_eq]
 cases ht:Sp.texts l with
 | nil=>simp[Lib.join_nil]
 | cons x r =>
  rw[Lib.join_length,<-ht,e];rw[ht] at hl;simp at hl ⊢;omega
theorem joined_fits{l:List Pk}(h:Sp.Set l){S:Nat}(hS:16<=S)(hr:Sp.size l<=Sp.room S):(Sp.joined l).length<=Sp.areaN S*64:=by
 have h1:=joined_len h;have h2:=size_count h.good;unfold Sp.room at hr;unfold Sp.areaN;omega
theorem size_len{l:List Pk}(h:∀ p∈l,V3.Good p):Sp.size l<=300*l.length:=by
 unfold Sp.size
 induction l with
 | nil=>simp
 | cons p r ih =>
  have:=(h p (by simp)).len;have:=ih fun q hq=>h q (List.mem_cons_of_mem _ hq)
  simp only[List.map_cons,List.sum_cons,List.length_cons];omega
end V8
end
section
open Go.RowKit Go.Maps Go.Sort Go.Shelf
theorem keys_perm{w:World}{b n:Nat}{D:DataW Value}{kv:KV}(hown:w.ownsMap Tryz.prog 9 Rv b n D)(h:Shows D kv):(strKeys D).Perm (kv.map (·.1)):=by
 obtain⟨es,hD,hpw,hkl⟩:=hown.entries keyed9;obtain⟨es',hD',hko⟩:=hown.keysOf;obtain rfl:es=es':=by rw[hD] at hD';simpa using hD'
 subst hD;have hstr:∀ p∈es,p.1=.string (strOf p.1):=by
  intro p hp;obtain⟨v,hv⟩:=hko p hp;obtain⟨s,_,hs,_⟩:=Maps.keyOf_str Tryz.underlying9 hv;rw[hs];rfl
 have hnd:(es.map fun p=>strOf p.1).Nodup:=by
  refine List.pairwise_map.2 ?_;refine hpw.imp_of_mem fun {p q} hp hq hne e=>hne ?_
  rw[hstr p hp,hstr q hq,e]
 refine(List.perm_ext_iff_of_nodup hnd (List.pairwise_map.2 h.apart)).2 fun x=>?_
 have h1:x∈es.map (fun p=>strOf p.1)↔Maps.has (.map es:DataW Value) (.string x)=true:=by
  rw[has_eq,List.any_eq_true,List.mem_map];constructor
  ·rintro ⟨p,hp,rfl⟩
   exact⟨p,hp,by rw[<-hstr p hp];exact WideAt.sameKey_self (hkl p hp)⟩
  ·rintro ⟨p,hp,e⟩
   refine⟨p,hp,?_⟩;have:=WideAt.sameKey_eq e;rw[this];rfl
 rw[h1,h.has_,List.mem_map];exact⟨fun ⟨q,hq,e⟩=>⟨q,hq,by injection e with e;exact e.symm⟩,fun ⟨q,hq,e⟩=>⟨q,hq,by rw[e]⟩⟩
theorem keysP_any(mb:Option Nat)(w:World):Calls Tryz.prog 130 #[.map mb] w fun e w'=>e=.returned (.func (.func 179) #[] #[.pointer (some ⟨w.heap.size,0,none⟩)])/\w'=w.alloc (.cells #[.map mb] 140):=
 (callsIn_wide (n:=5)).1 (AnyZ.keys_in Tryz.keysP Fence.wide 5 trivial rfl mb w)
theorem keysQ_any(mb:Option Nat)(w:World):Calls Tryz.prog 173 #[.map mb] w fun e w'=>e=.returned (.func (.func 218) #[] #[.pointer (some ⟨w.heap.size,0,none⟩)])/\w'=w.alloc (.cells #[.map mb] 274):=
 (callsIn_wide (n:=5)).1 (AnyZ.keys_in Tryz.keysQ Fence.wide 5 trivial rfl mb w)
theorem sortedP_any(b:Nat)(kv:KV)(w:World)(h:MapAt w b kv)(hmax:kv.length<1000000000):
  Calls Tryz.prog 129 #[.func (.func 179) #[] #[.pointer (some ⟨w.heap.size,0,none⟩)]] (w.alloc (.cells #[.map (some b)] 140)) fun e w'=>∃ v,e=.returned v /\
   w'.ownsRow (w.alloc (.cells #[.map (some b)] 140)).heap.size 9 1 v kv.length ((Sp.sorted (kv.map (·.1))).map sv)/\Below w.heap.size w w':=by
 refine(callsIn_wide (n:=5)).1 ?_;obtain⟨D0,hown,hsh⟩:=h;have hkp:=keys_perm hown hsh;have hbl:=hown.lt;have hsz:=hsh.size_;have hseq:SeqGives Fence.wide 2 Tryz.prog 179 #[.pointer (some ⟨w.heap.size,0,none⟩)] encStr (fun ss=>ss.Perm (strKeys D0)) (Maps.size D0) (w.alloc (.cells #[.map (some b)] 140)):=
  AnyZ.keys_gives (ρ:=Tryz.keysP_ren) { Tryz.keysP with } Fence.wide _ trivial rfl (by omega) w.heap.size b kv.length D0 _ (by simp) (by simp) (by
   obtain⟨es,clock,hb,Ft,hs,hD⟩:=hown;exact⟨es,clock,(Below.heap_alloc _ _ b hbl).trans hb,Ft,hs,hD⟩)
 have cS:=AnyZ.sorted_in Tryz.sortedI Fence.wide 5 trivial trivial trivial trivial rfl (by omega) (sorts_any _) (enters_of Tryz.func178 (by kernel_rfl) rfl) 179 #[.pointer (some ⟨w.heap.size,0,none⟩)] trivial (enters_of Tryz.func179 (by kernel_rfl) rfl) _ _ (by unfold maxLen;omega) (by omega) _ hseq;change CallsIn _ _ Tryz.prog 129 _ _ _ at cS;refine cS.mono ?_;rintro e w' ⟨v,ss,rfl,hS,hrow,hnil,hb⟩;have hp:=hS.trans hkp;refine⟨v,rfl,?_,((Below.refl _ w).alloc (Nat.le_refl _) _).trans (hb.mono (by simp))⟩;have e1:ss.mergeSort (fun x y=>decide (x<=y))=Sp.sorted (kv.map (·.1)):=V8.sorted_eq hp;rw[<-e1,<-show ss.length=kv.length from by rw[hp.length_eq,List.length_map]];exact hrow
theorem sortedQ_any(b:Nat)(kv:KV)(w:World)(h:MapAt w b kv)(hmax:kv.length<1000000000):
  Calls Tryz.prog 129 #[.func (.func 218) #[] #[.pointer (some ⟨w.heap.size,0,none⟩)]] (w.alloc (.cells #[.map (some b)] 274)) fun e w'=>∃ v,e=.returned v /\
   w'.ownsRow (w.alloc (.cells #[.map (some b)] 274)).heap.size 9 1 v kv.length ((Sp.sorted (kv.map (·.1))).map sv)/\Below w.heap.size w w':=by
 refine(callsIn_wide (n:=5)).1 ?_;obtain⟨D0,hown,hsh⟩:=h;have hkp:=keys_perm hown hsh;have hbl:=hown.lt;have hsz:=hsh.size_;have hseq:SeqGives Fence.wide 2 Tryz.prog 218 #[.pointer (some ⟨w.heap.size,0,none⟩)] encStr (fun ss=>ss.Perm (strKeys D0)) (Maps.size D0) (w.alloc (.cells #[.map (some b)] 274)):=
  AnyZ.keys_gives (ρ:=Tryz.keysQ_ren) { Tryz.keysQ with } Fence.wide _ trivial rfl (by omega) w.heap.size b kv.length D0 _ (by simp) (by simp) (by
   obtain⟨es,clock,hb,Ft,hs,hD⟩:=hown;exact⟨es,clock,(Below.heap_alloc _ _ b hbl).trans hb,Ft,hs,hD⟩)
 have cS:=AnyZ.sorted_in Tryz.sortedI Fence.wide 5 trivial trivial trivial trivial rfl (by omega) (sorts_any _) (enters_of Tryz.func178 (by kernel_rfl) rfl) 218 #[.pointer (some ⟨w.heap.size,0,none⟩)] trivial (enters_of Tryz.func218 (by kernel_rfl) rfl) _ _ (by unfold maxLen;omega) (by omega) _ hseq;change CallsIn _ _ Tryz.prog 129 _ _ _ at cS;refine cS.mono ?_;rintro e w' ⟨v,ss,rfl,hS,hrow,hnil,hb⟩;have hp:=hS.trans hkp;refine⟨v,rfl,?_,((Below.refl _ w).alloc (Nat.le_refl _) _).trans (hb.mono (by simp))⟩;have e1:ss.mergeSort (fun x y=>decide (x<=y))=Sp.sorted (kv.map (·.1)):=V8.sorted_eq hp;rw[<-e1,<-show ss.length=kv.length from by rw[hp.length_eq,List.length_map]];exact hrow
theorem names_map(b:Nat)(kv:KV)(w:World)(h:MapAt w b kv)(hmax:kv.length<1000000000):
  Calls Tryz.prog 77 #[.map (some b)] w fun e w'=>∃ v,e=.returned v/\w'.ownsRow (w.heap.size+1) 9 1 v kv.length ((Sp.sorted (kv.map (·.1))).map sv)/\Below w.heap.size w w':=by
 go_enter Tryz.func77,Tryz.ntmps77;go_wp2_with fail;refine(keysP_any _ _).mono ?_;rintro e w1 ⟨rfl,rfl⟩;go_wp2_with fail;refine(sortedP_any _ _ _ h hmax).mono ?_;rintro e w2 ⟨v,rfl,hrow,hb⟩;go_wp2;go_ret;exact⟨_,rfl,by simpa using hrow,hb⟩
def kvOf(L:List (Nat × Sp.Pk)):KV:=L.map fun q=>(q.2.name,.pointer (some ⟨q.1,0,none⟩))
theorem SetOn.map{S:Nat->Prop}{w:World}{mb:Nat}{L:List (Nat × Sp.Pk)}(h:SetOn S w mb L):MapAt w mb (kvOf L):=by
 obtain⟨⟨D,h1,h2,h3,h4⟩,hap,hpk⟩:=h;refine⟨D,by unfold kvOf;rw[List.length_map];exact h1,h1.tidy keyed9,fun q hq z=>?_,fun k=>?_,by unfold kvOf;rw[List.length_map];exact h2,List.pairwise_map.2 hap,fun q hq=>?_⟩
 ·obtain⟨r,hr,rfl⟩:=List.mem_map.1 hq
  exact h3 r hr z
 ·constructor
  ·intro hk
   obtain⟨q,hq,rfl⟩:=h4 k hk;exact⟨_,List.mem_map.2 ⟨q,hq,rfl⟩,rfl⟩
  ·rintro ⟨q,hq,rfl⟩
   obtain⟨r,hr,rfl⟩:=List.mem_map.1 hq;exact has_true_of_atKey (h3 r hr)
 ·obtain⟨r,hr,rfl⟩:=List.mem_map.1 hq
  have:=(hpk r hr).2.name
  show r.2.name.length<=_
  unfold maxLen;omega
theorem SetOn.of_map{S:Nat->Prop}{w:World}{mb:Nat}{L:List (Nat × Sp.Pk)}(h:MapAt w mb (kvOf L))(hp:∀ q∈L,IsPack S w q.1 q.2/\PkOk q.2):SetOn S w mb L:=by
 obtain⟨D,h1,h2⟩:=h;unfold kvOf at h1 h2;rw[List.length_map] at h1;refine⟨⟨D,h1,by have:=h2.size_;rwa [List.length_map] at this,fun q hq z=>h2.at_ _ (List.mem_map.2 ⟨q,hq,rfl⟩) z,fun k hk=>?_⟩,by have:=h2.apart;rw[List.pairwise_map] at this;exact this,hp⟩;obtain⟨r,hr,rfl⟩:=(h2.has_ k).1 hk;obtain⟨q,hq,rfl⟩:=List.mem_map.1 hr;exact⟨q,hq,rfl⟩
theorem SetOn.mono{S S':Nat->Prop}{w:World}{mb:Nat}{L:List (Nat × Sp.Pk)}(h:SetOn S w mb L)(hs:∀ x,S x->S' x):SetOn S' w mb L:=
 ⟨h.1,h.2.1,fun q hq=>⟨(h.2.2 q hq).1.mono hs,(h.2.2 q hq).2⟩⟩
theorem SetOn.keep{S:Nat->Prop}{w w':World}{mb:Nat}{L:List (Nat × Sp.Pk)}(h:SetOn S w mb L)(hm:w'.heap[mb]? = w.heap[mb]?)(hs:∀ x,S x->w'.heap[x]? = w.heap[x]?):SetOn S w' mb L:=
 SetOn.of_map (h.map.block hm) fun q hq=>⟨(h.2.2 q hq).1.keep hs,(h.2.2 q hq).2⟩
theorem SetOn.perm{S:Nat->Prop}{w:World}{mb:Nat}{L L':List (Nat × Sp.Pk)}(h:SetOn S w mb L)(hp:L.Perm L'):SetOn S w mb L':=
 SetOn.of_map (h.map.perm (hp.map _)) fun q hq=>h.2.2 q (hp.mem_iff.2 hq)
theorem SetOn.below{w w':World}{mb:Nat}{L:List (Nat × Sp.Pk)}(h:SetOn (fun x=>x<w.heap.size) w mb L)(hb:Below w.heap.size w w'):SetOn (fun x=>x<w'.heap.size) w' mb L:=
 (h.keep (hb.block _ h.map.lt) fun x hx=>hb.block x hx).mono fun _ hx=>Nat.lt_of_lt_of_le hx hb.size
theorem kvOf_names(L:List (Nat × Sp.Pk)):(kvOf L).map (·.1)=Sp.names (L.map (·.2)):=by unfold kvOf Sp.names;rw[List.map_map,List.map_map];rfl
theorem names_any(mb:Nat)(L:List (Nat × Sp.Pk))(w:World)(h:SetOn (fun b=>b<w.heap.size) w mb L)(hmax:L.length<1000000000):
  Calls Tryz.prog 77 #[.map (some mb)] w fun e w'=>∃ v,e=.returned v/\StrsAt w' v (Sp.sorted (Sp.names (L.map (·.2))))/\Below w.heap.size w w':=by
 refine(names_map mb (kvOf L) w h.map (by unfold kvOf;rw[List.length_map];exact hmax)).mono ?_;rintro e w' ⟨v,rfl,hrow,hb⟩;rw[kvOf_names] at hrow;refine⟨v,rfl,?_,hb⟩;have hl:(kvOf L).length=(Sp.sorted (Sp.names (L.map (·.2)))).length:=by
  rw[(V8.sorted_perm _).length_eq];unfold kvOf Sp.names;simp
 rw[hl] at hrow;exact StrsAt.of_row hrow
end
section
open Go.RowKit
namespace R1
def has(l:Sp.Str)(c:UInt8):Bool:=l.contains c
theorem has_of{x t:ByteArray}{c:UInt8}{k:Nat}(hx:bl x=[c])(h:k<t.size)(hc:((t.extract k (k+1)).toList == x.toList)=true):has (bl t) c=true:=by
 rw[eqs_bl,hx,bl_one t k h] at hc;have:t[k]=c:=by simpa using hc
 unfold has;rw[List.contains_iff_mem,<-this];exact List.getElem_mem (l:=bl t) (by rw[bl_len];exact h)
theorem has_snoc{x t:ByteArray}{c:UInt8}{k:Nat}(hx:bl x=[c])(h:k<t.size)(hc:((t.extract k (k+1)).toList == x.toList)=false)(hn:has ((bl t).take k) c=false):has ((bl t).take (k+1)) c=false:=by
 rw[eqs_bl,hx,bl_one t k h] at hc;have:t[k]≠c:=by simpa using hc
 unfold has at *;rw[take_snoc t k h,List.contains_eq_any_beq,List.any_append,<-List.contains_eq_any_beq,hn];simp;exact fun e=>this e.symm
end R1
theorem in_any(x t:ByteArray)(c:UInt8)(w:World)(hx:bl x=[c])(ht:t.size<=4611686018427387904):
  Calls Tryz.prog 118 #[.string x,.string t] w fun e w'=>e=.returned (.bool (R1.has (bl t) c))/\w=w':=by
 have hx1:x.size=1:=by rw[<-bl_len,hx];rfl
 have HX:=hid hx;clear hx;go_enter Tryz.func118,Tryz.ntmps118;go_wp2
 go_loop [5] (fun i=>∃ k:Nat,k<=t.size/\R1.has ((bl t).take k) c=false/\i=.int .i64 k) (fun i=>t.size+1-(intOf i).toNat)
 case atStart=>exact⟨0,Nat.zero_le _,rfl,rfl⟩
 case round =>
  obtain⟨k,hk,hn,rfl⟩:=hrel;have HN:=hid hn;clear hn
  by_cases h:k<t.size
  ·go_wp2
   ·have hc:((t.extract k (k+1)).toList == x.toList)=true:=by assumption
    go_ret;exact⟨ret_bool (R1.has_of HX.out h hc).symm,rfl⟩
   ·have hc:((t.extract k (k+1)).toList == x.toList)=false:=by assumption
    go_round
    case rel=>exact⟨k+1,by omega,R1.has_snoc HX.out h hc HN.out,by go_num⟩
    case measure=>simp[intOf];omega
  ·go_wp2
   go_ret;have:(bl t).take k=bl t:=List.take_of_length_le (by rw[bl_len];omega);rw[this] at HN;exact⟨ret_bool HN.out.symm,rfl⟩
namespace R1
theorem all_snoc{s:ByteArray}{f:UInt8->Bool}{k:Nat}(h:k<s.size)(ha:((bl s).take k).all f=true)(hk:f s[k]=true):((bl s).take (k+1)).all f=true:=by
 rw[take_snoc s k h,List.all_append,ha];simp[hk]
theorem made_stop{s:ByteArray}{t:Sp.Str}{a b k:Nat}(h:k<s.size)(hk:has t s[k]=false):Sp.among (bl s) t a b=false:=by
 unfold Sp.among;have:(bl s).all (fun c=>t.contains c)=false:=by
  rw[Bool.eq_false_iff];intro ha;rw[List.all_eq_true] at ha;have:=ha s[k] (List.getElem_mem (l:=bl s) (by rw[bl_len];exact h));unfold has at hk;rw[this] at hk;cases hk
 rw[this];rfl
theorem made_all{s:ByteArray}{t:Sp.Str}{a b k:Nat}(h:¬k<s.size)(ha:((bl s).take k).all (fun c=>has t c)=true):Sp.among (bl s) t a b=(decide (a<=s.size) && decide (s.size<=b)):=by
 have:(bl s).take k=bl s:=List.take_of_length_le (by rw[bl_len];omega);rw[this] at ha;unfold Sp.among;unfold has at ha;rw[ha,bl_len,Bool.true_and]
end R1
theorem made_any(s t:ByteArray)(least most:Nat)(w:World)(hs:s.size<=4611686018427387904)(ht:t.size<=4611686018427387904)(_hl:least<=4611686018427387904)(_hm:most<=4611686018427387904):
  Calls Tryz.prog 117 #[.string s,.string t,.int .i64 least,.int .i64 most] w fun e w'=>e=.returned (.bool (Sp.among (bl s) (bl t) least most))/\w=w':=by
 go_enter Tryz.func117,Tryz.ntmps117;go_wp2
 go_loop [9,10] (fun i _=>∃ k:Nat,k<=s.size/\((bl s).take k).all (fun c=>R1.has (bl t) c)=true/\i=.int .i64 k) (fun i _=>s.size+1-(intOf i).toNat)
 case atStart=>exact⟨0,Nat.zero_le _,rfl,rfl⟩
 case round =>
  obtain⟨k,hk,hn,rfl⟩:=hrel;have HN:=hid hn;clear hn
  by_cases h:k<s.size
  ·cases hh:R1.has (bl t) s[k] with
   | true =>
    have HH:=hid hh;clear hh;go_wp2_with fail;refine(in_any _ _ s[k] _ (bl_one s k h) ht).mono ?_;rintro e w' ⟨rfl,rfl⟩;rw[HH.out];go_wp2;go_round
    case rel=>exact⟨k+1,by omega,R1.all_snoc h HN.out HH.out,by go_num⟩
    case measure=>simp[intOf];omega
   | false =>
    have HH:=hid hh;clear hh;go_wp2_with fail;refine(in_any _ _ s[k] _ (bl_one s k h) ht).mono ?_;rintro e w' ⟨rfl,rfl⟩;rw[HH.out];go_wp2;go_ret;exact⟨ret_bool (R1.made_stop h HH.out).symm,rfl⟩
  ·by_cases h1:least<=s.size
   ·go_wp2
    go_ret;exact⟨ret_bool (by rw[R1.made_all h HN.out];simp[h1]),rfl⟩
   ·go_wp2
    go_ret;exact⟨ret_bool (by rw[R1.made_all h HN.out];simp[h1]),rfl⟩
namespace R1
theorem head_size{s:ByteArray}{t:Sp.Str}{m:Nat}(h:Sp.among (bl s) t 1 m=true):0<s.size:=by
 unfold Sp.among at h;simp at h;have:=h.1.2;rw[bl_len] at this;omega
theorem head_ex{s:ByteArray}(h:0<s.size):∃ c r,bl s=c :: r/\bl (s.extract 0 1)=[c]:=by
 have h1:=bl_one s 0 h
 cases hs:bl s with
 | nil=>rw[<-bl_len,hs] at h;simp at h
 | cons c r=>exact⟨c,r,rfl,by rw[bl_to,hs];rfl⟩
theorem dig_has(c:UInt8):has [48,49,50,51,52,53,54,55,56,57] c=Sp.isDig c:=by
 unfold has Sp.isDig;rw[Bool.eq_iff_iff];simp only[List.contains_iff_mem,List.mem_cons,List.not_mem_nil,or_false,Bool.and_eq_true,decide_eq_true_eq];constructor
 ·rintro (rfl|rfl|rfl|rfl|rfl|rfl|rfl|rfl|rfl|rfl) <;> decide
 ·rintro ⟨h1,h2⟩
  have:c.toNat=48\/c.toNat=49\/c.toNat=50\/c.toNat=51\/c.toNat=52\/c.toNat=53\/c.toNat=54\/c.toNat=55\/c.toNat=56\/c.toNat=57:=by omega
  simp only[<-UInt8.toNat_inj];exact this
end R1
theorem isName_any(s:ByteArray)(w:World)(hs:s.size<=4611686018427387904):
  Calls Tryz.prog 67 #[.string s] w fun e w'=>e=.returned (.bool (Sp.isName (bl s)))/\w=w':=by
 cases ha:Sp.among (bl s) Sp.nameS 1 12 with
 | false =>
  have HA:=hid ha;clear ha;go_enter Tryz.func67,Tryz.ntmps67;go_wp2_with fail;refine(made_any s _ 1 12 w hs (by decide) (by decide) (by decide)).mono ?_;rintro e w1 ⟨rfl,rfl⟩;rw[show bl ⟨#[97,98,99,100,101,102,103,104,105,106,107,108,109,110,111,112,113,114,115,116,117,118,119,120,121,122,48,49,50,51,52,53,54,55,56,57,45]⟩=Sp.nameS from rfl,HA.out];go_wp2;go_ret;exact⟨ret_bool (by unfold Sp.isName;rw[HA.out];rfl),rfl⟩
 | true =>
  have hsz:=R1.head_size ha;obtain⟨c,r,hcr,hone⟩:=R1.head_ex hsz;have HA:=hid ha;have HC:=hid hcr;have HO:=hid hone;clear ha hcr hone;go_enter Tryz.func67,Tryz.ntmps67;go_wp2_with fail;refine(made_any s _ 1 12 w hs (by decide) (by decide) (by decide)).mono ?_;rintro e w1 ⟨rfl,rfl⟩;rw[show bl ⟨#[97,98,99,100,101,102,103,104,105,106,107,108,109,110,111,112,113,114,115,116,117,118,119,120,121,122,48,49,50,51,52,53,54,55,56,57,45]⟩=Sp.nameS from rfl,HA.out];go_wp2_with fail;refine(in_any _ _ c _ HO.out (by decide)).mono ?_;rintro e w1 ⟨rfl,rfl⟩;go_wp2;go_ret;exact⟨ret_bool (by unfold Sp.isName;rw[HA.out,HC.out];rfl),rfl⟩
theorem isVer_any(s:ByteArray)(w:World)(hs:s.size<=4611686018427387904):
  Calls Tryz.prog 68 #[.string s] w fun e w'=>e=.returned (.bool (Sp.isVer (bl s)))/\w=w':=by
 cases ha:Sp.among (bl s) Sp.verS 1 16 with
 | false =>
  have HA:=hid ha;clear ha;go_enter Tryz.func68,Tryz.ntmps68;go_wp2_with fail;refine(made_any s _ 1 16 w hs (by decide) (by decide) (by decide)).mono ?_;rintro e w1 ⟨rfl,rfl⟩;rw[show bl ⟨#[97,98,99,100,101,102,103,104,105,106,107,108,109,110,111,112,113,114,115,116,117,118,119,120,121,122,65,66,67,68,69,70,71,72,73,74,75,76,77,78,79,80,81,82,83,84,85,86,87,88,89,90,48,49,50,51,52,53,54,55,56,57,46,43,45,126]⟩=Sp.verS from rfl,HA.out];go_wp2;go_ret;exact⟨ret_bool (by unfold Sp.isVer;rw[HA.out];rfl),rfl⟩
 | true =>
  have hsz:=R1.head_size ha;obtain⟨c,r,hcr,hone⟩:=R1.head_ex hsz;have HA:=hid ha;have HC:=hid hcr;have HO:=hid hone;clear ha hcr hone;go_enter Tryz.func68,Tryz.ntmps68;go_wp2_with fail;refine(made_any s _ 1 16 w hs (by decide) (by decide) (by decide)).mono ?_;rintro e w1 ⟨rfl,rfl⟩;rw[show bl ⟨#[97,98,99,100,101,102,103,104,105,106,107,108,109,110,111,112,113,114,115,116,117,118,119,120,121,122,65,66,67,68,69,70,71,72,73,74,75,76,77,78,79,80,81,82,83,84,85,86,87,88,89,90,48,49,50,51,52,53,54,55,56,57,46,43,45,126]⟩=Sp.verS from rfl,HA.out];go_wp2_with fail;refine(in_any _ _ c _ HO.out (by decide)).mono ?_;rintro e w1 ⟨rfl,rfl⟩;go_wp2;go_ret;exact⟨ret_bool (by unfold Sp.isVer;rw[HA.out,HC.out];exact R1.dig_has c),rfl⟩
namespace R1
theorem pre_yes{s t:ByteArray}(_h:t.size<=s.size):(bl t).isPrefixOf (bl s)=((s.extract 0 t.size).toList == t.toList):=by
 rw[eqs_bl,bl_to,Bool.eq_iff_iff,List.isPrefixOf_iff_prefix,List.prefix_iff_eq_take,beq_iff_eq,bl_len];exact⟨fun h=>h.symm,fun h=>h.symm⟩
theorem pre_no{s t:ByteArray}(h:¬t.size<=s.size):(bl t).isPrefixOf (bl s)=false:=by
 rw[Bool.eq_false_iff];intro e;have:=(List.isPrefixOf_iff_prefix.1 e).length_le;rw[bl_len,bl_len] at this;omega
end R1
theorem begins_any(s t:ByteArray)(w:World):
  Calls Tryz.prog 69 #[.string s,.string t] w fun e w'=>e=.returned (.bool ((bl t).isPrefixOf (bl s)))/\w=w':=by
 by_cases h:t.size<=s.size
 ·go_enter Tryz.func69,Tryz.ntmps69
  go_wp2;go_ret;exact⟨ret_bool (R1.pre_yes h).symm,rfl⟩
 ·go_enter Tryz.func69,Tryz.ntmps69
  go_wp2;go_ret;exact⟨ret_bool (R1.pre_no h).symm,rfl⟩
theorem over_any(s t:ByteArray)(w:World)(hs:s.size<1000000):
  Calls Tryz.prog 72 #[.string s,.string t] w fun e w'=>e=.returned (.bool (Sp.over (bl s) (bl t)))/\w=w':=by
 go_enter Tryz.func72,Tryz.ntmps72;go_wp2_with fail;refine(begins_any _ _ _).mono ?_;rintro e w1 ⟨rfl,rfl⟩;go_wp2;go_ret;exact⟨ret_bool (by rw[bl_app];rfl),rfl⟩
end
section
open Go.RowKit
theorem bl_get(s:ByteArray)(k:Nat)(h:k<s.size):(bl s)[k]? = some s[k]:=by
 have h1:=congrArg (fun l:List UInt8=>l[k]?) (take_snoc s k h);have hl:((bl s).take k).length=k:=by rw[List.length_take,bl_len];omega
 have h2:((bl s).take (k+1))[k]? = ((bl s).take k ++ [s[k]])[k]?:=h1;rw[List.getElem?_take,if_pos (by omega),List.getElem?_append_right (by omega),hl,Nat.sub_self] at h2;exact h2
namespace CM
theorem weight_til(c:UInt8)(h:c.toNat=126):Sp.weight c=-1:=by
 unfold Sp.weight;rw[if_pos (UInt8.toNat_inj.1 h)]
theorem weight_let(c:UInt8)(h:(97<=c.toNat/\c.toNat<=122)\/(65<=c.toNat/\c.toNat<=90)):Sp.weight c=c.toNat:=by
 unfold Sp.weight;rw[if_neg (by rintro rfl;revert h;decide),if_pos h]
theorem weight_oth(c:UInt8)(h0:c.toNat≠126)(h:¬((97<=c.toNat/\c.toNat<=122)\/(65<=c.toNat/\c.toNat<=90))):Sp.weight c=c.toNat+256:=by
 unfold Sp.weight;rw[if_neg (by rintro rfl;exact h0 rfl),if_neg h]
end CM
theorem weight_any(c:UInt8)(w:World):Calls Tryz.prog 134 #[.int .u8 (c.toNat:Int)] w fun e w'=>e=.returned (.int .i64 (Sp.weight c))/\w=w':=by
 have hc:=c.toNat_lt
 by_cases h:c.toNat=126
 ·have HW:=hid (CM.weight_til c h)
  have h':((c.toNat:Int) == 126)=true:=by simp;omega
  go_enter Tryz.func134,Tryz.ntmps134;go_wp2;go_ret;exact⟨ret_int HW.out.symm,rfl⟩
 ·have h':((c.toNat:Int) == 126)=false:=by simp;omega
  by_cases h1:97<=c.toNat
  ·by_cases h2:c.toNat<=122
   ·have HW:=hid (CM.weight_let c (.inl ⟨h1,h2⟩))
    go_enter Tryz.func134,Tryz.ntmps134;go_wp2;go_ret;exact⟨ret_int HW.out.symm,rfl⟩
   ·have h3:65<=c.toNat:=by omega
    have h4:¬c.toNat<=90:=by omega
    have HW:=hid (CM.weight_oth c h (by omega));go_enter Tryz.func134,Tryz.ntmps134;go_wp2;go_ret;exact⟨ret_int HW.out.symm,rfl⟩
  ·by_cases h3:65<=c.toNat
   ·by_cases h4:c.toNat<=90
    ·have HW:=hid (CM.weight_let c (.inr ⟨h3,h4⟩))
     go_enter Tryz.func134,Tryz.ntmps134;go_wp2;go_ret;exact⟨ret_int HW.out.symm,rfl⟩
    ·have HW:=hid (CM.weight_oth c h (by omega))
     go_enter Tryz.func134,Tryz.ntmps134;go_wp2;go_ret;exact⟨ret_int HW.out.symm,rfl⟩
   ·have HW:=hid (CM.weight_oth c h (by omega))
    go_enter Tryz.func134,Tryz.ntmps134;go_wp2;go_ret;exact⟨ret_int HW.out.symm,rfl⟩
namespace CM
def wAt(s:Sp.Str)(i:Nat):Int:=match s[i]? with
 | some c=>Sp.weight c
 | none=>0
end CM
theorem at_any(s:ByteArray)(i:Nat)(w:World):Calls Tryz.prog 89 #[.string s,.int .i64 i] w fun e w'=>e=.returned (.int .i64 (CM.wAt (bl s) i))/\w=w':=by
 by_cases h:i<s.size
 ·have hw:CM.wAt (bl s) i=Sp.weight s[i]:=by
   unfold CM.wAt;rw[bl_get s i h]
  have HW:=hid hw;clear hw;go_enter Tryz.func89,Tryz.ntmps89;go_wp2_with fail;refine(weight_any _ _).mono ?_;rintro e w' ⟨rfl,rfl⟩;go_wp2;go_ret;exact⟨ret_int HW.out.symm,rfl⟩
 ·have hw:CM.wAt (bl s) i=0:=by
   unfold CM.wAt;rw[List.getElem?_eq_none (by rw[bl_len];omega)]
  have HW:=hid hw;clear hw;go_enter Tryz.func89,Tryz.ntmps89;go_wp2;go_ret;exact⟨ret_int HW.out.symm,rfl⟩
theorem notDig_any(f:Nat)(hf:f=85\/f=87)(c:UInt8)(w:World):Calls Tryz.prog f #[.int .u8 (c.toNat:Int)] w fun e w'=>e=.returned (.bool (Sp.notDig c))/\w=w':=by
 have HS:=hid (show Sp.notDig c=!Sp.isDig c from rfl)
 rcases hf with rfl|rfl
 ·go_enter Tryz.func85,Tryz.ntmps85
  go_wp2_with fail;refine(digit_any _ _).mono ?_;rintro e w' ⟨rfl,rfl⟩;go_wp2;go_ret;exact⟨ret_bool (by rw[HS.out]),rfl⟩
 ·go_enter Tryz.func87,Tryz.ntmps87
  go_wp2_with fail;refine(digit_any _ _).mono ?_;rintro e w' ⟨rfl,rfl⟩;go_wp2;go_ret;exact⟨ret_bool (by rw[HS.out]),rfl⟩
namespace CM
theorem take_all{p:UInt8->Bool}:∀ {l:Sp.Str} {k:Nat},(l.take k).all p=true->(∀ c,l[k]? = some c->p c=false)->l.takeWhile p=l.take k/\l.dropWhile p=l.drop k
 | [],k,_,_=>by simp
 | c :: r,0,_,h=>by
  have:=h c (by simp);simp[this]
 | c :: r,k+1,h1,h2=>by
  rw[List.take_succ_cons,List.all_cons,Bool.and_eq_true] at h1;obtain⟨i1,i2⟩:=take_all (l:=r) (k:=k) h1.2 (fun d hd=>h2 d (by simpa using hd));rw[List.takeWhile_cons_of_pos h1.1,List.dropWhile_cons_of_pos h1.1,i1,i2];simp
end CM
theorem vsplit_any(f:Nat)(p:UInt8->Bool)(hf:∀ (c:UInt8) (w:World),Calls Tryz.prog f #[.int .u8 (c.toNat:Int)] w fun e w'=>e=.returned (.bool (p c))/\w=w')(hcf:∀ (args:Array Value) (w:World),(callFunc f args).run Tryz.prog w=.ok (.enter f args) w)(s:ByteArray)(w:World)(hs:s.size<=4611686018427387904):
  Calls Tryz.prog 84 #[.string s,.func (.func f) #[] #[]] w fun e w'=>e=.returned (.tuple #[.string ⟨((bl s).takeWhile p).toArray⟩,.string ⟨((bl s).dropWhile p).toArray⟩])/\Below w.heap.size w w':=by
 have HF:=hid hf;have HCF:=hid hcf;clear hf hcf;go_enter Tryz.func84,Tryz.ntmps84;go_wp2
 go_loopw [6] (fun i wr=>∃ k:Nat,k<=s.size/\((bl s).take k).all p=true/\i=.int .i64 k/\wr=w) (fun i _=>s.size+1-(intOf i).toNat)
 case atStart=>exact⟨0,Nat.zero_le _,rfl,rfl,rfl⟩
 case round =>
  obtain⟨k,hk,hn,rfl,rfl⟩:=hrel;have HN:=hid hn;clear hn
  by_cases h:k<s.size
  ·cases hh:p s[k] with
   | true =>
    have HH:=hid hh;clear hh;go_wp2_with fail;rw[HCF.out];refine(HF.out _ _).mono ?_;rintro e w' ⟨rfl,rfl⟩;rw[HH.out];go_wp2;go_roundw
    case rel=>exact⟨k+1,by omega,R1.all_snoc h HN.out HH.out,by go_num,trivial⟩
    case measure=>simp[intOf];omega
   | false =>
    have HH:=hid hh;clear hh;have hts:=CM.take_all HN.out (fun c hc=>by
     rw[bl_get s k h] at hc;injection hc with hc
     rw[<-hc];exact HH.out)
    have HT:=hid hts;clear hts;go_wp2_with fail;rw[HCF.out];refine(HF.out _ _).mono ?_;rintro e w' ⟨rfl,rfl⟩;rw[HH.out];go_wp2;go_quiet (fail);go_wp2
    go_ret2
    exact⟨by rw[HT.out.1,HT.out.2,<-bl_to,<-bl_from];rfl,below_drawn _ _⟩
  ·have hts:=CM.take_all HN.out (fun c hc=>by rw[List.getElem?_eq_none (by rw[bl_len];omega)] at hc;cases hc)
   have HT:=hid hts;clear hts;go_wp2_with fail;go_quiet (fail);go_wp2
   go_ret2
   exact⟨by rw[HT.out.1,HT.out.2,<-bl_to,<-bl_from];rfl,below_drawn _ _⟩
end
section
open Go.RowKit
theorem isNaNs_any(s:ByteArray)(w:World):Calls Tryz.prog 139 #[.string s] w fun e w'=>e=.returned (.bool false)/\w=w':=by
 go_enter Tryz.func139,Tryz.ntmps139;go_wp2;go_ret;exact⟨rfl,rfl⟩
namespace CM
theorem less_lt:∀ a b:Sp.Str,Op.bytesLess a b=Sp.strLt a b
 | [],[]=>rfl
 | [],_ :: _=>rfl
 | _ :: _,[]=>rfl
 | a :: x,b :: y=>by
  unfold Op.bytesLess Sp.strLt;rw[less_lt x y]
  by_cases h1:a<b
  ·simp[h1]
  ·by_cases h2:b<a
   ·have:(a == b)=false:=by simp;intro e;subst e;exact absurd h2 (UInt8.lt_irrefl _)
    simp[h1,h2,this]
   ·have:a=b:=UInt8.le_antisymm (UInt8.not_lt.1 h2) (UInt8.not_lt.1 h1)
    subst this;simp[h1]
theorem lt_conn{a b:Sp.Str}(h1:Sp.strLt a b=false)(h2:a≠b):Sp.strLt b a=true:=by
 rw[P3.lt_iff];rw[<-Bool.not_eq_true,P3.lt_iff] at h1
 rcases List.le_iff_lt_or_eq.1 (List.not_lt.1 h1) with h|h
 ·exact h
 ·exact absurd h.symm h2
theorem cmpS_lt{a b:ByteArray}(h:Op.bytesLess a.toList b.toList=true):Sp.cmpS (bl a) (bl b)=-1:=by
 rw[toList_bl,toList_bl,less_lt] at h;unfold Sp.cmpS;rw[if_pos h]
theorem cmpS_gt{a b:ByteArray}(h:Op.bytesLess a.toList b.toList=false)(h2:(!a.toList == b.toList)=true):Sp.cmpS (bl a) (bl b)=1:=by
 rw[toList_bl,toList_bl,less_lt] at h;rw[toList_bl,toList_bl] at h2;unfold Sp.cmpS;rw[if_neg (by rw[h];simp),if_pos (lt_conn h (by simpa using h2))]
theorem cmpS_eq{a b:ByteArray}(_h:Op.bytesLess a.toList b.toList=false)(h2:(!a.toList == b.toList)=false):Sp.cmpS (bl a) (bl b)=0:=by
 rw[toList_bl,toList_bl] at h2;have e:bl a=bl b:=by simpa using h2
 unfold Sp.cmpS;rw[e,V4.strLt_irrefl];rfl
end CM
theorem cmpS_any(a b:ByteArray)(w:World):Calls Tryz.prog 92 #[.string a,.string b] w fun e w'=>e=.returned (.int .i64 (Sp.cmpS (bl a) (bl b)))/\w=w':=by
 go_enter Tryz.func92,Tryz.ntmps92;go_wp2_with fail;refine(isNaNs_any _ _).mono ?_;rintro e w' ⟨rfl,rfl⟩;go_wp2_with fail;refine(isNaNs_any _ _).mono ?_;rintro e w' ⟨rfl,rfl⟩;go_wp2
 ·go_ret
  exact⟨ret_int (CM.cmpS_lt (by assumption)).symm,rfl⟩
 ·go_ret
  exact⟨ret_int (CM.cmpS_gt (by assumption) (by assumption)).symm,rfl⟩
 ·go_ret
  exact⟨ret_int (CM.cmpS_eq (by assumption) (by assumption)).symm,rfl⟩
theorem or2_any(b:Nat)(x y:Int)(w:World)(h0:w.cell? ⟨b,0,none⟩=some (.int .i64 x))(h1:w.cell? ⟨b,1,none⟩=some (.int .i64 y)):Calls Tryz.prog 91 #[.slice (some ⟨b,0,none⟩) 2 2] w fun e w'=>e=.returned (.int .i64 (if x=0 then y else x))/\w=w':=by
 by_cases hx:x=0
 ·subst hx
  by_cases hy:y=0
  ·subst hy
   go_enter Tryz.func91,Tryz.ntmps91;go_wp2;refine wp_loop_rounds 3 ?_;rw[rounds_succ];go_wp2;rw[rounds_succ];go_wp2;rw[rounds_succ];go_wp2;go_ret;exact⟨rfl,rfl⟩
  ·have hy':(y != 0)=true:=by simpa using hy
   go_enter Tryz.func91,Tryz.ntmps91;go_wp2;refine wp_loop_rounds 2 ?_;rw[rounds_succ];go_wp2;rw[rounds_succ];go_wp2;go_ret;exact⟨rfl,rfl⟩
 ·have hx':(x != 0)=true:=by simpa using hx
  go_enter Tryz.func91,Tryz.ntmps91;go_wp2;refine wp_loop_rounds 1 ?_;rw[rounds_succ];go_wp2;go_ret;exact⟨rfl,rfl⟩
end
section
open Go.RowKit
namespace CM
def strLen:Value->Nat
 | .string s=>s.size
 | _=>0
theorem cmpI(x y:Int):Lib.compareInt x y=Sp.sgn (x-y):=by
 unfold Lib.compareInt Sp.sgn
 repeat' split
 all_goals first|rfl|omega
theorem wAt_drop(s:Sp.Str)(i:Nat):wAt s i=match s.drop i with
 | c :: _=>Sp.weight c
 | []=>0:=by
 unfold wAt
 by_cases h:i<s.length
 ·rw[List.getElem?_eq_getElem h,List.drop_eq_getElem_cons h]
 ·rw[List.getElem?_eq_none (by omega),List.drop_eq_nil_of_le (by omega)]
theorem diff_same{x y:Sp.Str}{i:Nat}(hi:i<x.length\/i<y.length)(h:Sp.sgn (wAt x i-wAt y i)=0):Sp.diffW Sp.weight (x.drop i) (y.drop i)=Sp.diffW Sp.weight (x.drop (i+1)) (y.drop (i+1)):=by
 rw[wAt_drop,wAt_drop] at h;have e:∀ s:Sp.Str,s.drop (i+1)=(s.drop i).drop 1:=fun s=>by rw[List.drop_drop]
 rw[e x,e y]
 cases hx:x.drop i with
 | nil =>
  cases hy:y.drop i with
  | nil =>
   have h1:=List.drop_eq_nil_iff.1 hx;have h2:=List.drop_eq_nil_iff.1 hy;omega
  | cons b r=>rw[hx,hy] at h;simp only at h;rw[Sp.diffW_nc,if_pos h];rfl
 | cons a q =>
  cases hy:y.drop i with
  | nil=>rw[hx,hy] at h;simp only[Int.sub_zero] at h;rw[Sp.diffW,if_pos h];rfl
  | cons b r=>rw[hx,hy] at h;simp only at h;rw[Sp.diffW,if_pos h];rfl
theorem diff_other{x y:Sp.Str}{i:Nat}(hi:i<x.length\/i<y.length)(h:Sp.sgn (wAt x i-wAt y i)≠0):Sp.diffW Sp.weight (x.drop i) (y.drop i)=Sp.sgn (wAt x i-wAt y i):=by
 rw[wAt_drop,wAt_drop] at h ⊢
 cases hx:x.drop i with
 | nil =>
  cases hy:y.drop i with
  | nil =>
   have h1:=List.drop_eq_nil_iff.1 hx;have h2:=List.drop_eq_nil_iff.1 hy;omega
  | cons b r=>rw[hx,hy] at h;simp only at h ⊢;rw[Sp.diffW_nc,if_neg h]
 | cons a q =>
  cases hy:y.drop i with
  | nil=>rw[hx,hy] at h;simp only[Int.sub_zero] at h ⊢;rw[Sp.diffW,if_neg h]
  | cons b r=>rw[hx,hy] at h;simp only at h ⊢;rw[Sp.diffW,if_neg h]
theorem diff_end{x y:Sp.Str}{i:Nat}(h1:x.length<=i)(h2:y.length<=i):Sp.diffW Sp.weight (x.drop i) (y.drop i)=0:=by
 rw[List.drop_eq_nil_of_le h1,List.drop_eq_nil_of_le h2];rfl
theorem bare_eq(s:Sp.Str):Lib.trimLeftS s [48]=Sp.bare s:=by
 unfold Lib.trimLeftS Sp.bare
 congr 1
 funext c
 rw[Bool.eq_iff_iff];simp
theorem diffD_eq(x y:Sp.Str):(if Lib.compareInt ((Sp.bare x).length:Int) (Sp.bare y).length=0 then Sp.cmpS (Sp.bare x) (Sp.bare y) else Lib.compareInt ((Sp.bare x).length:Int) (Sp.bare y).length)=Sp.diffD x y:=by
 rw[cmpI];unfold Sp.diffD
 by_cases h:(Sp.bare x).length=(Sp.bare y).length
 ·rw[h,Int.sub_self,V4.sgn_zero,if_pos rfl,if_pos rfl]
 ·rw[if_neg h,if_neg]
  unfold Sp.sgn
  repeat' split
  all_goals omega
theorem drop_sum{x y:Sp.Str}(h:(x.isEmpty && y.isEmpty)=false):((x.dropWhile Sp.notDig).dropWhile Sp.isDig).length+((y.dropWhile Sp.notDig).dropWhile Sp.isDig).length<x.length+y.length:=by
 have h1:=V4.drop_le x;have h2:=V4.drop_le y
 by_cases hx:x=[]
 ·have hy:y≠[]:=by rintro rfl;rw[hx] at h;simp at h
  have:=V4.drop_lt hy;omega
 ·have:=V4.drop_lt hx;omega
theorem drops(x:Sp.Str):((x.dropWhile Sp.notDig).dropWhile Sp.isDig).length<=x.length:=V4.drop_le x
end CM
theorem cf85(args:Array Value)(w:World):(callFunc 85 args).run Tryz.prog w=.ok (.enter 85 args) w:=by kernel_rfl
theorem cf86(args:Array Value)(w:World):(callFunc 86 args).run Tryz.prog w=.ok (.enter 86 args) w:=by kernel_rfl
theorem cf87(args:Array Value)(w:World):(callFunc 87 args).run Tryz.prog w=.ok (.enter 87 args) w:=by kernel_rfl
theorem split85(s:ByteArray)(w:World)(hs:s.size<=4611686018427387904):Calls Tryz.prog 84 #[.string s,.func (.func 85) #[] #[]] w fun e w'=>e=.returned (.tuple #[.string ⟨((bl s).takeWhile Sp.notDig).toArray⟩,.string ⟨((bl s).dropWhile Sp.notDig).toArray⟩])/\Below w.heap.size w w':=
 vsplit_any 85 Sp.notDig (notDig_any 85 (.inl rfl)) cf85 s w hs
theorem split87(s:ByteArray)(w:World)(hs:s.size<=4611686018427387904):Calls Tryz.prog 84 #[.string s,.func (.func 87) #[] #[]] w fun e w'=>e=.returned (.tuple #[.string ⟨((bl s).takeWhile Sp.notDig).toArray⟩,.string ⟨((bl s).dropWhile Sp.notDig).toArray⟩])/\Below w.heap.size w w':=
 vsplit_any 87 Sp.notDig (notDig_any 87 (.inr rfl)) cf87 s w hs
theorem split86(s:ByteArray)(w:World)(hs:s.size<=4611686018427387904):Calls Tryz.prog 84 #[.string s,.func (.func 86) #[] #[]] w fun e w'=>e=.returned (.tuple #[.string ⟨((bl s).takeWhile Sp.isDig).toArray⟩,.string ⟨((bl s).dropWhile Sp.isDig).toArray⟩])/\Below w.heap.size w w':=
 vsplit_any 86 Sp.isDig digit_any cf86 s w hs
theorem cmp_any(s t:ByteArray)(w:World)(hs:s.size<=1099511627776)(ht:t.size<=1099511627776):
  Calls Tryz.prog 57 #[.string s,.string t] w fun e w'=>e=.returned (.int .i64 (Sp.cmp (bl s) (bl t)))/\Below w.heap.size w w':=by
 generalize hR:Sp.cmp (bl s) (bl t)=R;have HR:=hid hR;clear hR;obtain⟨B,hB⟩:∃ B,w.heap.size=B:=⟨_,rfl⟩
 rw[hB];have HB:=hid hB;clear hB;go_enter Tryz.func57,Tryz.ntmps57;go_wp2
 go_loopw [0,1] (fun a b wr=>∃ x y:Sp.Str,a=.string ⟨x.toArray⟩/\b=.string ⟨y.toArray⟩/\x.length<=1099511627776/\y.length<=1099511627776/\Sp.cmp x y=R/\Below B w wr) (fun a b _=>CM.strLen a+CM.strLen b)
 case atStart=>exact⟨bl s,bl t,by rw[mk_bl],by rw[mk_bl],by rw[bl_len];exact hs,by rw[bl_len];exact ht,HR.out,Below.refl _ _⟩
 case round =>
  obtain⟨x,y,rfl,rfl,hx,hy,hcmp,hbel⟩:=hrel;have hbs:B<=wr.heap.size:=by rw[<-HB.out];exact hbel.size
  cases hxe:x.isEmpty with
  | true =>
   cases hye:y.isEmpty with
   | true =>
    have hr:R=0:=by
     rw[<-hcmp,List.isEmpty_iff.1 hxe,List.isEmpty_iff.1 hye];rfl
    go_wp2_with fail;go_ret;exact⟨ret_int hr.symm,hbel⟩
   | false =>
    have hemp:(x.isEmpty && y.isEmpty)=false:=by rw[hye];simp
    go_wp2_with fail;refine(split85 _ _ (by rw[<-bl_len];first|(rw[bl_mk];omega)|decide)).mono ?_;rintro e w1 ⟨rfl,hb1⟩;rw[show bl ⟨x.toArray⟩=x from rfl];go_wp2_with fail;refine(split87 _ _ (by rw[<-bl_len,bl_mk];omega)).mono ?_;rintro e w2 ⟨rfl,hb2⟩;rw[bl_mk];have hstep:=V4.cmp_step x y hemp;have hd1:=CM.drops x;have hd2:=CM.drops y;have hlt:((x.dropWhile Sp.notDig).dropWhile Sp.isDig).length+((y.dropWhile Sp.notDig).dropWhile Sp.isDig).length<x.length+y.length:=CM.drop_sum hemp;have hx1:(x.takeWhile Sp.notDig).length<=x.length:=(List.takeWhile_prefix _).length_le;have hy1:(y.takeWhile Sp.notDig).length<=y.length:=(List.takeWhile_prefix _).length_le;have hx2:(x.dropWhile Sp.notDig).length<=x.length:=(List.dropWhile_suffix _).length_le;have hy2:(y.dropWhile Sp.notDig).length<=y.length:=(List.dropWhile_suffix _).length_le;generalize x.takeWhile Sp.notDig=x1 at *;generalize y.takeWhile Sp.notDig=y1 at *;generalize x.dropWhile Sp.notDig=x2 at *;generalize y.dropWhile Sp.notDig=y2 at *;rw[hcmp] at hstep;have HS:=hid hstep;clear hstep hcmp;have hs1:=hb1.size;have hs2:=hb2.size;have hbw:Below B w w2:=hbel.trans ((hb1.mono hbs).trans (hb2.mono (by omega)));clear hb1 hb2
    by_cases hmax:x1.length<=y1.length
    all_goals
     go_wp2_with fail
     go_loopw [31] (fun i wi=>∃ k:Nat,i=.int .i64 k/\(k<=x1.length\/k<=y1.length)/\Sp.diffW Sp.weight x1 y1=Sp.diffW Sp.weight (x1.drop k) (y1.drop k)/\wi=w2) (fun i _=>x1.length+y1.length+1-(intOf i).toNat)
     case atStart=>exact⟨0,rfl,.inl (Nat.zero_le _),rfl,rfl⟩
     case round =>
      obtain⟨k,rfl,hk,hdiff,rfl⟩:=hrel;have HD:=hid hdiff;clear hdiff
      by_cases h:k<max x1.length y1.length
      ·have hkl:k<x1.length\/k<y1.length:=by omega
       by_cases ho:Sp.sgn (CM.wAt x1 k-CM.wAt y1 k)=0
       ·have HO:=hid ho
        clear ho;have hkk:k<(if x1.length<=y1.length then y1.length else x1.length):=by split <;> omega
        go_wp2_with fail;refine(at_any _ _ _).mono ?_;rintro e w3 ⟨rfl,rfl⟩;rw[bl_mk];go_wp2_with fail;refine(at_any _ _ _).mono ?_;rintro e w3 ⟨rfl,rfl⟩;rw[bl_mk];go_wp2_with fail;refine(cmpInt_any _ _ _).mono ?_;rintro e w3 ⟨rfl,rfl⟩;rw[CM.cmpI,HO.out];go_wp2;go_roundw
        case rel=>exact⟨k+1,by go_num,by omega,by rw[HD.out,CM.diff_same hkl HO.out],trivial⟩
        case measure=>simp[intOf];omega
       ·have HO:=hid ho
        have hob:(Sp.sgn (CM.wAt x1 k-CM.wAt y1 k) != 0)=true:=by simpa using ho
        clear ho;go_wp2_with fail;refine(at_any _ _ _).mono ?_;rintro e w3 ⟨rfl,rfl⟩;rw[bl_mk];go_wp2_with fail;refine(at_any _ _ _).mono ?_;rintro e w3 ⟨rfl,rfl⟩;rw[bl_mk];go_wp2_with fail;refine(cmpInt_any _ _ _).mono ?_;rintro e w3 ⟨rfl,rfl⟩;rw[CM.cmpI];go_wp2;go_ret;exact⟨ret_int (by rw[HS.out,HD.out,CM.diff_other hkl HO.out,if_neg HO.out]),hbw⟩
      ·have hd0:Sp.diffW Sp.weight x1 y1=0:=by rw[HD.out];exact CM.diff_end (by omega) (by omega)
       have hS2:=HS.out;rw[hd0,if_pos rfl] at hS2;clear HS HD hd0;have HS:=hid hS2;clear hS2;go_wp2_with fail;refine(split86 _ _ (by rw[<-bl_len,bl_mk];omega)).mono ?_;rintro e w3 ⟨rfl,hb3⟩;rw[bl_mk];go_wp2_with fail;refine(split86 _ _ (by rw[<-bl_len,bl_mk];omega)).mono ?_;rintro e w4 ⟨rfl,hb4⟩;rw[bl_mk];go_wp2_with fail;refine(trimLeft_any _ _ _ (by decide) (W1.ascii_of (by decide))).mono ?_;rintro e w5 ⟨rfl,hb5⟩;rw[bl_mk,show bl ⟨#[48]⟩=[48] from rfl,CM.bare_eq];go_wp2_with fail;refine(trimLeft_any _ _ _ (by decide) (W1.ascii_of (by decide))).mono ?_;rintro e w6 ⟨rfl,hb6⟩;rw[bl_mk,show bl ⟨#[48]⟩=[48] from rfl,CM.bare_eq];have hs3:=hb3.size;have hs4:=hb4.size;have hs5:=hb5.size;have hs6:=hb6.size;have hbw6:Below B w w6:=hbw.trans ((hb3.mono (by omega)).trans ((hb4.mono (by omega)).trans ((hb5.mono (by omega)).trans (hb6.mono (by omega)))));clear hb3 hb4 hb5 hb6;go_wp2_with fail;refine(cmpInt_any _ _ _).mono ?_;rintro e w7 ⟨rfl,rfl⟩;go_wp2_with fail;refine(cmpS_any _ _ _).mono ?_;rintro e w7 ⟨rfl,rfl⟩;rw[bl_mk,bl_mk];go_wp2_with fail;refine(or2_any _ _ _ _ (by rw[World.cell?_alloc_at _ _ _ _ rfl];rfl) (by rw[World.cell?_alloc_at _ _ _ _ rfl];rfl)).mono ?_;rintro e w7 ⟨rfl,rfl⟩;rw[CM.diffD_eq]
       by_cases hd:Sp.diffD (x2.takeWhile Sp.isDig) (y2.takeWhile Sp.isDig)=0
       ·have hS3:=HS.out
        rw[if_pos hd] at hS3;have HS3:=hid hS3;clear hS3;rw[hd];clear hd;go_wp2;go_roundw
        case rel=>exact⟨_,_,rfl,rfl,by omega,by omega,HS3.out.symm,hbw6.alloc (by omega) _⟩
        case measure=>simp only[CM.strLen,<-bl_len,bl_mk];exact hlt
       ·have hS3:=HS.out
        rw[if_neg hd] at hS3;have HS3:=hid hS3;have hob:(Sp.diffD (x2.takeWhile Sp.isDig) (y2.takeWhile Sp.isDig) != 0)=true:=by simpa using hd
        clear hS3 hd;go_wp2;go_ret;exact⟨ret_int HS3.out.symm,hbw6.alloc (by omega) _⟩
  | false =>
   have hemp:(x.isEmpty && y.isEmpty)=false:=by rw[hxe];simp
   go_wp2_with fail;refine(split85 _ _ (by rw[<-bl_len];first|(rw[bl_mk];omega)|decide)).mono ?_;rintro e w1 ⟨rfl,hb1⟩;rw[show bl ⟨x.toArray⟩=x from rfl];go_wp2_with fail;refine(split87 _ _ (by rw[<-bl_len,bl_mk];omega)).mono ?_;rintro e w2 ⟨rfl,hb2⟩;rw[bl_mk];have hstep:=V4.cmp_step x y hemp;have hd1:=CM.drops x;have hd2:=CM.drops y;have hlt:((x.dropWhile Sp.notDig).dropWhile Sp.isDig).length+((y.dropWhile Sp.notDig).dropWhile Sp.isDig).length<x.length+y.length:=CM.drop_sum hemp;have hx1:(x.takeWhile Sp.notDig).length<=x.length:=(List.takeWhile_prefix _).length_le;have hy1:(y.takeWhile Sp.notDig).length<=y.length:=(List.takeWhile_prefix _).length_le;have hx2:(x.dropWhile Sp.notDig).length<=x.length:=(List.dropWhile_suffix _).length_le;have hy2:(y.dropWhile Sp.notDig).length<=y.length:=(List.dropWhile_suffix _).length_le;generalize x.takeWhile Sp.notDig=x1 at *;generalize y.takeWhile Sp.notDig=y1 at *;generalize x.dropWhile Sp.notDig=x2 at *;generalize y.dropWhile Sp.notDig=y2 at *;rw[hcmp] at hstep;have HS:=hid hstep;clear hstep hcmp;have hs1:=hb1.size;have hs2:=hb2.size;have hbw:Below B w w2:=hbel.trans ((hb1.mono hbs).trans (hb2.mono (by omega)));clear hb1 hb2
   by_cases hmax:x1.length<=y1.length
   all_goals
    go_wp2_with fail
    go_loopw [31] (fun i wi=>∃ k:Nat,i=.int .i64 k/\(k<=x1.length\/k<=y1.length)/\Sp.diffW Sp.weight x1 y1=Sp.diffW Sp.weight (x1.drop k) (y1.drop k)/\wi=w2) (fun i _=>x1.length+y1.length+1-(intOf i).toNat)
    case atStart=>exact⟨0,rfl,.inl (Nat.zero_le _),rfl,rfl⟩
    case round =>
     obtain⟨k,rfl,hk,hdiff,rfl⟩:=hrel;have HD:=hid hdiff;clear hdiff
     by_cases h:k<max x1.length y1.length
     ·have hkl:k<x1.length\/k<y1.length:=by omega
      by_cases ho:Sp.sgn (CM.wAt x1 k-CM.wAt y1 k)=0
      ·have HO:=hid ho
       clear ho;have hkk:k<(if x1.length<=y1.length then y1.length else x1.length):=by split <;> omega
       go_wp2_with fail;refine(at_any _ _ _).mono ?_;rintro e w3 ⟨rfl,rfl⟩;rw[bl_mk];go_wp2_with fail;refine(at_any _ _ _).mono ?_;rintro e w3 ⟨rfl,rfl⟩;rw[bl_mk];go_wp2_with fail;refine(cmpInt_any _ _ _).mono ?_;rintro e w3 ⟨rfl,rfl⟩;rw[CM.cmpI,HO.out];go_wp2;go_roundw
       case rel=>exact⟨k+1,by go_num,by omega,by rw[HD.out,CM.diff_same hkl HO.out],trivial⟩
       case measure=>simp[intOf];omega
      ·have HO:=hid ho
       have hob:(Sp.sgn (CM.wAt x1 k-CM.wAt y1 k) != 0)=true:=by simpa using ho
       clear ho;go_wp2_with fail;refine(at_any _ _ _).mono ?_;rintro e w3 ⟨rfl,rfl⟩;rw[bl_mk];go_wp2_with fail;refine(at_any _ _ _).mono ?_;rintro e w3 ⟨rfl,rfl⟩;rw[bl_mk];go_wp2_with fail;refine(cmpInt_any _ _ _).mono ?_;rintro e w3 ⟨rfl,rfl⟩;rw[CM.cmpI];go_wp2;go_ret;exact⟨ret_int (by rw[HS.out,HD.out,CM.diff_other hkl HO.out,if_neg HO.out]),hbw⟩
     ·have hd0:Sp.diffW Sp.weight x1 y1=0:=by rw[HD.out];exact CM.diff_end (by omega) (by omega)
      have hS2:=HS.out;rw[hd0,if_pos rfl] at hS2;clear HS HD hd0;have HS:=hid hS2;clear hS2;go_wp2_with fail;refine(split86 _ _ (by rw[<-bl_len,bl_mk];omega)).mono ?_;rintro e w3 ⟨rfl,hb3⟩;rw[bl_mk];go_wp2_with fail;refine(split86 _ _ (by rw[<-bl_len,bl_mk];omega)).mono ?_;rintro e w4 ⟨rfl,hb4⟩;rw[bl_mk];go_wp2_with fail;refine(trimLeft_any _ _ _ (by decide) (W1.ascii_of (by decide))).mono ?_;rintro e w5 ⟨rfl,hb5⟩;rw[bl_mk,show bl ⟨#[48]⟩=[48] from rfl,CM.bare_eq];go_wp2_with fail;refine(trimLeft_any _ _ _ (by decide) (W1.ascii_of (by decide))).mono ?_;rintro e w6 ⟨rfl,hb6⟩;rw[bl_mk,show bl ⟨#[48]⟩=[48] from rfl,CM.bare_eq];have hs3:=hb3.size;have hs4:=hb4.size;have hs5:=hb5.size;have hs6:=hb6.size;have hbw6:Below B w w6:=hbw.trans ((hb3.mono (by omega)).trans ((hb4.mono (by omega)).trans ((hb5.mono (by omega)).trans (hb6.mono (by omega)))));clear hb3 hb4 hb5 hb6;go_wp2_with fail;refine(cmpInt_any _ _ _).mono ?_;rintro e w7 ⟨rfl,rfl⟩;go_wp2_with fail;refine(cmpS_any _ _ _).mono ?_;rintro e w7 ⟨rfl,rfl⟩;rw[bl_mk,bl_mk];go_wp2_with fail;refine(or2_any _ _ _ _ (by rw[World.cell?_alloc_at _ _ _ _ rfl];rfl) (by rw[World.cell?_alloc_at _ _ _ _ rfl];rfl)).mono ?_;rintro e w7 ⟨rfl,rfl⟩;rw[CM.diffD_eq]
      by_cases hd:Sp.diffD (x2.takeWhile Sp.isDig) (y2.takeWhile Sp.isDig)=0
      ·have hS3:=HS.out
       rw[if_pos hd] at hS3;have HS3:=hid hS3;clear hS3;rw[hd];clear hd;go_wp2;go_roundw
       case rel=>exact⟨_,_,rfl,rfl,by omega,by omega,HS3.out.symm,hbw6.alloc (by omega) _⟩
       case measure=>simp only[CM.strLen,<-bl_len,bl_mk];exact hlt
      ·have hS3:=HS.out
       rw[if_neg hd] at hS3;have HS3:=hid hS3;have hob:(Sp.diffD (x2.takeWhile Sp.isDig) (y2.takeWhile Sp.isDig) != 0)=true:=by simpa using hd
       clear hS3 hd;go_wp2;go_ret;exact⟨ret_int HS3.out.symm,hbw6.alloc (by omega) _⟩
end
end Go.Proofs.YtfphcecjhdkcoaaGreatDoor

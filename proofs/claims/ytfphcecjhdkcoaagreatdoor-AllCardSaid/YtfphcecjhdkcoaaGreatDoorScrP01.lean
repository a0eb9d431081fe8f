/-
Plain laws on 'Lib.split', the pieces of a text between which something stands: one piece at a time.
-/
import Derived.Lib.Index
import Derived.Lib.IndexMore
import Derived.Lib.Split
import Derived.Lib.Strings
import Derived.Lib.Join
import Derived.WalkKit
import Derived.WalkSpells
import Derived.WalkLawsBesides
import Derived.Lib.Hide
import Derived.Lib.IndexBytes
import Derived.Lib.SmallJoins
import Derived.BigQuiet
import Derived.Deep.QuietTactic
import Derived.Deep.DeepMust
import Derived.Test.YtfphcecjhdkcoaaGreatDoorProg
import Derived.Maps.AppendAt
import Derived.WalkSmall
import Derived.Lib.Bytealg
import Derived.Lib.IndexLaws
namespace Go.Proofs.YtfphcecjhdkcoaaGreatDoor
section
namespace Sp
abbrev Str:=List UInt8
structure Ch where
 name:Str
 sign:Str
 ver:Str
structure Fl where
 path:Str
 content:Str
structure Pk where
 needs:List (List Ch)
 bars:List Ch
 name:Str
 ver:Str
 files:List Fl
def smallS:Str:=[97,98,99,100,101,102,103,104,105,106,107,108,109,110,111,112,113,114,115,116,117,118,119,120,121,122]
def greatS:Str:=[65,66,67,68,69,70,71,72,73,74,75,76,77,78,79,80,81,82,83,84,85,86,87,88,89,90]
def digitS:Str:=[48,49,50,51,52,53,54,55,56,57]
def nameS:Str:=smallS ++ digitS ++ [45]
def verS:Str:=smallS ++ greatS ++ digitS ++ [46,43,45,126]
def pathS:Str:=smallS ++ digitS ++ [46,95]
def signs:List Str:=[[60,60],[60,61],[61],[62,61],[62,62]]
def packageW:Str:=[112,97,99,107,97,103,101]
def needsW:Str:=[110,101,101,100,115]
def barsW:Str:=[98,97,114,115]
def fileW:Str:=[102,105,108,101]
def among(s set:Str)(least most:Nat):Bool:=s.all (fun c=>set.contains c) && decide (least<=s.length) && decide (s.length<=most)
def isDig(c:UInt8):Bool:=decide (48<=c.toNat) && decide (c.toNat<=57)
def headIs(p:UInt8->Bool):Str->Bool
 | []=>false
 | c :: _=>p c
def isName(s:Str):Bool:=among s nameS 1 12 && headIs smallS.contains s
def isVer(s:Str):Bool:=among s verS 1 16 && headIs isDig s
def isPart(s:Str):Bool:=among s pathS 1 8 && s != [46] && s != [46,46]
def isPath(s:Str):Bool:=(Lib.split s [47]).all isPart && decide ((Lib.split s [47]).length<=3)
def choose(s:Str):Option Ch:=
 if isName (Lib.cut s [32,40]).1 then
  if (Lib.cut s [32,40]).2.2 then
   if (Lib.cut (Lib.cut s [32,40]).2.1 [32]).2.2 && signs.contains (Lib.cut (Lib.cut s [32,40]).2.1 [32]).1 && Lib.hasSuffix (Lib.cut (Lib.cut s [32,40]).2.1 [32]).2.1 [41] && isVer (Lib.trimSuffix (Lib.cut (Lib.cut s [32,40]).2.1 [32]).2.1 [41])
   then some ⟨(Lib.cut s [32,40]).1,(Lib.cut (Lib.cut s [32,40]).2.1 [32]).1,Lib.trimSuffix (Lib.cut (Lib.cut s [32,40]).2.1 [32]).2.1 [41]⟩
   else none
  else some ⟨(Lib.cut s [32,40]).1,[],[]⟩
 else none
def mapO{α β:Type}(f:α->Option β):List α->Option (List β)
 | []=>some []
 | x :: r=>match f x,mapO f r with
  | some y,some ys=>some (y :: ys)
  | _,_=>none
def each{α:Type}(s sep:Str)(most:Nat)(one:Str->Option α):Option (List α):=
 match mapO one (Lib.split s sep) with
 | some l=>if l.length<=most then some l else none
 | none=>none
def folders(s:Str):List Str:=((List.range s.length).filter (fun i=>s[i]? == some 47)).map (s.take ·)
def over(a b:Str):Bool:=(a ++ [47]).isPrefixOf b
def clash1:List Str->Bool
 | []=>false
 | p :: r=>r.any (fun q=>p == q || over p q || over q p) || clash1 r
def line(p:Pk)(first:Bool)(s:Str):Option Pk:=
 if !((Lib.cut s [32]).2.2 && (first == ((Lib.cut s [32]).1 == packageW))) then none
 else if (Lib.cut s [32]).1 == packageW then
  if (Lib.cut (Lib.cut s [32]).2.1 [32]).2.2 && isName (Lib.cut (Lib.cut s [32]).2.1 [32]).1 && isVer (Lib.cut (Lib.cut s [32]).2.1 [32]).2.1
  then some { p with name:=(Lib.cut (Lib.cut s [32]).2.1 [32]).1,ver:=(Lib.cut (Lib.cut s [32]).2.1 [32]).2.1 } else none
 else if (Lib.cut s [32]).1 == needsW then
  if p.needs.isEmpty && p.bars.isEmpty && p.files.isEmpty
  then(each (Lib.cut s [32]).2.1 [44,32] 3 (fun g=>each g [32,124,32] 3 choose)).map fun n=>{ p with needs:=n } else none
 else if (Lib.cut s [32]).1 == barsW then
  if p.bars.isEmpty && p.files.isEmpty
  then(each (Lib.cut s [32]).2.1 [44,32] 3 choose).map fun n=>{ p with bars:=n } else none
 else if (Lib.cut s [32]).1 == fileW then
  if (Lib.cut (Lib.cut s [32]).2.1 [61]).2.2 && decide ((Lib.cut (Lib.cut s [32]).2.1 [61]).2.1.length<=24) && decide (p.files.length<4) && isPath (Lib.cut (Lib.cut s [32]).2.1 [61]).1 && !clash1 (p.files.map (·.path) ++ [(Lib.cut (Lib.cut s [32]).2.1 [61]).1])
  then some { p with files:=p.files ++ [⟨(Lib.cut (Lib.cut s [32]).2.1 [61]).1,(Lib.cut (Lib.cut s [32]).2.1 [61]).2.1⟩] } else none
 else none
def lines(p:Pk)(i:Nat):List Str->Nat ⊕ Pk
 | []=>.inr p
 | s :: r=>match line p (i == 0) s with
  | some p'=>lines p' (i+1) r
  | none=>.inl (i+1)
def strLt:Str->Str->Bool
 | [],[]=>false
 | [],_ :: _=>true
 | _ :: _,[]=>false
 | a :: x,b :: y=>if a<b then true else if b<a then false else strLt x y
def insertF(f:Fl):List Fl->List Fl
 | []=>[f]
 | g :: r=>if strLt f.path g.path then f :: g :: r else g :: insertF f r
def sortF(l:List Fl):List Fl:=l.foldl (fun a f=>insertF f a) []
def nothing:Pk:=⟨[],[],[],[],[]⟩
def parse(t:Str):Nat ⊕ Pk:=
 if 300<t.length then .inl 0
 else match lines nothing 0 (Lib.split (Lib.trimSuffix t [10]) [10]) with
  | .inl n=>.inl n
  | .inr p=>.inr { p with files:=sortF p.files }
def printC(c:Ch):Str:=if c.sign.isEmpty then c.name else c.name ++ [32,40] ++ c.sign ++ [32] ++ c.ver ++ [41]
def printF(f:Fl):Str:=[10,102,105,108,101,32] ++ f.path ++ [61] ++ f.content
def print(p:Pk):Str:=
 [112,97,99,107,97,103,101,32] ++ p.name ++ [32] ++ p.ver
  ++ (if p.needs.isEmpty then [] else [10,110,101,101,100,115,32] ++ Lib.join (p.needs.map fun g=>Lib.join (g.map printC) [32,124,32]) [44,32])
  ++ (if p.bars.isEmpty then [] else [10,98,97,114,115,32] ++ Lib.join (p.bars.map printC) [44,32])
  ++ (p.files.map printF).flatten
end Sp
end
section
open Go.RowKit
def bl(s:ByteArray):Sp.Str:=s.data.toList
theorem bl_mk(l:Sp.Str):bl ⟨l.toArray⟩=l:=rfl
theorem mk_bl(s:ByteArray):(⟨(bl s).toArray⟩:ByteArray)=s:=by
 obtain⟨⟨l⟩⟩:=s;rfl
theorem bl_len(s:ByteArray):(bl s).length=s.size:=by
 obtain⟨⟨l⟩⟩:=s;rfl
theorem bl_ext(s:ByteArray)(a b:Nat):bl (s.extract a b)=((bl s).drop a).take (b-a):=Lib.extract_data s a b
theorem bl_to(s:ByteArray)(b:Nat):bl (s.extract 0 b)=(bl s).take b:=by rw[bl_ext];simp
theorem bl_from(s:ByteArray)(a:Nat):bl (s.extract a s.size)=(bl s).drop a:=Lib.extract_to_end s a
theorem bl_app(a b:ByteArray):bl (a ++ b)=bl a ++ bl b:=Joins.data_append a b
theorem toList_bl(s:ByteArray):s.toList=bl s:=Lib.toList_data s
theorem bl_inj{a b:ByteArray}(h:bl a=bl b):a=b:=by rw[<-mk_bl a,h,mk_bl]
theorem eqs_bl(a b:ByteArray):(a.toList == b.toList)=(bl a == bl b):=by rw[toList_bl,toList_bl]
theorem size_ext(s:ByteArray)(a b:Nat)(h:b<=s.size):(s.extract a b).size=b-a:=by
 rw[<-bl_len,bl_ext,List.length_take,List.length_drop,bl_len];omega
theorem bl_one(s:ByteArray)(k:Nat)(h:k<s.size):bl (s.extract k (k+1))=[s[k]]:=by
 rw[bl_ext,show k+1-k=1 from by omega];have h':k<(bl s).length:=by rw[bl_len];exact h
 rw[List.drop_eq_getElem_cons h']
 rfl
theorem take_snoc(s:ByteArray)(k:Nat)(h:k<s.size):(bl s).take (k+1)=(bl s).take k ++ [s[k]]:=by
 rw[List.take_succ_eq_append_getElem (by rw[bl_len];exact h)];rfl
theorem ret_bool{a b:Bool}(h:a=b):Ending.returned (.bool a)=.returned (.bool b):=by rw[h]
theorem ret_int{k:IntKind}{a b:Int}(h:a=b):Ending.returned (.int k a)=.returned (.int k b):=by rw[h]
theorem ret_str{a b:ByteArray}(h:bl a=bl b):Ending.returned (.string a)=.returned (.string b):=by rw[bl_inj h]
end
section
open Go.RowKit
def sv(s:Sp.Str):Value:=.string ⟨s.toArray⟩
def SlOn(S:Nat->Prop)(w:World)(sz:Nat)(v:Value)(xs:List (List Value)):Prop:=
 ∃ a cap,v=.slice a xs.length cap/\xs.length<=cap/\∀ k x,xs[k]? = some x->∃ b off,a=some ⟨b,off,none⟩/\S b/\∀ j u,x[j]? = some u->w.cell? ⟨b,off+k*sz+j,none⟩=some u
theorem SlOn.nil(S:Nat->Prop)(w:World)(sz:Nat):SlOn S w sz (.slice none 0 0) []:=⟨none,0,rfl,Nat.le_refl _,fun k x h=>by simp at h⟩
theorem SlOn.keep{S:Nat->Prop}{w w':World}{sz:Nat}{v:Value}{xs:List (List Value)}(h:SlOn S w sz v xs)(hb:∀ b,S b->w'.heap[b]? = w.heap[b]?):SlOn S w' sz v xs:=by
 obtain⟨a,cap,hv,hc,h⟩:=h;refine⟨a,cap,hv,hc,fun k x hk=>?_⟩;obtain⟨b,off,ha,hb1,hx⟩:=h k x hk;exact⟨b,off,ha,hb1,fun j u hj=>(World.cell?_of_block (w:=w) (hb b hb1)).trans (hx j u hj)⟩
theorem SlOn.mono{S S':Nat->Prop}{w:World}{sz:Nat}{v:Value}{xs:List (List Value)}(h:SlOn S w sz v xs)(hm:∀ b,S b->S' b):SlOn S' w sz v xs:=by
 obtain⟨a,cap,hv,hc,h⟩:=h;refine⟨a,cap,hv,hc,fun k x hk=>?_⟩;obtain⟨b,off,ha,hb1,hx⟩:=h k x hk;exact⟨b,off,ha,hm b hb1,hx⟩
def SlAt(m:Nat)(w:World)(sz:Nat)(v:Value)(xs:List (List Value)):Prop:=SlOn (fun b=>b<m) w sz v xs
theorem SlAt.nil(m:Nat)(w:World)(sz:Nat):SlAt m w sz (.slice none 0 0) []:=SlOn.nil _ w sz
theorem SlAt.below{m B:Nat}{w w':World}{sz:Nat}{v:Value}{xs:List (List Value)}(h:SlAt m w sz v xs)(hb:Below B w w')(hB:m<=B):SlAt m w' sz v xs:=
 SlOn.keep h fun b hm=>hb.block b (Nat.lt_of_lt_of_le hm hB)
theorem SlAt.mono{m m':Nat}{w:World}{sz:Nat}{v:Value}{xs:List (List Value)}(h:SlAt m w sz v xs)(hm:m<=m'):SlAt m' w sz v xs:=
 SlOn.mono h fun _ hb=>Nat.lt_of_lt_of_le hb hm
theorem sl_of_row{w:World}{B sz:Nat}{e:TypeId}{v:Value}{xs:List (List Value)}(hxs:∀ x∈xs,x.length=sz)(h:w.ownsRow B e sz v xs.length xs.flatten):SlOn (fun b=>b<w.heap.size/\B<=b/\v.ownBlock=some b) w sz v xs:=by
 obtain⟨hl,h⟩:=h
 rcases h with⟨rfl,h0⟩|⟨g,cap,cur,rfl,hg,hh,hn,hm,hs,ht⟩
 ·have:xs=[]:=List.length_eq_zero_iff.1 h0
  subst this;exact SlOn.nil _ w sz
 ·refine⟨_,cap,rfl,hn,fun k x hk=>⟨g,0,rfl,⟨(Array.getElem?_eq_some_iff.1 hh).1,hg,rfl⟩,fun j u hj=>?_⟩⟩
  have hflat:∀ (xs:List (List Value)) (k:Nat),(∀ x∈xs,x.length=sz)->xs[k]? = some x->xs.flatten[k*sz+j]? = some u:=by
   intro xs
   induction xs with
   | nil=>intro k _ hk;simp at hk
   | cons y r ih =>
    intro k hxs hk;have hy:=hxs y List.mem_cons_self
    cases k with
    | zero =>
     have e:y=x:=by simpa using hk
     subst e;have hj':j<y.length:=(List.getElem?_eq_some_iff.1 hj).1;rw[List.flatten_cons,List.getElem?_append_left (by omega)]
     simpa using hj
    | succ k =>
     rw[List.flatten_cons,List.getElem?_append_right (by rw[hy,Nat.succ_mul];omega),hy,show(k+1)*sz+j-sz=k*sz+j from by rw[Nat.succ_mul];omega];exact ih k (fun z hz=>hxs z (List.mem_cons_of_mem _ hz)) (by simpa using hk)
  have h1:=hflat xs k hxs hk;rw[<-ht] at h1;have h2:=(List.getElem?_eq_some_iff.1 h1).1;rw[List.length_take] at h2;rw[List.getElem?_take,if_pos (by omega)] at h1;simp only[World.cell?,hh,Option.isSome_none,Nat.zero_add]
  simpa using h1
theorem SlAt.of_row{w:World}{B sz:Nat}{e:TypeId}{v:Value}{xs:List (List Value)}(hxs:∀ x∈xs,x.length=sz)(h:w.ownsRow B e sz v xs.length xs.flatten):SlAt w.heap.size w sz v xs:=
 (sl_of_row hxs h).mono fun _ hb=>hb.1
def StrsAt(w:World)(v:Value)(l:List Sp.Str):Prop:=SlAt w.heap.size w 1 v (l.map fun s=>[sv s])
theorem StrsAt.below{w w':World}{v:Value}{l:List Sp.Str}(h:StrsAt w v l)(hb:Below w.heap.size w w'):StrsAt w' v l:=(SlAt.below h hb (Nat.le_refl _)).mono hb.size
theorem infoStr:(Tryz.prog.info? 9).map (fun i=>(i.zero,i.size,i.bytes))=some (some (.string ⟨#[]⟩),1,16):=by kernel_rfl
theorem StrsAt.of_row{w:World}{B:Nat}{e:TypeId}{v:Value}{l:List Sp.Str}(h:w.ownsRow B e 1 v l.length (l.map sv)):StrsAt w v l:=by
 have e1:(l.map fun s=>[sv s]).flatten=l.map sv:=by
  induction l with
  | nil=>rfl
  | cons a r ih =>
   rw[List.map_cons,List.flatten_cons,List.map_cons];have:(r.map fun s=>[sv s]).flatten=r.map sv:=by clear ih h;induction r with
    | nil=>rfl
    | cons b q ih=>rw[List.map_cons,List.flatten_cons,List.map_cons,ih];rfl
   rw[this];rfl
 refine SlAt.of_row (B:=B) (e:=e) (fun x hx=>?_) ?_
 ·obtain⟨s,_,rfl⟩:=List.mem_map.1 hx;rfl
 ·rw[e1,List.length_map];exact h
theorem StrsAt.get{w:World}{v:Value}{l:List Sp.Str}(h:StrsAt w v l):∃ a cap,v=.slice a l.length cap/\l.length<=cap/\∀ k,(hk:k<l.length)->∃ b off,a=some ⟨b,off,none⟩/\b<w.heap.size/\w.cell? ⟨b,off+k,none⟩=some (.string ⟨l[k].toArray⟩):=by
 obtain⟨a,cap,hv,hc,h⟩:=h;refine⟨a,cap,by simpa using hv,by simpa using hc,fun k hk=>?_⟩;obtain⟨b,off,ha,hb,hx⟩:=h k [sv l[k]] (by rw[List.getElem?_map,List.getElem?_eq_getElem hk];rfl);exact⟨b,off,ha,hb,by have:=hx 0 (sv l[k]) rfl;simpa[sv] using this⟩
end
section
open Go.RowKit
structure AppTy(T e size bytes:Nat):Prop where
 ht:Tryz.prog.underlying T=some (.slice e)
 info:∃ i z,Tryz.prog.info? e=some i/\i.zero=some z/\i.size=size/\i.bytes=bytes/\z.cells.size=size
 pos:0<size
 few:bytes<=128
theorem AppTy.of{T e size bytes:Nat}{z:Value}(ht:Tryz.prog.underlying T=some (.slice e))(h:(Tryz.prog.info? e).map (fun i=>(i.zero,i.size,i.bytes))=some (some z,size,bytes))(hz:z.cells.size=size)(hp:0<size)(hb:bytes<=128):AppTy T e size bytes:=by
 obtain⟨i0,hi,hz0,hz1,hz2⟩:=info_parts h;exact⟨ht,⟨i0,z,hi,hz0,hz1,hz2,hz⟩,hp,hb⟩
theorem app38:AppTy 38 9 1 16:=AppTy.of Tryz.underlying38 infoStr rfl (by decide) (by decide)
theorem cells_new(w:World)(us:List Value)(t:TypeId):∀ (j:Nat) u,us[j]? = some u->(w.alloc (.cells us.toArray t)).cell? ((⟨w.heap.size,0,none⟩:Addr).add j)=some u:=by
 intro j u hj;have e:((⟨w.heap.size,0,none⟩:Addr).add j)=⟨w.heap.size,j,none⟩:=by
  unfold Addr.add;split
  ·rename_i h;rw[h]
  ·simp
 rw[e,World.cell?_alloc_at _ _ _ _ rfl];simp[hj]
theorem wp_app{T e size bytes:Nat}(A:AppTy T e size bytes)(w:World){ops:Array Oper}{rest:List Oper}{o:Oper}{a:Act}{Q:Exit->Act->World->Prop}(us:List Value)
  (hus:us.length=size)(h1:∀ u∈us,u.oneCell'=true)(hgd:o.guard=none)(s x:Operand)
  (ho:o.op=.call { callee:=.builtin .append,args:=#[s,x],argTypes:=#[T,T] })(B:Nat)(v:Value)(n:Nat)(xs:List Value)(hs:a.eval s=v)(hown:w.ownsRow B e size v n xs)
  (hx:a.eval x=.slice (some ⟨w.heap.size,0,none⟩) 1 1)(hn:n<1099511627776)(hB:B<=w.heap.size)
  (h:∀ v' w',w'.ownsRow B e size v' (n+1) (xs ++ us)->w.grownBy w' v.ownBlock->(∃ g cap,v'=.slice (some ⟨g,0,none⟩) (n+1) cap)->wpList Tryz.prog ops Q rest (a.put o.dst v') w'):
  wpList Tryz.prog ops Q (o :: rest) a (w.alloc (.cells us.toArray e)):=by
 obtain⟨ht,⟨i0,z,hi,hz0,hz1,hz2,hz⟩,hp,hb⟩:=A;refine wpList_append_own _ hgd s x T ho B e i0 z size bytes ht hi hz0 hz1 hz2 hz hp v n xs hs (hown.alloc _) ⟨w.heap.size,0,none⟩ 1 1 us hx (by rw[hus,Nat.one_mul]) (cells_new _ _ _) h1 (by unfold maxLen;omega) ?_ (by simp;omega) ?_
 ·have:(n+1)*bytes<=(n+1)*128:=Nat.mul_le_mul_left _ hb
  omega
 ·intro v' w' h2 h3 h4
  refine h v' w' h2 ?_ ?_
  ·have hsz:=h3.size
   simp only[World.size_alloc] at hsz;exact⟨h3.os,h3.tape,h3.output,by omega,fun k hk hne=>(h3.block k (by simp;omega) hne).trans (Below.heap_alloc _ _ _ hk)⟩
  ·rcases h2.2 with⟨_,h0⟩|⟨g,cap,_,hv,_⟩
   ·omega
   ·exact⟨g,cap,hv⟩
theorem wp_app_at{T e size bytes:Nat}(A:AppTy T e size bytes)(w:World){ops:Array Oper}{rest:List Oper}{o:Oper}{a:Act}{Q:Exit->Act->World->Prop}(us:List Value)
  (hus:us.length=size)(h1:∀ u∈us,u.oneCell'=true)(hgd:o.guard=none)(s x:Operand)
  (ho:o.op=.call { callee:=.builtin .append,args:=#[s,x],argTypes:=#[T,T] })(B:Nat)(v:Value)(n:Nat)(xs:List Value)(hs:a.eval s=v)(hown:w.ownsRow B e size v n xs)
  (hx:a.eval x=.slice (some ⟨w.heap.size,0,none⟩) 1 1)(hn:n<1099511627776)(hB:B<=w.heap.size)
  (h:∀ v' w',w'.ownsRow B e size v' (n+1) (xs ++ us)->w.grownBy w' v.ownBlock->(∃ g cap,v'=.slice (some ⟨g,0,none⟩) (n+1) cap)->(v'.ownBlock=v.ownBlock\/∃ g,v'.ownBlock=some g/\w.heap.size<=g)->wpList Tryz.prog ops Q rest (a.put o.dst v') w'):
  wpList Tryz.prog ops Q (o :: rest) a (w.alloc (.cells us.toArray e)):=by
 obtain⟨ht,⟨i0,z,hi,hz0,hz1,hz2,hz⟩,hp,hb⟩:=A;refine wpList_append_own_at _ hgd s x T ho B e i0 z size bytes ht hi hz0 hz1 hz2 hz hp v n xs hs (hown.alloc _) ⟨w.heap.size,0,none⟩ 1 1 us hx (by rw[hus,Nat.one_mul]) (cells_new _ _ _) h1 (by unfold maxLen;omega) ?_ (by simp;omega) ?_
 ·have:(n+1)*bytes<=(n+1)*128:=Nat.mul_le_mul_left _ hb
  omega
 ·intro v' w' h2 h3 h4 h5
  refine h v' w' h2 ?_ ?_ (h5.imp id fun e=>⟨_,e,by simp⟩)
  ·have hsz:=h3.size
   simp only[World.size_alloc] at hsz;exact⟨h3.os,h3.tape,h3.output,by omega,fun k hk hne=>(h3.block k (by simp;omega) hne).trans (Below.heap_alloc _ _ _ hk)⟩
  ·rcases h2.2 with⟨_,h0⟩|⟨g,cap,_,hv,_⟩
   ·omega
   ·exact⟨g,cap,hv⟩
theorem below_of_grown{B:Nat}{a w w':World}{e size n:Nat}{v:Value}{xs:List Value}(h:Below B a w)(hB:B<=w.heap.size)(hown:w.ownsRow B e size v n xs)(hg:w.grownBy w' v.ownBlock):Below B a w':=
 h.grown hg hB fun k hk=>(hown.lt k hk).1
theorem below_drawn(w:World)(n:Nat):Below w.heap.size w (w.drewN n):=below_drewN (Below.refl _ _) n
theorem bcell{W w1:World}(hb:Below W.heap.size W w1):(∀ b o,b<W.heap.size->w1.cell? ⟨b,o,none⟩=W.cell? ⟨b,o,none⟩)/\(∀ b o,b<W.heap.size->w1.frozen? ⟨b,o,none⟩=W.frozen? ⟨b,o,none⟩):=
 ⟨fun b o h=>hb.cell (p:=⟨b,o,none⟩) h,fun b o h=>hb.frozen (p:=⟨b,o,none⟩) h⟩
namespace W3
theorem row_base{w:World}{B B':Nat}{e:TypeId}{size n:Nat}{v:Value}{xs:List Value}(h:w.ownsRow B e size v n xs)(hB:B'<=B):w.ownsRow B' e size v n xs:=by
 obtain⟨h1,h2⟩:=h;refine⟨h1,?_⟩
 rcases h2 with h2|⟨g,cap,cur,hv,hg,r⟩
 ·exact .inl h2
 ·exact .inr ⟨g,cap,cur,hv,Nat.le_trans hB hg,r⟩
theorem row_keep{w w':World}{B:Nat}{e:TypeId}{size n:Nat}{v:Value}{xs:List Value}(h:w.ownsRow B e size v n xs)(hb:Below w.heap.size w w'):w'.ownsRow B e size v n xs:=by
 obtain⟨h1,h2⟩:=h;refine⟨h1,?_⟩
 rcases h2 with h2|⟨g,cap,cur,hv,hg,hh,r⟩
 ·exact .inl h2
 ·refine .inr ⟨g,cap,cur,hv,hg,?_,r⟩
  rw[hb.block g (Array.getElem?_eq_some_iff.1 hh).1];exact hh
theorem row_slice{w:World}{B:Nat}{e:TypeId}{size n:Nat}{v:Value}{xs:List Value}(h:w.ownsRow B e size v n xs):∃ a cap,v=.slice a n cap:=by
 rcases h.2 with⟨rfl,rfl⟩|⟨g,cap,cur,hv,_⟩
 ·exact⟨none,0,rfl⟩
 ·exact⟨_,cap,hv⟩
end W3
end
section
open Go.RowKit
theorem info187:(Tryz.prog.info? 187).map (fun i=>(i.zero,i.size,i.bytes))=some (some (.agg #[.string ⟨#[]⟩,.string ⟨#[]⟩,.string ⟨#[]⟩]),3,48):=by kernel_rfl
theorem info170:(Tryz.prog.info? 170).map (fun i=>(i.zero,i.size,i.bytes))=some (some (.slice none 0 0),1,24):=by kernel_rfl
theorem info3:(Tryz.prog.info? 3).map (fun i=>(i.zero,i.size,i.bytes))=some (some (.int .i64 0),1,8):=by kernel_rfl
theorem info182:(Tryz.prog.info? 182).map (fun i=>(i.zero,i.size,i.bytes))=some (some (.agg #[.string ⟨#[]⟩,.string ⟨#[]⟩]),2,32):=by kernel_rfl
theorem app170:AppTy 170 187 3 48:=AppTy.of Tryz.underlying170 info187 rfl (by decide) (by decide)
theorem app169:AppTy 169 170 1 24:=AppTy.of Tryz.underlying169 info170 rfl (by decide) (by decide)
theorem app77:AppTy 77 3 1 8:=AppTy.of Tryz.underlying77 info3 rfl (by decide) (by decide)
theorem app173:AppTy 173 182 2 32:=AppTy.of Tryz.underlying173 info182 rfl (by decide) (by decide)
namespace W3
theorem mapO_snoc{α β:Type}(f:α->Option β)(x:α):∀ l:List α,Sp.mapO f (l ++ [x])=match Sp.mapO f l,f x with
  | some ys,some y=>some (ys ++ [y])
  | _,_=>none
 | []=>by simp only[List.nil_append,Sp.mapO];cases f x <;> rfl
 | a :: r=>by
  simp only[List.cons_append,Sp.mapO,mapO_snoc f x r]
  cases f a <;> cases Sp.mapO f r <;> cases f x <;> rfl
theorem mapO_len{α β:Type}(f:α->Option β):∀ (l:List α) (ys:List β),Sp.mapO f l=some ys->ys.length=l.length
 | [],ys,h=>by simp only[Sp.mapO] at h;cases h;rfl
 | a :: r,ys,h=>by
  simp only[Sp.mapO] at h
  split at h
  ·rename_i y ys' _ hr
   cases h
   simp[mapO_len f r ys' hr]
  ·cases h
theorem mapO_stop{α β:Type}(f:α->Option β)(x:α):∀ l:List α,x∈l->f x=none->Sp.mapO f l=none
 | a :: r,hx,hf=>by
  simp only[Sp.mapO]
  rcases List.mem_cons.1 hx with rfl|hx
  ·rw[hf]
  ·rw[mapO_stop f x r hx hf]
   split
   ·rename_i h;cases h
   ·rfl
theorem mapO_next{α β:Type}{f:α->Option β}{l:List α}{k:Nat}{done:List β}{y:β}(hk:k<l.length)(h:Sp.mapO f (l.take k)=some done)(hy:f l[k]=some y):Sp.mapO f (l.take (k+1))=some (done ++ [y]):=by
 rw[List.take_succ_eq_append_getElem hk,mapO_snoc,h,hy]
theorem each_of{α:Type}{s sep:Sp.Str}{most:Nat}{one:Sp.Str->Option α}{L:List Sp.Str}{l:List α}(hL:L=Lib.split s sep)(h:Sp.mapO one L=some l):Sp.each s sep most one=if l.length<=most then some l else none:=by
 unfold Sp.each;rw[<-hL,h]
theorem each_stop{α:Type}{s sep:Sp.Str}{most:Nat}{one:Sp.Str->Option α}{L:List Sp.Str}(hL:L=Lib.split s sep)(h:Sp.mapO one L=none):Sp.each s sep most one=none:=by
 unfold Sp.each;rw[<-hL,h]
end W3
def chCells(c:Sp.Ch):List Value:=[sv c.name,sv c.sign,sv c.ver]
def chRow(l:List Sp.Ch):List Value:=l.flatMap chCells
theorem chRow_snoc(l:List Sp.Ch)(c:Sp.Ch):chRow l ++ [sv c.name,sv c.sign,sv c.ver]=chRow (l ++ [c]):=by
 simp[chRow,chCells]
def ChOn(S:Nat->Prop)(w:World)(v:Value)(cs:List Sp.Ch):Prop:=SlOn S w 3 v (cs.map chCells)
theorem chRow_flat(cs:List Sp.Ch):(cs.map chCells).flatten=chRow cs:=by simp[chRow,List.flatMap]
theorem ChOn.of_row{w:World}{B:Nat}{v:Value}{cs:List Sp.Ch}(h:w.ownsRow B 187 3 v cs.length (chRow cs)):ChOn (fun b=>b<w.heap.size/\B<=b/\v.ownBlock=some b) w v cs:=
 sl_of_row (e:=187) (fun x hx=>by obtain⟨c,_,rfl⟩:=List.mem_map.1 hx;rfl) (by rw[List.length_map,chRow_flat];exact h)
def groupO(s:Sp.Str):Option (List Sp.Ch):=Sp.each s [32,124,32] 3 Sp.choose
def GrpsOn(S:Nat->Prop)(w:World)(vs:List Value)(gs:List (List Sp.Ch)):Prop:=
 vs.length=gs.length/\∀ (j:Nat) x cs,vs[j]? = some x->gs[j]? = some cs->ChOn S w x cs
theorem GrpsOn.nil(S:Nat->Prop)(w:World):GrpsOn S w [] []:=⟨rfl,fun j x cs h=>by simp at h⟩
theorem GrpsOn.keep{S:Nat->Prop}{w w':World}{vs:List Value}{gs:List (List Sp.Ch)}(h:GrpsOn S w vs gs)(hb:∀ b,S b->w'.heap[b]? = w.heap[b]?):GrpsOn S w' vs gs:=
 ⟨h.1,fun j x cs h1 h2=>SlOn.keep (h.2 j x cs h1 h2) hb⟩
theorem GrpsOn.mono{S S':Nat->Prop}{w:World}{vs:List Value}{gs:List (List Sp.Ch)}(h:GrpsOn S w vs gs)(hm:∀ b,S b->S' b):GrpsOn S' w vs gs:=
 ⟨h.1,fun j x cs h1 h2=>SlOn.mono (h.2 j x cs h1 h2) hm⟩
theorem GrpsOn.snoc{S:Nat->Prop}{w:World}{vs:List Value}{gs:List (List Sp.Ch)}(h:GrpsOn S w vs gs){x:Value}{c:List Sp.Ch}(hx:ChOn S w x c):GrpsOn S w (vs ++ [x]) (gs ++ [c]):=by
 refine⟨by simp[h.1],fun j y cs h1 h2=>?_⟩
 by_cases hj:j<vs.length
 ·rw[List.getElem?_append_left hj] at h1
  rw[List.getElem?_append_left (by rw[<-h.1];exact hj)] at h2;exact h.2 j y cs h1 h2
 ·have hj':j=vs.length:=by
   have:=(List.getElem?_eq_some_iff.1 h1).1;simp at this;omega
  subst hj';rw[List.getElem?_append_right (Nat.le_refl _)] at h1;rw[List.getElem?_append_right (by rw[h.1];exact Nat.le_refl _),h.1] at h2;simp at h1 h2;rw[<-h1,<-h2];exact hx
theorem GrpsOn.app{m:Nat}{w w2 w3:World}{vs:List Value}{gs:List (List Sp.Ch)}{v v' x:Value}{c:List Sp.Ch}(h:GrpsOn (fun b=>b<w.heap.size/\m<=b/\v.ownBlock≠some b) w vs gs)
  (hx:ChOn (fun b=>b<w2.heap.size/\w.heap.size<=b) w2 x c)(hb:Below w.heap.size w w2)(hm:m<=w.heap.size)(hv:∀ k,v.ownBlock=some k->k<w.heap.size)(hg:w2.grownBy w3 v.ownBlock)(hat:v'.ownBlock=v.ownBlock\/∃ g,v'.ownBlock=some g/\w2.heap.size<=g):
  GrpsOn (fun b=>b<w3.heap.size/\m<=b/\v'.ownBlock≠some b) w3 (vs ++ [x]) (gs ++ [c]):=by
 have hs2:=hb.size;have hs3:=hg.size;have hne:∀ b,b<w2.heap.size->v.ownBlock≠some b->v'.ownBlock≠some b:=fun b h1 h2=>by
  rcases hat with e|⟨g,e,h3⟩
  ·rw[e];exact h2
  ·rw[e];intro e';cases e';omega
 refine GrpsOn.snoc ?_ ?_
 ·refine((h.keep (w':=w2) fun b hb1=>hb.block b hb1.1).keep (w':=w3) fun b hb1=>hg.block b (by omega) (fun e=>hb1.2.2 e.symm)).mono fun b hb1=>⟨by omega,hb1.2.1,hne b (by omega) hb1.2.2⟩
 ·have hnv:∀ b,w.heap.size<=b->v.ownBlock≠some b:=fun b h1 h2=>by have:=hv b h2;omega
  exact(SlOn.keep hx fun b hb1=>hg.block b hb1.1 (fun e=>hnv b hb1.2 e.symm)).mono fun b hb1=>⟨by omega,by omega,hne b hb1.1 (hnv b hb1.2)⟩
theorem flat_one(vs:List Value):(vs.map fun x=>[x]).flatten=vs:=by
 induction vs with
 | nil=>rfl
 | cons a r ih=>rw[List.map_cons,List.flatten_cons,ih];rfl
theorem one_row{w:World}{B n:Nat}{e:TypeId}{v:Value}{vs:List Value}(hn:vs.length=n)(h:w.ownsRow B e 1 v n vs):SlOn (fun b=>b<w.heap.size/\B<=b/\v.ownBlock=some b) w 1 v (vs.map fun x=>[x]):=by
 subst hn;refine sl_of_row (e:=e) (fun x hx=>?_) ?_
 ·obtain⟨s,_,rfl⟩:=List.mem_map.1 hx;rfl
 ·rw[List.length_map,flat_one];exact h
def GsOn(S:Nat->Prop)(w:World)(v:Value)(gs:List (List Sp.Ch)):Prop:=∃ vs,SlOn S w 1 v (vs.map fun x=>[x])/\GrpsOn S w vs gs
namespace W6
theorem printC_bare(c:Sp.Ch)(h:c.sign=[]):Sp.printC c=c.name:=by unfold Sp.printC;rw[h];rfl
theorem printC_more(c:Sp.Ch)(h:c.sign≠[]):Sp.printC c=c.name ++ [32,40] ++ c.sign ++ [32] ++ c.ver ++ [41]:=by
 unfold Sp.printC;rw[if_neg (by simpa using h)]
end W6
theorem ChOn.get{S:Nat->Prop}{w:World}{v:Value}{cs:List Sp.Ch}(h:ChOn S w v cs):∃ a cap,v=.slice a cs.length cap/\cs.length<=cap/\∀ k,(hk:k<cs.length)->∃ b off,a=some ⟨b,off,none⟩/\S b /\
  w.cell? ⟨b,off+k*3,none⟩=some (sv cs[k].name)/\w.cell? ⟨b,off+k*3+1,none⟩=some (sv cs[k].sign)/\w.cell? ⟨b,off+k*3+1+1,none⟩=some (sv cs[k].ver):=by
 obtain⟨a,cap,hv,hc,h⟩:=h;refine⟨a,cap,by simpa using hv,by simpa using hc,fun k hk=>?_⟩;obtain⟨b,off,ha,hb,hx⟩:=h k (chCells cs[k]) (by rw[List.getElem?_map,List.getElem?_eq_getElem hk];rfl);exact⟨b,off,ha,hb,hx 0 _ rfl,hx 1 _ rfl,hx 2 _ rfl⟩
namespace W8
theorem join_bound(sep:Sp.Str)(M n:Nat)(xs:List Sp.Str)(h:∀ x∈xs,x.length<=M)(hn:xs.length<=n):(Lib.join xs sep).length<=n*(M+sep.length):=by
 have hl:∀ ys:List Sp.Str,(∀ x∈ys,x.length<=M)->Lib.lens ys<=ys.length*M:=by
  intro ys
  induction ys with
  | nil=>intro _;simp[Lib.lens]
  | cons y r ih =>
   intro hy;have h1:=ih fun x hx=>hy x (List.mem_cons_of_mem _ hx)
   have h2:=hy y List.mem_cons_self;have h3:Lib.lens (y :: r)=y.length+Lib.lens r:=by simp[Lib.lens]
   rw[h3,List.length_cons,Nat.succ_mul];omega
 cases xs with
 | nil=>rw[Lib.join_nil];exact Nat.zero_le _
 | cons x r =>
  rw[Lib.join_length];have h1:=hl (x :: r) h;have h2:(x :: r).length*(M+sep.length)<=n*(M+sep.length):=Nat.mul_le_mul_right _ hn;rw[Nat.mul_add] at h2;have h3:sep.length*r.length<=(x :: r).length*sep.length:=by rw[Nat.mul_comm];exact Nat.mul_le_mul_right _ (by simp)
  omega
end W8
def ChOk(c:Sp.Ch):Prop:=c.name.length+c.sign.length+c.ver.length<1000
structure PkOk(p:Sp.Pk):Prop where
 name:p.name.length<1000
 ver:p.ver.length<1000
 needs:p.needs.length<=3
 groups:∀ g∈p.needs,g.length<=3/\∀ c∈g,ChOk c
 bars:p.bars.length<=3
 barred:∀ c∈p.bars,ChOk c
 files:p.files.length<=4
 paths:∀ f∈p.files,f.path.length+f.content.length<1000
theorem printC_len(c:Sp.Ch)(h:ChOk c):(Sp.printC c).length<=1010:=by
 unfold ChOk at h
 by_cases e:c.sign=[]
 ·rw[W6.printC_bare c e];omega
 ·rw[W6.printC_more c e];simp;omega
def groupText(g:List Sp.Ch):Sp.Str:=Lib.join (g.map Sp.printC) [32,124,32]
theorem groupText_len(g:List Sp.Ch)(hg:g.length<=3)(h:∀ c∈g,ChOk c):(groupText g).length<=3039:=by
 have:=W8.join_bound [32,124,32] 1010 3 (g.map Sp.printC) (fun x hx=>by obtain⟨c,hc,rfl⟩:=List.mem_map.1 hx;exact printC_len c (h c hc)) (by simpa using hg);unfold groupText;simp at this ⊢;omega
theorem GsOn.get{S:Nat->Prop}{w:World}{v:Value}{gs:List (List Sp.Ch)}(h:GsOn S w v gs):∃ a cap,v=.slice a gs.length cap/\gs.length<=cap/\∀ k,(hk:k<gs.length)->∃ b off x,a=some ⟨b,off,none⟩/\S b /\
  w.cell? ⟨b,off+k,none⟩=some x/\ChOn S w x gs[k]:=by
 obtain⟨vs,⟨a,cap,hv,hc,h⟩,hl,hg⟩:=h;refine⟨a,cap,by simpa[hl] using hv,by simpa[hl] using hc,fun k hk=>?_⟩;have hk':k<vs.length:=by omega
 obtain⟨b,off,ha,hb,hx⟩:=h k [vs[k]] (by rw[List.getElem?_map,List.getElem?_eq_getElem hk'];rfl);exact⟨b,off,vs[k],ha,hb,by simpa using hx 0 _ rfl,hg k vs[k] gs[k] (List.getElem?_eq_getElem hk') (List.getElem?_eq_getElem hk)⟩
def flCells(f:Sp.Fl):List Value:=[sv f.path,sv f.content]
def FlOn(S:Nat->Prop)(w:World)(v:Value)(fs:List Sp.Fl):Prop:=SlOn S w 2 v (fs.map flCells)
theorem FlOn.get{S:Nat->Prop}{w:World}{v:Value}{fs:List Sp.Fl}(h:FlOn S w v fs):∃ a cap,v=.slice a fs.length cap/\fs.length<=cap/\∀ k,(hk:k<fs.length)->∃ b off,a=some ⟨b,off,none⟩/\S b /\
  w.cell? ⟨b,off+k*2,none⟩=some (sv fs[k].path)/\w.cell? ⟨b,off+k*2+1,none⟩=some (sv fs[k].content):=by
 obtain⟨a,cap,hv,hc,h⟩:=h;refine⟨a,cap,by simpa using hv,by simpa using hc,fun k hk=>?_⟩;obtain⟨b,off,ha,hb,hx⟩:=h k (flCells fs[k]) (by rw[List.getElem?_map,List.getElem?_eq_getElem hk];rfl);exact⟨b,off,ha,hb,hx 0 _ rfl,hx 1 _ rfl⟩
def IsPack(S:Nat->Prop)(w:World)(b:Nat)(p:Sp.Pk):Prop:=
 ∃ nv bv fv,S b/\w.cell? ⟨b,0,none⟩=some nv/\w.cell? ⟨b,1,none⟩=some bv/\w.cell? ⟨b,2,none⟩=some (sv p.name)/\w.cell? ⟨b,3,none⟩=some (sv p.ver)/\w.cell? ⟨b,4,none⟩=some fv /\
  GsOn S w nv p.needs/\ChOn S w bv p.bars/\FlOn S w fv p.files/\(p.needs=[]->nv=.slice none 0 0)/\(p.bars=[]->bv=.slice none 0 0)
theorem GsOn.keep{S:Nat->Prop}{w w':World}{v:Value}{gs:List (List Sp.Ch)}(h:GsOn S w v gs)(hb:∀ b,S b->w'.heap[b]? = w.heap[b]?):GsOn S w' v gs:=by
 obtain⟨vs,h1,h2⟩:=h;exact⟨vs,SlOn.keep h1 hb,h2.keep hb⟩
theorem GsOn.mono{S S':Nat->Prop}{w:World}{v:Value}{gs:List (List Sp.Ch)}(h:GsOn S w v gs)(hm:∀ b,S b->S' b):GsOn S' w v gs:=by
 obtain⟨vs,h1,h2⟩:=h;exact⟨vs,SlOn.mono h1 hm,h2.mono hm⟩
theorem IsPack.keep{S:Nat->Prop}{w w':World}{b:Nat}{p:Sp.Pk}(h:IsPack S w b p)(hb:∀ b,S b->w'.heap[b]? = w.heap[b]?):IsPack S w' b p:=by
 obtain⟨nv,bv,fv,hS,h0,h1,h2,h3,h4,g0,g1,g2,n0,n1⟩:=h;have hc:∀ o,w'.cell? ⟨b,o,none⟩=w.cell? ⟨b,o,none⟩:=fun o=>World.cell?_of_block (w:=w) (hb b hS)
 exact⟨nv,bv,fv,hS,(hc 0).trans h0,(hc 1).trans h1,(hc 2).trans h2,(hc 3).trans h3,(hc 4).trans h4,g0.keep hb,SlOn.keep g1 hb,SlOn.keep g2 hb,n0,n1⟩
theorem IsPack.mono{S S':Nat->Prop}{w:World}{b:Nat}{p:Sp.Pk}(h:IsPack S w b p)(hm:∀ b,S b->S' b):IsPack S' w b p:=by
 obtain⟨nv,bv,fv,hS,h0,h1,h2,h3,h4,g0,g1,g2,n0,n1⟩:=h;exact⟨nv,bv,fv,hm b hS,h0,h1,h2,h3,h4,g0.mono hm,SlOn.mono g1 hm,SlOn.mono g2 hm,n0,n1⟩
theorem slice_some{S:Nat->Prop}{w:World}{sz:Nat}{v:Value}{xs:List (List Value)}(h:SlOn S w sz v xs)(hne:xs≠[]):∃ b off cap,v=.slice (some ⟨b,off,none⟩) xs.length cap:=by
 obtain⟨a,cap,hv,_,h⟩:=h
 cases xs with
 | nil=>exact absurd rfl hne
 | cons x r =>
  obtain⟨b,off,ha,_⟩:=h 0 x rfl;exact⟨b,off,cap,by rw[hv,ha]⟩
def head0(p:Sp.Pk):Sp.Str:=[112,97,99,107,97,103,101,32] ++ p.name ++ [32] ++ p.ver
def head1(p:Sp.Pk):Sp.Str:=head0 p ++ (if p.needs.isEmpty then [] else [10,110,101,101,100,115,32] ++ Lib.join (p.needs.map groupText) [44,32])
def head2(p:Sp.Pk):Sp.Str:=head1 p ++ (if p.bars.isEmpty then [] else [10,98,97,114,115,32] ++ Lib.join (p.bars.map Sp.printC) [44,32])
theorem print_eq(p:Sp.Pk):Sp.print p=head2 p ++ (p.files.map Sp.printF).flatten:=by
 unfold Sp.print head2 head1 head0 groupText;rfl
theorem head1_len(p:Sp.Pk)(hok:PkOk p):(head1 p).length<=20000:=by
 have h1:=hok.name;have h2:=hok.ver;have hjl:=W8.join_bound [44,32] 3039 3 (p.needs.map groupText) (fun x hx=>by obtain⟨g,hg,rfl⟩:=List.mem_map.1 hx;exact groupText_len g (hok.groups g hg).1 (hok.groups g hg).2) (by rw[List.length_map];exact hok.needs);have hjl2:(Lib.join (p.needs.map groupText) [44,32]).length<=10000:=Nat.le_trans hjl (by decide);unfold head1 head0
 split
 ·simp;omega
 ·simp;omega
theorem head2_len(p:Sp.Pk)(hok:PkOk p):(head2 p).length<=40000:=by
 have h1:=head1_len p hok;have hjl:=W8.join_bound [44,32] 1010 3 (p.bars.map Sp.printC) (fun x hx=>by obtain⟨g,hg,rfl⟩:=List.mem_map.1 hx;exact printC_len g (hok.barred g hg)) (by rw[List.length_map];exact hok.bars);have hjl2:(Lib.join (p.bars.map Sp.printC) [44,32]).length<=10000:=Nat.le_trans hjl (by decide);unfold head2
 split
 ·simp;omega
 ·simp;omega
def files_text(p:Sp.Pk)(k:Nat):Sp.Str:=((p.files.take k).map Sp.printF).flatten
theorem files_next(p:Sp.Pk)(k:Nat)(h:k<p.files.length):files_text p (k+1)=files_text p k ++ Sp.printF p.files[k]:=by
 unfold files_text;rw[List.take_succ_eq_append_getElem h,List.map_append,List.flatten_append];simp
theorem files_len(p:Sp.Pk)(hok:PkOk p)(k:Nat):(files_text p k).length<=10000:=by
 have hb:∀ (l:List Sp.Fl),(∀ f∈l,f.path.length+f.content.length<1000)->((l.map Sp.printF).flatten).length<=l.length*1010:=by
  intro l
  induction l with
  | nil=>intro _;simp
  | cons f r ih =>
   intro h;have h1:=ih fun g hg=>h g (List.mem_cons_of_mem _ hg)
   have h2:=h f List.mem_cons_self;have h3:(Sp.printF f).length<=1010:=by unfold Sp.printF;simp;omega
   rw[List.map_cons,List.flatten_cons,List.length_append,List.length_cons,Nat.succ_mul];omega
 have h1:=hb (p.files.take k) fun f hf=>hok.paths f (List.mem_of_mem_take hf)
 have h2:=hok.files;have h3:(p.files.take k).length<=4:=by rw[List.length_take];omega
 unfold files_text;omega
theorem str_eq{a b:ByteArray}(h:bl a=bl b):Value.string a=.string b:=by rw[bl_inj h]
end
section
namespace P3
theorem cmp_lt:∀ a b:Sp.Str,(Lib.compareBytes a b<0)↔Sp.strLt a b=true
 | [],[]=>by simp[Lib.compareBytes,Sp.strLt]
 | [],_ :: _=>by simp[Lib.compareBytes,Sp.strLt]
 | _ :: _,[]=>by simp[Lib.compareBytes,Sp.strLt]
 | a :: x,b :: y=>by
  unfold Lib.compareBytes Sp.strLt
  split
  ·simp
  ·split
   ·simp
   ·exact cmp_lt x y
theorem lt_iff:∀ a b:Sp.Str,Sp.strLt a b=true↔a<b
 | [],[]=>by simp[Sp.strLt]
 | [],_ :: _=>by simp[Sp.strLt]
 | _ :: _,[]=>by simp[Sp.strLt]
 | a :: x,b :: y=>by
  unfold Sp.strLt;rw[List.cons_lt_cons_iff]
  split
  ·rename_i h;simp[h]
  ·split
   ·rename_i h1 h2
    simp only[Bool.false_eq_true,false_iff,not_or,not_and];refine⟨h1,fun e=>?_⟩;subst e;exact absurd h2 (UInt8.lt_irrefl _)
   ·rename_i h1 h2
    have e:a=b:=UInt8.le_antisymm (UInt8.not_lt.1 h2) (UInt8.not_lt.1 h1);rw[lt_iff x y];simp[e]
def Ord(l:List Sp.Fl):Prop:=l.Pairwise (fun a b=>a.path<=b.path)
theorem ins_mid(f:Sp.Fl):∀ (pre moved:List Sp.Fl),(∀ g∈pre,Sp.strLt f.path g.path=false)->(∀ g r,moved=g :: r->Sp.strLt f.path g.path=true)->Sp.insertF f (pre ++ moved)=pre ++ f :: moved
 | [],[],_,_=>rfl
 | [],g :: r,_,h=>by
  show Sp.insertF f (g :: r)=f :: g :: r
  unfold Sp.insertF;rw[if_pos (h g r rfl)]
 | p :: pre,moved,h1,h2=>by
  show Sp.insertF f (p :: (pre ++ moved))=p :: (pre ++ f :: moved)
  unfold Sp.insertF;rw[if_neg (by rw[h1 p (by simp)];simp),ins_mid f pre moved (fun g hg=>h1 g (by simp[hg])) h2]
theorem ins_mem(f:Sp.Fl):∀ (l:List Sp.Fl) (x:Sp.Fl),x∈Sp.insertF f l↔x=f\/x∈l
 | [],x=>by simp[Sp.insertF]
 | g :: r,x=>by
  unfold Sp.insertF
  split
  ·simp
  ·rw[List.mem_cons,ins_mem f r x,List.mem_cons]
   constructor
   ·rintro (h|h|h)
    ·exact .inr (.inl h)
    ·exact .inl h
    ·exact .inr (.inr h)
   ·rintro (h|h|h)
    ·exact .inr (.inl h)
    ·exact .inl h
    ·exact .inr (.inr h)
theorem ins_ord(f:Sp.Fl):∀ l:List Sp.Fl,Ord l->Ord (Sp.insertF f l)
 | [],_=>by simp[Sp.insertF,Ord]
 | g :: r,h=>by
  obtain⟨h1,h2⟩:=List.pairwise_cons.1 h;unfold Sp.insertF
  split
  ·rename_i hlt
   have hlt':=(lt_iff _ _).1 hlt;refine List.pairwise_cons.2 ⟨fun x hx=>?_,h⟩
   rcases List.mem_cons.1 hx with rfl|hx
   ·exact List.le_of_lt hlt'
   ·exact List.le_trans (List.le_of_lt hlt') (h1 x hx)
  ·rename_i hlt
   have hle:g.path<=f.path:=by
    rw[lt_iff] at hlt;exact List.not_lt.1 hlt
   refine List.pairwise_cons.2 ⟨fun x hx=>?_,ins_ord f r h2⟩
   rcases (ins_mem f r x).1 hx with rfl|hx
   ·exact hle
   ·exact h1 x hx
theorem ins_len(f:Sp.Fl):∀ l:List Sp.Fl,(Sp.insertF f l).length=l.length+1
 | []=>rfl
 | g :: r=>by
  unfold Sp.insertF
  split
  ·simp
  ·simp[ins_len f r]
theorem sort_ord(l:List Sp.Fl):∀ acc,Ord acc->Ord (l.foldl (fun a f=>Sp.insertF f a) acc):=by
 induction l with
 | nil=>intro acc h;exact h
 | cons x r ih=>intro acc h;exact ih _ (ins_ord x acc h)
theorem sortF_ord(l:List Sp.Fl):Ord (Sp.sortF l):=sort_ord l [] List.Pairwise.nil
theorem sort_len(l:List Sp.Fl):∀ acc,(l.foldl (fun a f=>Sp.insertF f a) acc).length=acc.length+l.length:=by
 induction l with
 | nil=>intro acc;simp
 | cons x r ih=>intro acc;rw[List.foldl_cons,ih,ins_len,List.length_cons];omega
theorem sortF_len(l:List Sp.Fl):(Sp.sortF l).length=l.length:=by
 unfold Sp.sortF;rw[sort_len];simp
theorem sort_mem(l:List Sp.Fl):∀ acc x,x∈l.foldl (fun a f=>Sp.insertF f a) acc↔x∈acc\/x∈l:=by
 induction l with
 | nil=>intro acc x;simp
 | cons y r ih =>
  intro acc x;rw[List.foldl_cons,ih,ins_mem,List.mem_cons];constructor
  ·rintro ((h|h)|h)
   ·exact .inr (.inl h)
   ·exact .inl h
   ·exact .inr (.inr h)
  ·rintro (h|h|h)
   ·exact .inl (.inr h)
   ·exact .inl (.inl h)
   ·exact .inr h
theorem sortF_mem(l:List Sp.Fl)(x:Sp.Fl):x∈Sp.sortF l↔x∈l:=by
 unfold Sp.sortF;rw[sort_mem];simp
theorem sortF_snoc(l:List Sp.Fl)(f:Sp.Fl):Sp.sortF (l ++ [f])=Sp.insertF f (Sp.sortF l):=by
 unfold Sp.sortF;rw[List.foldl_append];rfl
theorem ins_stop{f:Sp.Fl}{pre moved:List Sp.Fl}(ho:Ord (pre ++ moved))(hm:∀ g r,moved=g :: r->Sp.strLt f.path g.path=true)
  (hp:pre=[]\/∃ pre' x,pre=pre' ++ [x]/\Sp.strLt f.path x.path=false):Sp.insertF f (pre ++ moved)=pre ++ f :: moved:=by
 refine ins_mid f pre moved (fun g hg=>?_) hm
 rcases hp with rfl|⟨pre',x,rfl,hx⟩
 ·cases hg
 ·have hx':x.path<=f.path:=by
   rw[<-Bool.not_eq_true,lt_iff] at hx;exact List.not_lt.1 hx
  have hgx:g.path<=x.path:=by
   rcases List.mem_append.1 hg with h|h
   ·have h1:Ord (pre' ++ [x]):=(List.pairwise_append.1 ho).1
    exact(List.pairwise_append.1 h1).2.2 g h x (by simp)
   ·rw[List.mem_singleton] at h;subst h;exact List.le_refl _
  rw[<-Bool.not_eq_true,lt_iff];exact List.not_lt.2 (List.le_trans hgx hx')
end P3
end
section
namespace Sp
theorem index_range(s t:Str)(ht:t≠[]):Lib.index s t=-1\/∃ i:Nat,Lib.index s t=i/\i+t.length<=s.length/\Lib.occAt s t i=true/\∀ j,j<i->Lib.occAt s t j=false:=by
 induction s with
 | nil=>left;unfold Lib.index;cases t with
  | nil=>exact absurd rfl ht
  | cons a b=>rfl
 | cons b l ih =>
  by_cases hp:t.isPrefixOf (b :: l)=true
  ·right
   refine⟨0,by unfold Lib.index;rw[if_pos hp];rfl,?_,by simpa[Lib.occAt] using hp,fun j hj=>absurd hj (Nat.not_lt_zero _)⟩;have:=(List.isPrefixOf_iff_prefix.1 hp).length_le;omega
  ·rcases ih with h|⟨i,h,h1,h2,h3⟩
   ·left;unfold Lib.index;rw[if_neg hp,h];rfl
   ·right
    refine⟨i+1,?_,by simp;omega,by simpa[Lib.occAt] using h2,?_⟩
    ·unfold Lib.index;rw[if_neg hp,h,if_neg (by simp)];rfl
    ·intro j hj
     cases j with
     | zero=>exact Bool.eq_false_iff.2 hp
     | succ j=>simpa[Lib.occAt] using h3 j (by omega)
theorem countFrom_fuel(t:Str)(ht:t≠[]):∀ (f g:Nat) (s:Str),s.length<f->s.length<g->Lib.countFrom t f s=Lib.countFrom t g s:=by
 intro f
 induction f with
 | zero=>intro g s h _;omega
 | succ f ih =>
  intro g s hf hg
  cases g with
  | zero=>omega
  | succ g =>
   simp only[Lib.countFrom]
   split
   ·rfl
   ·rename_i hne
    have hl:0<t.length:=List.length_pos_iff.2 ht
    rcases index_range s t ht with h|⟨i,h,h1,_⟩
    ·rw[h] at hne;exact absurd rfl hne
    ·congr 1
     apply ih
     ·rw[List.length_drop,h];simp;omega
     ·rw[List.length_drop,h];simp;omega
theorem count_rec(s t:Str)(ht:t≠[]):Lib.count s t=if Lib.index s t == -1 then 0 else 1+Lib.count (s.drop ((Lib.index s t).toNat+t.length)) t:=by
 show Lib.countFrom t (s.length+1) s=_
 simp only[Lib.countFrom]
 split
 ·rfl
 ·rename_i hne
  rcases index_range s t ht with h|⟨i,h,h1,_⟩
  ·rw[h] at hne;exact absurd rfl hne
  ·have hl:0<t.length:=List.length_pos_iff.2 ht
   congr 1
   apply countFrom_fuel t ht
   ·rw[List.length_drop,h];simp;omega
   ·omega
theorem split_miss(s t:Str)(ht:t≠[])(h:Lib.index s t=-1):Lib.split s t=[s]:=by
 unfold Lib.split;rw[count_rec s t ht,h];rfl
theorem split_hit(s t:Str)(ht:t≠[])(i:Nat)(h:Lib.index s t=i):Lib.split s t=s.take i :: Lib.split (s.drop (i+t.length)) t:=by
 unfold Lib.split;rw[count_rec s t ht,h,if_neg (by simp),Nat.add_comm 1];simp only[Lib.splitK,h];rw[if_neg (by simp)];simp
theorem split_ne(s t:Str)(ht:t≠[]):Lib.split s t≠[]:=by
 rcases index_range s t ht with h|⟨i,h,_⟩
 ·rw[split_miss s t ht h];simp
 ·rw[split_hit s t ht i h];simp
theorem split_at(s t:Str)(ht:t≠[])(i:Nat)(hi:i<=s.length)(ho:Lib.occAt s t i=true)(hn:∀ j,j<i->Lib.occAt s t j=false):Lib.split s t=s.take i :: Lib.split (s.drop (i+t.length)) t:=
 split_hit s t ht i (Lib.index_first hi ho hn)
theorem split_end(s t:Str)(ht:t≠[])(i:Nat)(h:s.length<i+t.length)(hn:∀ j,j<i->Lib.occAt s t j=false):Lib.split s t=[s]:=
 split_miss s t ht (Lib.index_past ht hn h)
theorem occ_take(s t:Str)(i:Nat)(hi:i+t.length<=s.length):Lib.occAt s t i=((s.drop i).take t.length == t):=Lib.occAt_iff_take s t i hi
theorem occ_drop(s t:Str)(f j:Nat):Lib.occAt (s.drop f) t j=Lib.occAt s t (f+j):=by
 unfold Lib.occAt;rw[List.drop_drop]
theorem split_len(t:Str)(ht:t≠[]):∀ (n:Nat) (s:Str),s.length<=n->(Lib.split s t).length<=s.length+1/\∀ x∈Lib.split s t,x.length<=s.length:=by
 intro n
 induction n with
 | zero =>
  intro s hs;have:s=[]:=List.length_eq_zero_iff.1 (by omega);subst this;rw[split_end [] t ht 0 (by simp;exact List.length_pos_iff.2 ht) (fun j h=>absurd h (Nat.not_lt_zero _))];simp
 | succ n ih =>
  intro s hs
  rcases index_range s t ht with h|⟨i,h,h1,_⟩
  ·rw[split_miss s t ht h];simp
  ·rw[split_hit s t ht i h]
   have hl:0<t.length:=List.length_pos_iff.2 ht;have hd:(s.drop (i+t.length)).length=s.length-(i+t.length):=List.length_drop;obtain⟨h3,h4⟩:=ih (s.drop (i+t.length)) (by rw[hd];omega);refine⟨by simp only[List.length_cons];omega,?_⟩;intro x hx
   rcases List.mem_cons.1 hx with rfl|hx
   ·rw[List.length_take];omega
   ·have:=h4 x hx;omega
theorem split_length(s t:Str)(ht:t≠[]):(Lib.split s t).length<=s.length+1:=(split_len t ht s.length s (Nat.le_refl _)).1
theorem split_mem(s t x:Str)(ht:t≠[])(hx:x∈Lib.split s t):x.length<=s.length:=(split_len t ht s.length s (Nat.le_refl _)).2 x hx
end Sp
end
end Go.Proofs.YtfphcecjhdkcoaaGreatDoor

/-
Walks of the program's small text functions: must, among, digit, name, version.
-/
import Derived.Test.YtfphcecjhdkcoaaGreatDoorScrP01
import Derived.Deep.AppendLies
import Derived.RangeFuncNested
import Derived.RangeFuncBound
import Derived.RangeFuncCalls
import Derived.RangeFuncLeaves
import Derived.Shelf.Abstract
import Derived.Shelf.RegionOpen
import Derived.WalkKit
import Derived.OwnWalkIn
import Derived.TacticsInMore
import Derived.LoopNIn
import Derived.LoopIn
import Derived.Test.YtfphcecjhdkcoaaGreatDoorProg
import Derived.Maps.Own
import Derived.Maps.OwnIn
import Derived.Maps.OwnOps
import Derived.Maps.Views
import Derived.Maps.RangeWalk
import Derived.Shelf.SlIter.Nil
import Derived.Shelf.SortM.Plain
import Derived.Shelf.SortM.SortNone
import Derived.Shelf.SlMaps.DeleteFunc
import Derived.Ground.GgzProg
import Derived.Ground.SlgmProg
import Derived.Ground.SlmdProg
import Derived.Shelf.Strings.Builder1
import Derived.Shelf.Strings.Builder2
import Derived.Shelf.Strings.OnBuilder
import Derived.Shelf.Strings.Trim
import Derived.Shelf.Small.Utf8
import Derived.Shelf.Small.Bits
import Derived.Shelf.Small.Strs
import Derived.Shelf.Small.Wraps
import Derived.Shelf.Strings.BuilderF
import Derived.Shelf.Strings.BuilderK
import Derived.Shelf.Utf8.RuneCount
import Derived.Shelf.Strconv.Itoa0
import Derived.Shelf.Strings.Search1
import Derived.Shelf.Strings.Search2
import Derived.Shelf.Strings.Search3
import Derived.Shelf.Strings.Cut
import Derived.Shelf.Strings.Count
import Derived.Shelf.LaysM
import Derived.Shelf.Strings.Shaped
import Derived.Shelf.Sort.Plain
import Derived.Shelf.Strings.Prefix
import Derived.Shelf.Strings.Split
import Derived.Shelf.Strings.SplitShaped
import Derived.Shelf.Unicode.Latin
import Derived.Shelf.Unicode.Decode
import Derived.Shelf.Strings.Runes
import Derived.Shelf.Strings.RuneCount
import Derived.Shelf.Strings.AsciiSet
import Derived.Shelf.Strings.Explode
import Derived.Shelf.Unicode.DecodeSlow
import Derived.Shelf.Unicode.CaseLookup
import Derived.Shelf.Unicode.CaseConvert
import Derived.Shelf.Unicode.CaseTo
import Derived.Shelf.Unicode.CaseLaid
import Derived.Shelf.Slices.Turned
import Derived.Ground.Names2Prog
import Derived.Shelf.Slices.SearchI
import Derived.Shelf.Slices.In.SortNone
import Derived.Shelf.Strings.SlTrimAscii
namespace Go.Proofs.YtfphcecjhdkcoaaGreatDoor
open Go.Lib (hid)
section
open Go.RowKit
structure FrN(n b:Nat)(A B:World):Prop where
 os:B.os=A.os
 tape:B.tape=A.tape
 output:B.output=A.output
 size:A.heap.size<=B.heap.size
 block:∀ k,k<n->k≠b->B.heap[k]? = A.heap[k]?
theorem FrN.refl(n b:Nat)(A:World):FrN n b A A:=⟨rfl,rfl,rfl,Nat.le_refl _,fun _ _ _=>rfl⟩
theorem FrN.trans{n b:Nat}{A B C:World}(h:FrN n b A B)(k:FrN n b B C):FrN n b A C:=
 ⟨k.os.trans h.os,k.tape.trans h.tape,k.output.trans h.output,Nat.le_trans h.size k.size,fun i hi hb=>(k.block i hi hb).trans (h.block i hi hb)⟩
theorem FrN.cell{n b:Nat}{A B:World}(h:FrN n b A B){p:Addr}(hp:p.block<n)(hb:p.block≠b):B.cell? p=A.cell? p:=World.cell?_of_block (w:=A) (h.block p.block hp hb)
theorem row_block{w w':World}{B:Nat}{e:TypeId}{size n:Nat}{v:Value}{xs:List Value}(h:w.ownsRow B e size v n xs)(hb:∀ k,B<=k->w'.heap[k]? = w.heap[k]?):w'.ownsRow B e size v n xs:=by
 obtain⟨h1,h2⟩:=h;refine⟨h1,?_⟩
 rcases h2 with h2|⟨g,cap,cur,hv,hg,hh,r⟩
 ·exact .inl h2
 ·exact .inr ⟨g,cap,cur,hv,hg,(hb g hg).trans hh,r⟩
theorem set_facts(w:World)(b o:Nat)(x u:Value)(hc:w.cell? ⟨b,o,none⟩=some u)(hz:∀ o,w.frozen? ⟨b,o,none⟩=false):
  (w.setCell ⟨b,o,none⟩ x).cell? ⟨b,o,none⟩=some x/\(∀ o',o'≠o->(w.setCell ⟨b,o,none⟩ x).cell? ⟨b,o',none⟩=w.cell? ⟨b,o',none⟩) /\
   (∀ k,k≠b->(w.setCell ⟨b,o,none⟩ x).heap[k]? = w.heap[k]?)/\(∀ o',(w.setCell ⟨b,o,none⟩ x).frozen? ⟨b,o',none⟩=false)/\(w.setCell ⟨b,o,none⟩ x).heap.size=w.heap.size:=
 ⟨World.cell?_setCell_same _ _ _ hc,fun o' h=>World.cell?_setCell_other _ _ _ _ (fun e=>h (by injection e with e1 e2;exact e2.symm)),fun k h=>Below.heap_setCell _ _ _ _ h,
  fun o'=>by simp[hz],by simp⟩
theorem FrN.set(n b o:Nat)(w:World)(x:Value):FrN n b w (w.setCell ⟨b,o,none⟩ x):=⟨rfl,rfl,rfl,by simp,fun k _ hne=>Below.heap_setCell _ _ _ _ hne⟩
theorem FrN.of_below{n b:Nat}{w w':World}(h:Below w.heap.size w w')(hn:n<=w.heap.size):FrN n b w w':=
 ⟨h.os,h.tape,h.output,h.size,fun k hk _=>h.block k (by omega)⟩
theorem row_some{w:World}{B:Nat}{e:TypeId}{size:Nat}{v:Value}{fs:List Sp.Fl}{xs:List Value}(h:w.ownsRow B e size v fs.length xs)(hne:fs≠[]):∃ g cap,v=.slice (some ⟨g,0,none⟩) fs.length cap:=by
 rcases h.2 with⟨_,h0⟩|⟨g,cap,_,hv,_⟩
 ·exact absurd (List.length_eq_zero_iff.1 h0) hne
 ·exact⟨g,cap,hv⟩
theorem mapO_len{α β:Type}(f:α->Option β):∀ (l:List α) (r:List β),Sp.mapO f l=some r->r.length=l.length
 | [],r,h=>by cases h;rfl
 | x :: l,r,h=>by
  unfold Sp.mapO at h
  split at h
  ·rename_i y ys h1 h2
   cases h
   simp[mapO_len f l ys h2]
  ·cases h
theorem each_ne{α:Type}{s sep:Sp.Str}{most:Nat}{one:Sp.Str->Option α}{l:List α}(hsep:sep≠[])(h:Sp.each s sep most one=some l):l≠[]:=by
 unfold Sp.each at h
 split at h
 ·rename_i l' hl
  split at h
  ·cases h
   intro e;have:=mapO_len _ _ _ hl;rw[e] at this;exact Sp.split_ne s sep hsep (List.length_eq_zero_iff.1 this.symm)
  ·cases h
 ·cases h
def FilesAt(w:World)(g:Nat)(l:List Sp.Fl):Prop:=
 (∀ k,(hk:k<l.length)->w.cell? ⟨g,k*2,none⟩=some (sv l[k].path)/\w.cell? ⟨g,k*2+1,none⟩=some (sv l[k].content))/\(∀ o,w.frozen? ⟨g,o,none⟩=false)/\g<w.heap.size
theorem FilesAt.below{w w':World}{g:Nat}{l:List Sp.Fl}(h:FilesAt w g l)(hb:Below w.heap.size w w'):FilesAt w' g l:=
 ⟨fun k hk=>⟨((bcell hb).1 g _ h.2.2).trans (h.1 k hk).1,((bcell hb).1 g _ h.2.2).trans (h.1 k hk).2⟩,fun o=>((bcell hb).2 g o h.2.2).trans (h.2.1 o),Nat.lt_of_lt_of_le h.2.2 hb.size⟩
theorem swap_get{A B:List Sp.Fl}{x f:Sp.Fl}{m:Nat}(hA:A.length=m)(k:Nat):(A ++ f :: x :: B)[k]? = if k=m then some f else if k=m+1 then some x else(A ++ x :: f :: B)[k]?:=by
 subst hA
 by_cases h:k<A.length
 ·rw[List.getElem?_append_left h,List.getElem?_append_left h,if_neg (by omega),if_neg (by omega)]
 ·obtain⟨d,rfl⟩:∃ d,k=A.length+d:=⟨k-A.length,by omega⟩
  rw[List.getElem?_append_right (by omega),List.getElem?_append_right (by omega),show A.length+d-A.length=d from by omega]
  match d with
  | 0=>simp
  | 1=>simp
  | d+2=>simp
theorem files_swap{w:World}{g m:Nat}{A B:List Sp.Fl}{x f:Sp.Fl}(h:FilesAt w g (A ++ x :: f :: B))(hA:A.length=m):
  FilesAt ((((w.setCell ⟨g,(m+1)*2,none⟩ (sv x.path)).setCell ⟨g,(m+1)*2+1,none⟩ (sv x.content)).setCell ⟨g,m*2,none⟩ (sv f.path)).setCell ⟨g,m*2+1,none⟩ (sv f.content)) g (A ++ f :: x :: B) /\
   ∀ n,FrN n g w ((((w.setCell ⟨g,(m+1)*2,none⟩ (sv x.path)).setCell ⟨g,(m+1)*2+1,none⟩ (sv x.content)).setCell ⟨g,m*2,none⟩ (sv f.path)).setCell ⟨g,m*2+1,none⟩ (sv f.content)):=by
 obtain⟨hc,hz,hg⟩:=h;have hlen:(A ++ x :: f :: B).length=m+2+B.length:=by simp[hA];omega
 have c0:=hc m (by omega);have c1:=hc (m+1) (by omega);obtain⟨s1,o1,_,z1,n1⟩:=set_facts w g ((m+1)*2) (sv x.path) _ c1.1 hz;obtain⟨s2,o2,_,z2,n2⟩:=set_facts _ g ((m+1)*2+1) (sv x.content) _ ((o1 _ (by omega)).trans c1.2) z1;obtain⟨s3,o3,_,z3,n3⟩:=set_facts _ g (m*2) (sv f.path) _ ((o2 _ (by omega)).trans ((o1 _ (by omega)).trans c0.1)) z2;obtain⟨s4,o4,_,z4,n4⟩:=set_facts _ g (m*2+1) (sv f.content) _ ((o3 _ (by omega)).trans ((o2 _ (by omega)).trans ((o1 _ (by omega)).trans c0.2))) z3;refine⟨⟨fun k hk=>?_,z4,by omega⟩,fun n=>(FrN.set n g _ w _).trans ((FrN.set n g _ _ _).trans ((FrN.set n g _ _ _).trans (FrN.set n g _ _ _)))⟩;have hk':k<(A ++ x :: f :: B).length:=by simpa using hk
 have hgk:=swap_get (B:=B) (x:=x) (f:=f) hA k;rw[List.getElem?_eq_getElem hk,List.getElem?_eq_getElem hk'] at hgk
 by_cases e0:k=m
 ·rw[if_pos e0] at hgk
  rw[Option.some.inj hgk,e0];exact⟨(o4 _ (by omega)).trans s3,s4⟩
 ·rw[if_neg e0] at hgk
  by_cases e1:k=m+1
  ·rw[if_pos e1] at hgk
   rw[Option.some.inj hgk,e1];exact⟨(o4 _ (by omega)).trans ((o3 _ (by omega)).trans ((o2 _ (by omega)).trans s1)),(o4 _ (by omega)).trans ((o3 _ (by omega)).trans s2)⟩
  ·rw[if_neg e1] at hgk
   rw[Option.some.inj hgk];have ck:=hc k hk';exact⟨(o4 _ (by omega)).trans ((o3 _ (by omega)).trans ((o2 _ (by omega)).trans ((o1 _ (by omega)).trans ck.1))),(o4 _ (by omega)).trans ((o3 _ (by omega)).trans ((o2 _ (by omega)).trans ((o1 _ (by omega)).trans ck.2)))⟩
theorem sort_start(l:List Sp.Fl):l=Sp.sortF (l.take 1) ++ l.drop 1:=by
 cases l with
 | nil=>rfl
 | cons x r=>rfl
theorem step_app{T e size bytes:Nat}(A:AppTy T e size bytes)(w:World){ops:Array Oper}{o:Oper}{a:Act}{K:Act->World->Prop}{Q:Exit->Act->World->Prop}{E:Prop}(us:List Value)
  (hus:us.length=size)(h1:∀ u∈us,u.oneCell'=true)(hgd:o.guard=none)(s x:Operand)
  (ho:o.op=.call { callee:=.builtin .append,args:=#[s,x],argTypes:=#[T,T] })(B:Nat)(v:Value)(n:Nat)(xs:List Value)(hs:a.eval s=v)(hown:w.ownsRow B e size v n xs)
  (hx:a.eval x=.slice (some ⟨w.heap.size,0,none⟩) 1 1)(hn:n<1099511627776)(hB:B<=w.heap.size)
  (h:∀ g cap w',w'.ownsRow B e size (.slice (some ⟨g,0,none⟩) (n+1) cap) (n+1) (xs ++ us)->w.grownBy w' v.ownBlock->K (a.put o.dst (.slice (some ⟨g,0,none⟩) (n+1) cap)) w'):
  if Region.wanted o (yielded ops a.tmps)=true then Oper.wp Tryz.prog o a (w.alloc (.cells us.toArray e)) K Q else E:=by
 obtain⟨ht,⟨i0,z,hi,hz0,hz1,hz2,hz⟩,hp,hb⟩:=A;refine step_append_lies _ hgd s x T ho B e i0 z size bytes ht hi hz0 hz1 hz2 hz hp v n xs hs (hown.alloc _) ⟨w.heap.size,0,none⟩ 1 1 us hx (by rw[hus,Nat.one_mul]) (cells_new _ _ _) h1 (by omega) (by unfold maxLen;omega) ?_ (by simp;omega) _ rfl ?_
 ·have:(n+1)*bytes<=(n+1)*128:=Nat.mul_le_mul_left _ hb
  omega
 ·intro g cap w' h2 h3 h4 h5
  refine h g cap w' h2 ?_;have hsz:=h3.size;simp only[World.size_alloc] at hsz;exact⟨h3.os,h3.tape,h3.output,by omega,fun k hk hne=>(h3.block k (by simp;omega) hne).trans (Below.heap_alloc _ _ _ hk)⟩
theorem step_app_drew{T e size bytes:Nat}(A:AppTy T e size bytes)(w:World){ops:Array Oper}{o:Oper}{a:Act}{K:Act->World->Prop}{Q:Exit->Act->World->Prop}{E:Prop}(us:List Value)
  (hus:us.length=size)(h1:∀ u∈us,u.oneCell'=true)(hgd:o.guard=none)(s x:Operand)
  (ho:o.op=.call { callee:=.builtin .append,args:=#[s,x],argTypes:=#[T,T] })(B:Nat)(v:Value)(n:Nat)(xs:List Value)(hs:a.eval s=v)(hown:w.ownsRow B e size v n xs)
  (hx:a.eval x=.slice (some ⟨w.heap.size,0,none⟩) 1 1)(hn:n<1099511627776)(hB:B<=w.heap.size)
  (h:∀ g cap w',w'.ownsRow B e size (.slice (some ⟨g,0,none⟩) (n+1) cap) (n+1) (xs ++ us)->w.drew.grownBy w' v.ownBlock->K (a.put o.dst (.slice (some ⟨g,0,none⟩) (n+1) cap)) w'):
  if Region.wanted o (yielded ops a.tmps)=true then Oper.wp Tryz.prog o a ((w.alloc (.cells us.toArray e)).drew) K Q else E:=
 step_app A w.drew us hus h1 hgd s x ho B v n xs hs hown hx hn hB h
end
section
open Go.RowKit Go.Shelf
attribute [local go_sem] Oper.semAt_some
theorem folders_any(s:ByteArray)(w:World):
  Calls Tryz.prog 168 #[.string s] w fun e w'=>e=.returned (.func (.func 216) #[] #[.pointer (some ⟨w.heap.size,0,none⟩)])/\w'=w.alloc (.cells #[.string s] 9):=by
 have hmf:∀ (fn:Fn) (first cap:Array Value) (w:World),(Instr.makeFunc fn first cap).run Tryz.prog w=.ok (.func fn first cap) w:=fun _ _ _ _=>rfl
 go_enter Tryz.func168,Tryz.ntmps168;go_wp2;go_ret;exact⟨rfl,rfl⟩
def cuts(s:Sp.Str)(k:Nat):List Sp.Str:=((List.range k).filter (fun i=>s[i]? == some 47)).map (s.take ·)
theorem cuts_all(s:Sp.Str):cuts s s.length=Sp.folders s:=rfl
theorem cuts_yes(s:Sp.Str)(k:Nat)(h:s[k]? = some 47):cuts s (k+1)=cuts s k ++ [s.take k]:=by
 unfold cuts;rw[List.range_succ,List.filter_append];simp[h]
theorem cuts_no(s:Sp.Str)(k:Nat)(h:s[k]?≠some 47):cuts s (k+1)=cuts s k:=by
 unfold cuts;rw[List.range_succ,List.filter_append];have:(s[k]? == some 47)=false:=by simpa using h
 simp[this]
theorem cuts_grow(s:Sp.Str)(k:Nat):∀ d,cuts s k <+: cuts s (k+d)
 | 0=>List.prefix_refl _
 | d+1=>by
  refine List.IsPrefix.trans (cuts_grow s k d) ?_
  by_cases h:s[k+d]? = some 47
  ·rw[<-Nat.add_assoc,cuts_yes s _ h];exact List.prefix_append _ _
  ·rw[<-Nat.add_assoc,cuts_no s _ h];exact List.prefix_refl _
theorem cuts_prefix(s:Sp.Str)(k:Nat)(hk:k<=s.length):cuts s k <+: Sp.folders s:=by
 have:=cuts_grow s k (s.length-k);rw[show k+(s.length-k)=s.length from by omega] at this;exact this
theorem folders_in(F:Fence)(n:Nat)(h:F.fn 216)(hro:F.round=none)(hn:1<=n)(l Bs n₀ wb:Nat)(s:ByteArray)(hs:s.size<1000000)(hBs:Bs<n₀)(hBw:Bs≠wb)(J Jx:List Sp.Str->World->Prop)
  (hY:∀ pre x W,J pre W->pre.length<(bl s).length->x.length<=(bl s).length->YieldAt F (n-1) Tryz.prog l #[.string ⟨x.toArray⟩] W fun e W' =>
   (e=.returned (.bool true)/\J (pre ++ [x]) W'/\FrN n₀ wb W W')\/(e=.returned (.bool false)/\Jx (pre ++ [x]) W'))
  (W:World)(hc:W.cell? ⟨Bs,0,none⟩=some (.string s))(h0:J [] W):
  CallsIn F n Tryz.prog 216 #[.func (.yield l) #[] #[],.pointer (some ⟨Bs,0,none⟩)] W fun e W'=>(∃ v,e=.returned v) /\
   ((∃ ys,ys=Sp.folders (bl s)/\J ys W')\/(∃ pre,pre <+: Sp.folders (bl s)/\Jx pre W')):=by
 refine callsIn_of_wp Tryz.func216 rfl h ?_ hro;simp only[Tryz.ntmps216,List.size_toArray,List.length_cons,List.length_nil,Nat.reduceAdd,Nat.reduceSub,Array.replicate_succ,Array.replicate_zero,List.push_toArray,List.append_toArray,List.nil_append,List.cons_append]
 gi_wp2
 gi_loopw [3,6] (fun _ i wr=>∃ k:Nat,k<=s.size/\i=.int .i64 k/\J (cuts (bl s) k) wr/\wr.cell? ⟨Bs,0,none⟩=some (.string s)) (fun _ i _=>s.size-(intOf i).toNat)
 case atStart=>exact⟨0,Nat.zero_le _,rfl,h0,hc⟩
 case round =>
  obtain⟨k,hk,rfl,hJ,hcr⟩:=hrel
  by_cases hk2:k<s.size
  ·have hat:(bl s)[k]? = some s[k]:=by rw[List.getElem?_eq_getElem (by rw[bl_len];exact hk2)];rfl
   have HAT:=hid hat;clear hat
   by_cases h47:s[k]=47
   ·have hlen:(cuts (bl s) k).length<(bl s).length:=by
     have h1:(cuts (bl s) k).length<=k:=by
      unfold cuts;rw[List.length_map];exact Nat.le_trans (List.length_filter_le _ _) (by simp)
     rw[bl_len];omega
    obtain⟨fn,tmps,assign,body,hy,hR⟩:=hY _ ((bl s).take k) wr hJ hlen (by rw[List.length_take];omega);rw[show(⟨((bl s).take k).toArray⟩:ByteArray)=s.extract 0 k from bl_inj (by rw[bl_mk,bl_to])] at hy;have hnext:cuts (bl s) (k+1)=cuts (bl s) k ++ [(bl s).take k]:=cuts_yes _ _ (by rw[HAT.out,h47]);have HN:=hid hnext;clear hnext hlen hJ
    gi_wp2
    refine hR.mono ?_;rintro e W3 (⟨rfl,hJ3,hk3⟩|⟨rfl,hJx3⟩)
    ·have hc3:=(hk3.cell (p:=⟨Bs,0,none⟩) hBs hBw).trans hcr
     gi_wp2
     go_roundw
     case rel=>exact⟨k+1,hk2,by go_num,by rw[HN.out];exact hJ3,hc3⟩
     case measure=>simp[intOf];omega
    ·gi_wp2
     refine bodyPost_ret (results_none rfl _ _ _) rfl ?_;exact⟨⟨_,rfl⟩,.inr ⟨_,by rw[<-HN.out];exact cuts_prefix _ _ (by rw[bl_len];omega),hJx3⟩⟩
   ·have hnext:cuts (bl s) (k+1)=cuts (bl s) k:=cuts_no _ _ (by rw[HAT.out];simpa using h47)
    have HN:=hid hnext;clear hnext;have h47':((s[k].toNat:Int) == 47)=false:=by
     rw[beq_eq_false_iff_ne];intro e;exact h47 (UInt8.toNat_inj.1 (by simpa using Int.ofNat.inj e))
    gi_wp2
    refine⟨fun _ hf=>(by cases hf),?_⟩
    gi_wp2
    go_roundw
    case rel=>exact⟨k+1,hk2,by go_num,by rw[HN.out];exact hJ,hcr⟩
    case measure=>simp[intOf];omega
  ·obtain rfl:k=s.size:=by omega
   gi_wp2
   go_end0
   exact⟨⟨_,rfl⟩,.inl ⟨_,rfl,by rw[<-cuts_all,bl_len];exact hJ⟩⟩
abbrev Sm:={ x:Sp.Str // x.length<1000000 }
theorem folders_stops(F:Fence)(n:Nat)(h:F.fn 216)(hro:F.round=none)(hn:1<=n)(Bs n₀ wb:Nat)(s:ByteArray)(hs:s.size<1000000)(w:World)(hBs:Bs<n₀)(hBw:Bs≠wb)(hw:n₀<=w.heap.size)(hc:w.cell? ⟨Bs,0,none⟩=some (.string s)):
  SeqStopsK F n Tryz.prog 216 #[.pointer (some ⟨Bs,0,none⟩)] (fun x:Sm=>#[Value.string ⟨x.1.toArray⟩]) (FrN n₀ wb) (fun ys=>ys.map (·.1)=Sp.folders (bl s)) (fun pre=>pre.map (·.1) <+: Sp.folders (bl s)) (bl s).length w:=by
 intro l J Jx W hW _ _ hY h0;refine(folders_in F n h hro hn l Bs n₀ wb s hs hBs hBw (fun ys W=>∃ zs:List Sm,zs.map (·.1)=ys/\J zs W) (fun ys W=>∃ zs:List Sm,zs.map (·.1)=ys/\Jx zs W) ?_ W ((hW.cell (p:=⟨Bs,0,none⟩) (by show Bs<w.heap.size;omega)).trans hc) ⟨[],rfl,h0⟩).mono ?_
 ·rintro pre x W1 ⟨zs,rfl,hJ⟩ hlen hx
  have hx':x.length<1000000:=by rw[bl_len] at hx;omega
  refine(hY zs ⟨x,hx'⟩ W1 hJ (by simpa using hlen)).mono ?_;rintro e W' (⟨h1,h2,h3⟩|⟨h1,h2⟩)
  ·exact .inl ⟨h1,⟨zs ++ [⟨x,hx'⟩],by simp,h2⟩,h3⟩
  ·exact .inr ⟨h1,⟨zs ++ [⟨x,hx'⟩],by simp,h2⟩⟩
 ·rintro e W' ⟨h1,(⟨ys,h2,zs,rfl,h3⟩|⟨pre,h2,zs,rfl,h3⟩)⟩
  ·exact⟨h1,.inl ⟨zs,h2,h3⟩⟩
  ·exact⟨h1,.inr ⟨zs,h2,h3⟩⟩
end
section
open Go.RowKit Go.Maps
theorem keyed9:Keyed Tryz.prog 9:=string_keyed Tryz.underlying9
theorem keyOf9(s:Sp.Str)(hs:s.length<=maxLen):keyOf Tryz.prog 9 (.string ⟨s.toArray⟩)=some (.string s):=by
 have h:(⟨s.toArray⟩:ByteArray).size<=maxLen:=by rw[<-bl_len,bl_mk];exact hs
 exact WideMaps.keyOf_string_mk Tryz.underlying9 h
theorem isKey9(s:Sp.Str)(hs:s.length<=maxLen):WideAt.IsKeyLit (.string s):=keyed9.key (keyOf9 s hs)
abbrev CntD:=DataW Unit
def Counts(D:CntD)(ps:List Sp.Str):Prop:=
 Maps.IsMap D/\(∀ x:Sp.Str,D.atKey (.string x) (.lit (.int .i64 0))=.lit (.int .i64 (ps.count x)))/\(∀ x:Sp.Str,Maps.has D (.string x)=ps.contains x)
def CountAt(w:World)(b:Nat)(ps:List Sp.Str):Prop:=
 ∃ D:CntD,w.ownsMap Tryz.prog 9 (plainElem Tryz.prog 3) b ps.length D/\Counts D ps
theorem CountAt.made(w:World):CountAt (w.alloc (.map #[] 0)) w.heap.size []:=
 ⟨.map [],World.ownsMap_made w Tryz.prog 9 _,Maps.isMap_empty,fun _=>rfl,fun _=>rfl⟩
theorem Counts.put{D:CntD}{ps:List Sp.Str}(h:Counts D ps)(x:Sp.Str)(hx:x.length<=maxLen):Counts (D.put (.string x) (.lit (.int .i64 ((ps.count x:Int)+1)))) (ps ++ [x]):=by
 obtain⟨h1,h2,h3⟩:=h;refine⟨h1.put _ _,fun y=>?_,fun y=>?_⟩
 ·by_cases e:y=x
  ·subst e
   rw[Maps.atKey_put_same h1 (isKey9 y hx),List.count_append];simp
  ·rw[Maps.atKey_put_other (fun h=>e (by cases h;rfl)),h2,List.count_append]
   have:[x].count y=0:=by rw[List.count_eq_zero];simpa using e
   rw[this];rfl
 ·by_cases e:y=x
  ·subst e
   rw[Maps.has_put_same h1 (isKey9 y hx)];simp
  ·rw[Maps.has_put_other (fun h=>e (by cases h;rfl)),h3]
   simp[e]
theorem Counts.get{D:CntD}{ps:List Sp.Str}(h:Counts D ps)(x:Sp.Str){c:Int}(hc:D.atKey (.string x) (.lit (.int .i64 0))=.lit (.int .i64 c)):c=(ps.count x:Int):=by
 rw[h.2.1 x] at hc;injection hc with hc
 injection hc with _ hc
 exact hc.symm
theorem CountAt.kept{w w':World}{b:Nat}{ps:List Sp.Str}{row:Option Nat}(h:CountAt w b ps)(hg:w.grownBy w' row)(hne:some b≠row):CountAt w' b ps:=by
 obtain⟨D,h1,h2⟩:=h;exact⟨D,h1.kept hg hne,h2⟩
theorem CountAt.block{w w':World}{b:Nat}{ps:List Sp.Str}(h:CountAt w b ps)(hb:w'.heap[b]? = w.heap[b]?):CountAt w' b ps:=by
 obtain⟨D,⟨es,clock,h1,r⟩,h2⟩:=h;exact⟨D,⟨es,clock,by rw[hb];exact h1,r⟩,h2⟩
theorem CountAt.lt{w:World}{b:Nat}{ps:List Sp.Str}(h:CountAt w b ps):b<w.heap.size:=by
 obtain⟨D,h1,h2⟩:=h;exact h1.lt
theorem run_cnt{w:World}{b:Nat}{ps:List Sp.Str}(h:CountAt w b ps)(x:Sp.Str)(hx:x.length<=maxLen):(Instr.lookup 269 (.map (some b)) (.string ⟨x.toArray⟩) false).run Tryz.prog w=.ok (.int .i64 (ps.count x)) w:=by
 obtain⟨D,h1,h2⟩:=h;obtain⟨c,hrun,hat,_⟩:=h1.lookup_int keyed9 Tryz.underlying269 Tryz.underlying3 (Tryz.zeroValue3 _) (keyOf9 x hx);rw[hrun,h2.get x hat]
section
variable (w:World) {ops:Array Oper} {rest:List Oper} {o:Oper} {a:Act} {Q:Exit->Act->World->Prop}
theorem wp_cnt_get(hg:o.guard=none)(m x:Operand)(hop:o.op=Op.lookup 269 m x false)(b:Nat)(ps:List Sp.Str)(hm:a.eval m=.map (some b))(h:CountAt w b ps)(s:Sp.Str)(hs:s.length<=maxLen)(hx:a.eval x=.string ⟨s.toArray⟩)
  (K:wpList Tryz.prog ops Q rest (a.put o.dst (.int .i64 (ps.count s))) w):wpList Tryz.prog ops Q (o :: rest) a w:=by
 obtain⟨D,h1,h2⟩:=h;refine wpList_lookup_own_int w hg m x 269 hop 9 3 .i64 keyed9 Tryz.underlying269 Tryz.underlying3 (Tryz.zeroValue3 _) b _ D hm h1 _ _ hx (keyOf9 s hs) fun c hat _=>?_
 rw[h2.get s hat];exact K
theorem wp_cnt_put(hg:o.guard=none)(m x v:Operand)(hop:o.op=Op.mapUpdate 269 m x v)(b:Nat)(ps:List Sp.Str)(hm:a.eval m=.map (some b))(h:CountAt w b ps)(hn:ps.length<1000000000)(s:Sp.Str)(hs:s.length<=maxLen)(hx:a.eval x=.string ⟨s.toArray⟩)
  (hv:a.eval v=.int .i64 ((ps.count s:Int)+1))
  (K:∀ w',CountAt w' b (ps ++ [s])->w.grownBy w' (some b)->wpList Tryz.prog ops Q rest (a.put o.dst undef) w'):wpList Tryz.prog ops Q (o :: rest) a w:=by
 obtain⟨D,h1,h2⟩:=h;have hc:ps.count s<=ps.length:=List.count_le_length;refine wpList_mapUpdate_own w hg m x v 269 hop 9 3 keyed9 Tryz.underlying269 _ b _ D hm h1 (by unfold maxLen;omega) _ _ _ hx hv (keyOf9 s hs) _ [] (plainElem_int Tryz.underlying3 (WalkArith.wf_i64 (by omega))) fun w' h3 h4=>K w' ⟨_,?_,h2.put s hs⟩ h4
 rw[List.length_append];exact h3
variable {F:Fence} {nF:Nat}
theorem wpIn_cnt_get(hg:o.guard=none)(m x:Operand)(hop:o.op=Op.lookup 269 m x false)(b:Nat)(ps:List Sp.Str)(hm:a.eval m=.map (some b))(h:CountAt w b ps)(s:Sp.Str)(hs:s.length<=maxLen)(hx:a.eval x=.string ⟨s.toArray⟩)
  (K:wpListIn F nF Tryz.prog ops Q rest (a.put o.dst (.int .i64 (ps.count s))) w):wpListIn F nF Tryz.prog ops Q (o :: rest) a w:=by
 obtain⟨D,h1,h2⟩:=h;refine wpListIn_lookup_own_int w hg m x 269 hop 9 3 .i64 keyed9 Tryz.underlying269 Tryz.underlying3 (Tryz.zeroValue3 _) b _ D hm h1 _ _ hx (keyOf9 s hs) fun c hat _=>?_
 rw[h2.get s hat];exact K
theorem wpIn_cnt_put(hg:o.guard=none)(m x v:Operand)(hop:o.op=Op.mapUpdate 269 m x v)(b:Nat)(ps:List Sp.Str)(hm:a.eval m=.map (some b))(h:CountAt w b ps)(hn:ps.length<1000000000)(s:Sp.Str)(hs:s.length<=maxLen)(hx:a.eval x=.string ⟨s.toArray⟩)
  (hv:a.eval v=.int .i64 ((ps.count s:Int)+1))
  (K:∀ w',CountAt w' b (ps ++ [s])->w.grownBy w' (some b)->wpListIn F nF Tryz.prog ops Q rest (a.put o.dst undef) w'):wpListIn F nF Tryz.prog ops Q (o :: rest) a w:=by
 obtain⟨D,h1,h2⟩:=h;have hc:ps.count s<=ps.length:=List.count_le_length;refine wpListIn_mapUpdate_own w hg m x v 269 hop 9 3 keyed9 Tryz.underlying269 _ b _ D hm h1 (by unfold maxLen;omega) _ _ _ hx hv (keyOf9 s hs) _ [] (plainElem_int Tryz.underlying3 (WalkArith.wf_i64 (by omega))) fun w' h3 h4=>K w' ⟨_,?_,h2.put s hs⟩ h4
 rw[List.length_append];exact h3
end
def struck(within:List Sp.Str)(k:Lit)(d:CntD):Bool:=
 match k,d with
 | .string x,.lit (.int _ n)=>decide (n<2) && within.count x == 0
 | _,_=>false
theorem struck_eq(within:List Sp.Str)(x:Sp.Str)(n:Int):struck within (.string x) (.lit (.int .i64 n))=(decide (n<2) && within.count x == 0):=rfl
theorem closure_any(x:Sp.Str)(n:Int)(bx wb:Nat)(within:List Sp.Str)(w:World)(hx:x.length<=maxLen)(hc:w.cell? ⟨bx,0,none⟩=some (.map (some wb)))(hw:CountAt w wb within):
  Calls Tryz.prog 170 #[.string ⟨x.toArray⟩,.int .i64 n,.pointer (some ⟨bx,0,none⟩)] w fun e w'=>e=.returned (.bool (struck within (.string x) (.lit (.int .i64 n))))/\w=w':=by
 have hrun:=run_cnt hw x hx;generalize hk:within.count x=k at hrun;have HK:=hid (struck_eq within x n);rw[hk] at HK;have HK2:=hid hk;clear hw hk
 by_cases hn:n<2
 ·go_enter Tryz.func170,Tryz.ntmps170
  go_wp2;go_ret;exact⟨ret_bool (by rw[HK.out,decide_eq_true hn,Bool.true_and,Bool.eq_iff_iff];simp),rfl⟩
 ·go_enter Tryz.func170,Tryz.ntmps170
  go_wp2;go_ret;exact⟨ret_bool (by rw[HK.out,decide_eq_false (by omega),Bool.false_and]),rfl⟩
end
end Go.Proofs.YtfphcecjhdkcoaaGreatDoor
namespace Go.Proofs
open Go.RowKit Go.Maps Go.Sort Go.Shelf
def Tryz.keysI_ren:Go.Shelf.Ren:=⟨fun|7=>171|10=>217|n=>n,fun|23=>269|26=>9|3=>3|28=>218|0=>0|27=>217|33=>36|4=>4|n=>n,fun|n=>n⟩
theorem Tryz.keysI:Go.Proofs.SlLaysZ.n7 Tryz.prog Tryz.keysI_ren:={
 mixed:=by kernel_rfl
 f7:=⟨Tryz.f171.name,by decide,Tryz.func171.trans (congrArg some (by kernel_rfl))⟩
 f10:=⟨Tryz.f217.name,by decide,Tryz.func217.trans (congrArg some (by kernel_rfl))⟩
 t0:=Tryz.underlying0
 a0:=Tryz.isAgg0
 z0:=Tryz.sizeOf0
 v0:=Tryz.zeroValue0
 t4:=Tryz.underlying4
 a4:=Tryz.isAgg4
 z4:=Tryz.sizeOf4
 v4:=Tryz.zeroValue4
 t23:=Tryz.underlying269
 a23:=Tryz.isAgg269
 z23:=Tryz.sizeOf269
 v23:=Tryz.zeroValue269
 t26:=Tryz.underlying9
 a26:=Tryz.isAgg9
 z26:=Tryz.sizeOf9
 v26:=Tryz.zeroValue9
 t27:=Tryz.underlying217
 a27:=Tryz.isAgg217
 z27:=Tryz.sizeOf217
 v27:=Tryz.zeroValue217
 t28:=Tryz.underlying218
 a28:=Tryz.isAgg218
 z28:=Tryz.sizeOf218
 v28:=Tryz.zeroValue218
 t33:=Tryz.underlying36
 a33:=Tryz.isAgg36
 z33:=Tryz.sizeOf36
 v33:=Tryz.zeroValue36 }
def Tryz.keysP_ren:Go.Shelf.Ren:=⟨fun|7=>130|10=>179|n=>n,fun|23=>140|26=>9|3=>118|28=>218|0=>0|27=>217|33=>36|4=>4|n=>n,fun|n=>n⟩
theorem Tryz.keysP:Go.Proofs.SlLaysZ.n7 Tryz.prog Tryz.keysP_ren:={
 mixed:=by kernel_rfl
 f7:=⟨Tryz.f130.name,by decide,Tryz.func130.trans (congrArg some (by kernel_rfl))⟩
 f10:=⟨Tryz.f179.name,by decide,Tryz.func179.trans (congrArg some (by kernel_rfl))⟩
 t0:=Tryz.underlying0
 a0:=Tryz.isAgg0
 z0:=Tryz.sizeOf0
 v0:=Tryz.zeroValue0
 t4:=Tryz.underlying4
 a4:=Tryz.isAgg4
 z4:=Tryz.sizeOf4
 v4:=Tryz.zeroValue4
 t23:=Tryz.underlying140
 a23:=Tryz.isAgg140
 z23:=Tryz.sizeOf140
 v23:=Tryz.zeroValue140
 t26:=Tryz.underlying9
 a26:=Tryz.isAgg9
 z26:=Tryz.sizeOf9
 v26:=Tryz.zeroValue9
 t27:=Tryz.underlying217
 a27:=Tryz.isAgg217
 z27:=Tryz.sizeOf217
 v27:=Tryz.zeroValue217
 t28:=Tryz.underlying218
 a28:=Tryz.isAgg218
 z28:=Tryz.sizeOf218
 v28:=Tryz.zeroValue218
 t33:=Tryz.underlying36
 a33:=Tryz.isAgg36
 z33:=Tryz.sizeOf36
 v33:=Tryz.zeroValue36 }
def Tryz.keysQ_ren:Go.Shelf.Ren:=⟨fun|7=>173|10=>218|n=>n,fun|23=>274|26=>9|3=>140|28=>218|0=>0|27=>217|33=>36|4=>4|n=>n,fun|n=>n⟩
theorem Tryz.keysQ:Go.Proofs.SlLaysZ.n7 Tryz.prog Tryz.keysQ_ren:={
 mixed:=by kernel_rfl
 f7:=⟨Tryz.f173.name,by decide,Tryz.func173.trans (congrArg some (by kernel_rfl))⟩
 f10:=⟨Tryz.f218.name,by decide,Tryz.func218.trans (congrArg some (by kernel_rfl))⟩
 t0:=Tryz.underlying0
 a0:=Tryz.isAgg0
 z0:=Tryz.sizeOf0
 v0:=Tryz.zeroValue0
 t4:=Tryz.underlying4
 a4:=Tryz.isAgg4
 z4:=Tryz.sizeOf4
 v4:=Tryz.zeroValue4
 t23:=Tryz.underlying274
 a23:=Tryz.isAgg274
 z23:=Tryz.sizeOf274
 v23:=Tryz.zeroValue274
 t26:=Tryz.underlying9
 a26:=Tryz.isAgg9
 z26:=Tryz.sizeOf9
 v26:=Tryz.zeroValue9
 t27:=Tryz.underlying217
 a27:=Tryz.isAgg217
 z27:=Tryz.sizeOf217
 v27:=Tryz.zeroValue217
 t28:=Tryz.underlying218
 a28:=Tryz.isAgg218
 z28:=Tryz.sizeOf218
 v28:=Tryz.zeroValue218
 t33:=Tryz.underlying36
 a33:=Tryz.isAgg36
 z33:=Tryz.sizeOf36
 v33:=Tryz.zeroValue36 }
def Tryz.sortedI_ren:Go.Shelf.Ren:=⟨fun|6=>129|8=>177|9=>178|11=>220|13=>161|12=>221|23=>207|24=>208|14=>241|15=>242|16=>243|17=>244|18=>245|19=>246|20=>247|21=>248|22=>249|25=>264|26=>234|27=>235|28=>265|29=>266|30=>139|31=>275|n=>n,fun|26=>9|28=>218|24=>38|0=>0|3=>3|37=>248|48=>301|50=>145|4=>4|40=>294|39=>293|45=>298|5=>5|9=>9|51=>327|55=>331|57=>349|58=>313|33=>36|n=>n,fun|n=>n⟩
theorem Tryz.sortedI:Go.Proofs.SlLaysZ.n6 Tryz.prog Tryz.sortedI_ren:={
 mixed:=by kernel_rfl
 f6:=⟨Tryz.f129.name,by decide,Tryz.func129.trans (congrArg some (by kernel_rfl))⟩
 f8:=⟨Tryz.f177.name,by decide,Tryz.func177.trans (congrArg some (by kernel_rfl))⟩
 f11:=⟨Tryz.f220.name,by decide,Tryz.func220.trans (congrArg some (by kernel_rfl))⟩
 t0:=Tryz.underlying0
 a0:=Tryz.isAgg0
 z0:=Tryz.sizeOf0
 v0:=Tryz.zeroValue0
 t24:=Tryz.underlying38
 a24:=Tryz.isAgg38
 z24:=Tryz.sizeOf38
 v24:=Tryz.zeroValue38
 t26:=Tryz.underlying9
 a26:=Tryz.isAgg9
 z26:=Tryz.sizeOf9
 v26:=Tryz.zeroValue9
 t28:=Tryz.underlying218
 a28:=Tryz.isAgg218
 z28:=Tryz.sizeOf218
 v28:=Tryz.zeroValue218
 i26:=by kernel_rfl }
def Tryz.sortI_ren:Go.Shelf.Ren:=⟨fun|6=>178|8=>161|9=>221|19=>207|20=>208|21=>241|22=>242|23=>243|24=>244|25=>245|26=>246|27=>247|28=>248|29=>249|36=>264|31=>234|32=>235|37=>265|38=>266|39=>139|41=>275|n=>n,fun|27=>38|29=>9|3=>3|32=>248|26=>38|0=>0|44=>301|46=>145|4=>4|36=>294|35=>293|41=>298|5=>5|9=>9|53=>327|57=>331|63=>349|64=>313|n=>n,fun|n=>n⟩
theorem Tryz.sortI:Go.Proofs.SlLaysM.n6 Tryz.prog Tryz.sortI_ren:={
 mixed:=by kernel_rfl
 f6:=⟨Tryz.f178.name,by decide,Tryz.func178.trans (congrArg some (by kernel_rfl))⟩
 f8:=Tryz.func161.trans (congrArg some (by kernel_rfl))
 f9:=⟨Tryz.f221.name,by decide,Tryz.func221.trans (congrArg some (by kernel_rfl))⟩
 f19:=Tryz.func207.trans (congrArg some (by kernel_rfl))
 f20:=Tryz.func208.trans (congrArg some (by kernel_rfl))
 f21:=⟨Tryz.f241.name,by decide,Tryz.func241.trans (congrArg some (by kernel_rfl))⟩
 f22:=⟨Tryz.f242.name,by decide,Tryz.func242.trans (congrArg some (by kernel_rfl))⟩
 f23:=⟨Tryz.f243.name,by decide,Tryz.func243.trans (congrArg some (by kernel_rfl))⟩
 f24:=⟨Tryz.f244.name,by decide,Tryz.func244.trans (congrArg some (by kernel_rfl))⟩
 f25:=⟨Tryz.f245.name,by decide,Tryz.func245.trans (congrArg some (by kernel_rfl))⟩
 f26:=⟨Tryz.f246.name,by decide,Tryz.func246.trans (congrArg some (by kernel_rfl))⟩
 f27:=⟨Tryz.f247.name,by decide,Tryz.func247.trans (congrArg some (by kernel_rfl))⟩
 f28:=⟨Tryz.f248.name,by decide,Tryz.func248.trans (congrArg some (by kernel_rfl))⟩
 f29:=⟨Tryz.f249.name,by decide,Tryz.func249.trans (congrArg some (by kernel_rfl))⟩
 f31:=Tryz.func234.trans (congrArg some (by kernel_rfl))
 f32:=Tryz.func235.trans (congrArg some (by kernel_rfl))
 f36:=⟨Tryz.f264.name,by decide,Tryz.func264.trans (congrArg some (by kernel_rfl))⟩
 f37:=⟨Tryz.f265.name,by decide,Tryz.func265.trans (congrArg some (by kernel_rfl))⟩
 f38:=⟨Tryz.f266.name,by decide,Tryz.func266.trans (congrArg some (by kernel_rfl))⟩
 f39:=⟨Tryz.f139.name,by decide,Tryz.func139.trans (congrArg some (by kernel_rfl))⟩
 f41:=⟨Tryz.f275.name,by decide,Tryz.func275.trans (congrArg some (by kernel_rfl))⟩
 t0:=Tryz.underlying0
 a0:=Tryz.isAgg0
 z0:=Tryz.sizeOf0
 v0:=Tryz.zeroValue0
 t3:=Tryz.underlying3
 a3:=Tryz.isAgg3
 z3:=Tryz.sizeOf3
 v3:=Tryz.zeroValue3
 t4:=Tryz.underlying4
 a4:=Tryz.isAgg4
 z4:=Tryz.sizeOf4
 v4:=Tryz.zeroValue4
 t5:=Tryz.underlying5
 a5:=Tryz.isAgg5
 z5:=Tryz.sizeOf5
 v5:=Tryz.zeroValue5
 t9:=Tryz.underlying9
 a9:=Tryz.isAgg9
 z9:=Tryz.sizeOf9
 v9:=Tryz.zeroValue9
 t26:=Tryz.underlying38
 a26:=Tryz.isAgg38
 z26:=Tryz.sizeOf38
 v26:=Tryz.zeroValue38
 t27:=Tryz.underlying38
 a27:=Tryz.isAgg38
 z27:=Tryz.sizeOf38
 v27:=Tryz.zeroValue38
 t29:=Tryz.underlying9
 a29:=Tryz.isAgg9
 z29:=Tryz.sizeOf9
 v29:=Tryz.zeroValue9
 t32:=Tryz.underlying248
 a32:=Tryz.isAgg248
 z32:=Tryz.sizeOf248
 v32:=Tryz.zeroValue248
 t35:=Tryz.underlying293
 a35:=Tryz.isAgg293
 z35:=Tryz.sizeOf293
 v35:=Tryz.zeroValue293
 t36:=Tryz.underlying294
 a36:=Tryz.isAgg294
 z36:=Tryz.sizeOf294
 v36:=Tryz.zeroValue294
 t41:=Tryz.underlying298
 a41:=Tryz.isAgg298
 z41:=Tryz.sizeOf298
 v41:=Tryz.zeroValue298
 t44:=Tryz.underlying301
 a44:=Tryz.isAgg301
 z44:=Tryz.sizeOf301
 v44:=Tryz.zeroValue301
 t46:=Tryz.underlying145
 a46:=Tryz.isAgg145
 z46:=Tryz.sizeOf145
 v46:=Tryz.zeroValue145
 t53:=Tryz.underlying327
 a53:=Tryz.isAgg327
 z53:=Tryz.sizeOf327
 v53:=Tryz.zeroValue327
 t57:=Tryz.underlying331
 a57:=Tryz.isAgg331
 z57:=Tryz.sizeOf331
 v57:=Tryz.zeroValue331
 t63:=Tryz.underlying349
 a63:=Tryz.isAgg349
 z63:=Tryz.sizeOf349
 v63:=Tryz.zeroValue349
 t64:=Tryz.underlying313
 a64:=Tryz.isAgg313
 z64:=Tryz.sizeOf313
 v64:=Tryz.zeroValue313 }
def Tryz.delI_ren:Go.Shelf.Ren:=⟨fun|5=>169|n=>n,fun|23=>269|26=>9|24=>3|27=>272|0=>0|4=>4|n=>n,fun|n=>n⟩
theorem Tryz.delI:Go.Proofs.SlLaysDf.n5 Tryz.prog Tryz.delI_ren:={
 mixed:=by kernel_rfl
 f5:=⟨Tryz.f169.name,by decide,Tryz.func169.trans (congrArg some (by kernel_rfl))⟩
 t0:=Tryz.underlying0
 a0:=Tryz.isAgg0
 z0:=Tryz.sizeOf0
 v0:=Tryz.zeroValue0
 t4:=Tryz.underlying4
 a4:=Tryz.isAgg4
 z4:=Tryz.sizeOf4
 v4:=Tryz.zeroValue4
 t23:=Tryz.underlying269
 a23:=Tryz.isAgg269
 z23:=Tryz.sizeOf269
 v23:=Tryz.zeroValue269
 a24:=Tryz.isAgg3
 z24:=Tryz.sizeOf3
 a26:=Tryz.isAgg9
 z26:=Tryz.sizeOf9
 t27:=Tryz.underlying272
 a27:=Tryz.isAgg272
 z27:=Tryz.sizeOf272
 v27:=Tryz.zeroValue272 }
end Go.Proofs
namespace Go.Proofs.YtfphcecjhdkcoaaGreatDoor
open Go.Lib (hid)
open Go.RowKit Go.Maps Go.Sort Go.Shelf
theorem sorts_any(m:Nat):AnyZ.SortsIn Tryz.prog Tryz.sortedI_ren Fence.wide m:=
 ⟨fun blk off cap ss W hH hblk hsz=>callsIn_wide.2 (AnyM.slices_Sort_string Tryz.sortI blk off cap ss W hH hblk hsz),
  fun p cap W=>callsIn_wide.2 (AnyM.slices_Sort_string_none Tryz.sortI p cap W)⟩
theorem keysI_any(mb:Option Nat)(w:World):Calls Tryz.prog 171 #[.map mb] w fun e w'=>e=.returned (.func (.func 217) #[] #[.pointer (some ⟨w.heap.size,0,none⟩)])/\w'=w.alloc (.cells #[.map mb] 269):=
 (callsIn_wide (n:=5)).1 (AnyZ.keys_in Tryz.keysI Fence.wide 5 trivial rfl mb w)
theorem sortedI_any{H:Type}(b nn:Nat)(D0:DataW H)(R:Value->Option (DataW H × List MemPlace))(w:World)(hown:w.ownsMap Tryz.prog 9 R b nn D0)(hmax:Maps.size D0<1000000000):
  Calls Tryz.prog 129 #[.func (.func 217) #[] #[.pointer (some ⟨w.heap.size,0,none⟩)]] (w.alloc (.cells #[.map (some b)] 269)) fun e w'=>∃ (v:Value) (ss:List (List UInt8)),e=.returned v/\ss.Perm (strKeys D0) /\
   w'.ownsRow (w.alloc (.cells #[.map (some b)] 269)).heap.size 9 1 v ss.length ((ss.mergeSort (fun x y=>decide (x<=y))).map encStr)/\(v=.slice none 0 0↔ss=[])/\Below w.heap.size w w':=by
 refine(callsIn_wide (n:=5)).1 ?_;have hbl:=hown.lt;have hseq:SeqGives Fence.wide 2 Tryz.prog 217 #[.pointer (some ⟨w.heap.size,0,none⟩)] encStr (fun ss=>ss.Perm (strKeys D0)) (Maps.size D0) (w.alloc (.cells #[.map (some b)] 269)):=
  AnyZ.keys_gives (ρ:=Tryz.keysI_ren) { Tryz.keysI with } Fence.wide _ trivial rfl (by omega) w.heap.size b nn D0 _ (by simp) (by simp) (by
   obtain⟨es,clock,hb,Ft,hs,hD⟩:=hown;exact⟨es,clock,(Below.heap_alloc _ _ b hbl).trans hb,Ft,hs,hD⟩)
 have cS:=AnyZ.sorted_in Tryz.sortedI Fence.wide 5 trivial trivial trivial trivial rfl (by omega) (sorts_any _) (enters_of Tryz.func178 (by kernel_rfl) rfl) 217 #[.pointer (some ⟨w.heap.size,0,none⟩)] trivial (enters_of Tryz.func217 (by kernel_rfl) rfl) _ _ (by unfold maxLen;omega) (by omega) _ hseq;change CallsIn _ _ Tryz.prog 129 _ _ _ at cS;refine cS.mono ?_;rintro e w' ⟨v,ss,rfl,hS,hrow,hnil,hb⟩;exact⟨v,ss,rfl,hS,hrow,hnil,((Below.refl _ w).alloc (Nat.le_refl _) _).trans (hb.mono (by simp))⟩
end Go.Proofs.YtfphcecjhdkcoaaGreatDoor
namespace Go.Proofs
open Go.Shelf
def Tryz.lays158_ren:Go.Shelf.Ren:=⟨fun|158=>194|165=>210|166=>211|167=>229|169=>212|230=>230|203=>231|240=>238|241=>239|197=>183|118=>257|168=>258|270=>259|262=>260|276=>262|277=>263|260=>223|242=>273|313=>274|278=>276|274=>277|275=>278|n=>n,fun|9=>9|4=>4|3=>3|5=>5|72=>305|0=>0|76=>306|75=>81|107=>325|70=>303|20=>20|37=>136|127=>333|21=>21|105=>283|164=>190|162=>360|203=>358|119=>341|46=>248|139=>344|138=>343|51=>301|160=>362|208=>368|206=>366|80=>125|n=>n,fun|13=>5|3=>3|4=>4|n=>n⟩
theorem Tryz.lays158:Go.Proofs.Lays.n158 Tryz.prog Tryz.lays158_ren:={
 mixed:=by kernel_rfl
 f118:=Tryz.func257.trans (congrArg some (by kernel_rfl))
 f158:=Tryz.func194.trans (congrArg some (by kernel_rfl))
 f165:=Tryz.func210.trans (congrArg some (by kernel_rfl))
 f166:=Tryz.func211.trans (congrArg some (by kernel_rfl))
 f167:=Tryz.func229.trans (congrArg some (by kernel_rfl))
 f168:=Tryz.func258.trans (congrArg some (by kernel_rfl))
 f169:=Tryz.func212.trans (congrArg some (by kernel_rfl))
 f197:=Tryz.func183.trans (congrArg some (by kernel_rfl))
 f203:=Tryz.func231.trans (congrArg some (by kernel_rfl))
 f230:=Tryz.func230.trans (congrArg some (by kernel_rfl))
 f240:=Tryz.func238.trans (congrArg some (by kernel_rfl))
 f241:=Tryz.func239.trans (congrArg some (by kernel_rfl))
 f242:=Tryz.func273.trans (congrArg some (by kernel_rfl))
 f260:=Tryz.func223.trans (congrArg some (by kernel_rfl))
 f262:=Tryz.func260.trans (congrArg some (by kernel_rfl))
 f270:=Tryz.func259.trans (congrArg some (by kernel_rfl))
 f274:=Tryz.func277.trans (congrArg some (by kernel_rfl))
 f275:=Tryz.func278.trans (congrArg some (by kernel_rfl))
 f276:=Tryz.func262.trans (congrArg some (by kernel_rfl))
 f277:=Tryz.func263.trans (congrArg some (by kernel_rfl))
 f278:=Tryz.func276.trans (congrArg some (by kernel_rfl))
 f313:=Tryz.func274.trans (congrArg some (by kernel_rfl))
 t0:=Tryz.underlying0
 a0:=Tryz.isAgg0
 z0:=Tryz.sizeOf0
 v0:=Tryz.zeroValue0
 t3:=Tryz.underlying3
 a3:=Tryz.isAgg3
 z3:=Tryz.sizeOf3
 v3:=Tryz.zeroValue3
 t4:=Tryz.underlying4
 a4:=Tryz.isAgg4
 z4:=Tryz.sizeOf4
 v4:=Tryz.zeroValue4
 t5:=Tryz.underlying5
 a5:=Tryz.isAgg5
 z5:=Tryz.sizeOf5
 v5:=Tryz.zeroValue5
 t9:=Tryz.underlying9
 a9:=Tryz.isAgg9
 z9:=Tryz.sizeOf9
 v9:=Tryz.zeroValue9
 t20:=Tryz.underlying20
 a20:=Tryz.isAgg20
 z20:=Tryz.sizeOf20
 v20:=Tryz.zeroValue20
 t21:=Tryz.underlying21
 a21:=Tryz.isAgg21
 z21:=Tryz.sizeOf21
 v21:=Tryz.zeroValue21
 t37:=Tryz.underlying136
 a37:=Tryz.isAgg136
 z37:=Tryz.sizeOf136
 v37:=Tryz.zeroValue136
 t46:=Tryz.underlying248
 a46:=Tryz.isAgg248
 z46:=Tryz.sizeOf248
 v46:=Tryz.zeroValue248
 t51:=Tryz.underlying301
 a51:=Tryz.isAgg301
 z51:=Tryz.sizeOf301
 v51:=Tryz.zeroValue301
 t70:=Tryz.underlying303
 a70:=Tryz.isAgg303
 z70:=Tryz.sizeOf303
 v70:=Tryz.zeroValue303
 t72:=Tryz.underlying305
 a72:=Tryz.isAgg305
 z72:=Tryz.sizeOf305
 v72:=Tryz.zeroValue305
 t75:=Tryz.underlying81
 a75:=Tryz.isAgg81
 z75:=Tryz.sizeOf81
 v75:=Tryz.zeroValue81
 t76:=Tryz.underlying306
 a76:=Tryz.isAgg306
 z76:=Tryz.sizeOf306
 v76:=Tryz.zeroValue306
 t105:=Tryz.underlying283
 a105:=Tryz.isAgg283
 z105:=Tryz.sizeOf283
 v105:=Tryz.zeroValue283
 t107:=Tryz.underlying325
 a107:=Tryz.isAgg325
 z107:=Tryz.sizeOf325
 v107:=Tryz.zeroValue325
 t119:=Tryz.underlying341
 a119:=Tryz.isAgg341
 z119:=Tryz.sizeOf341
 t127:=Tryz.underlying333
 a127:=Tryz.isAgg333
 z127:=Tryz.sizeOf333
 v127:=Tryz.zeroValue333
 t138:=Tryz.underlying343
 a138:=Tryz.isAgg343
 z138:=Tryz.sizeOf343
 v138:=Tryz.zeroValue343
 t139:=Tryz.underlying344
 a139:=Tryz.isAgg344
 z139:=Tryz.sizeOf344
 v139:=Tryz.zeroValue344
 t160:=Tryz.underlying362
 a160:=Tryz.isAgg362
 z160:=Tryz.sizeOf362
 v160:=Tryz.zeroValue362
 t162:=Tryz.underlying360
 a162:=Tryz.isAgg360
 z162:=Tryz.sizeOf360
 v162:=Tryz.zeroValue360
 t164:=Tryz.underlying190
 a164:=Tryz.isAgg190
 z164:=Tryz.sizeOf190
 v164:=Tryz.zeroValue190
 t203:=Tryz.underlying358
 a203:=Tryz.isAgg358
 z203:=Tryz.sizeOf358
 v203:=Tryz.zeroValue358
 t206:=Tryz.underlying366
 a206:=Tryz.isAgg366
 z206:=Tryz.sizeOf366
 v206:=Tryz.zeroValue366
 t208:=Tryz.underlying368
 a208:=Tryz.isAgg368
 z208:=Tryz.sizeOf368
 v208:=Tryz.zeroValue368
 g3:=by kernel_rfl
 g4:=by kernel_rfl
 g13:=by kernel_rfl }
theorem Tryz.Builder_Extra_158:Builder.Extra Tryz.prog Tryz.lays158_ren:={
 sizeBuilder:=by kernel_rfl
 liesBuilder:=by kernel_rfl
 t5:=Tryz.underlying5
 a5:=Tryz.isAgg5
 z5:=Tryz.sizeOf5
 v5:=Tryz.zeroValue5
 infoByte:=by kernel_rfl
 cellsByte:=by kernel_rfl
 sizeByte:=by kernel_rfl
 neB5:=by decide }
open Go.RowKit in
theorem Tryz.strings_ToUpper_ascii (s:ByteArray) (w:World) (hs:s.size<=140737488355328) (hascii:∀ (j:Nat) (b:UInt8),s.data.toList[j]? = some b->b.toNat<128) :
  Calls Tryz.prog 194 #[.string s] w fun e w'=>e=.returned (.string ⟨(Lib.toUpperA s.data.toList).toArray⟩)/\Below w.heap.size w w':=Any.strings_ToUpper_ascii Tryz.lays158 Tryz.Builder_Extra_158 s w hs hascii
def Tryz.lays156_ren:Go.Shelf.Ren:=⟨fun|156=>163|165=>210|166=>211|169=>212|240=>238|241=>239|276=>262|277=>263|n=>n,fun|31=>38|9=>9|3=>3|4=>4|0=>0|20=>20|72=>305|76=>306|70=>303|37=>136|75=>81|127=>333|164=>190|5=>5|80=>125|n=>n,fun|n=>n⟩
theorem Tryz.lays156:Go.Proofs.Lays.n156 Tryz.prog Tryz.lays156_ren:={
 mixed:=by kernel_rfl
 f156:=Tryz.func163.trans (congrArg some (by kernel_rfl))
 f165:=Tryz.func210.trans (congrArg some (by kernel_rfl))
 f166:=Tryz.func211.trans (congrArg some (by kernel_rfl))
 f169:=Tryz.func212.trans (congrArg some (by kernel_rfl))
 f240:=Tryz.func238.trans (congrArg some (by kernel_rfl))
 f241:=Tryz.func239.trans (congrArg some (by kernel_rfl))
 f276:=Tryz.func262.trans (congrArg some (by kernel_rfl))
 f277:=Tryz.func263.trans (congrArg some (by kernel_rfl))
 t0:=Tryz.underlying0
 a0:=Tryz.isAgg0
 z0:=Tryz.sizeOf0
 v0:=Tryz.zeroValue0
 t3:=Tryz.underlying3
 a3:=Tryz.isAgg3
 z3:=Tryz.sizeOf3
 v3:=Tryz.zeroValue3
 t4:=Tryz.underlying4
 a4:=Tryz.isAgg4
 z4:=Tryz.sizeOf4
 v4:=Tryz.zeroValue4
 t9:=Tryz.underlying9
 a9:=Tryz.isAgg9
 z9:=Tryz.sizeOf9
 v9:=Tryz.zeroValue9
 t20:=Tryz.underlying20
 a20:=Tryz.isAgg20
 z20:=Tryz.sizeOf20
 v20:=Tryz.zeroValue20
 t31:=Tryz.underlying38
 a31:=Tryz.isAgg38
 z31:=Tryz.sizeOf38
 v31:=Tryz.zeroValue38
 t37:=Tryz.underlying136
 a37:=Tryz.isAgg136
 z37:=Tryz.sizeOf136
 v37:=Tryz.zeroValue136
 t70:=Tryz.underlying303
 a70:=Tryz.isAgg303
 z70:=Tryz.sizeOf303
 v70:=Tryz.zeroValue303
 t72:=Tryz.underlying305
 a72:=Tryz.isAgg305
 z72:=Tryz.sizeOf305
 v72:=Tryz.zeroValue305
 t75:=Tryz.underlying81
 a75:=Tryz.isAgg81
 z75:=Tryz.sizeOf81
 v75:=Tryz.zeroValue81
 t76:=Tryz.underlying306
 a76:=Tryz.isAgg306
 z76:=Tryz.sizeOf306
 v76:=Tryz.zeroValue306
 t127:=Tryz.underlying333
 a127:=Tryz.isAgg333
 z127:=Tryz.sizeOf333
 v127:=Tryz.zeroValue333
 t164:=Tryz.underlying190
 a164:=Tryz.isAgg190
 z164:=Tryz.sizeOf190
 v164:=Tryz.zeroValue190 }
theorem Tryz.Builder_Extra_156:Builder.Extra Tryz.prog Tryz.lays156_ren:={
 sizeBuilder:=by kernel_rfl
 liesBuilder:=by kernel_rfl
 t5:=Tryz.underlying5
 a5:=Tryz.isAgg5
 z5:=Tryz.sizeOf5
 v5:=Tryz.zeroValue5
 infoByte:=by kernel_rfl
 cellsByte:=by kernel_rfl
 sizeByte:=by kernel_rfl
 neB5:=by decide }
open Go.RowKit in
theorem Tryz.strings_Join_none (a:Option Addr) (c:Nat) (sep:ByteArray) (w:World) :
  Calls Tryz.prog 163 #[.slice a 0 c,.string sep] w fun e w'=>e=.returned (.string ⟨#[]⟩)/\w'=w:=Any.strings_Join_none Tryz.lays156 Tryz.Builder_Extra_156 a c sep w
open Go.RowKit in
theorem Tryz.strings_Join (bk o c:Nat) (xs:List ByteArray) (sep:ByteArray) (w:World) (hcells:∀ (j:Nat) x,xs[j]? = some x->w.cell? ⟨bk,o+j,none⟩=some (.string x)) (hbk:bk<w.heap.size) (hN:xs.length<=140737488355328) (hcap:xs.length<=c) (hlen:(Lib.join (xs.map (·.data.toList)) sep.data.toList).length<=140737488355328) :
  Calls Tryz.prog 163 #[.slice (some ⟨bk,o,none⟩) xs.length c,.string sep] w fun e w'=>e=.returned (.string ⟨(Lib.join (xs.map (·.data.toList)) sep.data.toList).toArray⟩)/\Below w.heap.size w w':=Any.strings_Join Tryz.lays156 Tryz.Builder_Extra_156 bk o c xs sep w hcells hbk hN hcap hlen
def Tryz.lays161_ren:Go.Shelf.Ren:=⟨fun|161=>90|231=>135|227=>136|233=>137|235=>138|228=>182|197=>183|151=>184|260=>223|152=>224|137=>250|119=>251|224=>252|225=>253|217=>255|266=>271|n=>n,fun|9=>9|4=>4|3=>3|5=>5|117=>226|116=>225|0=>0|124=>229|105=>283|21=>21|119=>341|46=>248|139=>344|138=>343|n=>n,fun|3=>3|4=>4|n=>n⟩
theorem Tryz.lays161:Go.Proofs.Lays.n161 Tryz.prog Tryz.lays161_ren:={
 mixed:=by kernel_rfl
 f119:=Tryz.func251.trans (congrArg some (by kernel_rfl))
 f137:=Tryz.func250.trans (congrArg some (by kernel_rfl))
 f151:=Tryz.func184.trans (congrArg some (by kernel_rfl))
 f152:=Tryz.func224.trans (congrArg some (by kernel_rfl))
 f161:=Tryz.func90.trans (congrArg some (by kernel_rfl))
 f197:=Tryz.func183.trans (congrArg some (by kernel_rfl))
 f217:=Tryz.func255.trans (congrArg some (by kernel_rfl))
 f224:=Tryz.func252.trans (congrArg some (by kernel_rfl))
 f225:=Tryz.func253.trans (congrArg some (by kernel_rfl))
 f227:=Tryz.func136.trans (congrArg some (by kernel_rfl))
 f228:=Tryz.func182.trans (congrArg some (by kernel_rfl))
 f231:=Tryz.func135.trans (congrArg some (by kernel_rfl))
 f233:=Tryz.func137.trans (congrArg some (by kernel_rfl))
 f235:=Tryz.func138.trans (congrArg some (by kernel_rfl))
 f260:=Tryz.func223.trans (congrArg some (by kernel_rfl))
 f266:=Tryz.func271.trans (congrArg some (by kernel_rfl))
 t0:=Tryz.underlying0
 a0:=Tryz.isAgg0
 z0:=Tryz.sizeOf0
 v0:=Tryz.zeroValue0
 t3:=Tryz.underlying3
 a3:=Tryz.isAgg3
 z3:=Tryz.sizeOf3
 v3:=Tryz.zeroValue3
 t4:=Tryz.underlying4
 a4:=Tryz.isAgg4
 z4:=Tryz.sizeOf4
 v4:=Tryz.zeroValue4
 t5:=Tryz.underlying5
 a5:=Tryz.isAgg5
 z5:=Tryz.sizeOf5
 v5:=Tryz.zeroValue5
 t9:=Tryz.underlying9
 a9:=Tryz.isAgg9
 z9:=Tryz.sizeOf9
 v9:=Tryz.zeroValue9
 t21:=Tryz.underlying21
 a21:=Tryz.isAgg21
 z21:=Tryz.sizeOf21
 v21:=Tryz.zeroValue21
 t46:=Tryz.underlying248
 a46:=Tryz.isAgg248
 z46:=Tryz.sizeOf248
 v46:=Tryz.zeroValue248
 t105:=Tryz.underlying283
 a105:=Tryz.isAgg283
 z105:=Tryz.sizeOf283
 v105:=Tryz.zeroValue283
 t116:=Tryz.underlying225
 a116:=Tryz.isAgg225
 z116:=Tryz.sizeOf225
 t117:=Tryz.underlying226
 a117:=Tryz.isAgg226
 z117:=Tryz.sizeOf226
 v117:=Tryz.zeroValue226
 t119:=Tryz.underlying341
 a119:=Tryz.isAgg341
 z119:=Tryz.sizeOf341
 t124:=Tryz.underlying229
 a124:=Tryz.isAgg229
 z124:=Tryz.sizeOf229
 v124:=Tryz.zeroValue229
 t138:=Tryz.underlying343
 a138:=Tryz.isAgg343
 z138:=Tryz.sizeOf343
 v138:=Tryz.zeroValue343
 t139:=Tryz.underlying344
 a139:=Tryz.isAgg344
 z139:=Tryz.sizeOf344
 v139:=Tryz.zeroValue344
 g3:=by kernel_rfl
 g4:=by kernel_rfl }
def Tryz.lays125_ren:Go.Shelf.Ren:=⟨fun|125=>161|128=>207|129=>208|n=>n,fun|46=>248|3=>3|51=>301|53=>145|4=>4|5=>5|9=>9|n=>n,fun|n=>n⟩
theorem Tryz.lays125:Go.Proofs.Lays.n125 Tryz.prog Tryz.lays125_ren:={
 mixed:=by kernel_rfl
 f125:=Tryz.func161.trans (congrArg some (by kernel_rfl))
 f128:=Tryz.func207.trans (congrArg some (by kernel_rfl))
 f129:=Tryz.func208.trans (congrArg some (by kernel_rfl))
 t3:=Tryz.underlying3
 a3:=Tryz.isAgg3
 z3:=Tryz.sizeOf3
 v3:=Tryz.zeroValue3
 t4:=Tryz.underlying4
 a4:=Tryz.isAgg4
 z4:=Tryz.sizeOf4
 v4:=Tryz.zeroValue4
 t5:=Tryz.underlying5
 a5:=Tryz.isAgg5
 z5:=Tryz.sizeOf5
 v5:=Tryz.zeroValue5
 t9:=Tryz.underlying9
 a9:=Tryz.isAgg9
 z9:=Tryz.sizeOf9
 v9:=Tryz.zeroValue9
 t46:=Tryz.underlying248
 a46:=Tryz.isAgg248
 z46:=Tryz.sizeOf248
 v46:=Tryz.zeroValue248
 t51:=Tryz.underlying301
 a51:=Tryz.isAgg301
 z51:=Tryz.sizeOf301
 v51:=Tryz.zeroValue301
 t53:=Tryz.underlying145
 a53:=Tryz.isAgg145
 z53:=Tryz.sizeOf145
 v53:=Tryz.zeroValue145 }
theorem Tryz.bits_Len(x:Int)(w:World)(h0:0<=x)(h1:x<=18446744073709551615):
  Calls Tryz.prog 161 #[.int .u64 x] w fun e w'=>e=.returned (.int .i64 (Lib.bitLen x.toNat))/\w'=w:=Any.bits_Len Tryz.lays125 x w h0 h1
def Tryz.lays106_ren:Go.Shelf.Ren:=⟨fun|106=>106|213=>162|265=>209|n=>n,fun|9=>9|3=>3|n=>n,fun|n=>n⟩
theorem Tryz.lays106:Go.Proofs.Lays.n106 Tryz.prog Tryz.lays106_ren:={
 mixed:=by kernel_rfl
 f106:=Tryz.func106.trans (congrArg some (by kernel_rfl))
 f213:=Tryz.func162.trans (congrArg some (by kernel_rfl))
 f265:=Tryz.func209.trans (congrArg some (by kernel_rfl))
 t3:=Tryz.underlying3
 a3:=Tryz.isAgg3
 z3:=Tryz.sizeOf3
 v3:=Tryz.zeroValue3
 t9:=Tryz.underlying9
 a9:=Tryz.isAgg9
 z9:=Tryz.sizeOf9
 v9:=Tryz.zeroValue9 }
open Go.RowKit in
theorem Tryz.strings_Compare (a b:ByteArray) (w:World) :
  Calls Tryz.prog 106 #[.string a,.string b] w fun e w'=>e=.returned (.int .i64 (Lib.compareBytes a.data.toList b.data.toList))/\w'=w:=Any.strings_Compare Tryz.lays106 a b w
def Tryz.lays122_ren:Go.Shelf.Ren:=⟨fun|122=>88|215=>133|n=>n,fun|3=>3|4=>4|n=>n,fun|n=>n⟩
theorem Tryz.lays122:Go.Proofs.Lays.n122 Tryz.prog Tryz.lays122_ren:={
 mixed:=by kernel_rfl
 f122:=Tryz.func88.trans (congrArg some (by kernel_rfl))
 f215:=Tryz.func133.trans (congrArg some (by kernel_rfl))
 t3:=Tryz.underlying3
 a3:=Tryz.isAgg3
 z3:=Tryz.sizeOf3
 v3:=Tryz.zeroValue3
 t4:=Tryz.underlying4
 a4:=Tryz.isAgg4
 z4:=Tryz.sizeOf4
 v4:=Tryz.zeroValue4 }
open Go.RowKit in
theorem Tryz.cmp_Compare_int (x y:Int) (w:World) :
  Calls Tryz.prog 88 #[.int .i64 x,.int .i64 y] w fun e w'=>e=.returned (.int .i64 (Lib.compareInt x y))/\w'=w:=Any.cmp_Compare_int Tryz.lays122 x y w
def Tryz.lays144_ren:Go.Shelf.Ren:=⟨fun|144=>193|143=>189|219=>228|217=>255|225=>253|224=>252|267=>256|266=>271|314=>272|n=>n,fun|9=>9|4=>4|3=>3|5=>5|46=>248|146=>355|51=>301|n=>n,fun|1=>2|n=>n⟩
theorem Tryz.lays144:Go.Proofs.Lays.n144 Tryz.prog Tryz.lays144_ren:={
 mixed:=by kernel_rfl
 f143:=Tryz.func189.trans (congrArg some (by kernel_rfl))
 f144:=Tryz.func193.trans (congrArg some (by kernel_rfl))
 f217:=Tryz.func255.trans (congrArg some (by kernel_rfl))
 f219:=Tryz.func228.trans (congrArg some (by kernel_rfl))
 f224:=Tryz.func252.trans (congrArg some (by kernel_rfl))
 f225:=Tryz.func253.trans (congrArg some (by kernel_rfl))
 f266:=Tryz.func271.trans (congrArg some (by kernel_rfl))
 f267:=Tryz.func256.trans (congrArg some (by kernel_rfl))
 f314:=Tryz.func272.trans (congrArg some (by kernel_rfl))
 t3:=Tryz.underlying3
 a3:=Tryz.isAgg3
 z3:=Tryz.sizeOf3
 v3:=Tryz.zeroValue3
 t4:=Tryz.underlying4
 a4:=Tryz.isAgg4
 z4:=Tryz.sizeOf4
 v4:=Tryz.zeroValue4
 t5:=Tryz.underlying5
 a5:=Tryz.isAgg5
 z5:=Tryz.sizeOf5
 v5:=Tryz.zeroValue5
 t9:=Tryz.underlying9
 a9:=Tryz.isAgg9
 z9:=Tryz.sizeOf9
 v9:=Tryz.zeroValue9
 t46:=Tryz.underlying248
 a46:=Tryz.isAgg248
 z46:=Tryz.sizeOf248
 v46:=Tryz.zeroValue248
 t51:=Tryz.underlying301
 a51:=Tryz.isAgg301
 z51:=Tryz.sizeOf301
 v51:=Tryz.zeroValue301
 t146:=Tryz.underlying355
 a146:=Tryz.isAgg355
 z146:=Tryz.sizeOf355
 v146:=Tryz.zeroValue355
 g1:=by kernel_rfl }
open Go.RowKit Go.Lib in
theorem Tryz.strings_Contains (s sub:ByteArray) (m:Int) (w:World) (hs:s.size<4294967281) (hm:w.cell? ⟨2,0,none⟩=some (.int .i64 m)) :
  Calls Tryz.prog 193 #[.string s,.string sub] w fun e w'=>e=.returned (.bool (Lib.contains s.data.toList sub.data.toList))/\w'=w:=Any.strings_Contains Tryz.lays144 s sub m w hs hm
def Tryz.lays145_ren:Go.Shelf.Ren:=⟨fun|145=>151|220=>191|219=>228|217=>255|225=>253|224=>252|267=>256|266=>271|314=>272|n=>n,fun|9=>9|4=>4|59=>239|3=>3|5=>5|46=>248|146=>355|51=>301|n=>n,fun|1=>2|n=>n⟩
theorem Tryz.lays145:Go.Proofs.Lays.n145 Tryz.prog Tryz.lays145_ren:={
 mixed:=by kernel_rfl
 f145:=Tryz.func151.trans (congrArg some (by kernel_rfl))
 f217:=Tryz.func255.trans (congrArg some (by kernel_rfl))
 f219:=Tryz.func228.trans (congrArg some (by kernel_rfl))
 f220:=Tryz.func191.trans (congrArg some (by kernel_rfl))
 f224:=Tryz.func252.trans (congrArg some (by kernel_rfl))
 f225:=Tryz.func253.trans (congrArg some (by kernel_rfl))
 f266:=Tryz.func271.trans (congrArg some (by kernel_rfl))
 f267:=Tryz.func256.trans (congrArg some (by kernel_rfl))
 f314:=Tryz.func272.trans (congrArg some (by kernel_rfl))
 t3:=Tryz.underlying3
 a3:=Tryz.isAgg3
 z3:=Tryz.sizeOf3
 v3:=Tryz.zeroValue3
 t4:=Tryz.underlying4
 a4:=Tryz.isAgg4
 z4:=Tryz.sizeOf4
 v4:=Tryz.zeroValue4
 t5:=Tryz.underlying5
 a5:=Tryz.isAgg5
 z5:=Tryz.sizeOf5
 v5:=Tryz.zeroValue5
 t9:=Tryz.underlying9
 a9:=Tryz.isAgg9
 z9:=Tryz.sizeOf9
 v9:=Tryz.zeroValue9
 t46:=Tryz.underlying248
 a46:=Tryz.isAgg248
 z46:=Tryz.sizeOf248
 v46:=Tryz.zeroValue248
 t51:=Tryz.underlying301
 a51:=Tryz.isAgg301
 z51:=Tryz.sizeOf301
 v51:=Tryz.zeroValue301
 t59:=Tryz.underlying239
 a59:=Tryz.isAgg239
 z59:=Tryz.sizeOf239
 v59:=Tryz.zeroValue239
 t146:=Tryz.underlying355
 a146:=Tryz.isAgg355
 z146:=Tryz.sizeOf355
 v146:=Tryz.zeroValue355
 g1:=by kernel_rfl }
open Go.RowKit Go.Lib in
theorem Tryz.strings_Cut (s sep:ByteArray) (m:Int) (w:World) (hs:s.size<4294967281) (hm:w.cell? ⟨2,0,none⟩=some (.int .i64 m)) :
  Calls Tryz.prog 151 #[.string s,.string sep] w fun e w'=>e=.returned (.tuple #[.string ⟨(Lib.cut s.data.toList sep.data.toList).1.toArray⟩,.string ⟨(Lib.cut s.data.toList sep.data.toList).2.1.toArray⟩,.bool (Lib.cut s.data.toList sep.data.toList).2.2])/\∃ n,w'=w.drewN n:=Any.strings_Cut Tryz.lays145 s sep m w hs hm
def Tryz.lays100_ren:Go.Shelf.Ren:=⟨fun|100=>196|207=>190|n=>n,fun|9=>9|4=>4|3=>3|n=>n,fun|n=>n⟩
theorem Tryz.lays100:Go.Proofs.Lays.n100 Tryz.prog Tryz.lays100_ren:={
 mixed:=by kernel_rfl
 f100:=Tryz.func196.trans (congrArg some (by kernel_rfl))
 f207:=Tryz.func190.trans (congrArg some (by kernel_rfl))
 t3:=Tryz.underlying3
 a3:=Tryz.isAgg3
 z3:=Tryz.sizeOf3
 v3:=Tryz.zeroValue3
 t4:=Tryz.underlying4
 a4:=Tryz.isAgg4
 z4:=Tryz.sizeOf4
 v4:=Tryz.zeroValue4
 t9:=Tryz.underlying9
 a9:=Tryz.isAgg9
 z9:=Tryz.sizeOf9
 v9:=Tryz.zeroValue9 }
open Go.RowKit Go.Lib in
theorem Tryz.strings_HasSuffix (s p:ByteArray) (w:World) (hs:s.size<=9223372036854775807) :
  Calls Tryz.prog 196 #[.string s,.string p] w fun e w'=>e=.returned (.bool (Lib.hasSuffix s.data.toList p.data.toList))/\w'=w:=Any.strings_HasSuffix Tryz.lays100 s p w hs
def Tryz.lays102_ren:Go.Shelf.Ren:=⟨fun|102=>102|209=>150|207=>190|n=>n,fun|9=>9|4=>4|3=>3|n=>n,fun|n=>n⟩
theorem Tryz.lays102:Go.Proofs.Lays.n102 Tryz.prog Tryz.lays102_ren:={
 mixed:=by kernel_rfl
 f102:=Tryz.func102.trans (congrArg some (by kernel_rfl))
 f207:=Tryz.func190.trans (congrArg some (by kernel_rfl))
 f209:=Tryz.func150.trans (congrArg some (by kernel_rfl))
 t3:=Tryz.underlying3
 a3:=Tryz.isAgg3
 z3:=Tryz.sizeOf3
 v3:=Tryz.zeroValue3
 t4:=Tryz.underlying4
 a4:=Tryz.isAgg4
 z4:=Tryz.sizeOf4
 v4:=Tryz.zeroValue4
 t9:=Tryz.underlying9
 a9:=Tryz.isAgg9
 z9:=Tryz.sizeOf9
 v9:=Tryz.zeroValue9 }
open Go.RowKit Go.Lib in
theorem Tryz.strings_TrimSuffix (s p:ByteArray) (w:World) (hs:s.size<=9223372036854775807) :
  Calls Tryz.prog 102 #[.string s,.string p] w fun e w'=>e=.returned (.string ⟨(Lib.trimSuffix s.data.toList p.data.toList).toArray⟩)/\w'=w:=Any.strings_TrimSuffix Tryz.lays102 s p w hs
def Tryz.lays146_ren:Go.Shelf.Ren:=⟨fun|146=>101|221=>149|268=>187|138=>188|143=>189|195=>226|197=>183|218=>227|219=>228|260=>223|217=>255|225=>253|224=>252|267=>256|266=>271|314=>272|n=>n,fun|9=>9|31=>38|3=>3|4=>4|0=>0|105=>283|21=>21|5=>5|46=>248|119=>341|139=>344|138=>343|146=>355|51=>301|n=>n,fun|1=>2|3=>3|4=>4|n=>n⟩
theorem Tryz.lays146:Go.Proofs.Lays.n146 Tryz.prog Tryz.lays146_ren:={
 mixed:=by kernel_rfl
 f138:=Tryz.func188.trans (congrArg some (by kernel_rfl))
 f143:=Tryz.func189.trans (congrArg some (by kernel_rfl))
 f146:=Tryz.func101.trans (congrArg some (by kernel_rfl))
 f195:=Tryz.func226.trans (congrArg some (by kernel_rfl))
 f197:=Tryz.func183.trans (congrArg some (by kernel_rfl))
 f217:=Tryz.func255.trans (congrArg some (by kernel_rfl))
 f218:=Tryz.func227.trans (congrArg some (by kernel_rfl))
 f219:=Tryz.func228.trans (congrArg some (by kernel_rfl))
 f221:=Tryz.func149.trans (congrArg some (by kernel_rfl))
 f224:=Tryz.func252.trans (congrArg some (by kernel_rfl))
 f225:=Tryz.func253.trans (congrArg some (by kernel_rfl))
 f260:=Tryz.func223.trans (congrArg some (by kernel_rfl))
 f266:=Tryz.func271.trans (congrArg some (by kernel_rfl))
 f267:=Tryz.func256.trans (congrArg some (by kernel_rfl))
 f268:=Tryz.func187.trans (congrArg some (by kernel_rfl))
 f314:=Tryz.func272.trans (congrArg some (by kernel_rfl))
 t0:=Tryz.underlying0
 a0:=Tryz.isAgg0
 z0:=Tryz.sizeOf0
 v0:=Tryz.zeroValue0
 t3:=Tryz.underlying3
 a3:=Tryz.isAgg3
 z3:=Tryz.sizeOf3
 v3:=Tryz.zeroValue3
 t4:=Tryz.underlying4
 a4:=Tryz.isAgg4
 z4:=Tryz.sizeOf4
 v4:=Tryz.zeroValue4
 t5:=Tryz.underlying5
 a5:=Tryz.isAgg5
 z5:=Tryz.sizeOf5
 v5:=Tryz.zeroValue5
 t9:=Tryz.underlying9
 a9:=Tryz.isAgg9
 z9:=Tryz.sizeOf9
 v9:=Tryz.zeroValue9
 t21:=Tryz.underlying21
 a21:=Tryz.isAgg21
 z21:=Tryz.sizeOf21
 v21:=Tryz.zeroValue21
 t31:=Tryz.underlying38
 a31:=Tryz.isAgg38
 z31:=Tryz.sizeOf38
 v31:=Tryz.zeroValue38
 t46:=Tryz.underlying248
 a46:=Tryz.isAgg248
 z46:=Tryz.sizeOf248
 v46:=Tryz.zeroValue248
 t51:=Tryz.underlying301
 a51:=Tryz.isAgg301
 z51:=Tryz.sizeOf301
 v51:=Tryz.zeroValue301
 t105:=Tryz.underlying283
 a105:=Tryz.isAgg283
 z105:=Tryz.sizeOf283
 v105:=Tryz.zeroValue283
 t119:=Tryz.underlying341
 a119:=Tryz.isAgg341
 z119:=Tryz.sizeOf341
 t138:=Tryz.underlying343
 a138:=Tryz.isAgg343
 z138:=Tryz.sizeOf343
 v138:=Tryz.zeroValue343
 t139:=Tryz.underlying344
 a139:=Tryz.isAgg344
 z139:=Tryz.sizeOf344
 v139:=Tryz.zeroValue344
 t146:=Tryz.underlying355
 a146:=Tryz.isAgg355
 z146:=Tryz.sizeOf355
 v146:=Tryz.zeroValue355
 g1:=by kernel_rfl
 g3:=by kernel_rfl
 g4:=by kernel_rfl }
open Go.RowKit Go.Lib in
theorem Tryz.strings_Split (s sep:ByteArray) (m:Int) (w:World) (hs:s.size<4294967281) (hm:w.cell? ⟨2,0,none⟩=some (.int .i64 m)) (h1:1<=sep.size) :
  Calls Tryz.prog 101 #[.string s,.string sep] w fun e w' =>
   e=.returned (.slice (some ⟨w.heap.size,0,none⟩) (Lib.countB s sep+1) (Lib.countB s sep+1))/\w'=w.alloc (.cells ((Lib.splitB sep 0 (Lib.countB s sep) s).map Value.string).toArray 9):=Any.strings_Split Tryz.lays146 (by kernel_rfl) s sep m w hs hm h1
def Tryz.lays110_ren:Go.Shelf.Ren:=⟨fun|110=>195|109=>232|n=>n,fun|31=>38|9=>9|4=>4|3=>3|0=>0|n=>n,fun|n=>n⟩
theorem Tryz.lays110:Go.Proofs.Lays.n110 Tryz.prog Tryz.lays110_ren:={
 mixed:=by kernel_rfl
 f109:=Tryz.func232.trans (congrArg some (by kernel_rfl))
 f110:=Tryz.func195.trans (congrArg some (by kernel_rfl))
 t0:=Tryz.underlying0
 a0:=Tryz.isAgg0
 z0:=Tryz.sizeOf0
 v0:=Tryz.zeroValue0
 t3:=Tryz.underlying3
 a3:=Tryz.isAgg3
 z3:=Tryz.sizeOf3
 v3:=Tryz.zeroValue3
 t4:=Tryz.underlying4
 a4:=Tryz.isAgg4
 z4:=Tryz.sizeOf4
 v4:=Tryz.zeroValue4
 t9:=Tryz.underlying9
 a9:=Tryz.isAgg9
 z9:=Tryz.sizeOf9
 v9:=Tryz.zeroValue9
 t31:=Tryz.underlying38
 a31:=Tryz.isAgg38
 z31:=Tryz.sizeOf38
 v31:=Tryz.zeroValue38 }
open Go.Lib in
theorem Tryz.slices_Contains_string (b off n c:Nat) (zs:List ByteArray) (x:ByteArray) (w:World) (hz:n<=zs.length) (hbig:n<=9223372036854775807) (hc:∀ j,j<zs.length->w.cell? ⟨b,off+j,none⟩=some (.string (zs.getD j ByteArray.empty))) :
  Calls Tryz.prog 195 #[.slice (some ⟨b,off,none⟩) n c,.string x] w fun e w'=>e=.returned (.bool (Lib.containsS (zs.take n) x))/\w'=w:=Any.slices_Contains_string Tryz.lays110 b off n c zs x w hz hbig hc
end Go.Proofs
namespace Go.Proofs.YtfphcecjhdkcoaaGreatDoor
open Go.Lib (hid)
section
open Go.RowKit
structure Glob(G:Nat)(w:World):Prop where
 six:6<=G
 size:G<=w.heap.size
 maxlen:∃ m,w.cell? ⟨2,0,none⟩=some (.int .i64 m)
 signs:∃ b off cap,b<G/\w.cell? ⟨1,0,none⟩=some (.slice (some ⟨b,off,none⟩) 5 cap)/\∀ k,(hk:k<5)->w.cell? ⟨b,off+k,none⟩=some (.string ⟨(Sp.signs[k]'hk).toArray⟩)
theorem Glob.below{G B:Nat}{w w':World}(h:Glob G w)(hb:Below B w w')(hB:G<=B):Glob G w':=by
 obtain⟨h6,hs,⟨m,hm⟩,⟨b,off,cap,hbG,h1,h2⟩⟩:=h;refine⟨h6,Nat.le_trans hs hb.size,⟨m,?_⟩,⟨b,off,cap,hbG,?_,fun k hk=>?_⟩⟩
 ·rw[hb.cell (by show 2<B;omega)];exact hm
 ·rw[hb.cell (by show 1<B;omega)];exact h1
 ·rw[hb.cell (by show b<B;omega)];exact h2 k hk
theorem Glob.keep{G:Nat}{w w':World}(h:Glob G w)(hb:Below w.heap.size w w'):Glob G w':=h.below hb h.size
theorem trim_any(s p:ByteArray)(w:World)(hs:s.size<=9223372036854775807):
  Calls Tryz.prog 102 #[.string s,.string p] w fun e w'=>e=.returned (.string ⟨(Lib.trimSuffix (bl s) (bl p)).toArray⟩)/\w=w':=
 (Tryz.strings_TrimSuffix s p w hs).mono fun _ _ ⟨h1,h2⟩=>⟨h1,h2.symm⟩
theorem hasSuffix_any(s p:ByteArray)(w:World)(hs:s.size<=9223372036854775807):
  Calls Tryz.prog 196 #[.string s,.string p] w fun e w'=>e=.returned (.bool (Lib.hasSuffix (bl s) (bl p)))/\w=w':=
 (Tryz.strings_HasSuffix s p w hs).mono fun _ _ ⟨h1,h2⟩=>⟨h1,h2.symm⟩
theorem cutS_any{G:Nat}(s p:ByteArray)(w:World)(hG:Glob G w)(hs:s.size<4294967281):
  Calls Tryz.prog 151 #[.string s,.string p] w fun e w'=>e=.returned (.tuple #[.string ⟨(Lib.cut (bl s) (bl p)).1.toArray⟩,.string ⟨(Lib.cut (bl s) (bl p)).2.1.toArray⟩,.bool (Lib.cut (bl s) (bl p)).2.2])/\∃ n,w'=w.drewN n:=by
 obtain⟨m,hm⟩:=hG.maxlen;exact Tryz.strings_Cut s p m w hs hm
theorem contains_any{G:Nat}(s p:ByteArray)(w:World)(hG:Glob G w)(hs:s.size<4294967281):
  Calls Tryz.prog 193 #[.string s,.string p] w fun e w'=>e=.returned (.bool (Lib.contains (bl s) (bl p)))/\w=w':=by
 obtain⟨m,hm⟩:=hG.maxlen;exact(Tryz.strings_Contains s p m w hs hm).mono fun _ _ ⟨h1,h2⟩=>⟨h1,h2.symm⟩
theorem splitS_any{G:Nat}(s p:ByteArray)(w:World)(hG:Glob G w)(hs:s.size<4294967281)(hp:0<p.size):
  Calls Tryz.prog 101 #[.string s,.string p] w fun e w'=>∃ v,e=.returned v/\StrsAt w' v (Lib.split (bl s) (bl p))/\Below w.heap.size w w':=by
 obtain⟨m,hm⟩:=hG.maxlen;refine(Tryz.strings_Split s p m w hs hm hp).mono fun e w' ⟨h1,h2⟩=>?_
 subst h1;subst h2;have hlen:(Lib.splitB p 0 (Lib.countB s p) s).length=Lib.countB s p+1:=Lib.splitB_all p hp 0 _ s rfl;have hdat:(Lib.splitB p 0 (Lib.countB s p) s).map bl=Lib.split (bl s) (bl p):=Lib.splitB_data p 0 (Lib.countB s p) s;have hl2:(Lib.split (bl s) (bl p)).length=Lib.countB s p+1:=by rw[<-hdat,List.length_map,hlen]
 refine⟨_,rfl,?_,(Below.refl _ _).alloc (Nat.le_refl _) _⟩;refine⟨_,Lib.countB s p+1,by rw[List.length_map,hl2],by rw[List.length_map,hl2];exact Nat.le_refl _,fun k x hk=>?_⟩;refine⟨w.heap.size,0,rfl,by simp,fun j u hj=>?_⟩;rw[List.getElem?_map,Option.map_eq_some_iff] at hk;obtain⟨q,hq,rfl⟩:=hk;have hj0:j=0:=by
  rcases j with _|j
  ·rfl
  ·simp at hj
 subst hj0;have hu:u=sv q:=by simpa using hj.symm
 subst hu;rw[<-hdat,List.getElem?_map,Option.map_eq_some_iff] at hq;obtain⟨y,hy,rfl⟩:=hq;rw[World.cell?_alloc_at _ _ _ _ rfl];simp only[Nat.zero_add,Nat.mul_one,Nat.add_zero,List.getElem?_toArray,List.getElem?_map,hy,Option.map_some];unfold sv;rw[mk_bl]
theorem upper_any(s:ByteArray)(w:World)(hs:s.size<=140737488355328)(ha:∀ (j:Nat) (b:UInt8),(bl s)[j]? = some b->b.toNat<128):
  Calls Tryz.prog 194 #[.string s] w fun e w'=>e=.returned (.string ⟨(Lib.toUpperA (bl s)).toArray⟩)/\Below w.heap.size w w':=
 Tryz.strings_ToUpper_ascii s w hs ha
theorem join_any(v:Value)(l:List Sp.Str)(p:ByteArray)(w:World)(hv:StrsAt w v l)(hl:l.length<=140737488355328)(hj:(Lib.join l (bl p)).length<=140737488355328):
  Calls Tryz.prog 163 #[v,.string p] w fun e w'=>e=.returned (.string ⟨(Lib.join l (bl p)).toArray⟩)/\Below w.heap.size w w':=by
 obtain⟨a,cap,rfl,hc,h⟩:=hv.get
 cases l with
 | nil=>exact(Tryz.strings_Join_none a cap p w).mono fun e w' ⟨h1,h2⟩=>⟨h1,h2 ▸ Below.refl _ _⟩
 | cons x r =>
  obtain⟨b,off,rfl,hb,_⟩:=h 0 (by simp);have hm:((x :: r).map (fun s=>(⟨s.toArray⟩:ByteArray))).map (·.data.toList)=x :: r:=by simp[Function.comp_def]
  have hlen:((x :: r).map (fun s=>(⟨s.toArray⟩:ByteArray))).length=(x :: r).length:=by simp
  have:=Tryz.strings_Join b off cap ((x :: r).map (fun s=>(⟨s.toArray⟩:ByteArray))) p w (fun j y hj=>by
   rw[List.getElem?_map,Option.map_eq_some_iff] at hj;obtain⟨s,hs,rfl⟩:=hj;obtain⟨hk,rfl⟩:=List.getElem?_eq_some_iff.1 hs;obtain⟨b',off',e,_,hx⟩:=h j hk
   cases e
   exact hx) hb (by rw[hlen];exact hl) (by rw[hlen];exact hc) (by rw[hm];exact hj)
  rw[hlen,hm] at this;exact this
theorem compare_any(s p:ByteArray)(w:World):
  Calls Tryz.prog 106 #[.string s,.string p] w fun e w'=>e=.returned (.int .i64 (Lib.compareBytes (bl s) (bl p)))/\w=w':=
 (Tryz.strings_Compare s p w).mono fun _ _ ⟨h1,h2⟩=>⟨h1,h2.symm⟩
theorem cmpInt_any(x y:Int)(w:World):
  Calls Tryz.prog 88 #[.int .i64 x,.int .i64 y] w fun e w'=>e=.returned (.int .i64 (Lib.compareInt x y))/\w=w':=
 (Tryz.cmp_Compare_int x y w).mono fun _ _ ⟨h1,h2⟩=>⟨h1,h2.symm⟩
theorem trimLeft_any(s p:ByteArray)(w:World)(hp:p.size<4294967281)(ha:∀ (j:Nat) (b:UInt8),(bl p)[j]? = some b->b.toNat<128):
  Calls Tryz.prog 90 #[.string s,.string p] w fun e w'=>e=.returned (.string ⟨(Lib.trimLeftS (bl s) (bl p)).toArray⟩)/\Below w.heap.size w w':=
 Any.strings_TrimLeft_laid Tryz.lays161 (by kernel_rfl) s p w hp ha
end
section
open Go.RowKit
namespace W1
theorem dropWhile_nil(p:UInt8->Bool):∀ l:List UInt8,(l.dropWhile p).isEmpty=l.all p
 | []=>rfl
 | c :: r=>by
  cases h:p c
  ·simp[List.dropWhile,h]
  ·simp[List.dropWhile,h,dropWhile_nil p r]
theorem among_eq(s t:Sp.Str)(least most:Nat):Sp.among s t least most=((Lib.trimLeftS s t).isEmpty && decide (least<=s.length) && decide (s.length<=most)):=by
 unfold Sp.among Lib.trimLeftS;rw[dropWhile_nil]
theorem among_yes{s t:Sp.Str}{least most:Nat}(h:Lib.trimLeftS s t=[])(h2:least<=s.length):Sp.among s t least most=decide (s.length<=most):=by
 rw[among_eq,h];simp[h2]
theorem among_no{s t:Sp.Str}{least most:Nat}(h:¬Lib.trimLeftS s t=[]):Sp.among s t least most=false:=by
 rw[among_eq];simp[h]
theorem among_few{s t:Sp.Str}{least most:Nat}(h:¬least<=s.length):Sp.among s t least most=false:=by
 rw[among_eq];simp[h]
theorem dig_and(c:UInt8)(h:48<=c.toNat):Sp.isDig c=decide ((c.toNat:Int)<=57):=by
 unfold Sp.isDig;rw[Bool.eq_iff_iff];simp;omega
theorem dig_no(c:UInt8)(h:¬48<=c.toNat):Sp.isDig c=false:=by
 unfold Sp.isDig;simp;omega
theorem among_size{s t:Sp.Str}{least most:Nat}(h:Sp.among s t least most=true):least<=s.length/\s.length<=most:=by
 rw[Sp.among] at h;simp at h;exact⟨h.1.2,h.2⟩
end W1
theorem must_true(w:World):Calls Tryz.prog 152 #[.bool true] w fun e w'=>e=.returned (.tuple #[])/\w=w':=by
 go_enter Tryz.func152,Tryz.ntmps152;go_wp2
 go_end0
 exact⟨rfl,rfl⟩
theorem must_false(w:World):Calls Tryz.prog 152 #[.bool false] w fun e w'=>e=.panicked [{v:=.iface 177 (.agg #[]),recovered:=false}]/\w=w':=by
 go_enter Tryz.func152,Tryz.ntmps152;go_wp2;exact⟨rfl,rfl,rfl⟩
theorem digit_any(c:UInt8)(w:World):Calls Tryz.prog 86 #[.int .u8 (c.toNat:Int)] w fun e w'=>e=.returned (.bool (Sp.isDig c))/\w=w':=by
 by_cases h:48<=c.toNat
 ·go_enter Tryz.func86,Tryz.ntmps86
  go_wp2;go_ret;exact⟨ret_bool (W1.dig_and c h).symm,rfl⟩
 ·go_enter Tryz.func86,Tryz.ntmps86
  go_wp2;go_ret;exact⟨ret_bool (W1.dig_no c h).symm,rfl⟩
theorem among_any(s t:ByteArray)(least most:Nat)(w:World)(ht:t.size<4294967281)(ha:∀ (j:Nat) (b:UInt8),(bl t)[j]? = some b->b.toNat<128):
  Calls Tryz.prog 192 #[.string s,.string t,.int .i64 least,.int .i64 most] w fun e w'=>e=.returned (.bool (Sp.among (bl s) (bl t) least most))/\Below w.heap.size w w':=by
 have HA:=hid ha;clear ha;go_enter Tryz.func192,Tryz.ntmps192;go_wp2_with (go_at_call 90;refine(trimLeft_any _ _ _ ht HA.out).mono ?_;rintro e w' ⟨rfl,hb⟩)
 ·have h1:Lib.trimLeftS (bl s) (bl t)=[]:=by assumption
  have h2:least<=s.size:=by assumption
  go_ret;exact⟨ret_bool (by rw[W1.among_yes h1 (by rw[bl_len];exact h2),bl_len]),hb⟩
 ·have h2:¬least<=s.size:=by assumption
  go_ret;exact⟨ret_bool (W1.among_few (by rw[bl_len];exact h2)).symm,hb⟩
 ·have h2:¬Lib.trimLeftS (bl s) (bl t)=[]:=by assumption
  go_ret;exact⟨ret_bool (W1.among_no h2).symm,hb⟩
namespace W1
theorem ascii_of{l:Sp.Str}(h:l.all (fun b=>decide (b.toNat<128))=true):∀ (j:Nat) (b:UInt8),l[j]? = some b->b.toNat<128:=fun j b hj=>by
 have:=List.all_eq_true.1 h b (List.mem_of_getElem? hj)
 simpa using this
theorem nameS_arr:bl ⟨#[97,98,99,100,101,102,103,104,105,106,107,108,109,110,111,112,113,114,115,116,117,118,119,120,121,122,48,49,50,51,52,53,54,55,56,57,45]⟩=Sp.nameS:=rfl
theorem index_one(s:Sp.Str)(c:UInt8):Lib.contains s [c]=s.contains c:=by
 unfold Lib.contains
 induction s with
 | nil=>rfl
 | cons b l ih =>
  unfold Lib.index
  by_cases h:b=c
  ·subst h;simp[List.isPrefixOf]
  ·have hc:(c == b)=false:=by simp;exact fun e=>h e.symm
   have h1:[c].isPrefixOf (b :: l)=false:=by simp[List.isPrefixOf,hc]
   rw[if_neg (by rw[h1];simp),List.contains_cons,hc,Bool.false_or,<-ih];have:=Lib.index_ge l [c]
   split
   ·rename_i h2
    have h2':Lib.index l [c]=-1:=by simpa using h2
    rw[h2']
   ·rename_i h2
    have h2':¬Lib.index l [c]=-1:=by simpa using h2
    rw[Bool.eq_iff_iff];simp;omega
theorem head_one(s:ByteArray)(h:0<s.size):∃ c r,bl s=c :: r/\bl (s.extract 0 1)=[c]/\s[0]=c:=by
 have h1:=bl_one s 0 h
 cases hs:bl s with
 | nil=>rw[<-bl_len,hs] at h;simp at h
 | cons c r =>
  refine⟨c,r,rfl,?_,?_⟩
  ·rw[bl_to,hs];rfl
  ·rw[bl_to,hs] at h1;simpa using h1.symm
theorem name_yes{s:Sp.Str}{c:UInt8}{r:Sp.Str}(h:Sp.among s Sp.nameS 1 12=true)(hs:s=c :: r):Sp.isName s=Lib.contains Sp.smallS [c]:=by
 unfold Sp.isName;rw[h,Bool.true_and,hs,index_one];rfl
theorem name_no{s:Sp.Str}(h:Sp.among s Sp.nameS 1 12=false):Sp.isName s=false:=by
 unfold Sp.isName;rw[h,Bool.false_and]
theorem ver_yes{s:Sp.Str}{c:UInt8}{r:Sp.Str}(h:Sp.among s Sp.verS 1 16=true)(hs:s=c :: r):Sp.isVer s=Sp.isDig c:=by
 unfold Sp.isVer;rw[h,Bool.true_and,hs];rfl
theorem ver_no{s:Sp.Str}(h:Sp.among s Sp.verS 1 16=false):Sp.isVer s=false:=by
 unfold Sp.isVer;rw[h,Bool.false_and]
end W1
theorem smallS_arr:bl ⟨#[97,98,99,100,101,102,103,104,105,106,107,108,109,110,111,112,113,114,115,116,117,118,119,120,121,122]⟩=Sp.smallS:=rfl
theorem name_yes{G:Nat}(s:ByteArray)(w:World)(hG:Glob G w)(hn:Sp.isName (bl s)=true):
  Calls Tryz.prog 153 #[.string s] w fun e w'=>e=.returned (.string s)/\Below w.heap.size w w':=by
 have ha:Sp.among (bl s) Sp.nameS 1 12=true:=by unfold Sp.isName at hn;simp at hn;exact hn.1
 have hsz:=(W1.among_size ha).1;rw[bl_len] at hsz;obtain⟨c,r,hcr,hone,_⟩:=W1.head_one s hsz;have hcon:Lib.contains Sp.smallS [c]=true:=by rw[<-W1.name_yes ha hcr];exact hn
 have HA:=hid ha;have HO:=hid hone;have HC:=hid hcon;clear ha hone hcon hn hcr;go_enter Tryz.func153,Tryz.ntmps153;go_wp2_with fail;refine(among_any s _ 1 12 w (by decide) (W1.ascii_of (by decide))).mono ?_;rintro e w1 ⟨rfl,hb⟩;rw[W1.nameS_arr,HA.out];go_wp2_with fail;refine(contains_any _ _ w1 (hG.keep hb) (by decide)).mono ?_;rintro e w2 ⟨rfl,rfl⟩;rw[smallS_arr,HO.out,HC.out];go_wp2_with fail;refine(must_true _).mono ?_;rintro e w2 ⟨rfl,rfl⟩;go_wp2;go_ret;exact⟨rfl,hb⟩
theorem name_no{G:Nat}(s:ByteArray)(w:World)(hG:Glob G w)(hn:Sp.isName (bl s)=false):
  Calls Tryz.prog 153 #[.string s] w fun e w'=>e=.panicked [{v:=.iface 177 (.agg #[]),recovered:=false}]/\Below w.heap.size w w':=by
 cases ha:Sp.among (bl s) Sp.nameS 1 12 with
 | false =>
  have HA:=hid ha;clear ha hn;go_enter Tryz.func153,Tryz.ntmps153;go_wp2_with fail;refine(among_any s _ 1 12 w (by decide) (W1.ascii_of (by decide))).mono ?_;rintro e w1 ⟨rfl,hb⟩;rw[W1.nameS_arr,HA.out];go_wp2_with fail;refine(must_false _).mono ?_;rintro e w2 ⟨rfl,rfl⟩;go_wp2;exact⟨rfl,rfl,hb⟩
 | true =>
  have hsz:=(W1.among_size ha).1;rw[bl_len] at hsz;obtain⟨c,r,hcr,hone,_⟩:=W1.head_one s hsz;have hcon:Lib.contains Sp.smallS [c]=false:=by rw[<-W1.name_yes ha hcr];exact hn
  have HA:=hid ha;have HO:=hid hone;have HC:=hid hcon;clear ha hone hcon hn hcr;go_enter Tryz.func153,Tryz.ntmps153;go_wp2_with fail;refine(among_any s _ 1 12 w (by decide) (W1.ascii_of (by decide))).mono ?_;rintro e w1 ⟨rfl,hb⟩;rw[W1.nameS_arr,HA.out];go_wp2_with fail;refine(contains_any _ _ w1 (hG.keep hb) (by decide)).mono ?_;rintro e w2 ⟨rfl,rfl⟩;rw[smallS_arr,HO.out,HC.out];go_wp2_with fail;refine(must_false _).mono ?_;rintro e w2 ⟨rfl,rfl⟩;go_wp2;exact⟨rfl,rfl,hb⟩
theorem upS:Lib.toUpperA (bl ⟨#[97,98,99,100,101,102,103,104,105,106,107,108,109,110,111,112,113,114,115,116,117,118,119,120,121,122]⟩)=[65,66,67,68,69,70,71,72,73,74,75,76,77,78,79,80,81,82,83,84,85,86,87,88,89,90]:=by decide +kernel
theorem verS_arr(x:ByteArray)(h:bl x=Sp.verS):x.size<4294967281/\∀ (j:Nat) (b:UInt8),(bl x)[j]? = some b->b.toNat<128:=by
 refine⟨?_,?_⟩
 ·rw[<-bl_len,h];decide
 ·rw[h];exact W1.ascii_of (by decide)
theorem ver_arg:bl ((⟨#[97,98,99,100,101,102,103,104,105,106,107,108,109,110,111,112,113,114,115,116,117,118,119,120,121,122]⟩:ByteArray) ++ ⟨([65,66,67,68,69,70,71,72,73,74,75,76,77,78,79,80,81,82,83,84,85,86,87,88,89,90]:List UInt8).toArray⟩ ++ ⟨#[48,49,50,51,52,53,54,55,56,57]⟩ ++ ⟨#[46,43,45,126]⟩)=Sp.verS:=by
 rw[bl_app,bl_app,bl_app];rfl
theorem ver_yes(s:ByteArray)(w:World)(hn:Sp.isVer (bl s)=true):
  Calls Tryz.prog 154 #[.string s] w fun e w'=>e=.returned (.string s)/\Below w.heap.size w w':=by
 have ha:Sp.among (bl s) Sp.verS 1 16=true:=by unfold Sp.isVer at hn;simp at hn;exact hn.1
 have hsz:=(W1.among_size ha).1;rw[bl_len] at hsz;obtain⟨c,r,hcr,_,hc0⟩:=W1.head_one s hsz;have hcon:Sp.isDig c=true:=by rw[<-W1.ver_yes ha hcr];exact hn
 have HA:=hid ha;have HC:=hid hcon;have H0:=hid hc0;clear ha hcon hn hcr hc0;go_enter Tryz.func154,Tryz.ntmps154;go_wp2_with fail;refine(upper_any _ _ (by decide) (W1.ascii_of (by decide))).mono ?_;rintro e w1 ⟨rfl,hb1⟩;rw[upS];go_wp2_with fail;refine(among_any s _ 1 16 w1 (verS_arr _ ver_arg).1 (verS_arr _ ver_arg).2).mono ?_;rintro e w2 ⟨rfl,hb2⟩;rw[ver_arg,HA.out];go_wp2_with fail;rw[show(s[0].toNat:Int)=(c.toNat:Int) from by rw[H0.out]];refine(digit_any c w2).mono ?_;rintro e w3 ⟨rfl,rfl⟩;rw[HC.out];go_wp2_with fail;refine(must_true _).mono ?_;rintro e w3 ⟨rfl,rfl⟩;go_wp2;go_ret;exact⟨rfl,hb1.trans (hb2.mono hb1.size)⟩
theorem ver_no(s:ByteArray)(w:World)(hn:Sp.isVer (bl s)=false):
  Calls Tryz.prog 154 #[.string s] w fun e w'=>e=.panicked [{v:=.iface 177 (.agg #[]),recovered:=false}]/\Below w.heap.size w w':=by
 cases ha:Sp.among (bl s) Sp.verS 1 16 with
 | false =>
  have HA:=hid ha;clear ha hn;go_enter Tryz.func154,Tryz.ntmps154;go_wp2_with fail;refine(upper_any _ _ (by decide) (W1.ascii_of (by decide))).mono ?_;rintro e w1 ⟨rfl,hb1⟩;rw[upS];go_wp2_with fail;refine(among_any s _ 1 16 w1 (verS_arr _ ver_arg).1 (verS_arr _ ver_arg).2).mono ?_;rintro e w2 ⟨rfl,hb2⟩;rw[ver_arg,HA.out];go_wp2_with fail;refine(must_false _).mono ?_;rintro e w3 ⟨rfl,rfl⟩;go_wp2;exact⟨rfl,rfl,hb1.trans (hb2.mono hb1.size)⟩
 | true =>
  have hsz:=(W1.among_size ha).1;rw[bl_len] at hsz;obtain⟨c,r,hcr,_,hc0⟩:=W1.head_one s hsz;have hcon:Sp.isDig c=false:=by rw[<-W1.ver_yes ha hcr];exact hn
  have HA:=hid ha;have HC:=hid hcon;have H0:=hid hc0;clear ha hcon hn hcr hc0;go_enter Tryz.func154,Tryz.ntmps154;go_wp2_with fail;refine(upper_any _ _ (by decide) (W1.ascii_of (by decide))).mono ?_;rintro e w1 ⟨rfl,hb1⟩;rw[upS];go_wp2_with fail;refine(among_any s _ 1 16 w1 (verS_arr _ ver_arg).1 (verS_arr _ ver_arg).2).mono ?_;rintro e w2 ⟨rfl,hb2⟩;rw[ver_arg,HA.out];go_wp2_with fail;rw[show(s[0].toNat:Int)=(c.toNat:Int) from by rw[H0.out]];refine(digit_any c w2).mono ?_;rintro e w3 ⟨rfl,rfl⟩;rw[HC.out];go_wp2_with fail;refine(must_false _).mono ?_;rintro e w3 ⟨rfl,rfl⟩;go_wp2;exact⟨rfl,rfl,hb1.trans (hb2.mono hb1.size)⟩
end
end Go.Proofs.YtfphcecjhdkcoaaGreatDoor

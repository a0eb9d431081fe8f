/-
Plain: the disk: what is written, what takes hold, what is found again.
-/
import Derived.Test.YtfphcecjhdkcoaaGreatDoorScrP01
import Derived.Test.YtfphcecjhdkcoaaGreatDoorScrP04
namespace Go.Proofs.YtfphcecjhdkcoaaGreatDoor
section
theorem mem_folders(x s:Sp.Str):x∈Sp.folders s↔Sp.over x s=true:=by
 unfold Sp.folders Sp.over;rw[List.mem_map,List.isPrefixOf_iff_prefix];constructor
 ·rintro ⟨i,hi,rfl⟩
  obtain⟨hi1,hi2⟩:=List.mem_filter.1 hi;rw[List.mem_range] at hi1;have h47:s[i]? = some 47:=by simpa using hi2
  have:s.take i ++ [47]=s.take (i+1):=by rw[List.take_add_one,h47];rfl
  rw[this];exact List.take_prefix _ _
 ·rintro ⟨r,rfl⟩
  refine⟨x.length,List.mem_filter.2 ⟨List.mem_range.2 (by simp),?_⟩,by simp⟩;rw[List.append_assoc,List.getElem?_append_right (Nat.le_refl _)];simp
theorem clash1_iff:∀ l:List Sp.Str,Sp.clash1 l=true↔∃ x∈l,2<=l.count x\/x∈l.flatMap Sp.folders
 | []=>by simp[Sp.clash1]
 | p :: r=>by
  have hself:∀ s:Sp.Str,s ∉ Sp.folders s:=fun s h=>by
   rw[mem_folders] at h;unfold Sp.over at h;rw[List.isPrefixOf_iff_prefix] at h;have h9:=h.length_le;rw[List.length_append] at h9;exact absurd h9 (by simp)
  unfold Sp.clash1;rw[Bool.or_eq_true,clash1_iff r,List.any_eq_true];constructor
  ·rintro (⟨q,hq,h⟩|⟨x,hx,h⟩)
   ·simp only[Bool.or_eq_true,beq_iff_eq] at h
    rcases h with(rfl|h)|h
    ·refine⟨p,by simp,.inl ?_⟩
     rw[List.count_cons_self];have:=List.count_pos_iff.2 hq;omega
    ·exact⟨p,by simp,.inr (List.mem_flatMap.2 ⟨q,by simp[hq],(mem_folders p q).2 h⟩)⟩
    ·exact⟨q,by simp[hq],.inr (List.mem_flatMap.2 ⟨p,by simp,(mem_folders q p).2 h⟩)⟩
   ·refine⟨x,by simp[hx],?_⟩
    rcases h with h|h
    ·left;rw[List.count_cons];omega
    ·right;rw[List.flatMap_cons];exact List.mem_append.2 (.inr h)
  ·rintro ⟨x,hx,h⟩
   rcases List.mem_cons.1 hx with rfl|hx
   ·rcases h with h|h
    ·rw[List.count_cons_self] at h
     exact .inl ⟨x,List.count_pos_iff.1 (by omega),by simp⟩
    ·rw[List.flatMap_cons,List.mem_append] at h
     rcases h with h|h
     ·exact absurd h (hself x)
     ·obtain⟨q,hq,h⟩:=List.mem_flatMap.1 h
      exact .inl ⟨q,hq,by rw[(mem_folders x q).1 h];simp⟩
   ·rcases h with h|h
    ·by_cases e:p=x
     ·subst e;exact .inl ⟨p,hx,by simp⟩
     ·rw[List.count_cons_of_ne e] at h
      exact .inr ⟨x,hx,.inl h⟩
    ·rw[List.flatMap_cons,List.mem_append] at h
     rcases h with h|h
     ·exact .inl ⟨x,hx,by rw[(mem_folders x p).1 h];simp⟩
     ·exact .inr ⟨x,hx,.inr h⟩
theorem clash_none(l r:List Sp.Str)(h:∀ x,x∈r↔x∈l/\(2<=l.count x\/x∈l.flatMap Sp.folders)):r=[]↔Sp.clash1 l=false:=by
 rw[<-Bool.not_eq_true,clash1_iff];constructor
 ·rintro rfl ⟨x,hx,h1⟩
  exact List.not_mem_nil ((h x).2 ⟨hx,h1⟩)
 ·intro hn
  refine List.eq_nil_iff_forall_not_mem.2 fun x hx=>hn ⟨x,(h x).1 hx⟩
end
section
namespace V1
open Sp (Str)
theorem join_cons2(x y:Str)(r:List Str)(t:Str):Lib.join (x :: y :: r) t=x ++ t ++ Lib.join (y :: r) t:=by
 rw[Lib.join_cons,Lib.join_cons];simp[Lib.joinTail]
theorem join_ne(x:Str){r:List Str}(hr:r≠[])(t:Str):Lib.join (x :: r) t=x ++ t ++ Lib.join r t:=by
 cases r with
 | nil=>exact absurd rfl hr
 | cons y r=>exact join_cons2 x y r t
theorem join_split_n(t:Str)(ht:t≠[]):∀ (n:Nat) (s:Str),s.length<=n->Lib.join (Lib.split s t) t=s:=by
 intro n
 induction n with
 | zero =>
  intro s hs;have:s=[]:=List.length_eq_zero_iff.1 (by omega);subst this;rw[Sp.split_end [] t ht 0 (by simp;exact List.length_pos_iff.2 ht) (fun j h=>absurd h (Nat.not_lt_zero _)),Lib.join_one]
 | succ n ih =>
  intro s hs
  rcases Sp.index_range s t ht with h|⟨i,h,h1,h2,_⟩
  ·rw[Sp.split_miss s t ht h,Lib.join_one]
  ·rw[Sp.split_hit s t ht i h,join_ne _ (Sp.split_ne _ t ht),ih _ (by rw[List.length_drop];have:=List.length_pos_iff.2 ht;omega)]
   rw[Sp.occ_take s t i h1] at h2;have e:(s.drop i).take t.length=t:=by simpa using h2
   have e2:s=s.take i ++ (t ++ s.drop (i+t.length)):=by
    rw[<-List.drop_drop];have:=List.take_append_drop t.length (s.drop i);rw[e] at this;rw[this,List.take_append_drop]
   rw[List.append_assoc];exact e2.symm
theorem join_split(s t:Str)(ht:t≠[]):Lib.join (Lib.split s t) t=s:=join_split_n t ht s.length s (Nat.le_refl _)
theorem mem_join{c:UInt8}{t:Str}:∀ {xs:List Str},c∈Lib.join xs t->c∈t\/∃ x∈xs,c∈x
 | [],h=>by simp[Lib.join_nil] at h
 | [x],h=>by rw[Lib.join_one] at h;exact .inr ⟨x,by simp,h⟩
 | x :: y :: r,h=>by
  rw[join_cons2] at h
  rcases List.mem_append.1 h with h|h
  ·rcases List.mem_append.1 h with h|h
   ·exact .inr ⟨x,by simp,h⟩
   ·exact .inl h
  ·rcases mem_join h with h|⟨z,hz,h⟩
   ·exact .inl h
   ·exact .inr ⟨z,List.mem_cons_of_mem _ hz,h⟩
theorem split_pieces(c:UInt8):∀ (n:Nat) (s:Str),s.length<=n->∀ x∈Lib.split s [c],c ∉ x:=by
 intro n
 induction n with
 | zero =>
  intro s hs;have:s=[]:=List.length_eq_zero_iff.1 (by omega);subst this;rw[Sp.split_end [] [c] (by simp) 0 (by simp) (fun j h=>absurd h (Nat.not_lt_zero _))];simp
 | succ n ih =>
  intro s hs x hx
  rcases T1.byte1 c s with⟨h1,h2,_⟩|⟨a,r,rfl,ha,h2,_⟩
  ·rw[h2] at hx;rw[List.mem_singleton] at hx;subst hx;exact h1
  ·rw[h2] at hx
   rcases List.mem_cons.1 hx with rfl|hx
   ·exact ha
   ·exact ih r (by simp at hs;omega) x hx
theorem split_no(c:UInt8)(s x:Str)(hx:x∈Lib.split s [c]):c ∉ x:=split_pieces c s.length s (Nat.le_refl _) x hx
theorem occ_get{s t:Str}{j i:Nat}{c:UInt8}(h:Lib.occAt s t j=true)(hc:t[i]? = some c):s[j+i]? = some c:=by
 unfold Lib.occAt at h;obtain⟨r,hr⟩:=List.isPrefixOf_iff_prefix.1 h;have hi:i<t.length:=(List.getElem?_eq_some_iff.1 hc).1;have:(s.drop j)[i]? = some c:=by rw[<-hr,List.getElem?_append_left hi];exact hc
 rwa [List.getElem?_drop] at this
theorem split_join(c:UInt8)(t:Str)(i:Nat)(hc:t[i]? = some c)(hu:∀ j,t[j]? = some c->j=i):
  ∀ xs:List Str,xs≠[]->(∀ x∈xs,c ∉ x)->Lib.split (Lib.join xs t) t=xs
 | [],h,_=>absurd rfl h
 | [x],_,h=>by
  have ht:t≠[]:=by rintro rfl;simp at hc
  rw[Lib.join_one];refine Sp.split_miss x t ht (Lib.index_none fun j _=>?_);rw[Bool.eq_false_iff];intro ho;exact h x (by simp) (List.mem_of_getElem? (occ_get ho hc))
 | x :: y :: r,_,h=>by
  have ht:t≠[]:=by rintro rfl;simp at hc
  have hi:i<t.length:=(List.getElem?_eq_some_iff.1 hc).1;rw[join_cons2,List.append_assoc];rw[Sp.split_at _ t ht x.length (by simp) ?_ ?_]
  ·have e1:(x ++ (t ++ Lib.join (y :: r) t)).take x.length=x:=by simp
   have e2:(x ++ (t ++ Lib.join (y :: r) t)).drop (x.length+t.length)=Lib.join (y :: r) t:=by
    rw[<-List.append_assoc,<-List.length_append];simp
   rw[e1,e2,split_join c t i hc hu (y :: r) (by simp) fun z hz=>h z (List.mem_cons_of_mem _ hz)]
  ·unfold Lib.occAt
   rw[List.drop_left];exact List.isPrefixOf_iff_prefix.2 (List.prefix_append _ _)
  ·intro j hj
   rw[Bool.eq_false_iff];intro ho;have hg:=occ_get ho hc
   by_cases hlt:j+i<x.length
   ·rw[List.getElem?_append_left hlt] at hg
    exact h x (by simp) (List.mem_of_getElem? hg)
   ·rw[List.getElem?_append_right (by omega),List.getElem?_append_left (by omega)] at hg
    have:=hu _ hg;omega
theorem mapO_map{α:Type}{one:Str->Option α}{pr:α->Str}:∀ {l:List α},(∀ x∈l,one (pr x)=some x)->Sp.mapO one (l.map pr)=some l
 | [],_=>rfl
 | x :: r,h=>by
  rw[List.map_cons];unfold Sp.mapO;rw[h x (by simp),mapO_map fun y hy=>h y (List.mem_cons_of_mem _ hy)]
theorem mapO_inv{α:Type}{one:Str->Option α}{pr:α->Str}{Q:α->Prop}(hone:∀ x y,one x=some y->pr y=x/\Q y):∀ {xs:List Str} {l:List α},Sp.mapO one xs=some l->l.map pr=xs/\∀ y∈l,Q y
 | [],l,h=>by cases h;exact⟨rfl,fun y hy=>by cases hy⟩
 | x :: xs,l,h=>by
  unfold Sp.mapO at h
  split at h
  ·rename_i y ys h1 h2
   cases h
   obtain⟨i1,i2⟩:=mapO_inv hone h2;obtain⟨j1,j2⟩:=hone x y h1;exact⟨by rw[List.map_cons,i1,j1],fun z hz=>by
    rcases List.mem_cons.1 hz with rfl|hz
    ·exact j2
    ·exact i2 z hz⟩
  ·cases h
theorem each_print{α:Type}{one:Str->Option α}{pr:α->Str}{c:UInt8}{t:Str}{i most:Nat}(hc:t[i]? = some c)(hu:∀ j,t[j]? = some c->j=i){l:List α}(hne:l≠[])(hl:l.length<=most)
  (h:∀ x∈l,one (pr x)=some x/\c ∉ pr x):Sp.each (Lib.join (l.map pr) t) t most one=some l:=by
 unfold Sp.each;rw[split_join c t i hc hu (l.map pr) (by simpa using hne) (fun x hx=>by obtain⟨y,hy,rfl⟩:=List.mem_map.1 hx;exact(h y hy).2),mapO_map fun x hx=>(h x hx).1];simp only;rw[if_pos hl]
theorem each_inv{α:Type}{one:Str->Option α}{pr:α->Str}{Q:α->Prop}(hone:∀ x y,one x=some y->pr y=x/\Q y){s t:Str}(ht:t≠[]){most:Nat}{l:List α}(h:Sp.each s t most one=some l):
  Lib.join (l.map pr) t=s/\l≠[]/\l.length<=most/\∀ y∈l,Q y:=by
 unfold Sp.each at h
 split at h
 ·rename_i l' hl
  split at h
  ·rename_i hm
   cases h
   obtain⟨h1,h2⟩:=mapO_inv hone hl;refine⟨by rw[h1,join_split s t ht],?_,hm,h2⟩;rintro rfl;exact Sp.split_ne s t ht h1.symm
  ·cases h
 ·cases h
theorem among_no{s set:Str}{a b:Nat}{c:UInt8}(h:Sp.among s set a b=true)(hc:set.contains c=false):c ∉ s:=by
 intro hm;rw[T1.mem_all hm hc] at h;cases h
theorem name_no{s:Str}{c:UInt8}(h:Sp.isName s=true)(hc:Sp.nameS.contains c=false):c ∉ s:=by
 unfold Sp.isName at h;rw[Bool.and_eq_true] at h;exact among_no h.1 hc
theorem ver_no{s:Str}{c:UInt8}(h:Sp.isVer s=true)(hc:Sp.verS.contains c=false):c ∉ s:=by
 unfold Sp.isVer at h;rw[Bool.and_eq_true] at h;exact among_no h.1 hc
theorem name_ne{s:Str}(h:Sp.isName s=true):s≠[]:=by rintro rfl;cases h
theorem path_no{s:Str}{c:UInt8}(h:Sp.isPath s=true)(hc:Sp.pathS.contains c=false)(h47:c≠47):c ∉ s:=by
 intro hm;unfold Sp.isPath at h;rw[Bool.and_eq_true,List.all_eq_true] at h;rw[<-join_split s [47] (by simp)] at hm
 rcases mem_join hm with hm|⟨x,hx,hm⟩
 ·simp at hm;exact h47 hm
 ·have:=h.1 x hx
  unfold Sp.isPart at this;rw[Bool.and_eq_true,Bool.and_eq_true] at this;exact among_no this.1.1 hc hm
def WfC(c:Sp.Ch):Prop:=Sp.isName c.name=true/\((c.sign=[]/\c.ver=[])\/(Sp.signs.contains c.sign=true/\Sp.isVer c.ver=true))
theorem sign_no{s:Str}{c:UInt8}(h:Sp.signs.contains s=true)(hc:c≠60/\c≠61/\c≠62):c ∉ s:=by
 rw[List.contains_iff_mem] at h;intro hm;have:∀ x∈Sp.signs,∀ b∈x,b=60\/b=61\/b=62:=by decide
 rcases this s h c hm with rfl|rfl|rfl
 ·exact hc.1 rfl
 ·exact hc.2.1 rfl
 ·exact hc.2.2 rfl
theorem sign_ne{s:Str}(h:Sp.signs.contains s=true):s.isEmpty=false:=by
 rw[List.contains_iff_mem] at h;have:∀ x∈Sp.signs,x.isEmpty=false:=by decide
 exact this s h
theorem cut_hit{s t a r:Str}(ht:t≠[])(h:Lib.cut s t=(a,r,true)):s=a ++ t ++ r:=by
 unfold Lib.cut at h
 rcases Sp.index_range s t ht with h1|⟨i,h1,h2,h3,_⟩
 ·rw[h1,if_neg (by omega)] at h;simp at h
 ·rw[h1,if_pos (by omega),Int.toNat_natCast] at h
  simp only[Prod.mk.injEq,and_true] at h;obtain⟨rfl,rfl⟩:=h;rw[Sp.occ_take s t i h2] at h3;have e:(s.drop i).take t.length=t:=by simpa using h3
  have:=List.take_append_drop t.length (s.drop i);rw[e,List.drop_drop] at this;rw[List.append_assoc,this,List.take_append_drop]
theorem cut_mk(c:UInt8){a r:Str}(h:c ∉ a):Lib.cut (a ++ c :: r) [c]=(a,r,true):=by
 have hi:Lib.index (a ++ c :: r) [c]=(a.length:Nat):=by
  refine Lib.index_first (by simp) ?_ (fun j hj=>T1.occ_no h hj);unfold Lib.occAt;simp[List.isPrefixOf]
 unfold Lib.cut;rw[hi,if_pos (by omega),Int.toNat_natCast];simp
theorem suffix_split{v:Str}(h:Lib.hasSuffix v [41]=true):Lib.trimSuffix v [41] ++ [41]=v:=by
 unfold Lib.trimSuffix;rw[if_pos h];unfold Lib.hasSuffix at h;obtain⟨r,rfl⟩:=List.isSuffixOf_iff_suffix.1 h;simp
theorem suffix_mk(v:Str):Lib.hasSuffix (v ++ [41]) [41]=true/\Lib.trimSuffix (v ++ [41]) [41]=v:=by
 have h:Lib.hasSuffix (v ++ [41]) [41]=true:=List.isSuffixOf_iff_suffix.2 (List.suffix_append _ _);refine⟨h,?_⟩;unfold Lib.trimSuffix;rw[if_pos h];simp
theorem choose_print{c:Sp.Ch}(h:WfC c):Sp.choose (Sp.printC c)=some c:=by
 obtain⟨n,s,v⟩:=c;obtain⟨hn,hs⟩:=h;simp only at hn hs;have n32:(32:UInt8) ∉ n:=name_no hn (by decide);unfold Sp.printC;simp only
 rcases hs with⟨rfl,rfl⟩|⟨hs,hv⟩
 ·unfold Sp.choose
  simp only[List.isEmpty_nil,if_true];rw[T1.cut2_none n32];simp[hn]
 ·rw[sign_ne hs]
  have e:n ++ [32,40] ++ s ++ [32] ++ v ++ [41]=n ++ 32 :: 40 :: (s ++ 32 :: (v ++ [41])):=by simp
  rw[if_neg (by simp),e];unfold Sp.choose;rw[T1.cut2_here n32];simp only;rw[cut_mk 32 (sign_no hs (by decide))];simp only[hn,hs,(suffix_mk v).1,(suffix_mk v).2,hv,if_true,Bool.and_self]
theorem choose_inv{s:Str}{c:Sp.Ch}(h:Sp.choose s=some c):Sp.printC c=s/\WfC c:=by
 unfold Sp.choose at h
 rcases hcut:Lib.cut s [32,40] with⟨a,r,ok⟩
 rw[hcut] at h;simp only at h
 split at h
 ·rename_i hn
  split at h
  ·rename_i hok
   subst hok
   rcases hcut2:Lib.cut r [32] with⟨b,q,ok2⟩
   rw[hcut2] at h;simp only at h
   split at h
   ·rename_i hm
    simp only[Bool.and_eq_true] at hm;obtain⟨⟨⟨rfl,h2⟩,h3⟩,h4⟩:=hm
    cases h
    refine⟨?_,hn,.inr ⟨h2,h4⟩⟩;unfold Sp.printC;simp only;rw[sign_ne h2,if_neg (by simp),cut_hit (by simp) hcut,cut_hit (by simp) hcut2];have:=suffix_split h3;simp only[List.append_assoc] at this ⊢;rw[this]
   ·cases h
  ·rename_i hok
   cases h
   refine⟨?_,hn,.inl ⟨rfl,rfl⟩⟩;unfold Sp.printC;simp only[List.isEmpty_nil,if_true];unfold Lib.cut at hcut
   split at hcut
   ·exact absurd (congrArg (fun z=>z.2.2) hcut).symm hok
   ·simp only[Prod.mk.injEq] at hcut;exact hcut.1.symm
 ·cases h
theorem printC_no{c:Sp.Ch}(h:WfC c){x:UInt8}(hn:Sp.nameS.contains x=false)(hv:Sp.verS.contains x=false)(hx:x≠60/\x≠61/\x≠62)(hy:x≠32/\x≠40/\x≠41):x ∉ Sp.printC c:=by
 obtain⟨h1,h2⟩:=h;have a1:=name_no h1 hn;unfold Sp.printC
 rcases h2 with⟨h2,h3⟩|⟨h2,h3⟩
 ·rw[h2];simpa using a1
 ·rw[sign_ne h2,if_neg (by simp)]
  have a2:=sign_no h2 hx;have a3:=ver_no h3 hv;simp[a1,a2,a3,hy.1,hy.2.1,hy.2.2]
end V1
end
section
namespace V2
open Sp (Str)
open V1
def WfF(f:Sp.Fl):Prop:=Sp.isPath f.path=true/\f.content.length<=24/\(10:UInt8) ∉ f.content
structure WfP(p:Sp.Pk):Prop where
 name:Sp.isName p.name=true
 ver:Sp.isVer p.ver=true
 needs:p.needs.length<=3
 groups:∀ g∈p.needs,g≠[]/\g.length<=3/\∀ c∈g,WfC c
 bars:p.bars.length<=3
 barred:∀ c∈p.bars,WfC c
 files:p.files.length<=4
 paths:∀ f∈p.files,WfF f
 clash:Sp.clash1 (p.files.map (·.path))=false
def pkL(p:Sp.Pk):Str:=Sp.packageW ++ 32 :: (p.name ++ 32 :: p.ver)
def groupT(g:List Sp.Ch):Str:=Lib.join (g.map Sp.printC) [32,124,32]
def needsL(ns:List (List Sp.Ch)):Str:=Sp.needsW ++ 32 :: Lib.join (ns.map groupT) [44,32]
def barsL(bs:List Sp.Ch):Str:=Sp.barsW ++ 32 :: Lib.join (bs.map Sp.printC) [44,32]
def fileL(f:Sp.Fl):Str:=Sp.fileW ++ 32 :: (f.path ++ 61 :: f.content)
def needsLs(ns:List (List Sp.Ch)):List Str:=if ns.isEmpty then [] else [needsL ns]
def barsLs(bs:List Sp.Ch):List Str:=if bs.isEmpty then [] else [barsL bs]
def linesOf(p:Sp.Pk):List Str:=pkL p :: (needsLs p.needs ++ (barsLs p.bars ++ p.files.map fileL))
theorem joinTail_append(t:Str)(a b:List Str):Lib.joinTail t (a ++ b)=Lib.joinTail t a ++ Lib.joinTail t b:=by simp[Lib.joinTail]
theorem print_join(p:Sp.Pk):Sp.print p=Lib.join (linesOf p) [10]:=by
 unfold linesOf;rw[Lib.join_cons,joinTail_append,joinTail_append];unfold Sp.print;have e1:[112,97,99,107,97,103,101,32] ++ p.name ++ [32] ++ p.ver=pkL p:=by simp[pkL,Sp.packageW]
 have e2:(if p.needs.isEmpty then [] else [10,110,101,101,100,115,32] ++ Lib.join (p.needs.map fun g=>Lib.join (g.map Sp.printC) [32,124,32]) [44,32])=Lib.joinTail [10] (needsLs p.needs):=by
  unfold needsLs
  split
  ·rfl
  ·simp[Lib.joinTail,needsL,Sp.needsW]
   rfl
 have e3:(if p.bars.isEmpty then [] else [10,98,97,114,115,32] ++ Lib.join (p.bars.map Sp.printC) [44,32])=Lib.joinTail [10] (barsLs p.bars):=by
  unfold barsLs
  split
  ·rfl
  ·simp[Lib.joinTail,barsL,Sp.barsW]
 have e4:(p.files.map Sp.printF).flatten=Lib.joinTail [10] (p.files.map fileL):=by
  unfold Lib.joinTail;rw[List.map_map]
  congr 2
  funext f
  simp[Sp.printF,fileL,Sp.fileW]
 rw[e1,e2,e3,e4];simp only[List.append_assoc]
theorem group_inv{s:Str}{g:List Sp.Ch}(h:Sp.each s [32,124,32] 3 Sp.choose=some g):groupT g=s/\g≠[]/\g.length<=3/\∀ c∈g,WfC c:=
 each_inv (Q:=WfC) (pr:=Sp.printC) (fun _ _=>choose_inv) (by simp) h
theorem u124:∀ j:Nat,([32,124,32]:Str)[j]? = some 124->j=1
 | 0,h=>by simp at h
 | 1,_=>rfl
 | 2,h=>by simp at h
 | (n+3),h=>by simp at h
theorem u44:∀ j:Nat,([44,32]:Str)[j]? = some 44->j=0
 | 0,_=>rfl
 | 1,h=>by simp at h
 | (n+2),h=>by simp at h
theorem u10:∀ j:Nat,([10]:Str)[j]? = some 10->j=0
 | 0,_=>rfl
 | (n+1),h=>by simp at h
theorem group_print{g:List Sp.Ch}(h1:g≠[])(h2:g.length<=3)(h3:∀ c∈g,WfC c):Sp.each (groupT g) [32,124,32] 3 Sp.choose=some g:=
 each_print (c:=124) (i:=1) rfl u124 h1 h2 fun c hc=>⟨choose_print (h3 c hc),printC_no (h3 c hc) (by decide) (by decide) (by decide) (by decide)⟩
theorem group_no{g:List Sp.Ch}(h3:∀ c∈g,WfC c){x:UInt8}(hn:Sp.nameS.contains x=false)(hv:Sp.verS.contains x=false)(hx:x≠60/\x≠61/\x≠62)(hy:x≠32/\x≠40/\x≠41)(h124:x≠124):x ∉ groupT g:=by
 intro hm
 rcases mem_join hm with hm|⟨s,hs,hm⟩
 ·simp at hm;exact hm.elim hy.1 fun e=>e.elim h124 hy.1
 ·obtain⟨c,hc,rfl⟩:=List.mem_map.1 hs
  exact printC_no (h3 c hc) hn hv hx hy hm
theorem needs_print{ns:List (List Sp.Ch)}(h1:ns≠[])(h2:ns.length<=3)(h3:∀ g∈ns,g≠[]/\g.length<=3/\∀ c∈g,WfC c):
  Sp.each (Lib.join (ns.map groupT) [44,32]) [44,32] 3 (fun g=>Sp.each g [32,124,32] 3 Sp.choose)=some ns:=
 each_print (c:=44) (i:=0) rfl u44 h1 h2 fun g hg=>⟨group_print (h3 g hg).1 (h3 g hg).2.1 (h3 g hg).2.2,group_no (h3 g hg).2.2 (by decide) (by decide) (by decide) (by decide) (by decide)⟩
theorem bars_print{bs:List Sp.Ch}(h1:bs≠[])(h2:bs.length<=3)(h3:∀ c∈bs,WfC c):Sp.each (Lib.join (bs.map Sp.printC) [44,32]) [44,32] 3 Sp.choose=some bs:=
 each_print (c:=44) (i:=0) rfl u44 h1 h2 fun c hc=>⟨choose_print (h3 c hc),printC_no (h3 c hc) (by decide) (by decide) (by decide) (by decide)⟩
theorem needs_inv{s:Str}{ns:List (List Sp.Ch)}(h:Sp.each s [44,32] 3 (fun g=>Sp.each g [32,124,32] 3 Sp.choose)=some ns):
  Lib.join (ns.map groupT) [44,32]=s/\ns≠[]/\ns.length<=3/\∀ g∈ns,g≠[]/\g.length<=3/\∀ c∈g,WfC c:=
 each_inv (Q:=fun g=>g≠[]/\g.length<=3/\∀ c∈g,WfC c) (pr:=groupT) (fun _ _=>group_inv) (by simp) h
theorem bars_inv{s:Str}{bs:List Sp.Ch}(h:Sp.each s [44,32] 3 Sp.choose=some bs):Lib.join (bs.map Sp.printC) [44,32]=s/\bs≠[]/\bs.length<=3/\∀ c∈bs,WfC c:=
 each_inv (Q:=WfC) (pr:=Sp.printC) (fun _ _=>choose_inv) (by simp) h
theorem isEmpty_nil{α:Type}{l:List α}(h:l.isEmpty=true):l=[]:=List.isEmpty_iff.1 h
theorem isEmpty_ne{α:Type}{l:List α}(h:l≠[]):l.isEmpty=false:=by cases l;exact absurd rfl h;rfl
theorem first_inv{p':Sp.Pk}{s:Str}(h:Sp.line Sp.nothing true s=some p'):WfP p'/\linesOf p'=[s]:=by
 rcases hcut:Lib.cut s [32] with⟨a,r,ok⟩
 unfold Sp.line at h;rw[hcut] at h;simp only at h
 split at h
 ·cases h
 ·rename_i h0
  have h0':ok=true/\(a == Sp.packageW)=true:=by
   simp only[Bool.not_eq_true,Bool.not_eq_false',Bool.and_eq_true] at h0;exact⟨h0.1,by have:=h0.2;cases hh:(a == Sp.packageW) <;> rw[hh] at this <;> simp_all⟩
  obtain⟨rfl,ha⟩:=h0';rw[if_pos ha] at h
  rcases hcut2:Lib.cut r [32] with⟨n,v,ok2⟩
  rw[hcut2] at h;simp only at h
  split at h
  ·rename_i hm
   simp only[Bool.and_eq_true] at hm;obtain⟨⟨rfl,h2⟩,h3⟩:=hm
   cases h
   refine⟨⟨h2,h3,by simp[Sp.nothing],fun g hg=>by simp[Sp.nothing] at hg,by simp[Sp.nothing],fun c hc=>by simp[Sp.nothing] at hc,by simp[Sp.nothing],fun f hf=>by simp[Sp.nothing] at hf,rfl⟩,?_⟩;have ha':a=Sp.packageW:=by simpa using ha
   subst ha';rw[cut_hit (by simp) hcut,cut_hit (by simp) hcut2];simp[linesOf,pkL,Sp.nothing,needsLs,barsLs]
  ·cases h
theorem later_inv{p p':Sp.Pk}{s:Str}(hp:WfP p)(hs:(10:UInt8) ∉ s)(h:Sp.line p false s=some p'):WfP p'/\linesOf p'=linesOf p ++ [s]:=by
 rcases hcut:Lib.cut s [32] with⟨a,r,ok⟩
 unfold Sp.line at h;rw[hcut] at h;simp only at h
 split at h
 ·cases h
 ·rename_i h0
  have h0':ok=true/\(a == Sp.packageW)=false:=by
   simp only[Bool.not_eq_true,Bool.not_eq_false',Bool.and_eq_true] at h0;exact⟨h0.1,by have:=h0.2;cases hh:(a == Sp.packageW) <;> rw[hh] at this <;> simp_all⟩
  obtain⟨rfl,ha⟩:=h0';rw[ha] at h;have es:=cut_hit (by simp) hcut;rw[if_neg (by simp)] at h
  split at h
  ·rename_i hw
   have ha':a=Sp.needsW:=by simpa using hw
   split at h
   ·rename_i he
    simp only[Bool.and_eq_true] at he;obtain⟨⟨e1,e2⟩,e3⟩:=he;obtain⟨ns,hns,rfl⟩:=Option.map_eq_some_iff.1 h;obtain⟨i1,i2,i3,i4⟩:=needs_inv hns;refine⟨⟨hp.name,hp.ver,i3,i4,hp.bars,hp.barred,hp.files,hp.paths,hp.clash⟩,?_⟩;unfold linesOf;simp only[isEmpty_nil e1,isEmpty_nil e2,isEmpty_nil e3];have:needsLs ns=[s]:=by
     unfold needsLs needsL;rw[isEmpty_ne i2,i1,es,ha'];simp
    rw[this];simp[needsLs,barsLs,pkL]
   ·cases h
  ·split at h
   ·rename_i hw
    have ha':a=Sp.barsW:=by simpa using hw
    split at h
    ·rename_i he
     simp only[Bool.and_eq_true] at he;obtain⟨e2,e3⟩:=he;obtain⟨ns,hns,rfl⟩:=Option.map_eq_some_iff.1 h;obtain⟨i1,i2,i3,i4⟩:=bars_inv hns;refine⟨⟨hp.name,hp.ver,hp.needs,hp.groups,i3,i4,hp.files,hp.paths,hp.clash⟩,?_⟩;unfold linesOf;simp only[isEmpty_nil e2,isEmpty_nil e3];have:barsLs ns=[s]:=by
      unfold barsLs barsL;rw[isEmpty_ne i2,i1,es,ha'];simp
     rw[this];simp[barsLs,pkL]
    ·cases h
   ·split at h
    ·rename_i hw
     have ha':a=Sp.fileW:=by simpa using hw
     split at h
     ·rename_i he
      rcases hcut2:Lib.cut r [61] with⟨f,c,ok2⟩
      rw[hcut2] at he h;simp only[Bool.and_eq_true,decide_eq_true_eq,Bool.not_eq_true'] at he;obtain⟨⟨⟨⟨rfl,e2⟩,e3⟩,e4⟩,e5⟩:=he
      cases h
      have er:=cut_hit (by simp) hcut2;refine⟨⟨hp.name,hp.ver,hp.needs,hp.groups,hp.bars,hp.barred,by simp;omega,fun g hg=>?_,by rw[List.map_append];exact e5⟩,?_⟩
      ·rcases List.mem_append.1 hg with hg|hg
       ·exact hp.paths g hg
       ·rw[List.mem_singleton] at hg;subst hg
        refine⟨e4,e2,fun hm=>hs ?_⟩;rw[es,er];simp;exact .inr (.inr hm)
      ·unfold linesOf
       simp only[List.map_append,List.map_cons,List.map_nil];have:fileL ⟨f,c⟩=s:=by rw[es,er,ha'];simp[fileL]
       rw[this];simp[pkL]
     ·cases h
    ·cases h
theorem lines_inv:∀ (ls:List Str) (p p':Sp.Pk) (i:Nat),WfP p->(∀ s∈ls,(10:UInt8) ∉ s)->Sp.lines p (i+1) ls=.inr p'->WfP p'/\linesOf p'=linesOf p ++ ls
 | [],p,p',i,hp,_,h=>by cases h;exact⟨hp,by simp⟩
 | s :: r,p,p',i,hp,hs,h=>by
  unfold Sp.lines at h;have e0:(i+1 == 0)=false:=by simp
  rw[e0] at h
  split at h
  ·rename_i q hq
   obtain⟨h1,h2⟩:=later_inv hp (hs s (by simp)) hq;obtain⟨h3,h4⟩:=lines_inv r q p' (i+1) h1 (fun x hx=>hs x (List.mem_cons_of_mem _ hx)) h;exact⟨h3,by rw[h4,h2];simp⟩
  ·cases h
theorem all_inv{ls:List Str}{p:Sp.Pk}(hne:ls≠[])(hs:∀ s∈ls,(10:UInt8) ∉ s)(h:Sp.lines Sp.nothing 0 ls=.inr p):WfP p/\linesOf p=ls:=by
 cases ls with
 | nil=>exact absurd rfl hne
 | cons s r =>
  unfold Sp.lines at h;have e0:((0:Nat) == 0)=true:=rfl;rw[e0] at h
  split at h
  ·rename_i q hq
   obtain⟨h1,h2⟩:=first_inv hq;obtain⟨h3,h4⟩:=lines_inv r q p 0 h1 (fun x hx=>hs x (List.mem_cons_of_mem _ hx)) h;exact⟨h3,by rw[h4,h2];rfl⟩
  ·cases h
theorem ins_perm(f:Sp.Fl):∀ l:List Sp.Fl,(Sp.insertF f l).Perm (f :: l)
 | []=>List.Perm.refl _
 | g :: r=>by
  unfold Sp.insertF
  split
  ·exact List.Perm.refl _
  ·exact((ins_perm f r).cons g).trans (List.Perm.swap f g r)
theorem sort_perm(l:List Sp.Fl):∀ acc,(l.foldl (fun a f=>Sp.insertF f a) acc).Perm (acc ++ l):=by
 induction l with
 | nil=>intro acc;simp
 | cons x r ih =>
  intro acc;rw[List.foldl_cons];exact(ih _).trans (((ins_perm x acc).append_right r).trans (by rw[List.cons_append];exact List.perm_middle.symm))
theorem sortF_perm(l:List Sp.Fl):(Sp.sortF l).Perm l:=by unfold Sp.sortF;simpa using sort_perm l []
theorem sort_id:∀ (l acc:List Sp.Fl),P3.Ord (acc ++ l)->l.foldl (fun a f=>Sp.insertF f a) acc=acc ++ l
 | [],acc,_=>by simp
 | x :: r,acc,h=>by
  have e:acc ++ x :: r=(acc ++ [x]) ++ r:=by simp
  have e2:Sp.insertF x acc=acc ++ [x]:=by
   obtain⟨_,_,h3⟩:=List.pairwise_append.1 h;have:=P3.ins_mid x acc [] (fun g hg=>by
    rw[<-Bool.not_eq_true,P3.lt_iff];exact List.not_lt.2 (h3 g hg x (by simp))) (fun g r h=>by cases h)
   simpa using this
  rw[List.foldl_cons,e2,e];exact sort_id r (acc ++ [x]) (by rw[<-e];exact h)
theorem sortF_id(l:List Sp.Fl)(h:P3.Ord l):Sp.sortF l=l:=sort_id l [] h
theorem clash_perm{l r:List Str}(h:l.Perm r):Sp.clash1 l=Sp.clash1 r:=by
 have key:∀ {l r:List Str},l.Perm r->Sp.clash1 l=true->Sp.clash1 r=true:=by
  intro l r h hc;rw[clash1_iff] at hc ⊢;obtain⟨x,hx,h1⟩:=hc;refine⟨x,h.mem_iff.1 hx,?_⟩
  rcases h1 with h1|h1
  ·exact .inl (by rw[<-h.count_eq];exact h1)
  ·right
   obtain⟨y,hy,hf⟩:=List.mem_flatMap.1 h1;exact List.mem_flatMap.2 ⟨y,h.mem_iff.1 hy,hf⟩
 rw[Bool.eq_iff_iff];exact⟨key h,key h.symm⟩
theorem WfP.sorted{p:Sp.Pk}(h:WfP p):WfP { p with files:=Sp.sortF p.files }:=
 ⟨h.name,h.ver,h.needs,h.groups,h.bars,h.barred,by rw[P3.sortF_len];exact h.files,fun f hf=>h.paths f ((P3.sortF_mem _ _).1 hf),by
  rw[clash_perm ((sortF_perm p.files).map _)];exact h.clash⟩
theorem line_pk{p:Sp.Pk}(hn:Sp.isName p.name=true)(hv:Sp.isVer p.ver=true)(q:Sp.Pk):Sp.line q true (pkL p)=some { q with name:=p.name,ver:=p.ver }:=by
 unfold Sp.line pkL;rw[cut_mk 32 (by decide)];simp only;rw[cut_mk 32 (V1.name_no hn (by decide))];simp[hn,hv]
theorem line_needs{q:Sp.Pk}(h1:q.needs=[])(h2:q.bars=[])(h3:q.files=[]){ns:List (List Sp.Ch)}(i1:ns≠[])(i2:ns.length<=3)(i3:∀ g∈ns,g≠[]/\g.length<=3/\∀ c∈g,WfC c):
  Sp.line q false (needsL ns)=some { q with needs:=ns }:=by
 unfold Sp.line needsL;rw[cut_mk 32 (by decide)];simp only[needs_print i1 i2 i3,h1,h2,h3]
 rfl
theorem line_bars{q:Sp.Pk}(h2:q.bars=[])(h3:q.files=[]){bs:List Sp.Ch}(i1:bs≠[])(i2:bs.length<=3)(i3:∀ c∈bs,WfC c):
  Sp.line q false (barsL bs)=some { q with bars:=bs }:=by
 unfold Sp.line barsL;rw[cut_mk 32 (by decide)];simp only[bars_print i1 i2 i3,h2,h3]
 rfl
theorem line_file{q:Sp.Pk}{f:Sp.Fl}(hf:WfF f)(h4:q.files.length<4)(hc:Sp.clash1 (q.files.map (·.path) ++ [f.path])=false):Sp.line q false (fileL f)=some { q with files:=q.files ++ [f] }:=by
 unfold Sp.line fileL;rw[cut_mk 32 (by decide)];simp only;rw[cut_mk 61 (V1.path_no hf.1 (by decide) (by decide))];simp only[hf.1,hc,decide_eq_true hf.2.1,decide_eq_true h4,Bool.not_false,Bool.and_self,if_true]
 rfl
theorem clash_prefix(a b:List Str)(h:Sp.clash1 (a ++ b)=false):Sp.clash1 a=false:=by
 induction a with
 | nil=>rfl
 | cons x r ih =>
  rw[List.cons_append] at h;unfold Sp.clash1 at h ⊢;rw[Bool.or_eq_false_iff] at h ⊢;rw[List.any_append,Bool.or_eq_false_iff] at h;exact⟨h.1.1,ih h.2⟩
theorem lines_files:∀ (fs:List Sp.Fl) (q:Sp.Pk) (i:Nat),(∀ f∈fs,WfF f)->q.files.length+fs.length<=4->Sp.clash1 ((q.files ++ fs).map (·.path))=false->Sp.lines q (i+1) (fs.map fileL)=.inr { q with files:=q.files ++ fs }
 | [],q,i,_,_,_=>by simp[Sp.lines]
 | f :: r,q,i,h1,h2,h3=>by
  rw[List.map_cons];unfold Sp.lines;have e0:(i+1 == 0)=false:=by simp
  simp only[List.length_cons] at h2;have e1:(q.files ++ f :: r).map (·.path)=(q.files.map (·.path) ++ [f.path]) ++ r.map (·.path):=by simp
  rw[e0,line_file (h1 f (by simp)) (by omega) (clash_prefix _ _ (e1 ▸ h3))];simp only;rw[lines_files r _ (i+1) (fun x hx=>h1 x (List.mem_cons_of_mem _ hx)) (by simp;omega) (by simpa using h3)];simp
theorem lines_bars{p q:Sp.Pk}(hp:WfP p)(hb:q.bars=[])(hf:q.files=[])(i:Nat):Sp.lines q (i+1) (barsLs p.bars ++ p.files.map fileL)=.inr { q with bars:=p.bars,files:=p.files }:=by
 have e0:(i+1 == 0)=false:=by simp
 unfold barsLs
 split
 ·rename_i h
  rw[List.nil_append,lines_files p.files q i hp.paths (by rw[hf];simpa using hp.files) (by rw[hf];exact hp.clash),hf,isEmpty_nil h,<-hb]
  rfl
 ·rename_i h
  rw[List.singleton_append];unfold Sp.lines;rw[e0,line_bars hb hf (by rintro e;rw[e] at h;exact h rfl) hp.bars hp.barred];simp only;rw[lines_files p.files _ (i+1) hp.paths (by simp[hf];exact hp.files) (by simpa[hf] using hp.clash)];simp[hf]
theorem lines_print{p:Sp.Pk}(hp:WfP p):Sp.lines Sp.nothing 0 (linesOf p)=.inr p:=by
 have e0:((0:Nat) == 0)=true:=rfl;unfold linesOf Sp.lines;rw[e0,line_pk hp.name hp.ver];simp only;unfold needsLs
 split
 ·rename_i h
  rw[List.nil_append,lines_bars hp rfl rfl];obtain⟨pn,pb,pna,pv,pf⟩:=p;simp only at h ⊢;rw[isEmpty_nil h];rfl
 ·rename_i h
  rw[List.singleton_append];unfold Sp.lines;have e1:(0+1 == 0)=false:=rfl;rw[e1,line_needs rfl rfl rfl (by rintro e;rw[e] at h;exact h rfl) hp.needs hp.groups];simp only;rw[lines_bars hp rfl rfl]
end V2
end
section
namespace V3
open Sp (Str)
open V1 V2
structure Good(p:Sp.Pk):Prop where
 wf:WfP p
 ord:P3.Ord p.files
 len:(Sp.print p).length<=300
theorem no10_lines{p:Sp.Pk}(h:WfP p):∀ s∈linesOf p,(10:UInt8) ∉ s/\s≠[]:=by
 intro s hs;unfold linesOf at hs
 rcases List.mem_cons.1 hs with rfl|hs
 ·unfold pkL
  have a1:=V1.name_no h.name (c:=10) (by decide);have a2:=V1.ver_no h.ver (c:=10) (by decide);exact⟨by simp[Sp.packageW,a1,a2],by simp[Sp.packageW]⟩
 ·rcases List.mem_append.1 hs with hs|hs
  ·unfold needsLs at hs
   split at hs
   ·cases hs
   ·rw[List.mem_singleton] at hs;subst hs
    unfold needsL;refine⟨fun hm=>?_,by simp[Sp.needsW]⟩;have:(10:UInt8)∈Lib.join (p.needs.map groupT) [44,32]:=by simpa[Sp.needsW] using hm
    rcases mem_join this with hm|⟨x,hx,hm⟩
    ·simp at hm
    ·obtain⟨g,hg,rfl⟩:=List.mem_map.1 hx
     exact group_no (h.groups g hg).2.2 (by decide) (by decide) (by decide) (by decide) (by decide) hm
  ·rcases List.mem_append.1 hs with hs|hs
   ·unfold barsLs at hs
    split at hs
    ·cases hs
    ·rw[List.mem_singleton] at hs;subst hs
     unfold barsL;refine⟨fun hm=>?_,by simp[Sp.barsW]⟩;have:(10:UInt8)∈Lib.join (p.bars.map Sp.printC) [44,32]:=by simpa[Sp.barsW] using hm
     rcases mem_join this with hm|⟨x,hx,hm⟩
     ·simp at hm
     ·obtain⟨c,hc,rfl⟩:=List.mem_map.1 hx
      exact printC_no (h.barred c hc) (by decide) (by decide) (by decide) (by decide) hm
   ·obtain⟨f,hf,rfl⟩:=List.mem_map.1 hs
    unfold fileL;have a1:=V1.path_no (h.paths f hf).1 (c:=10) (by decide) (by decide);have a2:=(h.paths f hf).2.2;exact⟨by simp[Sp.fileW,a1,a2],by simp[Sp.fileW]⟩
theorem linesOf_ne(p:Sp.Pk):linesOf p≠[]:=by simp[linesOf]
theorem linesOf_perm{p:Sp.Pk}{fs:List Sp.Fl}(h:fs.Perm p.files):(linesOf { p with files:=fs }).Perm (linesOf p):=by
 unfold linesOf;exact(((h.map fileL).append_left _).append_left _).cons _
theorem join_len(t:Str):∀ {a b:List Str},a.Perm b->(Lib.join a t).length=(Lib.join b t).length:=by
 intro a b h;have hl:=h.length_eq;have hs:Lib.lens a=Lib.lens b:=by unfold Lib.lens;exact(h.map _).sum_nat
 cases a with
 | nil=>rw[List.nil_perm.1 h]
 | cons x r =>
  cases b with
  | nil=>simp at hl
  | cons y q =>
   rw[Lib.join_length,Lib.join_length,hs];simp at hl;rw[hl]
theorem join_last:∀ {ls:List Str},ls≠[]->(∀ s∈ls,(10:UInt8) ∉ s/\s≠[])->Lib.hasSuffix (Lib.join ls [10]) [10]=false
 | [],h,_=>absurd rfl h
 | [x],_,h=>by
  rw[Lib.join_one,Bool.eq_false_iff];intro hs;exact(h x (by simp)).1 ((List.isSuffixOf_iff_suffix.1 hs).subset (by simp))
 | x :: y :: r,_,h=>by
  have ih:=join_last (ls:=y :: r) (by simp) fun s hs=>h s (List.mem_cons_of_mem _ hs)
  rw[join_cons2,Bool.eq_false_iff];intro hs;have hne:Lib.join (y :: r) [10]≠[]:=by
   rw[Lib.join_cons];have:=(h y (by simp)).2
   cases y with
   | nil=>exact absurd rfl this
   | cons a b=>simp
  have h1:=List.isSuffixOf_iff_suffix.1 hs;have:[10] <:+ Lib.join (y :: r) [10]:=List.suffix_of_suffix_length_le h1 (List.suffix_append _ _) (by
   have:=List.length_pos_iff.2 hne;simp only[List.length_singleton];omega)
  rw[show Lib.hasSuffix (Lib.join (y :: r) [10]) [10]=true from List.isSuffixOf_iff_suffix.2 this] at ih
  cases ih
theorem trim_len(t:Str):(Lib.trimSuffix t [10]).length<=t.length:=Lib.trimSuffix_le t [10]
theorem parse_good{t:Str}{p:Sp.Pk}(h:Sp.parse t=.inr p):Good p/\(Sp.print p).length<=t.length:=by
 unfold Sp.parse at h
 split at h
 ·cases h
 ·rename_i hl
  split at h
  ·cases h
  ·rename_i q hq
   cases h
   obtain⟨h1,h2⟩:=all_inv (Sp.split_ne _ _ (by simp)) (fun s hs=>split_no 10 _ s hs) hq;have e1:Sp.print q=Lib.trimSuffix t [10]:=by rw[print_join,h2,join_split _ _ (by simp)]
   have e2:(Sp.print { q with files:=Sp.sortF q.files }).length=(Sp.print q).length:=by
    rw[print_join,print_join];exact join_len _ (linesOf_perm (sortF_perm q.files))
   have e3:=trim_len t;rw[e1] at e2;exact⟨⟨h1.sorted,P3.sortF_ord _,by omega⟩,by omega⟩
theorem parse_print{p:Sp.Pk}(h:Good p):Sp.parse (Sp.print p)=.inr p:=by
 have hn:=no10_lines h.wf;have e1:Lib.trimSuffix (Sp.print p) [10]=Sp.print p:=by
  unfold Lib.trimSuffix;rw[print_join,join_last (linesOf_ne p) hn];simp
 unfold Sp.parse;rw[if_neg (by have:=h.len;omega),e1,print_join,split_join 10 [10] 0 rfl u10 (linesOf p) (linesOf_ne p) fun s hs=>(hn s hs).1,lines_print h.wf];simp only;rw[sortF_id _ h.ord]
theorem print_head(p:Sp.Pk):∃ r,Sp.print p=[112,97,99,107,97,103,101,32] ++ (p.name ++ 32 :: r)/\p.ver <+: r:=by
 unfold Sp.print;simp only[List.append_assoc,List.cons_append,List.nil_append];exact⟨_,rfl,List.prefix_append _ _⟩
theorem print_ne(p:Sp.Pk):Sp.print p≠[]:=by
 obtain⟨r,h,_⟩:=print_head p;rw[h];simp
def dbl:Str->Bool
 | []=>false
 | [_]=>false
 | a :: b :: r=>(a == 10 && b == 10) || dbl (b :: r)
theorem dbl_no:∀ {s:Str},(10:UInt8) ∉ s->dbl s=false
 | [],_=>rfl
 | [_],_=>rfl
 | a :: b :: r,h=>by
  unfold dbl;have h1:(a == 10)=false:=by simp;rintro rfl;exact h (by simp)
  rw[h1,dbl_no (s:=b :: r) fun hm=>h (List.mem_cons_of_mem _ hm)];rfl
theorem dbl_join:∀ {x:Str} {y:Str},x≠[]->(10:UInt8) ∉ x->y.head?≠some 10->dbl (x ++ 10 :: y)=dbl y
 | [],_,h,_,_=>absurd rfl h
 | [a],y,_,h,hy=>by
  have h1:(a == 10)=false:=by simp;rintro rfl;exact h (by simp)
  cases y with
  | nil=>simp[dbl,h1]
  | cons b r =>
   have h2:(b == 10)=false:=by simp;rintro rfl;exact hy rfl
   simp[dbl,h1,h2]
 | a :: b :: x,y,_,h,hy=>by
  have h1:(a == 10)=false:=by simp;rintro rfl;exact h (by simp)
  have ih:=dbl_join (x:=b :: x) (y:=y) (by simp) (fun hm=>h (List.mem_cons_of_mem _ hm)) hy;simp only[List.cons_append] at ih ⊢;rw[dbl,h1,ih];rfl
theorem dbl_lines:∀ {ls:List Str},(∀ s∈ls,(10:UInt8) ∉ s/\s≠[])->dbl (Lib.join ls [10])=false/\(Lib.join ls [10]).head?≠some 10
 | [],_=>by simp[Lib.join_nil,dbl]
 | [x],h=>by
  have:=h x (by simp);rw[Lib.join_one];exact⟨dbl_no this.1,fun e=>this.1 (List.mem_of_mem_head? e)⟩
 | x :: y :: r,h=>by
  obtain⟨h1,h2⟩:=dbl_lines (ls:=y :: r) fun s hs=>h s (List.mem_cons_of_mem _ hs)
  have hx:=h x (by simp);rw[join_cons2,List.append_assoc,List.singleton_append,dbl_join hx.2 hx.1 h2];refine⟨h1,?_⟩
  cases x with
  | nil=>exact absurd rfl hx.2
  | cons a b=>simp;rintro rfl;exact hx.1 (by simp)
theorem dbl_occ{s:Str}{j:Nat}(h:Lib.occAt s [10,10] j=true):dbl s=true:=by
 induction j generalizing s with
 | zero =>
  unfold Lib.occAt at h;obtain⟨r,hr⟩:=List.isPrefixOf_iff_prefix.1 h;rw[List.drop_zero] at hr;rw[<-hr];simp[dbl]
 | succ j ih =>
  cases s with
  | nil=>unfold Lib.occAt at h;simp at h
  | cons a r =>
   have:=ih (s:=r) (by unfold Lib.occAt at h ⊢;simpa using h)
   cases r with
   | nil=>simp[dbl] at this
   | cons b q=>unfold dbl;rw[this];simp
structure Tame(s:Str):Prop where
 ne:s≠[]
 head:s.head?≠some 10
 last:Lib.hasSuffix s [10]=false
 dbl:V3.dbl s=false
theorem tame_print{p:Sp.Pk}(h:WfP p):Tame (Sp.print p):=by
 have hn:=no10_lines h;rw[print_join];obtain⟨h1,h2⟩:=dbl_lines hn;exact⟨by rw[<-print_join];exact print_ne p,h2,join_last (linesOf_ne p) hn,h1⟩
theorem tame_occ{x y:Str}(hx:Tame x){j:Nat}(hj:j<x.length):Lib.occAt (x ++ y) [10,10] j=false:=by
 rw[Bool.eq_false_iff];intro ho
 by_cases h1:j+1<x.length
 ·have:Lib.occAt x [10,10] j=true:=by
   rw[Sp.occ_take _ _ _ (by simp;omega)];rw[Sp.occ_take _ _ _ (by simp;omega)] at ho
   rwa [List.drop_append_of_le_length (by omega),List.take_append_of_le_length (by rw[List.length_drop];simp;omega)] at ho
  have:=dbl_occ this;rw[hx.dbl] at this;cases this
 ·have hl:j=x.length-1:=by omega
  have hg:=occ_get (i:=0) (c:=10) ho rfl;rw[List.getElem?_append_left (by omega)] at hg;have hlast:=hx.last;have:Lib.hasSuffix x [10]=true:=by
   unfold Lib.hasSuffix;rw[List.isSuffixOf_iff_suffix,List.suffix_iff_eq_drop];have hd:x.drop (x.length-1)=[10]:=by
    rw[<-hl];have hjx:j<x.length:=hj;rw[List.drop_eq_getElem_cons hjx];have:x[j]=10:=by simpa[List.getElem?_eq_getElem hjx] using hg
    rw[this,List.drop_eq_nil_of_le (by omega)]
   simpa using hd.symm
  rw[this] at hlast;cases hlast
theorem split_tame:∀ xs:List Str,xs≠[]->(∀ x∈xs,Tame x)->Lib.split (Lib.join xs [10,10]) [10,10]=xs
 | [],h,_=>absurd rfl h
 | [x],_,h=>by
  rw[Lib.join_one];have hx:=h x (by simp);refine Sp.split_miss x _ (by simp) (Lib.index_none fun j _=>?_);rw[Bool.eq_false_iff];intro ho;have:=dbl_occ ho;rw[hx.dbl] at this;cases this
 | x :: y :: r,_,h=>by
  rw[join_cons2,List.append_assoc];rw[Sp.split_at _ [10,10] (by simp) x.length (by simp) ?_ ?_]
  ·have e1:(x ++ ([10,10] ++ Lib.join (y :: r) [10,10])).take x.length=x:=by simp
   have e2:(x ++ ([10,10] ++ Lib.join (y :: r) [10,10])).drop (x.length+([10,10]:Str).length)=Lib.join (y :: r) [10,10]:=by
    rw[<-List.append_assoc,List.drop_append_of_le_length (by simp),List.drop_eq_nil_of_le (by simp)];rfl
   rw[e1,e2,split_tame (y :: r) (by simp) fun z hz=>h z (List.mem_cons_of_mem _ hz)]
  ·unfold Lib.occAt
   rw[List.drop_left];exact List.isPrefixOf_iff_prefix.2 (List.prefix_append _ _)
  ·intro j hj
   exact tame_occ (h x (by simp)) hj
end V3
end
section
namespace Sp
def weight(c:UInt8):Int:=
 if c=126 then -1 else if (97<=c.toNat/\c.toNat<=122)\/(65<=c.toNat/\c.toNat<=90) then c.toNat else c.toNat+256
def sgn(n:Int):Int:=if n<0 then -1 else if 0<n then 1 else 0
def diffL(wt:UInt8->Int):Str->Int
 | []=>0
 | b :: y=>if sgn (0-wt b)=0 then diffL wt y else sgn (0-wt b)
def diffW(wt:UInt8->Int):Str->Str->Int
 | [],y=>diffL wt y
 | a :: x,[]=>if sgn (wt a)=0 then diffW wt x [] else sgn (wt a)
 | a :: x,b :: y=>if sgn (wt a-wt b)=0 then diffW wt x y else sgn (wt a-wt b)
theorem diffW_nc(wt:UInt8->Int)(b:UInt8)(y:Str):diffW wt [] (b :: y)=if sgn (0-wt b)=0 then diffW wt [] y else sgn (0-wt b):=rfl
def cmpS(a b:Str):Int:=if strLt a b then -1 else if strLt b a then 1 else 0
def bare(s:Str):Str:=s.dropWhile (· == 48)
def diffD(a b:Str):Int:=if (bare a).length=(bare b).length then cmpS (bare a) (bare b) else sgn ((bare a).length-(bare b).length:Int)
def notDig(c:UInt8):Bool:=!isDig c
def cmpN(wt:UInt8->Int):Nat->Str->Str->Int
 | 0,_,_=>0
 | n+1,a,b =>
  if a.isEmpty && b.isEmpty then 0
  else if diffW wt (a.takeWhile notDig) (b.takeWhile notDig)=0 then
   if diffD ((a.dropWhile notDig).takeWhile isDig) ((b.dropWhile notDig).takeWhile isDig)=0 then cmpN wt n ((a.dropWhile notDig).dropWhile isDig) ((b.dropWhile notDig).dropWhile isDig)
   else diffD ((a.dropWhile notDig).takeWhile isDig) ((b.dropWhile notDig).takeWhile isDig)
  else diffW wt (a.takeWhile notDig) (b.takeWhile notDig)
def cmp(a b:Str):Int:=cmpN weight (a.length+b.length) a b
end Sp
namespace V4
open Sp
def letter(c:UInt8):Int:=
 if c=126 then -1 else if ((smallS ++ greatS).contains c) && decide (c.toNat<128) then c.toNat else c.toNat+1000
theorem sgn_pos{n:Int}(h:0<n):sgn n=1:=by unfold sgn;rw[if_neg (by omega),if_pos h]
theorem sgn_neg{n:Int}(h:n<0):sgn n=-1:=by unfold sgn;rw[if_pos h]
theorem sgn_zero:sgn 0=0:=rfl
theorem all256{P:UInt8->Prop}(h:∀ n:Fin 256,P (UInt8.ofNat n))(c:UInt8):P c:=by
 have:=h ⟨c.toNat,c.toNat_lt⟩
 simpa using this
theorem letter_cls:∀ c:UInt8,(c=126/\weight c=-1/\letter c=-1)\/(65<=c.toNat/\c.toNat<=122/\weight c=c.toNat/\letter c=c.toNat)\/(weight c=c.toNat+256/\letter c=c.toNat+1000):=
 all256 (by decide +kernel)
theorem sgn_letter2(a b:UInt8):sgn (letter a-letter b)=sgn (weight a-weight b):=by
 have ha:=a.toNat_lt;have hb:=b.toNat_lt
 rcases letter_cls a with⟨_,h1,h2⟩|⟨h3,h4,h1,h2⟩|⟨h1,h2⟩ <;> rcases letter_cls b with⟨_,k1,k2⟩|⟨k3,k4,k1,k2⟩|⟨k1,k2⟩ <;> rw[h1,h2,k1,k2] <;> unfold sgn <;> (repeat' split) <;> first|rfl|omega
theorem sgn_letter(a:UInt8):sgn (letter a)=sgn (weight a):=by
 have ha:=a.toNat_lt
 rcases letter_cls a with⟨_,h1,h2⟩|⟨h3,h4,h1,h2⟩|⟨h1,h2⟩ <;> rw[h1,h2] <;> unfold sgn <;> (repeat' split) <;> first|rfl|omega
theorem sgn_letter0(a:UInt8):sgn (0-letter a)=sgn (0-weight a):=by
 have ha:=a.toNat_lt
 rcases letter_cls a with⟨_,h1,h2⟩|⟨h3,h4,h1,h2⟩|⟨h1,h2⟩ <;> rw[h1,h2] <;> unfold sgn <;> (repeat' split) <;> first|rfl|omega
theorem diff_letter:∀ x y:Str,diffW letter x y=diffW weight x y
 | [],[]=>rfl
 | a :: x,[]=>by unfold diffW;rw[sgn_letter,diff_letter x []]
 | [],b :: y=>by rw[diffW_nc,diffW_nc,sgn_letter0,diff_letter [] y]
 | a :: x,b :: y=>by unfold diffW;rw[sgn_letter2,diff_letter x y]
theorem drop_lt{a:Str}(h:a≠[]):((a.dropWhile notDig).dropWhile isDig).length<a.length:=by
 have key:∀ (p:UInt8->Bool) (l:Str),(l.dropWhile p).length<=l.length:=fun p l=>(List.dropWhile_suffix p).length_le
 cases a with
 | nil=>exact absurd rfl h
 | cons c r =>
  cases hc:isDig c with
  | true =>
   rw[List.dropWhile_cons_of_neg (by simp[notDig,hc]),List.dropWhile_cons_of_pos hc];have:=key isDig r;simp;omega
  | false =>
   rw[List.dropWhile_cons_of_pos (by simp[notDig,hc])];have h1:=key notDig r;have h2:=key isDig (r.dropWhile notDig);simp;omega
theorem drop_le(a:Str):((a.dropWhile notDig).dropWhile isDig).length<=a.length:=by
 by_cases h:a=[]
 ·subst h;simp
 ·exact Nat.le_of_lt (drop_lt h)
theorem cmpN_more(wt:UInt8->Int):∀ (n m:Nat) (a b:Str),a.length+b.length<=n->a.length+b.length<=m->cmpN wt n a b=cmpN wt m a b
 | 0,0,_,_,_,_=>rfl
 | 0,m+1,a,b,h1,_=>by
  have ha:a=[]:=List.length_eq_zero_iff.1 (by omega);have hb:b=[]:=List.length_eq_zero_iff.1 (by omega);subst ha;subst hb
  rfl
 | n+1,0,a,b,_,h2=>by
  have ha:a=[]:=List.length_eq_zero_iff.1 (by omega);have hb:b=[]:=List.length_eq_zero_iff.1 (by omega);subst ha;subst hb
  rfl
 | n+1,m+1,a,b,h1,h2=>by
  unfold cmpN
  by_cases he:(a.isEmpty && b.isEmpty)=true
  ·rw[if_pos he,if_pos he]
  ·rw[if_neg he,if_neg he]
   have hlt:((a.dropWhile notDig).dropWhile isDig).length+((b.dropWhile notDig).dropWhile isDig).length<a.length+b.length:=by
    have ha:=drop_le a;have hb:=drop_le b
    by_cases h:a=[]
    ·have hb':b≠[]:=by rintro rfl;rw[h] at he;exact he rfl
     have:=drop_lt hb';omega
    ·have:=drop_lt h;omega
   rw[cmpN_more wt n m _ _ (by omega) (by omega)]
theorem cmp_of(n:Nat)(a b:Str)(h:a.length+b.length<=n):cmp a b=cmpN weight n a b:=cmpN_more _ _ _ _ _ (Nat.le_refl _) h
theorem cmp_step(a b:Str)(h:(a.isEmpty && b.isEmpty)=false):cmp a b =
  if diffW weight (a.takeWhile notDig) (b.takeWhile notDig)=0 then
   if diffD ((a.dropWhile notDig).takeWhile isDig) ((b.dropWhile notDig).takeWhile isDig)=0 then cmp ((a.dropWhile notDig).dropWhile isDig) ((b.dropWhile notDig).dropWhile isDig)
   else diffD ((a.dropWhile notDig).takeWhile isDig) ((b.dropWhile notDig).takeWhile isDig)
  else diffW weight (a.takeWhile notDig) (b.takeWhile notDig):=by
 have ha:=drop_le a;have hb:=drop_le b;rw[cmp_of (a.length+b.length+1) a b (by omega),cmp_of (a.length+b.length) ((a.dropWhile notDig).dropWhile isDig) _ (by omega)]
 conv=>lhs;unfold cmpN
 rw[h,if_neg (by simp)]
theorem strLt_irrefl:∀ a:Str,strLt a a=false
 | []=>rfl
 | a :: x=>by unfold strLt;rw[if_neg (UInt8.lt_irrefl _),if_neg (UInt8.lt_irrefl _),strLt_irrefl x]
theorem strLt_append(z:Str):∀ {a b:Str},strLt (z ++ a) (z ++ b)=strLt a b:=by
 induction z with
 | nil=>intros;rfl
 | cons c r ih=>intro a b;rw[List.cons_append,List.cons_append,strLt,if_neg (UInt8.lt_irrefl _),if_neg (UInt8.lt_irrefl _),ih]
theorem diff_pad(a b:Str)(ha:∀ c∈a,isDig c=true)(hb:∀ c∈b,isDig c=true)(n:Nat)(h1:a.length<=n)(h2:b.length<=n):
  cmpS (List.replicate (n-a.length) 48 ++ a) (List.replicate (n-b.length) 48 ++ b)=diffD a b:=by
 have key:∀ s:Str,(∀ c∈s,isDig c=true)->s.length<=n->List.replicate (n-s.length) 48 ++ s=List.replicate (n-(bare s).length) 48 ++ bare s/\(bare s).length<=s.length/\(∀ c r,bare s=c :: r->(48:UInt8)<c):=by
  intro s
  induction s with
  | nil=>intro _ _;exact⟨rfl,Nat.le_refl _,fun c r h=>by simp[bare] at h⟩
  | cons c r ih =>
   intro hd hn
   by_cases hc:c=48
   ·subst hc
    have hb:bare (48 :: r)=bare r:=by unfold bare;rw[List.dropWhile_cons_of_pos (by rfl)]
    obtain⟨i1,i2,i3⟩:=ih (fun c hc=>hd c (List.mem_cons_of_mem _ hc)) (by simp at hn;omega);refine⟨?_,by rw[hb];simp;omega,by rw[hb];exact i3⟩;rw[hb,<-i1];simp only[List.length_cons] at hn ⊢;rw[show n-r.length=(n-(r.length+1))+1 from by omega,List.replicate_succ'];simp
   ·have hb:bare (c :: r)=c :: r:=by unfold bare;rw[List.dropWhile_cons_of_neg (by simpa using hc)]
    refine⟨by rw[hb],by rw[hb];exact Nat.le_refl _,fun d q h=>?_⟩;rw[hb] at h
    cases h
    have:=hd c (by simp);unfold isDig at this;simp only[Bool.and_eq_true,decide_eq_true_eq] at this;rw[UInt8.lt_iff_toNat_lt];have hne:c.toNat≠48:=fun e=>hc (UInt8.toNat_inj.1 e)
    show 48<c.toNat
    omega
 obtain⟨a1,a2,a3⟩:=key a ha h1;obtain⟨b1,b2,b3⟩:=key b hb h2;rw[a1,b1];unfold diffD;have lt:∀ x y:Str,x.length<y.length->y.length<=n->(∀ c r,y=c :: r->(48:UInt8)<c)->strLt (List.replicate (n-x.length) 48 ++ x) (List.replicate (n-y.length) 48 ++ y)=true/\strLt (List.replicate (n-y.length) 48 ++ y) (List.replicate (n-x.length) 48 ++ x)=false:=by
  intro x y hxy hy hc;obtain⟨k,hk⟩:∃ k,n-x.length=(n-y.length)+(k+1):=⟨y.length-x.length-1,by omega⟩
  rw[hk,<-List.replicate_append_replicate,List.append_assoc,strLt_append,strLt_append]
  cases y with
  | nil=>simp at hxy
  | cons c r =>
   have:=hc c r rfl;rw[List.replicate_succ,List.cons_append];constructor
   ·unfold strLt;rw[if_pos this]
   ·unfold strLt;rw[if_neg (UInt8.lt_asymm this),if_pos this]
 split
 ·rename_i he
  rw[he];unfold cmpS;rw[strLt_append,strLt_append]
 ·rename_i he
  unfold cmpS
  rcases Nat.lt_or_gt_of_ne he with hlt|hlt
  ·rw[if_pos (lt _ _ hlt (by omega) b3).1,sgn_neg (by omega)]
  ·obtain⟨l1,l2⟩:=lt _ _ hlt (by omega) a3
   rw[l2,l1,if_neg (by simp),if_pos rfl,sgn_pos (by omega)]
end V4
end
section
namespace Sp
def signOk(s:Str)(o:Int):Bool:=
 if s == [60,60] then decide (o<0) else if s == [60,61] then decide (o<=0) else if s == [61] then decide (o=0) else if s == [62,61] then decide (0<=o) else if s == [62,62] then decide (0<o) else true
def fits(c:Ch)(p:Pk):Bool:=c.name == p.name && signOk c.sign (cmp p.ver c.ver)
def any1(g:List Ch)(l:List Pk):Bool:=g.any fun c=>l.any (fits c)
def first(a b:Str):Str:=if a.isEmpty || (!b.isEmpty && strLt b a) then b else a
def least(l:List Str):Str:=l.foldl first []
def lacks(l:List Pk)(p:Pk):Bool:=p.needs.any fun g=>!any1 g l
def lacking(l:List Pk):Str:=least ((l.filter (lacks l)).map (·.name))
def barsOne(l:List Pk)(p:Pk):Bool:=l.any fun q=>q.name != p.name && any1 p.bars [q]
def barring(l:List Pk):Str:=least ((l.filter (barsOne l)).map (·.name))
def paths(l:List Pk):List Str:=l.flatMap fun p=>p.files.map (·.path)
def clashAt(l:List Pk)(x:Str):Bool:=(paths l).any (over x) || decide (2<=(paths l).count x)
def clash(l:List Pk):Str:=least ((paths l).filter (clashAt l))
def waitsFor(there:List Pk)(p q:Pk):Bool:=p.needs.any fun g=>!any1 g there && !any1 g [p] && any1 g [q]
def free(there left:List Pk):List Pk:=left.filter fun p=>!left.any (waitsFor there p)
def orderN(there:List Pk):Nat->List Pk->List Str × List Pk
 | 0,left=>([],left)
 | n+1,left =>
  if (least ((free there left).map (·.name))).isEmpty then([],left)
  else((least ((free there left).map (·.name))) :: (orderN there n (left.filter fun p=>p.name != least ((free there left).map (·.name)))).1,(orderN there n (left.filter fun p=>p.name != least ((free there left).map (·.name)))).2)
def order(there fresh:List Pk):List Str × List Pk:=orderN there fresh.length fresh
structure Fault where
 kind:Nat
 which:Nat
 line:Nat
 name:Str
def okF:Fault:=⟨0,0,0,[]⟩
def readAll(i:Nat):List Str->Fault ⊕ List Pk
 | []=>.inr []
 | t :: r=>match parse t with
  | .inl n=>.inl ⟨1,i,n,[]⟩
  | .inr p=>match readAll (i+1) r with
   | .inl f=>.inl f
   | .inr l=>.inr (p :: l)
def names(l:List Pk):List Str:=l.map (·.name)
def addAll(i:Nat)(there:List Pk):List Pk->Fault ⊕ List Pk
 | []=>.inr there
 | p :: r=>if (names there).contains p.name then .inl ⟨2,i,0,p.name⟩ else addAll (i+1) (there ++ [p]) r
def judged(there fresh all:List Pk):Fault ⊕ List Str:=
 if !(lacking all).isEmpty then .inl ⟨4,0,0,lacking all⟩
 else if !(barring all).isEmpty then .inl ⟨5,0,0,barring all⟩
 else if !(clash all).isEmpty then .inl ⟨6,0,0,clash all⟩
 else if !(order there fresh).2.isEmpty then .inl ⟨7,0,0,least (names (order there fresh).2)⟩
 else .inr (order there fresh).1
def planned(there:List Pk)(texts:List Str):Fault ⊕ (List Pk × List Str):=
 match readAll 0 texts with
 | .inl f=>.inl f
 | .inr fresh=>match addAll 0 there fresh with
  | .inl f=>.inl f
  | .inr all=>match judged there fresh all with
   | .inl f=>.inl f
   | .inr o=>.inr (all,o)
def size(l:List Pk):Nat:=(l.map fun p=>(print p).length).sum
def removeAll(i:Nat)(l:List Pk):List Str->Fault ⊕ List Pk
 | []=>.inr l
 | n :: r=>if (names l).contains n then removeAll (i+1) (l.filter fun p=>p.name != n) r else .inl ⟨3,i,0,n⟩
def removed(l:List Pk)(ns:List Str):Fault ⊕ List Pk:=
 match removeAll 0 l ns with
 | .inl f=>.inl f
 | .inr all=>if !(lacking all).isEmpty then .inl ⟨4,0,0,lacking all⟩ else .inr all
def installed(there:List Pk)(texts:List Str)(room:Nat):Fault ⊕ List Pk:=
 match planned there texts with
 | .inl f=>.inl f
 | .inr (all,_)=>if room<size all then .inl ⟨8,0,0,[]⟩ else .inr all
def sorted(l:List Str):List Str:=l.mergeSort fun x y=>decide (x<=y)
def find?(l:List Pk)(n:Str):Option Pk:=l.find? fun p=>p.name == n
def texts(l:List Pk):List Str:=(sorted (names l)).filterMap fun n=>(find? l n).map print
def owner(l:List Pk)(path:Str):Str:=match l.find? fun p=>(p.files.map (·.path)).contains path with
 | some p=>p.name
 | none=>[]
end Sp
namespace V5
open Sp (Str Pk)
theorem le_trans{a b c:Str}(h1:a<=b)(h2:b<=c):a<=c:=List.le_trans h1 h2
theorem least_spec:∀ (l:List Str) (a:Str),(∀ x∈l,x≠[])->(l=[]/\l.foldl Sp.first a=a)\/(l≠[]/\(l.foldl Sp.first a=a\/l.foldl Sp.first a∈l)/\l.foldl Sp.first a≠[]/\(a≠[]->l.foldl Sp.first a<=a)/\∀ x∈l,l.foldl Sp.first a<=x)
 | [],a,_=>.inl ⟨rfl,rfl⟩
 | b :: r,a,h=>by
  have hb:=h b (by simp);right;rw[List.foldl_cons];have hf:(Sp.first a b=a\/Sp.first a b=b)/\Sp.first a b≠[]/\(a≠[]->Sp.first a b<=a)/\Sp.first a b<=b:=by
   unfold Sp.first
   split
   ·rename_i hc
    refine⟨.inr rfl,hb,fun ha=>?_,List.le_refl _⟩;rw[Bool.or_eq_true] at hc
    rcases hc with hc|hc
    ·exact absurd (List.isEmpty_iff.1 hc) ha
    ·rw[Bool.and_eq_true,P3.lt_iff] at hc;exact List.le_of_lt hc.2
   ·rename_i hc
    simp only[Bool.or_eq_true,not_or,Bool.and_eq_true,Bool.not_eq_true',not_and] at hc;have ha:a≠[]:=fun e=>hc.1 (by rw[e];rfl)
    refine⟨.inl rfl,ha,fun _=>List.le_refl _,?_⟩;have:=hc.2 (by cases b;exact absurd rfl hb;rfl);rw[P3.lt_iff] at this;exact List.not_lt.1 this
  obtain⟨f1,f2,f3,f4⟩:=hf
  rcases least_spec r (Sp.first a b) fun x hx=>h x (List.mem_cons_of_mem _ hx) with⟨rfl,e⟩|⟨_,e1,e2,e3,e4⟩
  ·rw[e]
   refine⟨by simp,?_,f2,f3,fun x hx=>?_⟩
   ·rcases f1 with f1|f1
    ·exact .inl f1
    ·right;rw[f1];simp
   ·rw[List.mem_singleton] at hx;subst hx;exact f4
  ·refine⟨by simp,?_,e2,fun ha=>le_trans (e3 f2) (f3 ha),fun x hx=>?_⟩
   ·rcases e1 with e1|e1
    ·rw[e1]
     rcases f1 with f1|f1
     ·exact .inl f1
     ·right;rw[f1];simp
    ·right;exact List.mem_cons_of_mem _ e1
   ·rcases List.mem_cons.1 hx with rfl|hx
    ·exact le_trans (e3 f2) f4
    ·exact e4 x hx
theorem least_mem{l:List Str}(h:∀ x∈l,x≠[])(hl:l≠[]):Sp.least l∈l/\Sp.least l≠[]/\∀ x∈l,Sp.least l<=x:=by
 rcases least_spec l [] h with⟨e,_⟩|⟨_,e1,e2,_,e4⟩
 ·exact absurd e hl
 ·rcases e1 with e1|e1
  ·exact absurd e1 e2
  ·exact⟨e1,e2,e4⟩
theorem least_eq{l:List Str}(h:∀ x∈l,x≠[]){r:Str}(hr:r∈l)(hm:∀ x∈l,r<=x):Sp.least l=r:=by
 obtain⟨h1,_,h3⟩:=least_mem h (List.ne_nil_of_mem hr);exact List.le_antisymm (h3 r hr) (hm _ h1)
theorem least_none{l:List Str}(h:∀ x∈l,x≠[]):Sp.least l=[]↔l=[]:=by
 constructor
 ·intro e
  by_cases hl:l=[]
  ·exact hl
  ·exact absurd e (least_mem h hl).2.1
 ·rintro rfl;rfl
theorem least_congr{l r:List Str}(h:∀ x∈l,x≠[])(he:∀ x,x∈l↔x∈r):Sp.least l=Sp.least r:=by
 have hr:∀ x∈r,x≠[]:=fun x hx=>h x ((he x).2 hx)
 by_cases hl:l=[]
 ·subst hl
  have:r=[]:=List.eq_nil_iff_forall_not_mem.2 fun x hx=>by have:=(he x).2 hx;cases this
  rw[this]
 ·obtain⟨h1,_,h3⟩:=least_mem h hl
  exact(least_eq hr ((he _).1 h1) fun x hx=>h3 x ((he x).2 hx)).symm
theorem least_find{ns:List Str}(ho:ns.Pairwise (·<=·))(h:∀ x∈ns,x≠[])(P:Str->Bool):Sp.least (ns.filter P)=(ns.find? P).getD []:=by
 have hf:∀ x∈ns.filter P,x≠[]:=fun x hx=>h x (List.mem_filter.1 hx).1
 cases hp:ns.find? P with
 | none =>
  rw[List.find?_eq_none] at hp;have:ns.filter P=[]:=List.filter_eq_nil_iff.2 hp;rw[this];rfl
 | some n =>
  obtain⟨h1,as0,bs,rfl,h2⟩:=List.find?_eq_some_iff_append.1 hp;refine least_eq hf (by simp[h1]) fun x hx=>?_
  obtain⟨hx1,hx2⟩:=List.mem_filter.1 hx
  rcases List.mem_append.1 hx1 with hx1|hx1
  ·have:=h2 x hx1
   rw[hx2] at this;cases this
  ·rcases List.mem_cons.1 hx1 with rfl|hx1
   ·exact List.le_refl _
   ·exact(List.pairwise_cons.1 (List.pairwise_append.1 ho).2.1).1 x hx1
theorem any1_perm{g:List Sp.Ch}{l r:List Pk}(h:∀ p,p∈l↔p∈r):Sp.any1 g l=Sp.any1 g r:=by
 unfold Sp.any1
 congr 1;funext c
 rw[Bool.eq_iff_iff,List.any_eq_true,List.any_eq_true];exact⟨fun ⟨p,hp,hf⟩=>⟨p,(h p).1 hp,hf⟩,fun ⟨p,hp,hf⟩=>⟨p,(h p).2 hp,hf⟩⟩
theorem lacks_perm{l r:List Pk}(h:∀ p,p∈l↔p∈r)(p:Pk):Sp.lacks l p=Sp.lacks r p:=by
 unfold Sp.lacks
 congr 1;funext g
 rw[any1_perm h]
theorem names_ne{l:List Pk}(h:∀ p∈l,p.name≠[])(P:Pk->Bool):∀ x∈(l.filter P).map (·.name),x≠[]:=by
 intro x hx;obtain⟨p,hp,rfl⟩:=List.mem_map.1 hx;exact h p (List.mem_filter.1 hp).1
theorem mem_names_filter{l r:List Pk}(h:∀ p,p∈l↔p∈r){P Q:Pk->Bool}(hPQ:∀ p,P p=Q p)(x:Str):x∈(l.filter P).map (·.name)↔x∈(r.filter Q).map (·.name):=by
 simp only[List.mem_map,List.mem_filter];constructor
 ·rintro ⟨p,⟨h1,h2⟩,rfl⟩;exact⟨p,⟨(h p).1 h1,by rw[<-hPQ];exact h2⟩,rfl⟩
 ·rintro ⟨p,⟨h1,h2⟩,rfl⟩;exact⟨p,⟨(h p).2 h1,by rw[hPQ];exact h2⟩,rfl⟩
theorem lacking_perm{l r:List Pk}(hn:∀ p∈l,p.name≠[])(h:∀ p,p∈l↔p∈r):Sp.lacking l=Sp.lacking r:=
 least_congr (names_ne hn _) (mem_names_filter h (lacks_perm h))
theorem bars_perm{l r:List Pk}(h:∀ p,p∈l↔p∈r)(p:Pk):Sp.barsOne l p=Sp.barsOne r p:=by
 unfold Sp.barsOne;rw[Bool.eq_iff_iff,List.any_eq_true,List.any_eq_true];exact⟨fun ⟨q,hq,hf⟩=>⟨q,(h q).1 hq,hf⟩,fun ⟨q,hq,hf⟩=>⟨q,(h q).2 hq,hf⟩⟩
theorem barring_perm{l r:List Pk}(hn:∀ p∈l,p.name≠[])(h:∀ p,p∈l↔p∈r):Sp.barring l=Sp.barring r:=
 least_congr (names_ne hn _) (mem_names_filter h (bars_perm h))
theorem paths_perm{l r:List Pk}(h:l.Perm r):(Sp.paths l).Perm (Sp.paths r):=h.flatMap_right _
theorem clash_perm{l r:List Pk}(hn:∀ x∈Sp.paths l,x≠[])(h:l.Perm r):Sp.clash l=Sp.clash r:=by
 have hp:=paths_perm h;have e:∀ x,Sp.clashAt l x=Sp.clashAt r x:=by
  intro x;unfold Sp.clashAt;rw[hp.count_eq]
  congr 1
  rw[Bool.eq_iff_iff,List.any_eq_true,List.any_eq_true];exact⟨fun ⟨q,hq,hf⟩=>⟨q,hp.mem_iff.1 hq,hf⟩,fun ⟨q,hq,hf⟩=>⟨q,hp.mem_iff.2 hq,hf⟩⟩
 refine least_congr (fun x hx=>hn x (List.mem_filter.1 hx).1) fun x=>?_
 rw[List.mem_filter,List.mem_filter,e,hp.mem_iff]
theorem waits_perm{t u:List Pk}(h:∀ p,p∈t↔p∈u)(p q:Pk):Sp.waitsFor t p q=Sp.waitsFor u p q:=by
 unfold Sp.waitsFor
 congr 1;funext g
 rw[any1_perm h]
theorem free_mem{t u l r:List Pk}(ht:∀ p,p∈t↔p∈u)(h:∀ p,p∈l↔p∈r)(p:Pk):(!l.any (Sp.waitsFor t p))=!r.any (Sp.waitsFor u p):=by
 congr 1
 rw[Bool.eq_iff_iff,List.any_eq_true,List.any_eq_true];exact⟨fun ⟨q,hq,hf⟩=>⟨q,(h q).1 hq,by rw[<-waits_perm ht];exact hf⟩,fun ⟨q,hq,hf⟩=>⟨q,(h q).2 hq,by rw[waits_perm ht];exact hf⟩⟩
theorem order_perm{t u:List Pk}(ht:∀ p,p∈t↔p∈u):∀ (n:Nat) {l r:List Pk},(∀ p∈l,p.name≠[])->l.Perm r->(Sp.orderN t n l).1=(Sp.orderN u n r).1/\(Sp.orderN t n l).2.Perm (Sp.orderN u n r).2
 | 0,l,r,_,h=>⟨rfl,h⟩
 | n+1,l,r,hn,h=>by
  have e:Sp.least ((Sp.free t l).map (·.name))=Sp.least ((Sp.free u r).map (·.name)):=
   least_congr (names_ne hn _) (mem_names_filter (fun p=>h.mem_iff) (free_mem ht fun p=>h.mem_iff))
  unfold Sp.orderN;rw[e]
  split
  ·exact⟨rfl,h⟩
  ·have hf:=h.filter fun p=>p.name != Sp.least ((Sp.free u r).map (·.name))
   obtain⟨h1,h2⟩:=order_perm ht n (fun p hp=>hn p (List.mem_filter.1 hp).1) hf;exact⟨by rw[h1],h2⟩
end V5
end
section
namespace Sp
def sumN(h:Nat)(b:Str):Nat:=b.foldl (fun h c=>((h ^^^ c.toNat)*1099511628211) % 18446744073709551616) h
def sum(b:Str):Nat:=sumN 14695981039346656037 b
def put(x:Nat):Str:=[56,48,40,32,24,16,8,0].map fun k=>UInt8.ofNat (x / 2 ^ k)
def num8(b:Str):Nat:=b.foldl (fun a c=>a*256+c.toNat) 0
def headB(n sz sm:Nat):Str:=put n ++ put sz ++ put sm ++ put (sum (put n ++ put sz ++ put sm))
structure Hd where
 number:Nat
 size:Nat
 sum:Nat
 ok:Bool
def headOf(b:Str):Hd:=
 { number:=num8 (b.take 8),size:=num8 ((b.drop 8).take 8),sum:=num8 ((b.drop 16).take 8),ok:=decide (0<num8 (b.take 8)) && decide (num8 ((b.drop 24).take 8)=Sp.sum (b.take 24)) }
def areaN(S:Nat):Nat:=(S-2) / 2
def areaFrom(S number:Nat):Nat:=2+number % 2*areaN S
def areaB(s:List Str)(number:Nat):Str:=((List.range (areaN s.length)).map fun i=>s.getD (areaFrom s.length number+i) []).flatten
def loadOne(s:List Str)(acc:Str × Nat)(i:Nat):Str × Nat:=
 if (headOf (s.getD i [])).ok && decide (acc.2<(headOf (s.getD i [])).number) && decide ((headOf (s.getD i [])).size<=areaN s.length*64) && decide (sum ((areaB s (headOf (s.getD i [])).number).take (headOf (s.getD i [])).size)=(headOf (s.getD i [])).sum)
 then((areaB s (headOf (s.getD i [])).number).take (headOf (s.getD i [])).size,(headOf (s.getD i [])).number) else acc
def load(s:List Str)(last:Nat):Str × Nat:=loadOne s (loadOne s ([],last) 0) 1
structure Dk where
 held:List Str
 seen:List Str
 late:List (Nat × Str)
 left:Int
 dead:Bool
def pad(d:Str):Str:=(d ++ List.replicate 64 0).take 64
namespace Dk
def lost(d:Dk):Dk:={ d with dead:=d.dead || decide (d.left=0),left:=if 0<d.left then d.left-1 else d.left }
def write(d:Dk)(n:Nat)(b:Str):Dk:=
 if n<d.seen.length then
  { held:=d.held,seen:=d.seen.set n (pad b),late:=if (d.dead || decide (d.left=0))=true then d.late else d.late ++ [(n,pad b)],left:=if 0<d.left then d.left-1 else d.left,dead:=d.dead || decide (d.left=0) }
 else d
def hold(h:List Str)(l:List (Nat × Str)):List Str:=l.foldl (fun h w=>h.set w.1 w.2) h
def sync(d:Dk):Dk:=
 if (d.dead || decide (d.left=0))=true then d.lost else { d.lost with held:=hold d.held d.late,late:=[] }
def bit(mask:Int)(i:Nat):Bool:=decide (mask / 2 ^ (i % 60) % 2=1)
def some(dead:Bool)(mask:Int)(i:Nat):List (Nat × Str)->List (Nat × Str)
 | []=>[]
 | w :: r=>if !dead || bit mask i then w :: some dead mask (i+1) r else some dead mask (i+1) r
def back(d:Dk)(mask:Int):Dk:=
 { held:=hold d.held (some d.dead mask 0 d.late),seen:=hold d.held (some d.dead mask 0 d.late),late:=[],left:=-1,dead:=false }
def cut(d:Dk)(after:Int):Dk:={ d with left:=max after (-1) }
def writes(d:Dk)(n:Nat):List Str->Dk
 | []=>d
 | c :: r=>writes (d.write n c) (n+1) r
end Dk
def chunksN:Nat->Str->List Str
 | 0,_=>[]
 | n+1,b=>if b.isEmpty then [] else b.take 64 :: chunksN n (b.drop 64)
def chunks(b:Str):List Str:=chunksN b.length b
def save(d:Dk)(last:Nat)(b:Str):Dk:=
 (((d.writes (areaFrom d.seen.length (last+1)) (chunks b)).sync).write ((last+1) % 2) (headB (last+1) b.length (sum b))).sync
def fresh(S:Nat):Dk:={ held:=List.replicate S (List.replicate 64 0),seen:=List.replicate S (List.replicate 64 0),late:=[],left:=-1,dead:=false }
end Sp
namespace V6
open Sp (Str Dk)
theorem num8_lt:∀ (b:Str) (a:Nat),b.foldl (fun a c=>a*256+c.toNat) a<(a+1)*256 ^ b.length
 | [],a=>by simp
 | c :: r,a=>by
  rw[List.foldl_cons];have:=num8_lt r (a*256+c.toNat);have hc:=c.toNat_lt;have e:(c :: r).length=r.length+1:=rfl;rw[e,Nat.pow_succ];refine Nat.lt_of_lt_of_le this ?_;have:a*256+c.toNat+1<=(a+1)*256:=by omega
  calc (a*256+c.toNat+1)*256 ^ r.length<=((a+1)*256)*256 ^ r.length:=Nat.mul_le_mul_right _ this
   _=(a+1)*(256 ^ r.length*256):=by rw[Nat.mul_assoc,Nat.mul_comm 256]
theorem put_len(x:Nat):(Sp.put x).length=8:=rfl
theorem num8_put(x:Nat)(h:x<18446744073709551616):Sp.num8 (Sp.put x)=x:=by
 unfold Sp.num8 Sp.put;simp only[List.map_cons,List.map_nil,List.foldl_cons,List.foldl_nil,UInt8.toNat_ofNat'];omega
theorem sumN_lt:∀ (b:Str) (h:Nat),h<18446744073709551616->Sp.sumN h b<18446744073709551616
 | [],h,hh=>hh
 | c :: r,h,_=>by
  unfold Sp.sumN;rw[List.foldl_cons];exact sumN_lt r _ (Nat.mod_lt _ (by decide))
theorem sum_lt(b:Str):Sp.sum b<18446744073709551616:=sumN_lt b _ (by decide)
theorem headB_len(n sz sm:Nat):(Sp.headB n sz sm).length=32:=by unfold Sp.headB;simp[put_len]
theorem headOf_headB(n sz sm:Nat)(hn:n<18446744073709551616)(hn0:0<n)(hz:sz<18446744073709551616)(hm:sm<18446744073709551616):
  Sp.headOf (Sp.pad (Sp.headB n sz sm))={ number:=n,size:=sz,sum:=sm,ok:=true }:=by
 have e:Sp.pad (Sp.headB n sz sm)=Sp.put n ++ (Sp.put sz ++ (Sp.put sm ++ (Sp.put (Sp.sum (Sp.put n ++ Sp.put sz ++ Sp.put sm)) ++ List.replicate 32 0))):=by
  unfold Sp.pad;rw[List.take_append,headB_len,List.take_of_length_le (by rw[headB_len];omega)];unfold Sp.headB;simp
 have t:∀ (x:Nat) (r:Str),(Sp.put x ++ r).take 8=Sp.put x/\(Sp.put x ++ r).drop 8=r:=fun x r=>⟨List.take_left' (put_len x),List.drop_left' (put_len x)⟩
 have e24:(Sp.pad (Sp.headB n sz sm)).take 24=Sp.put n ++ Sp.put sz ++ Sp.put sm:=by
  rw[e,<-List.append_assoc,<-List.append_assoc];exact List.take_left' (by simp[put_len])
 have d8:=congrArg (List.drop 8) e;rw[(t n _).2] at d8;have d16:=congrArg (List.drop 8) d8;rw[List.drop_drop,(t sz _).2] at d16;have d24:=congrArg (List.drop 8) d16;rw[List.drop_drop,(t sm _).2] at d24;simp only[Nat.reduceAdd] at d16 d24;unfold Sp.headOf;rw[e24,d8,d16,d24,e,(t n _).1,(t sz _).1,(t sm _).1,(t _ _).1,num8_put n hn,num8_put sz hz,num8_put sm hm,num8_put _ (sum_lt _)];simp[hn0]
theorem headOf_zero:(Sp.headOf (List.replicate 64 0)).ok=false:=by decide +kernel
structure Lies(S:Nat)(s:List Str)(N:Nat)(b:Str):Prop where
 len:s.length=S
 big:4<=S
 secs:∀ x∈s,x.length=64
 none:N=0->b=[]
 head:0<N->Sp.headOf (s.getD (N % 2) [])={ number:=N,size:=b.length,sum:=Sp.sum b,ok:=true }
 fits:b.length<=Sp.areaN S*64
 area:0<N->(Sp.areaB s N).take b.length=b
 other:∀ i,i<2->(0<N->i≠N % 2)->(Sp.headOf (s.getD i [])).ok=true->(Sp.headOf (s.getD i [])).number<N
theorem load_lies{S:Nat}{s:List Str}{N:Nat}{b:Str}(h:Lies S s N b):Sp.load s 0=(b,N):=by
 have hit:∀ acc:Str × Nat,0<N->acc.2<N->Sp.loadOne s acc (N % 2)=(b,N):=by
  intro acc hN ha;unfold Sp.loadOne;rw[h.head hN];simp only[h.area hN,h.len,decide_eq_true ha,decide_eq_true h.fits,Bool.and_self,if_true,decide_true]
 have miss:∀ (acc:Str × Nat) (i:Nat),i<2->(0<N->i≠N % 2)->(Sp.loadOne s acc i=acc\/((Sp.loadOne s acc i).2<N)):=by
  intro acc i hi hne;unfold Sp.loadOne
  split
  ·rename_i hc
   simp only[Bool.and_eq_true] at hc;exact .inr (h.other i hi hne hc.1.1.1)
  ·exact .inl rfl
 have keep:∀ (i:Nat),i<2->(0<N->i≠N % 2)->Sp.loadOne s (b,N) i=(b,N):=by
  intro i hi hne;unfold Sp.loadOne
  split
  ·rename_i hc
   simp only[Bool.and_eq_true,decide_eq_true_eq] at hc;have:=h.other i hi hne hc.1.1.1;have:=hc.1.1.2;omega
  ·rfl
 unfold Sp.load
 by_cases hN:0<N
 ·rcases Nat.mod_two_eq_zero_or_one N with hp|hp
  ·have:=hit ([],0) hN hN
   rw[hp] at this;rw[this];exact keep 1 (by omega) (fun _=>by omega)
  ·have:=miss ([],0) 0 (by omega) (fun _=>by omega)
   have h1:(Sp.loadOne s ([],0) 0).2<N:=by
    rcases this with e|e
    ·rw[e];exact hN
    ·exact e
   have:=hit _ hN h1;rw[hp] at this;exact this
 ·have hN0:N=0:=by omega
  subst hN0;rw[h.none rfl] at keep ⊢;rw[keep 0 (by omega) (fun e=>by omega),keep 1 (by omega) (fun e=>by omega)]
theorem lies_fresh(S:Nat)(h:4<=S):Lies S (List.replicate S (List.replicate 64 0)) 0 []:=by
 have hg:∀ i,i<2->(List.replicate S (List.replicate 64 (0:UInt8))).getD i []=List.replicate 64 0:=by
  intro i hi;simp[List.getD,show i<S from by omega]
 refine⟨by simp,h,fun x hx=>by rw[List.eq_of_mem_replicate hx];simp,fun _=>rfl,fun e=>by omega,by simp,fun e=>by omega,fun i hi _ ho=>?_⟩;rw[hg i hi,headOf_zero] at ho;cases ho
theorem Lies.set{S:Nat}{s:List Str}{N:Nat}{b:Str}(h:Lies S s N b)(k:Nat)(x:Str)(hx:x.length=64)(hk:2<=k)(ha:0<N->k<Sp.areaFrom S N\/Sp.areaFrom S N+Sp.areaN S<=k):Lies S (s.set k x) N b:=by
 have hg:∀ i,i≠k->(s.set k x).getD i []=s.getD i []:=by
  intro i hi;rw[List.getD_eq_getElem?_getD,List.getD_eq_getElem?_getD,List.getElem?_set_ne (by omega)]
 refine⟨by rw[List.length_set];exact h.len,h.big,fun y hy=>?_,h.none,fun hN=>?_,h.fits,fun hN=>?_,fun i hi hne=>?_⟩
 ·rcases List.mem_or_eq_of_mem_set hy with hy|rfl
  ·exact h.secs y hy
  ·exact hx
 ·rw[hg _ (by omega)];exact h.head hN
 ·have:Sp.areaB (s.set k x) N=Sp.areaB s N:=by
   unfold Sp.areaB;rw[List.length_set]
   congr 1
   refine List.map_congr_left fun i hi=>?_
   rw[List.mem_range,h.len] at hi;rw[hg _ (by rw[h.len];have:=ha hN;omega)]
  rw[this];exact h.area hN
 ·rw[hg _ (by omega)];exact h.other i hi hne
theorem area_other(S N i:Nat)(hi:i<Sp.areaN S):Sp.areaFrom S (N+1)+i<Sp.areaFrom S N\/Sp.areaFrom S N+Sp.areaN S<=Sp.areaFrom S (N+1)+i:=by
 unfold Sp.areaFrom
 rcases Nat.mod_two_eq_zero_or_one N with hp|hp
 ·have:(N+1) % 2=1:=by omega
  rw[hp,this];omega
 ·have:(N+1) % 2=0:=by omega
  rw[hp,this];omega
theorem area_in(S N i:Nat)(hS:4<=S)(hi:i<Sp.areaN S):2<=Sp.areaFrom S N+i/\Sp.areaFrom S N+i<S:=by
 unfold Sp.areaFrom Sp.areaN at *
 rcases Nat.mod_two_eq_zero_or_one N with hp|hp <;> rw[hp] <;> omega
theorem flat64:∀ (l:List Str),(∀ x∈l,x.length=64)->∀ j,l.flatten[j]? = (l[j / 64]?).bind fun x=>x[j % 64]?
 | [],_,j=>by simp
 | x :: r,h,j=>by
  have hx:=h x (by simp);rw[List.flatten_cons]
  by_cases hj:j<64
  ·rw[List.getElem?_append_left (by omega),Nat.div_eq_of_lt hj,Nat.mod_eq_of_lt hj];rfl
  ·rw[List.getElem?_append_right (by omega),hx,flat64 r (fun y hy=>h y (List.mem_cons_of_mem _ hy))]
   have e1:j / 64=(j-64) / 64+1:=by omega
   have e2:(j-64) % 64=j % 64:=by omega
   rw[e1,e2,List.getElem?_cons_succ]
theorem chunksN_get:∀ (n:Nat) (b:Str),b.length<=n->∀ i,(Sp.chunksN n b)[i]? = if i*64<b.length then some ((b.drop (i*64)).take 64) else none
 | 0,b,h,i=>by
  have:b=[]:=List.length_eq_zero_iff.1 (by omega);subst this;simp[Sp.chunksN]
 | n+1,b,h,i=>by
  unfold Sp.chunksN
  cases b with
  | nil=>simp
  | cons c r =>
   rw[if_neg (by simp)]
   cases i with
   | zero=>simp
   | succ i =>
    rw[List.getElem?_cons_succ,chunksN_get n _ (by rw[List.length_drop];simp at h ⊢;omega),List.drop_drop,List.length_drop];have e:64+i*64=(i+1)*64:=by omega
    rw[e]
    by_cases hl:(i+1)*64<(c :: r).length
    ·rw[if_pos (by omega),if_pos hl]
    ·rw[if_neg (by omega),if_neg hl]
theorem chunks_get(b:Str)(i:Nat):(Sp.chunks b)[i]? = if i*64<b.length then some ((b.drop (i*64)).take 64) else none:=chunksN_get _ _ (Nat.le_refl _) i
theorem chunks_len(b:Str):(Sp.chunks b).length=(b.length+63) / 64:=by
 have h1:∀ i,i<(Sp.chunks b).length↔i*64<b.length:=by
  intro i;have:=chunks_get b i;constructor
  ·intro h
   rw[List.getElem?_eq_getElem h] at this
   split at this
   ·assumption
   ·cases this
  ·intro h
   rw[if_pos h] at this;exact(List.getElem?_eq_some_iff.1 this).1
 have a:=h1 ((b.length+63) / 64);have c:=h1 ((b.length+63) / 64-1);omega
theorem pad_len(d:Str):(Sp.pad d).length=64:=by unfold Sp.pad;simp
theorem pad_get(d:Str)(j:Nat)(hj:j<64)(hd:j<d.length):(Sp.pad d)[j]? = d[j]?:=by
 unfold Sp.pad;rw[List.getElem?_take,if_pos hj,List.getElem?_append_left hd]
theorem area_chunks{s:List Str}{N:Nat}{b:Str}(hs:∀ x∈s,x.length=64)(hS:4<=s.length)(hb:b.length<=Sp.areaN s.length*64)
  (hc:∀ i c,(Sp.chunks b)[i]? = some c->s[Sp.areaFrom s.length N+i]? = some (Sp.pad c)):(Sp.areaB s N).take b.length=b:=by
 refine List.ext_getElem? fun j=>?_
 rw[List.getElem?_take]
 split
 ·rename_i hj
  have hi:j / 64<Sp.areaN s.length:=by omega
  have hm:((List.range (Sp.areaN s.length)).map fun i=>s.getD (Sp.areaFrom s.length N+i) [])[j / 64]? = s[Sp.areaFrom s.length N+j / 64]?:=by
   obtain⟨_,hin⟩:=area_in s.length N (j / 64) hS hi;rw[List.getElem?_map,List.getElem?_range hi,Option.map_some,List.getD_eq_getElem?_getD,List.getElem?_eq_getElem hin];rfl
  unfold Sp.areaB;rw[flat64 _ (fun x hx=>?_),hm]
  ·have h1:=chunks_get b (j / 64)
   rw[if_pos (by omega)] at h1;rw[hc _ _ h1,Option.bind_some,pad_get _ _ (by omega) (by rw[List.length_take,List.length_drop];omega),List.getElem?_take,if_pos (by omega),List.getElem?_drop]
   congr 1;omega
  ·obtain⟨i,hi,rfl⟩:=List.mem_map.1 hx
   rw[List.mem_range] at hi;obtain⟨_,hin⟩:=area_in s.length N i hS hi;rw[List.getD_eq_getElem?_getD,List.getElem?_eq_getElem hin];exact hs _ (List.getElem_mem hin)
 ·rename_i hj
  exact(List.getElem?_eq_none (by omega)).symm
end V6
end
end Go.Proofs.YtfphcecjhdkcoaaGreatDoor

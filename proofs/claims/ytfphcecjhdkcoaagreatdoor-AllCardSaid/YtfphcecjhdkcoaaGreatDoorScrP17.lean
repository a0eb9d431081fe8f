/-
Walks of the reference's choices, isPath and file.
-/
import Derived.Test.YtfphcecjhdkcoaaGreatDoorScrP01
import Derived.Test.YtfphcecjhdkcoaaGreatDoorScrP04
import Derived.Test.YtfphcecjhdkcoaaGreatDoorScrP06
import Derived.Test.YtfphcecjhdkcoaaGreatDoorScrP14
import Derived.Test.YtfphcecjhdkcoaaGreatDoorScrP16
import Derived.WalkLawsBesides
import Derived.Deep.DeepCutAuto
set_option maxRecDepth 100000
set_option maxHeartbeats 8000000
namespace Go.Proofs.YtfphcecjhdkcoaaGreatDoor
open Go.Lib (hid)
section
open Go.ChangeShapes Go.WideShapes Go.ChangeAt Go.RowKit
theorem wf64{n:Int}(h:(Lit.int .i64 n).wf=true):-9223372036854775808<=n/\n<=9223372036854775807:=by
 have h1:(decide (IntKind.i64.min<=n) && decide (n<=IntKind.i64.max))=true:=h;rw[Bool.and_eq_true,decide_eq_true_eq,decide_eq_true_eq] at h1;have e1:IntKind.i64.min=-9223372036854775808:=by decide
 have e2:IntKind.i64.max=9223372036854775807:=by decide
 rw[e1,e2] at h1;exact h1
end
section
open Go.RowKit
namespace Z1
def want(d:Bool)(c:UInt8):Bool:=Sp.isDig c == d
theorem part_stop{s:Sp.Str}{d:Bool}{k:Nat}(h:∀ x∈s.take k,want d x=true)(hs:k=s.length\/∃ h:k<s.length,want d s[k]=false):(s.takeWhile (want d)).length=k:=by
 have e:=List.take_append_drop k s;have hk:k<=s.length:=by
  rcases hs with rfl|⟨h,_⟩
  ·exact Nat.le_refl _
  ·omega
 rw[<-e,List.takeWhile_append_of_pos h]
 rcases hs with rfl|⟨hlt,he⟩
 ·rw[List.drop_length];simp
 ·rw[List.drop_eq_getElem_cons hlt,List.takeWhile_cons_of_neg (by rw[he];decide)];simp;omega
theorem part_next{s:Sp.Str}{d:Bool}{k:Nat}(hk:k<s.length)(h:∀ x∈s.take k,want d x=true)(hn:want d s[k]=true):∀ x∈s.take (k+1),want d x=true:=by
 intro x hx;rw[List.take_succ_eq_append_getElem hk] at hx
 rcases List.mem_append.1 hx with hx|hx
 ·exact h x hx
 ·rw[List.mem_singleton] at hx;subst hx;exact hn
end Z1
theorem part_any(s:ByteArray)(d:Bool)(w:World)(hs:s.size<=4611686018427387904):
  Calls Tryz.prog 267 #[.string s,.bool d] w fun e w'=>e=.returned (.int .i64 (((bl s).takeWhile (Z1.want d)).length:Int))/\w=w':=by
 go_enter Tryz.func267,Tryz.ntmps267;go_wp2
 go_loop [5] (fun i=>∃ k:Nat,k<=s.size/\i=.int .i64 k/\∀ x∈(bl s).take k,Z1.want d x=true) (fun i=>s.size-(intOf i).toNat)
 case atStart=>exact⟨0,Nat.zero_le _,rfl,fun x hx=>by simp at hx⟩
 case round =>
  obtain⟨k,hk,rfl,hd⟩:=hrel;have HD:=hid hd;clear hd
  by_cases h:k<s.size
  ·have hkl:k<(bl s).length:=by rw[bl_len];exact h
   have hget:(bl s)[k]=s[k]:=rfl;have fin:∀ u:Bool,Z1.want d s[k]=u->(u=true->∀ x∈(bl s).take (k+1),Z1.want d x=true)/\(u=false->((bl s).takeWhile (Z1.want d)).length=k):=fun u hu=>⟨fun e=>Z1.part_next hkl HD.out (by rw[hget,hu,e]),fun e=>Z1.part_stop HD.out (.inr ⟨hkl,by rw[hget,hu,e]⟩)⟩
   have hdig:Sp.isDig s[k]=(decide (48<=s[k].toNat) && decide (s[k].toNat<=57)):=rfl
   by_cases h1:48<=s[k].toNat
   ·have i1:(48:Int)<=(s[k].toNat:Int):=by omega
    cases d with
    | true =>
     by_cases h2:s[k].toNat<=57
     ·have i2:(decide ((s[k].toNat:Int)<=57))=true:=decide_eq_true (by omega)
      have i3:decide (s[k].toNat<=57)=true:=decide_eq_true h2;have hw:Z1.want true s[k]=true:=by unfold Z1.want;rw[hdig,decide_eq_true h1,decide_eq_true h2];rfl
      have F1:=hid ((fin _ hw).1 rfl);clear fin hdig hget hw;go_wp2;go_round
      case rel=>exact⟨k+1,h,by go_num,F1.out⟩
      case measure=>simp[intOf];omega
     ·have i2:(decide ((s[k].toNat:Int)<=57))=false:=decide_eq_false (by omega)
      have i3:decide (s[k].toNat<=57)=false:=decide_eq_false h2;have hw:Z1.want true s[k]=false:=by unfold Z1.want;rw[hdig,decide_eq_true h1,decide_eq_false h2];rfl
      have F2:=hid ((fin _ hw).2 rfl);clear fin hdig hget hw;go_wp2;go_ret;exact⟨ret_int (by rw[F2.out]),rfl⟩
    | false =>
     have hw:Z1.want false s[k]=!decide ((s[k].toNat:Int)<=57):=by
      have e57:decide (s[k].toNat<=57)=decide ((s[k].toNat:Int)<=57):=by rw[decide_eq_decide];omega
      rw[decide_eq_true h1,e57] at hdig;unfold Z1.want;rw[hdig]
      cases decide ((s[k].toNat:Int)<=57) <;> rfl
     have FN:=hid (fun u hu=>fin u (hw.trans hu));clear fin hdig hget hw h1;go_wp2
     ·have hc:(!decide ((s[k].toNat:Int)<=57))=true:=by assumption
      go_round
      case rel=>exact⟨k+1,h,by go_num,(FN.out _ hc).1 rfl⟩
      case measure=>simp[intOf];omega
     ·have hc:(!decide ((s[k].toNat:Int)<=57))=false:=by assumption
      go_ret;exact⟨ret_int (by rw[(FN.out _ hc).2 rfl]),rfl⟩
   ·have i1:¬(48:Int)<=(s[k].toNat:Int):=by omega
    have hw:Z1.want d s[k]=!d:=by unfold Z1.want;rw[hdig,decide_eq_false h1];cases d <;> rfl
    obtain⟨f1,f2⟩:=fin _ hw;have F1:=hid f1;have F2:=hid f2;clear fin hdig hget hw f1 f2 h1
    cases d with
    | true =>
     go_wp2;go_ret;exact⟨ret_int (by rw[F2.out rfl]),rfl⟩
    | false =>
     go_wp2;go_round
     case rel=>exact⟨k+1,h,by go_num,F1.out rfl⟩
     case measure=>simp[intOf];omega
  ·obtain rfl:k=s.size:=by omega
   go_wp2;go_ret;exact⟨ret_int (by rw[Z1.part_stop HD.out (.inl (by rw[bl_len]))]),rfl⟩
theorem signR_any(n:Int)(w:World):Calls Tryz.prog 269 #[.int .i64 n] w fun e w'=>e=.returned (.int .i64 (Sp.sgn n))/\w=w':=by
 by_cases h1:n<0
 ·have e:Sp.sgn n=-1:=V4.sgn_neg h1
  rw[e];go_enter Tryz.func269,Tryz.ntmps269;go_wp2;go_ret;exact⟨rfl,rfl⟩
 ·by_cases h2:0<n
  ·have e:Sp.sgn n=1:=V4.sgn_pos h2
   rw[e];go_enter Tryz.func269,Tryz.ntmps269;go_wp2;go_ret;exact⟨rfl,rfl⟩
  ·have e:Sp.sgn n=0:=by unfold Sp.sgn;rw[if_neg h1,if_neg h2]
   rw[e];go_enter Tryz.func269,Tryz.ntmps269;go_wp2;go_ret;exact⟨rfl,rfl⟩
namespace Z1
theorem letter_mem(c:UInt8):((Sp.smallS ++ Sp.greatS).contains c && decide (c.toNat<128))=(Sp.smallS ++ Sp.greatS).contains c:=by
 cases h:(Sp.smallS ++ Sp.greatS).contains c with
 | false=>rfl
 | true =>
  rw[List.contains_iff_mem] at h;simp only[Bool.true_and,decide_eq_true_eq];have:∀ c∈Sp.smallS ++ Sp.greatS,c.toNat<128:=by decide
  exact this c h
theorem one_byte(w:World)(c:UInt8):BytesOn (·=w.heap.size) (w.alloc (.cells #[.int .u8 (c.toNat:Int)] 5)) (.slice (some ⟨w.heap.size,0,none⟩) 1 1) [c]:=by
 refine⟨some ⟨w.heap.size,0,none⟩,1,rfl,Nat.le_refl _,fun k y hk=>?_⟩
 cases k with
 | zero =>
  have hy:y=[u8v c]:=by simpa using hk.symm
  subst hy;refine⟨w.heap.size,0,rfl,rfl,fun j u hj=>?_⟩
  cases j with
  | zero =>
   have hu:u=u8v c:=by simpa using hj.symm
   subst hu;rw[World.cell?_alloc_at _ _ _ _ rfl];rfl
  | succ j=>simp at hj
 | succ k=>simp at hk
end Z1
theorem letter_any(c:UInt8)(w:World):Calls Tryz.prog 268 #[.int .u8 (c.toNat:Int)] w fun e w'=>e=.returned (.int .i64 (V4.letter c))/\Below w.heap.size w w':=by
 have hc:=c.toNat_lt
 by_cases h:c=126
 ·subst h
  go_enter Tryz.func268,Tryz.ntmps268;go_wp2;go_ret;exact⟨rfl,Below.refl _ _⟩
 ·have hne:(((c.toNat:Int)) == 126)=false:=by
   rw[beq_eq_false_iff_ne];intro h';apply h;rw[<-UInt8.toNat_inj];show c.toNat=126;omega
  have hcv:=conv_bytes (Z1.one_byte w c);have hlm:=Z1.letter_mem c;have hlt:V4.letter c=if (Sp.smallS ++ Sp.greatS).contains c=true then(c.toNat:Int) else c.toNat+1000:=by
   unfold V4.letter;rw[if_neg h,hlm]
  have HLT:=hid hlt;have h128:(Sp.smallS ++ Sp.greatS).contains c=true->c.toNat<128:=fun e=>by rw[e] at hlm;simpa using hlm
  have H128:=hid h128;clear hlt h hlm h128;go_enter Tryz.func268,Tryz.ntmps268;go_wp2_with fail;refine(in_any ⟨#[c]⟩ _ c _ rfl (by decide)).mono ?_;rintro e w1 ⟨rfl,hw1⟩;have hw1':=hw1.symm;subst hw1';clear hw1;rw[show bl ⟨#[97,98,99,100,101,102,103,104,105,106,107,108,109,110,111,112,113,114,115,116,117,118,119,120,121,122,65,66,67,68,69,70,71,72,73,74,75,76,77,78,79,80,81,82,83,84,85,86,87,88,89,90]⟩=Sp.smallS ++ Sp.greatS from rfl];unfold R1.has;have hbA:Below w.heap.size w (w.alloc (.cells #[.int .u8 (c.toNat:Int)] 5)):=(Below.refl _ _).alloc (Nat.le_refl _) _;have HBA:=hid hbA;clear hbA hcv
  cases hm:(Sp.smallS ++ Sp.greatS).contains c with
  | true =>
   have h1:=H128.out hm;have hd:decide ((c.toNat:Int)<128)=true:=decide_eq_true (by omega);have HM:=hid hm;clear hm h1;go_wp2;go_ret;exact⟨ret_int (by rw[HLT.out,if_pos HM.out]),HBA.out⟩
  | false =>
   have HM:=hid hm;clear hm;go_wp2;go_ret;exact⟨ret_int (by rw[HLT.out,if_neg (by rw[HM.out];decide)]),HBA.out⟩
namespace Z1
def pad0(n:Nat)(s:Sp.Str):Sp.Str:=List.replicate n 48 ++ s
theorem lt_other{a b:Sp.Str}(h:Sp.strLt a b=false)(hne:a≠b):Sp.strLt b a=true:=by
 rw[P3.lt_iff];rw[<-Bool.not_eq_true,P3.lt_iff] at h
 rcases Classical.em (b<a) with h1|h1
 ·exact h1
 ·exact absurd (List.le_antisymm (List.not_lt.1 h1) (List.not_lt.1 h)) hne
theorem pad_succ(n:Nat)(s:Sp.Str):pad0 (n+1) s=48 :: pad0 n s:=by unfold pad0;rw[List.replicate_succ];rfl
theorem pad_len(n:Nat)(s:Sp.Str):(pad0 n s).length=n+s.length:=by unfold pad0;simp
end Z1
theorem numbers_any(s t:ByteArray)(w:World)(hs:s.size<=1099511627776)(ht:t.size<=1099511627776)(hd1:∀ c∈bl s,Sp.isDig c=true)(hd2:∀ c∈bl t,Sp.isDig c=true):
  Calls Tryz.prog 270 #[.string s,.string t] w fun e w'=>e=.returned (.int .i64 (Sp.diffD (bl s) (bl t)))/\w=w':=by
 have hpad:=V4.diff_pad (bl s) (bl t) hd1 hd2 (max s.size t.size) (by rw[bl_len];omega) (by rw[bl_len];omega);rw[bl_len,bl_len] at hpad;have HP:=hid hpad;clear hpad hd1 hd2;go_enter Tryz.func270,Tryz.ntmps270;go_wp2_with fail
 go_loop [0] (fun a=>∃ k:Nat,k<=max s.size t.size-s.size/\a=.string ⟨(Z1.pad0 k (bl s)).toArray⟩) (fun a=>max s.size t.size-CM.strLen a)
 case atStart=>exact⟨0,Nat.zero_le _,str_eq rfl⟩
 case round =>
  obtain⟨k,hk,rfl⟩:=hrel;have hpl:=Z1.pad_len k (bl s);rw[bl_len] at hpl;obtain⟨X,hX⟩:∃ X:ByteArray,X=⟨(Z1.pad0 k (bl s)).toArray⟩:=⟨_,rfl⟩
  have hXs:X.size=k+s.size:=by rw[<-hpl,hX];show(Z1.pad0 k (bl s)).toArray.size=_;simp
  have HX:=hid hX;rw[<-hX];clear hX hpl
  by_cases h:k+s.size<t.size
  ·have hlt:X.size<t.size:=by omega
   have HXS:=hid hXs;clear hXs;go_wp2;go_round
   case rel=>exact⟨k+1,by omega,str_eq (by rw[bl_app,HX.out,Z1.pad_succ];rfl)⟩
   case measure =>
    have h1:=HXS.out;have h2:((⟨#[48]⟩:ByteArray) ++ X).size=1+X.size:=by rw[<-bl_len,bl_app,List.length_append,bl_len];rfl
    show max s.size t.size-((⟨#[48]⟩:ByteArray) ++ X).size<max s.size t.size-X.size
    omega
  ·have hlt:¬X.size<t.size:=by omega
   have HXS:=hid hXs;have hk2:k=max s.size t.size-s.size:=by omega
   have HK:=hid hk2;have hXm:X.size<=max s.size t.size:=by omega
   have hXm2:max s.size t.size<=X.size:=by omega
   clear hXs hk2;go_wp2_with fail
   go_loop [1] (fun a=>∃ k:Nat,k<=max s.size t.size-t.size/\a=.string ⟨(Z1.pad0 k (bl t)).toArray⟩) (fun a=>max s.size t.size-CM.strLen a)
   case atStart=>exact⟨0,Nat.zero_le _,str_eq rfl⟩
   case round =>
    obtain⟨j,hj,rfl⟩:=hrel;have hpl:=Z1.pad_len j (bl t);rw[bl_len] at hpl;obtain⟨Y,hY⟩:∃ Y:ByteArray,Y=⟨(Z1.pad0 j (bl t)).toArray⟩:=⟨_,rfl⟩
    have hYs:Y.size=j+t.size:=by rw[<-hpl,hY];show(Z1.pad0 j (bl t)).toArray.size=_;simp
    have HY:=hid hY;rw[<-hY];clear hY hpl
    by_cases h:j+t.size<X.size
    ·have hlt:Y.size<X.size:=by omega
     have HYS:=hid hYs;clear hYs;go_wp2;go_round
     case rel=>exact⟨j+1,by omega,str_eq (by rw[bl_app,HY.out,Z1.pad_succ];rfl)⟩
     case measure =>
      have h1:=HYS.out;have h2:((⟨#[48]⟩:ByteArray) ++ Y).size=1+Y.size:=by rw[<-bl_len,bl_app,List.length_append,bl_len];rfl
      show max s.size t.size-((⟨#[48]⟩:ByteArray) ++ Y).size<max s.size t.size-Y.size
      omega
    ·have hlt:¬Y.size<X.size:=by omega
     have hk2:j=max s.size t.size-t.size:=by omega
     have hres:Sp.cmpS (bl X) (bl Y)=Sp.diffD (bl s) (bl t):=by
      rw[<-HP.out,HX.out,HY.out,<-HK.out,<-hk2];rfl
     unfold Sp.cmpS at hres;rw[<-CM.less_lt,<-CM.less_lt] at hres;have HRES:=hid hres;clear hres hYs hk2
     cases h1:Op.bytesLess (bl X) (bl Y) with
     | true =>
      have h1':Op.bytesLess X.toList Y.toList=true:=by rw[toList_bl,toList_bl];exact h1
      have HA:=hid h1;clear h1;go_wp2;go_ret;exact⟨ret_int (by rw[<-HRES.out,HA.out];rfl),rfl⟩
     | false =>
      have h1':Op.bytesLess X.toList Y.toList=false:=by rw[toList_bl,toList_bl];exact h1
      have HA:=hid h1;clear h1
      cases h2:(bl X == bl Y) with
      | true =>
       have h2':(X.toList == Y.toList)=true:=by rw[eqs_bl];exact h2
       have hbb:Op.bytesLess (bl Y) (bl X)=false:=by
        have:bl X=bl Y:=by simpa using h2
        rw[<-this,CM.less_lt];exact V4.strLt_irrefl _
       have HB:=hid hbb;clear h2 hbb;go_wp2;go_ret;exact⟨ret_int (by rw[<-HRES.out,HA.out,HB.out];rfl),rfl⟩
      | false =>
       have h2':(X.toList == Y.toList)=false:=by rw[eqs_bl];exact h2
       have hbb:Op.bytesLess (bl Y) (bl X)=true:=by
        have h3:bl X≠bl Y:=by simpa using h2
        have h4:=HA.out;rw[CM.less_lt] at h4 ⊢;exact Z1.lt_other h4 h3
       have HB:=hid hbb;clear h2 hbb;go_wp2;go_ret;exact⟨ret_int (by rw[<-HRES.out,HA.out,HB.out];rfl),rfl⟩
end
section
open Go.RowKit
namespace Z2
theorem want_false:Z1.want false=Sp.notDig:=by funext c;unfold Z1.want Sp.notDig;cases Sp.isDig c <;> rfl
theorem want_true:Z1.want true=Sp.isDig:=by funext c;unfold Z1.want;cases Sp.isDig c <;> rfl
theorem drop_while(p:UInt8->Bool):∀ l:Sp.Str,l.drop (l.takeWhile p).length=l.dropWhile p
 | []=>rfl
 | c :: r=>by
  cases h:p c with
  | true=>rw[List.takeWhile_cons_of_pos h,List.dropWhile_cons_of_pos h,List.length_cons,List.drop_succ_cons,drop_while p r]
  | false=>rw[List.takeWhile_cons_of_neg (by rw[h];decide),List.dropWhile_cons_of_neg (by rw[h];decide)];rfl
theorem take_while(p:UInt8->Bool):∀ l:Sp.Str,l.take (l.takeWhile p).length=l.takeWhile p
 | []=>rfl
 | c :: r=>by
  cases h:p c with
  | true=>rw[List.takeWhile_cons_of_pos h,List.length_cons,List.take_succ_cons,take_while p r]
  | false=>rw[List.takeWhile_cons_of_neg (by rw[h];decide)];rfl
theorem take_len(p:UInt8->Bool)(l:Sp.Str):(l.takeWhile p).length<=l.length:=(List.takeWhile_prefix _).length_le
theorem take_all(p:UInt8->Bool):∀ (l:Sp.Str),∀ c∈l.takeWhile p,p c=true
 | [],c,hc=>by cases hc
 | a :: r,c,hc=>by
  cases h:p a with
  | true =>
   rw[List.takeWhile_cons_of_pos h] at hc
   rcases List.mem_cons.1 hc with e|hc
   ·rw[e];exact h
   ·exact take_all p r c hc
  | false=>rw[List.takeWhile_cons_of_neg (by rw[h];decide)] at hc;cases hc
theorem take_get(p:UInt8->Bool)(l:Sp.Str){k:Nat}(h:k<(l.takeWhile p).length)(h2:k<l.length):(l.takeWhile p)[k]=l[k]:=by
 have e:=take_while p l;have:(l.takeWhile p)[k]? = l[k]?:=by
  conv=>lhs;rw[<-e]
  rw[List.getElem?_take,if_pos h]
 rw[List.getElem?_eq_getElem h,List.getElem?_eq_getElem h2] at this;exact Option.some.inj this
def wL(s:Sp.Str)(i:Nat):Int:=match s.drop i with
 | c :: _=>V4.letter c
 | []=>0
theorem wL_in{s:Sp.Str}{i:Nat}(h:i<s.length):wL s i=V4.letter s[i]:=by unfold wL;rw[List.drop_eq_getElem_cons h]
theorem wL_out{s:Sp.Str}{i:Nat}(h:¬i<s.length):wL s i=0:=by unfold wL;rw[List.drop_eq_nil_of_le (by omega)]
theorem same{x y:Sp.Str}{i:Nat}(hi:i<x.length\/i<y.length)(h:Sp.sgn (wL x i-wL y i)=0):Sp.diffW V4.letter (x.drop i) (y.drop i)=Sp.diffW V4.letter (x.drop (i+1)) (y.drop (i+1)):=by
 unfold wL at h;have e:∀ s:Sp.Str,s.drop (i+1)=(s.drop i).drop 1:=fun s=>by rw[List.drop_drop]
 rw[e x,e y]
 cases hx:x.drop i with
 | nil =>
  cases hy:y.drop i with
  | nil =>
   have h1:=List.drop_eq_nil_iff.1 hx;have h2:=List.drop_eq_nil_iff.1 hy;omega
  | cons b r=>rw[hx,hy] at h;simp only at h;rw[Sp.diffW_nc,if_pos h];rfl
 | cons a q =>
  cases hy:y.drop i with
  | nil=>rw[hx,hy] at h;simp only[Int.sub_zero] at h;rw[Sp.diffW,if_pos h];rfl
  | cons b r=>rw[hx,hy] at h;simp only at h;rw[Sp.diffW,if_pos h];rfl
theorem other{x y:Sp.Str}{i:Nat}(hi:i<x.length\/i<y.length)(h:Sp.sgn (wL x i-wL y i)≠0):Sp.diffW V4.letter (x.drop i) (y.drop i)=Sp.sgn (wL x i-wL y i):=by
 unfold wL at h ⊢
 cases hx:x.drop i with
 | nil =>
  cases hy:y.drop i with
  | nil =>
   have h1:=List.drop_eq_nil_iff.1 hx;have h2:=List.drop_eq_nil_iff.1 hy;omega
  | cons b r=>rw[hx,hy] at h;simp only at h ⊢;rw[Sp.diffW_nc,if_neg h]
 | cons a q =>
  cases hy:y.drop i with
  | nil=>rw[hx,hy] at h;simp only[Int.sub_zero] at h ⊢;rw[Sp.diffW,if_neg h]
  | cons b r=>rw[hx,hy] at h;simp only at h ⊢;rw[Sp.diffW,if_neg h]
theorem done{x y:Sp.Str}{i:Nat}(h1:x.length<=i)(h2:y.length<=i):Sp.diffW V4.letter (x.drop i) (y.drop i)=0:=by
 rw[List.drop_eq_nil_of_le h1,List.drop_eq_nil_of_le h2];rfl
theorem sgn0{a b:Int}:Sp.sgn (a-b)=0↔a=b:=by
 unfold Sp.sgn;constructor
 ·intro h
  split at h
  ·cases h
  ·split at h
   ·cases h
   ·omega
 ·rintro rfl;simp
theorem letter_range(c:UInt8):-1<=V4.letter c/\V4.letter c<=1255:=by
 have:=c.toNat_lt
 rcases V4.letter_cls c with⟨_,_,h⟩|⟨_,_,_,h⟩|⟨_,h⟩ <;> rw[h] <;> omega
theorem wL_range(s:Sp.Str)(i:Nat):-1<=wL s i/\wL s i<=1255:=by
 unfold wL
 split
 ·exact letter_range _
 ·omega
theorem step(x y:Sp.Str)(h:(x.isEmpty && y.isEmpty)=false):Sp.cmp x y =
  if Sp.diffW V4.letter (x.takeWhile Sp.notDig) (y.takeWhile Sp.notDig)=0 then
   if Sp.diffD ((x.dropWhile Sp.notDig).takeWhile Sp.isDig) ((y.dropWhile Sp.notDig).takeWhile Sp.isDig)=0 then Sp.cmp ((x.dropWhile Sp.notDig).dropWhile Sp.isDig) ((y.dropWhile Sp.notDig).dropWhile Sp.isDig)
   else Sp.diffD ((x.dropWhile Sp.notDig).takeWhile Sp.isDig) ((y.dropWhile Sp.notDig).takeWhile Sp.isDig)
  else Sp.diffW V4.letter (x.takeWhile Sp.notDig) (y.takeWhile Sp.notDig):=by
 rw[V4.diff_letter];exact V4.cmp_step x y h
end Z2
theorem cmpR_any(s t:ByteArray)(w:World)(hs:s.size<=1099511627776)(ht:t.size<=1099511627776):
  Calls Tryz.prog 254 #[.string s,.string t] w fun e w'=>e=.returned (.int .i64 (Sp.cmp (bl s) (bl t)))/\Below w.heap.size w w':=by
 obtain⟨R,hR⟩:∃ R,R=Sp.cmp (bl s) (bl t):=⟨_,rfl⟩
 rw[<-hR];have HR:=hid hR;clear hR;obtain⟨B,hB⟩:∃ B,B=w.heap.size:=⟨_,rfl⟩
 rw[<-hB];have hB1:=Nat.le_of_eq hB;have HB0:=hid (show Below B w w from Below.refl _ _);clear hB;go_enter Tryz.func254,Tryz.ntmps254;go_wp2
 go_loopw [0,1] (fun a b wr=>∃ X Y:ByteArray,a=.string X/\b=.string Y/\X.size<=1099511627776/\Y.size<=1099511627776/\Sp.cmp (bl X) (bl Y)=R/\Below B w wr) (fun a b _=>CM.strLen a+CM.strLen b)
 case atStart=>exact⟨s,t,rfl,rfl,hs,ht,HR.out.symm,HB0.out⟩
 case round =>
  obtain⟨X,Y,rfl,rfl,hx,hy,hcmp,hbel⟩:=hrel;have HC:=hid hcmp;have HBL:=hid hbel;have hzr:=hbel.size;clear hcmp hbel
  by_cases hemp:X.size=0/\Y.size=0
  ·have h1:¬0<X.size:=by omega
   have h2:¬0<Y.size:=by omega
   have hr:R=0:=by
    have e1:bl X=[]:=List.length_eq_zero_iff.1 (by rw[bl_len];exact hemp.1);have e2:bl Y=[]:=List.length_eq_zero_iff.1 (by rw[bl_len];exact hemp.2);rw[<-HC.out,e1,e2];rfl
   have HRR:=hid hr;clear hr hemp;go_wp2;go_ret;exact⟨ret_int HRR.out.symm,HBL.out⟩
  ·have hst:=Z2.step (bl X) (bl Y) (by
    cases hx0:(bl X).isEmpty with
    | false=>rfl
    | true =>
     cases hy0:(bl Y).isEmpty with
     | false=>rfl
     | true =>
      have e1:(bl X).length=0:=by rw[List.isEmpty_iff.1 hx0];rfl
      have e2:(bl Y).length=0:=by rw[List.isEmpty_iff.1 hy0];rfl
      rw[bl_len] at e1 e2;exact absurd ⟨e1,e2⟩ hemp)
   rw[HC.out] at hst;have HST:=hid hst;clear hst;go_upto_region 1 with(fail)
   go_cut [18] from 11 to 18 (fun c wx=>c=.bool true/\wx=wr)
   case first =>
    by_cases h1:0<X.size
    ·go_wp2_with fail
     go_meet
     case rel=>exact⟨rfl,rfl⟩
    ·have h2:0<Y.size:=by omega
     go_wp2_with fail;go_meet
     case rel=>exact⟨rfl,rfl⟩
   case rest =>
    obtain⟨rfl,hwc⟩:=hcut;have hwc':=hwc.symm;subst hwc';clear hwc;go_wp2_with fail;refine(part_any X false wr (by omega)).mono ?_;rintro e w1 ⟨rfl,hw1⟩;subst hw1;go_wp2_with fail;refine(part_any Y false wr (by omega)).mono ?_;rintro e w1 ⟨rfl,hw1⟩;subst hw1;rw[Z2.want_false];have hx1:=Z2.take_len Sp.notDig (bl X);have hy1:=Z2.take_len Sp.notDig (bl Y);rw[bl_len] at hx1 hy1;have GX:=hid (fun k (h:k<((bl X).takeWhile Sp.notDig).length) (h2:k<X.size)=>Z2.take_get Sp.notDig (bl X) h (by rw[bl_len];exact h2));have GY:=hid (fun k (h:k<((bl Y).takeWhile Sp.notDig).length) (h2:k<Y.size)=>Z2.take_get Sp.notDig (bl Y) h (by rw[bl_len];exact h2));have DX:=hid (Z2.drop_while Sp.notDig (bl X));have DY:=hid (Z2.drop_while Sp.notDig (bl Y));generalize (bl X).takeWhile Sp.notDig=x1 at *;generalize (bl Y).takeWhile Sp.notDig=y1 at *;generalize wr=wo at *;go_wp2_with fail
    go_loopw [7,8,9] (fun i _ _ wi=>∃ k:Nat,k<=x1.length+y1.length/\i=.int .i64 k/\Sp.diffW V4.letter x1 y1=Sp.diffW V4.letter (x1.drop k) (y1.drop k)/\Below wo.heap.size wo wi) (fun i _ _ _=>x1.length+y1.length-(intOf i).toNat)
    case atStart=>exact⟨0,Nat.zero_le _,rfl,rfl,Below.refl _ _⟩
    case round =>
     obtain⟨k,hk,rfl,hdf,hbi⟩:=hrel;have HDF:=hid hdf;have HBI:=hid hbi;have hzi:=hbi.size;have hzo:B<=wo.heap.size:=by omega
     clear hdf hbi
     by_cases hkx:k<x1.length
     ·by_cases hky:k<y1.length
      ·have hi:k<x1.length\/k<y1.length:=.inl hkx
       have hkX:k<X.size:=by omega
       have eu:V4.letter X[k]=Z2.wL x1 k:=by rw[Z2.wL_in hkx,GX.out k hkx hkX];rfl
       have hkY:k<Y.size:=by omega
       have ev:V4.letter Y[k]=Z2.wL y1 k:=by rw[Z2.wL_in hky,GY.out k hky hkY];rfl
       have hsm:=Z2.same hi;have hot:=Z2.other hi;have ru:=Z2.wL_range x1 k;have rv:=Z2.wL_range y1 k;have hL:=letter_any X[k] wr;rw[eu] at hL;have HLX:=hid hL;clear hL eu;have hM:=fun W=>letter_any Y[k] W
       rw[ev] at hM;have HLY:=hid hM;clear hM ev;generalize Z2.wL x1 k=u at *;generalize Z2.wL y1 k=v at *;have HSM:=hid hsm;have HOT:=hid hot;clear hsm hot
       by_cases huv:u=v
       ·have hsg:Sp.sgn (u-v)=0:=Z2.sgn0.2 huv
        have hnx:=HSM.out hsg;have HNX:=hid hnx;clear hnx hsg;subst huv;go_wp2_with fail;refine HLX.out.mono ?_;rintro e w2 ⟨rfl,hb2⟩;have hz2:=hb2.size;have HBX:=hid (HBI.out.trans (hb2.mono hzi));clear hb2;go_wp2_with fail;refine(HLY.out w2).mono ?_;rintro e w3 ⟨rfl,hb3⟩;have hz3:=hb3.size;have HBY:=hid (HBX.out.trans (hb3.mono (by omega)));clear hb3;go_wp2;go_roundw
        case rel=>exact⟨k+1,by omega,by go_num,by rw[HDF.out,HNX.out],HBY.out⟩
        case measure=>simp[intOf];omega
       ·have hsg:Sp.sgn (u-v)≠0:=fun e=>huv (Z2.sgn0.1 e)
        have hot:=HOT.out hsg;have HOTT:=hid hot;have HSG:=hid hsg;have hub:(u != v)=true:=by simpa using huv
        clear hot hsg huv;go_wp2_with fail;refine HLX.out.mono ?_;rintro e w2 ⟨rfl,hb2⟩;have hz2:=hb2.size;have HBX:=hid (HBI.out.trans (hb2.mono hzi));clear hb2;go_wp2_with fail;refine(HLY.out w2).mono ?_;rintro e w3 ⟨rfl,hb3⟩;have hz3:=hb3.size;have HBY:=hid (HBX.out.trans (hb3.mono (by omega)));clear hb3;go_wp2_with fail;refine(signR_any _ _).mono ?_;rintro e w4 ⟨rfl,hw4⟩;subst hw4;go_wp2;go_ret;exact⟨ret_int (by rw[HST.out,if_neg (by rw[HDF.out,HOTT.out];exact HSG.out),HDF.out,HOTT.out];all_goals (try simp)),HBL.out.trans (HBY.out.mono hzo)⟩
      ·have hi:k<x1.length\/k<y1.length:=.inl hkx
       have hkX:k<X.size:=by omega
       have eu:V4.letter X[k]=Z2.wL x1 k:=by rw[Z2.wL_in hkx,GX.out k hkx hkX];rfl
       have ev:Z2.wL y1 k=0:=Z2.wL_out hky;have hsm:=Z2.same hi;have hot:=Z2.other hi;have ru:=Z2.wL_range x1 k;have rv:=Z2.wL_range y1 k;have hL:=letter_any X[k] wr;rw[eu] at hL;have HLX:=hid hL;clear hL eu;rw[ev] at hsm hot;clear ev rv;generalize Z2.wL x1 k=u at *;have HSM:=hid hsm;have HOT:=hid hot;clear hsm hot
       by_cases huv:u=(0:Int)
       ·have hsg:Sp.sgn (u-(0:Int))=0:=Z2.sgn0.2 huv
        have hnx:=HSM.out hsg;have HNX:=hid hnx;clear hnx hsg;subst huv;go_wp2_with fail;refine HLX.out.mono ?_;rintro e w2 ⟨rfl,hb2⟩;have hz2:=hb2.size;have HBX:=hid (HBI.out.trans (hb2.mono hzi));clear hb2;go_wp2;go_roundw
        case rel=>exact⟨k+1,by omega,by go_num,by rw[HDF.out,HNX.out],HBX.out⟩
        case measure=>simp[intOf];omega
       ·have hsg:Sp.sgn (u-(0:Int))≠0:=fun e=>huv (Z2.sgn0.1 e)
        have hot:=HOT.out hsg;have HOTT:=hid hot;have HSG:=hid hsg;have hub:(u != (0:Int))=true:=by simpa using huv
        clear hot hsg huv;go_wp2_with fail;refine HLX.out.mono ?_;rintro e w2 ⟨rfl,hb2⟩;have hz2:=hb2.size;have HBX:=hid (HBI.out.trans (hb2.mono hzi));clear hb2;go_wp2_with fail;refine(signR_any _ _).mono ?_;rintro e w4 ⟨rfl,hw4⟩;subst hw4;go_wp2;go_ret;exact⟨ret_int (by rw[HST.out,if_neg (by rw[HDF.out,HOTT.out];exact HSG.out),HDF.out,HOTT.out];all_goals (try simp)),HBL.out.trans (HBX.out.mono hzo)⟩
     ·by_cases hky:k<y1.length
      ·have hi:k<x1.length\/k<y1.length:=.inr hky
       have eu:Z2.wL x1 k=0:=Z2.wL_out hkx;have hkY:k<Y.size:=by omega
       have ev:V4.letter Y[k]=Z2.wL y1 k:=by rw[Z2.wL_in hky,GY.out k hky hkY];rfl
       have hsm:=Z2.same hi;have hot:=Z2.other hi;have ru:=Z2.wL_range x1 k;have rv:=Z2.wL_range y1 k;have hM:=fun W=>letter_any Y[k] W
       rw[ev] at hM;have HLY:=hid hM;clear hM ev;rw[eu] at hsm hot;clear eu ru;generalize Z2.wL y1 k=v at *;have HSM:=hid hsm;have HOT:=hid hot;clear hsm hot
       by_cases huv:(0:Int)=v
       ·have hsg:Sp.sgn ((0:Int)-v)=0:=Z2.sgn0.2 huv
        have hnx:=HSM.out hsg;have HNX:=hid hnx;clear hnx hsg;subst huv;go_wp2_with fail;refine(HLY.out wr).mono ?_;rintro e w3 ⟨rfl,hb3⟩;have hz3:=hb3.size;have HBY:=hid (HBI.out.trans (hb3.mono (by omega)));clear hb3;go_wp2;go_roundw
        case rel=>exact⟨k+1,by omega,by go_num,by rw[HDF.out,HNX.out],HBY.out⟩
        case measure=>simp[intOf];omega
       ·have hsg:Sp.sgn ((0:Int)-v)≠0:=fun e=>huv (Z2.sgn0.1 e)
        have hot:=HOT.out hsg;have HOTT:=hid hot;have HSG:=hid hsg;have hub:((0:Int) != v)=true:=by simpa using huv
        clear hot hsg huv;go_wp2_with fail;refine(HLY.out wr).mono ?_;rintro e w3 ⟨rfl,hb3⟩;have hz3:=hb3.size;have HBY:=hid (HBI.out.trans (hb3.mono (by omega)));clear hb3;go_wp2_with fail;refine(signR_any _ _).mono ?_;rintro e w4 ⟨rfl,hw4⟩;subst hw4;go_wp2;go_ret;exact⟨ret_int (by rw[HST.out,if_neg (by rw[HDF.out,HOTT.out];exact HSG.out),HDF.out,HOTT.out];all_goals (try simp)),HBL.out.trans (HBY.out.mono hzo)⟩
      ·have hd0:Sp.diffW V4.letter x1 y1=0:=by rw[HDF.out];exact Z2.done (by omega) (by omega)
       have hS2:=HST.out;rw[hd0,if_pos rfl,<-DX.out,<-DY.out,<-bl_from,<-bl_from] at hS2;have hlt:(((bl X).drop x1.length).dropWhile Sp.isDig).length+(((bl Y).drop y1.length).dropWhile Sp.isDig).length<X.size+Y.size:=by
        rw[DX.out,DY.out,<-bl_len,<-bl_len];refine CM.drop_sum ?_
        cases hx0:(bl X).isEmpty with
        | false=>rfl
        | true =>
         cases hy0:(bl Y).isEmpty with
         | false=>rfl
         | true =>
          have e1:(bl X).length=0:=by rw[List.isEmpty_iff.1 hx0];rfl
          have e2:(bl Y).length=0:=by rw[List.isEmpty_iff.1 hy0];rfl
          rw[bl_len] at e1 e2;exact absurd ⟨e1,e2⟩ hemp
       rw[<-bl_from,<-bl_from] at hlt;have z2:(X.extract x1.length X.size).size=X.size-x1.length:=size_ext X _ _ (Nat.le_refl _);have z3:(Y.extract y1.length Y.size).size=Y.size-y1.length:=size_ext Y _ _ (Nat.le_refl _);obtain⟨X2,hX2⟩:∃ X2,X2=X.extract x1.length X.size:=⟨_,rfl⟩
       obtain⟨Y2,hY2⟩:∃ Y2,Y2=Y.extract y1.length Y.size:=⟨_,rfl⟩
       rw[<-hX2,<-hY2] at hS2 hlt;rw[<-hX2] at z2;rw[<-hY2] at z3;have hx2s:X2.size<=X.size:=by omega
       have hy2s:Y2.size<=Y.size:=by omega
       have HS2:=hid hS2;have HLT:=hid hlt;have HX2:=hid hX2;have HY2:=hid hY2;clear hS2 hd0 hlt hX2 hY2 z2 z3 HST HDF GX GY DX DY;go_wp2_with fail;rw[<-HX2.out,<-HY2.out];refine(part_any X2 true wr (by omega)).mono ?_;rintro e w1 ⟨rfl,hw1⟩;subst hw1;go_wp2_with fail;refine(part_any Y2 true wr (by omega)).mono ?_;rintro e w1 ⟨rfl,hw1⟩;subst hw1;rw[Z2.want_true];have hx3:=Z2.take_len Sp.isDig (bl X2);have hy3:=Z2.take_len Sp.isDig (bl Y2);rw[bl_len] at hx3 hy3;have tx:=Z2.take_while Sp.isDig (bl X2);have ty:=Z2.take_while Sp.isDig (bl Y2);have hnum:∀ W,Calls Tryz.prog 270 #[.string (X2.extract 0 ((bl X2).takeWhile Sp.isDig).length),.string (Y2.extract 0 ((bl Y2).takeWhile Sp.isDig).length)] W fun e w'=>e=.returned (.int .i64 (Sp.diffD ((bl X2).takeWhile Sp.isDig) ((bl Y2).takeWhile Sp.isDig)))/\W=w':=fun W=>by
        have:=numbers_any (X2.extract 0 ((bl X2).takeWhile Sp.isDig).length) (Y2.extract 0 ((bl Y2).takeWhile Sp.isDig).length) W (by rw[<-bl_len,bl_to,tx];have:=hx3;omega) (by rw[<-bl_len,bl_to,ty];have:=hy3;omega) (by rw[bl_to,tx];exact Z2.take_all _ _) (by rw[bl_to,ty];exact Z2.take_all _ _);rw[bl_to,bl_to,tx,ty] at this;exact this
       have dx:=Z2.drop_while Sp.isDig (bl X2);have dy:=Z2.drop_while Sp.isDig (bl Y2);have HNUM:=hid hnum;have DX2:=hid dx;have DY2:=hid dy;clear tx ty hnum dx dy;generalize (bl X2).takeWhile Sp.isDig=x3 at *;generalize (bl Y2).takeWhile Sp.isDig=y3 at *;go_wp2_with fail;go_quiet (first|(go_at_call 270;exact(HNUM.out _).mono fun e w' h=>⟨h.1,_,h.2.symm⟩));have hbq:=below_drawn wr nq;have HBQ:=hid (HBI.out.trans (hbq.mono hzi));obtain⟨d,hd⟩:∃ d,d=Sp.diffD x3 y3:=⟨_,rfl⟩
       have hs2:=HS2.out;rw[<-hd] at hs2 ⊢;have HS3:=hid hs2;clear hbq hs2 hd
       by_cases h0:d=0
       ·have hs3:=HS3.out
        rw[if_pos h0,<-DX2.out,<-DY2.out,<-bl_from,<-bl_from] at hs3;have hl:=HLT.out;rw[<-DX2.out,<-DY2.out,<-bl_from,<-bl_from,bl_len,bl_len] at hl;have z2:(X2.extract x3.length X2.size).size=X2.size-x3.length:=size_ext X2 _ _ (Nat.le_refl _);have z3:(Y2.extract y3.length Y2.size).size=Y2.size-y3.length:=size_ext Y2 _ _ (Nat.le_refl _);have HS4:=hid hs3;have HL:=hid hl;have Z3:=hid z2;have Z4:=hid z3;clear hs3 hl z2 z3 HS3;subst h0;go_wp2;go_roundw
        case rel=>exact⟨_,_,rfl,rfl,by rw[Z3.out];omega,by rw[Z4.out];omega,HS4.out.symm,HBL.out.trans (HBQ.out.mono hzo)⟩
        case measure=>exact HL.out
       ·have hs3:=HS3.out
        rw[if_neg h0] at hs3;have HS4:=hid hs3;have hob:(d != 0)=true:=by simpa using h0
        clear hs3 h0 HS3;go_wp2;go_ret;exact⟨ret_int HS4.out.symm,HBL.out.trans (HBQ.out.mono hzo)⟩
end
section
open Go.RowKit
namespace R2
def Far(s t:Sp.Str)(done:List Sp.Str)(f i:Nat):Prop:=
 f<=i/\i<=s.length/\done ++ Lib.split (s.drop f) t=Lib.split s t/\∀ j,j<i-f->Lib.occAt (s.drop f) t j=false
theorem far0(s t:Sp.Str):Far s t [] 0 0:=⟨Nat.le_refl _,Nat.zero_le _,rfl,fun _j h=>absurd h (Nat.not_lt_zero _)⟩
theorem far_hit{s t:Sp.Str}{done:List Sp.Str}{f i:Nat}(ht:t≠[])(h:Far s t done f i)(hi:i+t.length<=s.length)(ho:((s.drop i).take t.length == t)=true):
  Far s t (done ++ [(s.drop f).take (i-f)]) (i+t.length) (i+t.length):=by
 obtain⟨h1,h2,h3,h4⟩:=h;refine⟨Nat.le_refl _,hi,?_,fun _j hj=>by omega⟩;have ho':Lib.occAt (s.drop f) t (i-f)=true:=by
  rw[Sp.occ_drop,show f+(i-f)=i from by omega,Sp.occ_take _ _ _ hi];exact ho
 rw[<-h3,Sp.split_at (s.drop f) t ht (i-f) (by rw[List.length_drop];omega) ho' h4,List.drop_drop,show f+(i-f+t.length)=i+t.length from by omega];simp
theorem far_miss{s t:Sp.Str}{done:List Sp.Str}{f i:Nat}(h:Far s t done f i)(ht:t≠[])(hi:i+t.length<=s.length)(ho:((s.drop i).take t.length == t)=false):
  Far s t done f (i+1):=by
 obtain⟨h1,h2,h3,h4⟩:=h;have hl:0<t.length:=List.length_pos_iff.2 ht;refine⟨by omega,by omega,h3,fun j hj=>?_⟩
 by_cases e:j=i-f
 ·subst e
  rw[Sp.occ_drop,show f+(i-f)=i from by omega,Sp.occ_take _ _ _ hi];exact ho
 ·exact h4 j (by omega)
theorem far_end{s t:Sp.Str}{done:List Sp.Str}{f i:Nat}(ht:t≠[])(h:Far s t done f i)(hi:s.length<i+t.length):Lib.split s t=done ++ [s.drop f]:=by
 obtain⟨h1,h2,h3,h4⟩:=h;rw[<-h3,Sp.split_end (s.drop f) t ht (i-f) (by rw[List.length_drop];omega) h4]
theorem far_len{s t:Sp.Str}{done:List Sp.Str}{f i:Nat}(ht:t≠[])(h:Far s t done f i):done.length<=s.length:=by
 have h3:=h.2.2.1;have h5:=Sp.split_length s t ht;have h6:0<(Lib.split (s.drop f) t).length:=List.length_pos_iff.2 (Sp.split_ne _ t ht);rw[<-h3,List.length_append] at h5;omega
end R2
theorem cutR_any(s t:ByteArray)(w:World)(hs:s.size<1099511627776)(ht:0<t.size)(ht2:t.size<1099511627776):
  Calls Tryz.prog 43 #[.string s,.string t] w fun e w'=>∃ v,e=.returned v/\w'.ownsRow w.heap.size 9 1 v (Lib.split (bl s) (bl t)).length ((Lib.split (bl s) (bl t)).map sv)/\Below w.heap.size w w':=by
 have htn:bl t≠[]:=by intro h;rw[<-bl_len,h] at ht;simp at ht
 have HT:=hid htn;clear htn;obtain⟨B,hB⟩:∃ B,w.heap.size=B:=⟨_,rfl⟩
 rw[hB];have HB:=hid hB;clear hB;go_enter Tryz.func43,Tryz.ntmps43;go_wp2
 go_loopw [5,6,7] (fun v f i wr=>∃ (done:List Sp.Str) (a b:Nat),f=.int .i64 a/\i=.int .i64 b/\R2.Far (bl s) (bl t) done a b/\wr.ownsRow B 9 1 v done.length (done.map sv)/\Below B w wr) (fun _ _ i _=>s.size+1-(intOf i).toNat)
 case atStart=>exact⟨[],0,0,rfl,rfl,R2.far0 _ _,World.ownsRow_nil _ _ _ _,Below.refl _ _⟩
 case round =>
  obtain⟨done,a,b,rfl,rfl,hfar,hown,hbel⟩:=hrel;have h1:a<=b:=hfar.1;have h2:b<=s.size:=by have:=hfar.2.1;rw[bl_len] at this;exact this
  have h3:done.length<=s.size:=by have:=R2.far_len HT.out hfar;rw[bl_len] at this;exact this
  have HF:=hid hfar;clear hfar;have hB':B<=wr.heap.size:=by have:=hbel.size;rw[HB.out] at this;exact this
  by_cases h:b+t.size<=s.size
  ·go_wp2_with (at_builtin;refine wp_app app38 wr [.string (s.extract a b)] rfl (by simp[Value.oneCell']) rfl _ _ rfl B _ _ _ rfl hown rfl (by omega) hB' ?_;intro v' w1 hown' hgrow _)
   ·have hc:((s.extract b (b+t.size)).toList == t.toList)=true:=by assumption
    rw[eqs_bl,bl_ext,show b+t.size-b=(bl t).length from by rw[bl_len];omega] at hc;have hb1:=below_of_grown hbel hB' hown hgrow;go_roundw
    case rel =>
     have hf:=R2.far_hit HT.out HF.out (by rw[bl_len,bl_len];exact h) hc;rw[bl_len] at hf;have e:[Value.string (s.extract a b)]=[sv ((List.drop a (bl s)).take (b-a))]:=by rw[<-bl_ext];unfold sv;rw[mk_bl]
     rw[e] at hown';exact⟨_,b+t.size,b+t.size,by go_num,by go_num,hf,by simpa using hown',hb1⟩
    case measure=>simp[intOf];omega
   ·have hc:((s.extract b (b+t.size)).toList == t.toList)=false:=by assumption
    rw[eqs_bl,bl_ext,show b+t.size-b=(bl t).length from by rw[bl_len];omega] at hc;go_roundw
    case rel=>exact⟨done,a,b+1,rfl,by go_num,R2.far_miss HF.out HT.out (by rw[bl_len,bl_len];exact h) hc,hown,hbel⟩
    case measure=>simp[intOf];omega
  ·go_wp2_with (at_builtin;refine wp_app app38 wr [.string (s.extract a s.size)] rfl (by simp[Value.oneCell']) rfl _ _ rfl B _ _ _ rfl hown rfl (by omega) hB' ?_;intro v' w1 hown' hgrow _)
   have hb1:=below_of_grown hbel hB' hown hgrow;have e:[Value.string (s.extract a s.size)]=[sv (List.drop a (bl s))]:=by rw[<-bl_from];unfold sv;rw[mk_bl]
   rw[e] at hown';have hend:=R2.far_end HT.out HF.out (by rw[bl_len,bl_len];omega);go_ret;exact⟨v',rfl,by rw[hend];simpa using hown',hb1⟩
end
section
open Go.RowKit
namespace R3
theorem strs1{w:World}{v:Value}{x0:Sp.Str}{r:List Sp.Str}(h:StrsAt w v (x0 :: r)):∃ b off cap,v=.slice (some ⟨b,off,none⟩) (r.length+1) cap/\r.length+1<=cap/\b<w.heap.size/\w.cell? ⟨b,off,none⟩=some (.string ⟨x0.toArray⟩):=by
 obtain⟨a,cap,rfl,hcap,hget⟩:=h.get;obtain⟨b,off,rfl,hb,hc⟩:=hget 0 (by simp);exact⟨b,off,cap,rfl,hcap,hb,hc⟩
theorem strs3{w:World}{v:Value}{x0 x1 x2:Sp.Str}(h:StrsAt w v [x0,x1,x2]):∃ b off cap,v=.slice (some ⟨b,off,none⟩) 3 cap/\3<=cap/\b<w.heap.size/\w.cell? ⟨b,off,none⟩=some (.string ⟨x0.toArray⟩)/\w.cell? ⟨b,off+1,none⟩=some (.string ⟨x1.toArray⟩)/\w.cell? ⟨b,off+2,none⟩=some (.string ⟨x2.toArray⟩):=by
 obtain⟨a,cap,rfl,hcap,hget⟩:=h.get;obtain⟨b,off,rfl,hb,hc⟩:=hget 0 (by simp);obtain⟨b1,off1,e1,_,hc1⟩:=hget 1 (by simp);obtain⟨b2,off2,e2,_,hc2⟩:=hget 2 (by simp)
 cases e1;cases e2
 exact⟨b,off,cap,rfl,hcap,hb,hc,hc1,hc2⟩
theorem last_eq(x:Sp.Str):(({ data:=List.toArray x }:ByteArray).extract (List.length x-1) (List.length x)).toList=x.drop (x.length-1):=by
 rw[toList_bl,bl_ext,bl_mk];exact List.take_of_length_le (by rw[List.length_drop];omega)
theorem ext_tail(x:Sp.Str):({ data:=List.toArray x }:ByteArray).extract 1 (List.length x)=⟨(x.drop 1).toArray⟩:=
 bl_inj (by rw[bl_ext,bl_mk,bl_mk];exact List.take_of_length_le (by rw[List.length_drop];omega))
theorem ext_init(x:Sp.Str)(n:Nat):({ data:=List.toArray x }:ByteArray).extract 0 n=⟨(x.take n).toArray⟩:=
 bl_inj (by rw[bl_to,bl_mk,bl_mk])
end R3
def ChoiceR(s:Sp.Str)(w:World)(e:Ending)(w':World):Prop:=
 Below w.heap.size w w'/\∃ (c:Sp.Ch) (ok:Bool),e=.returned (.tuple #[.agg #[sv c.name,sv c.sign,sv c.ver],.bool ok])/\Sp.choose s=if ok then some c else none
theorem choice_one(s:ByteArray)(w:World)(hs:s.size<1000000)(x0:Sp.Str)(hP:Lib.split (bl s) [32]=[x0]):
  Calls Tryz.prog 119 #[.string s] w (ChoiceR (bl s) w):=by
 have h0:x0.length<=s.size:=by rw[<-bl_len];exact Sp.split_mem (bl s) [32] x0 (by simp) (by rw[hP];simp)
 have hx:x0=bl s:=by
  rcases T1.byte1 32 (bl s) with⟨_,h2,_⟩|⟨a,r,_,_,h2,_⟩
  ·rw[hP] at h2;exact(List.cons.inj h2).1
  ·rw[hP] at h2;exact absurd (List.cons.inj h2).2.symm (Sp.split_ne _ _ (by simp))
 have hc:Sp.choose (bl s)=if Sp.isName x0 then some ⟨x0,[],[]⟩ else none:=by
  rw[<-T1.choice_eq];unfold T1.choiceR;rw[hP,hx]
 have HP:=hid hP;have HC:=hid hc;have HX:=hid hx;clear hP hc hx;go_enter Tryz.func119,Tryz.ntmps119;go_wp2_with fail;refine(cutR_any s _ _ (by omega) (by decide) (by decide)).mono ?_;rintro e w1 ⟨v,rfl,hown,hb⟩;rw[show bl ⟨#[32]⟩=[32] from rfl,HP.out] at hown;obtain⟨b,off,cap,rfl,hcap,hbb,c0⟩:=R3.strs1 (StrsAt.of_row hown);simp only[List.length_nil,Nat.zero_add] at hcap;simp only[List.length_nil,Nat.zero_add];clear hown;obtain⟨hc,hf⟩:=bcell hb;have hz:w.heap.size<w1.heap.size:=by have:=hb.size;simp at this;omega
 go_wp2_with fail;refine(isName_any _ _ (by rw[<-bl_len,bl_mk];omega)).mono ?_;rintro e w2 ⟨rfl,rfl⟩;rw[bl_mk];go_wp2;refine bodyPost_ret (v:=.tuple #[.agg #[.string s,.string ⟨#[]⟩,.string ⟨#[]⟩],.bool (Sp.isName x0)]) (by simp[results,Tryz.results119,go_sem,hc]) rfl ?_;refine⟨?_,⟨bl s,[],[]⟩,Sp.isName x0,?_,?_⟩
 ·have hb1:Below w.heap.size w w1:=Below.trans ((Below.refl _ _).alloc (Nat.le_refl _) _) (hb.mono (by simp))
  repeat' (first|assumption|refine Below.setCell ?_ (by simp) _|refine Below.alloc ?_ (by simp;omega) _)
 ·unfold sv;rw[mk_bl]
 ·rw[HC.out,HX.out]
theorem choice_few(s:ByteArray)(w:World)(hs:s.size<1000000)(x0:Sp.Str)(r:List Sp.Str)(hP:Lib.split (bl s) [32]=x0 :: r)(hr:¬r.length=0)(hr2:¬r.length=2):
  Calls Tryz.prog 119 #[.string s] w (ChoiceR (bl s) w):=by
 have h0:x0.length<=s.size:=by rw[<-bl_len];exact Sp.split_mem (bl s) [32] x0 (by simp) (by rw[hP];simp)
 have hc:Sp.choose (bl s)=none:=by
  rw[<-T1.choice_eq];unfold T1.choiceR;rw[hP]
  match r,hr,hr2 with
  | [],h,_=>exact absurd rfl h
  | [_],_,_=>rfl
  | [_,_],_,h=>exact absurd rfl h
  | _ :: _ :: _ :: _,_,_=>rfl
 have HP:=hid hP;have HC:=hid hc;clear hP hc;go_enter Tryz.func119,Tryz.ntmps119;go_wp2_with fail;refine(cutR_any s _ _ (by omega) (by decide) (by decide)).mono ?_;rintro e w1 ⟨v,rfl,hown,hb⟩;rw[show bl ⟨#[32]⟩=[32] from rfl,HP.out] at hown;obtain⟨b,off,cap,rfl,hcap,hbb,c0⟩:=R3.strs1 (StrsAt.of_row hown);obtain⟨n,hn⟩:∃ n,n=r.length+1:=⟨_,rfl⟩
 rw[<-hn] at hcap ⊢;have hn1:¬n=1:=by omega
 have hn3:¬n=3:=by omega
 have hn0:0<n:=by omega
 clear hown hn hr hr2;obtain⟨hc,hf⟩:=bcell hb;have hz:w.heap.size<w1.heap.size:=by have:=hb.size;simp at this;omega
 go_wp2_with fail;refine(isName_any _ _ (by rw[<-bl_len,bl_mk];omega)).mono ?_;rintro e w2 ⟨rfl,rfl⟩;rw[bl_mk];go_wp2;refine bodyPost_ret (v:=.tuple #[.agg #[.string ⟨#[]⟩,.string ⟨#[]⟩,.string ⟨#[]⟩],.bool false]) (by simp[results,Tryz.results119,go_sem,hc]) rfl ?_;refine⟨?_,⟨[],[],[]⟩,false,rfl,HC.out⟩;have hb1:Below w.heap.size w w1:=Below.trans ((Below.refl _ _).alloc (Nat.le_refl _) _) (hb.mono (by simp))
 repeat' (first|assumption|refine Below.setCell ?_ (by simp) _|refine Below.alloc ?_ (by simp;omega) _)
end
section
open Go.RowKit
theorem choice_three(s:ByteArray)(w:World)(hs:s.size<1000000)(x0 x1 x2:Sp.Str)(hP:Lib.split (bl s) [32]=[x0,x1,x2]):
  Calls Tryz.prog 119 #[.string s] w (ChoiceR (bl s) w):=by
 have h0:x0.length<=s.size:=by rw[<-bl_len];exact Sp.split_mem (bl s) [32] x0 (by simp) (by rw[hP];simp)
 have h2:x2.length<=s.size:=by rw[<-bl_len];exact Sp.split_mem (bl s) [32] x2 (by simp) (by rw[hP];simp)
 have h1:x1.length<=s.size:=by rw[<-bl_len];exact Sp.split_mem (bl s) [32] x1 (by simp) (by rw[hP];simp)
 have hc:Sp.choose (bl s)=if Sp.isName x0 && !x2.isEmpty && Sp.isVer (x2.take (x2.length-1)) && T1.sgn x1 && (x2.drop (x2.length-1) == [41]) then some ⟨x0,x1.drop 1,x2.take (x2.length-1)⟩ else none:=by
  rw[<-T1.choice_eq];unfold T1.choiceR;rw[hP]
 have HP:=hid hP;have HC:=hid hc;clear hP hc;go_enter Tryz.func119,Tryz.ntmps119;go_wp2_with fail;refine(cutR_any s _ _ (by omega) (by decide) (by decide)).mono ?_;rintro e w1 ⟨v,rfl,hown,hb⟩;rw[show bl ⟨#[32]⟩=[32] from rfl,HP.out] at hown;obtain⟨b,off,cap,rfl,hcap,hbb,c0,c1,c2⟩:=R3.strs3 (StrsAt.of_row hown);clear hown;obtain⟨hc,hf⟩:=bcell hb;have hz:w.heap.size<w1.heap.size:=by have:=hb.size;simp at this;omega
 have hb1:Below w.heap.size w w1:=Below.trans ((Below.refl _ _).alloc (Nat.le_refl _) _) (hb.mono (by simp));go_wp2_with fail;refine(isName_any _ _ (by rw[<-bl_len,bl_mk];omega)).mono ?_;rintro e w2 ⟨rfl,rfl⟩;rw[bl_mk]
 cases hn:Sp.isName x0 with
 | false =>
  have HN:=hid hn;clear hn;go_wp2;refine bodyPost_ret (v:=.tuple #[.agg #[.string ⟨#[]⟩,.string ⟨#[]⟩,.string ⟨#[]⟩],.bool false]) (by simp[results,Tryz.results119,go_sem,hc]) rfl ?_;refine⟨?_,⟨[],[],[]⟩,false,rfl,by rw[HC.out,HN.out];rfl⟩
  repeat' (first|assumption|refine Below.setCell ?_ (by simp) _|refine Below.alloc ?_ (by simp;omega) _)
 | true =>
  have HN:=hid hn;clear hn
  by_cases hl:x2.length=0
  ·have HL:=hid hl
   go_wp2;refine bodyPost_ret (v:=.tuple #[.agg #[.string ⟨#[]⟩,.string ⟨#[]⟩,.string ⟨#[]⟩],.bool false]) (by simp[results,Tryz.results119,go_sem,hc]) rfl ?_;refine⟨?_,⟨[],[],[]⟩,false,rfl,by rw[HC.out,List.length_eq_zero_iff.1 HL.out];simp⟩
   repeat' (first|assumption|refine Below.setCell ?_ (by simp) _|refine Below.alloc ?_ (by simp;omega) _)
  ·have hl':0<x2.length:=by omega
   have HL:Hid (x2.isEmpty=false):=hid (by cases x2 with
    | nil=>exact absurd rfl hl
    | cons _ _=>rfl)
   go_wp2_with fail;refine(isVer_any _ _ (by rw[<-bl_len,bl_to,bl_mk];simp;omega)).mono ?_;rintro e w2 ⟨rfl,rfl⟩;rw[bl_to,bl_mk]
   cases hv:Sp.isVer (x2.take (x2.length-1)) with
   | false =>
    have HV:=hid hv;clear hv;go_wp2
    all_goals
     refine bodyPost_ret (v:=.tuple #[.agg #[.string ⟨#[]⟩,.string ⟨#[]⟩,.string ⟨#[]⟩],.bool false]) (by simp[results,Tryz.results119,go_sem,hc]) rfl ?_;refine⟨?_,⟨[],[],[]⟩,false,rfl,by rw[HC.out,HV.out];simp⟩
     repeat' (first|assumption|refine Below.setCell ?_ (by simp) _|refine Below.alloc ?_ (by simp;omega) _)
   | true =>
    have HV:=hid hv;clear hv
    cases hsg:T1.sgn x1 with
    | false =>
     have HS:=hid hsg;have hs5:(x1 == [40,60,60])=false/\(x1 == [40,60,61])=false/\(x1 == [40,61])=false/\(x1 == [40,62,61])=false/\(x1 == [40,62,62])=false:=by
      unfold T1.sgn at hsg;simp only[Bool.or_eq_false_iff] at hsg;exact⟨hsg.1.1.1.1,hsg.1.1.1.2,hsg.1.1.2,hsg.1.2,hsg.2⟩
     obtain⟨s1,s2,s3,s4,s5⟩:=hs5;clear hsg;go_wp2;refine bodyPost_ret (v:=.tuple #[.agg #[.string ⟨#[]⟩,.string ⟨#[]⟩,.string ⟨#[]⟩],.bool false]) (by simp[results,Tryz.results119,go_sem,hc]) rfl ?_;refine⟨?_,⟨[],[],[]⟩,false,rfl,by rw[HC.out,HS.out];simp⟩
     repeat' (first|assumption|refine Below.setCell ?_ (by simp) _|refine Below.alloc ?_ (by simp;omega) _)
    | true =>
     have HS:=hid hsg;have hs5:(x1 == [40,60,60])=true\/((x1 == [40,60,60])=false/\(x1 == [40,60,61])=true)\/((x1 == [40,60,60])=false/\(x1 == [40,60,61])=false/\(x1 == [40,61])=true) \/
       ((x1 == [40,60,60])=false/\(x1 == [40,60,61])=false/\(x1 == [40,61])=false/\(x1 == [40,62,61])=true)\/((x1 == [40,60,60])=false/\(x1 == [40,60,61])=false/\(x1 == [40,61])=false/\(x1 == [40,62,61])=false/\(x1 == [40,62,62])=true):=by
      unfold T1.sgn at hsg
      revert hsg
      cases (x1 == [40,60,60]) <;> cases (x1 == [40,60,61]) <;> cases (x1 == [40,61]) <;> cases (x1 == [40,62,61]) <;> cases (x1 == [40,62,62]) <;> simp
     have hlx:1<=x1.length:=by
      cases x1 with
      | nil=>simp[T1.sgn] at hsg
      | cons _ _=>simp
     clear hsg
     rcases hs5 with s1|⟨s1,s2⟩|⟨s1,s2,s3⟩|⟨s1,s2,s3,s4⟩|⟨s1,s2,s3,s4,s5⟩
     all_goals
      go_wp2
      ·have hla:(!(({ data:=List.toArray x2 }:ByteArray).extract (List.length x2-1) (List.length x2)).toList == [41])=true:=by assumption
       rw[R3.last_eq] at hla;refine bodyPost_ret (v:=.tuple #[.agg #[.string ⟨#[]⟩,.string ⟨#[]⟩,.string ⟨#[]⟩],.bool false]) (by simp[results,Tryz.results119,go_sem,hc]) rfl ?_;refine⟨?_,⟨[],[],[]⟩,false,rfl,by rw[HC.out,show(x2.drop (x2.length-1) == [41])=false from by simpa using hla];simp⟩
       repeat' (first|assumption|refine Below.setCell ?_ (by simp) _|refine Below.alloc ?_ (by simp;omega) _)
      ·have hla:(!(({ data:=List.toArray x2 }:ByteArray).extract (List.length x2-1) (List.length x2)).toList == [41])=false:=by assumption
       rw[R3.last_eq] at hla;have HLA:=hid hla;clear hla;go_region;go_wp2;refine bodyPost_ret (v:=.tuple #[.agg #[.string ⟨x0.toArray⟩,.string (({ data:=List.toArray x1 }:ByteArray).extract 1 x1.length),.string (({ data:=List.toArray x2 }:ByteArray).extract 0 (x2.length-1))],.bool true]) (by simp[results,Tryz.results119,go_sem,hc]) rfl ?_;refine⟨?_,⟨x0,x1.drop 1,x2.take (x2.length-1)⟩,true,by rw[R3.ext_tail,R3.ext_init];rfl,by rw[HC.out,HN.out,HL.out,HV.out,HS.out,show(x2.drop (x2.length-1) == [41])=true from by simpa using HLA.out];rfl⟩;refine Below.drew ?_
       repeat' (first|assumption|refine Below.setCell ?_ (by simp) _|refine Below.alloc ?_ (by simp;omega) _)
theorem choice_any(s:ByteArray)(w:World)(hs:s.size<1000000):Calls Tryz.prog 119 #[.string s] w (ChoiceR (bl s) w):=by
 match hP:Lib.split (bl s) [32] with
 | []=>exact absurd hP (Sp.split_ne _ _ (by simp))
 | [x0]=>exact choice_one s w hs x0 hP
 | [x0,x1]=>exact choice_few s w hs x0 [x1] hP (by simp) (by simp)
 | [x0,x1,x2]=>exact choice_three s w hs x0 x1 x2 hP
 | x0 :: x1 :: x2 :: x3 :: r=>exact choice_few s w hs x0 (x1 :: x2 :: x3 :: r) hP (by simp) (by simp)
end
section
open Go.RowKit
theorem info135:(Tryz.prog.info? 135).map (fun i=>(i.zero,i.size,i.bytes))=some (some (.agg #[.string ⟨#[]⟩,.string ⟨#[]⟩,.string ⟨#[]⟩]),3,48):=by kernel_rfl
theorem app27:AppTy 27 135 3 48:=AppTy.of Tryz.underlying27 info135 rfl (by decide) (by decide)
def ChoicesR(s sep:Sp.Str)(most:Nat)(w:World)(e:Ending)(w':World):Prop:=
 Below w.heap.size w w'/\∃ (l:List Sp.Ch) (v:Value) (ok:Bool),e=.returned (.tuple #[v,.bool ok])/\Sp.each s sep most Sp.choose=(if ok then some l else none)/\w'.ownsRow w.heap.size 135 3 v l.length (chRow l)
theorem choices_any(s sep:ByteArray)(most:Nat)(w:World)(hs:s.size<1000000)(h0:0<sep.size)(hsep:sep.size<1000):
  Calls Tryz.prog 70 #[.string s,.string sep,.int .i64 most] w (ChoicesR (bl s) (bl sep) most w):=by
 have htn:bl sep≠[]:=by intro h;rw[<-bl_len,h] at h0;simp at h0
 have hpl:=Sp.split_length (bl s) (bl sep) htn;rw[bl_len] at hpl;have hpm:∀ x∈Lib.split (bl s) (bl sep),x.length<1000000:=fun x hx=>by
  have:=Sp.split_mem (bl s) (bl sep) x htn hx;rw[bl_len] at this;omega
 have HPM:=hid hpm;clear htn hpm;obtain⟨B,hB⟩:∃ B,w.heap.size=B:=⟨_,rfl⟩
 have HB:=hid hB;go_enter Tryz.func70,Tryz.ntmps70;go_wp2_with fail;refine(cutR_any s sep w (by omega) h0 (by omega)).mono ?_;rintro e w1 ⟨v,rfl,hown,hb⟩;have hv:=StrsAt.of_row hown;generalize hL:Lib.split (bl s) (bl sep)=L at *;obtain⟨a,cap,rfl,hcap,hget⟩:=hv.get;have HL:=hid hL.symm;have HG:=hid hget;clear hL hv hget hown;rw[hB] at hb;clear hB;have hBw:B<=w1.heap.size:=by have:=hb.size;rw[HB.out] at this;exact this
 go_wp2
 go_loopw [9,10,11,12] (fun v i _ _ wr=>∃ (k:Nat) (done:List Sp.Ch),k<=L.length/\i=.int .i64 k/\Sp.mapO Sp.choose (L.take k)=some done/\wr.ownsRow w1.heap.size 135 3 v done.length (chRow done)/\Below w1.heap.size w1 wr) (fun _ i _ _ _=>L.length-(intOf i).toNat)
 case atStart=>exact⟨0,[],Nat.zero_le _,rfl,rfl,World.ownsRow_nil _ _ _ _,Below.refl _ _⟩
 case round =>
  obtain⟨k,done,hk,rfl,hdone,hown,hbel⟩:=hrel;have hlen:=W3.mapO_len _ _ _ hdone;rw[List.length_take,Nat.min_eq_left hk] at hlen;have HD:=hid hdone;have hn:done.length<=1000000:=by omega
  have HLEN:=hid hlen;have hbw:Below B w wr:=hb.trans (hbel.mono hBw);have hw1:w1.heap.size<=wr.heap.size:=hbel.size;have hbw0:B<=wr.heap.size:=by omega
  clear hdone hlen
  by_cases h:k<L.length
  ·obtain⟨b,off,rfl,hbb,hcell⟩:=HG.out k h
   have hcell':=(hbel.cell (p:=⟨b,off+k,none⟩) hbb).trans hcell;have hpiece:(⟨L[k].toArray⟩:ByteArray).size<1000000:=by
    have:=HPM.out L[k] (List.getElem_mem h);rw[<-bl_len,bl_mk];omega
   clear hcell HG;go_wp2_with fail;refine(choice_any ⟨L[k].toArray⟩ wr hpiece).mono ?_;rintro e w2 ⟨hb2,c,ok,rfl,hch⟩;rw[bl_mk] at hch;have HCH:=hid hch;have hown2:=W3.row_keep hown hb2;have hbel2:=hbel.trans (hb2.mono hw1);have hs2:=hb2.size;clear hch;unfold sv
   cases ok with
   | false =>
    go_wp2
    go_ret2
    refine⟨?_,[],_,false,rfl,W3.each_stop HL.out (W3.mapO_stop _ L[k] L (List.getElem_mem h) HCH.out),World.ownsRow_nil _ _ _ _⟩;rw[HB.out];have hb3:=hbw.trans (hb2.mono hbw0);exact hb3.alloc (by omega) _
   | true =>
    go_wp2_with (at_builtin;refine wp_app app27 (w2.alloc (Obj.cells #[Value.string ⟨c.name.toArray⟩,Value.string ⟨c.sign.toArray⟩,Value.string ⟨c.ver.toArray⟩] 135)) [.string ⟨c.name.toArray⟩,.string ⟨c.sign.toArray⟩,.string ⟨c.ver.toArray⟩] rfl (by simp[Value.oneCell']) rfl _ _ rfl w1.heap.size _ _ _ rfl (hown2.alloc _) (by rw[World.size_alloc];rfl) (by omega) (by simp;omega) ?_;intro v' w3 hown' hgrow _);have hbel3:=below_of_grown (hbel2.alloc hbel2.size _) (by simp;omega) (hown2.alloc _) hgrow;have e:[Value.string ⟨c.name.toArray⟩,.string ⟨c.sign.toArray⟩,.string ⟨c.ver.toArray⟩]=[sv c.name,sv c.sign,sv c.ver]:=rfl;rw[e,chRow_snoc] at hown';go_roundw
    case rel=>exact⟨k+1,done ++ [c],h,by go_num,W3.mapO_next h HD.out HCH.out,by simpa using hown',hbel3⟩
    case measure=>simp[intOf];omega
  ·obtain rfl:k=L.length:=by omega
   have hdone':Sp.mapO Sp.choose L=some done:=by have:=HD.out;rwa [List.take_length] at this
   have hln:(done.length:Int)=L.length:=by have:=HLEN.out;omega
   have HD':=hid hdone';have HLN:=hid hln;clear hdone' hln HG;obtain⟨ra,rc,rfl⟩:=W3.row_slice hown
   by_cases hmo:done.length<=most
   ·go_wp2
    go_ret2
    exact⟨by rw[HB.out];exact hbw,done,_,true,rfl,by rw[W3.each_of HL.out HD'.out,if_pos hmo];rfl,W3.row_base hown (by rw[HB.out];exact hBw)⟩
   ·go_wp2
    go_ret2
    exact⟨by rw[HB.out];exact hbw,done,_,false,rfl,by rw[W3.each_of HL.out HD'.out,if_neg hmo];rfl,W3.row_base hown (by rw[HB.out];exact hBw)⟩
end
end Go.Proofs.YtfphcecjhdkcoaaGreatDoor

/-
Walks of the reference's Lacking and Barring.
-/
import Derived.Test.YtfphcecjhdkcoaaGreatDoorScrP02
import Derived.Test.YtfphcecjhdkcoaaGreatDoorScrP07
import Derived.Test.YtfphcecjhdkcoaaGreatDoorScrP17
import Derived.BigQuiet
import Derived.Deep.DeepCutAuto
set_option maxRecDepth 100000
set_option maxHeartbeats 8000000
namespace Go.Proofs.YtfphcecjhdkcoaaGreatDoor
open Go.Lib (hid)
section
open Go.RowKit
namespace R6
theorem pathS_arr:bl ⟨#[97,98,99,100,101,102,103,104,105,106,107,108,109,110,111,112,113,114,115,116,117,118,119,120,121,122,48,49,50,51,52,53,54,55,56,57,46,95]⟩=Sp.pathS:=rfl
theorem all_next{L:List Sp.Str}{f:Sp.Str->Bool}{k:Nat}(h:k<L.length)(ha:(L.take k).all f=true)(hk:f L[k]=true):(L.take (k+1)).all f=true:=by
 rw[List.take_succ_eq_append_getElem h,List.all_append,ha];simp[hk]
theorem all_stop{L:List Sp.Str}{f:Sp.Str->Bool}{k:Nat}(h:k<L.length)(hk:f L[k]=false):L.all f=false:=by
 rw[Bool.eq_false_iff];intro ha;rw[List.all_eq_true] at ha;rw[ha L[k] (List.getElem_mem h)] at hk;cases hk
theorem path_stop{s:Sp.Str}{L:List Sp.Str}(hL:L=Lib.split s [47]){k:Nat}(h:k<L.length)(hk:Sp.isPart L[k]=false):Sp.isPath s=false:=by
 unfold Sp.isPath;rw[<-hL,all_stop h hk];rfl
end R6
theorem isPath_any(s:ByteArray)(w:World)(hs:s.size<1000000):
  Calls Tryz.prog 120 #[.string s] w fun e w'=>e=.returned (.bool (Sp.isPath (bl s)))/\Below w.heap.size w w':=by
 have hpl:=Sp.split_length (bl s) [47] (by simp);rw[bl_len] at hpl;have hpm:∀ x∈Lib.split (bl s) [47],x.length<1000000:=fun x hx=>by
  have:=Sp.split_mem (bl s) [47] x (by simp) hx;rw[bl_len] at this;omega
 have HPM:=hid hpm;clear hpm;go_enter Tryz.func120,Tryz.ntmps120;go_wp2_with fail;refine(cutR_any s _ w (by omega) (by decide) (by decide)).mono ?_;rintro e w1 ⟨v,rfl,hown,hb⟩;rw[show bl ⟨#[47]⟩=[47] from rfl] at hown;have hv:=StrsAt.of_row hown;generalize hL:Lib.split (bl s) [47]=L at *;obtain⟨a,cap,rfl,hcap,hget⟩:=hv.get;have HL:=hid hL.symm;have HG:=hid hget;clear hL hv hget hown;go_wp2
 go_loop [4,5] (fun i _=>∃ k:Nat,k<=L.length/\i=.int .i64 k/\(L.take k).all Sp.isPart=true) (fun i _=>L.length-(intOf i).toNat)
 case atStart=>exact⟨0,Nat.zero_le _,rfl,rfl⟩
 case round =>
  obtain⟨k,hk,rfl,hall⟩:=hrel;have HA:=hid hall;clear hall
  by_cases h:k<L.length
  ·obtain⟨b,off,rfl,hbb,hcell⟩:=HG.out k h
   have hpiece:(⟨L[k].toArray⟩:ByteArray).size<1000000:=by
    have:=HPM.out L[k] (List.getElem_mem h);rw[<-bl_len,bl_mk];omega
   clear HG;go_wp2_with fail;refine(made_any ⟨L[k].toArray⟩ _ 1 8 w1 (by omega) (by decide) (by decide) (by decide)).mono ?_;rintro e w2 ⟨rfl,rfl⟩;rw[R6.pathS_arr,bl_mk]
   cases hm:Sp.among L[k] Sp.pathS 1 8 with
   | false =>
    have HM:=hid hm;clear hm;go_wp2;go_ret;exact⟨ret_bool (R6.path_stop HL.out h (by unfold Sp.isPart;rw[HM.out];rfl)).symm,hb⟩
   | true =>
    have HM:=hid hm;clear hm
    cases h1:(L[k] == [46]) with
    | true =>
     go_wp2;go_ret;exact⟨ret_bool (R6.path_stop HL.out h (by unfold Sp.isPart;rw[bne,h1];simp)).symm,hb⟩
    | false =>
     cases h2:(L[k] == [46,46]) with
     | true =>
      go_wp2;go_ret;exact⟨ret_bool (R6.path_stop HL.out h (by unfold Sp.isPart;rw[bne,bne,h2];simp)).symm,hb⟩
     | false =>
      have hp:Sp.isPart L[k]=true:=by unfold Sp.isPart;rw[HM.out,bne,bne,h1,h2];rfl
      have HP:=hid hp;clear hp;go_wp2;go_round
      case rel=>exact⟨k+1,h,by go_num,R6.all_next h HA.out HP.out⟩
      case measure=>simp[intOf];omega
  ·obtain rfl:k=L.length:=by omega
   have hall:L.all Sp.isPart=true:=by have:=HA.out;rwa [List.take_length] at this
   have HA':=hid hall;clear hall HG;go_wp2;go_ret;exact⟨ret_bool (by unfold Sp.isPath;rw[<-HL.out,HA'.out,Bool.true_and,Bool.eq_iff_iff];simp;omega),hb⟩
def fileO(t:Sp.Str):Option Sp.Fl:=
 if (Lib.cut t [61]).2.2 && Sp.isPath (Lib.cut t [61]).1 && decide ((Lib.cut t [61]).2.1.length<=24) then some ⟨(Lib.cut t [61]).1,(Lib.cut t [61]).2.1⟩ else none
def FileR(s:Sp.Str)(w:World)(e:Ending)(w':World):Prop:=
 Below w.heap.size w w'/\∃ (f:Sp.Fl) (ok:Bool),e=.returned (.tuple #[.agg #[sv f.path,sv f.content],.bool ok])/\(fileO s=if ok then some f else none)/\f.path.length<=s.length
namespace R6
theorem at_ne{s:ByteArray}{a r:Sp.Str}(h:bl s=a ++ 61 :: r)(hn:(61:UInt8) ∉ a){k:Nat}(hk:k<a.length)(hks:k<s.size):((s[k].toNat:Int) != 61)=true:=by
 have e:s[k]=(bl s)[k]'(by rw[bl_len];exact hks):=rfl;have e2:(bl s)[k]'(by rw[bl_len];exact hks)=a[k]:=by simp only[h];rw[List.getElem_append_left hk]
 have:s[k]≠61:=by rw[e,e2];intro h';exact hn (h' ▸ List.getElem_mem hk)
 simp only[bne_iff_ne];intro h'
 apply this
 rw[<-UInt8.toNat_inj]
 show s[k].toNat=61
 omega
theorem at_eq{s:ByteArray}{a r:Sp.Str}(h:bl s=a ++ 61 :: r)(hks:a.length<s.size):((s[a.length].toNat:Int) != 61)=false:=by
 have e:s[a.length]=(bl s)[a.length]'(by rw[bl_len];exact hks):=rfl;have e2:(bl s)[a.length]'(by rw[bl_len];exact hks)=61:=by simp only[h];rw[List.getElem_append_right (Nat.le_refl _)];simp
 rw[e,e2];rfl
theorem at_none{s:ByteArray}(hn:(61:UInt8) ∉ bl s){k:Nat}(hks:k<s.size):((s[k].toNat:Int) != 61)=true:=by
 have e:s[k]=(bl s)[k]'(by rw[bl_len];exact hks):=rfl;have:s[k]≠61:=by rw[e];intro h';exact hn (h' ▸ List.getElem_mem _)
 simp only[bne_iff_ne];intro h'
 apply this
 rw[<-UInt8.toNat_inj]
 show s[k].toNat=61
 omega
end R6
theorem file_none(s:ByteArray)(w:World)(hs:s.size<1000000)(hn:(61:UInt8) ∉ bl s)(hc:Lib.cut (bl s) [61]=(bl s,[],false)):
  Calls Tryz.prog 71 #[.string s] w (FileR (bl s) w):=by
 have HN:=hid hn;have HC:=hid hc;clear hn hc;go_enter Tryz.func71,Tryz.ntmps71;go_wp2
 go_loop [4] (fun i=>∃ k:Nat,k<=s.size/\i=.int .i64 k) (fun i=>s.size-(intOf i).toNat)
 case atStart=>exact⟨0,Nat.zero_le _,rfl⟩
 case round =>
  obtain⟨k,hk,rfl⟩:=hrel
  by_cases h:k<s.size
  ·have hne:=R6.at_none HN.out h
   go_wp2;go_round
   case rel=>exact⟨k+1,h,by go_num⟩
   case measure=>simp[intOf];omega
  ·obtain rfl:k=s.size:=by omega
   go_wp2;refine bodyPost_ret (v:=.tuple #[.agg #[.string ⟨#[]⟩,.string ⟨#[]⟩],.bool false]) (by simp[results,Tryz.results71,go_sem]) rfl ?_;refine⟨?_,⟨[],[]⟩,false,rfl,by unfold fileO;rw[HC.out];rfl,Nat.zero_le _⟩;exact(Below.refl _ _).alloc (Nat.le_refl _) _
namespace R6
theorem ext_a{s:ByteArray}{a r:Sp.Str}(h:bl s=a ++ 61 :: r):s.extract 0 a.length=⟨a.toArray⟩:=bl_inj (by rw[bl_to,h,bl_mk];simp)
theorem ext_r{s:ByteArray}{a r:Sp.Str}(h:bl s=a ++ 61 :: r):s.extract (a.length+1) s.size=⟨r.toArray⟩:=bl_inj (by
 rw[bl_from,h,bl_mk];rw[show a ++ 61 :: r=(a ++ [61]) ++ r from by simp];rw[List.drop_left' (by simp)])
end R6
theorem file_some(s:ByteArray)(w:World)(hs:s.size<1000000)(a r:Sp.Str)(h:bl s=a ++ 61 :: r)(hn:(61:UInt8) ∉ a)(hc:Lib.cut (bl s) [61]=(a,r,true)):
  Calls Tryz.prog 71 #[.string s] w (FileR (bl s) w):=by
 have hsz:s.size=a.length+1+r.length:=by rw[<-bl_len,h];simp;omega
 have HSZ:=hid hsz;have hal:a.length<s.size:=by omega
 have H:=hid h;have HN:=hid hn;have HC:=hid hc;clear hn hc h hsz;go_enter Tryz.func71,Tryz.ntmps71;go_wp2
 go_loop [4] (fun i=>∃ k:Nat,k<=a.length/\i=.int .i64 k) (fun i=>a.length-(intOf i).toNat)
 case atStart=>exact⟨0,Nat.zero_le _,rfl⟩
 case round =>
  obtain⟨k,hk,rfl⟩:=hrel
  by_cases h:k<a.length
  ·have hks:k<s.size:=by omega
   have hne:=R6.at_ne H.out HN.out h hks;go_wp2;go_round
   case rel=>exact⟨k+1,h,by go_num⟩
   case measure=>simp[intOf];omega
  ·obtain rfl:k=a.length:=by omega
   have heq:=R6.at_eq H.out hal;go_wp2_with fail;rw[R6.ext_a H.out];refine(isPath_any _ _ (by rw[<-bl_len,bl_mk];omega)).mono ?_;rintro e w1 ⟨rfl,hb⟩;rw[bl_mk];obtain⟨hc,hf⟩:=bcell hb;have hz:w.heap.size<w1.heap.size:=by have:=hb.size;simp at this;omega
   have hb1:Below w.heap.size w w1:=Below.trans ((Below.refl _ _).alloc (Nat.le_refl _) _) (hb.mono (by simp))
   cases hp:Sp.isPath a with
   | false =>
    have HP:=hid hp;clear hp;go_wp2;go_region;go_wp2;refine bodyPost_ret (v:=.tuple #[.agg #[.string (s.extract 0 a.length),.string (s.extract (a.length+1) s.size)],.bool false]) (by simp[results,Tryz.results71,go_sem,hc]) rfl ?_;refine⟨?_,⟨a,r⟩,false,by rw[R6.ext_a H.out,R6.ext_r H.out];rfl,by unfold fileO;rw[HC.out];simp[HP.out],by rw[bl_len];exact Nat.le_of_lt hal⟩;refine Below.drew ?_
    repeat' (first|assumption|refine Below.setCell ?_ (by simp) _)
   | true =>
    have HP:=hid hp;clear hp;go_wp2;go_region;go_wp2;refine bodyPost_ret (v:=.tuple #[.agg #[.string (s.extract 0 a.length),.string (s.extract (a.length+1) s.size)],.bool (decide ((s.size:Int)-(a.length:Int)-1<=24))]) (by simp[results,Tryz.results71,go_sem,hc]) rfl ?_;have e:decide ((s.size:Int)-(a.length:Int)-1<=24)=decide (r.length<=24):=by
     have:=HSZ.out;rw[decide_eq_decide];omega
    refine⟨?_,⟨a,r⟩,decide (r.length<=24),by rw[R6.ext_a H.out,R6.ext_r H.out,e];rfl,by unfold fileO;rw[HC.out];simp[HP.out],by rw[bl_len];exact Nat.le_of_lt hal⟩;refine Below.drew ?_
    repeat' (first|assumption|refine Below.setCell ?_ (by simp) _)
theorem file_any(s:ByteArray)(w:World)(hs:s.size<1000000):Calls Tryz.prog 71 #[.string s] w (FileR (bl s) w):=by
 rcases T1.byte1 61 (bl s) with⟨h1,_,h3⟩|⟨a,r,h1,h2,_,h3⟩
 ·exact file_none s w hs h1 h3
 ·exact file_some s w hs a r h1 h2 h3
end
section
open Go.RowKit
def RPk(w:World)(m b:Nat)(p:Sp.Pk):Prop:=
 ∃ nv bv fv,m<=w.heap.size/\b<m/\w.cell? ⟨b,0,none⟩=some (sv p.name)/\w.cell? ⟨b,1,none⟩=some (sv p.ver)/\w.cell? ⟨b,2,none⟩=some nv/\w.cell? ⟨b,3,none⟩=some bv/\w.cell? ⟨b,4,none⟩=some fv /\
  GsOn (fun x=>x<m/\b<x) w nv p.needs/\ChOn (fun x=>x<m/\b<x) w bv p.bars/\w.ownsRow m 88 2 fv p.files.length (p.files.flatMap flCells) /\
  (p.needs=[]->nv=.slice none 0 0)/\(p.bars=[]->bv=.slice none 0 0)/\(p.files=[]->fv=.slice none 0 0)/\∀ o,w.frozen? ⟨b,o,none⟩=false
theorem RPk.below{w w':World}{m b:Nat}{p:Sp.Pk}(h:RPk w m b p)(hb:Below w.heap.size w w'):RPk w' m b p:=by
 obtain⟨nv,bv,fv,hm,hbm,h0,h1,h2,h3,h4,g0,g1,g2,n0,n1,n2,hz⟩:=h;have hc:=fun o=>(bcell hb).1 b o (by omega)
 exact⟨nv,bv,fv,Nat.le_trans hm hb.size,hbm,(hc 0).trans h0,(hc 1).trans h1,(hc 2).trans h2,(hc 3).trans h3,(hc 4).trans h4,g0.keep fun x hx=>hb.block x (by omega),SlOn.keep g1 fun x hx=>hb.block x (by omega),W3.row_keep g2 hb,n0,n1,n2,fun o=>((bcell hb).2 b o (by omega)).trans (hz o)⟩
theorem RPk.setName{w:World}{m b:Nat}{p:Sp.Pk}(h:RPk w m b p)(n:Sp.Str):RPk (w.setCell ⟨b,0,none⟩ (sv n)) m b { p with name:=n }:=by
 obtain⟨nv,bv,fv,hm,hbm,h0,h1,h2,h3,h4,g0,g1,g2,n0,n1,n2,hz⟩:=h;obtain⟨c1,c2,c3,c4,c5⟩:=set_facts w b 0 (sv n) _ h0 hz;exact⟨nv,bv,fv,by omega,hbm,c1,(c2 1 (by omega)).trans h1,(c2 2 (by omega)).trans h2,(c2 3 (by omega)).trans h3,(c2 4 (by omega)).trans h4,g0.keep fun x hx=>c3 x (by omega),SlOn.keep g1 fun x hx=>c3 x (by omega),
  row_block g2 fun k hk=>c3 k (by omega),n0,n1,n2,c4⟩
theorem RPk.setVer{w:World}{m b:Nat}{p:Sp.Pk}(h:RPk w m b p)(n:Sp.Str):RPk (w.setCell ⟨b,1,none⟩ (sv n)) m b { p with ver:=n }:=by
 obtain⟨nv,bv,fv,hm,hbm,h0,h1,h2,h3,h4,g0,g1,g2,n0,n1,n2,hz⟩:=h;obtain⟨c1,c2,c3,c4,c5⟩:=set_facts w b 1 (sv n) _ h1 hz;exact⟨nv,bv,fv,by omega,hbm,(c2 0 (by omega)).trans h0,c1,(c2 2 (by omega)).trans h2,(c2 3 (by omega)).trans h3,(c2 4 (by omega)).trans h4,g0.keep fun x hx=>c3 x (by omega),SlOn.keep g1 fun x hx=>c3 x (by omega),
  row_block g2 fun k hk=>c3 k (by omega),n0,n1,n2,c4⟩
theorem RPk.setBars{w:World}{m b:Nat}{p:Sp.Pk}(h:RPk w m b p)(hf:p.files=[]){v:Value}{cs:List Sp.Ch}(hg:ChOn (fun x=>x<w.heap.size/\b<x) w v cs)(hn:cs=[]->v=.slice none 0 0):
  RPk (w.setCell ⟨b,3,none⟩ v) w.heap.size b { p with bars:=cs }:=by
 obtain⟨nv,bv,fv,hm,hbm,h0,h1,h2,h3,h4,g0,g1,g2,n0,n1,n2,hz⟩:=h;obtain⟨c1,c2,c3,c4,c5⟩:=set_facts w b 3 v _ h3 hz;refine⟨nv,v,fv,by omega,by omega,(c2 0 (by omega)).trans h0,(c2 1 (by omega)).trans h1,(c2 2 (by omega)).trans h2,c1,(c2 4 (by omega)).trans h4,(g0.mono fun x hx=>⟨by omega,hx.2⟩).keep fun x hx=>c3 x (by omega),SlOn.keep hg fun x hx=>c3 x (by omega),
  ?_,n0,hn,n2,c4⟩
 rw[hf,n2 hf];exact⟨rfl,.inl ⟨rfl,rfl⟩⟩
theorem RPk.lens{w:World}{m b:Nat}{p:Sp.Pk}(h:RPk w m b p):∃ na nc ba bc fa fc,b<w.heap.size/\w.cell? ⟨b,2,none⟩=some (.slice na p.needs.length nc)/\w.cell? ⟨b,3,none⟩=some (.slice ba p.bars.length bc)/\w.cell? ⟨b,4,none⟩=some (.slice fa p.files.length fc)/\∀ o,w.frozen? ⟨b,o,none⟩=false:=by
 obtain⟨nv,bv,fv,hm,hbm,h0,h1,h2,h3,h4,g0,g1,g2,n0,n1,n2,hz⟩:=h;obtain⟨na,nc,rfl,_⟩:=g0.get;obtain⟨ba,bc,rfl,_⟩:=g1.get;obtain⟨fa,fc,rfl⟩:=W3.row_slice g2;exact⟨na,nc,ba,bc,fa,fc,by omega,h2,h3,h4,hz⟩
def LineR(want:Option Sp.Pk)(m b:Nat)(w:World)(e:Ending)(w':World):Prop:=
 FrN m b w w'/\((e=.returned (.bool false)/\want=none)\/∃ p' m',e=.returned (.bool true)/\want=some p'/\m<=m'/\RPk w' m' b p')
theorem lineR_few(m b:Nat)(p:Sp.Pk)(s:ByteArray)(w:World)(hP:RPk w m b p)(hs:s.size<1000000)(x0:Sp.Str)(r:List Sp.Str)(hS:Lib.split (bl s) [32]=x0 :: r)(hr2:¬r.length=2):
  Calls Tryz.prog 44 #[.pointer (some ⟨b,0,none⟩),.int .i64 0,.string s] w (LineR (T2.firstR p (bl s)) m b w):=by
 have hc:T2.firstR p (bl s)=none:=by
  unfold T2.firstR;rw[hS]
  match r,hr2 with
  | [],_=>rfl
  | [_],_=>rfl
  | [_,_],h=>exact absurd rfl h
  | _ :: _ :: _ :: _,_=>rfl
 have HP:=hid hS;have HC:=hid hc;have hm:m<=w.heap.size:=by obtain⟨_,_,_,h,_⟩:=hP;exact h
 clear hS hc hP;go_enter Tryz.func44,Tryz.ntmps44;go_wp2_with fail;refine(cutR_any s _ _ (by omega) (by decide) (by decide)).mono ?_;rintro e w1 ⟨v,rfl,hown,hb⟩;rw[show bl ⟨#[32]⟩=[32] from rfl,HP.out] at hown;obtain⟨rb,off,cap,rfl,hcap,hbb,c0⟩:=R3.strs1 (StrsAt.of_row hown);obtain⟨n,hn⟩:∃ n,n=r.length+1:=⟨_,rfl⟩
 rw[<-hn] at hcap ⊢;have hn3:¬n=3:=by omega
 clear hown hn hr2;go_wp2;go_ret;exact⟨FrN.of_below hb hm,.inl ⟨rfl,HC.out⟩⟩
theorem lineR_three(m b:Nat)(p:Sp.Pk)(s:ByteArray)(w:World)(hP:RPk w m b p)(hs:s.size<1000000)(x0 x1 x2:Sp.Str)(hS:Lib.split (bl s) [32]=[x0,x1,x2]):
  Calls Tryz.prog 44 #[.pointer (some ⟨b,0,none⟩),.int .i64 0,.string s] w (LineR (T2.firstR p (bl s)) m b w):=by
 have h1:x1.length<=s.size:=by rw[<-bl_len];exact Sp.split_mem (bl s) [32] x1 (by simp) (by rw[hS];simp)
 have h2:x2.length<=s.size:=by rw[<-bl_len];exact Sp.split_mem (bl s) [32] x2 (by simp) (by rw[hS];simp)
 have hc:T2.firstR p (bl s)=if x0 == Sp.packageW && Sp.isName x1 && Sp.isVer x2 then some { p with name:=x1,ver:=x2 } else none:=by
  unfold T2.firstR;rw[hS]
 have HP:=hid hS;have HC:=hid hc;have hm:m<=w.heap.size:=by obtain⟨_,_,_,h,_⟩:=hP;exact h
 clear hS hc;go_enter Tryz.func44,Tryz.ntmps44;go_wp2_with fail;refine(cutR_any s _ _ (by omega) (by decide) (by decide)).mono ?_;rintro e w1 ⟨v,rfl,hown,hb⟩;rw[show bl ⟨#[32]⟩=[32] from rfl,HP.out] at hown;obtain⟨rb,off,cap,rfl,hcap,hbb,c0,c1,c2⟩:=R3.strs3 (StrsAt.of_row hown);have hrow:∃ g,w.heap.size<=rb/\g=rb:=by
  rcases hown.2 with⟨e,_⟩|⟨g,cap',cur,e,hg,_⟩
  ·cases e
  ·cases e;exact⟨_,hg,rfl⟩
 obtain⟨_,hrb,_⟩:=hrow;have hP1:=hP.below hb;clear hown hP
 cases hpk:(x0 == [112,97,99,107,97,103,101]) with
 | false =>
  go_wp2;go_ret;exact⟨FrN.of_below hb hm,.inl ⟨rfl,by rw[HC.out,show(x0 == Sp.packageW)=false from hpk];rfl⟩⟩
 | true =>
  have hfr:FrN m b w w1:=FrN.of_below hb hm;have hP2:=(hP1.setName x1).setVer x2;obtain⟨nv,bv,fv,hm1,hbm,k0,k1,_,_,_,_,_,_,_,_,_,hz⟩:=hP1;have z0:=hz 0;have z1:=hz 1;have hne:¬rb=b:=by omega
  have hne':¬b=rb:=by omega
  have HP2:=hid hP2;clear hP2;unfold sv at k0 k1;go_wp2_with fail;refine(isName_any _ _ (by rw[<-bl_len,bl_mk];omega)).mono ?_;rintro e w2 ⟨rfl,rfl⟩;rw[bl_mk];go_wp2_with fail;refine(isVer_any _ _ (by rw[<-bl_len,bl_mk];omega)).mono ?_;rintro e w2 ⟨rfl,rfl⟩;rw[bl_mk];have hfr2:FrN m b w ((w1.setCell ⟨b,0,none⟩ (sv x1)).setCell ⟨b,1,none⟩ (sv x2)):=hfr.trans ((FrN.set _ _ _ _ _).trans (FrN.set _ _ _ _ _))
  cases hn:Sp.isName x1 with
  | false =>
   have HN:=hid hn;clear hn;go_wp2;go_ret;exact⟨hfr2,.inl ⟨rfl,by rw[HC.out,HN.out];simp⟩⟩
  | true =>
   have HN:=hid hn;clear hn
   cases hv:Sp.isVer x2 with
   | false =>
    have HV:=hid hv;clear hv;go_wp2;go_ret;exact⟨hfr2,.inl ⟨rfl,by rw[HC.out,HV.out];simp⟩⟩
   | true =>
    have HV:=hid hv;clear hv;go_wp2;go_ret;exact⟨hfr2,.inr ⟨_,m,rfl,by rw[HC.out,HN.out,HV.out,show(x0 == Sp.packageW)=true from hpk];rfl,Nat.le_refl _,HP2.out⟩⟩
theorem lineR_first(m b:Nat)(p:Sp.Pk)(s:ByteArray)(w:World)(hP:RPk w m b p)(hs:s.size<1000000):
  Calls Tryz.prog 44 #[.pointer (some ⟨b,0,none⟩),.int .i64 0,.string s] w (LineR (T2.firstR p (bl s)) m b w):=by
 match hS:Lib.split (bl s) [32] with
 | []=>exact absurd hS (Sp.split_ne _ _ (by simp))
 | [x0]=>exact lineR_few m b p s w hP hs x0 [] hS (by simp)
 | [x0,x1]=>exact lineR_few m b p s w hP hs x0 [x1] hS (by simp)
 | [x0,x1,x2]=>exact lineR_three m b p s w hP hs x0 x1 x2 hS
 | x0 :: x1 :: x2 :: x3 :: r=>exact lineR_few m b p s w hP hs x0 (x1 :: x2 :: x3 :: r) hS (by simp)
end
section
open Go.RowKit
namespace R14
theorem join_snoc(xs:List Sp.Str)(x sep:Sp.Str):Lib.join (xs ++ [x]) sep=if xs.isEmpty then x else Lib.join xs sep ++ sep ++ x:=by
 cases xs with
 | nil=>rw[List.nil_append,Lib.join_one];rfl
 | cons a r =>
  rw[List.cons_append,Lib.join_cons,Lib.join_cons];have h:=Lib.joinTail_take_succ sep (r ++ [x]) r.length x (by simp);rw[List.take_of_length_le (by simp),List.take_left'  rfl] at h;rw[h];simp
def joined(cs:List Sp.Ch)(sep:Sp.Str)(k:Nat):Sp.Str:=Lib.join ((cs.take k).map Sp.printC) sep
theorem joined_next(cs:List Sp.Ch)(sep:Sp.Str)(k:Nat)(h:k<cs.length):joined cs sep (k+1)=(if k=0 then [] else joined cs sep k ++ sep) ++ Sp.printC cs[k]:=by
 unfold joined;rw[List.take_succ_eq_append_getElem h,List.map_append,List.map_cons,List.map_nil,join_snoc]
 by_cases hk:k=0
 ·subst hk;simp
 ·have:((cs.take k).map Sp.printC).isEmpty=false:=by
   rw[List.isEmpty_eq_false_iff];intro e;have:=congrArg List.length e;rw[List.length_map,List.length_take] at this;simp only[List.length_nil] at this;omega
  rw[this,if_neg hk];simp
theorem joined_len(cs:List Sp.Ch)(sep:Sp.Str)(k:Nat)(hn:cs.length<=3)(h:∀ c∈cs,ChOk c)(hs:sep.length<=10):(joined cs sep k).length<=3060:=by
 have:=W8.join_bound sep 1010 3 ((cs.take k).map Sp.printC) (fun x hx=>by obtain⟨c,hc,rfl⟩:=List.mem_map.1 hx;exact printC_len c (h c (List.mem_of_mem_take hc))) (by rw[List.length_map,List.length_take];omega);unfold joined;have h2:3*(1010+sep.length)<=3060:=by omega
 omega
theorem key(J n s v:Sp.Str):((((((J ++ n) ++ [32,40]) ++ s) ++ [32]) ++ v) ++ [41])=J ++ (n ++ [32,40] ++ s ++ [32] ++ v ++ [41]):=by simp
end R14
theorem printed_any(v:Value)(cs:List Sp.Ch)(sep:ByteArray)(w:World)(hv:ChOn (fun b=>b<w.heap.size) w v cs)(hn:cs.length<=3)(hcs:∀ c∈cs,ChOk c)(hs:sep.size<=10):
  Calls Tryz.prog 45 #[v,.string sep] w fun e w'=>e=.returned (sv (Lib.join (cs.map Sp.printC) (bl sep)))/\Below w.heap.size w w':=by
 obtain⟨a,cap,rfl,hcap,hget⟩:=hv.get;have hjl:∀ k,(R14.joined cs (bl sep) k).length<=3060:=fun k=>R14.joined_len cs (bl sep) k hn hcs (by rw[bl_len];exact hs)
 have HG:=hid hget;have HC:=hid hcs;have HJ:=hid hjl;clear hv hget hcs hjl;go_enter Tryz.func45,Tryz.ntmps45;go_wp2
 go_loopw [5,6] (fun s i wr=>∃ (k:Nat),k<=cs.length/\i=.int .i64 k/\s=.string ⟨(R14.joined cs (bl sep) k).toArray⟩/\Below w.heap.size w wr) (fun _ i _=>cs.length-(intOf i).toNat)
 case atStart=>exact⟨0,Nat.zero_le _,rfl,rfl,Below.refl _ _⟩
 case round =>
  obtain⟨k,hk,rfl,rfl,hbel⟩:=hrel;have hlen:=HJ.out k
  by_cases h:k<cs.length
  ·obtain⟨b,off,rfl,hb,h0,h1,h2⟩:=HG.out k h
   have g0:=(hbel.cell (p:=⟨b,off+k*3,none⟩) hb).trans h0;have g1:=(hbel.cell (p:=⟨b,off+k*3+1,none⟩) hb).trans h1;have g2:=(hbel.cell (p:=⟨b,off+k*3+1+1,none⟩) hb).trans h2;have hok:=HC.out cs[k] (List.getElem_mem h);unfold ChOk at hok;have HNX:=hid (R14.joined_next cs (bl sep) k h);unfold sv at g0 g1 g2;generalize hc:cs[k]=c at *;have HCC:=hid hc;clear h0 h1 h2 HG hc
   by_cases hk0:k=0
   ·subst hk0
    simp only[Nat.zero_mul,Nat.add_zero] at g0 g1 g2;have hz:decide ((0:Int)<((0:Nat):Int))=false:=by decide
    by_cases hs0:c.sign=[]
    ·have hs1:c.sign.isEmpty=true:=by rw[hs0];rfl
     have HP:=hid (W6.printC_bare c hs0);clear hs0;go_wp2;go_roundw
     case rel=>exact⟨1,h,rfl,str_eq (by rw[bl_app,HNX.out,HP.out];rfl),hbel⟩
     case measure=>simp[intOf];omega
    ·have hs1:c.sign.isEmpty=false:=by simpa using hs0
     have HP:=hid (W6.printC_more c hs0);clear hs0;go_wp2;go_quiet (fail);go_wp2;go_roundw
     case rel=>exact⟨1,h,rfl,str_eq (by simp only[bl_app];rw[HNX.out,HP.out];exact R14.key [] _ _ _),below_drewN hbel _⟩
     case measure=>simp[intOf];omega
   ·have hz:decide ((0:Int)<(k:Int))=true:=by simp;omega
    have hkp:0<k:=by omega
    by_cases hs0:c.sign=[]
    ·have hs1:c.sign.isEmpty=true:=by rw[hs0];rfl
     have HP:=hid (W6.printC_bare c hs0);clear hs0;go_wp2;go_roundw
     case rel=>exact⟨k+1,h,by go_num,str_eq (by rw[bl_app,bl_app,HNX.out,HP.out,if_neg hk0];rfl),hbel⟩
     case measure=>simp[intOf];omega
    ·have hs1:c.sign.isEmpty=false:=by simpa using hs0
     have HP:=hid (W6.printC_more c hs0);clear hs0;go_wp2;go_quiet (fail);go_wp2;go_roundw
     case rel=>exact⟨k+1,h,by go_num,str_eq (by simp only[bl_app];rw[HNX.out,HP.out,if_neg hk0];exact R14.key _ _ _ _),below_drewN hbel _⟩
     case measure=>simp[intOf];omega
  ·obtain rfl:k=cs.length:=by omega
   clear HG;go_wp2;go_ret;exact⟨ret_str (by show R14.joined _ _ _=Lib.join _ _;unfold R14.joined;rw[List.take_length]),hbel⟩
end
section
open Go.RowKit
namespace R15
def needsText(p:Sp.Pk)(k:Nat):Sp.Str:=if k=0 then [] else [10,110,101,101,100,115,32] ++ Lib.join ((p.needs.take k).map groupText) [44,32]
theorem needs_next(p:Sp.Pk)(k:Nat)(h:k<p.needs.length):needsText p (k+1)=if k=0 then [10,110,101,101,100,115,32] ++ groupText p.needs[k] else needsText p k ++ [44,32] ++ groupText p.needs[k]:=by
 unfold needsText;rw[if_neg (by omega),List.take_succ_eq_append_getElem h,List.map_append,List.map_cons,List.map_nil,R14.join_snoc]
 by_cases hk:k=0
 ·subst hk;simp
 ·have:((p.needs.take k).map groupText).isEmpty=false:=by
   rw[List.isEmpty_eq_false_iff];intro e;have:=congrArg List.length e;rw[List.length_map,List.length_take] at this;simp only[List.length_nil] at this;omega
  rw[this,if_neg hk,if_neg hk];simp
theorem needs_all(p:Sp.Pk):head0 p ++ needsText p p.needs.length=head1 p:=by
 unfold needsText head1;rw[List.take_length]
 cases h:p.needs with
 | nil=>rfl
 | cons a r=>rfl
theorem needs_len(p:Sp.Pk)(hok:PkOk p)(k:Nat):(needsText p k).length<=10000:=by
 have hjl:=W8.join_bound [44,32] 3039 3 ((p.needs.take k).map groupText) (fun x hx=>by obtain⟨g,hg,rfl⟩:=List.mem_map.1 hx;exact groupText_len g (hok.groups g (List.mem_of_mem_take hg)).1 (hok.groups g (List.mem_of_mem_take hg)).2) (by rw[List.length_map,List.length_take];have:=hok.needs;omega);have hjl2:(Lib.join ((p.needs.take k).map groupText) [44,32]).length<=9200:=Nat.le_trans hjl (by decide);unfold needsText
 split
 ·simp
 ·rw[List.length_append]
  show 7+_<=_
  omega
end R15
theorem printR_any(p:Sp.Pk)(nv bv fv:Value)(w:World)(hok:PkOk p)(g0:GsOn (fun x=>x<w.heap.size) w nv p.needs)(g1:ChOn (fun x=>x<w.heap.size) w bv p.bars)(g2:FlOn (fun x=>x<w.heap.size) w fv p.files):
  Calls Tryz.prog 18 #[.agg #[sv p.name,sv p.ver,nv,bv,fv]] w fun e w'=>e=.returned (sv (Sp.print p))/\Below w.heap.size w w':=by
 obtain⟨na,nc,rfl,hnc,gn⟩:=g0.get;obtain⟨ba,bc,rfl,hbc,gb⟩:=g1.get;obtain⟨fa,fc,rfl,hfc,gf⟩:=g2.get;have hl1:∀ k,(R15.needsText p k).length<=10000:=fun k=>R15.needs_len p hok k
 have hh0:(head0 p).length<=3000:=by have h1:=hok.name;have h2:=hok.ver;unfold head0;simp;omega
 have hh1:=head1_len p hok;have hh2:=head2_len p hok;have hfl:∀ k,(files_text p k).length<=10000:=fun k=>files_len p hok k
 have hn3:=hok.needs;have hb3:=hok.bars;have hf4:=hok.files;have hname:=hok.name;have hver:=hok.ver;have HOK:=hid hok;have G1:=hid g1;have GN:=hid gn;have GF:=hid gf;have HL1:=hid hl1;have HFL:=hid hfl;clear g0 g1 g2 gn gb gf hl1 hfl hok;unfold sv;go_enter Tryz.func18,Tryz.ntmps18;obtain⟨w1,hw1⟩:∃ w1,w1=w.alloc (.cells #[.string ⟨p.name.toArray⟩,.string ⟨p.ver.toArray⟩,.slice na p.needs.length nc,.slice ba p.bars.length bc,.slice fa p.files.length fc] 30):=⟨_,rfl⟩
 have hs1:w.heap.size<w1.heap.size:=by rw[hw1];simp
 have hc1:∀ o,w1.cell? ⟨w.heap.size,o,none⟩=(#[.string ⟨p.name.toArray⟩,.string ⟨p.ver.toArray⟩,.slice na p.needs.length nc,.slice ba p.bars.length bc,.slice fa p.files.length fc]:Array Value)[o]?:=fun o=>by rw[hw1,World.cell?_alloc_at _ _ _ _ rfl]
 have hb1:Below w.heap.size w w1:=by rw[hw1];exact(Below.refl _ _).alloc (Nat.le_refl _) _
 have c2:=hc1 2;have c3:=hc1 3;have c4:=hc1 4;simp only[List.getElem?_toArray,List.getElem?_cons_zero,List.getElem?_cons_succ] at c2 c3 c4;have C3:=hid c3;have C4:=hid c4;have HW1:=hid hw1;clear hc1 hw1 c3 c4;go_wp2_with fail;rw[<-HW1.out]
 go_loopw [3,4,5] (fun s i _ wr=>∃ k:Nat,k<=p.needs.length/\i=.int .i64 k/\s=.string ⟨(head0 p ++ R15.needsText p k).toArray⟩/\Below w1.heap.size w1 wr) (fun _ i _ _=>p.needs.length-(intOf i).toNat)
 case atStart=>exact⟨0,Nat.zero_le _,rfl,str_eq (by simp only[bl_app];show _=head0 p ++ [];rw[List.append_nil];rfl),Below.refl _ _⟩
 case round =>
  obtain⟨k,hk,rfl,rfl,hbel⟩:=hrel;have hlk:=HL1.out k;have d2:=((bcell hbel).1 w.heap.size 2 hs1).trans c2;have hsr:=hbel.size
  by_cases h:k<p.needs.length
  ·obtain⟨gb,go,x,rfl,hgb,hx0,hx⟩:=GN.out k h
   have e0:=(hbel.cell (p:=⟨gb,go+k,none⟩) (show gb<w1.heap.size by omega)).trans ((hb1.cell (p:=⟨gb,go+k,none⟩) hgb).trans hx0);have hx':ChOn (fun b=>b<wr.heap.size) wr x p.needs[k]:=(SlOn.keep (SlOn.keep hx fun b hb=>hb1.block b hb) fun b hb=>hbel.block b (by omega)).mono fun b hb=>by omega
   have hgr:=HOK.out.groups p.needs[k] (List.getElem_mem h);have hgl:=groupText_len p.needs[k] hgr.1 hgr.2;have HX:=hid hx';have HGR:=hid hgr;have HNX:=hid (R15.needs_next p k h);obtain⟨xa,xc,rfl,_⟩:=hx'.get;clear hx0 hx hx' hgr GN;go_wp2_with fail;refine(printed_any _ p.needs[k] _ wr HX.out HGR.out.1 HGR.out.2 (by decide)).mono ?_;rintro e w2 ⟨rfl,hb2⟩;rw[show bl ⟨#[32,124,32]⟩=[32,124,32] from rfl];have hbel2:=hbel.trans (hb2.mono hsr);have hgl':(groupText p.needs[k]).length<=3039:=hgl;unfold sv;rw[show Lib.join (p.needs[k].map Sp.printC) [32,124,32]=groupText p.needs[k] from rfl]
   by_cases hk0:k=0
   ·subst hk0
    have hz:(((0:Nat):Int) == 0)=true:=by decide
    go_wp2;go_roundw
    case rel=>exact⟨1,h,rfl,str_eq (by simp only[bl_app];show _=head0 p ++ R15.needsText p 1;rw[HNX.out];simp only[if_true];show(head0 p ++ []) ++ [10,110,101,101,100,115,32] ++ _=_;simp;rfl),hbel2⟩
    case measure=>simp[intOf];omega
   ·have hz:((k:Int) == 0)=false:=by rw[beq_eq_false_iff_ne];omega
    go_wp2;go_roundw
    case rel=>exact⟨k+1,h,by go_num,str_eq (by simp only[bl_app];show _=head0 p ++ R15.needsText p (k+1);rw[HNX.out,if_neg hk0];show(head0 p ++ R15.needsText p k) ++ [44,32] ++ groupText _=_;simp),hbel2⟩
    case measure=>simp[intOf];omega
  ·obtain rfl:k=p.needs.length:=by omega
   rw[R15.needs_all];clear GN;have hb4:Below w.heap.size w wr:=hb1.trans (hbel.mono (Nat.le_of_lt hs1));have d3:=((bcell hbel).1 w.heap.size 3 hs1).trans C3.out;have d4:=((bcell hbel).1 w.heap.size 4 hs1).trans C4.out;have D4:=hid d4;clear d4;have hgb:ChOn (fun b=>b<wr.heap.size) wr (.slice ba p.bars.length bc) p.bars:=(SlOn.keep (SlOn.keep G1.out fun b hb=>hb1.block b hb) fun b hb=>hbel.block b (by omega)).mono fun b hb=>by omega
   have HGB:=hid hgb;clear hgb;go_upto_if 41 with(fail)
   go_cut [3] (fun s wx=>s=.string ⟨(head2 p).toArray⟩/\Below w1.heap.size w1 wx)
   case first =>
    by_cases hne:p.bars=[]
    ·have H1:Hid (head2 p=head1 p):=hid (by unfold head2;rw[hne];simp)
     have hl0:¬0<p.bars.length:=by rw[hne];simp
     clear hne;go_wp2_with fail;go_meet
     case rel=>exact⟨by rw[H1.out],hbel⟩
    ·have H1:Hid (head2 p=head1 p ++ ([10,98,97,114,115,32] ++ Lib.join (p.bars.map Sp.printC) [44,32])):=by
      exact hid (by unfold head2;rw[if_neg (by simpa using hne)])
     have hjl:=W8.join_bound [44,32] 1010 3 (p.bars.map Sp.printC) (fun x hx=>by obtain⟨g,hg,rfl⟩:=List.mem_map.1 hx;exact printC_len g (HOK.out.barred g hg)) (by rw[List.length_map];exact hb3);have hjl2:(Lib.join (p.bars.map Sp.printC) [44,32]).length<=10000:=Nat.le_trans hjl (by decide);have hl0:0<p.bars.length:=List.length_pos_iff.2 hne;clear hne hjl;go_wp2_with fail;refine(printed_any _ p.bars _ wr HGB.out hb3 HOK.out.barred (by decide)).mono ?_;rintro e w2 ⟨rfl,hb2⟩;unfold sv;rw[show bl ⟨#[44,32]⟩=[44,32] from rfl];go_wp2_with fail;go_meet
     case rel=>exact⟨str_eq (by rw[bl_app,bl_app];show _=head2 p;rw[H1.out];exact List.append_assoc _ _ _),hbel.trans (hb2.mono hsr)⟩
   case rest =>
    obtain⟨rfl,hbc2⟩:=hcut;clear d2 d3 hbel hsr;have d4:=((bcell hbc2).1 w.heap.size 4 hs1).trans C4.out;have hsc:=hbc2.size;clear D4;go_wp2_with fail
    go_loopw [3,7] (fun s i wr=>∃ k:Nat,k<=p.files.length/\i=.int .i64 k/\s=.string ⟨(head2 p ++ files_text p k).toArray⟩/\Below w1.heap.size w1 wr) (fun _ i _=>p.files.length-(intOf i).toNat)
    case atStart=>exact⟨0,Nat.zero_le _,rfl,str_eq (by show head2 p=head2 p ++ [];rw[List.append_nil]),hbc2⟩
    case round =>
     obtain⟨k,hk,rfl,rfl,hbel⟩:=hrel;have hfk:=HFL.out k;have f4:=((bcell hbel).1 w.heap.size 4 hs1).trans C4.out;have hsr:=hbel.size;clear d4
     by_cases h:k<p.files.length
     ·obtain⟨fb,fo,rfl,hfb,x0,x1⟩:=GF.out k h
      have e0:=(hbel.cell (p:=⟨fb,fo+k*2,none⟩) (show fb<w1.heap.size by omega)).trans ((hb1.cell (p:=⟨fb,fo+k*2,none⟩) hfb).trans x0);have e1:=(hbel.cell (p:=⟨fb,fo+k*2+1,none⟩) (show fb<w1.heap.size by omega)).trans ((hb1.cell (p:=⟨fb,fo+k*2+1,none⟩) hfb).trans x1);unfold sv at e0 e1;have hpa:=HOK.out.paths p.files[k] (List.getElem_mem h);have HNX:=hid (files_next p k h);clear x0 x1 GF;go_wp2;go_quiet (fail);go_wp2;go_roundw
      case rel=>exact⟨k+1,h,by go_num,str_eq (by simp only[bl_app];show _=head2 p ++ files_text p (k+1);rw[HNX.out];show((((head2 p ++ files_text p k) ++ [10,102,105,108,101,32]) ++ _) ++ [61]) ++ _=_;unfold Sp.printF;simp;rfl),below_drewN hbel _⟩
      case measure=>simp[intOf];omega
     ·obtain rfl:k=p.files.length:=by omega
      clear GF;go_wp2;go_ret;exact⟨ret_str (by show head2 p ++ files_text p p.files.length=Sp.print p;rw[print_eq];unfold files_text;rw[List.take_length]),hb1.trans (hbel.mono (Nat.le_of_lt hs1))⟩
end
section
open Go.RowKit
structure PV where
 p:Sp.Pk
 nv:Value
 bv:Value
 fv:Value
namespace PV
def cells(x:PV):List Value:=[sv x.p.name,sv x.p.ver,x.nv,x.bv,x.fv]
def agg(x:PV):Value:=.agg #[sv x.p.name,sv x.p.ver,x.nv,x.bv,x.fv]
structure On(S:Nat->Prop)(w:World)(x:PV):Prop where
 needs:GsOn S w x.nv x.p.needs
 bars:ChOn S w x.bv x.p.bars
 files:FlOn S w x.fv x.p.files
 ok:PkOk x.p
theorem On.keep{S:Nat->Prop}{w w':World}{x:PV}(h:On S w x)(hb:∀ b,S b->w'.heap[b]? = w.heap[b]?):On S w' x:=⟨h.needs.keep hb,SlOn.keep h.bars hb,SlOn.keep h.files hb,h.ok⟩
theorem On.mono{S S':Nat->Prop}{w:World}{x:PV}(h:On S w x)(hm:∀ b,S b->S' b):On S' w x:=⟨h.needs.mono hm,SlOn.mono h.bars hm,SlOn.mono h.files hm,h.ok⟩
end PV
def PksOn(S:Nat->Prop)(w:World)(v:Value)(X:List PV):Prop:=SlOn S w 5 v (X.map PV.cells)/\∀ x∈X,x.On S w
namespace PksOn
variable {S S':Nat->Prop} {w w':World} {v:Value} {X:List PV}
theorem keep(h:PksOn S w v X)(hb:∀ b,S b->w'.heap[b]? = w.heap[b]?):PksOn S w' v X:=⟨SlOn.keep h.1 hb,fun x hx=>(h.2 x hx).keep hb⟩
theorem mono(h:PksOn S w v X)(hm:∀ b,S b->S' b):PksOn S' w v X:=⟨SlOn.mono h.1 hm,fun x hx=>(h.2 x hx).mono hm⟩
theorem below{n:Nat}(h:PksOn (fun b=>b<n) w v X)(hb:Below n w w'):PksOn (fun b=>b<n) w' v X:=h.keep fun b hb'=>hb.block b hb'
theorem nil(S:Nat->Prop)(w:World):PksOn S w (.slice none 0 0) []:=⟨SlOn.nil _ _ _,fun x hx=>by cases hx⟩
theorem get(h:PksOn S w v X):∃ a cap,v=.slice a X.length cap/\X.length<=cap/\∀ k,(hk:k<X.length)->∃ b off,a=some ⟨b,off,none⟩/\S b /\
  w.cell? ⟨b,off+k*5,none⟩=some (sv X[k].p.name)/\w.cell? ⟨b,off+k*5+1,none⟩=some (sv X[k].p.ver)/\w.cell? ⟨b,off+k*5+2,none⟩=some X[k].nv/\w.cell? ⟨b,off+k*5+3,none⟩=some X[k].bv/\w.cell? ⟨b,off+k*5+4,none⟩=some X[k].fv:=by
 obtain⟨a,cap,hv,hc,h'⟩:=h.1;refine⟨a,cap,by simpa using hv,by simpa using hc,fun k hk=>?_⟩;obtain⟨b,off,ha,hb,hx⟩:=h' k (PV.cells X[k]) (by rw[List.getElem?_map,List.getElem?_eq_getElem hk];rfl);exact⟨b,off,ha,hb,hx 0 _ rfl,hx 1 _ rfl,hx 2 _ rfl,hx 3 _ rfl,hx 4 _ rfl⟩
end PksOn
def pk(X:List PV):List Sp.Pk:=X.map (·.p)
theorem fitsR_any(c:Sp.Ch)(x:PV)(w:World)(hok:PkOk x.p)(hc:ChOk c):
  Calls Tryz.prog 225 #[.agg #[sv c.name,sv c.sign,sv c.ver],x.agg] w fun e w'=>e=.returned (.bool (Sp.fits c x.p))/\Below w.heap.size w w':=by
 unfold ChOk at hc;obtain⟨p,nv,bv,fv⟩:=x;have hv:=hok.ver;unfold PV.agg;simp only at hv ⊢;clear hok
 cases hn:(p.name == c.name) with
 | false =>
  rw[FT.fits_name hn];have hn':(c.name == p.name)=false:=by
   rw[<-Bool.not_eq_true] at hn ⊢;intro e;exact hn (by rw[eq_of_beq e];exact BEq.rfl)
  unfold sv;go_enter Tryz.func225,Tryz.ntmps225;go_wp2;go_ret;exact⟨rfl,((Below.refl _ _).alloc (Nat.le_refl _) _).alloc (by simp) _⟩
 | true =>
  rw[FT.fits_sign hn];have hn':(c.name == p.name)=true:=by rw[eq_of_beq hn];exact BEq.rfl
  generalize hS:Sp.signOk c.sign (Sp.cmp p.ver c.ver)=R;have HS:=hid hS;clear hS;have hcmp:=fun (W:World)=>cmpR_any ⟨p.ver.toArray⟩ ⟨c.ver.toArray⟩ W (by rw[<-bl_len,bl_mk];omega) (by rw[<-bl_len,bl_mk];omega)
  simp only[bl_mk] at hcmp;have HC:=hid hcmp;clear hcmp;unfold sv;go_enter Tryz.func225,Tryz.ntmps225;go_wp2_with fail;refine(HC.out _).mono ?_;rintro e w3 ⟨rfl,hb3⟩;have hb0:Below w.heap.size w ((w.alloc (.cells #[.string ⟨c.name.toArray⟩,.string ⟨c.sign.toArray⟩,.string ⟨c.ver.toArray⟩] 135)).alloc (.cells #[.string ⟨p.name.toArray⟩,.string ⟨p.ver.toArray⟩,nv,bv,fv] 30)):=((Below.refl _ _).alloc (Nat.le_refl _) _).alloc (by simp) _;have hz0:w.heap.size+1<((w.alloc (.cells #[.string ⟨c.name.toArray⟩,.string ⟨c.sign.toArray⟩,.string ⟨c.ver.toArray⟩] 135)).alloc (.cells #[.string ⟨p.name.toArray⟩,.string ⟨p.ver.toArray⟩,nv,bv,fv] 30)).heap.size:=by simp
  have hg1:((w.alloc (.cells #[.string ⟨c.name.toArray⟩,.string ⟨c.sign.toArray⟩,.string ⟨c.ver.toArray⟩] 135)).alloc (.cells #[.string ⟨p.name.toArray⟩,.string ⟨p.ver.toArray⟩,nv,bv,fv] 30)).cell? ⟨w.heap.size,1,none⟩=some (.string ⟨c.sign.toArray⟩):=by
   rw[World.cell?_alloc_past _ _ _ (by simp),World.cell?_alloc_at _ _ _ _ rfl];rfl
  have hg3:=(hb3.cell (p:=⟨w.heap.size,1,none⟩) (show w.heap.size<_ by omega)).trans hg1;have hbw:Below w.heap.size w w3:=hb0.trans (hb3.mono (by omega));have hgl:w.heap.size<w3.heap.size:=by have:=hb3.size;omega
  clear hg1 hb0 hz0 hb3;generalize Sp.cmp p.ver c.ver=o at *
  cases s1:(c.sign == [60,60]) with
  | true =>
   have hR:=HS.out;rw[FT.sgn1 s1] at hR;have HR:=hid hR;clear hR HS;go_wp2;go_ret;exact⟨ret_bool (by rw[<-HR.out]),hbw⟩
  | false =>
   cases s2:(c.sign == [60,61]) with
   | true =>
    have hR:=HS.out;rw[FT.sgn2 s1 s2] at hR;have HR:=hid hR;clear hR HS;go_wp2;go_ret;exact⟨ret_bool (by rw[<-HR.out]),hbw⟩
   | false =>
    cases s3:(c.sign == [61]) with
    | true =>
     have hR:=HS.out;rw[FT.sgn3 s1 s2 s3] at hR;have HR:=hid hR;clear hR HS;go_wp2;go_ret;exact⟨ret_bool (by rw[<-HR.out,Bool.eq_iff_iff];simp),hbw⟩
    | false =>
     cases s4:(c.sign == [62,61]) with
     | true =>
      have hR:=HS.out;rw[FT.sgn4 s1 s2 s3 s4] at hR;have HR:=hid hR;clear hR HS;go_wp2;go_ret;exact⟨ret_bool (by rw[<-HR.out]),hbw⟩
     | false =>
      cases s5:(c.sign == [62,62]) with
      | true =>
       have hR:=HS.out;rw[FT.sgn5 s1 s2 s3 s4 s5] at hR;have HR:=hid hR;clear hR HS;go_wp2;go_ret;exact⟨ret_bool (by rw[<-HR.out]),hbw⟩
      | false =>
       have hR:=HS.out;rw[FT.sgn6 s1 s2 s3 s4 s5] at hR;have HR:=hid hR;clear hR HS;go_wp2;go_ret;exact⟨ret_bool HR.out,hbw⟩
end
section
open Go.RowKit
theorem pk_len(X:List PV):(pk X).length=X.length:=by unfold pk;rw[List.length_map]
theorem pk_get{X:List PV}{k:Nat}(h:k<(pk X).length)(h2:k<X.length):(pk X)[k]=X[k].p:=List.getElem_map (fun x:PV=>x.p)
theorem pk_all(X:List PV){k:Nat}(h:X.length<=k):(pk X).take k=pk X:=List.take_of_length_le (by rw[pk_len];exact h)
theorem firstR_any(a b:Sp.Str)(w:World):Calls Tryz.prog 148 #[sv a,sv b] w fun e w'=>e=.returned (sv (Sp.first a b))/\w'=w:=by
 unfold sv
 cases ha:a.isEmpty with
 | true =>
  have e:Sp.first a b=b:=by unfold Sp.first;rw[ha];rfl
  have HE:=hid e;clear e;go_enter Tryz.func148,Tryz.ntmps148;go_wp2;go_ret;exact⟨by rw[HE.out];rfl,rfl⟩
 | false =>
  cases hb:b.isEmpty with
  | true =>
   have e:Sp.first a b=a:=by unfold Sp.first;rw[ha,hb];rfl
   have HE:=hid e;clear e;go_enter Tryz.func148,Tryz.ntmps148;go_wp2;go_ret;exact⟨by rw[HE.out];rfl,rfl⟩
  | false =>
   cases hl:Sp.strLt b a with
   | true =>
    have e:Sp.first a b=b:=by unfold Sp.first;rw[ha,hb,hl];rfl
    have hbl:Op.bytesLess b a=true:=by rw[CM.less_lt];exact hl
    have HE:=hid e;clear e hl;go_enter Tryz.func148,Tryz.ntmps148;go_wp2;go_ret;exact⟨by rw[HE.out];rfl,rfl⟩
   | false =>
    have e:Sp.first a b=a:=by unfold Sp.first;rw[ha,hb,hl];rfl
    have hbl:Op.bytesLess b a=false:=by rw[CM.less_lt];exact hl
    have HE:=hid e;clear e hl;go_enter Tryz.func148,Tryz.ntmps148;go_wp2;go_ret;exact⟨by rw[HE.out];rfl,rfl⟩
namespace Z4
def findI(L:List Sp.Pk)(n:Sp.Str):Int:=match L.findIdx? (fun p=>p.name == n) with
 | some k=>(k:Int)
 | none=>-1
theorem find_hit{L:List Sp.Pk}{n:Sp.Str}{k:Nat}(h:k<L.length)(hb:∀ p∈L.take k,(p.name == n)=false)(he:(L[k].name == n)=true):findI L n=k:=by
 unfold findI;have:L.findIdx? (fun p=>p.name == n)=some k:=by
  rw[List.findIdx?_eq_some_iff_getElem];refine⟨h,he,fun j hj=>?_⟩;have:=hb L[j] (by
   rw[List.mem_take_iff_getElem];exact⟨j,by omega,rfl⟩)
  rw[this];decide
 rw[this]
theorem find_miss{L:List Sp.Pk}{n:Sp.Str}(hb:∀ p∈L,(p.name == n)=false):findI L n=-1:=by
 unfold findI;have:L.findIdx? (fun p=>p.name == n)=none:=by
  rw[List.findIdx?_eq_none_iff];exact hb
 rw[this]
theorem take_next{α:Type}{L:List α}{P:α->Prop}{k:Nat}(h:k<L.length)(hb:∀ p∈L.take k,P p)(hk:P L[k]):∀ p∈L.take (k+1),P p:=by
 intro p hp;rw[List.take_succ_eq_append_getElem h] at hp
 rcases List.mem_append.1 hp with hp|hp
 ·exact hb p hp
 ·rw[List.mem_singleton] at hp;subst hp;exact hk
end Z4
theorem findR_any{S:Nat->Prop}(v:Value)(X:List PV)(n:Sp.Str)(w:World)(h:PksOn S w v X)(hS:∀ b,S b->b<w.heap.size)(hX:X.length<=1099511627776):
  Calls Tryz.prog 143 #[v,sv n] w fun e w'=>e=.returned (.int .i64 (Z4.findI (pk X) n))/\Below w.heap.size w w':=by
 obtain⟨a,cap,rfl,hc,hg⟩:=h.get;have HG:=hid hg;have HS:=hid hS;clear h hg hS;unfold sv;go_enter Tryz.func143,Tryz.ntmps143;go_wp2
 go_loopw [5] (fun i wr=>∃ k:Nat,k<=X.length/\i=.int .i64 k/\(∀ p∈(pk X).take k,(p.name == n)=false)/\Below w.heap.size w wr) (fun i _=>X.length-(intOf i).toNat)
 case atStart=>exact⟨0,Nat.zero_le _,rfl,fun p hp=>by simp at hp,Below.refl _ _⟩
 case round =>
  obtain⟨k,hk,rfl,hb,hbel⟩:=hrel;have HB:=hid hb;clear hb
  by_cases hlt:k<X.length
  ·obtain⟨b,off,rfl,hSb,c0,_⟩:=HG.out k hlt
   have hbl:=HS.out b hSb;have d0:=(hbel.cell (p:=⟨b,off+k*5,none⟩) hbl).trans c0;have hpl:k<(pk X).length:=by rw[pk_len];exact hlt
   have hpe:(pk X)[k]=X[k].p:=pk_get hpl hlt;have hbr:b<wr.heap.size:=by have:=hbel.size;omega
   obtain⟨m,hm⟩:∃ m,m=X[k].p.name:=⟨_,rfl⟩
   rw[<-hm] at d0;have HPE:=hid (show(pk X)[k].name=m by rw[hpe,hm]);unfold sv at d0;clear c0 hpe hm
   cases he:(m == n) with
   | true =>
    have HR:=hid (Z4.find_hit hpl HB.out (by rw[HPE.out];exact he));go_wp2;go_ret;exact⟨ret_int HR.out.symm,hbel⟩
   | false =>
    have HR:=hid (Z4.take_next hpl HB.out (by rw[HPE.out];exact he));go_wp2;go_roundw
    case rel=>exact⟨k+1,hlt,by go_num,HR.out,hbel⟩
    case measure=>simp[intOf];omega
  ·obtain rfl:k=X.length:=by omega
   have HR:=hid (Z4.find_miss (L:=pk X) (n:=n) (fun p hp=>HB.out p (by rw[pk_all _ (Nat.le_refl _)];exact hp)));go_wp2;go_ret;exact⟨ret_int HR.out.symm,hbel⟩
theorem any1R_any{S1 S2:Nat->Prop}(gv v:Value)(g:List Sp.Ch)(X:List PV)(w:World)(hg:ChOn S1 w gv g)(hS1:∀ b,S1 b->b<w.heap.size)(hgo:∀ c∈g,ChOk c)(hgl:g.length<=3)(h:PksOn S2 w v X)(hS2:∀ b,S2 b->b<w.heap.size)(hX:X.length<=1099511627776):
  Calls Tryz.prog 185 #[gv,v] w fun e w'=>e=.returned (.bool (Sp.any1 g (pk X)))/\Below w.heap.size w w':=by
 obtain⟨ga,gc,rfl,hgc,hgg⟩:=hg.get;have hok:∀ x∈X,PkOk x.p:=fun x hx=>(h.2 x hx).ok
 obtain⟨a,cap,rfl,hc,hx⟩:=h.get;have HGG:=hid hgg;have HX:=hid hx;have HS1:=hid hS1;have HS2:=hid hS2;have HGO:=hid hgo;have HOK:=hid hok;clear hg hgg h hx hS1 hS2 hgo hok;go_enter Tryz.func185,Tryz.ntmps185;go_wp2
 go_loopw [5,6] (fun i _ wr=>∃ k:Nat,k<=g.length/\i=.int .i64 k/\(∀ c∈g.take k,(pk X).any (Sp.fits c)=false)/\Below w.heap.size w wr) (fun i _ _=>g.length-(intOf i).toNat)
 case atStart=>exact⟨0,Nat.zero_le _,rfl,fun p hp=>by simp at hp,Below.refl _ _⟩
 case round =>
  obtain⟨k,hk,rfl,hb,hbel⟩:=hrel;have HB:=hid hb;have HBL:=hid hbel;have hzr:=hbel.size;clear hb hbel
  by_cases hlt:k<g.length
  ·obtain⟨gb,goff,rfl,hSb,c0,c1,c2⟩:=HGG.out k hlt
   have hgbl:=HS1.out gb hSb;generalize wr=wo at *;go_wp2_with fail
   go_loopw [6] (fun i wr=>∃ j:Nat,j<=X.length/\i=.int .i64 j/\(∀ p∈(pk X).take j,Sp.fits g[k] p=false)/\Below w.heap.size w wr) (fun i _=>X.length-(intOf i).toNat)
   case atStart=>exact⟨0,Nat.zero_le _,rfl,fun p hp=>by simp at hp,HBL.out⟩
   case round =>
    obtain⟨j,hj,rfl,hbj,hbelj⟩:=hrel;have HBJ:=hid hbj;have HBLJ:=hid hbelj;have hzj:=hbelj.size;clear hbj hbelj
    by_cases hjl:j<X.length
    ·obtain⟨b,off,rfl,hSb2,x0,x1,x2,x3,x4⟩:=HX.out j hjl
     have hbl:=HS2.out b hSb2;have e0:=(HBLJ.out.cell (p:=⟨gb,goff+k*3,none⟩) hgbl).trans c0;have e1:=(HBLJ.out.cell (p:=⟨gb,goff+k*3+1,none⟩) hgbl).trans c1;have e2:=(HBLJ.out.cell (p:=⟨gb,goff+k*3+1+1,none⟩) hgbl).trans c2;have d0:=(HBLJ.out.cell (p:=⟨b,off+j*5,none⟩) hbl).trans x0;have d1:=(HBLJ.out.cell (p:=⟨b,off+j*5+1,none⟩) hbl).trans x1;have d2:=(HBLJ.out.cell (p:=⟨b,off+j*5+1+1,none⟩) hbl).trans x2;have d3:=(HBLJ.out.cell (p:=⟨b,off+j*5+1+1+1,none⟩) hbl).trans x3;have d4:=(HBLJ.out.cell (p:=⟨b,off+j*5+1+1+1+1,none⟩) hbl).trans x4;have hpl:j<(pk X).length:=by rw[pk_len];exact hjl
     have hpe:(pk X)[j]=X[j].p:=pk_get hpl hjl;have hfit:=fun W=>fitsR_any g[k] X[j] W (HOK.out _ (List.getElem_mem hjl)) (HGO.out _ (List.getElem_mem hlt))
     unfold PV.agg sv at hfit;have HFIT:=hid hfit;have HPE:=hid hpe;have hgr:gb<wr.heap.size:=by omega
     have hbr:b<wr.heap.size:=by omega
     unfold sv at e0 e1 e2 d0 d1;clear x0 x1 x2 x3 x4 c0 c1 c2 hpe hfit;go_wp2_with fail;go_still_tail 8,(by kernel_rfl)
     change wpList _ _ _ _ _ (World.drew wr);go_wp2_with fail;refine(HFIT.out _).mono ?_;rintro e w3 ⟨rfl,hb3⟩;have hb3':Below wr.heap.size wr w3:=(Below.drew (Below.refl wr.heap.size wr)).trans hb3;have HB3:=hid (HBLJ.out.trans (hb3'.mono (by omega)));clear hb3 hb3'
     cases hf:Sp.fits g[k] X[j].p with
     | true =>
      have hr:Sp.any1 g (pk X)=true:=by
       unfold Sp.any1;rw[List.any_eq_true];exact⟨_,List.getElem_mem hlt,List.any_eq_true.2 ⟨_,List.getElem_mem hpl,by rw[HPE.out];exact hf⟩⟩
      have HR:=hid hr;clear hr hf;go_wp2;go_ret;exact⟨ret_bool HR.out.symm,HB3.out⟩
     | false =>
      have HR:=hid (Z4.take_next hpl HBJ.out (by rw[HPE.out];exact hf));clear hf;go_wp2;go_roundw
      case rel=>exact⟨j+1,hjl,by go_num,HR.out,HB3.out⟩
      case measure=>simp[intOf];omega
    ·obtain rfl:j=X.length:=by omega
     have hr:(pk X).any (Sp.fits g[k])=false:=by
      rw[List.any_eq_false];intro p hp;rw[HBJ.out p (by rw[pk_all _ (Nat.le_refl _)];exact hp)];decide
     have HR:=hid (Z4.take_next hlt HB.out hr);clear hr;go_wp2;go_roundw
     case rel=>exact⟨k+1,hlt,by go_num,HR.out,HBLJ.out⟩
     case measure=>simp[intOf];omega
  ·obtain rfl:k=g.length:=by omega
   have hr:Sp.any1 g (pk X)=false:=by
    unfold Sp.any1;rw[List.any_eq_false];intro c hc;rw[HB.out c (by rw[List.take_length];exact hc)];decide
   have HR:=hid hr;clear hr;go_wp2;go_ret;exact⟨ret_bool HR.out.symm,HBL.out⟩
end
section
open Go.RowKit
namespace Z5
open Sp (Str Pk)
theorem first_twice(a b:Str):Sp.first (Sp.first a b) b=Sp.first a b:=by
 unfold Sp.first
 by_cases h:(a.isEmpty || (!b.isEmpty && Sp.strLt b a))=true
 ·rw[if_pos h];split <;> rfl
 ·rw[if_neg h,if_neg h]
def upTo(P:Pk->Bool)(L:List Pk)(i:Nat):Str:=Sp.least (((L.take i).filter P).map (·.name))
theorem upTo_next(P:Pk->Bool)(L:List Pk){i:Nat}(h:i<L.length):upTo P L (i+1)=if P L[i]=true then Sp.first (upTo P L i) L[i].name else upTo P L i:=by
 unfold upTo;rw[List.take_succ_eq_append_getElem h,List.filter_append,List.map_append]
 cases hp:P L[i] with
 | true=>rw[List.filter_cons_of_pos hp];unfold Sp.least;rw[List.foldl_append];rfl
 | false=>rw[List.filter_cons_of_neg (by rw[hp];decide)];simp
theorem upTo_all(P:Pk->Bool)(L:List Pk){i:Nat}(h:L.length<=i):upTo P L i=Sp.least ((L.filter P).map (·.name)):=by
 unfold upTo;rw[List.take_of_length_le h]
def part{α:Type}(Q:α->Bool)(l:List α)(k:Nat)(n0 nm:Str):Str:=if (l.take k).any Q=true then Sp.first n0 nm else n0
theorem part_next{α:Type}(Q:α->Bool)(l:List α){k:Nat}(h:k<l.length)(n0 nm:Str):part Q l (k+1) n0 nm=if Q l[k]=true then Sp.first (part Q l k n0 nm) nm else part Q l k n0 nm:=by
 unfold part;rw[List.take_succ_eq_append_getElem h,List.any_append]
 cases hq:Q l[k] with
 | true =>
  simp only[List.any_cons,List.any_nil,hq,Bool.or_false,Bool.or_true,if_true]
  split
  ·exact(first_twice _ _).symm
  ·rfl
 | false=>simp only[List.any_cons,List.any_nil,hq,Bool.or_false,Bool.false_eq_true,if_false]
theorem part_all{α:Type}(Q:α->Bool)(l:List α){k:Nat}(h:l.length<=k)(n0 nm:Str):part Q l k n0 nm=if l.any Q=true then Sp.first n0 nm else n0:=by
 unfold part;rw[List.take_of_length_le h]
theorem part_zero{α:Type}(Q:α->Bool)(l:List α)(n0 nm:Str):part Q l 0 n0 nm=n0:=by unfold part;simp
end Z5
theorem lackR_any{S:Nat->Prop}(v:Value)(X:List PV)(w:World)(h:PksOn S w v X)(hS:∀ b,S b->b<w.heap.size)(hX:X.length<=1099511627776):
  Calls Tryz.prog 144 #[v] w fun e w'=>e=.returned (sv (Sp.lacking (pk X)))/\Below w.heap.size w w':=by
 have hk:∀ W,Below w.heap.size w W->PksOn S W v X:=fun W hW=>h.keep fun b hb=>hW.block b (hS b hb)
 have hon:∀ x∈X,x.On S w:=h.2;obtain⟨a,cap,rfl,hc,hx⟩:=h.get;have HX:=hid hx;have HON:=hid hon;have HS:=hid hS;have HK:=hid hk;clear h hx hon hS hk;go_enter Tryz.func144,Tryz.ntmps144;go_wp2
 go_loopw [3,4,5,6] (fun n i _ _ wr=>∃ k:Nat,k<=X.length/\i=.int .i64 k/\n=sv (Z5.upTo (Sp.lacks (pk X)) (pk X) k)/\Below w.heap.size w wr) (fun _ i _ _ _=>X.length-(intOf i).toNat)
 case atStart=>exact⟨0,Nat.zero_le _,rfl,rfl,Below.refl _ _⟩
 case round =>
  obtain⟨k,hk,rfl,rfl,hbel⟩:=hrel;have HBL:=hid hbel;have hzr:=hbel.size;clear hbel
  by_cases hlt:k<X.length
  ·obtain⟨b,off,rfl,hSb,x0,x1,x2,x3,x4⟩:=HX.out k hlt
   have hbl:=HS.out b hSb;have hpl:k<(pk X).length:=by rw[pk_len];exact hlt
   have hpe:(pk X)[k]=X[k].p:=pk_get hpl hlt;have hxo:=HON.out _ (List.getElem_mem hlt);have hnx:=Z5.upTo_next (Sp.lacks (pk X)) (pk X) hpl;rw[hpe] at hnx;obtain⟨y,hy⟩:∃ y,y=X[k]:=⟨_,rfl⟩
   rw[<-hy] at x0 x2 hxo hnx;obtain⟨na,nc,hnv,hnc,hng⟩:=hxo.needs.get;rw[hnv] at x2;have hn3:=hxo.ok.needs;have HNX:=hid hnx;have HNG:=hid hng;have HGO:=hid hxo.ok.groups;obtain⟨n0,hn0⟩:∃ n0,n0=Z5.upTo (Sp.lacks (pk X)) (pk X) k:=⟨_,rfl⟩
   rw[<-hn0] at HNX ⊢;clear x1 x3 x4 hpe hnx hng hxo hy hn0 hnv;generalize wr=wo at *;unfold sv at x0 ⊢;go_wp2_with fail
   go_loopw [3,5,6] (fun n i _ wr=>∃ j:Nat,j<=y.p.needs.length/\i=.int .i64 j/\n=sv (Z5.part (fun g=>!Sp.any1 g (pk X)) y.p.needs j n0 y.p.name)/\Below w.heap.size w wr) (fun _ i _ _=>y.p.needs.length-(intOf i).toNat)
   case atStart=>exact⟨0,Nat.zero_le _,rfl,by rw[Z5.part_zero];rfl,HBL.out⟩
   case round =>
    obtain⟨j,hj,rfl,rfl,hbelj⟩:=hrel;have HBLJ:=hid hbelj;have hzj:=hbelj.size;have d0:=(hbelj.cell (p:=⟨b,off+k*5,none⟩) hbl).trans x0;have d2:=(hbelj.cell (p:=⟨b,off+k*5+2,none⟩) hbl).trans x2;have hbr:b<wr.heap.size:=by omega
    clear hbelj
    by_cases hjl:j<y.p.needs.length
    ·obtain⟨gb,goff,gx,rfl,hSg,hgc,hgch⟩:=HNG.out j hjl
     have hgbl:=HS.out gb hSg;have hgc':=(HBLJ.out.cell (p:=⟨gb,goff+j,none⟩) hgbl).trans hgc;have hgr:gb<wr.heap.size:=by omega
     have hgo:=HGO.out _ (List.getElem_mem hjl);have hch:ChOn S wr gx y.p.needs[j]:=SlOn.keep hgch fun c hc=>HBLJ.out.block c (HS.out c hc)
     have hany:=any1R_any gx _ y.p.needs[j] X wr hch (fun c hc=>by have:=HS.out c hc;omega) hgo.2 hgo.1 (HK.out wr HBLJ.out) (fun c hc=>by have:=HS.out c hc;omega) hX;have hpn:=Z5.part_next (fun g=>!Sp.any1 g (pk X)) y.p.needs hjl n0 y.p.name;obtain⟨r,hr⟩:∃ r,r=Sp.any1 y.p.needs[j] (pk X):=⟨_,rfl⟩
     rw[<-hr] at hany hpn;have HANY:=hid hany;have HPN:=hid hpn;obtain⟨nn,hnn⟩:∃ nn,nn=Z5.part (fun g=>!Sp.any1 g (pk X)) y.p.needs j n0 y.p.name:=⟨_,rfl⟩
     rw[<-hnn] at HPN ⊢;clear hgc hgch hgo hch hany hpn hr hnn;unfold sv;go_wp2_with fail;refine HANY.out.mono ?_;rintro e w2 ⟨rfl,hb2⟩;have HB2:=hid (HBLJ.out.trans (hb2.mono (by omega)));have e0:=(hb2.cell (p:=⟨b,off+k*5,none⟩) hbr).trans d0;have hbr2:b<w2.heap.size:=by have:=hb2.size;omega
     clear hb2 d0 d2 hgc'
     cases r with
     | true =>
      go_wp2;go_roundw
      case rel=>exact⟨j+1,hjl,by go_num,by rw[HPN.out];rfl,HB2.out⟩
      case measure=>simp[intOf];omega
     | false =>
      go_wp2_with fail;refine(firstR_any nn y.p.name w2).mono ?_;rintro e w3 ⟨rfl,hw3⟩;have hw3':=hw3.symm;subst hw3';go_wp2;go_roundw
      case rel=>exact⟨j+1,hjl,by go_num,by rw[HPN.out];rfl,HB2.out⟩
      case measure=>simp[intOf];omega
    ·obtain rfl:j=y.p.needs.length:=by omega
     have hpa:=Z5.part_all (fun g=>!Sp.any1 g (pk X)) y.p.needs (Nat.le_refl _) n0 y.p.name;have HPA:=hid hpa;clear hpa;go_wp2;go_roundw
     case rel=>exact⟨k+1,hlt,by go_num,by rw[HNX.out,HPA.out];rfl,HBLJ.out⟩
     case measure=>simp[intOf];omega
  ·obtain rfl:k=X.length:=by omega
   have hr:=Z5.upTo_all (Sp.lacks (pk X)) (pk X) (i:=X.length) (by rw[pk_len];exact Nat.le_refl _);have HR:=hid hr;clear hr;unfold sv;go_wp2;go_ret;exact⟨by rw[HR.out];rfl,HBL.out⟩
end
end Go.Proofs.YtfphcecjhdkcoaaGreatDoor

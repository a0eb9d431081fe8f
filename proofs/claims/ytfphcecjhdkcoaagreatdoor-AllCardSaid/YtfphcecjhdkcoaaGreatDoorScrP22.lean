/-
The statement's world in memory; the walk of shown.
-/
import Derived.Test.YtfphcecjhdkcoaaGreatDoorScrP16
import Derived.Test.YtfphcecjhdkcoaaGreatDoorScrP17
import Derived.Test.YtfphcecjhdkcoaaGreatDoorScrP19
import Derived.Test.YtfphcecjhdkcoaaGreatDoorScrP21
import Derived.BigQuiet
import Derived.Deep.Slices
import Derived.Lib.SmallJoins
set_option maxRecDepth 100000
set_option maxHeartbeats 8000000
namespace Go.Proofs.YtfphcecjhdkcoaaGreatDoor
open Go.Lib (hid)
section
open Go.RowKit
namespace Z18
structure St(S:Nat->Prop)(B:Nat)(L:List Sp.Pk)(ns:List Sp.Str)(w:World)(v:Value)(i:Nat)(Y:List PV):Prop where
 left:PksOn (fun b=>S b\/(B<=b/\b<w.heap.size)) w v Y
 far:Sp.removeAll 0 L ns=Sp.removeAll i (pk Y) (ns.drop i)
 apart:(pk Y).Pairwise fun p q=>p.name≠q.name
 few:Y.length<=5000
 shape:v=.slice none 0 0\/∃ b off cap,off=0/\v=.slice (some ⟨b,off,none⟩) Y.length cap
theorem gone{L:List Sp.Pk}{i:Nat}{n:Sp.Str}{r:List Sp.Str}(h:(Sp.names L).contains n=false):Sp.removeAll i L (n :: r)=.inl ⟨3,i,0,n⟩:=by
 rw[Sp.removeAll,if_neg (by rw[h];decide)]
theorem next{L:List Sp.Pk}{i:Nat}{r:List Sp.Str}(ha:L.Pairwise fun p q=>p.name≠q.name){k:Nat}(hk:k<L.length):Sp.removeAll i L (L[k].name :: r)=Sp.removeAll (i+1) (L.take k ++ L.drop (k+1)) r:=by
 have hc:(Sp.names L).contains L[k].name=true:=List.contains_iff_mem.2 (List.mem_map.2 ⟨_,List.getElem_mem hk,rfl⟩);rw[Sp.removeAll,if_pos hc,Z9.filter_del ha hk]
theorem removed_f{L:List Sp.Pk}{ns:List Sp.Str}{f:Sp.Fault}(h:Sp.removeAll 0 L ns=.inl f):Sp.removed L ns=.inl f:=by unfold Sp.removed;rw[h]
theorem removed_l{L A:List Sp.Pk}{ns:List Sp.Str}(h:Sp.removeAll 0 L ns=.inr A)(hl:Sp.lacking A≠[]):Sp.removed L ns=.inl ⟨4,0,0,Sp.lacking A⟩:=by
 unfold Sp.removed;rw[h];simp only;rw[if_pos (by simpa using hl)]
theorem removed_r{L A:List Sp.Pk}{ns:List Sp.Str}(h:Sp.removeAll 0 L ns=.inr A)(hl:Sp.lacking A=[]):Sp.removed L ns=.inr A:=by
 unfold Sp.removed;rw[h];simp only;rw[if_neg (by rw[hl];decide)]
theorem pk_cut(Y:List PV)(k:Nat):pk (Y.take k ++ Y.drop (k+1))=(pk Y).take k ++ (pk Y).drop (k+1):=by unfold pk;rw[List.map_append,List.map_take,List.map_drop]
theorem cut_sub{α:Type}(l:List α)(k:Nat):(l.take k ++ l.drop (k+1)).Sublist l:=by
 have:(l.take k ++ l.drop (k+1)).Sublist (l.take k ++ l.drop k):=(List.Sublist.refl _).append (by rw[<-List.drop_drop];exact(List.drop_sublist _ _))
 rwa [List.take_append_drop] at this
end Z18
theorem removedR_any{S:Nat->Prop}(lv tv:Value)(ns:List Sp.Str)(L:List PV)(w:World)(hL:PksOn S w lv L)(hS:∀ b,S b->b<w.heap.size)(htv:StrsAt w tv ns)(hts:ns.length<=9000)(hLl:L.length<=5000)
  (hsh:Z11.Shape lv L.length)(hset:Sp.Set (pk L)):
  Calls Tryz.prog 141 #[lv,tv] w (Z17.SetR S (Sp.removed (pk L) ns) w):=by
 obtain⟨w1,hw1⟩:∃ w1,w1=w.alloc (.cells #[.int .i64 0,.int .i64 0,.int .i64 0,.string ⟨#[]⟩] 34):=⟨_,rfl⟩
 have hb1:Below w.heap.size w w1:=by rw[hw1];exact(Below.refl _ _).alloc (Nat.le_refl _) _
 have hz1:w1.heap.size=w.heap.size+1:=by rw[hw1];simp
 have hr1:∀ o,w1.cell? ⟨w.heap.size,o,none⟩=(#[.int .i64 0,.int .i64 0,.int .i64 0,.string ⟨#[]⟩]:Array Value)[o]?:=fun o=>by rw[hw1,World.cell?_alloc_at _ _ _ _ rfl]
 have hrf:∀ W,Below w1.heap.size w1 W->(W.cell? ⟨w.heap.size,0,none⟩=some (.int .i64 0)/\W.cell? ⟨w.heap.size,1,none⟩=some (.int .i64 0)/\W.cell? ⟨w.heap.size,2,none⟩=some (.int .i64 0)/\W.cell? ⟨w.heap.size,3,none⟩=some (.string ⟨#[]⟩)) /\
   (W.frozen? ⟨w.heap.size,0,none⟩=false/\W.frozen? ⟨w.heap.size,1,none⟩=false/\W.frozen? ⟨w.heap.size,2,none⟩=false/\W.frozen? ⟨w.heap.size,3,none⟩=false)/\w.heap.size<W.heap.size:=fun W hW=>by
  have hc:=fun o=>(hW.cell (p:=⟨w.heap.size,o,none⟩) (by show w.heap.size<_;omega)).trans (hr1 o)
  have hz:=fun o=>(hW.frozen (p:=⟨w.heap.size,o,none⟩) (by show w.heap.size<_;omega)).trans (show w1.frozen? ⟨w.heap.size,o,none⟩=false by rw[hw1];simp)
  exact⟨⟨hc 0,hc 1,hc 2,hc 3⟩,⟨hz 0,hz 1,hz 2,hz 3⟩,by have:=hW.size;omega⟩
 have HRF:=hid hrf;have HW1:=hid hw1;have HB1:=hid hb1;have hza:=Nat.le_of_eq hz1;have hzb:=Nat.le_of_eq hz1.symm;have HS:=hid hS;have HLW:=hid (show PksOn S w1 lv L from hL.keep fun b hb=>hb1.block b (hS b hb));obtain⟨ta,tc,rfl,htc,htg⟩:=htv.get;have HTG:=hid htg;obtain⟨ti,hi0,hj0,hj1,hj2⟩:=info_parts info30;have HI0:=hid hi0;have HZ0:=hid hj0;have HZ1:=hid hj1;have HZ2:=hid hj2;have HONE:=hid (Z9.row_one L (Z9.on_one hL.2));have HSET:=hid hset;clear hL hS hset htv hw1 hb1 hz1 hr1 hrf htg hi0 hj0 hj1 hj2;go_enter Tryz.func141,Tryz.ntmps141;go_upto_region 1 with(fail)
 rw[<-HW1.out]
 go_cut [6] from 10 to 11 (fun v6 wx=>Z18.St S w1.heap.size (pk L) ns wx v6 0 L/\Below w1.heap.size w1 wx)
 case first =>
  rcases hsh with rfl|⟨g,cap,rfl⟩
  ·have hF0:L=[]:=by
    obtain⟨a,c,e,_⟩:=HLW.out.get;injection e with _ e2 _
    exact List.length_eq_zero_iff.1 e2.symm
   subst hF0;go_wp2_with (at_builtin;refine wpList_append_own_none rfl (.const (.slice none 0 0)) (.tmp 10) 111 rfl w1.heap.size 30 ti 5 Tryz.underlying111 HI0.out _ 0 [] rfl (World.ownsRow_nil _ _ _ _) rfl ?_);go_meet
   case rel=>exact⟨⟨PksOn.nil _ _,rfl,List.Pairwise.nil,by simp,.inl rfl⟩,Below.refl _ _⟩
  ·have HC:=hid (Z9.cells_row HLW.out)
   go_wp2_with (at_builtin;refine wpList_append_own w1 rfl (.const (.slice none 0 0)) (.tmp 10) 111 rfl w1.heap.size 30 ti _ 5 104 Tryz.underlying111 HI0.out HZ0.out HZ1.out HZ2.out rfl (by decide) _ 0 [] rfl (World.ownsRow_nil _ _ _ _) ⟨g,0,none⟩ L.length cap (Z9.row L) rfl (Z9.row_len L) HC.out HONE.out (by unfold maxLen;omega) (by omega) (Nat.le_refl _) ?_;intro v7 w7 hown7 hgrow7 _);have hb7:Below w1.heap.size w1 w7:=(Below.refl _ _).grown hgrow7 (Nat.le_refl _) fun g hg=>by cases hg
   simp only[Nat.zero_add,List.nil_append] at hown7;go_meet
   case rel =>
    refine⟨⟨(Z9.of_row hown7 fun x hx=>(HLW.out.2 x hx).keep fun b hb=>hb7.block b (by have:=HS.out b hb;omega)).mono fun b hb=>?_,rfl,HSET.out.apart,hLl,?_⟩,hb7⟩
    ·rcases hb with hb|hb
     ·exact .inl hb
     ·exact .inr ⟨hb.2,hb.1⟩
    ·rcases hown7.2 with⟨h1,h2⟩|⟨g,cap,cur,h1,_⟩
     ·exact .inl h1
     ·exact .inr ⟨g,0,cap,rfl,h1⟩
 case rest =>
  obtain⟨hst,hbc⟩:=hcut;have HST1:=hid hst;have HBC:=hid hbc;clear hst hbc HONE HLW;go_wp2_with fail
  go_loopw [6,7] (fun v6 i wr=>∃ (k:Nat) (Y:List PV),k<=ns.length/\i=.int .i64 k/\Z18.St S w1.heap.size (pk L) ns wr v6 k Y/\Below w1.heap.size w1 wr) (fun _ i _=>ns.length-(intOf i).toNat)
  case atStart=>exact⟨0,L,Nat.zero_le _,rfl,HST1.out,HBC.out⟩
  case round =>
   obtain⟨i,Y,hi,rfl,hst,hbel⟩:=hrel;have HST2:=hid hst;have HBL:=hid hbel;have hzr:=hbel.size;have hY:=hst.few;have hSW:∀ W,Below wr.heap.size wr W->∀ b,(S b\/(w1.heap.size<=b/\b<wr.heap.size))->b<W.heap.size:=fun W hW b hb=>by
    have:=hW.size
    rcases hb with hb|hb
    ·have:=HS.out b hb;omega
    ·omega
   have HSW:=hid hSW;have hv6:∃ a c,u6=.slice a Y.length c:=by obtain⟨a,c,e,_⟩:=hst.left.get;exact⟨a,c,e⟩
   obtain⟨la,lc,rfl⟩:=hv6;have hlc:Y.length<=lc:=by obtain⟨a,c,e,h,_⟩:=hst.left.get;injection e with _ _ e3;rw[e3];exact h
   clear hst hbel hSW
   by_cases hil:i<ns.length
   ·obtain⟨tb,toff,rfl,htb,htcell⟩:=HTG.out i hil
    have t0:=((HB1.out.trans (HBL.out.mono (by omega))).cell (p:=⟨tb,toff+i,none⟩) htb).trans htcell;have htb2:tb<wr.heap.size:=by omega
    have hdr:ns.drop i=ns[i] :: ns.drop (i+1):=List.drop_eq_getElem_cons hil;have hfar:=HST2.out.far;rw[hdr] at hfar;obtain⟨nm,hnm⟩:∃ nm,nm=ns[i]:=⟨_,rfl⟩
    rw[<-hnm] at hfar t0;have hfd:=findR_any _ Y nm wr HST2.out.left (HSW.out wr (Below.refl _ _)) (by omega);have HFAR:=hid hfar;clear hdr hfar hnm htcell
    cases hcn:(Sp.names (pk Y)).contains nm with
    | false =>
     have hj:=Z11.find_out hcn;rw[hj] at hfd;have HFD:=hid hfd;have hres:=Z18.removed_f (HFAR.out.trans (Z18.gone hcn));have HRES:=hid hres;clear hfd hres hcn hj;unfold sv at HFD;go_wp2_with fail;refine HFD.out.mono ?_;rintro e w5 ⟨rfl,hb5⟩;have hz5:=hb5.size;have hb15:Below w1.heap.size w1 w5:=HBL.out.trans (hb5.mono hzr);obtain⟨⟨c0,c1,c2,c3⟩,⟨z0,z1,z2,z3⟩,hR2⟩:=HRF.out w5 hb15;have t5:=(hb5.cell (p:=⟨tb,toff+i,none⟩) htb2).trans t0;have htb5:tb<w5.heap.size:=by omega
     have HBF:=hid (HB1.out.trans (hb15.mono (by omega)));clear hb15 hb5;go_wp2_with fail;go_region;go_wp2_with fail;refine bodyPost_ret (v:=.tuple #[.slice none 0 0,.agg #[.int .i64 3,.int .i64 (i:Int),.int .i64 0,.string ⟨nm.toArray⟩]]) (by simp[results,Tryz.results141,go_sem,c0,c1,c2,c3]) rfl ⟨?_,.inl ⟨_,HRES.out,by simp,by simp,rfl⟩⟩
     repeat' (first|exact HBF.out|refine Below.setCell ?_ (by simp) _|refine Below.alloc ?_ (by simp;omega) _|refine Below.drew ?_)
    | true =>
     obtain⟨p,hp,hpe⟩:=List.mem_map.1 (List.contains_iff_mem.1 hcn);obtain⟨k,hk,rfl⟩:=List.mem_iff_getElem.1 hp;have hat:=Z9.find_at HST2.out.apart hk;subst hpe;rw[hat] at hfd;have HFD:=hid hfd;have HNX:=hid (HFAR.out.trans (Z18.next HST2.out.apart hk));have hkY:k<Y.length:=by rw[<-pk_len Y];exact hk
     obtain⟨nm,hnm⟩:∃ nm,nm=(pk Y)[k].name:=⟨_,rfl⟩
     rw[<-hnm] at HFD t0;clear hfd hat hcn hp hnm HFAR;unfold sv at HFD;obtain⟨b,off,cap,hoff,hsla⟩:∃ b off cap,off=0/\Value.slice la Y.length lc=.slice (some ⟨b,off,none⟩) Y.length cap:=by
      rcases HST2.out.shape with e|e
      ·injection e with _ e2 _;omega
      ·exact e
     injection hsla with e1 _ e3
     subst e1 e3;have HOFF:=hid hoff;clear hoff;go_wp2_with fail;refine HFD.out.mono ?_;rintro e w5 ⟨rfl,hb5⟩;have hz5:=hb5.size;have hl5:PksOn (fun b=>S b\/(w1.heap.size<=b/\b<wr.heap.size)) w5 (.slice (some ⟨b,off,none⟩) Y.length lc) Y:=HST2.out.left.keep fun b hb=>hb5.block b (HSW.out wr (Below.refl _ _) b hb)
     have HB5:=hid (HBL.out.trans (hb5.mono hzr));have hcut:=Z9.cells_cut hl5 k;have HL5:=hid hl5;have HC1:=hid hcut.1;have HC2:=hid hcut.2;have HO1:=hid (Z9.row_one (Y.drop (k+1)) fun x hx=>Z9.on_one hl5.2 x (List.mem_of_mem_drop hx));have HAP:=hid HST2.out.apart;clear hcut hl5 hb5 HST2;have q1:(0:Int)<=(k:Int):=by omega
     have q2:(0:Int)<=(k:Int)+1:=by omega
     have q3:((k:Int)+1).toNat=k+1:=by omega
     have q4:k<=lc:=by omega
     have q8:IntKind.i64.wrap ((k:Int)+1)=(k:Int)+1:=IntWalk.i64_in _ (by omega);have q9:(k:Int)+1<=(Y.length:Int):=by omega
     have q10:(Y.length:Int)<=(lc:Int):=by omega
     have q5:k+1<=lc:=by omega
     have q6:k+1<=Y.length:=hkY;have q7:¬lc=k/\(k=0->lc=0->False):=⟨by omega,by omega⟩
     have q12:¬(k:Int)<0:=by omega
     have htl:(Z9.row (Y.take k)).length=k*5:=by rw[Z9.row_len,List.length_take];congr 1;omega
     have hdl:(Z9.row (Y.drop (k+1))).length=(Y.length-(k+1))*5:=by rw[Z9.row_len,List.length_drop]
     have HTL:=hid htl;have HDL:=hid hdl;clear htl hdl;have fin:∀ v7' w6,Below w5.heap.size w5 w6->PksOn (fun c=>S c\/(w1.heap.size<=c/\c<w6.heap.size)) w6 v7' (Y.take k ++ Y.drop (k+1))->(v7'=.slice none 0 0\/∃ b off cap,off=0/\v7'=.slice (some ⟨b,off,none⟩) (Y.take k ++ Y.drop (k+1)).length cap) ->
       Z18.St S w1.heap.size (pk L) ns w6 v7' (i+1) (Y.take k ++ Y.drop (k+1))/\Below w1.heap.size w1 w6:=fun v7' w6 h1 h2 h3=>by
      refine⟨⟨h2,by rw[Z18.pk_cut];exact HNX.out,by rw[Z18.pk_cut];exact HAP.out.sublist (Z18.cut_sub _ _),?_,h3⟩,HB5.out.trans (h1.mono (by omega))⟩;simp only[List.length_append,List.length_take,List.length_drop];omega
     have FIN:=hid fin;clear fin
     by_cases hlast:k+1=Y.length
     ·have hdr:Y.drop (k+1)=[]:=List.drop_of_length_le (by omega)
      have htk:PksOn (fun c=>S c\/(w1.heap.size<=c/\c<wr.heap.size)) w5 (.slice (some ⟨b,off,none⟩) k k) (Y.take k ++ Y.drop (k+1)):=by
       rw[hdr,List.append_nil];exact Z9.ahead HL5.out (by omega)
      have hF:=fun W (hW:Below w5.heap.size w5 W)=>FIN.out (.slice (some ⟨b,off,none⟩) k k) W hW ((htk.keep fun c hc=>hW.block c (HSW.out wr (Below.refl _ _) c hc |> fun h=>by omega)).mono fun c hc=>hc.imp id fun h=>⟨h.1,by have:=hW.size;omega⟩) (.inr ⟨b,off,k,HOFF.out,by rw[hdr,List.append_nil,List.length_take,Nat.min_eq_left (by omega)]⟩)
      have HF:=hid hF;clear hF htk;have q11:k<=Y.length:=by omega
      by_cases hlc:lc=k+1
      ·go_wp2_with fail
       go_region_law (refine step_append_room rfl (.tmp 35) (.tmp 39) 111 rfl 30 ti 5 Tryz.underlying111 HI0.out HZ1.out b off k k (by simp[Act.eval,Act.put]) ⟨b,off,none⟩ 0 0 [] (by simp[Act.eval,Act.put]) rfl (fun j u hj=>by simp at hj) (fun u hu=>by cases hu) (by omega) (fun j hj=>by simp at hj) ?_)
       simp[Act.put];go_wp2_with fail;go_roundw
       case rel=>exact⟨i+1,_,hil,by go_num,HF.out _ ((Below.refl _ _).drew)⟩
       case measure=>simp[intOf];omega
      ·have hlc':¬lc=Y.length:=by omega
       go_wp2_with fail
       go_region_law (refine step_append_room rfl (.tmp 35) (.tmp 39) 111 rfl 30 ti 5 Tryz.underlying111 HI0.out HZ1.out b off k k (by simp[Act.eval,Act.put]) ⟨b,off+(k+1)*5,none⟩ 0 (lc-(k+1)) [] (by simp[Act.eval,Act.put,hlast]) rfl (fun j u hj=>by simp at hj) (fun u hu=>by cases hu) (by omega) (fun j hj=>by simp at hj) ?_)
       simp[Act.put];go_wp2_with fail;go_roundw
       case rel=>exact⟨i+1,_,hil,by go_num,HF.out _ ((Below.refl _ _).drew)⟩
       case measure=>simp[intOf];omega
     ·have hlc:¬lc=k+1:=by omega
      go_wp2_with fail
      go_region_law (refine step_append_grows rfl (.tmp 35) (.tmp 39) 111 rfl 30 ti _ 5 104 Tryz.underlying111 HI0.out HZ0.out HZ1.out HZ2.out rfl (by decide) (some ⟨b,off,none⟩) k k (Z9.row (Y.take k)) (by simp[Act.eval,Act.put]) (fun e=>by cases e) HTL.out HC1.out ⟨b,off+(k+1)*5,none⟩ (Y.length-(k+1)) (lc-(k+1)) (Z9.row (Y.drop (k+1))) (by simp[Act.eval,Act.put]) HDL.out HC2.out HO1.out (by omega) (by unfold maxLen;omega) (by omega) ?_;intro v7' w6 hown7 hgrow7)
      simp[Act.put];go_wp2_with fail;go_roundw
      case rel =>
       have hb6:Below w5.heap.size w5 w6:=((Below.refl _ _).drew).grown hgrow7 (Nat.le_refl _) fun g hg=>by cases hg
       have hz6:=hb6.size;have hlen:k+(Y.length-(k+1))=(Y.take k ++ Y.drop (k+1)).length:=by rw[List.length_append,List.length_take,List.length_drop];omega
       rw[hlen] at hown7;refine⟨i+1,_,hil,by go_num,FIN.out v7' w6 hb6 ?_ ?_⟩
       ·rw[<-Z9.row_app] at hown7
        refine(Z9.of_row hown7 (S:=fun c=>S c\/(w1.heap.size<=c/\c<wr.heap.size)) fun x hx=>?_).mono fun c hc=>?_
        ·refine(HL5.out.2 x ?_).keep fun c hc=>hb6.block c (by have:=HSW.out wr (Below.refl _ _) c hc;omega)
         rcases List.mem_append.1 hx with hx|hx
         ·exact List.mem_of_mem_take hx
         ·exact List.mem_of_mem_drop hx
        ·rcases hc with(hc|hc)|hc
         ·exact .inl hc
         ·exact .inr ⟨hc.1,by omega⟩
         ·refine .inr ⟨?_,hc.1⟩
          have h2:w5.heap.size<=c:=hc.2;omega
       ·rcases hown7.2 with⟨h1,h2⟩|⟨g,cap,cur,h1,_⟩
        ·exact .inl h1
        ·exact .inr ⟨g,0,cap,rfl,h1⟩
      case measure=>simp[intOf];omega
   ·obtain rfl:i=ns.length:=by omega
    have hfar:=HST2.out.far;rw[List.drop_length] at hfar;have hfar':Sp.removeAll 0 (pk L) ns=.inr (pk Y):=hfar;have hlk:=lackR_any _ Y wr HST2.out.left (HSW.out wr (Below.refl _ _)) (by omega);have HRR:=hid (Z18.removed_r hfar');have HRL:=hid (Z18.removed_l hfar');obtain⟨n1,hn1⟩:∃ n1,n1=Sp.lacking (pk Y):=⟨_,rfl⟩
    rw[<-hn1] at hlk HRR HRL;have HLK:=hid hlk;clear hlk hfar hfar' hn1;go_wp2_with fail;refine HLK.out.mono ?_;rintro e w5 ⟨rfl,hb5⟩;have hz5:=hb5.size;have hb15:Below w1.heap.size w1 w5:=HBL.out.trans (hb5.mono hzr);obtain⟨⟨c0,c1,c2,c3⟩,⟨z0,z1,z2,z3⟩,hR2⟩:=HRF.out w5 hb15;have HBF:=hid (HB1.out.trans (hb15.mono (by omega)));have HB5:=hid hb5;clear hb15 hb5;unfold sv
    cases n1 with
    | cons x xs =>
     have HRES:=hid (HRL.out (by simp));go_wp2_with fail;refine bodyPost_ret (v:=.tuple #[.slice none 0 0,.agg #[.int .i64 4,.int .i64 0,.int .i64 0,.string ⟨(x :: xs).toArray⟩]]) (by simp[results,Tryz.results141,go_sem,c0,c1,c2,c3]) rfl ⟨?_,.inl ⟨_,HRES.out,by simp,by simp,rfl⟩⟩
     repeat' (first|exact HBF.out|refine Below.setCell ?_ (by simp) _|refine Below.alloc ?_ (by simp;omega) _|refine Below.drew ?_)
    | nil =>
     have HRES:=hid (HRR.out rfl);go_wp2_with fail;have hX:=Z17.four w5 w.heap.size 0 0 0 ⟨#[]⟩;refine bodyPost_ret (v:=.tuple #[.slice la Y.length lc,.agg #[.int .i64 0,.int .i64 0,.int .i64 0,.string ⟨#[]⟩]]) (by simp[results,Tryz.results141,go_sem,c0,c1,c2,c3]) rfl ⟨?_,.inr ⟨_,_,HRES.out,rfl,?_,?_⟩⟩
     ·repeat' (first|exact HBF.out|refine Below.setCell ?_ (by simp) _|refine Below.alloc ?_ (by simp;omega) _|refine Below.drew ?_)
     ·refine((HST2.out.left.keep fun b hb=>(hX b ?_).trans (HB5.out.block b (HSW.out wr (Below.refl _ _) b hb))).mono fun b hb=>?_)
      ·rcases hb with hb|hb
       ·have:=HS.out b hb;omega
       ·omega
      ·rcases hb with hb|hb
       ·exact .inl hb
       ·exact .inr ⟨by omega,by simp;omega⟩
     ·rcases HST2.out.shape with e|⟨b,off,cap,rfl,e⟩
      ·exact .inl e
      ·exact .inr ⟨b,cap,e⟩
end
section
open Go.RowKit
theorem sameL_any(v1 v2:Value)(l1 l2:List Sp.Str)(w:World)(h1:StrsAt w v1 l1)(h2:StrsAt w v2 l2)(hl:l1.length<=1000000):
  Calls Tryz.prog 95 #[v1,v2] w fun e w'=>e=.returned (.bool (decide (l1=l2)))/\Below w.heap.size w w':=by
 obtain⟨a1,c1,rfl,_,g1⟩:=h1.get;obtain⟨a2,c2,rfl,_,g2⟩:=h2.get;have HG1:=hid g1;have HG2:=hid g2;clear h1 h2 g1 g2
 by_cases hne:l1.length=l2.length
 ·have hne':(l1.length:Int)=(l2.length:Int):=by omega
  rw[hne];go_enter Tryz.func95,Tryz.ntmps95;go_wp2_with fail
  go_loopw [5] (fun i wr=>∃ k:Nat,k<=l2.length/\i=.int .i64 k/\l1.take k=l2.take k/\Below w.heap.size w wr) (fun i _=>l2.length-(intOf i).toNat)
  case atStart=>exact⟨0,Nat.zero_le _,rfl,rfl,Below.refl _ _⟩
  case round =>
   obtain⟨k,hk,rfl,htk,hbel⟩:=hrel;have HTK:=hid htk;have HBL:=hid hbel;have hzr:=hbel.size;clear htk hbel
   by_cases hkl:k<l2.length
   ·have hkl1:k<l1.length:=by omega
    obtain⟨b1,o1,rfl,hb1,x1⟩:=HG1.out k hkl1;obtain⟨b2,o2,rfl,hb2,x2⟩:=HG2.out k hkl;have d1:=(HBL.out.cell (p:=⟨b1,o1+k,none⟩) hb1).trans x1;have d2:=(HBL.out.cell (p:=⟨b2,o2+k,none⟩) hb2).trans x2;have hr1:b1<wr.heap.size:=by omega
    have hr2:b2<wr.heap.size:=by omega
    have t1:l1.take (k+1)=l1.take k ++ [l1[k]]:=List.take_succ_eq_append_getElem hkl1;have t2:l2.take (k+1)=l2.take k ++ [l2[k]]:=List.take_succ_eq_append_getElem hkl;obtain⟨s1,hs1⟩:∃ s,s=l1[k]:=⟨_,rfl⟩
    obtain⟨s2,hs2⟩:∃ s,s=l2[k]:=⟨_,rfl⟩
    rw[<-hs1] at d1 t1;rw[<-hs2] at d2 t2;have HT1:=hid t1;have HT2:=hid t2;have HS1:=hid hs1;have HS2:=hid hs2;clear x1 x2 t1 t2 hs1 hs2
    cases he:(s1 == s2) with
    | true =>
     have hee:s1=s2:=by simpa using he
     go_wp2_with fail;go_quiet (fail);go_wp2_with fail;go_roundw
     case rel=>exact⟨k+1,hkl,by go_num,by rw[HT1.out,HT2.out,HTK.out,hee],below_drewN HBL.out _⟩
     case measure=>simp[intOf];omega
    | false =>
     have hnn:l1≠l2:=by
      rintro rfl;rw[HS1.out,HS2.out] at he;simp at he
     have HD:=hid (decide_eq_false hnn);clear hnn;go_wp2_with fail;go_quiet (fail);go_wp2_with fail;go_ret;exact⟨by rw[HD.out];rfl,below_drewN HBL.out _⟩
   ·obtain rfl:k=l2.length:=by omega
    have heq:l1=l2:=by
     have:=HTK.out
     rwa [List.take_length,List.take_of_length_le (Nat.le_of_eq hne)] at this
    have HD:=hid (decide_eq_true heq);clear heq;go_wp2_with fail;go_ret;exact⟨by rw[HD.out];rfl,HBL.out⟩
 ·have hne':¬(l1.length:Int)=(l2.length:Int):=by omega
  have hnn:l1≠l2:=fun e=>hne (by rw[e])
  have HD:=hid (decide_eq_false hnn);clear hnn;go_enter Tryz.func95,Tryz.ntmps95;go_wp2_with fail;go_ret;exact⟨by rw[HD.out];rfl,Below.refl _ _⟩
structure OpV where
 kind:Int
 a:Int
 b:Int
 s:Sp.Str
def OpV.cells(o:OpV):List Value:=[.int .i64 o.kind,.int .i64 o.a,.int .i64 o.b,sv o.s]
def OpV.agg(o:OpV):Value:=.agg #[.int .i64 o.kind,.int .i64 o.a,.int .i64 o.b,sv o.s]
def OpsAt(w:World)(v:Value)(l:List OpV):Prop:=SlOn (fun b=>b<w.heap.size) w 4 v (l.map OpV.cells)
theorem OpsAt.get{w:World}{v:Value}{l:List OpV}(h:OpsAt w v l):∃ a cap,v=.slice a l.length cap/\l.length<=cap/\∀ k,(hk:k<l.length)->∃ b off,a=some ⟨b,off,none⟩/\b<w.heap.size /\
  w.cell? ⟨b,off+k*4,none⟩=some (.int .i64 l[k].kind)/\w.cell? ⟨b,off+k*4+1,none⟩=some (.int .i64 l[k].a)/\w.cell? ⟨b,off+k*4+2,none⟩=some (.int .i64 l[k].b)/\w.cell? ⟨b,off+k*4+3,none⟩=some (sv l[k].s):=by
 obtain⟨a,cap,hv,hc,h'⟩:=h;refine⟨a,cap,by simpa using hv,by simpa using hc,fun k hk=>?_⟩;obtain⟨b,off,ha,hb,hx⟩:=h' k (OpV.cells l[k]) (by rw[List.getElem?_map,List.getElem?_eq_getElem hk];rfl);exact⟨b,off,ha,hb,hx 0 _ rfl,hx 1 _ rfl,hx 2 _ rfl,hx 3 _ rfl⟩
def sumS(l:List OpV):Nat:=l.length+(l.map fun o=>o.s.length).sum
theorem sumS_part(l:List OpV){k:Nat}(hk:k<l.length):((l.take (k+1)).map fun o=>o.s.length).sum=((l.take k).map fun o=>o.s.length).sum+l[k].s.length:=by
 rw[List.take_succ_eq_append_getElem hk,List.map_append,List.sum_append];simp
theorem sumS_le(l:List OpV)(k:Nat):((l.take k).map fun o=>o.s.length).sum<=(l.map fun o=>o.s.length).sum:=V11.sum_sub ((List.take_sublist k l).map _)
theorem smallOps_any(v:Value)(l:List OpV)(w:World)(h:OpsAt w v l)(hl:l.length<=2305843009213693952)(hs:∀ o∈l,o.s.length<=2305843009213693952):
  Calls Tryz.prog 58 #[v] w fun e w'=>e=.returned (.bool (decide (sumS l<=8192)))/\w'=w:=by
 obtain⟨a,cap,rfl,_,hg⟩:=h.get;have HG:=hid hg;have HS:=hid hs;clear h hg hs
 by_cases hbig:8192<l.length
 ·have HD:=hid (decide_eq_false (show ¬sumS l<=8192 by unfold sumS;omega))
  have hb':(8192:Int)<(l.length:Int):=by omega
  go_enter Tryz.func58,Tryz.ntmps58;go_wp2_with fail;go_ret;exact⟨by rw[HD.out];rfl,rfl⟩
 ·have hb':¬(8192:Int)<(l.length:Int):=by omega
  go_enter Tryz.func58,Tryz.ntmps58;go_wp2_with fail
  go_loop [3,4] (fun n i=>∃ k:Nat,k<=l.length/\i=.int .i64 k/\∃ m:Nat,n=.int .i64 m/\m=l.length+((l.take k).map fun o=>o.s.length).sum/\m<=8192) (fun _ i=>l.length-(intOf i).toNat)
  case atStart=>exact⟨0,Nat.zero_le _,rfl,l.length,rfl,by simp,by omega⟩
  case round =>
   obtain⟨k,hk,rfl,m,rfl,hm,hm8⟩:=hrel
   by_cases hkl:k<l.length
   ·obtain⟨b,off,rfl,hbl,_,_,_,x3⟩:=HG.out k hkl
    have hsl:=HS.out l[k] (List.getElem_mem hkl);have hp:=sumS_part l hkl;have hle:=sumS_le l (k+1);obtain⟨s,hse⟩:∃ s,s=l[k].s:=⟨_,rfl⟩
    rw[<-hse] at x3 hsl hp;have q1:IntKind.i64.wrap ((m:Int)+(s.length:Int))=(m:Int)+(s.length:Int):=IntWalk.i64_in _ (by omega);have HP:=hid hp;have HM:=hid hm;unfold sv at x3;clear hp hm hse
    by_cases hov:8192<m+s.length
    ·have hov':(8192:Int)<(m:Int)+(s.length:Int):=by omega
     have HD:=hid (decide_eq_false (show ¬sumS l<=8192 by
      unfold sumS;have:=HP.out;have:=HM.out;omega))
     clear hle;go_wp2_with fail;go_ret;exact⟨by rw[HD.out];rfl,rfl⟩
    ·have hov':¬(8192:Int)<(m:Int)+(s.length:Int):=by omega
     clear hle;go_wp2_with fail;go_round
     case rel=>exact⟨k+1,hkl,by go_num,m+s.length,by go_num,by rw[HP.out,HM.out];omega,by omega⟩
     case measure=>simp[intOf];omega
   ·obtain rfl:k=l.length:=by omega
    rw[List.take_length] at hm;have HD:=hid (decide_eq_true (show sumS l<=8192 by unfold sumS;omega));clear hm;go_wp2_with fail;go_ret;exact⟨by rw[HD.out];rfl,rfl⟩
end
section
open Go.ChangeShapes Go.WideShapes Go.ChangeAt Go.RowKit
instance : Inhabited OpV:=⟨⟨0,0,0,[]⟩⟩
theorem cells115:Tryz.prog.cellsOf 115=4:=by kernel_rfl
theorem cells3:Tryz.prog.cellsOf 3=1:=by kernel_rfl
theorem bytes115:Tryz.prog.bytesOf 115=40:=by kernel_rfl
def OneOp(W:World)(a:Addr)(o:OpV):Prop:=
 W.cell? a=some (.int .i64 o.kind)/\W.cell? (a.add 1)=some (.int .i64 o.a)/\W.cell? (a.add 2)=some (.int .i64 o.b)/\W.cell? (a.add 3)=some (sv o.s) /\
 (-9223372036854775808<=o.a/\o.a<=9223372036854775807)/\(-9223372036854775808<=o.b/\o.b<=9223372036854775807)/\o.s.length<=2305843009213693952
theorem one_op{H:Type}{enc:TypeId × Value->H}{W:World}{n:Nat}{a:Addr}{cs:List Value}{d:DataW H}{pl:List MemPlace}(hcs:W.cells? 0 a 4=some cs)(h:DataW.trod enc Tryz.prog W 0 (fun _=>true) true n 115 cs=some (d,pl))
  (hsz:∀ m∈d.weights Tryz.prog 115,m<=reachBytes):∃ o:OpV,OneOp W a o:=by
 obtain⟨_,hl4,hc⟩:=World.cells?_some hcs;obtain⟨y0,y1,y2,y3,m,hy,_,t0,t1,t2,t3⟩:=Go.Joins.trod_struct4 Tryz.underlying115 h
 match cs,hl4 with
 | [c0,c1,c2,c3],_ =>
  simp only[cells3,cells9,List.drop_zero,List.drop_succ_cons,List.take_succ_cons,List.take_zero] at t0 t1 t2 t3;obtain⟨k0,e0,f0,_⟩:=DataW.trod_int Tryz.underlying3 t0;obtain⟨k1,e1,f1,g1⟩:=DataW.trod_int Tryz.underlying3 t1;obtain⟨k2,e2,f2,g2⟩:=DataW.trod_int Tryz.underlying3 t2;obtain⟨s,e3,f3,_⟩:=DataW.trod_string Tryz.underlying9 t3;injection e0 with e0
  injection e1 with e1
  injection e2 with e2
  injection e3 with e3
  subst e0 e1 e2 e3 f0 f1 f2 f3;simp only[Prod.mk.injEq] at hy;obtain⟨rfl,_⟩:=hy;have hs:=hsz s.data.toList.length (by simp[DataW.weights,DataW.weightsEach,Tryz.underlying115]);have hrb:reachBytes=140737488351232:=rfl;have h0:=hc 0 (by decide);have e0:a.add 0=a:=by unfold Addr.add;rw[if_pos rfl]
  rw[e0] at h0;refine⟨⟨k0,k1,k2,bl s⟩,h0,hc 1 (by decide),hc 2 (by decide),(hc 3 (by decide)).trans ?_,wf64 g1,wf64 g2,?_⟩
  ·show some (Value.string s)=some (sv (bl s))
   unfold sv;rw[mk_bl]
  ·show(bl s).length<=_
   unfold bl;omega
theorem open_ops{H:Type}{enc:TypeId × Value->H}{W:World}{base:Nat}{v:Value}{d:DataW H}{p:List MemPlace}(hval:Value.okWide Tryz.prog W .any base 75 v)(h:DataW.Trod enc Tryz.prog W 0 (fun _=>true) true 75 v d p)
  (hsz:∀ n∈d.weights Tryz.prog 75,n<=reachBytes):
  ∃ l:List OpV,OpsAt W v l/\l.length<=2305843009213693952/\(∀ o∈l,o.s.length<=2305843009213693952)/\∀ o∈l,(-9223372036854775808<=o.a/\o.a<=9223372036854775807)/\(-9223372036854775808<=o.b/\o.b<=9223372036854775807):=by
 obtain⟨a0,len,cap,rfl⟩:=okWide_slice Tryz.underlying75 hval;obtain⟨fuel,hf⟩:=h
 rcases Go.Deep.open_slice Tryz.underlying75 hf with⟨hcs,hx⟩|⟨a,len',cap',m,n,D,Pl,hcs,_,hl,hm,hmm,hx,hel⟩
 ·simp[Value.cells] at hcs
  obtain⟨rfl,rfl,rfl⟩:=hcs;exact⟨[],SlOn.nil _ _ _,by simp,fun s hs=>(by cases hs),fun s hs=>(by cases hs)⟩
 ·simp[Value.cells] at hcs
  obtain⟨rfl,rfl,rfl⟩:=hcs;simp only[if_true] at hmm;subst hmm;simp only[Prod.mk.injEq] at hx;obtain⟨rfl,rfl⟩:=hx;have hrb:reachBytes=140737488351232:=rfl;have h1:len<=2305843009213693952:=by
   have:=hsz _ (show((((List.range len).map D).length+((List.range (m-len)).map fun j=>D (len+j)).length)*Tryz.prog.bytesOf 115)∈_ by simp[DataW.weights,Tryz.underlying75]);rw[bytes115] at this;simp only[List.length_map,List.length_range] at this;omega
  have key:∀ i,i<len->∃ o:OpV,OneOp W (a.add (i*4)) o:=fun i hi=>by
   obtain⟨cs',hcs',htr⟩:=hel i (by omega);rw[cells115] at hcs';refine one_op hcs' htr fun k hk=>hsz k ?_
   simp only[DataW.weights,Tryz.underlying75,List.mem_cons,List.mem_append];exact Or.inr (Or.inl (weightsAll_mem (List.mem_map.2 ⟨i,List.mem_range.2 hi,rfl⟩) _ hk))
  obtain⟨f,hfp⟩:=Go.Deep.choose_lt key;refine⟨(List.range len).map f,⟨some a,m,by simp,by simpa using hl,fun k x hk=>?_⟩,by simpa using h1,fun o ho=>?_,fun o ho=>?_⟩
  ·rw[List.map_map,List.getElem?_map] at hk
   have hk2:k<len:=by
    rcases Nat.lt_or_ge k len with h|h
    ·exact h
    ·rw[List.getElem?_eq_none (by simpa using h)] at hk;cases hk
   rw[List.getElem?_range hk2] at hk;simp only[Option.map_some,Option.some.injEq,Function.comp] at hk;subst hk;obtain⟨q0,q1,q2,q3,_⟩:=hfp k hk2;obtain⟨b,off,spot⟩:=a;have hspot:spot=none:=by
    obtain⟨z0,_⟩:=hfp 0 (by omega)
    simpa[Addr.add] using World.cell?_spot z0
   subst hspot;have hadd:((⟨b,off,none⟩:Addr).add (k*4))=⟨b,off+k*4,none⟩:=DK.addr_add b off (k*4);rw[hadd] at q0 q1 q2 q3;rw[DK.addr_add] at q1 q2 q3;refine⟨b,off,rfl,?_,fun j u hj=>?_⟩
   ·obtain⟨o,ho,_⟩:=cells_of_cell q0
    exact(Array.getElem?_eq_some_iff.1 ho).1
   ·match j with
    | 0=>exact(by simpa[OpV.cells] using hj:_=u) ▸ q0
    | 1=>exact(by simpa[OpV.cells] using hj:_=u) ▸ q1
    | 2=>exact(by simpa[OpV.cells] using hj:_=u) ▸ q2
    | 3=>exact(by simpa[OpV.cells] using hj:_=u) ▸ q3
    | j+4=>simp[OpV.cells] at hj
  ·obtain⟨i,hi,rfl⟩:=List.mem_map.1 ho
   exact(hfp i (List.mem_range.1 hi)).2.2.2.2.2.2
  ·obtain⟨i,hi,rfl⟩:=List.mem_map.1 ho
   exact⟨(hfp i (List.mem_range.1 hi)).2.2.2.2.1,(hfp i (List.mem_range.1 hi)).2.2.2.2.2.1⟩
theorem read75:Tryz.prog.readableRec 75=true/\75<Tryz.prog.types.size:=⟨by kernel_rfl,of_decide_eq_true (by kernel_rfl)⟩
theorem readOps:∀ t∈[3,75],Tryz.prog.readableRec t=true/\t<Tryz.prog.types.size:=by
 intro t ht;simp only[List.mem_cons,List.not_mem_nil,or_false] at ht
 rcases ht with rfl|rfl
 ·exact read3
 ·exact read75
end
section
open Go.RowKit Go.Maps
structure Bare(B:Nat)(O:Nat->Prop)(w:World)(x:Nat)(st:Sp.St):Prop where
 ses:Ses O w x st
 low:∀ k,O k->B<=k/\k<w.heap.size
theorem Run.bare{B S:Nat}{O:Nat->Prop}{w:World}{x:Nat}{st:Sp.St}(h:Run B S O w x st):Bare B O w x st:=⟨h.ses,h.low⟩
theorem fit_live{S:Nat}{x:Sp.St}(h:V10.Live S x)(hl:x.last<=1000000):Fit x:=fit_of_live h (by omega)
namespace Bare
variable {B:Nat} {O M:Nat->Prop} {w w':World} {x:Nat} {st:Sp.St}
theorem below(h:Bare B O w x st)(hb:Below w.heap.size w w'):Bare B O w' x st:=⟨h.ses.below hb,fun k hk=>⟨(h.low k hk).1,Nat.lt_of_lt_of_le (h.low k hk).2 hb.size⟩⟩
theorem chg(h:Bare B O w x st)(hc:Chg M w w')(hm:∀ k,O k->¬M k):Bare B O w' x st:=⟨h.ses.keep (fun k hk hl=>hc.block k hl (hm k hk)) hc.size,fun k hk=>⟨(h.low k hk).1,Nat.lt_of_lt_of_le (h.low k hk).2 hc.size⟩⟩
theorem grown(hz:w.heap.size<=w'.heap.size)(hB:B<=w.heap.size)(h:∀ k,O k->B<=k/\k<w.heap.size)(hs:Ses (fun k=>O k\/w.heap.size<=k) w' x st):Bare B (fun k=>O k\/w.heap.size<=k/\k<w'.heap.size) w' x st:=
 ⟨hs.mono fun k hl hk=>hk.imp id fun h=>⟨h,hl⟩,fun k hk=>by
  rcases hk with hk|hk
  ·exact⟨(h k hk).1,by have:=(h k hk).2;omega⟩
  ·exact⟨by omega,hk.2⟩⟩
theorem install{G:Nat}(hw:Wd G w)(h:Bare B O w x st)(hG:G<=B)(hB:B<=w.heap.size)(hf:Fit st)(tv:Value)(ts:List Sp.Str)(htv:StrsAt w tv ts)(hts:ts.length<=9000):
  Calls Tryz.prog 25 #[.pointer (some ⟨x,0,none⟩),tv] w fun e w'=>e=.returned (faultV (st.install ts).1)/\Chg O w w'/\Bare B (fun k=>O k\/w.heap.size<=k/\k<w'.heap.size) w' x (st.install ts).2:=by
 refine(sesInstall_any hw.glob hw.err (fun k hk=>Nat.le_trans hG (h.low k hk).1) h.ses hf tv ts htv hts).mono ?_;rintro e w' ⟨rfl,hc,hs⟩;exact⟨rfl,hc,grown hc.size hB h.low hs⟩
theorem remove{G:Nat}(hw:Wd G w)(h:Bare B O w x st)(hG:G<=B)(hB:B<=w.heap.size)(hf:Fit st)(tv:Value)(ts:List Sp.Str)(htv:StrsAt w tv ts)(hts:ts.length<=9000)(hnl:∀ n∈ts,n.length<=10000):
  Calls Tryz.prog 32 #[.pointer (some ⟨x,0,none⟩),tv] w fun e w'=>e=.returned (faultV (st.remove ts).1)/\Chg O w w'/\Bare B (fun k=>O k\/w.heap.size<=k/\k<w'.heap.size) w' x (st.remove ts).2:=by
 refine(sesRemove_any hw.glob hw.err (fun k hk=>Nat.le_trans hG (h.low k hk).1) h.ses hf tv ts htv hts hnl).mono ?_;rintro e w' ⟨rfl,hc,hs⟩;exact⟨rfl,hc,grown hc.size hB h.low hs⟩
theorem plan{G:Nat}(hw:Wd G w)(h:Bare B O w x st)(hf:Fit st)(tv:Value)(ts:List Sp.Str)(htv:StrsAt w tv ts)(hts:ts.length<=9000):
  Calls Tryz.prog 23 #[.pointer (some ⟨x,0,none⟩),tv] w fun e w'=>∃ v,e=.returned (.tuple #[v,faultV (st.plan ts).1])/\StrsFrom w.heap.size w' v (st.plan ts).2/\Below w.heap.size w w':=
 sesPlan_any hw.glob hw.err h.ses hf tv ts htv hts
theorem packages(h:Bare B O w x st){S:Nat}(hl:V10.Live S st):Calls Tryz.prog 26 #[.pointer (some ⟨x,0,none⟩)] w fun e w'=>∃ v,e=.returned (.tuple #[v,.bool true])/\StrsFrom w.heap.size w' v (Sp.texts st.L)/\Below w.heap.size w w':=
 PK.packages_any h.ses hl.ok.set (by have:=V14.live_few hl;omega)
theorem cut(h:Bare B O w x st)(k:Int)(hk:k<=9223372036854775807):
  Calls Tryz.prog 28 #[.pointer (some ⟨x,0,none⟩),.int .i64 k] w fun e w'=>e=.returned (.tuple #[])/\Chg O w w'/\Bare B O w' x (st.cut k):=by
 refine(sesCut_any h.ses k hk).mono ?_;rintro e w' ⟨rfl,hc,hs⟩;exact⟨rfl,hc,hs,fun k hk=>⟨(h.low k hk).1,Nat.lt_of_lt_of_le (h.low k hk).2 hc.size⟩⟩
theorem lost(h:Bare B O w x st):Calls Tryz.prog 29 #[.pointer (some ⟨x,0,none⟩)] w fun e w'=>e=.returned (.bool st.d.dead)/\w'=w:=sesLost_any h.ses
theorem reopen{G S:Nat}(hw:Wd G w)(h:Bare B O w x st)(hG:G<=B)(hB:B<=w.heap.size)(mask after:Int)(hm1:-9223372036854775808<=mask)(hm2:mask<=9223372036854775807)(ha:after<=9223372036854775807)
  (hlate:st.d.late.length<900000)(hS:16<=st.d.seen.length)(hl:V10.Live S (st.reopen mask after)):
  Calls Tryz.prog 30 #[.pointer (some ⟨x,0,none⟩),.int .i64 mask,.int .i64 after] w fun e w'=>e=.returned (faultV Sp.okF)/\Chg O w w'/\Bare B (fun k=>O k\/w.heap.size<=k/\k<w'.heap.size) w' x (st.reopen mask after):=by
 refine(sesReopen_any hw.glob (fun k hk=>Nat.le_trans hG (h.low k hk).1) h.ses mask after hm1 hm2 ha (by omega) hS hl.ok (by have:=V14.live_few hl;omega)).mono ?_;rintro e w' ⟨rfl,hc,hs⟩;exact⟨rfl,hc,grown hc.size hB h.low hs⟩
end Bare
def StrsIn(B C:Nat)(w:World)(v:Value)(l:List Sp.Str):Prop:=SlOn (fun k=>B<=k/\k<C) w 1 v (l.map fun s=>[sv s])
namespace StrsIn
variable {B C:Nat} {M:Nat->Prop} {w w':World} {v:Value} {l:List Sp.Str}
theorem of_from(h:StrsFrom B w v l)(hC:w.heap.size<=C):StrsIn B C w v l:=SlOn.mono h fun k hk=>⟨hk.1,by have:=hk.2;omega⟩
theorem below(h:StrsIn B C w v l)(hb:Below w.heap.size w w')(hC:C<=w.heap.size):StrsIn B C w' v l:=SlOn.keep h fun k hk=>hb.block k (by have:=hk.2;omega)
theorem chg(h:StrsIn B C w v l)(hc:Chg M w w')(hC:C<=w.heap.size)(hm:∀ k,M k->k<B\/C<=k):StrsIn B C w' v l:=SlOn.keep h fun k hk=>hc.block k (by have:=hk.2;omega) fun hx=>by
 have:=hm k hx;have:=hk.1;have:=hk.2;omega
theorem at_(h:StrsIn B C w v l)(hC:C<=w.heap.size):StrsAt w v l:=SlOn.mono h fun k hk=>by have:=hk.2;omega
end StrsIn
end
section
namespace V18
open Sp (Str Pk Dk St)
theorem names_contains{T U:List Pk}(hp:T.Perm U)(n:Str):(Sp.names T).contains n=(Sp.names U).contains n:=by
 rw[Bool.eq_iff_iff,List.contains_iff_mem,List.contains_iff_mem];exact(hp.map _).mem_iff
theorem add_congr:∀ (F:List Pk) (i:Nat) {T U:List Pk},T.Perm U->(∃ f,Sp.addAll i T F=.inl f/\Sp.addAll i U F=.inl f)\/(∃ A B,Sp.addAll i T F=.inr A/\Sp.addAll i U F=.inr B/\A.Perm B)
 | [],i,T,U,hp=>.inr ⟨T,U,rfl,rfl,hp⟩
 | p :: r,i,T,U,hp=>by
  rw[Sp.addAll,Sp.addAll,names_contains hp]
  split
  ·exact .inl ⟨_,rfl,rfl⟩
  ·exact add_congr r (i+1) (hp.append_right [p])
theorem judged_congr{T U F A B:List Pk}(hT:T.Perm U)(hA:A.Perm B)(hgA:∀ p∈A,V3.Good p)(hgF:∀ p∈F,V3.Good p):Sp.judged T F A=Sp.judged U F B:=by
 have hn:=V9.names_ne hgA;have h1:=V5.lacking_perm hn fun p=>hA.mem_iff
 have h2:=V5.barring_perm hn fun p=>hA.mem_iff
 have h3:=V5.clash_perm (V9.paths_ne hgA) hA;obtain⟨h4,h5⟩:=V5.order_perm (fun p=>hT.mem_iff) F.length (V9.names_ne hgF) (List.Perm.refl F);have h4':(Sp.order T F).1=(Sp.order U F).1:=h4;have h5':(Sp.order T F).2.Perm (Sp.order U F).2:=h5;have h6:(Sp.order T F).2.isEmpty=(Sp.order U F).2.isEmpty:=by
  rw[Bool.eq_iff_iff,List.isEmpty_iff,List.isEmpty_iff];exact⟨fun e=>by rw[e] at h5';exact List.nil_perm.1 h5',fun e=>by rw[e] at h5';exact List.perm_nil.1 h5'⟩
 have h7:Sp.least (Sp.names (Sp.order T F).2)=Sp.least (Sp.names (Sp.order U F).2):=by
  refine V5.least_congr (fun x hx=>?_) fun x=>(h5'.map _).mem_iff
  obtain⟨p,hp,rfl⟩:=List.mem_map.1 hx;have hs:∀ (T:List Pk) (n:Nat) (l:List Pk),∀ p∈(Sp.orderN T n l).2,p∈l:=by
   intro T n
   induction n with
   | zero=>intro l p hp;exact hp
   | succ n ih =>
    intro l p hp;unfold Sp.orderN at hp
    split at hp
    ·exact hp
    ·exact(List.mem_filter.1 (ih _ p hp)).1
  exact V9.names_ne hgF p (hs _ _ _ p hp)
 unfold Sp.judged;rw[h1,h2,h3,h4',h6,h7]
theorem planned_congr{T U:List Pk}(hT:Sp.Set T)(hp:T.Perm U)(ts:List Str):
  (∃ f,Sp.planned T ts=.inl f/\Sp.planned U ts=.inl f)\/(∃ A B o,Sp.planned T ts=.inr (A,o)/\Sp.planned U ts=.inr (B,o)/\A.Perm B):=by
 unfold Sp.planned
 cases hr:Sp.readAll 0 ts with
 | inl f=>exact .inl ⟨f,rfl,rfl⟩
 | inr F =>
  simp only;have hgF:=fun p hp=>V9.read_good hr p hp
  rcases add_congr F 0 hp with⟨f,h1,h2⟩|⟨A,B,h1,h2,h3⟩
  ·rw[h1,h2];exact .inl ⟨f,rfl,rfl⟩
  ·rw[h1,h2]
   simp only;obtain⟨a1,a2,a3⟩:=(V9.add_iff _ _ _ _).1 h1;have hgA:∀ p∈A,V3.Good p:=by rw[a1];exact(V9.set_append hT hgF a2 a3).good
   rw[judged_congr (F:=F) hp h3 hgA hgF]
   cases Sp.judged U F B with
   | inl f=>exact .inl ⟨f,rfl,rfl⟩
   | inr o=>exact .inr ⟨A,B,o,rfl,rfl,h3⟩
theorem size_perm{A B:List Pk}(h:A.Perm B):Sp.size A=Sp.size B:=by unfold Sp.size;exact(h.map _).sum_nat
theorem removeAll_congr:∀ (ns:List Str) (i:Nat) {T U:List Pk},T.Perm U->(∃ f,Sp.removeAll i T ns=.inl f/\Sp.removeAll i U ns=.inl f)\/(∃ A B,Sp.removeAll i T ns=.inr A/\Sp.removeAll i U ns=.inr B/\A.Perm B)
 | [],i,T,U,hp=>.inr ⟨T,U,rfl,rfl,hp⟩
 | n :: r,i,T,U,hp=>by
  rw[Sp.removeAll,Sp.removeAll,names_contains hp]
  split
  ·exact removeAll_congr r (i+1) (hp.filter _)
  ·exact .inl ⟨_,rfl,rfl⟩
theorem removed_congr{T U:List Pk}(hT:Sp.Set T)(hp:T.Perm U)(ns:List Str):
  (∃ f,Sp.removed T ns=.inl f/\Sp.removed U ns=.inl f)\/(∃ A B,Sp.removed T ns=.inr A/\Sp.removed U ns=.inr B/\A.Perm B):=by
 unfold Sp.removed
 rcases removeAll_congr ns 0 hp with⟨f,h1,h2⟩|⟨A,B,h1,h2,h3⟩
 ·rw[h1,h2];exact .inl ⟨f,rfl,rfl⟩
 ·rw[h1,h2]
  simp only;have hn:∀ p∈A,p.name≠[]:=fun p hp=>V9.names_ne hT.good p ((V9.remove_sub ns 0 h1).subset hp)
  rw[V5.lacking_perm hn fun p=>h3.mem_iff]
  split
  ·exact .inl ⟨_,rfl,rfl⟩
  ·exact .inr ⟨A,B,rfl,rfl,h3⟩
theorem texts_inj{T U:List Pk}(hT:Sp.Set T)(hU:Sp.Set U)(h:Sp.texts T=Sp.texts U):T.Perm U:=by
 rw[V8.texts_byName,V8.texts_byName] at h;have hb:V8.byName T=V8.byName U:=by
  have hg1:∀ p∈V8.byName T,V3.Good p:=fun p hp=>hT.good p ((V8.byName_mem hT p).1 hp)
  have hg2:∀ p∈V8.byName U,V3.Good p:=fun p hp=>hU.good p ((V8.byName_mem hU p).1 hp)
  generalize V8.byName T=a at *;generalize V8.byName U=b at *;clear hT hU
  induction a generalizing b with
  | nil=>cases b with
   | nil=>rfl
   | cons q r=>cases h
  | cons p r ih=>cases b with
   | nil=>cases h
   | cons q s =>
    rw[List.map_cons,List.map_cons] at h;injection h with h1 h2
    have e1:=V3.parse_print (hg1 p (by simp));have e2:=V3.parse_print (hg2 q (by simp));rw[h1,e2] at e1;injection e1 with e1
    have k2:∀ x∈s,V3.Good x:=fun x hx=>hg2 x (List.mem_cons_of_mem _ hx)
    have k1:=ih (fun x hx=>hg1 x (List.mem_cons_of_mem _ hx)) s;have k3:r=s:=by first|exact k1 h2 k2|exact k1 k2 h2
    rw[e1,k3]
 exact(V8.byName_perm hT).symm.trans (hb ▸ V8.byName_perm hU)
theorem owner_congr{T U:List Pk}(hT:Sp.Ok T)(hp:T.Perm U)(x:Str):Sp.owner T x=Sp.owner U x:=by
 have hU:=V9.ok_perm hT hp;unfold Sp.owner
 cases h1:T.find? fun p=>(p.files.map (·.path)).contains x with
 | none =>
  have h2:(U.find? fun p=>(p.files.map (·.path)).contains x)=none:=by
   rw[List.find?_eq_none] at h1 ⊢;intro p hm;exact h1 p (hp.mem_iff.2 hm)
  rw[h2]
 | some p =>
  have hpm:=List.mem_of_find?_eq_some h1;have hpx:=List.find?_some h1
  cases h2:U.find? fun p=>(p.files.map (·.path)).contains x with
  | none =>
   rw[List.find?_eq_none] at h2;exact absurd hpx (h2 p (hp.mem_iff.1 hpm))
  | some q =>
   have hqm:=hp.mem_iff.2 (List.mem_of_find?_eq_some h2);have hqx:=List.find?_some h2;have:=V15.owner_of hT hpm (List.contains_iff_mem.1 hpx);have h3:=V15.owner_of hT hqm (List.contains_iff_mem.1 hqx)
   show p.name=q.name
   rw[<-this,<-h3]
end V18
end
section
namespace V19
open Sp (Str Pk Dk St)
structure PW where
 x:St
 T:List Pk
 O:List Pk
 maybe:Bool
structure Alive(S k:Nat)(nocut:Bool)(s:PW):Prop where
 live:V10.Live S s.x
 perm:s.T.Perm s.x.L
 sure:s.maybe=false
 last:s.x.last<=k
 left:nocut=true->V11.Sure S s.x
structure Dead(S k:Nat)(s:PW):Prop where
 maybe:s.maybe=true
 gone:∃ n L A,V14.Gone S n L A s.x/\s.O.Perm L/\s.T.Perm A/\n+1<=k
def Inv(S k:Nat)(nocut:Bool)(s:PW):Prop:=Alive S k nocut s\/(nocut=false/\Dead S k s)
theorem Alive.ok{S k:Nat}{b:Bool}{s:PW}(h:Alive S k b s):Sp.Ok s.T:=V9.ok_perm h.live.ok h.perm.symm
theorem Alive.dead{S k:Nat}{b:Bool}{s:PW}(h:Alive S k b s):s.x.d.dead=false:=h.live.calm.dead
theorem Dead.dead{S k:Nat}{s:PW}(h:Dead S k s):s.x.d.dead=true:=by
 obtain⟨n,L,A,hg,_⟩:=h.gone;exact hg.torn.dead
theorem Alive.mono{S k j:Nat}{b:Bool}{s:PW}(h:Alive S k b s)(hk:k<=j):Alive S j b s:=⟨h.live,h.perm,h.sure,Nat.le_trans h.last hk,h.left⟩
theorem Inv.mono{S k j:Nat}{b:Bool}{s:PW}(h:Inv S k b s)(hk:k<=j):Inv S j b s:=by
 rcases h with h|⟨h0,h1,n,L,A,h2,h3,h4,h5⟩
 ·exact .inl (h.mono hk)
 ·exact .inr ⟨h0,h1,n,L,A,h2,h3,h4,by omega⟩
theorem new{S:Nat}(hS:16<=S/\S<=256)(b:Bool):Alive S 0 b ⟨St.new S,[],[],false⟩:=by
 obtain⟨h1,h2,h3⟩:=V11.new_sure hS;exact⟨h1.live,by show([]:List Pk).Perm (St.new S).L;rw[h3],rfl,by show(St.new S).last<=0;omega,fun _=>h1⟩
theorem texts_ok{S k:Nat}{b:Bool}{s:PW}(h:Alive S k b s):Sp.texts s.T=Sp.texts s.x.L:=V8.texts_eq h.ok.set h.perm
theorem change{S k:Nat}{b:Bool}{s:PW}(h:Alive S k b s)(hk:k<1000000){A B:List Pk}(hp:A.Perm B)(hB:Sp.Ok B)(hr:Sp.size B<=Sp.room S)(hl:B.length=s.x.L.length->B.Perm s.x.L):
  Inv S (k+1) b ⟨s.x.become B,A,s.T,(s.x.become B).d.dead⟩:=by
 have hn:s.x.last+1<18446744073709551616:=by have:=h.last;omega
 obtain⟨e1,e2⟩:=V14.become_L s.x B;have hpm:A.Perm (s.x.become B).L:=by rw[e1];exact hp
 have hls:(s.x.become B).last<=k+1:=by have:=h.last;omega
 cases b with
 | true =>
  have hs:=(V11.become_sure (h.left rfl) hB hr hn hl)
  exact .inl ⟨hs.1.live,hpm,hs.1.live.calm.dead,hls,fun _=>hs.1⟩
 | false =>
  rcases V14.become_cases h.live hB hr hn hl with⟨h1,h2⟩|⟨h1,h2⟩
  ·exact .inl ⟨h2,hpm,h1,hls,fun e=>by cases e⟩
  ·exact .inr ⟨rfl,h1,s.x.last,s.x.L,B,h2,h.perm,hp,by have:=h.last;omega⟩
theorem install{S k:Nat}{b:Bool}{s:PW}(h:Alive S k b s)(hk:k<1000000)(ts:List Str):
  (∃ f,1<=f.kind/\Sp.installed s.T ts (Sp.room S)=.inl f/\s.x.install ts=(f,s.x)) \/
  (∃ A B,Sp.installed s.T ts (Sp.room S)=.inr A/\s.x.install ts=(Sp.okF,s.x.become B)/\A.Perm B/\Inv S (k+1) b ⟨s.x.become B,A,s.T,(s.x.become B).d.dead⟩):=by
 have hn:s.x.last+1<18446744073709551616:=by have:=h.last;omega
 rcases V18.planned_congr h.ok.set h.perm ts with⟨f,h1,h2⟩|⟨A,B,o,h1,h2,h3⟩
 ·have:=V11.planned_kind h2
  exact .inl ⟨f,this.1,by unfold Sp.installed;rw[h1],V10.install_no h2⟩
 ·by_cases hr:Sp.room S<Sp.size B
  ·exact .inl ⟨⟨8,0,0,[]⟩,by simp,by unfold Sp.installed;rw[h1];simp only;rw[V18.size_perm h3,if_pos hr],V10.install_full h.live h2 hr⟩
  ·obtain⟨e,hB,_⟩:=V10.install_yes h.live hn h2 (by omega)
   obtain⟨_,F,rfl,_⟩:=V9.planned_ok h.live.ok.set h2;refine .inr ⟨A,_,by unfold Sp.installed;rw[h1];simp only;rw[V18.size_perm h3,if_neg hr],e,h3,change h hk h3 hB (by omega) fun e=>by rw[V10.perm_of_len e,List.append_nil]⟩
theorem remove{S k:Nat}{b:Bool}{s:PW}(h:Alive S k b s)(hk:k<1000000)(ns:List Str):
  (∃ f,1<=f.kind/\Sp.removed s.T ns=.inl f/\s.x.remove ns=(f,s.x)) \/
  (∃ A B,Sp.removed s.T ns=.inr A/\s.x.remove ns=(Sp.okF,s.x.become B)/\A.Perm B/\Inv S (k+1) b ⟨s.x.become B,A,s.T,(s.x.become B).d.dead⟩):=by
 rcases V18.removed_congr h.ok.set h.perm ns with⟨f,h1,h2⟩|⟨A,B,h1,h2,h3⟩
 ·have:=V11.removed_kind h2
  exact .inl ⟨f,by omega,h1,by unfold St.remove;rw[h2]⟩
 ·obtain⟨hB,hsub⟩:=V9.removed_ok h.live.ok h2
  have hsz:Sp.size B<=Sp.room S:=by
   refine Nat.le_trans ?_ h.live.room;unfold Sp.size;exact V11.sum_sub (hsub.map _)
  have e:s.x.remove ns=(Sp.okF,s.x.become B):=by unfold St.remove;rw[h2,h.live.seen];simp only;rw[if_neg (by omega)]
  exact .inr ⟨A,B,h1,e,h3,change h hk h3 hB hsz fun e=>by rw[V11.filter_len hsub e]⟩
theorem plan{S k:Nat}{b:Bool}{s:PW}(h:Alive S k b s)(ts:List Str):
  (∃ f,Sp.planned s.T ts=.inl f/\s.x.plan ts=(f,[]))\/(∃ A o,Sp.planned s.T ts=.inr (A,o)/\s.x.plan ts=(Sp.okF,o)):=by
 rcases V18.planned_congr h.ok.set h.perm ts with⟨f,h1,h2⟩|⟨A,B,o,h1,h2,h3⟩
 ·exact .inl ⟨f,h1,by unfold St.plan;rw[h2]⟩
 ·exact .inr ⟨A,o,h1,by unfold St.plan;rw[h2]⟩
theorem cut{S k:Nat}{s:PW}(h:Inv S k false s)(c:Int):Inv S k false ⟨s.x.cut c,s.T,s.O,s.maybe⟩:=by
 rcases h with h|⟨_,h1,n,L,A,h2,h3,h4,h5⟩
 ·exact .inl ⟨V10.cut_live h.live c,h.perm,h.sure,h.last,fun e=>by cases e⟩
 ·exact .inr ⟨rfl,h1,n,L,A,V14.gone_cut h2 c,h3,h4,h5⟩
theorem reopen{S k:Nat}{s:PW}(h:Inv S k false s)(mask after:Int):
  V10.Live S (s.x.reopen mask after)/\s.x.d.late.length<900000/\s.x.d.seen.length=S /\
   ((Sp.texts (s.x.reopen mask after).L=Sp.texts s.T/\Alive S k false ⟨s.x.reopen mask after,s.T,s.O,false⟩) \/
    (Sp.texts (s.x.reopen mask after).L≠Sp.texts s.T/\s.maybe=true/\Sp.texts (s.x.reopen mask after).L=Sp.texts s.O/\Alive S k false ⟨s.x.reopen mask after,s.O,s.O,false⟩)):=by
 rcases h with h|⟨_,h1,n,L,A,h2,h3,h4,h5⟩
 ·obtain⟨r1,r2,r3⟩:=V10.reopen_live h.live mask after
  refine⟨r1,by rw[h.live.calm.late];decide,h.live.seen,.inl ⟨by rw[r3,V14.texts_byName h.live.ok.set,texts_ok h],r1,?_,rfl,by show(s.x.reopen mask after).last<=k;rw[r2];exact h.last,fun e=>by cases e⟩⟩
  show s.T.Perm (s.x.reopen mask after).L
  rw[r3];exact h.perm.trans (V8.byName_perm h.live.ok.set).symm
 ·obtain⟨r1,r2⟩:=V14.gone_reopen h2 mask after
  have hlast:(s.x.reopen mask after).last<=k:=by rcases r2 with⟨r2,_⟩|⟨r2,_⟩ <;> omega
  have hT:Sp.Ok s.T:=V9.ok_perm h2.okA h4.symm;have hO:Sp.Ok s.O:=V9.ok_perm h2.okL h3.symm;refine⟨r1,h2.late,h2.torn.slen,?_⟩
  by_cases ht:Sp.texts (s.x.reopen mask after).L=Sp.texts s.T
  ·exact .inl ⟨ht,r1,(V18.texts_inj r1.ok.set hT.set ht).symm,rfl,hlast,fun e=>by cases e⟩
  ·rcases r2 with⟨_,r2⟩|⟨_,r2⟩
   ·have e:Sp.texts (s.x.reopen mask after).L=Sp.texts s.O:=by rw[r2,V14.texts_byName h2.okL.set,V8.texts_eq hO.set h3]
    exact .inr ⟨ht,h1,e,r1,(V18.texts_inj r1.ok.set hO.set e).symm,rfl,hlast,fun e=>by cases e⟩
   ·exact absurd (by rw[r2,V14.texts_byName h2.okA.set,V8.texts_eq hT.set h4]) ht
end V19
end
section
open Go.RowKit Go.Maps
structure WorldAt(B:Nat)(O:Nat->Prop)(w:World)(q x n:Nat)(tv ov hv:Value)(X Y:List PV)(s:V19.PW)(hand:List Sp.Str):Prop where
 ses:Bare B O w x s.x
 lt:q<w.heap.size
 own:¬O q
 c0:w.cell? ⟨q,0,none⟩=some (.pointer (some ⟨x,0,none⟩))
 c1:w.cell? ⟨q,1,none⟩=some (.int .i64 n)
 c2:w.cell? ⟨q,2,none⟩=some tv
 c3:w.cell? ⟨q,3,none⟩=some ov
 c4:w.cell? ⟨q,4,none⟩=some (.bool s.maybe)
 c5:w.cell? ⟨q,5,none⟩=some hv
 z:∀ o,w.frozen? ⟨q,o,none⟩=false
 there:PksOn (fun b=>b<w.heap.size/\¬O b/\b≠q/\hv.ownBlock≠some b) w tv X
 thereP:pk X=s.T
 thereS:Z11.Shape tv X.length
 or:PksOn (fun b=>b<w.heap.size/\¬O b/\b≠q/\hv.ownBlock≠some b) w ov Y
 orP:pk Y=s.O
 orS:Z11.Shape ov Y.length
 row:w.ownsRow B 9 1 hv hand.length (hand.map sv)
 apart:∀ g,hv.ownBlock=some g->¬O g/\g≠q
namespace WorldAt
variable {B:Nat} {O:Nat->Prop} {w w':World} {q x n:Nat} {tv ov hv:Value} {X Y:List PV} {s:V19.PW} {hand:List Sp.Str}
theorem below(h:WorldAt B O w q x n tv ov hv X Y s hand)(hb:Below w.heap.size w w'):WorldAt B O w' q x n tv ov hv X Y s hand:=by
 have hz:=hb.size;have hc:=fun o=>hb.cell (p:=⟨q,o,none⟩) h.lt
 have hf:=fun o=>hb.frozen (p:=⟨q,o,none⟩) h.lt
 exact⟨h.ses.below hb,Nat.lt_of_lt_of_le h.lt hz,h.own,(hc 0).trans h.c0,(hc 1).trans h.c1,(hc 2).trans h.c2,(hc 3).trans h.c3,(hc 4).trans h.c4,(hc 5).trans h.c5,fun o=>(hf o).trans (h.z o),
  (h.there.keep fun b hb'=>hb.block b hb'.1).mono fun b hb'=>⟨Nat.lt_of_lt_of_le hb'.1 hz,hb'.2⟩,h.thereP,h.thereS,(h.or.keep fun b hb'=>hb.block b hb'.1).mono fun b hb'=>⟨Nat.lt_of_lt_of_le hb'.1 hz,hb'.2⟩,h.orP,h.orS,
  W3.row_keep h.row hb,h.apart⟩
theorem chg(h:WorldAt B O w q x n tv ov hv X Y s hand)(hc:Chg O w w'){st:Sp.St}(hs:Bare B (fun k=>O k\/w.heap.size<=k/\k<w'.heap.size) w' x st):
  WorldAt B (fun k=>O k\/w.heap.size<=k/\k<w'.heap.size) w' q x n tv ov hv X Y ⟨st,s.T,s.O,s.maybe⟩ hand:=by
 have hz:=hc.size;have hq:=hc.block q h.lt h.own;have e1:=fun o=>World.cell?_of_block (w:=w) (a:=⟨q,o,none⟩) hq
 have e2:=fun o=>World.frozen?_of_block (w:=w) (a:=⟨q,o,none⟩) hq
 have hlt:=h.lt;have hm:∀ b,(b<w.heap.size/\¬O b/\b≠q/\hv.ownBlock≠some b)->b<w'.heap.size/\¬(O b\/w.heap.size<=b/\b<w'.heap.size)/\b≠q/\hv.ownBlock≠some b:=fun b hb=>⟨by omega,fun e=>by
  rcases e with e|e
  ·exact hb.2.1 e
  ·omega,hb.2.2⟩
 refine⟨hs,by omega,fun e=>?_,(e1 0).trans h.c0,(e1 1).trans h.c1,(e1 2).trans h.c2,(e1 3).trans h.c3,(e1 4).trans h.c4,(e1 5).trans h.c5,fun o=>(e2 o).trans (h.z o),
  (h.there.keep fun b hb'=>hc.block b hb'.1 hb'.2.1).mono hm,h.thereP,h.thereS,(h.or.keep fun b hb'=>hc.block b hb'.1 hb'.2.1).mono hm,h.orP,h.orS,?_,fun g hg=>?_⟩
 ·rcases e with e|e
  ·exact h.own e
  ·omega
 ·obtain⟨r1,r2⟩:=h.row
  refine⟨r1,?_⟩
  rcases r2 with r2|⟨g,cap,cur,hv',hg,hh,r⟩
  ·exact .inl r2
  ·have hown:hv.ownBlock=some g:=by rw[hv'];rfl
   have hgl:=(h.row.lt g hown).2;exact .inr ⟨g,cap,cur,hv',hg,(hc.block g hgl (h.apart g hown).1).trans hh,r⟩
 ·have hgl:=(h.row.lt g hg).2
  exact⟨fun e=>by
   rcases e with e|e
   ·exact(h.apart g hg).1 e
   ·omega,(h.apart g hg).2⟩
end WorldAt
theorem shown_any{B S:Nat}{O:Nat->Prop}{w:World}{q x n:Nat}{tv ov hv:Value}{X Y:List PV}{s:V19.PW}{hand:List Sp.Str}(h:WorldAt B O w q x n tv ov hv X Y s hand)(hl:V10.Live S s.x)(hT:Sp.Set s.T)(hX:X.length<=5000):
  Calls Tryz.prog 62 #[.pointer (some ⟨q,0,none⟩)] w fun e w'=>e=.returned (.bool (decide (Sp.texts s.x.L=Sp.texts s.T)))/\Below w.heap.size w w':=by
 have HH:=hid h;have HPK:=hid (h.ses.packages hl);have c0:=h.c0;have hq:=h.lt;have HL:=hid hl;have HT:=hid hT;obtain⟨ta,tc,htv,_⟩:=h.there.get;subst htv;clear h hl hT;go_enter Tryz.func62,Tryz.ntmps62;go_wp2_with fail;refine HPK.out.mono ?_;rintro e w2 ⟨v,rfl,hv2,hb2⟩;have hz2:=hb2.size;have H2:=hid (HH.out.below hb2);have d2:=H2.out.c2;have hq2:=H2.out.lt;have htx:=textsR_any _ X w2 H2.out.there (fun b hb=>hb.1) (by omega) (by rw[H2.out.thereP];exact HT.out);rw[H2.out.thereP] at htx;have HTX:=hid htx;have HV2:=hid hv2;have HB2:=hid hb2;clear htx hv2 hb2;go_wp2_with fail;refine HTX.out.mono ?_;rintro e w3 ⟨v3,rfl,hv3,hb3⟩;have hlen:(Sp.texts s.x.L).length<=1000000:=by rw[V11.texts_len HL.out.ok.set];have:=V14.live_few HL.out;omega
 have hsm:=sameL_any v v3 (Sp.texts s.x.L) (Sp.texts s.T) w3 ((StrsIn.of_from HV2.out (Nat.le_refl _)).below hb3 (Nat.le_refl _) |>.at_ hb3.size) (StrsAt.of_row hv3) hlen;have HSM:=hid hsm;have HB3:=hid (HB2.out.trans (hb3.mono hz2));clear hsm hv3 hb3;go_wp2_with fail;refine HSM.out.mono ?_;rintro e w4 ⟨rfl,hb4⟩;have HB4:=hid (HB3.out.trans (hb4.mono HB3.out.size));clear hb4;go_wp2_with fail;go_ret;exact⟨rfl,HB4.out⟩
end
end Go.Proofs.YtfphcecjhdkcoaaGreatDoor

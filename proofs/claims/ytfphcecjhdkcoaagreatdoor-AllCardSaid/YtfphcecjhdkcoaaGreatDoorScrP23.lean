/-
The walks of a statement's steps: a text more is at hand; none is; opened anew; the power will go; the power is gone.
-/
import Derived.Test.YtfphcecjhdkcoaaGreatDoorScrP22
set_option maxRecDepth 100000
set_option maxHeartbeats 8000000
namespace Go.Proofs.YtfphcecjhdkcoaaGreatDoor
open Go.Lib (hid)
section
open Go.RowKit Go.Maps
theorem WorldAt.put{B:Nat}{O:Nat->Prop}{w w':World}{q x n:Nat}{tv ov hv:Value}{X Y:List PV}{s:V19.PW}{hand:List Sp.Str}(h:WorldAt B O w q x n tv ov hv X Y s hand)(hc:Chg (fun k=>k=q) w w')
  {tv' ov':Value}{X' Y':List PV}{m:Bool}(d0:w'.cell? ⟨q,0,none⟩=some (.pointer (some ⟨x,0,none⟩)))(d1:w'.cell? ⟨q,1,none⟩=some (.int .i64 n))(d2:w'.cell? ⟨q,2,none⟩=some tv')(d3:w'.cell? ⟨q,3,none⟩=some ov')
  (d4:w'.cell? ⟨q,4,none⟩=some (.bool m))(d5:w'.cell? ⟨q,5,none⟩=some hv)(dz:∀ o,w'.frozen? ⟨q,o,none⟩=false)
  (ht:PksOn (fun b=>b<w.heap.size/\¬O b/\b≠q/\hv.ownBlock≠some b) w tv' X')(hts:Z11.Shape tv' X'.length)(ho:PksOn (fun b=>b<w.heap.size/\¬O b/\b≠q/\hv.ownBlock≠some b) w ov' Y')(hos:Z11.Shape ov' Y'.length):
  WorldAt B O w' q x n tv' ov' hv X' Y' ⟨s.x,pk X',pk Y',m⟩ hand:=by
 have hz:=hc.size;have hlt:=h.lt;have hm:∀ b,(b<w.heap.size/\¬O b/\b≠q/\hv.ownBlock≠some b)->b<w'.heap.size/\¬O b/\b≠q/\hv.ownBlock≠some b:=fun b hb=>⟨by omega,hb.2⟩
 refine⟨h.ses.chg hc fun k hk e=>h.own (e ▸ hk),by omega,h.own,d0,d1,d2,d3,d4,d5,dz,(ht.keep fun b hb'=>hc.block b hb'.1 hb'.2.2.1).mono hm,rfl,hts,(ho.keep fun b hb'=>hc.block b hb'.1 hb'.2.2.1).mono hm,rfl,hos,?_,h.apart⟩;obtain⟨r1,r2⟩:=h.row;refine⟨r1,?_⟩
 rcases r2 with r2|⟨g,cap,cur,hv',hg,hh,r⟩
 ·exact .inl r2
 ·have hown:hv.ownBlock=some g:=by rw[hv'];rfl
  exact .inr ⟨g,cap,cur,hv',hg,(hc.block g (h.row.lt g hown).2 (h.apart g hown).2).trans hh,r⟩
theorem set_chg(w:World)(q o:Nat)(v:Value):Chg (fun k=>k=q) w (w.setCell ⟨q,o,none⟩ v):=⟨rfl,rfl,rfl,by simp,fun k _ hk=>Below.heap_setCell _ _ _ _ hk⟩
theorem Chg.two{M:Nat->Prop}{a b c:World}(h1:Chg M a b)(h2:Chg M b c):Chg M a c:=⟨h2.os.trans h1.os,h2.tape.trans h1.tape,h2.output.trans h1.output,Nat.le_trans h1.size h2.size,fun k hk hm=>(h2.block k (Nat.lt_of_lt_of_le hk h1.size) hm).trans (h1.block k hk hm)⟩
theorem becomes_any{B:Nat}{O:Nat->Prop}{w:World}{q x n:Nat}{tv ov hv:Value}{X Y:List PV}{s:V19.PW}{hand:List Sp.Str}(h:WorldAt B O w q x n tv ov hv X Y s hand)(v:Value)(Z:List PV)
  (hZ:PksOn (fun b=>b<w.heap.size/\¬O b/\b≠q/\hv.ownBlock≠some b) w v Z)(hZs:Z11.Shape v Z.length):
  Calls Tryz.prog 142 #[.pointer (some ⟨q,0,none⟩),v] w fun e w'=>e=.returned (.tuple #[])/\Chg (fun k=>k=q) w w'/\WorldAt B O w' q x n v tv hv Z X ⟨s.x,pk Z,s.T,s.x.d.dead⟩ hand:=by
 have HH:=hid h;have hq:=h.lt;have c0:=h.c0;have c1:=h.c1;have c2:=h.c2;have c3:=h.c3;have c4:=h.c4;have c5:=h.c5;have z2:=h.z 2;have z3:=h.z 3;have z4:=h.z 4;have HZ:=hid hZ;have HZS:=hid hZs;obtain⟨ta,tc,htv,_⟩:=h.there.get;subst htv;obtain⟨oa,oc,hov,_⟩:=h.or.get;subst hov;obtain⟨va,vc,hvv,_⟩:=hZ.get;subst hvv;clear h hZ hZs;go_enter Tryz.func142,Tryz.ntmps142;go_wp2_with fail;obtain⟨w2,hw2⟩:∃ w2,w2=(w.setCell ⟨q,3,none⟩ (.slice ta X.length tc)).setCell ⟨q,2,none⟩ (.slice va Z.length vc):=⟨_,rfl⟩
 rw[<-hw2];obtain⟨e1,e2,e3,e4,e5⟩:=set_facts w q 3 (.slice ta X.length tc) _ c3 HH.out.z;obtain⟨f1,f2,f3,f4,f5⟩:=set_facts _ q 2 (.slice va Z.length vc) _ ((e2 2 (by omega)).trans c2) e4;rw[<-hw2] at f1 f2 f3 f4 f5;have hc2:Chg (fun k=>k=q) w w2:=by rw[hw2];exact(set_chg w q 3 _).two (set_chg _ q 2 _)
 have hb2:=HH.out.ses.chg hc2 fun k hk e=>HH.out.own (e ▸ hk)
 have hlo:=hb2.lost;have HLO:=hid hlo;have HC2:=hid hc2;have q2:q<w2.heap.size:=Nat.lt_of_lt_of_le hq hc2.size;have d0:=(f2 0 (by omega)).trans ((e2 0 (by omega)).trans c0);have d1:=(f2 1 (by omega)).trans ((e2 1 (by omega)).trans c1);have d3:=(f2 3 (by omega)).trans e1;have d4:=(f2 4 (by omega)).trans ((e2 4 (by omega)).trans c4);have d5:=(f2 5 (by omega)).trans ((e2 5 (by omega)).trans c5);have y4:=f4 4;have F4:=hid f4;clear hw2 e1 e2 e3 e4 e5 f2 f3 f4 f5 c0 c1 c2 c3 c4 c5 z2 z3 z4 hc2 hb2 hlo;refine HLO.out.mono ?_;rintro e wq ⟨rfl,hwq⟩;have hwq':=hwq.symm;subst hwq';clear hwq;go_wp2_with fail
 go_end0
 obtain⟨g1,g2,g3,g4,g5⟩:=set_facts w2 q 4 (.bool s.x.d.dead) _ d4 F4.out;have hc4:=HC2.out.two (set_chg w2 q 4 (.bool s.x.d.dead));refine⟨rfl,hc4,?_⟩;have:=HH.out.put hc4 ((g2 0 (by omega)).trans d0) ((g2 1 (by omega)).trans d1) ((g2 2 (by omega)).trans f1) ((g2 3 (by omega)).trans d3) g1 ((g2 5 (by omega)).trans d5) g4 HZ.out HZS.out HH.out.there HH.out.thereS;rw[HH.out.thereP] at this;exact this
end
section
open Go.RowKit Go.Maps
def Stepped(B S k:Nat)(w:World)(q x n:Nat)(hv:Value)(X Y:List PV)(hand:List Sp.Str)(w':World):Prop:=
 Below B w w'/\∃ O' tv' ov' X' Y' s',WorldAt B O' w' q x n tv' ov' hv X' Y' s' hand/\V19.Alive S k false s'/\(X'=X\/X'=Y)/\Y'=Y
theorem Chg.lowB{M:Nat->Prop}{w w':World}{B:Nat}(h:Chg M w w')(hm:∀ j,M j->B<=j)(hB:B<=w.heap.size):Below B w w':=
 ⟨h.os,h.tape,h.output,h.size,fun k hk=>h.block k (by omega) fun e=>by have:=hm k e;omega⟩
theorem WorldAt.mark{B:Nat}{O:Nat->Prop}{w:World}{q x n:Nat}{tv ov hv:Value}{X Y:List PV}{s:V19.PW}{hand:List Sp.Str}(h:WorldAt B O w q x n tv ov hv X Y s hand)(m:Bool):
  Chg (fun k=>k=q) w (w.setCell ⟨q,4,none⟩ (.bool m))/\WorldAt B O (w.setCell ⟨q,4,none⟩ (.bool m)) q x n tv ov hv X Y ⟨s.x,s.T,s.O,m⟩ hand:=by
 obtain⟨g1,g2,g3,g4,g5⟩:=set_facts w q 4 (.bool m) _ h.c4 h.z;have hc:=set_chg w q 4 (.bool m);refine⟨hc,?_⟩;have:=h.put hc ((g2 0 (by omega)).trans h.c0) ((g2 1 (by omega)).trans h.c1) ((g2 2 (by omega)).trans h.c2) ((g2 3 (by omega)).trans h.c3) g1 ((g2 5 (by omega)).trans h.c5) g4 h.there h.thereS h.or h.orS;rw[h.thereP,h.orP] at this;exact this
theorem WorldAt.fall{B:Nat}{O:Nat->Prop}{w:World}{q x n:Nat}{tv ov hv:Value}{X Y:List PV}{s:V19.PW}{hand:List Sp.Str}(h:WorldAt B O w q x n tv ov hv X Y s hand):
  Chg (fun k=>k=q) w (w.setCell ⟨q,2,none⟩ ov)/\WorldAt B O (w.setCell ⟨q,2,none⟩ ov) q x n ov ov hv Y Y ⟨s.x,s.O,s.O,s.maybe⟩ hand:=by
 obtain⟨g1,g2,g3,g4,g5⟩:=set_facts w q 2 ov _ h.c2 h.z;have hc:=set_chg w q 2 ov;refine⟨hc,?_⟩;have:=h.put hc ((g2 0 (by omega)).trans h.c0) ((g2 1 (by omega)).trans h.c1) g1 ((g2 3 (by omega)).trans h.c3) ((g2 4 (by omega)).trans h.c4) ((g2 5 (by omega)).trans h.c5) g4 h.or h.orS h.or h.orS;rw[h.orP] at this;exact this
theorem reopens_any{G B S k:Nat}{O:Nat->Prop}{w:World}{q x n:Nat}{tv ov hv:Value}{X Y:List PV}{s:V19.PW}{hand:List Sp.Str}(hw:Wd G w)(h:WorldAt B O w q x n tv ov hv X Y s hand)(hi:V19.Inv S k false s)(hS:16<=S)(hqB:B<=q)(hG:G<=B)(hB:B<=w.heap.size)
  (hX:X.length<=5000)(hY:Y.length<=5000)(hT:Sp.Set s.T)(hO:Sp.Set s.O)(mask after:Int)(hm1:-9223372036854775808<=mask)(hm2:mask<=9223372036854775807)(ha:after<=9223372036854775807):
  Calls Tryz.prog 61 #[.pointer (some ⟨q,0,none⟩),.int .i64 mask,.int .i64 after] w fun e w'=>e=.returned (.bool true)/\Stepped B S k w q x n hv X Y hand w':=by
 obtain⟨hl,hlate,hseen,hcase⟩:=V19.reopen hi mask after;have hro:=h.ses.reopen hw hG hB mask after hm1 hm2 ha hlate (by omega) hl;have HRO:=hid hro;have HH:=hid h;have HL:=hid hl;have HC:=hid hcase;have HT:=hid hT;have HO:=hid hO;have c0:=h.c0;have hq:=h.lt;clear h hro hl hcase hT hO hi;go_enter Tryz.func61,Tryz.ntmps61;go_wp2_with fail;refine HRO.out.mono ?_;rintro e w2 ⟨rfl,hc2,hs2⟩;have hz2:=hc2.size;have h2:=HH.out.chg hc2 hs2;have hb3:Below w2.heap.size w2 (w2.alloc (.cells #[.int .i64 0,.int .i64 0,.int .i64 0,.string ⟨#[]⟩] 23)):=(Below.refl _ _).alloc (Nat.le_refl _) _;have h3:=h2.below hb3;have k0:=h2.c0;have hq2:=h2.lt;have HW3:=hid h3;have HC2:=hid hc2;have HB3:=hid hb3;clear h2 h3 hb3 hc2 hs2;unfold faultV Sp.okF sv;go_wp2_with fail;obtain⟨w3,hw3⟩:∃ w3,w3=w2.alloc (.cells #[.int .i64 0,.int .i64 0,.int .i64 0,.string ⟨#[]⟩] 23):=⟨_,rfl⟩
 rw[<-hw3] at HW3 HB3 ⊢;have f0:w3.cell? ⟨w2.heap.size,0,none⟩=some (.int .i64 0):=by rw[hw3,World.cell?_alloc_at _ _ _ _ rfl];rfl
 have hz3:w3.heap.size=w2.heap.size+1:=by rw[hw3];simp
 have hza:=Nat.le_of_eq hz3.symm;have hlo:=HW3.out.ses.lost;rw[show(s.x.reopen mask after).d.dead=false from HL.out.calm.dead] at hlo;have HLO:=hid hlo;have HBW:=hid ((HC2.out.lowB (fun j hj=>(HH.out.ses.low j hj).1) hB).trans (HB3.out.mono (by omega)));have hBz:B<=w3.heap.size:=by omega
 clear hw3 hlo hz3;refine HLO.out.mono ?_;rintro e wq ⟨rfl,hwq⟩;have hwq':=hwq.symm;subst hwq';clear hwq;have hsh:=shown_any HW3.out HL.out HT.out hX;have HSH:=hid hsh;clear hsh;go_wp2_with fail
 rcases HC.out with⟨he,hal⟩|⟨hne,hmb,heo,hal⟩
 ·rw[decide_eq_true he] at HSH
  refine HSH.out.mono ?_;rintro e w4 ⟨rfl,hb4⟩;have h4:=HW3.out.below hb4;have q4:=h4.lt;have hz4:=hb4.size;have c4:=h4.c4;have z4:=h4.z 4;have f4:=(hb4.cell (p:=⟨w2.heap.size,0,none⟩) (by show w2.heap.size<_;omega)).trans f0;have hr4:w2.heap.size<w4.heap.size:=by omega
  have hqr:¬q=w2.heap.size:=by omega
  have H4:=hid h4;have HB4:=hid (HBW.out.trans (hb4.mono hBz));have HAL:=hid hal;have hxt:=H4.out.there.get;obtain⟨xa,xc,rfl,_⟩:=hxt;obtain⟨ya,yc,rfl,_⟩:=H4.out.or.get;clear h4 hb4 hal;go_wp2_with fail;go_ret;obtain⟨m1,m2⟩:=H4.out.mark false;exact⟨rfl,HB4.out.trans (m1.lowB (fun j hj=>by omega) (by omega)),_,_,_,_,_,_,m2,HAL.out,.inl rfl,rfl⟩
 ·rw[decide_eq_false hne] at HSH
  refine HSH.out.mono ?_;rintro e w4 ⟨rfl,hb4⟩;have h4:=HW3.out.below hb4;have q4:=h4.lt;have hz4:=hb4.size;have c4:=h4.c4;have c4':w4.cell? ⟨q,4,none⟩=some (.bool true):=by rw[c4];show some (Value.bool s.maybe)=_;rw[hmb]
  have c3:=h4.c3;have c2:=h4.c2;have z2:=h4.z 2;have f4:=(hb4.cell (p:=⟨w2.heap.size,0,none⟩) (by show w2.heap.size<_;omega)).trans f0;have hr4:w2.heap.size<w4.heap.size:=by omega
  have hqr:¬q=w2.heap.size:=by omega
  have HAL:=hid hal;have HB4:=hid (HBW.out.trans (hb4.mono hBz));have HHEO:=hid heo;obtain⟨xa,xc,rfl,_⟩:=h4.there.get;obtain⟨ya,yc,rfl,_⟩:=h4.or.get;obtain⟨m1,m2⟩:=h4.fall;have M1:=hid m1;have M2:=hid m2;clear h4 hb4 hal c4 heo hne hmb m1 m2;go_wp2_with fail;obtain⟨w5,hw5⟩:∃ w5,w5=w4.setCell ⟨q,2,none⟩ (.slice ya Y.length yc):=⟨_,rfl⟩
  rw[<-hw5] at M1 M2 ⊢;have HB5:=hid (HB4.out.trans (M1.out.lowB (fun j hj=>by omega) (by omega)));have hz5:=M1.out.size;have f5:=(World.cell?_of_block (w:=w4) (w':=w5) (a:=⟨w2.heap.size,0,none⟩) (M1.out.block w2.heap.size hr4 (fun e=>hqr e.symm))).trans f4;have hsh2:=shown_any M2.out HL.out HO.out hY;have hsh3:decide (Sp.texts (s.x.reopen mask after).L=Sp.texts s.O)=true:=decide_eq_true HHEO.out;have HSH2:=hid hsh2;clear hsh2 hw5 c3 c2 z2 c4' q4;refine HSH2.out.mono ?_;rintro e w6 ⟨rfl,hb6⟩;have h6:=M2.out.below hb6;have q6:=h6.lt;have hz6:=hb6.size;have c6:=h6.c4;have z6:=h6.z 4;have f6:=(hb6.cell (p:=⟨w2.heap.size,0,none⟩) (by show w2.heap.size<_;omega)).trans f5;have hr6:w2.heap.size<w6.heap.size:=by omega
  have H6:=hid h6;have HB6:=hid (HB5.out.trans (hb6.mono (by omega)));clear h6 hb6
  show _
  simp only[hsh3];go_wp2_with fail;go_ret;obtain⟨m1,m2⟩:=H6.out.mark false;exact⟨rfl,HB6.out.trans (m1.lowB (fun j hj=>by omega) (by omega)),_,_,_,_,_,_,m2,HAL.out,.inr rfl,rfl⟩
end
section
open Go.RowKit Go.Maps
theorem sameFaultN_any(k which line:Int)(nm:Sp.Str)(w:World):
  Calls Tryz.prog 17 #[.agg #[.int .i64 k,.int .i64 which,.int .i64 line,.string ⟨nm.toArray⟩],.agg #[.int .i64 k,.int .i64 which,.int .i64 line,.string ⟨nm.toArray⟩]] w fun e w'=>e=.returned (.bool true)/\Below w.heap.size w w':=by
 go_enter Tryz.func17,Tryz.ntmps17;go_wp2;go_ret;exact⟨rfl,((Below.refl _ _).alloc (Nat.le_refl _) _).alloc (by simp) _⟩
end
section
namespace V20
open Sp (Str Pk Dk St)
open V19 (PW Alive Dead Inv)
theorem alive_few{S k:Nat}{b:Bool}{s:PW}(h:Alive S k b s):Sp.Set s.T/\s.T.length<=600:=
 ⟨h.ok.set,by rw[h.perm.length_eq];exact V14.live_few h.live⟩
theorem inv_few{S k:Nat}{b:Bool}{s:PW}(h:Inv S k b s):Sp.Set s.T/\s.T.length<=600:=by
 rcases h with h|⟨_,_,n,L,A,h2,_,h4,_⟩
 ·exact alive_few h
 ·exact⟨(V9.ok_perm h2.okA h4.symm).set,by rw[h4.length_eq];exact(V10.room_small h2.okA.set h2.big h2.roomA).2.2⟩
theorem alive_size{S k:Nat}{b:Bool}{s:PW}(h:Alive S k b s):Sp.size s.T=Sp.size s.x.L:=V18.size_perm h.perm
theorem alive_owner{S k:Nat}{b:Bool}{s:PW}(h:Alive S k b s)(x:Str):Sp.owner s.T x=Sp.owner s.x.L x:=V18.owner_congr h.ok h.perm x
theorem inv_cases{S k:Nat}{b:Bool}{s:PW}(h:Inv S k b s):(s.x.d.dead=false/\Alive S k b s)\/(s.x.d.dead=true/\b=false/\Dead S k s):=by
 rcases h with h|⟨h0,h⟩
 ·exact .inl ⟨h.dead,h⟩
 ·exact .inr ⟨h.dead,h0,h⟩
theorem inv_seen{S k:Nat}{b:Bool}{s:PW}(h:Inv S k b s)(hb:b=true):Alive S k b s:=by
 rcases h with h|⟨h0,_⟩
 ·exact h
 ·rw[hb] at h0;cases h0
theorem inv_big{S k:Nat}{b:Bool}{s:PW}(h:Inv S k b s):16<=S/\S<=256:=by
 rcases h with h|⟨_,_,n,L,A,h2,_⟩
 ·exact h.live.big
 ·exact h2.big
end V20
end
section
open Go.RowKit Go.Maps
namespace WorldAt
variable {B:Nat} {O:Nat->Prop} {w w':World} {q x n:Nat} {tv ov hv:Value} {X Y:List PV} {s:V19.PW} {hand:List Sp.Str}
theorem step(h:WorldAt B O w q x n tv ov hv X Y s hand)(hc:Chg O w w'){O':Nat->Prop}{st:Sp.St}(hs:Bare B O' w' x st)(hO:∀ k,O' k->O k\/w.heap.size<=k):
  WorldAt B O' w' q x n tv ov hv X Y ⟨st,s.T,s.O,s.maybe⟩ hand:=by
 have hz:=hc.size;have hq:=hc.block q h.lt h.own;have e1:=fun o=>World.cell?_of_block (w:=w) (a:=⟨q,o,none⟩) hq
 have e2:=fun o=>World.frozen?_of_block (w:=w) (a:=⟨q,o,none⟩) hq
 have hlt:=h.lt;have hm:∀ b,(b<w.heap.size/\¬O b/\b≠q/\hv.ownBlock≠some b)->b<w'.heap.size/\¬O' b/\b≠q/\hv.ownBlock≠some b:=fun b hb=>⟨by omega,fun e=>by
  rcases hO b e with e|e
  ·exact hb.2.1 e
  ·omega,hb.2.2⟩
 refine⟨hs,by omega,fun e=>?_,(e1 0).trans h.c0,(e1 1).trans h.c1,(e1 2).trans h.c2,(e1 3).trans h.c3,(e1 4).trans h.c4,(e1 5).trans h.c5,fun o=>(e2 o).trans (h.z o),
  (h.there.keep fun b hb'=>hc.block b hb'.1 hb'.2.1).mono hm,h.thereP,h.thereS,(h.or.keep fun b hb'=>hc.block b hb'.1 hb'.2.1).mono hm,h.orP,h.orS,?_,fun g hg=>?_⟩
 ·rcases hO q e with e|e
  ·exact h.own e
  ·omega
 ·obtain⟨r1,r2⟩:=h.row
  refine⟨r1,?_⟩
  rcases r2 with r2|⟨g,cap,cur,hv',hg,hh,r⟩
  ·exact .inl r2
  ·have hown:hv.ownBlock=some g:=by rw[hv'];rfl
   have hgl:=(h.row.lt g hown).2;exact .inr ⟨g,cap,cur,hv',hg,(hc.block g hgl (h.apart g hown).1).trans hh,r⟩
 ·have hgl:=(h.row.lt g hg).2
  exact⟨fun e=>by
   rcases hO g e with e|e
   ·exact(h.apart g hg).1 e
   ·omega,(h.apart g hg).2⟩
theorem handed(h:WorldAt B O w q x n tv ov hv X Y s hand)(hc:Chg (fun k=>k=q\/hv.ownBlock=some k) w w'){hv':Value}{hand':List Sp.Str}(row':w'.ownsRow B 9 1 hv' hand'.length (hand'.map sv))
  (loc:∀ g,hv'.ownBlock=some g->hv.ownBlock=some g\/w.heap.size<=g)
  (d0:w'.cell? ⟨q,0,none⟩=some (.pointer (some ⟨x,0,none⟩)))(d1:w'.cell? ⟨q,1,none⟩=some (.int .i64 n))(d2:w'.cell? ⟨q,2,none⟩=some tv)(d3:w'.cell? ⟨q,3,none⟩=some ov)
  (d4:w'.cell? ⟨q,4,none⟩=some (.bool s.maybe))(d5:w'.cell? ⟨q,5,none⟩=some hv')(dz:∀ o,w'.frozen? ⟨q,o,none⟩=false):WorldAt B O w' q x n tv ov hv' X Y s hand':=by
 have hz:=hc.size;have hlt:=h.lt;have hk:∀ b,(b<w.heap.size/\¬O b/\b≠q/\hv.ownBlock≠some b)->w'.heap[b]? = w.heap[b]?:=fun b hb=>hc.block b hb.1 fun e=>by
  rcases e with e|e
  ·exact hb.2.2.1 e
  ·exact hb.2.2.2 e
 have hm:∀ b,(b<w.heap.size/\¬O b/\b≠q/\hv.ownBlock≠some b)->b<w'.heap.size/\¬O b/\b≠q/\hv'.ownBlock≠some b:=fun b hb=>⟨by omega,hb.2.1,hb.2.2.1,fun e=>by
  rcases loc b e with e|e
  ·exact hb.2.2.2 e
  ·omega⟩
 refine⟨h.ses.chg hc fun k hk e=>?_,by omega,h.own,d0,d1,d2,d3,d4,d5,dz,(h.there.keep hk).mono hm,h.thereP,h.thereS,(h.or.keep hk).mono hm,h.orP,h.orS,row',fun g hg=>?_⟩
 ·rcases e with e|e
  ·exact h.own (e ▸ hk)
  ·exact(h.apart k e).1 hk
 ·rcases loc g hg with e|e
  ·exact h.apart g e
  ·exact⟨fun e'=>by have:=(h.ses.low g e').2;omega,by omega⟩
end WorldAt
def PlayAt(B S k:Nat)(nc:Bool)(w:World)(q x:Nat):Prop:=
 ∃ O tv ov hv X Y s hand,WorldAt B O w q x S tv ov hv X Y s hand/\V19.Inv S k nc s/\Sp.Set s.O/\s.O.length<=600/\hand.length<=k/\(∀ t∈hand,t.length<=8192)/\(hand=[]->hv=.slice none 0 0)
theorem WorldAt.few{B:Nat}{O:Nat->Prop}{w:World}{q x n:Nat}{tv ov hv:Value}{X Y:List PV}{s:V19.PW}{hand:List Sp.Str}(h:WorldAt B O w q x n tv ov hv X Y s hand){S k:Nat}{nc:Bool}(hi:V19.Inv S k nc s)(hl:s.O.length<=600):
  Sp.Set s.T/\X.length<=600/\Y.length<=600:=by
 obtain⟨h1,h2⟩:=V20.inv_few hi;have h3:(pk X).length=X.length:=pk_len X;have h4:(pk Y).length=Y.length:=pk_len Y;rw[h.thereP] at h3;rw[h.orP] at h4;exact⟨h1,by omega,by omega⟩
end
section
open Go.RowKit Go.Maps
theorem step_app_loc{T e size bytes:Nat}(A:AppTy T e size bytes)(w:World){ops:Array Oper}{o:Oper}{a:Act}{K:Act->World->Prop}{Q:Exit->Act->World->Prop}{E:Prop}(us:List Value)
  (hus:us.length=size)(h1:∀ u∈us,u.oneCell'=true)(hgd:o.guard=none)(s x:Operand)
  (ho:o.op=.call { callee:=.builtin .append,args:=#[s,x],argTypes:=#[T,T] })(B:Nat)(v:Value)(n:Nat)(xs:List Value)(hs:a.eval s=v)(hown:w.ownsRow B e size v n xs)
  (hx:a.eval x=.slice (some ⟨w.heap.size,0,none⟩) 1 1)(hn:n<1099511627776)(hB:B<=w.heap.size)
  (h:∀ g cap w',w'.ownsRow B e size (.slice (some ⟨g,0,none⟩) (n+1) cap) (n+1) (xs ++ us)->w.drew.grownBy w' v.ownBlock->(v.ownBlock=some g\/w.heap.size<=g)->K (a.put o.dst (.slice (some ⟨g,0,none⟩) (n+1) cap)) w'):
  if Region.wanted o (yielded ops a.tmps)=true then Oper.wp Tryz.prog o a ((w.alloc (.cells us.toArray e)).drew) K Q else E:=by
 obtain⟨ht,⟨i0,z,hi,hz0,hz1,hz2,hz⟩,hp,hb⟩:=A;refine step_append_lies _ hgd s x T ho B e i0 z size bytes ht hi hz0 hz1 hz2 hz hp v n xs hs (World.ownsRow.drew (hown.alloc _)) ⟨w.heap.size,0,none⟩ 1 1 us hx (by rw[hus,Nat.one_mul]) (cells_new w.drew _ _) h1 (by omega) (by unfold maxLen;omega) ?_ (by simp;omega) _ rfl ?_
 ·have:(n+1)*bytes<=(n+1)*128:=Nat.mul_le_mul_left _ hb
  omega
 ·intro g cap w' h2 h3 h4 h5
  refine h g cap w' h2 ?_ ?_
  ·have hsz:=h3.size
   simp only[World.size_drew,World.size_alloc] at hsz;exact⟨h3.os,h3.tape,h3.output,by simp;omega,fun k hk hne=>(h3.block k (by simp at hk ⊢;omega) hne).trans (Below.heap_alloc _ _ _ hk)⟩
  ·rcases h4 with h4|h4
   ·exact .inl h4
   ·right;simp at h4;omega
namespace WorldAt
variable {B:Nat} {O:Nat->Prop} {w w':World} {q x n:Nat} {tv ov hv:Value} {X Y:List PV} {s:V19.PW} {hand:List Sp.Str}
theorem grow(h:WorldAt B O w q x n tv ov hv X Y s hand)(hg:w.grownBy w' hv.ownBlock){hv':Value}{hand':List Sp.Str}(row':w'.ownsRow B 9 1 hv' hand'.length (hand'.map sv))(loc:∀ g,hv'.ownBlock=some g->hv.ownBlock=some g\/w.heap.size<=g):
  WorldAt B O (w'.setCell ⟨q,5,none⟩ hv') q x n tv ov hv' X Y s hand'/\Chg (fun k=>k=q\/hv.ownBlock=some k) w (w'.setCell ⟨q,5,none⟩ hv'):=by
 have hq:w'.heap[q]? = w.heap[q]?:=hg.block q h.lt fun e=>(h.apart q e.symm).2 rfl
 have e1:=fun o=>World.cell?_of_block (w:=w) (a:=⟨q,o,none⟩) hq
 have e2:=fun o=>World.frozen?_of_block (w:=w) (a:=⟨q,o,none⟩) hq
 obtain⟨g1,g2,_,g4,_⟩:=set_facts w' q 5 hv' _ ((e1 5).trans h.c5) fun o=>(e2 o).trans (h.z o)
 have hlt:=h.lt;have hc:Chg (fun k=>k=q\/hv.ownBlock=some k) w (w'.setCell ⟨q,5,none⟩ hv'):=
  ⟨hg.os,hg.tape,hg.output,by have:=hg.size;simpa[World.setCell] using this,fun k hk hm=>(Below.heap_setCell _ _ _ _ (show k≠q from fun e=>hm (.inl e))).trans (hg.block k hk fun e=>hm (.inr e.symm))⟩
 refine⟨h.handed hc ?_ loc ((g2 0 (by omega)).trans ((e1 0).trans h.c0)) ((g2 1 (by omega)).trans ((e1 1).trans h.c1)) ((g2 2 (by omega)).trans ((e1 2).trans h.c2)) ((g2 3 (by omega)).trans ((e1 3).trans h.c3)) ((g2 4 (by omega)).trans ((e1 4).trans h.c4)) g1 g4,hc⟩;obtain⟨r1,r2⟩:=row';refine⟨r1,?_⟩
 rcases r2 with r2|⟨g,cap,cur,hv1,hgB,hh,r⟩
 ·exact .inl r2
 ·have hown:hv'.ownBlock=some g:=by rw[hv1];rfl
  have hgq:g≠q:=by
   rcases loc g hown with e|e
   ·exact(h.apart g e).2
   ·omega
  exact .inr ⟨g,cap,cur,hv1,hgB,(Below.heap_setCell _ _ _ _ (show g≠q from hgq)).trans hh,r⟩
end WorldAt
structure Ask(G B S k:Nat)(nc:Bool)(w:World)(q x:Nat):Prop where
 wd:Wd G w
 play:PlayAt B S k nc w q x
 gb:G<=B
 bw:B<=w.heap.size
 bq:B<=q
 few:k<9000
def Went(B S k:Nat)(nc:Bool)(w:World)(q x:Nat)(e:Ending)(w':World):Prop:=e=.returned (.bool true)/\Below B w w'/\PlayAt B S (k+1) nc w' q x
end
section
open Go.RowKit Go.Maps
theorem step_text{G B S k:Nat}{nc:Bool}{w:World}{q x:Nat}(h:Ask G B S k nc w q x)(oa ob:Int)(os:Sp.Str)(hs:os.length<=8192):
  Calls Tryz.prog 60 #[.pointer (some ⟨q,0,none⟩),(OpV.agg ⟨1,oa,ob,os⟩)] w (Went B S k nc w q x):=by
 obtain⟨hw,⟨O,tv,ov,hv,X,Y,s,hand,hW,hi,hO,hOl,hhl,hht,hnil⟩,hG,hB,hqB,hk⟩:=h;obtain⟨wb,hwb⟩:∃ wb,wb=w.alloc (.cells #[.int .i64 1,.int .i64 oa,.int .i64 ob,.string ⟨os.toArray⟩] 115):=⟨_,rfl⟩
 have hbb:Below w.heap.size w wb:=by rw[hwb];exact(Below.refl _ _).alloc (Nat.le_refl _) _
 have hzb:wb.heap.size=w.heap.size+1:=by rw[hwb];simp
 have p0:wb.cell? ⟨w.heap.size,0,none⟩=some (.int .i64 1):=by rw[hwb,World.cell?_alloc_at _ _ _ _ rfl];rfl
 have p1:wb.cell? ⟨w.heap.size,1,none⟩=some (.int .i64 oa):=by rw[hwb,World.cell?_alloc_at _ _ _ _ rfl];rfl
 have p2:wb.cell? ⟨w.heap.size,2,none⟩=some (.int .i64 ob):=by rw[hwb,World.cell?_alloc_at _ _ _ _ rfl];rfl
 have p3:wb.cell? ⟨w.heap.size,3,none⟩=some (.string ⟨os.toArray⟩):=by rw[hwb,World.cell?_alloc_at _ _ _ _ rfl];rfl
 have h1:=hW.below hbb;have hlo:=h1.ses.lost;have cw0:=hW.c0;have qw:=hW.lt;have c0:=h1.c0;have c1:=h1.c1;have c2:=h1.c2;have c5:=h1.c5;have z5:=h1.z 5;have hq:=h1.lt;have hqr:¬q=w.heap.size:=by have:=hW.lt;omega
 have hrb:w.heap.size<wb.heap.size:=by omega
 have hBb:B<=wb.heap.size:=by omega
 clear hzb;obtain⟨hT,hXl,hYl⟩:=h1.few hi hOl;have HW1:=hid h1;have HLO:=hid hlo;have HBB:=hid (hbb.mono hB);have HI:=hid hi;have HHT:=hid hht;have HO:=hid hO;have HT:=hid hT;have HNIL:=hid hnil;have HWD:=hid (hw.keep hbb);clear h1 hlo hbb hi hht hO hW hw hT hnil;unfold OpV.agg sv;go_enter Tryz.func60,Tryz.ntmps60;go_wp2_with fail;rw[<-hwb];clear hwb cw0 qw;refine HLO.out.mono ?_;rintro e wq ⟨rfl,hwq⟩;have hwq':=hwq.symm;subst hwq';clear hwq;have hrow:=HW1.out.row;obtain⟨ra,rc,rfl⟩:=W3.row_slice hrow;have HROW:=hid hrow;clear hrow;go_upto_region 4 with(fail)
 go_cut [] (fun wx=>∃ hv',WorldAt B O wx q x S tv ov hv' X Y s (hand ++ [os])/\Below B w wx)
 case first =>
  go_region_law (first
   | (refine step_app_loc app38 wb [_] rfl (by simp[Value.oneCell']) rfl _ _ rfl B _ _ _ rfl HROW.out rfl (by omega) hBb ?_;intro g cap w6 hown6 hg6 hloc6;have hq6:=hg6.block q hq (fun e=>(HW1.out.apart q e.symm).2 rfl);have d5:=(World.cell?_of_block (w:=wb) (a:=⟨q,5,none⟩) hq6).trans c5;have y5:=(World.frozen?_of_block (w:=wb) (a:=⟨q,5,none⟩) hq6).trans z5))
  all_goals
   go_wp2_with fail;go_meet;obtain⟨r1,r2⟩:=(HW1.out.below (Below.drew (Below.refl _ _))).grow hg6 (hv':=.slice (some ⟨g,0,none⟩) (hand.length+1) cap) (hand':=hand ++ [os]) (by rw[List.length_append,List.map_append];exact hown6) (fun g' hg'=>by
    have e:g=g':=by simpa[Value.ownBlock] using hg'
    subst e;exact hloc6)
   exact⟨_,r1,HBB.out.trans ((Below.drew (Below.refl B wb)).trans (r2.lowB (fun j hj=>by
    rcases hj with e|e
    ·omega
    ·exact(HW1.out.row.lt j e).1) hBb))⟩
 case rest =>
  obtain⟨hv',hw',hb'⟩:=hcut;have HF:=hid (⟨hb',O,tv,ov,hv',X,Y,s,_,hw',HI.out.mono (Nat.le_succ k),HO.out,hOl,by rw[List.length_append];simpa using hhl,fun t ht=>(by
   rcases List.mem_append.1 ht with ht|ht
   ·exact HHT.out t ht
   ·rw[List.mem_singleton] at ht;subst ht;exact hs),fun e=>(by simp at e)⟩:Below B w wc/\PlayAt B S (k+1) nc wc q x)
  clear hw' hb';go_wp2;go_ret;exact⟨rfl,HF.out⟩
theorem step_clear{G B S k:Nat}{nc:Bool}{w:World}{q x:Nat}(h:Ask G B S k nc w q x)(oa ob:Int)(os:Sp.Str):
  Calls Tryz.prog 60 #[.pointer (some ⟨q,0,none⟩),(OpV.agg ⟨2,oa,ob,os⟩)] w (Went B S k nc w q x):=by
 obtain⟨hw,⟨O,tv,ov,hv,X,Y,s,hand,hW,hi,hO,hOl,hhl,hht,hnil⟩,hG,hB,hqB,hk⟩:=h;obtain⟨wb,hwb⟩:∃ wb,wb=w.alloc (.cells #[.int .i64 2,.int .i64 oa,.int .i64 ob,.string ⟨os.toArray⟩] 115):=⟨_,rfl⟩
 have hbb:Below w.heap.size w wb:=by rw[hwb];exact(Below.refl _ _).alloc (Nat.le_refl _) _
 have hzb:wb.heap.size=w.heap.size+1:=by rw[hwb];simp
 have p0:wb.cell? ⟨w.heap.size,0,none⟩=some (.int .i64 2):=by rw[hwb,World.cell?_alloc_at _ _ _ _ rfl];rfl
 have p1:wb.cell? ⟨w.heap.size,1,none⟩=some (.int .i64 oa):=by rw[hwb,World.cell?_alloc_at _ _ _ _ rfl];rfl
 have p2:wb.cell? ⟨w.heap.size,2,none⟩=some (.int .i64 ob):=by rw[hwb,World.cell?_alloc_at _ _ _ _ rfl];rfl
 have p3:wb.cell? ⟨w.heap.size,3,none⟩=some (.string ⟨os.toArray⟩):=by rw[hwb,World.cell?_alloc_at _ _ _ _ rfl];rfl
 have h1:=hW.below hbb;have hlo:=h1.ses.lost;have cw0:=hW.c0;have qw:=hW.lt;have c0:=h1.c0;have c1:=h1.c1;have c2:=h1.c2;have c5:=h1.c5;have z5:=h1.z 5;have hq:=h1.lt;have hqr:¬q=w.heap.size:=by have:=hW.lt;omega
 have hrb:w.heap.size<wb.heap.size:=by omega
 have hBb:B<=wb.heap.size:=by omega
 clear hzb;obtain⟨hT,hXl,hYl⟩:=h1.few hi hOl;have HW1:=hid h1;have HLO:=hid hlo;have HBB:=hid (hbb.mono hB);have HI:=hid hi;have HHT:=hid hht;have HO:=hid hO;have HT:=hid hT;have HNIL:=hid hnil;have HWD:=hid (hw.keep hbb);clear h1 hlo hbb hi hht hO hW hw hT hnil;unfold OpV.agg sv;go_enter Tryz.func60,Tryz.ntmps60;go_wp2_with fail;rw[<-hwb];clear hwb cw0 qw;refine HLO.out.mono ?_;rintro e wq ⟨rfl,hwq⟩;have hwq':=hwq.symm;subst hwq';clear hwq;obtain⟨ra,rc,rfl⟩:=W3.row_slice HW1.out.row;go_wp2_with fail;go_ret;obtain⟨g1,g2,_,g4,_⟩:=set_facts wb q 5 (.slice none 0 0) _ c5 HW1.out.z;have hc:=set_chg wb q 5 (.slice none 0 0);refine⟨rfl,HBB.out.trans (hc.lowB (fun j hj=>by omega) (by omega)),O,tv,ov,.slice none 0 0,X,Y,s,[],?_,HI.out.mono (Nat.le_succ k),HO.out,hOl,Nat.zero_le _,fun t ht=>(by cases ht),fun _=>rfl⟩;exact HW1.out.handed (hc.mono fun k hk=>.inl hk) (World.ownsRow_nil _ _ _ _) (fun g hg=>by cases hg) ((g2 0 (by omega)).trans c0) ((g2 1 (by omega)).trans c1) ((g2 2 (by omega)).trans c2) ((g2 3 (by omega)).trans HW1.out.c3) ((g2 4 (by omega)).trans HW1.out.c4) g1 g4
theorem step_reopen{G B S k:Nat}{nc:Bool}{w:World}{q x:Nat}(h:Ask G B S k nc w q x)(oa ob:Int)(os:Sp.Str)(hnc:nc=false)(ha:-9223372036854775808<=oa/\oa<=9223372036854775807)(hb:ob<=9223372036854775807):
  Calls Tryz.prog 60 #[.pointer (some ⟨q,0,none⟩),(OpV.agg ⟨9,oa,ob,os⟩)] w (Went B S k nc w q x):=by
 obtain⟨hw,⟨O,tv,ov,hv,X,Y,s,hand,hW,hi,hO,hOl,hhl,hht,hnil⟩,hG,hB,hqB,hk⟩:=h;obtain⟨wb,hwb⟩:∃ wb,wb=w.alloc (.cells #[.int .i64 9,.int .i64 oa,.int .i64 ob,.string ⟨os.toArray⟩] 115):=⟨_,rfl⟩
 have hbb:Below w.heap.size w wb:=by rw[hwb];exact(Below.refl _ _).alloc (Nat.le_refl _) _
 have hzb:wb.heap.size=w.heap.size+1:=by rw[hwb];simp
 have p0:wb.cell? ⟨w.heap.size,0,none⟩=some (.int .i64 9):=by rw[hwb,World.cell?_alloc_at _ _ _ _ rfl];rfl
 have p1:wb.cell? ⟨w.heap.size,1,none⟩=some (.int .i64 oa):=by rw[hwb,World.cell?_alloc_at _ _ _ _ rfl];rfl
 have p2:wb.cell? ⟨w.heap.size,2,none⟩=some (.int .i64 ob):=by rw[hwb,World.cell?_alloc_at _ _ _ _ rfl];rfl
 have p3:wb.cell? ⟨w.heap.size,3,none⟩=some (.string ⟨os.toArray⟩):=by rw[hwb,World.cell?_alloc_at _ _ _ _ rfl];rfl
 have h1:=hW.below hbb;have hlo:=h1.ses.lost;have cw0:=hW.c0;have qw:=hW.lt;have c0:=h1.c0;have c1:=h1.c1;have c2:=h1.c2;have c5:=h1.c5;have z5:=h1.z 5;have hq:=h1.lt;have hqr:¬q=w.heap.size:=by have:=hW.lt;omega
 have hrb:w.heap.size<wb.heap.size:=by omega
 have hBb:B<=wb.heap.size:=by omega
 clear hzb;obtain⟨hT,hXl,hYl⟩:=h1.few hi hOl;have HW1:=hid h1;have HLO:=hid hlo;have HBB:=hid (hbb.mono hB);have HI:=hid hi;have HHT:=hid hht;have HO:=hid hO;have HT:=hid hT;have HNIL:=hid hnil;have HWD:=hid (hw.keep hbb);subst hnc;have hro:=reopens_any (hw.keep hbb) h1 hi (V20.inv_big hi).1 hqB hG (by omega) (by omega) (by omega) hT hO oa ob ha.1 ha.2 hb;have HRO:=hid hro;clear h1 hlo hbb hi hht hO hW hw hT hnil hro;unfold OpV.agg sv;go_enter Tryz.func60,Tryz.ntmps60;go_wp2_with fail;rw[<-hwb];clear hwb cw0 qw;refine HLO.out.mono ?_;rintro e wq ⟨rfl,hwq⟩;have hwq':=hwq.symm;subst hwq';clear hwq;go_wp2_with fail;refine HRO.out.mono ?_;rintro e w5 ⟨rfl,hb5,O',tv',ov',X',Y',s',hW5,hA5,hXX,hYY⟩;have HW5:=hid hW5;have HB5:=hid (HBB.out.trans hb5);have HA5:=hid hA5;have e5:s'.O=s.O:=by rw[<-hW5.orP,hYY,HW1.out.orP]
 have HE5:=hid e5;clear hW5 hb5 hA5 hXX hYY e5;go_wp2;go_ret;exact⟨rfl,HB5.out,O',tv',ov',hv,X',Y',s',hand,HW5.out,.inl (HA5.out.mono (Nat.le_succ k)),by rw[HE5.out];exact HO.out,by rw[HE5.out];exact hOl,by omega,HHT.out,HNIL.out⟩
theorem step_cut{G B S k:Nat}{nc:Bool}{w:World}{q x:Nat}(h:Ask G B S k nc w q x)(oa ob:Int)(os:Sp.Str)(hnc:nc=false)(ha:oa<=9223372036854775807):
  Calls Tryz.prog 60 #[.pointer (some ⟨q,0,none⟩),(OpV.agg ⟨10,oa,ob,os⟩)] w (Went B S k nc w q x):=by
 obtain⟨hw,⟨O,tv,ov,hv,X,Y,s,hand,hW,hi,hO,hOl,hhl,hht,hnil⟩,hG,hB,hqB,hk⟩:=h;obtain⟨wb,hwb⟩:∃ wb,wb=w.alloc (.cells #[.int .i64 10,.int .i64 oa,.int .i64 ob,.string ⟨os.toArray⟩] 115):=⟨_,rfl⟩
 have hbb:Below w.heap.size w wb:=by rw[hwb];exact(Below.refl _ _).alloc (Nat.le_refl _) _
 have hzb:wb.heap.size=w.heap.size+1:=by rw[hwb];simp
 have p0:wb.cell? ⟨w.heap.size,0,none⟩=some (.int .i64 10):=by rw[hwb,World.cell?_alloc_at _ _ _ _ rfl];rfl
 have p1:wb.cell? ⟨w.heap.size,1,none⟩=some (.int .i64 oa):=by rw[hwb,World.cell?_alloc_at _ _ _ _ rfl];rfl
 have p2:wb.cell? ⟨w.heap.size,2,none⟩=some (.int .i64 ob):=by rw[hwb,World.cell?_alloc_at _ _ _ _ rfl];rfl
 have p3:wb.cell? ⟨w.heap.size,3,none⟩=some (.string ⟨os.toArray⟩):=by rw[hwb,World.cell?_alloc_at _ _ _ _ rfl];rfl
 have h1:=hW.below hbb;have hlo:=h1.ses.lost;have cw0:=hW.c0;have qw:=hW.lt;have c0:=h1.c0;have c1:=h1.c1;have c2:=h1.c2;have c5:=h1.c5;have z5:=h1.z 5;have hq:=h1.lt;have hqr:¬q=w.heap.size:=by have:=hW.lt;omega
 have hrb:w.heap.size<wb.heap.size:=by omega
 have hBb:B<=wb.heap.size:=by omega
 clear hzb;obtain⟨hT,hXl,hYl⟩:=h1.few hi hOl;have HW1:=hid h1;have HLO:=hid hlo;have HBB:=hid (hbb.mono hB);have HI:=hid hi;have HHT:=hid hht;have HO:=hid hO;have HT:=hid hT;have HNIL:=hid hnil;have HWD:=hid (hw.keep hbb);subst hnc;have hcu:∀ W,Below wb.heap.size wb W->Calls Tryz.prog 28 #[.pointer (some ⟨x,0,none⟩),.int .i64 oa] W fun e w'=>e=.returned (.tuple #[])/\Chg O wb w'/\Bare B O w' x (s.x.cut oa):=fun W hW=>((h1.ses.below hW).cut oa ha).mono fun e w' hh=>⟨hh.1,(Chg.of_below hW).trans hh.2.1,hh.2.2⟩
 have HCU:=hid hcu;clear h1 hlo hbb hi hht hO hW hw hT hnil hcu;unfold OpV.agg sv;go_enter Tryz.func60,Tryz.ntmps60;go_wp2_with fail;rw[<-hwb];clear hwb cw0 qw;refine HLO.out.mono ?_;rintro e wq ⟨rfl,hwq⟩;have hwq':=hwq.symm;subst hwq';clear hwq;go_upto_region 12 with(fail)
 go_cut [] (fun wx=>Chg O wb wx/\Bare B O wx x (s.x.cut oa))
 case first =>
  go_region_with (go_at_call 28;refine(HCU.out _ ((Below.refl wb.heap.size wb).drew)).mono ?_;rintro e w5 ⟨rfl,hc5,hs5⟩)
  all_goals (go_wp2_with fail;go_meet;exact⟨hc5,hs5⟩)
 case rest =>
  obtain⟨hc5,hs5⟩:=hcut;have h5:=HW1.out.step hc5 hs5 fun k hk=>.inl hk
  have HF:=hid (⟨HBB.out.trans (hc5.lowB (fun j hj=>(HW1.out.ses.low j hj).1) (by omega)),O,tv,ov,hv,X,Y,_,hand,h5,V19.Inv.mono (V19.cut HI.out oa) (Nat.le_succ k),HO.out,hOl,by omega,HHT.out,HNIL.out⟩:Below B w wc/\PlayAt B S (k+1) false wc q x);clear h5 hc5 hs5;go_wp2;go_ret;exact⟨rfl,HF.out⟩
end
end Go.Proofs.YtfphcecjhdkcoaaGreatDoor

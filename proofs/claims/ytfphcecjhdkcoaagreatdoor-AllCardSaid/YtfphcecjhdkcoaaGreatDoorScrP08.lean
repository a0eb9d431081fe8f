/-
The lines that name a file: those that are one but for a clash.
-/
import Derived.Test.YtfphcecjhdkcoaaGreatDoorScrP03
import Derived.Test.YtfphcecjhdkcoaaGreatDoorScrP04
import Derived.Test.YtfphcecjhdkcoaaGreatDoorScrP05
import Derived.Deep.RegionWith
import Derived.RegionDies
import Derived.Deep.RegionLaw
import Derived.Deep.AppendLies
import Derived.Deep.DeepCutAuto
set_option maxRecDepth 100000
set_option maxHeartbeats 8000000
namespace Go.Proofs.YtfphcecjhdkcoaaGreatDoor
open Go.Lib (hid)
section
open Go.RowKit
def PackAt(w:World)(m b:Nat)(p:Sp.Pk):Prop:=
 ∃ nv bv fv,m<=w.heap.size/\b+1<m/\w.cell? ⟨b,0,none⟩=some nv/\w.cell? ⟨b,1,none⟩=some bv/\w.cell? ⟨b,2,none⟩=some (sv p.name)/\w.cell? ⟨b,3,none⟩=some (sv p.ver)/\w.cell? ⟨b,4,none⟩=some fv /\
  GsOn (fun x=>x<m/\b+1<x) w nv p.needs/\ChOn (fun x=>x<m/\b+1<x) w bv p.bars/\w.ownsRow m 182 2 fv p.files.length (p.files.flatMap flCells) /\
  (p.needs=[]->nv=.slice none 0 0)/\(p.bars=[]->bv=.slice none 0 0)/\(p.files=[]->fv=.slice none 0 0)/\∀ o,w.frozen? ⟨b,o,none⟩=false
theorem PackAt.below{w w':World}{m b:Nat}{p:Sp.Pk}(h:PackAt w m b p)(hb:Below w.heap.size w w'):PackAt w' m b p:=by
 obtain⟨nv,bv,fv,hm,hbm,h0,h1,h2,h3,h4,g0,g1,g2,n0,n1,n2,hz⟩:=h;have hc:=fun o=>(bcell hb).1 b o (by omega)
 exact⟨nv,bv,fv,Nat.le_trans hm hb.size,hbm,(hc 0).trans h0,(hc 1).trans h1,(hc 2).trans h2,(hc 3).trans h3,(hc 4).trans h4,g0.keep fun x hx=>hb.block x (by omega),SlOn.keep g1 fun x hx=>hb.block x (by omega),W3.row_keep g2 hb,n0,n1,n2,fun o=>((bcell hb).2 b o (by omega)).trans (hz o)⟩
theorem PackAt.setName{w:World}{m b:Nat}{p:Sp.Pk}(h:PackAt w m b p)(n:Sp.Str):PackAt (w.setCell ⟨b,2,none⟩ (sv n)) m b { p with name:=n }:=by
 obtain⟨nv,bv,fv,hm,hbm,h0,h1,h2,h3,h4,g0,g1,g2,n0,n1,n2,hz⟩:=h;obtain⟨c1,c2,c3,c4,c5⟩:=set_facts w b 2 (sv n) _ h2 hz;exact⟨nv,bv,fv,by omega,hbm,(c2 0 (by omega)).trans h0,(c2 1 (by omega)).trans h1,c1,(c2 3 (by omega)).trans h3,(c2 4 (by omega)).trans h4,g0.keep fun x hx=>c3 x (by omega),SlOn.keep g1 fun x hx=>c3 x (by omega),
  row_block g2 fun k hk=>c3 k (by omega),n0,n1,n2,c4⟩
theorem PackAt.setVer{w:World}{m b:Nat}{p:Sp.Pk}(h:PackAt w m b p)(n:Sp.Str):PackAt (w.setCell ⟨b,3,none⟩ (sv n)) m b { p with ver:=n }:=by
 obtain⟨nv,bv,fv,hm,hbm,h0,h1,h2,h3,h4,g0,g1,g2,n0,n1,n2,hz⟩:=h;obtain⟨c1,c2,c3,c4,c5⟩:=set_facts w b 3 (sv n) _ h3 hz;exact⟨nv,bv,fv,by omega,hbm,(c2 0 (by omega)).trans h0,(c2 1 (by omega)).trans h1,(c2 2 (by omega)).trans h2,c1,(c2 4 (by omega)).trans h4,g0.keep fun x hx=>c3 x (by omega),SlOn.keep g1 fun x hx=>c3 x (by omega),
  row_block g2 fun k hk=>c3 k (by omega),n0,n1,n2,c4⟩
theorem PackAt.setNeeds{w:World}{m b:Nat}{p:Sp.Pk}(h:PackAt w m b p)(hf:p.files=[]){v:Value}{gs:List (List Sp.Ch)}(hg:GsOn (fun x=>x<w.heap.size/\b+1<x) w v gs)(hn:gs=[]->v=.slice none 0 0):
  PackAt (w.setCell ⟨b,0,none⟩ v) w.heap.size b { p with needs:=gs }:=by
 obtain⟨nv,bv,fv,hm,hbm,h0,h1,h2,h3,h4,g0,g1,g2,n0,n1,n2,hz⟩:=h;obtain⟨c1,c2,c3,c4,c5⟩:=set_facts w b 0 v _ h0 hz;refine⟨v,bv,fv,by omega,by omega,c1,(c2 1 (by omega)).trans h1,(c2 2 (by omega)).trans h2,(c2 3 (by omega)).trans h3,(c2 4 (by omega)).trans h4,hg.keep fun x hx=>c3 x (by omega),SlOn.keep (SlOn.mono g1 fun x hx=>⟨by omega,hx.2⟩) fun x hx=>c3 x (by omega),
  ?_,hn,n1,n2,c4⟩
 rw[hf,n2 hf];exact⟨rfl,.inl ⟨rfl,rfl⟩⟩
theorem PackAt.setBars{w:World}{m b:Nat}{p:Sp.Pk}(h:PackAt w m b p)(hf:p.files=[]){v:Value}{cs:List Sp.Ch}(hg:ChOn (fun x=>x<w.heap.size/\b+1<x) w v cs)(hn:cs=[]->v=.slice none 0 0):
  PackAt (w.setCell ⟨b,1,none⟩ v) w.heap.size b { p with bars:=cs }:=by
 obtain⟨nv,bv,fv,hm,hbm,h0,h1,h2,h3,h4,g0,g1,g2,n0,n1,n2,hz⟩:=h;obtain⟨c1,c2,c3,c4,c5⟩:=set_facts w b 1 v _ h1 hz;refine⟨nv,v,fv,by omega,by omega,(c2 0 (by omega)).trans h0,c1,(c2 2 (by omega)).trans h2,(c2 3 (by omega)).trans h3,(c2 4 (by omega)).trans h4,(g0.mono fun x hx=>⟨by omega,hx.2⟩).keep fun x hx=>c3 x (by omega),SlOn.keep hg fun x hx=>c3 x (by omega),
  ?_,n0,hn,n2,c4⟩
 rw[hf,n2 hf];exact⟨rfl,.inl ⟨rfl,rfl⟩⟩
theorem line_package{G:Nat}(m b:Nat)(p:Sp.Pk)(s:ByteArray)(w:World)(hG:Glob G w)(hP:PackAt w m b p)(hs:s.size<1000000)(a1 a2 b1 b2:Sp.Str)(hA:Lib.cut (bl s) [32]=(a1,a2,true))
  (ha1:(a1 == [112,97,99,107,97,103,101])=true)(hB:Lib.cut a2 [32]=(b1,b2,true))(hn:Sp.isName b1=true)(hv:Sp.isVer b2=true):
  Calls Tryz.prog 103 #[.pointer (some ⟨b,0,none⟩),.int .i64 0,.string s] w fun e w'=>e=.returned (.tuple #[])/\∃ m',m<=m'/\PackAt w' m' b { p with name:=b1,ver:=b2 }/\FrN m b w w':=by
 obtain⟨nv,bv,fv,hm,hb,h0,h1,h2,h3,h4,g0,g1,g2,n0,n1,n2,hz⟩:=hP;have hmw:=hm;have ha2:a2.length<1000000:=by
  have:=W2.cut_snd (bl s) [32];rw[hA,bl_len] at this;simp only at this;omega
 have hn':Sp.isName (bl ⟨b1.toArray⟩)=true:=by rw[bl_mk];exact hn
 have hv':Sp.isVer (bl ⟨b2.toArray⟩)=true:=by rw[bl_mk];exact hv
 have HN:=hid hn';have HV:=hid hv';have HA:=hid hA;have HB:=hid hB;clear hn hv hA hB hn' hv';go_enter Tryz.func103,Tryz.ntmps103;go_wp2_with fail;refine(cutS_any s _ w hG (by omega)).mono ?_;rintro e w1 ⟨rfl,k,rfl⟩;rw[show bl ⟨#[32]⟩=[32] from rfl,HA.out];have hGk:=hG.keep (below_drawn w k);go_wp2_with (first
  | (go_at_call 152;refine(must_true _).mono ?_;rintro e wx ⟨rfl,rfl⟩)
  | (go_at_call 151;refine(cutS_any _ _ _ hGk (by rw[<-bl_len,bl_mk];omega)).mono ?_;rintro e wx ⟨rfl,k2,rfl⟩;rw[show bl ⟨#[32]⟩=[32] from rfl,bl_mk,HB.out]))
 have hbk:Below w.heap.size w (w.drewN (k+k2)):=below_drawn w _;refine(name_yes _ _ (hG.keep hbk) HN.out).mono ?_;rintro e w4 ⟨rfl,hb4⟩;go_wp2_with fail;refine(ver_yes _ _ HV.out).mono ?_;rintro e w5 ⟨rfl,hb5⟩;have hb5':Below w.heap.size w w5:=hbk.trans (hb4.trans (hb5.mono hb4.size));have hP5:=PackAt.below ⟨nv,bv,fv,hm,hb,h0,h1,h2,h3,h4,g0,g1,g2,n0,n1,n2,hz⟩ hb5';clear h0 h1 h2 h3 h4 g0 g1 g2 n0 n1 n2 hz;obtain⟨nv,bv,fv,hm,hb,h0,h1,h2,h3,h4,g0,g1,g2,n0,n1,n2,hz⟩:=hP5;have z2:=hz 2;have z3:=hz 3;have hP5:PackAt w5 m b p:=⟨nv,bv,fv,hm,hb,h0,h1,h2,h3,h4,g0,g1,g2,n0,n1,n2,hz⟩
 clear h0 h1 h4 g0 g1 g2 n0 n1 n2 hz;go_wp2
 go_end0
 exact⟨rfl,m,Nat.le_refl _,(hP5.setName b1).setVer b2,(FrN.of_below hb5' hmw).trans ((FrN.set _ _ _ _ _).trans (FrN.set _ _ _ _ _))⟩
end
section
open Go.RowKit
theorem line_no0{G:Nat}(m b:Nat)(p:Sp.Pk)(s:ByteArray)(w:World)(hG:Glob G w)(hP:PackAt w m b p)(hs:s.size<1000000)(i:Nat)(a1 a2:Sp.Str)(ok c1 c2:Bool)(hA:Lib.cut (bl s) [32]=(a1,a2,ok))(hi:((i:Int) == 0)=c1)(hw:(a1 == [112,97,99,107,97,103,101])=c2)(h:(ok && (c1 == c2))=false):
  Calls Tryz.prog 103 #[.pointer (some ⟨b,0,none⟩),.int .i64 (i:Int),.string s] w fun e w'=>e=.panicked [{v:=.iface 177 (.agg #[]),recovered:=false}]/\FrN m b w w':=by
 have hPw:=hP;obtain⟨nv,bv,fv,hmw,hbm,h0,h1,h2,h3,h4,g0,g1,g2,n0,n1,n2,hz⟩:=hP;have ha2:a2.length<1000000:=by
  have:=W2.cut_snd (bl s) [32];rw[hA,bl_len] at this;simp only at this;omega
 have HA:=hid hA;clear hA;clear hPw h0 h1 h2 h3 h4 g0 g1 g2 n0 n1 n2 hz;go_enter Tryz.func103,Tryz.ntmps103;go_wp2_with fail;refine(cutS_any s _ w hG (by omega)).mono ?_;rintro e w1 ⟨rfl,k,rfl⟩;rw[show bl ⟨#[32]⟩=[32] from rfl,HA.out];have hbk:Below w.heap.size w (w.drewN k):=below_drawn w k;have hGk:=hG.keep hbk;have hfin:FrN m b w (w.drewN k):=FrN.of_below hbk hmw
 cases ok with
 | false =>
  go_wp2_with fail;refine(must_false _).mono ?_;rintro e w3 ⟨rfl,rfl⟩;go_wp2;exact⟨rfl,rfl,hfin⟩
 | true =>
  have h':(c1 == c2)=false:=by rwa [Bool.true_and] at h
  clear h
  cases c1 with
  | false =>
   cases c2 with
   | false=>cases h'
   | true =>
    go_wp2_with fail;refine(must_false _).mono ?_;rintro e w3 ⟨rfl,rfl⟩;go_wp2;exact⟨rfl,rfl,hfin⟩
  | true =>
   cases c2 with
   | true=>cases h'
   | false =>
    go_wp2_with fail;refine(must_false _).mono ?_;rintro e w3 ⟨rfl,rfl⟩;go_wp2;exact⟨rfl,rfl,hfin⟩
theorem line_package_no1{G:Nat}(m b:Nat)(p:Sp.Pk)(s:ByteArray)(w:World)(hG:Glob G w)(hP:PackAt w m b p)(hs:s.size<1000000)(i:Nat)(a1 a2:Sp.Str)(b1 b2:Sp.Str)(hA:Lib.cut (bl s) [32]=(a1,a2,true))(h0i:i=0)(hw0:(a1 == [112,97,99,107,97,103,101])=true)(hB:Lib.cut a2 [32]=(b1,b2,false)):
  Calls Tryz.prog 103 #[.pointer (some ⟨b,0,none⟩),.int .i64 (i:Int),.string s] w fun e w'=>e=.panicked [{v:=.iface 177 (.agg #[]),recovered:=false}]/\FrN m b w w':=by
 subst h0i;have hPw:=hP;obtain⟨nv,bv,fv,hmw,hbm,h0,h1,h2,h3,h4,g0,g1,g2,n0,n1,n2,hz⟩:=hP;have ha2:a2.length<1000000:=by
  have:=W2.cut_snd (bl s) [32];rw[hA,bl_len] at this;simp only at this;omega
 have HA:=hid hA;have HB:=hid hB;clear hA hB;clear hPw h0 h1 h2 h3 h4 g0 g1 g2 n0 n1 n2 hz;go_enter Tryz.func103,Tryz.ntmps103;go_wp2_with fail;refine(cutS_any s _ w hG (by omega)).mono ?_;rintro e w1 ⟨rfl,k,rfl⟩;rw[show bl ⟨#[32]⟩=[32] from rfl,HA.out];have hbk:Below w.heap.size w (w.drewN k):=below_drawn w k;have hGk:=hG.keep hbk;go_wp2_with fail;refine(must_true _).mono ?_;rintro e wx ⟨rfl,rfl⟩;go_wp2_with fail;refine(cutS_any _ _ _ hGk (by rw[<-bl_len,bl_mk];omega)).mono ?_;rintro e wx ⟨rfl,k2,rfl⟩;rw[show bl ⟨#[32]⟩=[32] from rfl,bl_mk,HB.out];go_wp2_with fail;refine(must_false _).mono ?_;rintro e w3 ⟨rfl,rfl⟩;go_wp2;exact⟨rfl,rfl,FrN.of_below (below_drawn w _) hmw⟩
theorem line_package_no2{G:Nat}(m b:Nat)(p:Sp.Pk)(s:ByteArray)(w:World)(hG:Glob G w)(hP:PackAt w m b p)(hs:s.size<1000000)(i:Nat)(a1 a2:Sp.Str)(b1 b2:Sp.Str)(hA:Lib.cut (bl s) [32]=(a1,a2,true))(h0i:i=0)(hw0:(a1 == [112,97,99,107,97,103,101])=true)(hB:Lib.cut a2 [32]=(b1,b2,true))(hn:Sp.isName b1=false):
  Calls Tryz.prog 103 #[.pointer (some ⟨b,0,none⟩),.int .i64 (i:Int),.string s] w fun e w'=>e=.panicked [{v:=.iface 177 (.agg #[]),recovered:=false}]/\FrN m b w w':=by
 subst h0i;have hPw:=hP;obtain⟨nv,bv,fv,hmw,hbm,h0,h1,h2,h3,h4,g0,g1,g2,n0,n1,n2,hz⟩:=hP;have ha2:a2.length<1000000:=by
  have:=W2.cut_snd (bl s) [32];rw[hA,bl_len] at this;simp only at this;omega
 have HA:=hid hA;have HN:Hid (Sp.isName (bl ⟨b1.toArray⟩)=false):=hid (by rw[bl_mk];exact hn);clear hn;have HB:=hid hB;clear hA hB;clear hPw h0 h1 h2 h3 h4 g0 g1 g2 n0 n1 n2 hz;go_enter Tryz.func103,Tryz.ntmps103;go_wp2_with fail;refine(cutS_any s _ w hG (by omega)).mono ?_;rintro e w1 ⟨rfl,k,rfl⟩;rw[show bl ⟨#[32]⟩=[32] from rfl,HA.out];have hbk:Below w.heap.size w (w.drewN k):=below_drawn w k;have hGk:=hG.keep hbk;go_wp2_with fail;refine(must_true _).mono ?_;rintro e wx ⟨rfl,rfl⟩;go_wp2_with fail;refine(cutS_any _ _ _ hGk (by rw[<-bl_len,bl_mk];omega)).mono ?_;rintro e wx ⟨rfl,k2,rfl⟩;rw[show bl ⟨#[32]⟩=[32] from rfl,bl_mk,HB.out];go_wp2_with fail;refine(must_true _).mono ?_;rintro e w3 ⟨rfl,rfl⟩;go_wp2_with fail;refine(name_no _ _ (hG.keep (below_drawn w _)) HN.out).mono ?_;rintro e w4 ⟨rfl,hb4⟩;go_wp2;exact⟨rfl,rfl,FrN.of_below ((below_drawn w _).trans (hb4.mono (below_drawn w _).size)) hmw⟩
theorem line_package_no3{G:Nat}(m b:Nat)(p:Sp.Pk)(s:ByteArray)(w:World)(hG:Glob G w)(hP:PackAt w m b p)(hs:s.size<1000000)(i:Nat)(a1 a2:Sp.Str)(b1 b2:Sp.Str)(hA:Lib.cut (bl s) [32]=(a1,a2,true))(h0i:i=0)(hw0:(a1 == [112,97,99,107,97,103,101])=true)(hB:Lib.cut a2 [32]=(b1,b2,true))(hn:Sp.isName b1=true)(hv:Sp.isVer b2=false):
  Calls Tryz.prog 103 #[.pointer (some ⟨b,0,none⟩),.int .i64 (i:Int),.string s] w fun e w'=>e=.panicked [{v:=.iface 177 (.agg #[]),recovered:=false}]/\FrN m b w w':=by
 subst h0i;have hPw:=hP;obtain⟨nv,bv,fv,hmw,hbm,h0,h1,h2,h3,h4,g0,g1,g2,n0,n1,n2,hz⟩:=hP;have ha2:a2.length<1000000:=by
  have:=W2.cut_snd (bl s) [32];rw[hA,bl_len] at this;simp only at this;omega
 have HA:=hid hA;have HN:Hid (Sp.isName (bl ⟨b1.toArray⟩)=true):=hid (by rw[bl_mk];exact hn);clear hn;have HV:Hid (Sp.isVer (bl ⟨b2.toArray⟩)=false):=hid (by rw[bl_mk];exact hv);clear hv;have HB:=hid hB;clear hA hB;clear hPw h0 h1 h2 h3 h4 g0 g1 g2 n0 n1 n2 hz;go_enter Tryz.func103,Tryz.ntmps103;go_wp2_with fail;refine(cutS_any s _ w hG (by omega)).mono ?_;rintro e w1 ⟨rfl,k,rfl⟩;rw[show bl ⟨#[32]⟩=[32] from rfl,HA.out];have hbk:Below w.heap.size w (w.drewN k):=below_drawn w k;have hGk:=hG.keep hbk;go_wp2_with fail;refine(must_true _).mono ?_;rintro e wx ⟨rfl,rfl⟩;go_wp2_with fail;refine(cutS_any _ _ _ hGk (by rw[<-bl_len,bl_mk];omega)).mono ?_;rintro e wx ⟨rfl,k2,rfl⟩;rw[show bl ⟨#[32]⟩=[32] from rfl,bl_mk,HB.out];go_wp2_with fail;refine(must_true _).mono ?_;rintro e w3 ⟨rfl,rfl⟩;go_wp2_with fail;refine(name_yes _ _ (hG.keep (below_drawn w _)) HN.out).mono ?_;rintro e w4 ⟨rfl,hb4⟩;have hb4':=(below_drawn w (k+k2)).trans (hb4.mono (below_drawn w _).size);go_wp2_with fail;refine(ver_no _ _ HV.out).mono ?_;rintro e w5 ⟨rfl,hb5⟩;go_wp2;exact⟨rfl,rfl,FrN.of_below (hb4'.trans (hb5.mono hb4'.size)) hmw⟩
theorem line_other{G:Nat}(m b:Nat)(p:Sp.Pk)(s:ByteArray)(w:World)(hG:Glob G w)(hP:PackAt w m b p)(hs:s.size<1000000)(i:Nat)(a1 a2:Sp.Str)(hA:Lib.cut (bl s) [32]=(a1,a2,true))(hi:((i:Int) == 0)=false)(hw0:(a1 == [112,97,99,107,97,103,101])=false)(hw1:(a1 == [110,101,101,100,115])=false)(hw2:(a1 == [98,97,114,115])=false)(hw3:(a1 == [102,105,108,101])=false):
  Calls Tryz.prog 103 #[.pointer (some ⟨b,0,none⟩),.int .i64 (i:Int),.string s] w fun e w'=>e=.panicked [{v:=.iface 177 (.agg #[]),recovered:=false}]/\FrN m b w w':=by
 have hPw:=hP;obtain⟨nv,bv,fv,hmw,hbm,h0,h1,h2,h3,h4,g0,g1,g2,n0,n1,n2,hz⟩:=hP;have ha2:a2.length<1000000:=by
  have:=W2.cut_snd (bl s) [32];rw[hA,bl_len] at this;simp only at this;omega
 have HA:=hid hA;clear hA;clear hPw h0 h1 h2 h3 h4 g0 g1 g2 n0 n1 n2 hz;go_enter Tryz.func103,Tryz.ntmps103;go_wp2_with fail;refine(cutS_any s _ w hG (by omega)).mono ?_;rintro e w1 ⟨rfl,k,rfl⟩;rw[show bl ⟨#[32]⟩=[32] from rfl,HA.out];have hbk:Below w.heap.size w (w.drewN k):=below_drawn w k;have hGk:=hG.keep hbk;go_wp2_with fail;refine(must_true _).mono ?_;rintro e wx ⟨rfl,rfl⟩;go_wp2;exact⟨rfl,rfl,FrN.of_below hbk hmw⟩
end
section
open Go.RowKit
theorem line_needs_no1{G:Nat}(m b:Nat)(p:Sp.Pk)(s:ByteArray)(w:World)(hG:Glob G w)(hP:PackAt w m b p)(hs:s.size<1000000)(i:Nat)(a1 a2:Sp.Str)(hA:Lib.cut (bl s) [32]=(a1,a2,true))(hi:((i:Int) == 0)=false)(hw0:(a1 == [112,97,99,107,97,103,101])=false)(hw1:(a1 == [110,101,101,100,115])=true)(hne:p.needs≠[]):
  Calls Tryz.prog 103 #[.pointer (some ⟨b,0,none⟩),.int .i64 (i:Int),.string s] w fun e w'=>e=.panicked [{v:=.iface 177 (.agg #[]),recovered:=false}]/\FrN m b w w':=by
 have hPw:=hP;obtain⟨nv,bv,fv,hmw,hbm,h0,h1,h2,h3,h4,g0,g1,g2,n0,n1,n2,hz⟩:=hP;have ha2:a2.length<1000000:=by
  have:=W2.cut_snd (bl s) [32];rw[hA,bl_len] at this;simp only at this;omega
 have HA:=hid hA;have q169:∀ (a:Option Addr) (n c n' c':Nat) (W:World),(binOp .eql 169 (.slice a n c) (.slice none n' c')).run Tryz.prog W=.ok (.bool a.isNone) W:=fun a n c n' c' W=>Lib.run_eql_slice_nil W _ _ a n c n' c' Tryz.underlying169
 have q170:∀ (a:Option Addr) (n c n' c':Nat) (W:World),(binOp .eql 170 (.slice a n c) (.slice none n' c')).run Tryz.prog W=.ok (.bool a.isNone) W:=fun a n c n' c' W=>Lib.run_eql_slice_nil W _ _ a n c n' c' Tryz.underlying170
 have q173:∀ (a:Option Addr) (n c n' c':Nat) (W:World),(binOp .eql 173 (.slice a n c) (.slice none n' c')).run Tryz.prog W=.ok (.bool a.isNone) W:=fun a n c n' c' W=>Lib.run_eql_slice_nil W _ _ a n c n' c' Tryz.underlying173
 obtain⟨vs,hvs,hgr⟩:=g0;obtain⟨nb,no,nc,rfl⟩:=slice_some hvs (by rw[ne_eq,List.map_eq_nil_iff];intro e;rw[e] at hgr;exact hne (List.length_eq_zero_iff.1 hgr.1.symm));clear hA hPw h2 h3 g1 g2 n0 n1 n2 hz;go_enter Tryz.func103,Tryz.ntmps103;go_wp2_with fail;refine(cutS_any s _ w hG (by omega)).mono ?_;rintro e w1 ⟨rfl,k,rfl⟩;rw[show bl ⟨#[32]⟩=[32] from rfl,HA.out];have hbk:Below w.heap.size w (w.drewN k):=below_drawn w k;have hGk:=hG.keep hbk;have h0':=((bcell hbk).1 b 0 (by omega)).trans h0;have h1':=((bcell hbk).1 b 1 (by omega)).trans h1;have h4':=((bcell hbk).1 b 4 (by omega)).trans h4;go_wp2_with fail;refine(must_true _).mono ?_;rintro e wx ⟨rfl,rfl⟩;go_wp2_with fail;refine(must_false _).mono ?_;rintro e w3 ⟨rfl,rfl⟩;go_wp2;exact⟨rfl,rfl,FrN.of_below hbk hmw⟩
theorem line_needs_no2{G:Nat}(m b:Nat)(p:Sp.Pk)(s:ByteArray)(w:World)(hG:Glob G w)(hP:PackAt w m b p)(hs:s.size<1000000)(i:Nat)(a1 a2:Sp.Str)(hA:Lib.cut (bl s) [32]=(a1,a2,true))(hi:((i:Int) == 0)=false)(hw0:(a1 == [112,97,99,107,97,103,101])=false)(hw1:(a1 == [110,101,101,100,115])=true)(hne:p.needs=[])(hbe:p.bars≠[]):
  Calls Tryz.prog 103 #[.pointer (some ⟨b,0,none⟩),.int .i64 (i:Int),.string s] w fun e w'=>e=.panicked [{v:=.iface 177 (.agg #[]),recovered:=false}]/\FrN m b w w':=by
 have hPw:=hP;obtain⟨nv,bv,fv,hmw,hbm,h0,h1,h2,h3,h4,g0,g1,g2,n0,n1,n2,hz⟩:=hP;have ha2:a2.length<1000000:=by
  have:=W2.cut_snd (bl s) [32];rw[hA,bl_len] at this;simp only at this;omega
 have HA:=hid hA;have q169:∀ (a:Option Addr) (n c n' c':Nat) (W:World),(binOp .eql 169 (.slice a n c) (.slice none n' c')).run Tryz.prog W=.ok (.bool a.isNone) W:=fun a n c n' c' W=>Lib.run_eql_slice_nil W _ _ a n c n' c' Tryz.underlying169
 have q170:∀ (a:Option Addr) (n c n' c':Nat) (W:World),(binOp .eql 170 (.slice a n c) (.slice none n' c')).run Tryz.prog W=.ok (.bool a.isNone) W:=fun a n c n' c' W=>Lib.run_eql_slice_nil W _ _ a n c n' c' Tryz.underlying170
 have q173:∀ (a:Option Addr) (n c n' c':Nat) (W:World),(binOp .eql 173 (.slice a n c) (.slice none n' c')).run Tryz.prog W=.ok (.bool a.isNone) W:=fun a n c n' c' W=>Lib.run_eql_slice_nil W _ _ a n c n' c' Tryz.underlying173
 obtain rfl:=n0 hne;obtain⟨bb,bo,bc,rfl⟩:=slice_some g1 (by rw[ne_eq,List.map_eq_nil_iff];exact hbe);clear hA hPw h2 h3 g1 g2 n0 n1 n2 hz;go_enter Tryz.func103,Tryz.ntmps103;go_wp2_with fail;refine(cutS_any s _ w hG (by omega)).mono ?_;rintro e w1 ⟨rfl,k,rfl⟩;rw[show bl ⟨#[32]⟩=[32] from rfl,HA.out];have hbk:Below w.heap.size w (w.drewN k):=below_drawn w k;have hGk:=hG.keep hbk;have h0':=((bcell hbk).1 b 0 (by omega)).trans h0;have h1':=((bcell hbk).1 b 1 (by omega)).trans h1;have h4':=((bcell hbk).1 b 4 (by omega)).trans h4;go_wp2_with fail;refine(must_true _).mono ?_;rintro e wx ⟨rfl,rfl⟩;go_wp2_with fail;refine(must_false _).mono ?_;rintro e w3 ⟨rfl,rfl⟩;go_wp2;exact⟨rfl,rfl,FrN.of_below hbk hmw⟩
theorem line_needs_no3{G:Nat}(m b:Nat)(p:Sp.Pk)(s:ByteArray)(w:World)(hG:Glob G w)(hP:PackAt w m b p)(hs:s.size<1000000)(i:Nat)(a1 a2:Sp.Str)(hA:Lib.cut (bl s) [32]=(a1,a2,true))(hi:((i:Int) == 0)=false)(hw0:(a1 == [112,97,99,107,97,103,101])=false)(hw1:(a1 == [110,101,101,100,115])=true)(hne:p.needs=[])(hbe:p.bars=[])(hfe:p.files≠[]):
  Calls Tryz.prog 103 #[.pointer (some ⟨b,0,none⟩),.int .i64 (i:Int),.string s] w fun e w'=>e=.panicked [{v:=.iface 177 (.agg #[]),recovered:=false}]/\FrN m b w w':=by
 have hPw:=hP;obtain⟨nv,bv,fv,hmw,hbm,h0,h1,h2,h3,h4,g0,g1,g2,n0,n1,n2,hz⟩:=hP;have ha2:a2.length<1000000:=by
  have:=W2.cut_snd (bl s) [32];rw[hA,bl_len] at this;simp only at this;omega
 have HA:=hid hA;have q169:∀ (a:Option Addr) (n c n' c':Nat) (W:World),(binOp .eql 169 (.slice a n c) (.slice none n' c')).run Tryz.prog W=.ok (.bool a.isNone) W:=fun a n c n' c' W=>Lib.run_eql_slice_nil W _ _ a n c n' c' Tryz.underlying169
 have q170:∀ (a:Option Addr) (n c n' c':Nat) (W:World),(binOp .eql 170 (.slice a n c) (.slice none n' c')).run Tryz.prog W=.ok (.bool a.isNone) W:=fun a n c n' c' W=>Lib.run_eql_slice_nil W _ _ a n c n' c' Tryz.underlying170
 have q173:∀ (a:Option Addr) (n c n' c':Nat) (W:World),(binOp .eql 173 (.slice a n c) (.slice none n' c')).run Tryz.prog W=.ok (.bool a.isNone) W:=fun a n c n' c' W=>Lib.run_eql_slice_nil W _ _ a n c n' c' Tryz.underlying173
 obtain rfl:=n0 hne;obtain rfl:=n1 hbe;obtain⟨fb,fc,rfl⟩:=row_some g2 hfe;clear hA hPw h2 h3 g1 g2 n0 n1 n2 hz;go_enter Tryz.func103,Tryz.ntmps103;go_wp2_with fail;refine(cutS_any s _ w hG (by omega)).mono ?_;rintro e w1 ⟨rfl,k,rfl⟩;rw[show bl ⟨#[32]⟩=[32] from rfl,HA.out];have hbk:Below w.heap.size w (w.drewN k):=below_drawn w k;have hGk:=hG.keep hbk;have h0':=((bcell hbk).1 b 0 (by omega)).trans h0;have h1':=((bcell hbk).1 b 1 (by omega)).trans h1;have h4':=((bcell hbk).1 b 4 (by omega)).trans h4;go_wp2_with fail;refine(must_true _).mono ?_;rintro e wx ⟨rfl,rfl⟩;go_wp2_with fail;refine(must_false _).mono ?_;rintro e w3 ⟨rfl,rfl⟩;go_wp2;exact⟨rfl,rfl,FrN.of_below hbk hmw⟩
theorem line_needs_no4{G:Nat}(m b:Nat)(p:Sp.Pk)(s:ByteArray)(w:World)(hG:Glob G w)(hP:PackAt w m b p)(hs:s.size<1000000)(i:Nat)(a1 a2:Sp.Str)(hA:Lib.cut (bl s) [32]=(a1,a2,true))(hi:((i:Int) == 0)=false)(hw0:(a1 == [112,97,99,107,97,103,101])=false)(hw1:(a1 == [110,101,101,100,115])=true)(hne:p.needs=[])(hbe:p.bars=[])(hfe:p.files=[])(hE:Sp.each a2 [44,32] 3 groupO=none):
  Calls Tryz.prog 103 #[.pointer (some ⟨b,0,none⟩),.int .i64 (i:Int),.string s] w fun e w'=>e=.panicked [{v:=.iface 177 (.agg #[]),recovered:=false}]/\FrN m b w w':=by
 have hPw:=hP;obtain⟨nv,bv,fv,hmw,hbm,h0,h1,h2,h3,h4,g0,g1,g2,n0,n1,n2,hz⟩:=hP;have ha2:a2.length<1000000:=by
  have:=W2.cut_snd (bl s) [32];rw[hA,bl_len] at this;simp only at this;omega
 have HA:=hid hA;have q169:∀ (a:Option Addr) (n c n' c':Nat) (W:World),(binOp .eql 169 (.slice a n c) (.slice none n' c')).run Tryz.prog W=.ok (.bool a.isNone) W:=fun a n c n' c' W=>Lib.run_eql_slice_nil W _ _ a n c n' c' Tryz.underlying169
 have q170:∀ (a:Option Addr) (n c n' c':Nat) (W:World),(binOp .eql 170 (.slice a n c) (.slice none n' c')).run Tryz.prog W=.ok (.bool a.isNone) W:=fun a n c n' c' W=>Lib.run_eql_slice_nil W _ _ a n c n' c' Tryz.underlying170
 have q173:∀ (a:Option Addr) (n c n' c':Nat) (W:World),(binOp .eql 173 (.slice a n c) (.slice none n' c')).run Tryz.prog W=.ok (.bool a.isNone) W:=fun a n c n' c' W=>Lib.run_eql_slice_nil W _ _ a n c n' c' Tryz.underlying173
 obtain rfl:=n0 hne;obtain rfl:=n1 hbe;obtain rfl:=n2 hfe;have HE:=hid hE;clear hA hE hPw h2 h3 g1 g2 n0 n1 n2 hz;go_enter Tryz.func103,Tryz.ntmps103;go_wp2_with fail;refine(cutS_any s _ w hG (by omega)).mono ?_;rintro e w1 ⟨rfl,k,rfl⟩;rw[show bl ⟨#[32]⟩=[32] from rfl,HA.out];have hbk:Below w.heap.size w (w.drewN k):=below_drawn w k;have hGk:=hG.keep hbk;go_wp2_with fail;refine(must_true _).mono ?_;rintro e wx ⟨rfl,rfl⟩;go_wp2_with fail;refine(must_true _).mono ?_;rintro e wx ⟨rfl,rfl⟩;go_wp2_with fail;refine(eachG_any _ _ 3 _ hGk (by rw[<-bl_len,bl_mk];omega) (by decide)).mono ?_;rintro e w5 ⟨hb5,hE5⟩;rw[show bl ⟨#[44,32]⟩=[44,32] from rfl,bl_mk] at hE5
 rcases hE5 with⟨l,a,cap,hE,rfl,hgs⟩|⟨hE,rfl⟩
 ·rw[HE.out] at hE;cases hE
 ·go_wp2
  exact⟨rfl,rfl,FrN.of_below (hbk.trans (hb5.mono hbk.size)) hmw⟩
theorem line_needs_yes{G:Nat}(m b:Nat)(p:Sp.Pk)(s:ByteArray)(w:World)(hG:Glob G w)(hP:PackAt w m b p)(hs:s.size<1000000)(i:Nat)(a1 a2:Sp.Str)(hA:Lib.cut (bl s) [32]=(a1,a2,true))(hi:((i:Int) == 0)=false)(hw0:(a1 == [112,97,99,107,97,103,101])=false)(hw1:(a1 == [110,101,101,100,115])=true)(hne:p.needs=[])(hbe:p.bars=[])(hfe:p.files=[])(gs:List (List Sp.Ch))(hE:Sp.each a2 [44,32] 3 groupO=some gs):
  Calls Tryz.prog 103 #[.pointer (some ⟨b,0,none⟩),.int .i64 (i:Int),.string s] w fun e w'=>e=.returned (.tuple #[])/\∃ m',m<=m'/\PackAt w' m' b { p with needs:=gs }/\FrN m b w w':=by
 have hPw:=hP;obtain⟨nv,bv,fv,hmw,hbm,h0,h1,h2,h3,h4,g0,g1,g2,n0,n1,n2,hz⟩:=hP;have ha2:a2.length<1000000:=by
  have:=W2.cut_snd (bl s) [32];rw[hA,bl_len] at this;simp only at this;omega
 have HA:=hid hA;have q169:∀ (a:Option Addr) (n c n' c':Nat) (W:World),(binOp .eql 169 (.slice a n c) (.slice none n' c')).run Tryz.prog W=.ok (.bool a.isNone) W:=fun a n c n' c' W=>Lib.run_eql_slice_nil W _ _ a n c n' c' Tryz.underlying169
 have q170:∀ (a:Option Addr) (n c n' c':Nat) (W:World),(binOp .eql 170 (.slice a n c) (.slice none n' c')).run Tryz.prog W=.ok (.bool a.isNone) W:=fun a n c n' c' W=>Lib.run_eql_slice_nil W _ _ a n c n' c' Tryz.underlying170
 have q173:∀ (a:Option Addr) (n c n' c':Nat) (W:World),(binOp .eql 173 (.slice a n c) (.slice none n' c')).run Tryz.prog W=.ok (.bool a.isNone) W:=fun a n c n' c' W=>Lib.run_eql_slice_nil W _ _ a n c n' c' Tryz.underlying173
 obtain rfl:=n0 hne;obtain rfl:=n1 hbe;obtain rfl:=n2 hfe;have HE:=hid hE;have HP:=hid hPw;have HF:=hid hfe;clear hA hE hPw hfe h2 h3 g1 g2 n0 n1 n2;go_enter Tryz.func103,Tryz.ntmps103;go_wp2_with fail;refine(cutS_any s _ w hG (by omega)).mono ?_;rintro e w1 ⟨rfl,k,rfl⟩;rw[show bl ⟨#[32]⟩=[32] from rfl,HA.out];have hbk:Below w.heap.size w (w.drewN k):=below_drawn w k;have hGk:=hG.keep hbk;go_wp2_with fail;refine(must_true _).mono ?_;rintro e wx ⟨rfl,rfl⟩;go_wp2_with fail;refine(must_true _).mono ?_;rintro e wx ⟨rfl,rfl⟩;go_wp2_with fail;refine(eachG_any _ _ 3 _ hGk (by rw[<-bl_len,bl_mk];omega) (by decide)).mono ?_;rintro e w5 ⟨hb5,hE5⟩;rw[show bl ⟨#[44,32]⟩=[44,32] from rfl,bl_mk] at hE5
 rcases hE5 with⟨l,a,cap,hE,rfl,hgs⟩|⟨hE,rfl⟩
 ·rw[HE.out] at hE
  cases hE
  have hb5':=hbk.trans (hb5.mono hbk.size);have hP5:=HP.out.below hb5';have hl:=each_ne (by simp) HE.out;have hgs':=hgs.mono (S':=fun x=>x<w5.heap.size/\b+1<x) (fun x hx=>⟨hx.1,by have:=hx.2;have:=hbk.size;omega⟩);have z0:=((bcell hb5').2 b 0 (by omega)).trans (hz 0);have c0:=((bcell hb5').1 b 0 (by omega)).trans h0;have HG:=hid hgs';have HP5:=hid hP5;have hsz:=hb5'.size;clear hgs hgs' hP5 hz;go_wp2
  go_end0
  exact⟨rfl,w5.heap.size,by omega,HP5.out.setNeeds HF.out HG.out (fun e=>absurd e hl),(FrN.of_below hb5' hmw).trans (FrN.set _ _ _ _ _)⟩
 ·rw[HE.out] at hE;cases hE
theorem line_bars_no1{G:Nat}(m b:Nat)(p:Sp.Pk)(s:ByteArray)(w:World)(hG:Glob G w)(hP:PackAt w m b p)(hs:s.size<1000000)(i:Nat)(a1 a2:Sp.Str)(hA:Lib.cut (bl s) [32]=(a1,a2,true))(hi:((i:Int) == 0)=false)(hw0:(a1 == [112,97,99,107,97,103,101])=false)(hw1:(a1 == [110,101,101,100,115])=false)(hw2:(a1 == [98,97,114,115])=true)(hbe:p.bars≠[]):
  Calls Tryz.prog 103 #[.pointer (some ⟨b,0,none⟩),.int .i64 (i:Int),.string s] w fun e w'=>e=.panicked [{v:=.iface 177 (.agg #[]),recovered:=false}]/\FrN m b w w':=by
 have hPw:=hP;obtain⟨nv,bv,fv,hmw,hbm,h0,h1,h2,h3,h4,g0,g1,g2,n0,n1,n2,hz⟩:=hP;have ha2:a2.length<1000000:=by
  have:=W2.cut_snd (bl s) [32];rw[hA,bl_len] at this;simp only at this;omega
 have HA:=hid hA;have q169:∀ (a:Option Addr) (n c n' c':Nat) (W:World),(binOp .eql 169 (.slice a n c) (.slice none n' c')).run Tryz.prog W=.ok (.bool a.isNone) W:=fun a n c n' c' W=>Lib.run_eql_slice_nil W _ _ a n c n' c' Tryz.underlying169
 have q170:∀ (a:Option Addr) (n c n' c':Nat) (W:World),(binOp .eql 170 (.slice a n c) (.slice none n' c')).run Tryz.prog W=.ok (.bool a.isNone) W:=fun a n c n' c' W=>Lib.run_eql_slice_nil W _ _ a n c n' c' Tryz.underlying170
 have q173:∀ (a:Option Addr) (n c n' c':Nat) (W:World),(binOp .eql 173 (.slice a n c) (.slice none n' c')).run Tryz.prog W=.ok (.bool a.isNone) W:=fun a n c n' c' W=>Lib.run_eql_slice_nil W _ _ a n c n' c' Tryz.underlying173
 obtain⟨bb,bo,bc,rfl⟩:=slice_some g1 (by rw[ne_eq,List.map_eq_nil_iff];exact hbe);clear hA hPw h2 h3 g0 g1 g2 n0 n1 n2 hz;go_enter Tryz.func103,Tryz.ntmps103;go_wp2_with fail;refine(cutS_any s _ w hG (by omega)).mono ?_;rintro e w1 ⟨rfl,k,rfl⟩;rw[show bl ⟨#[32]⟩=[32] from rfl,HA.out];have hbk:Below w.heap.size w (w.drewN k):=below_drawn w k;have hGk:=hG.keep hbk;have h1':=((bcell hbk).1 b 1 (by omega)).trans h1;have h4':=((bcell hbk).1 b 4 (by omega)).trans h4;go_wp2_with fail;refine(must_true _).mono ?_;rintro e wx ⟨rfl,rfl⟩;go_wp2_with fail;refine(must_false _).mono ?_;rintro e w3 ⟨rfl,rfl⟩;go_wp2;exact⟨rfl,rfl,FrN.of_below hbk hmw⟩
theorem line_bars_no2{G:Nat}(m b:Nat)(p:Sp.Pk)(s:ByteArray)(w:World)(hG:Glob G w)(hP:PackAt w m b p)(hs:s.size<1000000)(i:Nat)(a1 a2:Sp.Str)(hA:Lib.cut (bl s) [32]=(a1,a2,true))(hi:((i:Int) == 0)=false)(hw0:(a1 == [112,97,99,107,97,103,101])=false)(hw1:(a1 == [110,101,101,100,115])=false)(hw2:(a1 == [98,97,114,115])=true)(hbe:p.bars=[])(hfe:p.files≠[]):
  Calls Tryz.prog 103 #[.pointer (some ⟨b,0,none⟩),.int .i64 (i:Int),.string s] w fun e w'=>e=.panicked [{v:=.iface 177 (.agg #[]),recovered:=false}]/\FrN m b w w':=by
 have hPw:=hP;obtain⟨nv,bv,fv,hmw,hbm,h0,h1,h2,h3,h4,g0,g1,g2,n0,n1,n2,hz⟩:=hP;have ha2:a2.length<1000000:=by
  have:=W2.cut_snd (bl s) [32];rw[hA,bl_len] at this;simp only at this;omega
 have HA:=hid hA;have q169:∀ (a:Option Addr) (n c n' c':Nat) (W:World),(binOp .eql 169 (.slice a n c) (.slice none n' c')).run Tryz.prog W=.ok (.bool a.isNone) W:=fun a n c n' c' W=>Lib.run_eql_slice_nil W _ _ a n c n' c' Tryz.underlying169
 have q170:∀ (a:Option Addr) (n c n' c':Nat) (W:World),(binOp .eql 170 (.slice a n c) (.slice none n' c')).run Tryz.prog W=.ok (.bool a.isNone) W:=fun a n c n' c' W=>Lib.run_eql_slice_nil W _ _ a n c n' c' Tryz.underlying170
 have q173:∀ (a:Option Addr) (n c n' c':Nat) (W:World),(binOp .eql 173 (.slice a n c) (.slice none n' c')).run Tryz.prog W=.ok (.bool a.isNone) W:=fun a n c n' c' W=>Lib.run_eql_slice_nil W _ _ a n c n' c' Tryz.underlying173
 obtain rfl:=n1 hbe;obtain⟨fb,fc,rfl⟩:=row_some g2 hfe;clear hA hPw h2 h3 g0 g1 g2 n0 n1 n2 hz;go_enter Tryz.func103,Tryz.ntmps103;go_wp2_with fail;refine(cutS_any s _ w hG (by omega)).mono ?_;rintro e w1 ⟨rfl,k,rfl⟩;rw[show bl ⟨#[32]⟩=[32] from rfl,HA.out];have hbk:Below w.heap.size w (w.drewN k):=below_drawn w k;have hGk:=hG.keep hbk;have h1':=((bcell hbk).1 b 1 (by omega)).trans h1;have h4':=((bcell hbk).1 b 4 (by omega)).trans h4;go_wp2_with fail;refine(must_true _).mono ?_;rintro e wx ⟨rfl,rfl⟩;go_wp2_with fail;refine(must_false _).mono ?_;rintro e w3 ⟨rfl,rfl⟩;go_wp2;exact⟨rfl,rfl,FrN.of_below hbk hmw⟩
theorem line_bars_no3{G:Nat}(m b:Nat)(p:Sp.Pk)(s:ByteArray)(w:World)(hG:Glob G w)(hP:PackAt w m b p)(hs:s.size<1000000)(i:Nat)(a1 a2:Sp.Str)(hA:Lib.cut (bl s) [32]=(a1,a2,true))(hi:((i:Int) == 0)=false)(hw0:(a1 == [112,97,99,107,97,103,101])=false)(hw1:(a1 == [110,101,101,100,115])=false)(hw2:(a1 == [98,97,114,115])=true)(hbe:p.bars=[])(hfe:p.files=[])(hE:Sp.each a2 [44,32] 3 Sp.choose=none):
  Calls Tryz.prog 103 #[.pointer (some ⟨b,0,none⟩),.int .i64 (i:Int),.string s] w fun e w'=>e=.panicked [{v:=.iface 177 (.agg #[]),recovered:=false}]/\FrN m b w w':=by
 have hPw:=hP;obtain⟨nv,bv,fv,hmw,hbm,h0,h1,h2,h3,h4,g0,g1,g2,n0,n1,n2,hz⟩:=hP;have ha2:a2.length<1000000:=by
  have:=W2.cut_snd (bl s) [32];rw[hA,bl_len] at this;simp only at this;omega
 have HA:=hid hA;have q169:∀ (a:Option Addr) (n c n' c':Nat) (W:World),(binOp .eql 169 (.slice a n c) (.slice none n' c')).run Tryz.prog W=.ok (.bool a.isNone) W:=fun a n c n' c' W=>Lib.run_eql_slice_nil W _ _ a n c n' c' Tryz.underlying169
 have q170:∀ (a:Option Addr) (n c n' c':Nat) (W:World),(binOp .eql 170 (.slice a n c) (.slice none n' c')).run Tryz.prog W=.ok (.bool a.isNone) W:=fun a n c n' c' W=>Lib.run_eql_slice_nil W _ _ a n c n' c' Tryz.underlying170
 have q173:∀ (a:Option Addr) (n c n' c':Nat) (W:World),(binOp .eql 173 (.slice a n c) (.slice none n' c')).run Tryz.prog W=.ok (.bool a.isNone) W:=fun a n c n' c' W=>Lib.run_eql_slice_nil W _ _ a n c n' c' Tryz.underlying173
 obtain rfl:=n1 hbe;obtain rfl:=n2 hfe;have HE:=hid hE;clear hA hE hPw h2 h3 g0 g1 g2 n0 n1 n2 hz;go_enter Tryz.func103,Tryz.ntmps103;go_wp2_with fail;refine(cutS_any s _ w hG (by omega)).mono ?_;rintro e w1 ⟨rfl,k,rfl⟩;rw[show bl ⟨#[32]⟩=[32] from rfl,HA.out];have hbk:Below w.heap.size w (w.drewN k):=below_drawn w k;have hGk:=hG.keep hbk;go_wp2_with fail;refine(must_true _).mono ?_;rintro e wx ⟨rfl,rfl⟩;go_wp2_with fail;refine(must_true _).mono ?_;rintro e wx ⟨rfl,rfl⟩;go_wp2_with fail;refine(eachC_any _ _ 3 _ hGk (by rw[<-bl_len,bl_mk];omega) (by decide)).mono ?_;rintro e w5 ⟨hb5,hE5⟩;rw[show bl ⟨#[44,32]⟩=[44,32] from rfl,bl_mk] at hE5
 rcases hE5 with⟨l,v,hE,rfl,hgs⟩|⟨hE,rfl⟩
 ·rw[HE.out] at hE;cases hE
 ·go_wp2
  exact⟨rfl,rfl,FrN.of_below (hbk.trans (hb5.mono hbk.size)) hmw⟩
theorem line_bars_yes{G:Nat}(m b:Nat)(p:Sp.Pk)(s:ByteArray)(w:World)(hG:Glob G w)(hP:PackAt w m b p)(hs:s.size<1000000)(i:Nat)(a1 a2:Sp.Str)(hA:Lib.cut (bl s) [32]=(a1,a2,true))(hi:((i:Int) == 0)=false)(hw0:(a1 == [112,97,99,107,97,103,101])=false)(hw1:(a1 == [110,101,101,100,115])=false)(hw2:(a1 == [98,97,114,115])=true)(hbe:p.bars=[])(hfe:p.files=[])(cs:List Sp.Ch)(hE:Sp.each a2 [44,32] 3 Sp.choose=some cs):
  Calls Tryz.prog 103 #[.pointer (some ⟨b,0,none⟩),.int .i64 (i:Int),.string s] w fun e w'=>e=.returned (.tuple #[])/\∃ m',m<=m'/\PackAt w' m' b { p with bars:=cs }/\FrN m b w w':=by
 have hPw:=hP;obtain⟨nv,bv,fv,hmw,hbm,h0,h1,h2,h3,h4,g0,g1,g2,n0,n1,n2,hz⟩:=hP;have ha2:a2.length<1000000:=by
  have:=W2.cut_snd (bl s) [32];rw[hA,bl_len] at this;simp only at this;omega
 have HA:=hid hA;have q169:∀ (a:Option Addr) (n c n' c':Nat) (W:World),(binOp .eql 169 (.slice a n c) (.slice none n' c')).run Tryz.prog W=.ok (.bool a.isNone) W:=fun a n c n' c' W=>Lib.run_eql_slice_nil W _ _ a n c n' c' Tryz.underlying169
 have q170:∀ (a:Option Addr) (n c n' c':Nat) (W:World),(binOp .eql 170 (.slice a n c) (.slice none n' c')).run Tryz.prog W=.ok (.bool a.isNone) W:=fun a n c n' c' W=>Lib.run_eql_slice_nil W _ _ a n c n' c' Tryz.underlying170
 have q173:∀ (a:Option Addr) (n c n' c':Nat) (W:World),(binOp .eql 173 (.slice a n c) (.slice none n' c')).run Tryz.prog W=.ok (.bool a.isNone) W:=fun a n c n' c' W=>Lib.run_eql_slice_nil W _ _ a n c n' c' Tryz.underlying173
 obtain rfl:=n1 hbe;obtain rfl:=n2 hfe;have HE:=hid hE;have HP:=hid hPw;have HF:=hid hfe;clear hA hE hPw hfe h2 h3 g0 g1 g2 n0 n1 n2;go_enter Tryz.func103,Tryz.ntmps103;go_wp2_with fail;refine(cutS_any s _ w hG (by omega)).mono ?_;rintro e w1 ⟨rfl,k,rfl⟩;rw[show bl ⟨#[32]⟩=[32] from rfl,HA.out];have hbk:Below w.heap.size w (w.drewN k):=below_drawn w k;have hGk:=hG.keep hbk;go_wp2_with fail;refine(must_true _).mono ?_;rintro e wx ⟨rfl,rfl⟩;go_wp2_with fail;refine(must_true _).mono ?_;rintro e wx ⟨rfl,rfl⟩;go_wp2_with fail;refine(eachC_any _ _ 3 _ hGk (by rw[<-bl_len,bl_mk];omega) (by decide)).mono ?_;rintro e w5 ⟨hb5,hE5⟩;rw[show bl ⟨#[44,32]⟩=[44,32] from rfl,bl_mk] at hE5
 rcases hE5 with⟨l,v,hE,rfl,hgs⟩|⟨hE,rfl⟩
 ·rw[HE.out] at hE
  cases hE
  have hb5':=hbk.trans (hb5.mono hbk.size);obtain⟨a,cap,rfl⟩:=W3.row_slice hgs;have hP5:=HP.out.below hb5';have hl:=each_ne (by simp) HE.out;have hgs':=SlOn.mono (S':=fun x=>x<w5.heap.size/\b+1<x) (ChOn.of_row hgs) (fun x hx=>⟨hx.1,by have:=hx.2.1;have:=hbk.size;omega⟩);have z0:=((bcell hb5').2 b 1 (by omega)).trans (hz 1);have c0:=((bcell hb5').1 b 1 (by omega)).trans h1;have HG:=hid hgs';have HP5:=hid hP5;have hsz:=hb5'.size;clear hgs hgs' hP5 hz;go_wp2
  go_end0
  exact⟨rfl,w5.heap.size,by omega,HP5.out.setBars HF.out HG.out (fun e=>absurd e hl),(FrN.of_below hb5' hmw).trans (FrN.set _ _ _ _ _)⟩
 ·rw[HE.out] at hE;cases hE
end
section
open Go.RowKit
theorem line_file_no1{G:Nat}(m b:Nat)(p:Sp.Pk)(s:ByteArray)(w:World)(hG:Glob G w)(hP:PackAt w m b p)(hs:s.size<1000000)(i:Nat)(a1 a2:Sp.Str)(b1 b2:Sp.Str)(hA:Lib.cut (bl s) [32]=(a1,a2,true))(hi:((i:Int) == 0)=false)(hw0:(a1 == [112,97,99,107,97,103,101])=false)(hw1:(a1 == [110,101,101,100,115])=false)(hw2:(a1 == [98,97,114,115])=false)(hw3:(a1 == [102,105,108,101])=true)(hB:Lib.cut a2 [61]=(b1,b2,false))  :
  Calls Tryz.prog 103 #[.pointer (some ⟨b,0,none⟩),.int .i64 (i:Int),.string s] w fun e w'=>e=.panicked [{v:=.iface 177 (.agg #[]),recovered:=false}]/\FrN m b w w':=by
 have hPw:=hP;obtain⟨nv,bv,fv,hmw,hbm,h0,h1,h2,h3,h4,g0,g1,g2,n0,n1,n2,hz⟩:=hP;have ha2:a2.length<1000000:=by
  have:=W2.cut_snd (bl s) [32];rw[hA,bl_len] at this;simp only at this;omega
 have HA:=hid hA;have hb2:b2.length<1000000:=by
  have:=W2.cut_snd a2 [61];rw[hB] at this;simp only at this;omega
 obtain⟨fa,fc,rfl⟩:=W3.row_slice g2;have hc4:=((bcell (below_drawn w 0)).1 b 4 (by omega))
 have HB:=hid hB;clear hA hB hPw h0 h1 h2 h3 g0 g1 g2 n0 n1 n2 hz;go_enter Tryz.func103,Tryz.ntmps103;go_wp2_with fail;refine(cutS_any s _ w hG (by omega)).mono ?_;rintro e w1 ⟨rfl,k,rfl⟩;rw[show bl ⟨#[32]⟩=[32] from rfl,HA.out];have hbk:Below w.heap.size w (w.drewN k):=below_drawn w k;have hGk:=hG.keep hbk;go_wp2_with fail;refine(must_true _).mono ?_;rintro e wx ⟨rfl,rfl⟩;go_wp2_with fail;refine(cutS_any _ _ _ hGk (by rw[<-bl_len,bl_mk];omega)).mono ?_;rintro e wx ⟨rfl,k2,rfl⟩;rw[show bl ⟨#[61]⟩=[61] from rfl,bl_mk,HB.out];go_wp2_with fail;refine(must_false _).mono ?_;rintro e w3 ⟨rfl,rfl⟩;go_wp2;exact⟨rfl,rfl,FrN.of_below (below_drawn w _) hmw⟩
theorem line_file_no2{G:Nat}(m b:Nat)(p:Sp.Pk)(s:ByteArray)(w:World)(hG:Glob G w)(hP:PackAt w m b p)(hs:s.size<1000000)(i:Nat)(a1 a2:Sp.Str)(b1 b2:Sp.Str)(hA:Lib.cut (bl s) [32]=(a1,a2,true))(hi:((i:Int) == 0)=false)(hw0:(a1 == [112,97,99,107,97,103,101])=false)(hw1:(a1 == [110,101,101,100,115])=false)(hw2:(a1 == [98,97,114,115])=false)(hw3:(a1 == [102,105,108,101])=true)(hB:Lib.cut a2 [61]=(b1,b2,true))(hc:24<b2.length):
  Calls Tryz.prog 103 #[.pointer (some ⟨b,0,none⟩),.int .i64 (i:Int),.string s] w fun e w'=>e=.panicked [{v:=.iface 177 (.agg #[]),recovered:=false}]/\FrN m b w w':=by
 have hPw:=hP;obtain⟨nv,bv,fv,hmw,hbm,h0,h1,h2,h3,h4,g0,g1,g2,n0,n1,n2,hz⟩:=hP;have ha2:a2.length<1000000:=by
  have:=W2.cut_snd (bl s) [32];rw[hA,bl_len] at this;simp only at this;omega
 have HA:=hid hA;have hb2:b2.length<1000000:=by
  have:=W2.cut_snd a2 [61];rw[hB] at this;simp only at this;omega
 obtain⟨fa,fc,rfl⟩:=W3.row_slice g2;have hc4:=((bcell (below_drawn w 0)).1 b 4 (by omega))
 have HB:=hid hB;clear hA hB hPw h0 h1 h2 h3 g0 g1 g2 n0 n1 n2 hz;go_enter Tryz.func103,Tryz.ntmps103;go_wp2_with fail;refine(cutS_any s _ w hG (by omega)).mono ?_;rintro e w1 ⟨rfl,k,rfl⟩;rw[show bl ⟨#[32]⟩=[32] from rfl,HA.out];have hbk:Below w.heap.size w (w.drewN k):=below_drawn w k;have hGk:=hG.keep hbk;go_wp2_with fail;refine(must_true _).mono ?_;rintro e wx ⟨rfl,rfl⟩;go_wp2_with fail;refine(cutS_any _ _ _ hGk (by rw[<-bl_len,bl_mk];omega)).mono ?_;rintro e wx ⟨rfl,k2,rfl⟩;rw[show bl ⟨#[61]⟩=[61] from rfl,bl_mk,HB.out];go_wp2_with fail;refine(must_false _).mono ?_;rintro e w3 ⟨rfl,rfl⟩;go_wp2;exact⟨rfl,rfl,FrN.of_below (below_drawn w _) hmw⟩
theorem line_file_no3{G:Nat}(m b:Nat)(p:Sp.Pk)(s:ByteArray)(w:World)(hG:Glob G w)(hP:PackAt w m b p)(hs:s.size<1000000)(i:Nat)(a1 a2:Sp.Str)(b1 b2:Sp.Str)(hA:Lib.cut (bl s) [32]=(a1,a2,true))(hi:((i:Int) == 0)=false)(hw0:(a1 == [112,97,99,107,97,103,101])=false)(hw1:(a1 == [110,101,101,100,115])=false)(hw2:(a1 == [98,97,114,115])=false)(hw3:(a1 == [102,105,108,101])=true)(hB:Lib.cut a2 [61]=(b1,b2,true))(hc:b2.length<=24)(hfl:4<=p.files.length):
  Calls Tryz.prog 103 #[.pointer (some ⟨b,0,none⟩),.int .i64 (i:Int),.string s] w fun e w'=>e=.panicked [{v:=.iface 177 (.agg #[]),recovered:=false}]/\FrN m b w w':=by
 have hPw:=hP;obtain⟨nv,bv,fv,hmw,hbm,h0,h1,h2,h3,h4,g0,g1,g2,n0,n1,n2,hz⟩:=hP;have ha2:a2.length<1000000:=by
  have:=W2.cut_snd (bl s) [32];rw[hA,bl_len] at this;simp only at this;omega
 have HA:=hid hA;have hb2:b2.length<1000000:=by
  have:=W2.cut_snd a2 [61];rw[hB] at this;simp only at this;omega
 obtain⟨fa,fc,rfl⟩:=W3.row_slice g2;have hc4:=((bcell (below_drawn w 0)).1 b 4 (by omega))
 have HB:=hid hB;clear hA hB hPw h0 h1 h2 h3 g0 g1 g2 n0 n1 n2 hz;go_enter Tryz.func103,Tryz.ntmps103;go_wp2_with fail;refine(cutS_any s _ w hG (by omega)).mono ?_;rintro e w1 ⟨rfl,k,rfl⟩;rw[show bl ⟨#[32]⟩=[32] from rfl,HA.out];have hbk:Below w.heap.size w (w.drewN k):=below_drawn w k;have hGk:=hG.keep hbk;go_wp2_with fail;refine(must_true _).mono ?_;rintro e wx ⟨rfl,rfl⟩;go_wp2_with fail;refine(cutS_any _ _ _ hGk (by rw[<-bl_len,bl_mk];omega)).mono ?_;rintro e wx ⟨rfl,k2,rfl⟩;rw[show bl ⟨#[61]⟩=[61] from rfl,bl_mk,HB.out];go_wp2_with fail;rw[show decide ((p.files.length:Int)<4)=false from decide_eq_false (by omega)];refine(must_false _).mono ?_;rintro e w3 ⟨rfl,rfl⟩;go_wp2;exact⟨rfl,rfl,FrN.of_below (below_drawn w _) hmw⟩
end
section
open Go.RowKit
theorem pathS_arr:bl ⟨#[97,98,99,100,101,102,103,104,105,106,107,108,109,110,111,112,113,114,115,116,117,118,119,120,121,122,48,49,50,51,52,53,54,55,56,57,46,95]⟩=Sp.pathS:=rfl
theorem part_yes(s:ByteArray)(w:World)(hn:Sp.isPart (bl s)=true):
  Calls Tryz.prog 198 #[.string s] w fun e w'=>e=.returned (.int .i64 0)/\Below w.heap.size w w':=by
 obtain⟨ha,h1,h2⟩:Sp.among (bl s) Sp.pathS 1 8=true/\(s.toList == [46])=false/\(s.toList == [46,46])=false:=by
  unfold Sp.isPart at hn;simp only[Bool.and_eq_true] at hn;rw[toList_bl];simpa[and_assoc] using hn
 have HA:=hid ha;clear ha hn;go_enter Tryz.func198,Tryz.ntmps198;go_wp2_with fail;refine(among_any s _ 1 8 w (by decide) (W1.ascii_of (by decide))).mono ?_;rintro e w1 ⟨rfl,hb⟩;rw[pathS_arr,HA.out];go_wp2_with fail;refine(must_true _).mono ?_;rintro e w2 ⟨rfl,rfl⟩;go_wp2;go_ret;exact⟨rfl,hb⟩
theorem part_no(s:ByteArray)(w:World)(hn:Sp.isPart (bl s)=false):
  Calls Tryz.prog 198 #[.string s] w fun e w'=>e=.panicked [{v:=.iface 177 (.agg #[]),recovered:=false}]/\Below w.heap.size w w':=by
 cases ha:Sp.among (bl s) Sp.pathS 1 8 with
 | false =>
  have HA:=hid ha;clear ha hn;go_enter Tryz.func198,Tryz.ntmps198;go_wp2_with fail;refine(among_any s _ 1 8 w (by decide) (W1.ascii_of (by decide))).mono ?_;rintro e w1 ⟨rfl,hb⟩;rw[pathS_arr,HA.out];go_wp2_with fail;refine(must_false _).mono ?_;rintro e w2 ⟨rfl,rfl⟩;go_wp2;exact⟨rfl,rfl,hb⟩
 | true =>
  have HA:=hid ha
  by_cases h1:bl s=[46]
  ·have h1':(s.toList == [46])=true:=by rw[toList_bl,h1];rfl
   clear ha hn h1;go_enter Tryz.func198,Tryz.ntmps198;go_wp2_with fail;refine(among_any s _ 1 8 w (by decide) (W1.ascii_of (by decide))).mono ?_;rintro e w1 ⟨rfl,hb⟩;rw[pathS_arr,HA.out];go_wp2_with fail;refine(must_false _).mono ?_;rintro e w2 ⟨rfl,rfl⟩;go_wp2;exact⟨rfl,rfl,hb⟩
  ·have h1':(s.toList == [46])=false:=by rw[toList_bl];simpa using h1
   have h2':(s.toList == [46,46])=true:=by
    rw[toList_bl];unfold Sp.isPart at hn;rw[ha] at hn;have hx:(bl s != [46])=true:=by simpa using h1
    rw[hx] at hn;simpa using hn
   clear ha hn h1;go_enter Tryz.func198,Tryz.ntmps198;go_wp2_with fail;refine(among_any s _ 1 8 w (by decide) (W1.ascii_of (by decide))).mono ?_;rintro e w1 ⟨rfl,hb⟩;rw[pathS_arr,HA.out];go_wp2_with fail;refine(must_false _).mono ?_;rintro e w2 ⟨rfl,rfl⟩;go_wp2;exact⟨rfl,rfl,hb⟩
def partO(s:Sp.Str):Option Int:=if Sp.isPart s then some 0 else none
theorem partO_none{G:Nat}(s:ByteArray)(w:World)(_hG:Glob G w)(_hs:s.size<4294967281)(h:partO (bl s)=none):
  Calls Tryz.prog 198 #[.string s] w fun e w'=>e=.panicked [{v:=.iface 177 (.agg #[]),recovered:=false}]/\Below w.heap.size w w':=by
 unfold partO at h
 split at h
 ·cases h
 ·rename_i hn;exact part_no s w (by simpa using hn)
theorem partO_some{G:Nat}(s:ByteArray)(w:World)(c:Int)(_hG:Glob G w)(_hs:s.size<4294967281)(h:partO (bl s)=some c):
  Calls Tryz.prog 198 #[.string s] w fun e w'=>e=.returned (.int .i64 c)/\Below w.heap.size w w':=by
 unfold partO at h
 split at h
 ·rename_i hn;cases h;exact part_yes s w hn
 ·cases h
def EachI(s sep:Sp.Str)(most B:Nat)(w:World)(e:Ending)(w':World):Prop:=
 Below B w w'/\((∃ l v,Sp.each s sep most partO=some l/\e=.returned v/\w'.ownsRow B 3 1 v l.length (l.map (Value.int .i64)))\/(Sp.each s sep most partO=none/\e=.panicked [{v:=.iface 177 (.agg #[]),recovered:=false}]))
theorem eachI_any{G:Nat}(s sep:ByteArray)(most:Nat)(w:World)(hG:Glob G w)(hs:s.size<1000000)(h0:0<sep.size):
  Calls Tryz.prog 197 #[.string s,.string sep,.int .i64 most,.func (.func 198) #[] #[]] w (EachI (bl s) (bl sep) most w.heap.size w):=by
 have htn:bl sep≠[]:=by intro h;rw[<-bl_len,h] at h0;simp at h0
 have hpl:=Sp.split_length (bl s) (bl sep) htn;rw[bl_len] at hpl;have hpm:∀ x∈Lib.split (bl s) (bl sep),x.length<1000000:=fun x hx=>by
  have:=Sp.split_mem (bl s) (bl sep) x htn hx;rw[bl_len] at this;omega
 have HPM:=hid hpm;clear htn hpm;obtain⟨B,hB⟩:∃ B,w.heap.size=B:=⟨_,rfl⟩
 rw[hB];have hGB:G<=B:=by rw[<-hB];exact hG.size
 have HB:=hid hB;clear hB;go_enter Tryz.func197,Tryz.ntmps197;go_wp2_with fail;refine(splitS_any s sep w hG (by omega) h0).mono ?_;rintro e w1 ⟨v,rfl,hv,hb⟩;generalize hL:Lib.split (bl s) (bl sep)=L at *;obtain⟨a,cap,rfl,hcap,hget⟩:=hv.get;have HL:=hid hL.symm;have HG:=hid hget;clear hL hv hget;rw[HB.out] at hb;go_wp2
 go_loopw [9,16] (fun v i wr=>∃ (k:Nat) (done:List Int),k<=L.length/\i=.int .i64 k/\Sp.mapO partO (L.take k)=some done/\wr.ownsRow w1.heap.size 3 1 v done.length (done.map (Value.int .i64))/\Below w1.heap.size w1 wr) (fun _ i _=>L.length-(intOf i).toNat)
 case atStart=>exact⟨0,[],Nat.zero_le _,rfl,rfl,World.ownsRow_nil _ _ _ _,Below.refl _ _⟩
 case round =>
  obtain⟨k,done,hk,rfl,hdone,hown,hbel⟩:=hrel;have hlen:=W3.mapO_len _ _ _ hdone;rw[List.length_take,Nat.min_eq_left hk] at hlen;have HD:=hid hdone;have hn:done.length<=1000000:=by omega
  have HLEN:=hid hlen;have hbw:Below B w wr:=hb.trans (hbel.mono (by have:=hb.size;rw[HB.out] at this;exact this));have hGr:Glob G wr:=hG.below hbw hGB;have hw1:w1.heap.size<=wr.heap.size:=hbel.size;have hbw0:B<=wr.heap.size:=by have:=hbw.size;rw[HB.out] at this;exact this
  clear hdone hlen
  by_cases h:k<L.length
  ·obtain⟨b,off,rfl,hbb,hcell⟩:=HG.out k h
   have hcell':=(hbel.cell (p:=⟨b,off+k,none⟩) hbb).trans hcell;have hpiece:(⟨L[k].toArray⟩:ByteArray).size<4294967281:=by
    have:=HPM.out L[k] (List.getElem_mem h);rw[<-bl_len,bl_mk];omega
   clear hcell HG
   cases hone:partO L[k] with
   | none =>
    have HO:=hid hone;clear hone;go_wp2_with fail;refine(partO_none ⟨L[k].toArray⟩ wr hGr hpiece HO.out).mono ?_;rintro e w2 ⟨rfl,hb2⟩;go_wp2;exact⟨rfl,hbw.trans (hb2.mono hbw0),.inr ⟨W3.each_stop HL.out (W3.mapO_stop _ L[k] L (List.getElem_mem h) HO.out),rfl⟩⟩
   | some c =>
    have HO:=hid hone;clear hone;go_wp2_with fail;refine(partO_some ⟨L[k].toArray⟩ wr c hGr hpiece HO.out).mono ?_;rintro e w2 ⟨rfl,hb2⟩;have hown2:=W3.row_keep hown hb2;have hbel2:=hbel.trans (hb2.mono hw1);go_wp2_with (at_builtin;refine wp_app app77 w2 [.int .i64 c] rfl (by simp[Value.oneCell']) rfl _ _ rfl w1.heap.size _ _ _ rfl hown2 rfl (by omega) (by have:=hb2.size;omega) ?_;intro v' w3 hown' hgrow _);have hbel3:=below_of_grown hbel2 hbel2.size hown2 hgrow;go_roundw
    case rel=>exact⟨k+1,done ++ [c],h,by go_num,W3.mapO_next h HD.out HO.out,by simpa using hown',hbel3⟩
    case measure=>simp[intOf];omega
  ·obtain rfl:k=L.length:=by omega
   have hdone':Sp.mapO partO L=some done:=by have:=HD.out;rwa [List.take_length] at this
   have hln:(done.length:Int)=L.length:=by have:=HLEN.out;omega
   have HD':=hid hdone';have HLN:=hid hln;clear hdone' hln HG;obtain⟨ra,rc,rfl⟩:=W3.row_slice hown
   by_cases hmo:done.length<=most
   ·go_wp2_with fail
    refine(must_true _).mono ?_;rintro e w2 ⟨rfl,rfl⟩;go_wp2;go_ret;exact⟨hbw,.inl ⟨done,_,by rw[W3.each_of HL.out HD'.out,if_pos hmo],rfl,W3.row_base hown (by have:=hb.size;rw[HB.out] at this;exact this)⟩⟩
   ·go_wp2_with fail
    refine(must_false _).mono ?_;rintro e w2 ⟨rfl,rfl⟩;go_wp2;exact⟨rfl,hbw,.inr ⟨by rw[W3.each_of HL.out HD'.out,if_neg hmo],rfl⟩⟩
theorem mapO_part:∀ L:List Sp.Str,L.all Sp.isPart=true->Sp.mapO partO L=some (L.map fun _=>0)
 | [],_=>rfl
 | x :: r,h=>by
  rw[List.all_cons,Bool.and_eq_true] at h;have hx:partO x=some 0:=if_pos h.1;simp only[Sp.mapO,mapO_part r h.2,hx]
  rfl
theorem each_path(s:Sp.Str):Sp.isPath s=(Sp.each s [47] 3 partO).isSome:=by
 cases h:(Lib.split s [47]).all Sp.isPart with
 | true =>
  rw[W3.each_of rfl (mapO_part _ h)];unfold Sp.isPath;rw[h,Bool.true_and,List.length_map]
  by_cases h2:(Lib.split s [47]).length<=3
  ·rw[if_pos h2];simp[h2]
  ·rw[if_neg h2];simp[h2]
 | false =>
  obtain⟨x,hx,hp⟩:=List.all_eq_false.1 h;rw[W3.each_stop rfl (W3.mapO_stop partO x _ hx (if_neg hp))];unfold Sp.isPath;rw[h];rfl
theorem path_yes{G:Nat}(s:ByteArray)(w:World)(hG:Glob G w)(hs:s.size<1000000)(h:Sp.isPath (bl s)=true):
  Calls Tryz.prog 159 #[.string s] w fun e w'=>e=.returned (.string s)/\Below w.heap.size w w':=by
 rw[each_path] at h;have H:=hid h;clear h;go_enter Tryz.func159,Tryz.ntmps159;go_wp2_with fail;refine(eachI_any s _ 3 w hG hs (by decide)).mono ?_;rintro e w1 ⟨hb,⟨l,v,_,rfl,_⟩|⟨hno,_⟩⟩
 ·go_wp2
  go_ret;exact⟨rfl,hb⟩
 ·exfalso
  have:=H.out;rw[show([47]:Sp.Str)=bl ⟨#[47]⟩ from rfl,hno] at this
  cases this
theorem path_no{G:Nat}(s:ByteArray)(w:World)(hG:Glob G w)(hs:s.size<1000000)(h:Sp.isPath (bl s)=false):
  Calls Tryz.prog 159 #[.string s] w fun e w'=>e=.panicked [{v:=.iface 177 (.agg #[]),recovered:=false}]/\Below w.heap.size w w':=by
 rw[each_path] at h;have H:=hid h;clear h;go_enter Tryz.func159,Tryz.ntmps159;go_wp2_with fail;refine(eachI_any s _ 3 w hG hs (by decide)).mono ?_;rintro e w1 ⟨hb,⟨l,v,hl,_,_⟩|⟨_,rfl⟩⟩
 ·exfalso
  have:=H.out;rw[show([47]:Sp.Str)=bl ⟨#[47]⟩ from rfl,hl] at this
  cases this
 ·go_wp2
  exact⟨rfl,rfl,hb⟩
end
section
open Go.RowKit
theorem cut_fst(s t:Sp.Str):(Lib.cut s t).1.length<=s.length:=by
 unfold Lib.cut;split
 ·simp;omega
 ·simp
theorem line_file_no4{G:Nat}(m b:Nat)(p:Sp.Pk)(s:ByteArray)(w:World)(hG:Glob G w)(hP:PackAt w m b p)(hs:s.size<1000000)(i:Nat)(a1 a2:Sp.Str)(b1 b2:Sp.Str)(hA:Lib.cut (bl s) [32]=(a1,a2,true))(hi:((i:Int) == 0)=false)(hw0:(a1 == [112,97,99,107,97,103,101])=false)(hw1:(a1 == [110,101,101,100,115])=false)(hw2:(a1 == [98,97,114,115])=false)(hw3:(a1 == [102,105,108,101])=true)(hB:Lib.cut a2 [61]=(b1,b2,true))(hc:b2.length<=24)(hfl:p.files.length<4)(hp:Sp.isPath b1=false):
  Calls Tryz.prog 103 #[.pointer (some ⟨b,0,none⟩),.int .i64 (i:Int),.string s] w fun e w'=>e=.panicked [{v:=.iface 177 (.agg #[]),recovered:=false}]/\FrN m b w w':=by
 have hPw:=hP;obtain⟨nv,bv,fv,hmw,hbm,h0,h1,h2,h3,h4,g0,g1,g2,n0,n1,n2,hz⟩:=hP;have ha2:a2.length<1000000:=by
  have:=W2.cut_snd (bl s) [32];rw[hA,bl_len] at this;simp only at this;omega
 have HA:=hid hA;have hb1:(⟨b1.toArray⟩:ByteArray).size<1000000:=by
  rw[<-bl_len,bl_mk];have:b1.length<=a2.length:=by have:=cut_fst a2 [61];rw[hB] at this;exact this
  omega
 have HP:Hid (Sp.isPath (bl ⟨b1.toArray⟩)=false):=hid (by rw[bl_mk];exact hp);obtain⟨fa,fc,rfl⟩:=W3.row_slice g2;have HB:=hid hB;clear hA hB hp hPw h0 h1 h2 h3 g0 g1 g2 n0 n1 n2 hz;go_enter Tryz.func103,Tryz.ntmps103;go_wp2_with fail;refine(cutS_any s _ w hG (by omega)).mono ?_;rintro e w1 ⟨rfl,k,rfl⟩;rw[show bl ⟨#[32]⟩=[32] from rfl,HA.out];have hbk:Below w.heap.size w (w.drewN k):=below_drawn w k;have hGk:=hG.keep hbk;go_wp2_with fail;refine(must_true _).mono ?_;rintro e wx ⟨rfl,rfl⟩;go_wp2_with fail;refine(cutS_any _ _ _ hGk (by rw[<-bl_len,bl_mk];omega)).mono ?_;rintro e wx ⟨rfl,k2,rfl⟩;rw[show bl ⟨#[61]⟩=[61] from rfl,bl_mk,HB.out];go_wp2_with fail;rw[show decide ((p.files.length:Int)<4)=true from decide_eq_true (by omega)];refine(must_true _).mono ?_;rintro e wx ⟨rfl,rfl⟩;have hpn:=fun W hGW=>path_no ⟨b1.toArray⟩ W (G:=G) hGW hb1 HP.out
 have hGn:=hG.keep (below_drawn w (k+k2));clear hc hfl;go_wp2_with fail
 go_region_dies
 all_goals (refine(hpn _ (hG.keep (below_drawn w _))).mono ?_;rintro e w5 ⟨rfl,hb5⟩;exact⟨rfl,rfl,FrN.of_below ((below_drawn w _).trans (hb5.mono (below_drawn w _).size)) hmw⟩)
end
section
open Go.RowKit
theorem PackAt.addFile{w w6:World}{m b:Nat}{p:Sp.Pk}(h:PackAt w m b p)(f:Sp.Fl)(g cap:Nat)
  (hown:w6.ownsRow m 182 2 (.slice (some ⟨g,0,none⟩) (p.files.length+1) cap) (p.files.length+1) (p.files.flatMap flCells ++ flCells f))(hg:Below m w w6):
  PackAt (w6.setCell ⟨b,4,none⟩ (.slice (some ⟨g,0,none⟩) (p.files.length+1) cap)) m b { p with files:=p.files ++ [f] }:=by
 obtain⟨nv,bv,fv',hm,hbm,h0,h1,h2,h3,h4,g0,g1,g2,n0,n1,n2,hz⟩:=h;have hc:∀ o,w6.cell? ⟨b,o,none⟩=w.cell? ⟨b,o,none⟩:=fun o=>hg.cell (p:=⟨b,o,none⟩) (show b<m by omega)
 have hf:∀ o,w6.frozen? ⟨b,o,none⟩=false:=fun o=>(hg.frozen (p:=⟨b,o,none⟩) (show b<m by omega)).trans (hz o)
 obtain⟨c1,c2,c3,c4,c5⟩:=set_facts w6 b 4 (.slice (some ⟨g,0,none⟩) (p.files.length+1) cap) _ ((hc 4).trans h4) hf;have hsz:=hg.size;refine⟨nv,bv,_,by omega,hbm,((c2 0 (by omega)).trans (hc 0)).trans h0,((c2 1 (by omega)).trans (hc 1)).trans h1,((c2 2 (by omega)).trans (hc 2)).trans h2,((c2 3 (by omega)).trans (hc 3)).trans h3,c1,
  g0.keep fun x hx=>(c3 x (by omega)).trans (hg.block x hx.1),SlOn.keep g1 fun x hx=>(c3 x (by omega)).trans (hg.block x hx.1),?_,n0,n1,fun e=>by simp at e,c4⟩
 rw[List.length_append,List.flatMap_append];have:[f].flatMap flCells=flCells f:=by simp
 rw[this];exact row_block hown fun k hk=>c3 k (by omega)
theorem PackAt.isPack{w:World}{m b:Nat}{p:Sp.Pk}(h:PackAt w m b p):IsPack (fun x=>x<w.heap.size) w b p:=by
 obtain⟨nv,bv,fv,hm,hbm,h0,h1,h2,h3,h4,g0,g1,g2,n0,n1,n2,hz⟩:=h;refine⟨nv,bv,fv,by omega,h0,h1,h2,h3,h4,g0.mono fun x hx=>by omega,SlOn.mono g1 fun x hx=>by omega,?_,n0,n1⟩;refine SlAt.of_row (B:=m) (e:=182) (fun x hx=>?_) ?_
 ·obtain⟨f,_,rfl⟩:=List.mem_map.1 hx;rfl
 ·rw[List.length_map]
  have:(p.files.map flCells).flatten=p.files.flatMap flCells:=by simp[List.flatMap]
  rw[this];exact g2
theorem set_one{w:World}{mb b m:Nat}{p:Sp.Pk}(hown:w.ownsMap Tryz.prog 9 Rv mb 1 ((DataW.map []:DataW Value).put (.string p.name) (.held (.pointer (some ⟨b,0,none⟩)))))(hP:PackAt w m b p)(hok:PkOk p)(hn:p.name.length<=maxLen):
  SetOn (fun x=>x<w.heap.size) w mb [(b,p)]:=by
 have hm:Maps.IsMap (DataW.map []:DataW Value):=Maps.isMap_empty;refine⟨⟨_,hown,?_,?_,?_⟩,by simp,?_⟩
 ·rfl
 ·intro q hq z
  rw[List.mem_singleton] at hq;subst hq;exact Maps.atKey_put_same hm (isKey9 p.name hn) _ _
 ·intro k hk
  refine⟨(b,p),by simp,Classical.byContradiction fun hne=>?_⟩;rw[Maps.has_put_other hne] at hk
  cases hk
 ·intro q hq
  rw[List.mem_singleton] at hq;subst hq;exact⟨hP.isPack,hok⟩
theorem line_file_yes0{G:Nat}(m b:Nat)(p:Sp.Pk)(s:ByteArray)(w:World)(hG:Glob G w)(hP:PackAt w m b p)(hs:s.size<1000000)(i:Nat)(a1 a2:Sp.Str)(b1 b2:Sp.Str)(hA:Lib.cut (bl s) [32]=(a1,a2,true))(hi:((i:Int) == 0)=false)(hw0:(a1 == [112,97,99,107,97,103,101])=false)(hw1:(a1 == [110,101,101,100,115])=false)(hw2:(a1 == [98,97,114,115])=false)(hw3:(a1 == [102,105,108,101])=true)(hB:Lib.cut a2 [61]=(b1,b2,true))(hc:b2.length<=24)(hfl:p.files.length<4)(hp:Sp.isPath b1=true)(hok:PkOk { p with files:=p.files ++ [⟨b1,b2⟩] }):
  Calls Tryz.prog 103 #[.pointer (some ⟨b,0,none⟩),.int .i64 (i:Int),.string s] w fun e w'=>FrN m b w w'/\((Sp.clash1 (p.files.map (·.path) ++ [b1])=false/\e=.returned (.tuple #[])/\PackAt w' m b { p with files:=p.files ++ [⟨b1,b2⟩] })\/(Sp.clash1 (p.files.map (·.path) ++ [b1])=true/\e=.panicked [{v:=.iface 177 (.agg #[]),recovered:=false}])):=by
 have hPw:=hP;obtain⟨nv,bv,fv,hmw,hbm,h0,h1,h2,h3,h4,g0,g1,g2,n0,n1,n2,hz⟩:=hP;have ha2:a2.length<1000000:=by
  have:=W2.cut_snd (bl s) [32];rw[hA,bl_len] at this;simp only at this;omega
 have HA:=hid hA;have hb1:(⟨b1.toArray⟩:ByteArray).size<1000000:=by
  rw[<-bl_len,bl_mk];have:b1.length<=a2.length:=by have:=cut_fst a2 [61];rw[hB] at this;exact this
  omega
 have HP:Hid (Sp.isPath (bl ⟨b1.toArray⟩)=true):=hid (by rw[bl_mk];exact hp);obtain⟨fa,fc,rfl⟩:=W3.row_slice g2;have HB:=hid hB;have HPW:=hid hPw;have HZ:=hid hz;clear hA hB hp hPw h0 h1 h2 h3 g0 g1 n0 n1 n2 hz;go_enter Tryz.func103,Tryz.ntmps103;go_wp2_with fail;refine(cutS_any s _ w hG (by omega)).mono ?_;rintro e w1 ⟨rfl,k,rfl⟩;rw[show bl ⟨#[32]⟩=[32] from rfl,HA.out];have hbk:Below w.heap.size w (w.drewN k):=below_drawn w k;have hGk:=hG.keep hbk;go_wp2_with fail;refine(must_true _).mono ?_;rintro e wx ⟨rfl,rfl⟩;go_wp2_with fail;refine(cutS_any _ _ _ hGk (by rw[<-bl_len,bl_mk];omega)).mono ?_;rintro e wx ⟨rfl,k2,rfl⟩;rw[show bl ⟨#[61]⟩=[61] from rfl,bl_mk,HB.out];go_wp2_with fail;rw[show decide ((p.files.length:Int)<4)=true from decide_eq_true (by omega)];refine(must_true _).mono ?_;rintro e wx ⟨rfl,rfl⟩;have hpn:=fun W hGW=>path_yes ⟨b1.toArray⟩ W (G:=G) hGW hb1 HP.out
 have hGn:=hG.keep (below_drawn w (k+k2));go_wp2_with fail
 go_cut [] (fun wx=>PackAt wx m b { p with files:=p.files ++ [⟨b1,b2⟩] }/\FrN m b w wx)
 case first =>
  go_region_law (first
   | (refine step_app app173 _ [_,_] rfl (by simp[Value.oneCell']) rfl _ _ rfl m _ _ _ rfl hown5 rfl (by omega) (by have:=hb5'.size;omega) ?_;intro g cap w6 hown6 hg6;have hb6:=below_of_grown (Below.refl m w5) (by have:=hb5'.size;omega) hown5 hg6;have hc6:=(hb6.cell (p:=⟨b,4,none⟩) (show b<m by omega)).trans h45;have hf6:=(hb6.frozen (p:=⟨b,4,none⟩) (show b<m by omega)).trans hf5)
   | (go_simp;go_at_call 159;refine(hpn _ (hG.keep (below_drawn w _))).mono ?_;rintro e w5 ⟨rfl,hb5⟩;have hb5':Below w.heap.size w w5:=(below_drawn w _).trans (hb5.mono (below_drawn w _).size);have hown5:=W3.row_keep g2 hb5';have h45:=((bcell hb5').1 b 4 (by omega)).trans h4;have hf5:=((bcell hb5').2 b 4 (by omega)).trans (HZ.out 4);have hl5:b<w5.heap.size:=by have:=hb5'.size;omega))
  all_goals
   go_wp2_with fail;go_meet;exact⟨(HPW.out.below hb5').addFile ⟨b1,b2⟩ g cap hown6 hb6,(FrN.of_below hb5' hmw).trans (FrN.trans ⟨hb6.os,hb6.tape,hb6.output,hb6.size,fun k hk _=>hb6.block k hk⟩ (FrN.set _ _ _ _ _))⟩
 case rest =>
  obtain⟨hP6,hF6⟩:=hcut;clear HP HB HPW HZ hpn hGn g2 h4 hb1 hGk hbk HA;have hname:=hok.name;simp only at hname;obtain⟨w7,hins,hown7,hg7⟩:=(World.ownsMap_made wc Tryz.prog 9 Rv).update (t:=139) keyed9 Tryz.underlying139 (by decide) (keyOf9 p.name (by unfold maxLen;omega)) (val:=.pointer (some ⟨b,0,none⟩)) rfl;have hs7:=hg7.size;simp only[World.size_alloc] at hs7;have hb7:Below wc.heap.size wc w7:=⟨hg7.os,hg7.tape,hg7.output,by omega,fun k hk=>(hg7.block k (by simp;omega) (by simp;omega)).trans (Below.heap_alloc _ _ _ hk)⟩
  have hP7:=hP6.below hb7;have hset:=set_one (p:={ p with files:=p.files ++ [⟨b1,b2⟩] }) hown7 hP7 hok (by show p.name.length<=maxLen;unfold maxLen;omega);have hcl:=clashes_any wc.heap.size [(b,{ p with files:=p.files ++ [⟨b1,b2⟩] })] w7 hset (by simp);obtain⟨nv,bv,fv,hmw6,hbm6,h0,h1,h2,h3,h4,g0,g1,g2,n0,n1,n2,hz⟩:=hP6;have hbl6:b<wc.heap.size:=by omega
  have HP7:=hid hP7;have HF6:=hid hF6;have hmm:=@run_makeMap Tryz.prog;clear h0 h1 h3 h4 g0 g1 g2 n0 n1 n2 hz hP7 hset hF6;unfold sv at h2;go_wp2_with (go_at_call 125;refine hcl.mono ?_;rintro e w8 ⟨v,l,rfl,hb8,hl8,hs8,hx8⟩;obtain⟨la,lc,rfl,_⟩:=StrsAt.get hl8);have e9:([(b,{ p with files:=p.files ++ [⟨b1,b2⟩] })].flatMap fun q:Nat × Sp.Pk=>pathsOf q.2)=p.files.map (·.path) ++ [b1]:=by simp[pathsOf]
  rw[e9] at hx8;have hcn:=clash_none _ l hx8;have hb9:=hb7.trans (hb8.mono hb7.size);have hf9:=HF6.out.trans (FrN.of_below (n:=m) (b:=b) hb9 hmw6);have hP9:=HP7.out.below hb8
  cases hcc:Sp.clash1 (p.files.map (·.path) ++ [b1]) with
  | false =>
   obtain rfl:=hcn.2 hcc;refine(must_true _).mono ?_;rintro e wx ⟨rfl,rfl⟩;go_wp2_with fail
   go_end0
   exact⟨hf9,.inl ⟨hcc,rfl,hP9⟩⟩
  | true =>
   have hne:((l.length:Int) == 0)=false:=by
    rw[beq_eq_false_iff_ne];intro e;have:=hcn.1 (List.length_eq_zero_iff.1 (by omega));rw[hcc] at this;cases this
   rw[hne];refine(must_false _).mono ?_;rintro e wx ⟨rfl,rfl⟩;go_wp2_with fail;exact⟨rfl,hf9,.inr ⟨hcc,rfl⟩⟩
end
end Go.Proofs.YtfphcecjhdkcoaaGreatDoor

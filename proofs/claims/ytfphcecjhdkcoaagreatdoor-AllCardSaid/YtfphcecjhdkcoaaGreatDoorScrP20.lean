/-
The walk of the reference's Order, whole.
-/
import Derived.Test.YtfphcecjhdkcoaaGreatDoorScrP09
import Derived.Test.YtfphcecjhdkcoaaGreatDoorScrP19
import Derived.Deep.RegionWith
import Derived.Deep.RegionLaw
import Derived.Deep.DeepCutAuto
import Derived.Deep.RegionLawGrows
import Derived.Laws.AppendOwnNone
set_option maxRecDepth 100000
set_option maxHeartbeats 8000000
namespace Go.Proofs.YtfphcecjhdkcoaaGreatDoor
open Go.Lib (hid)
section
open Go.RowKit
theorem info27:(Tryz.prog.info? 27).map (fun i=>(i.zero,i.size,i.bytes))=some (some (.slice none 0 0),1,24):=by kernel_rfl
theorem app26:AppTy 26 27 1 24:=AppTy.of Tryz.underlying26 info27 rfl (by decide) (by decide)
structure NeedsSt(B b:Nat)(w wr:World)(v:Value)(vs:List Value)(gs:List (List Sp.Ch)):Prop where
 cell:wr.cell? ⟨b,2,none⟩=some v
 own:wr.ownsRow B 27 1 v vs.length vs
 grp:GrpsOn (fun x=>x<wr.heap.size/\B<=x/\v.ownBlock≠some x) wr vs gs
 frn:FrN B b w wr
 others:∀ o,o≠2->wr.cell? ⟨b,o,none⟩=w.cell? ⟨b,o,none⟩
 frz:∀ o,wr.frozen? ⟨b,o,none⟩=false
theorem NeedsSt.next{B b:Nat}{w wr w2 w3:World}{v v' x:Value}{vs:List Value}{gs:List (List Sp.Ch)}{l:List Sp.Ch}(h:NeedsSt B b w wr v vs gs)(hbB:b<B)(hBr:B<=wr.heap.size)
  (hx:w2.ownsRow wr.heap.size 135 3 x l.length (chRow l))(hb:Below wr.heap.size wr w2)(hown:w3.ownsRow B 27 1 v' (vs.length+1) (vs ++ [x]))(hg:w2.grownBy w3 v.ownBlock)
  (hat:v'.ownBlock=v.ownBlock\/∃ g,v'.ownBlock=some g/\w2.heap.size<=g):NeedsSt B b w (w3.setCell ⟨b,2,none⟩ v') v' (vs ++ [x]) (gs ++ [l]):=by
 obtain⟨h1,h2,h3,h4,h5,h6⟩:=h;have hv:∀ k,v.ownBlock=some k->k<wr.heap.size:=fun k hk=>(h2.lt k hk).2
 have hvB:∀ k,v.ownBlock=some k->B<=k:=fun k hk=>(h2.lt k hk).1
 have hs2:=hb.size;have hs3:=hg.size;have hb2:Below B wr w2:=hb.mono hBr;have hb3:Below B wr w3:=hb2.grown hg (by omega) hvB;have hcells:∀ o,w3.cell? ⟨b,o,none⟩=wr.cell? ⟨b,o,none⟩:=fun o=>hb3.cell (p:=⟨b,o,none⟩) hbB
 have hfrz:∀ o,w3.frozen? ⟨b,o,none⟩=false:=fun o=>(hb3.frozen (p:=⟨b,o,none⟩) hbB).trans (h6 o)
 obtain⟨c1,c2,c3,c4,c5⟩:=set_facts w3 b 2 v' _ ((hcells 2).trans h1) hfrz;have hch:ChOn (fun y=>y<w2.heap.size/\wr.heap.size<=y) w2 x l:=
  SlOn.mono (sl_of_row (e:=135) (fun y hy=>by obtain⟨c,_,rfl⟩:=List.mem_map.1 hy;rfl) (by rw[List.length_map,chRow_flat];exact hx)) fun y hy=>⟨hy.1,hy.2.1⟩
 have hgr:=GrpsOn.app (m:=B) (v:=v) (v':=v') (x:=x) (c:=l) h3 hch hb hBr hv hg hat;refine⟨c1,?_,?_,?_,fun o ho=>(c2 o ho).trans ((hcells o).trans (h5 o ho)),c4⟩
 ·rw[List.length_append]
  exact row_block hown fun k hk=>c3 k (by omega)
 ·exact(hgr.keep fun y hy=>c3 y (by omega)).mono fun y hy=>⟨by omega,hy.2⟩
 ·exact h4.trans (FrN.trans ⟨hb3.os,hb3.tape,hb3.output,hb3.size,fun k hk _=>hb3.block k hk⟩ (FrN.set _ _ _ _ _))
theorem lineR_needs(m b:Nat)(p:Sp.Pk)(s:ByteArray)(w:World)(hP:RPk w m b p)(_hok:PkOk p)(hs:s.size<1000000)(i:Nat)(hi:((i:Int) == 0)=false)(h1:T2.needsP.isPrefixOf (bl s)=true)(hd:(((p.needs.length:Int)+(p.bars.length:Int)+(p.files.length:Int)) == 0)=true):
  Calls Tryz.prog 44 #[.pointer (some ⟨b,0,none⟩),.int .i64 i,.string s] w (LineR (T2.laterR p (bl s)) m b w):=by
 obtain⟨h2,h3⟩:=R8.needs_not h1;have hd':p.needs.length+p.bars.length+p.files.length=0:=by rw[beq_iff_eq] at hd;omega
 have hn0:p.needs=[]:=List.length_eq_zero_iff.1 (by omega);have hb0:p.bars=[]:=List.length_eq_zero_iff.1 (by omega);have hf0:p.files=[]:=List.length_eq_zero_iff.1 (by omega);have hc:T2.laterR p (bl s)=(Sp.each ((bl s).drop 6) [44,32] 3 groupO).map fun n=>{ p with needs:=n }:=by
  unfold T2.laterR;rw[h1,show decide (p.needs.length+p.bars.length+p.files.length=0)=true from decide_eq_true hd'];rfl
 have h6:6<=s.size:=R8.pre_size h1;obtain⟨nv,bv,fv,hm,hbm,k0,k1,k2,k3,k4,g0,g1,g2,n0,n1,n2,hz⟩:=hP;obtain rfl:=n0 hn0;obtain rfl:=n1 hb0;obtain rfl:=n2 hf0;have hbs:b<w.heap.size:=by omega
 have HC:=hid hc;have H1:=hid h1;have H2:=hid h2;have H3:=hid h3;have HN0:=hid hn0;have HB0:=hid hb0;have HF0:=hid hf0;clear hc h1 h2 h3 g0 g1 g2 n0 n1 n2 hn0 hb0 hf0 hd hd';go_enter Tryz.func44,Tryz.ntmps44;go_wp2_with fail;refine(begins_any _ _ _).mono ?_;rintro e w1 ⟨rfl,rfl⟩;rw[show bl ⟨#[110,101,101,100,115,32]⟩=T2.needsP from rfl,H1.out];go_wp2_with fail;refine(begins_any _ _ _).mono ?_;rintro e w1 ⟨rfl,rfl⟩;rw[show bl ⟨#[98,97,114,115,32]⟩=T2.barsP from rfl,H2.out];go_wp2_with fail;refine(begins_any _ _ _).mono ?_;rintro e w1 ⟨rfl,rfl⟩;rw[show bl ⟨#[102,105,108,101,32]⟩=T2.fileP from rfl,H3.out];go_wp2;go_quiet (fail);go_wp2_with fail;refine(cutR_any _ _ _ (by rw[<-bl_len,bl_from,List.length_drop,bl_len];omega) (by decide) (by decide)).mono ?_;rintro e w1 ⟨v,rfl,hown,hb⟩;rw[bl_from,show bl ⟨#[44,32]⟩=[44,32] from rfl] at hown;have hv:=StrsAt.of_row hown;have hpl:=Sp.split_length ((bl s).drop 6) [44,32] (by simp);rw[List.length_drop,bl_len] at hpl;have hpm:∀ x∈Lib.split ((bl s).drop 6) [44,32],x.length<1000000:=fun x hx=>by
  have:=Sp.split_mem ((bl s).drop 6) [44,32] x (by simp) hx;rw[List.length_drop,bl_len] at this;omega
 have HPM:=hid hpm;clear hpm;generalize hL:Lib.split ((bl s).drop 6) [44,32]=L at *;obtain⟨a,cap,rfl,hcap,hget⟩:=hv.get;have hab:∀ lb off,a=some ⟨lb,off,none⟩->w.heap.size<=lb:=by
  intro lb off e
  rcases hown.2 with⟨e',_⟩|⟨g,cap',cur,e',hg,_⟩
  ·simp only[Value.slice.injEq] at e'
   rw[e'.1] at e;cases e
  ·simp only[Value.slice.injEq] at e'
   rw[e'.1] at e;cases e;exact hg
 have HL:=hid hL.symm;have HG:=hid hget;have HAB:=hid hab;have hbw:Below w.heap.size w w1:=Below.trans (below_drawn w _) (hb.mono (by simp));have hs1:=hbw.size;have hst:NeedsSt w1.heap.size b w1 w1 (.slice none 0 0) [] []:=⟨((bcell hbw).1 b 2 hbs).trans k2,World.ownsRow_nil _ _ _ _,GrpsOn.nil _ _,FrN.refl _ _ _,fun _ _=>rfl,fun o=>((bcell hbw).2 b o hbs).trans (hz o)⟩
 have j0:=((bcell hbw).1 b 0 hbs).trans k0;have j1:=((bcell hbw).1 b 1 hbs).trans k1;have j3:=((bcell hbw).1 b 3 hbs).trans k3;have j4:=((bcell hbw).1 b 4 hbs).trans k4;have J0:=hid j0;have J1:=hid j1;have J3:=hid j3;have J4:=hid j4;clear hL hv hget hown hab k0 k1 k2 k3 k4 hz j0 j1 j3 j4;go_wp2
 go_loopw [14,15,16] (fun i _ _ wr=>∃ (k:Nat) (gs:List (List Sp.Ch)) (v:Value) (vs:List Value),k<=L.length/\i=.int .i64 k/\Sp.mapO groupO (L.take k)=some gs/\NeedsSt w1.heap.size b w1 wr v vs gs) (fun i _ _ _=>L.length-(intOf i).toNat)
 case atStart=>exact⟨0,[],_,[],Nat.zero_le _,rfl,rfl,hst⟩
 case round =>
  obtain⟨k,gs,v,vs,hk,rfl,hdone,hst2⟩:=hrel;have hlen:=W3.mapO_len _ _ _ hdone;rw[List.length_take,Nat.min_eq_left hk] at hlen;have hvl:=hst2.grp.1;have HD:=hid hdone;have HLEN:=hid hlen;have HVL:=hid hvl;have hvn:vs.length<=1000000:=by omega
  have hwr:w1.heap.size<=wr.heap.size:=hst2.frn.size;have hfr0:FrN m b w wr:=(FrN.of_below hbw hm).trans ⟨hst2.frn.os,hst2.frn.tape,hst2.frn.output,hst2.frn.size,fun x hx hne=>hst2.frn.block x (by omega) hne⟩;clear hdone hlen hvl hst
  by_cases h:k<L.length
  ·obtain⟨lb,off,rfl,hlb,hcell⟩:=HG.out k h
   have hlb2:w.heap.size<=lb:=HAB.out lb off rfl;have hcell':=(hst2.frn.cell (p:=⟨lb,off+k,none⟩) hlb (by show lb≠b;omega)).trans hcell;have hpiece:(⟨L[k].toArray⟩:ByteArray).size<1000000:=by
    have:=HPM.out L[k] (List.getElem_mem h);rw[<-bl_len,bl_mk];omega
   clear hcell HG;go_wp2_with fail;refine(choices_any ⟨L[k].toArray⟩ _ 3 wr hpiece (by decide) (by decide)).mono ?_;rintro e w2 ⟨hb2,l,x,ok,rfl,hch,hx⟩;rw[bl_mk,show bl ⟨#[32,124,32]⟩=[32,124,32] from rfl] at hch;have HCH:Hid (groupO L[k]=if ok then some l else none):=hid hch;clear hch;obtain⟨xa,xc,rfl⟩:=W3.row_slice hx
   cases ok with
   | false =>
    go_wp2;go_ret;refine⟨hfr0.trans (FrN.of_below hb2 (by omega)),.inl ⟨rfl,?_⟩⟩;rw[HC.out,W3.each_stop HL.out (W3.mapO_stop _ L[k] L (List.getElem_mem h) HCH.out)];rfl
   | true =>
    obtain⟨va,vc,rfl⟩:=W3.row_slice hst2.own;have hs2:=hb2.size;have hk2:=((bcell hb2).1 b 2 (by omega)).trans hst2.cell;have hz2:=((bcell hb2).2 b 2 (by omega)).trans (hst2.frz 2);have hown2:=W3.row_keep hst2.own hb2;have hone:∀ u∈[Value.slice xa l.length xc],u.oneCell'=true:=by simp[Value.oneCell']
    have hb23:w1.heap.size<=w2.heap.size:=by omega
    have hvn2:vs.length<1099511627776:=by omega
    have hbw2:∀ w3,w2.grownBy w3 (Value.slice va vs.length vc).ownBlock->Below w1.heap.size w2 w3:=fun w3 hg=>below_of_grown (Below.refl w1.heap.size w2) hb23 hown2 hg
    have hk3:∀ w3,w2.grownBy w3 (Value.slice va vs.length vc).ownBlock->w3.cell? ⟨b,2,none⟩=some (.slice va vs.length vc):=fun w3 hg=>((hbw2 w3 hg).cell (p:=⟨b,2,none⟩) (show b<w1.heap.size by omega)).trans hk2
    have hz3:∀ w3,w2.grownBy w3 (Value.slice va vs.length vc).ownBlock->w3.frozen? ⟨b,2,none⟩=false:=fun w3 hg=>((hbw2 w3 hg).frozen (p:=⟨b,2,none⟩) (show b<w1.heap.size by omega)).trans hz2
    have HK3:=hid hk3;have HZ3:=hid hz3;clear hk3 hz3 hbw2;go_wp2_with (at_builtin;refine wp_app_at app26 w2 [.slice xa l.length xc] rfl hone rfl _ _ rfl w1.heap.size _ _ _ rfl hown2 rfl hvn2 hb23 ?_;intro v' w3 hown' hgrow hgc hat;obtain⟨vg,vcap,rfl⟩:=hgc;have hk3:=HK3.out w3 hgrow;have hz3:=HZ3.out w3 hgrow);go_roundw
    case rel=>exact⟨k+1,gs ++ [l],_,_,h,by go_num,W3.mapO_next h HD.out HCH.out,hst2.next (by omega) hwr hx hb2 hown' hgrow hat⟩
    case measure=>simp[intOf];omega
  ·obtain rfl:k=L.length:=by omega
   have hdone':Sp.mapO groupO L=some gs:=by have:=HD.out;rwa [List.take_length] at this
   have HD':=hid hdone';obtain⟨va,vc,rfl⟩:=W3.row_slice hst2.own;have hkc:=hst2.cell;clear hdone' HG;have hfin:∀ hle:gs.length<=3,RPk wr wr.heap.size b { p with needs:=gs }:=fun hle=>by
    obtain⟨q1,q2,q3,q4,q5,q6⟩:=hst2;have hne:gs≠[]:=each_ne (s:=(bl s).drop 6) (sep:=[44,32]) (most:=3) (one:=groupO) (by simp) (by rw[W3.each_of HL.out HD'.out,if_pos hle]);refine⟨_,_,_,Nat.le_refl _,by omega,(q5 0 (by omega)).trans J0.out,(q5 1 (by omega)).trans J1.out,q1,(q5 3 (by omega)).trans J3.out,(q5 4 (by omega)).trans J4.out,⟨vs,?_,?_⟩,?_,?_,fun e=>absurd e hne,fun _=>rfl,fun _=>rfl,q6⟩
    ·exact(one_row rfl q2).mono fun x hx=>⟨hx.1,by have:=hx.2.1;omega⟩
    ·exact q3.mono fun x hx=>⟨hx.1,by have:=hx.2.1;omega⟩
    ·show ChOn _ _ _ p.bars
     rw[HB0.out];exact SlOn.nil _ _ _
    ·show wr.ownsRow _ _ _ _ p.files.length (p.files.flatMap flCells)
     rw[HF0.out];exact World.ownsRow_nil _ _ _ _
   have HFIN:=hid hfin;clear hfin
   by_cases hmo:vs.length<=3
   ·go_wp2
    go_ret;have hvg:vs.length=gs.length:=HVL.out;have hmo':gs.length<=3:=by omega
    exact⟨hfr0,.inr ⟨_,wr.heap.size,ret_bool (decide_eq_true (by omega)),by rw[HC.out,W3.each_of HL.out HD'.out,if_pos hmo'];rfl,by omega,HFIN.out hmo'⟩⟩
   ·go_wp2
    go_ret;have hvg:vs.length=gs.length:=HVL.out;have hmo':¬gs.length<=3:=by omega
    exact⟨hfr0,.inl ⟨ret_bool (decide_eq_false (by omega)),by rw[HC.out,W3.each_of HL.out HD'.out,if_neg hmo'];rfl⟩⟩
end
section
open Go.RowKit
theorem info88:(Tryz.prog.info? 88).map (fun i=>(i.zero,i.size,i.bytes))=some (some (.agg #[.string ⟨#[]⟩,.string ⟨#[]⟩]),2,32):=by kernel_rfl
theorem app28:AppTy 28 88 2 32:=AppTy.of Tryz.underlying28 info88 rfl (by decide) (by decide)
theorem RPk.addFile{w w6:World}{m b:Nat}{p:Sp.Pk}(h:RPk w m b p)(f:Sp.Fl)(g cap:Nat)
  (hown:w6.ownsRow m 88 2 (.slice (some ⟨g,0,none⟩) (p.files.length+1) cap) (p.files.length+1) (p.files.flatMap flCells ++ flCells f))(hg:Below m w w6):
  RPk (w6.setCell ⟨b,4,none⟩ (.slice (some ⟨g,0,none⟩) (p.files.length+1) cap)) m b { p with files:=p.files ++ [f] }:=by
 obtain⟨nv,bv,fv',hm,hbm,h0,h1,h2,h3,h4,g0,g1,g2,n0,n1,n2,hz⟩:=h;have hc:∀ o,w6.cell? ⟨b,o,none⟩=w.cell? ⟨b,o,none⟩:=fun o=>hg.cell (p:=⟨b,o,none⟩) (show b<m by omega)
 have hf:∀ o,w6.frozen? ⟨b,o,none⟩=false:=fun o=>(hg.frozen (p:=⟨b,o,none⟩) (show b<m by omega)).trans (hz o)
 obtain⟨c1,c2,c3,c4,c5⟩:=set_facts w6 b 4 (.slice (some ⟨g,0,none⟩) (p.files.length+1) cap) _ ((hc 4).trans h4) hf;have hsz:=hg.size;refine⟨nv,bv,_,by omega,hbm,((c2 0 (by omega)).trans (hc 0)).trans h0,((c2 1 (by omega)).trans (hc 1)).trans h1,((c2 2 (by omega)).trans (hc 2)).trans h2,((c2 3 (by omega)).trans (hc 3)).trans h3,c1,
  g0.keep fun x hx=>(c3 x (by omega)).trans (hg.block x hx.1),SlOn.keep g1 fun x hx=>(c3 x (by omega)).trans (hg.block x hx.1),?_,n0,n1,fun e=>by simp at e,c4⟩
 rw[List.length_append,List.flatMap_append];have:[f].flatMap flCells=flCells f:=by simp
 rw[this];exact row_block hown fun k hk=>c3 k (by omega)
namespace R10
def chk(f:Sp.Fl)(g:Sp.Fl):Bool:=!Sp.over f.path g.path && !Sp.over g.path f.path && f.path != g.path
theorem fileR_eq(fs:List Sp.Fl)(t:Sp.Str)(f:Sp.Fl)(ok:Bool)(h:fileO t=if ok then some f else none):T2.fileR fs t=if ok && fs.all (chk f) then some f else none:=by
 unfold fileO at h;unfold T2.fileR;generalize Lib.cut t [61]=c at h;obtain⟨c1,c2,c3⟩:=c;simp only at h ⊢
 cases ok with
 | false =>
  simp only[Bool.false_eq_true,if_false] at h;have:(c3 && Sp.isPath c1 && decide (c2.length<=24))=false:=by
   rw[Bool.eq_false_iff];intro e;rw[if_pos e] at h;cases h
  rw[this];rfl
 | true =>
  simp only[if_true] at h
  split at h
  ·rename_i hh
   cases h
   rw[hh];rfl
  ·cases h
theorem row_get{w:World}{m:Nat}{fv:Value}{fs:List Sp.Fl}(h:w.ownsRow m 88 2 fv fs.length (fs.flatMap flCells)):FlOn (fun x=>x<w.heap.size/\m<=x/\fv.ownBlock=some x) w fv fs:=by
 refine sl_of_row (B:=m) (e:=88) (fun x hx=>?_) ?_
 ·obtain⟨f,_,rfl⟩:=List.mem_map.1 hx;rfl
 ·rw[List.length_map]
  have:(fs.map flCells).flatten=fs.flatMap flCells:=by simp[List.flatMap]
  rw[this];exact h
end R10
theorem lineR_file(m b:Nat)(p:Sp.Pk)(s:ByteArray)(w:World)(hP:RPk w m b p)(hok:PkOk p)(hs:s.size<1000000)(i:Nat)(hi:((i:Int) == 0)=false)(h1:T2.needsP.isPrefixOf (bl s)=false)(h2:T2.barsP.isPrefixOf (bl s)=false)(h3:T2.fileP.isPrefixOf (bl s)=true)(hl:p.files.length<4):
  Calls Tryz.prog 44 #[.pointer (some ⟨b,0,none⟩),.int .i64 i,.string s] w (LineR (T2.laterR p (bl s)) m b w):=by
 have hc:T2.laterR p (bl s)=(T2.fileR p.files ((bl s).drop 5)).map fun f=>{ p with files:=p.files ++ [f] }:=by
  unfold T2.laterR;rw[h1,h2,h3,show decide (p.files.length<4)=true from decide_eq_true hl];rfl
 have h5:5<=s.size:=R8.pre_size h3;have hPw:=hP;obtain⟨nv,bv,fv,hm,hbm,k0,k1,k2,k3,k4,g0,g1,g2,n0,n1,n2,hz⟩:=hP;have hgf:=(R10.row_get g2).get;obtain⟨fa,fc,rfl,hfc,hget⟩:=hgf;have hbs:b<w.heap.size:=by omega
 have HC:=hid hc;have H1:=hid h1;have H2:=hid h2;have H3:=hid h3;have HPW:=hid hPw;have HG:=hid hget;have HG2:=hid g2;have HK4:=hid k4;have HZ:=hid hz;clear hc h1 h2 h3 g0 g1 g2 n0 n1 n2 hPw hget k0 k1 k2 k3 hz;go_enter Tryz.func44,Tryz.ntmps44;go_wp2_with fail;refine(begins_any _ _ _).mono ?_;rintro e w1 ⟨rfl,rfl⟩;rw[show bl ⟨#[110,101,101,100,115,32]⟩=T2.needsP from rfl,H1.out];go_wp2_with fail;refine(begins_any _ _ _).mono ?_;rintro e w1 ⟨rfl,rfl⟩;rw[show bl ⟨#[98,97,114,115,32]⟩=T2.barsP from rfl,H2.out];go_wp2_with fail;refine(begins_any _ _ _).mono ?_;rintro e w1 ⟨rfl,rfl⟩;rw[show bl ⟨#[102,105,108,101,32]⟩=T2.fileP from rfl,H3.out];go_wp2;go_quiet (fail);go_wp2;go_quiet (fail);go_wp2_with fail;refine(file_any _ _ (by rw[<-bl_len,bl_from,List.length_drop,bl_len];omega)).mono ?_;rintro e w1 ⟨hb,f,fok,rfl,hfo,hflen⟩;rw[bl_from] at hfo hflen;have hfl:f.path.length<1000000:=by rw[List.length_drop,bl_len] at hflen;omega
 have HFR:=hid (R10.fileR_eq p.files _ f fok hfo);have hbw:Below w.heap.size w w1:=Below.trans (below_drawn w _) (hb.mono (by simp));have hs1:=hbw.size;have j4:=((bcell hbw).1 b 4 hbs).trans HK4.out;have z4:=((bcell hbw).2 b 4 hbs).trans (HZ.out 4);have hb3:Below w.heap.size w (w1.alloc (.cells #[.string ⟨f.path.toArray⟩,.string ⟨f.content.toArray⟩] 88)):=hbw.alloc hs1 _;clear hfo hflen k4;unfold sv;have hov:=fun (x y:Sp.Str) (W:World) (hx:x.length<1000000)=>over_any ⟨x.toArray⟩ ⟨y.toArray⟩ W (by rw[<-bl_len,bl_mk];exact hx)
 have HOV:=hid hov;clear hov;have hpl:∀ k,(hk:k<p.files.length)->p.files[k].path.length<1000000:=fun k hk=>by have:=hok.paths p.files[k] (List.getElem_mem hk);omega
 have HPL:=hid hpl;clear hpl;obtain⟨w3,hw3⟩:∃ w3,w3=w1.alloc (.cells #[.string ⟨f.path.toArray⟩,.string ⟨f.content.toArray⟩] 88):=⟨_,rfl⟩
 have hf0:w3.cell? ⟨w1.heap.size,0,none⟩=some (.string ⟨f.path.toArray⟩):=by rw[hw3,World.cell?_alloc_at _ _ _ _ rfl];rfl
 have hf1:w3.cell? ⟨w1.heap.size,1,none⟩=some (.string ⟨f.content.toArray⟩):=by rw[hw3,World.cell?_alloc_at _ _ _ _ rfl];rfl
 have hs3:w3.heap.size=w1.heap.size+1:=by rw[hw3];simp
 rw[<-hw3] at hb3;have i4:=((bcell hb3).1 b 4 hbs).trans HK4.out;have y4:=((bcell hb3).2 b 4 hbs).trans (HZ.out 4);have HW3:=hid hw3;have HS3:=hid hs3;clear j4 z4;go_wp2_with fail;rw[<-HW3.out];clear hw3 hs3
 go_loopw [20,21,22,23] (fun acc i _ _ wr=>∃ (k n:Nat),k<=p.files.length/\i=.int .i64 k/\acc=.bool (fok && (p.files.take k).all (R10.chk f))/\wr=w3.drewN n) (fun _ i _ _ _=>p.files.length-(intOf i).toNat)
 case atStart=>exact⟨0,0,Nat.zero_le _,rfl,by simp,rfl⟩
 case round =>
  obtain⟨k,n,hk,rfl,rfl,hwr⟩:=hrel;have hcw:∀ a,wr.cell? a=w3.cell? a:=fun a=>by rw[hwr];rfl
  have hfw:∀ a,wr.frozen? a=w3.frozen? a:=fun a=>by rw[hwr];rfl
  have hg0:=(hcw ⟨w1.heap.size,0,none⟩).trans hf0;have hg1:=(hcw ⟨w1.heap.size,1,none⟩).trans hf1;have hg4:=(hcw ⟨b,4,none⟩).trans i4;have hgz:=(hfw ⟨b,4,none⟩).trans y4;have hbwr:Below w.heap.size w wr:=by rw[hwr];exact below_drewN hb3 n
  have HWR:=hid hwr;clear hcw hfw hf0 hf1 i4 y4 hwr
  by_cases h:k<p.files.length
  ·obtain⟨fb,fo,rfl,⟨hfb,_,_⟩,c0,c1⟩:=HG.out k h
   have d0:=(hbwr.cell (p:=⟨fb,fo+k*2,none⟩) hfb).trans c0;unfold sv at d0;clear c0 c1 HG;generalize hacc:(fok && (p.files.take k).all (R10.chk f))=acc;have HA:=hid hacc;clear hacc;go_wp2;go_quiet (first|(go_at_call 72;exact((HOV.out f.path p.files[k].path _ hfl).mono fun e w' h=>⟨h.1,_,h.2.symm⟩)));rw[bl_mk,bl_mk];go_wp2;go_quiet (first|(go_at_call 72;exact((HOV.out p.files[k].path f.path _ (HPL.out k h)).mono fun e w' h=>⟨h.1,_,h.2.symm⟩)));rw[bl_mk,bl_mk];go_wp2_with fail;have hnext:∀ (acc':Bool),acc'=(acc && R10.chk f p.files[k])->acc'=(fok && (p.files.take (k+1)).all (R10.chk f)):=fun acc' e=>by
    rw[e,<-HA.out,List.take_succ_eq_append_getElem h,List.all_append];simp[Bool.and_assoc]
   have HX:=hid hnext;clear hnext;generalize h1:Sp.over f.path p.files[k].path=o1;generalize h2:Sp.over p.files[k].path f.path=o2;have H1':=hid h1;have H2':=hid h2;clear h1 h2;have hgen:∀ N,wr.drewN N=w3.drewN (n+N):=fun N=>by rw[HWR.out,World.drewN_drewN]
   have HGEN:=hid hgen;clear hgen
   cases acc with
   | false =>
    go_quiet (fail);go_wp2;go_roundw
    case rel=>exact⟨k+1,_,h,by go_num,by rw[<-HX.out false rfl],HGEN.out _⟩
    case measure=>simp[intOf];omega
   | true =>
    cases o1 with
    | true =>
     go_quiet (fail);go_wp2;go_roundw
     case rel=>exact⟨k+1,_,h,by go_num,by rw[<-HX.out false (by unfold R10.chk;rw[H1'.out];rfl)],HGEN.out _⟩
     case measure=>simp[intOf];omega
    | false =>
     cases o2 with
     | true =>
      go_quiet (fail);go_wp2;go_roundw
      case rel=>exact⟨k+1,_,h,by go_num,by rw[<-HX.out false (by unfold R10.chk;rw[H1'.out,H2'.out];rfl)],HGEN.out _⟩
      case measure=>simp[intOf];omega
     | false =>
      go_quiet (fail);go_wp2;go_roundw
      case rel=>exact⟨k+1,_,h,by go_num,by rw[<-HX.out (f.path != p.files[k].path) (by unfold R10.chk;rw[H1'.out,H2'.out];rfl)];rfl,HGEN.out _⟩
      case measure=>simp[intOf];omega
  ·obtain rfl:k=p.files.length:=by omega
   rw[List.take_length];clear HG;generalize hacc:(fok && p.files.all (R10.chk f))=acc;have HA:=hid hacc;clear hacc;have hown4:=W3.row_keep HG2.out hbwr;have hswr:=hbwr.size;have hmr:m<=wr.heap.size:=by omega
   have hbwr2:b<wr.heap.size:=by omega
   have hfwr:w1.heap.size<wr.heap.size:=by rw[HWR.out];have:=HS3.out;simp;omega
   go_wp2_with fail
   go_cut [] (fun wx=>RPk wx m b { p with files:=p.files ++ [f] }/\FrN m b w wx)
   case first =>
    go_region_law (first
     | (refine step_app_drew app28 _ [_,_] rfl (by simp[Value.oneCell']) rfl _ _ rfl m _ _ _ rfl hown4 rfl (by omega) hmr ?_;intro g cap w6 hown6 hg6;have hb6:Below m wr w6:=Below.trans (Below.drew (Below.refl _ _)) (below_of_grown (Below.refl m _) hmr hown4.drew hg6);have hc6:=(hb6.cell (p:=⟨b,4,none⟩) (show b<m by omega)).trans hg4;have hf6:=(hb6.frozen (p:=⟨b,4,none⟩) (show b<m by omega)).trans hgz))
    all_goals
     go_wp2_with fail;go_meet;exact⟨(HPW.out.below hbwr).addFile f g cap hown6 hb6,(FrN.of_below hbwr hm).trans (FrN.trans ⟨hb6.os,hb6.tape,hb6.output,hb6.size,fun k hk _=>hb6.block k hk⟩ (FrN.set _ _ _ _ _))⟩
   case rest =>
    obtain⟨hP6,hF6⟩:=hcut;have HP6:=hid hP6;clear hP6;go_wp2;go_ret;refine⟨hF6,?_⟩
    cases acc with
    | false=>exact .inl ⟨rfl,by rw[HC.out,HFR.out,HA.out];rfl⟩
    | true=>exact .inr ⟨_,m,rfl,by rw[HC.out,HFR.out,HA.out];rfl,Nat.le_refl _,HP6.out⟩
end
section
open Go.RowKit
theorem lineR_later(m b:Nat)(p:Sp.Pk)(s:ByteArray)(w:World)(hP:RPk w m b p)(hok:PkOk p)(hs:s.size<1000000)(i:Nat)(hi:((i:Int) == 0)=false):
  Calls Tryz.prog 44 #[.pointer (some ⟨b,0,none⟩),.int .i64 i,.string s] w (LineR (T2.laterR p (bl s)) m b w):=by
 cases h1:T2.needsP.isPrefixOf (bl s) with
 | true =>
  cases hd:(((p.needs.length:Int)+(p.bars.length:Int)+(p.files.length:Int)) == 0) with
  | true=>exact lineR_needs m b p s w hP hok hs i hi h1 hd
  | false=>exact lineR_none2 m b p s w hP hok hs i hi h1 hd
 | false =>
  cases h2:T2.barsP.isPrefixOf (bl s) with
  | true =>
   cases hd:(((p.bars.length:Int)+(p.files.length:Int)) == 0) with
   | true=>exact lineR_bars m b p s w hP hok hs i hi h1 h2 hd
   | false=>exact lineR_none4 m b p s w hP hok hs i hi h1 h2 hd
  | false =>
   cases h3:T2.fileP.isPrefixOf (bl s) with
   | true =>
    by_cases hl:p.files.length<4
    ·exact lineR_file m b p s w hP hok hs i hi h1 h2 h3 hl
    ·exact lineR_none6 m b p s w hP hok hs i hi h1 h2 h3 hl
   | false=>exact lineR_none7 m b p s w hP hok hs i hi h1 h2 h3
theorem lineR_any(m b:Nat)(p:Sp.Pk)(s:ByteArray)(w:World)(hP:RPk w m b p)(hok:PkOk p)(hs:s.size<1000000)(hc:Sp.clash1 (p.files.map (·.path))=false)(i:Nat):
  Calls Tryz.prog 44 #[.pointer (some ⟨b,0,none⟩),.int .i64 i,.string s] w (LineR (Sp.line p (i == 0) (bl s)) m b w):=by
 by_cases h:i=0
 ·subst h
  rw[show((0:Nat) == 0)=true from rfl,<-T2.first_eq];exact lineR_first m b p s w hP hs
 ·rw[show(i == 0)=false from by simpa using h,<-T2.later_eq p (bl s) hc]
  exact lineR_later m b p s w hP hok hs i (by rw[beq_eq_false_iff_ne];omega)
end
section
open Go.RowKit
def ReadR(s:Sp.Str)(w:World)(e:Ending)(w':World):Prop:=
 Below w.heap.size w w'/\((∃ n,Sp.parse s=.inl n/\e=.returned (.tuple #[.agg #[.string ⟨#[]⟩,.string ⟨#[]⟩,.slice none 0 0,.slice none 0 0,.slice none 0 0],.int .i64 (n:Int)])) \/
  ∃ p nv bv fv,Sp.parse s=.inr p/\e=.returned (.tuple #[.agg #[sv p.name,sv p.ver,nv,bv,fv],.int .i64 (-1)])/\PkOk p /\
   GsOn (fun x=>w.heap.size<=x/\x<w'.heap.size) w' nv p.needs/\ChOn (fun x=>w.heap.size<=x/\x<w'.heap.size) w' bv p.bars/\FlOn (fun x=>w.heap.size<=x/\x<w'.heap.size) w' fv p.files)
theorem info30:(Tryz.prog.info? 30).map (fun i=>(i.zero,i.size,i.bytes))=some (some (.agg #[.string ⟨#[]⟩,.string ⟨#[]⟩,.slice none 0 0,.slice none 0 0,.slice none 0 0]),5,104):=by kernel_rfl
theorem readR_long(s:ByteArray)(w:World)(h:300<s.size):Calls Tryz.prog 16 #[.string s] w (ReadR (bl s) w):=by
 go_enter Tryz.func16,Tryz.ntmps16;go_wp2;refine bodyPost_ret (v:=.tuple #[.agg #[.string ⟨#[]⟩,.string ⟨#[]⟩,.slice none 0 0,.slice none 0 0,.slice none 0 0],.int .i64 0]) (by simp[results,Tryz.results16,go_sem]) rfl ?_;refine⟨(Below.refl _ _).alloc (Nat.le_refl _) _,.inl ⟨0,?_,rfl⟩⟩;unfold Sp.parse;rw[if_pos (by rw[bl_len];exact h)]
namespace R12
theorem less_lt:∀ a b:Sp.Str,Op.bytesLess a b=Sp.strLt a b
 | [],[]=>rfl
 | [],_ :: _=>rfl
 | _ :: _,[]=>rfl
 | a :: x,b :: y=>by
  unfold Op.bytesLess Sp.strLt;rw[less_lt x y]
  by_cases h1:a<b
  ·simp[h1]
  ·by_cases h2:b<a
   ·have:(a == b)=false:=by simp;intro e;subst e;exact absurd h2 (UInt8.lt_irrefl _)
    simp[h1,h2,this]
   ·have:a=b:=UInt8.le_antisymm (UInt8.not_lt.1 h2) (UInt8.not_lt.1 h1)
    simp[this]
theorem last_yes{s:ByteArray}(h:0<s.size)(hc:((s[s.size-1].toNat:Int) == 10)=true):s.extract 0 (s.size-1)=⟨(Lib.trimSuffix (bl s) [10]).toArray⟩:=by
 refine bl_inj ?_;rw[bl_to]
 show(bl s).take (s.size-1)=Lib.trimSuffix (bl s) [10]
 have e:(bl s).drop ((bl s).length-1)=[10]:=by
  rw[bl_len,List.drop_eq_getElem_cons (by rw[bl_len];omega),List.drop_eq_nil_of_le (by rw[bl_len];omega)];have:(bl s)[s.size-1]'(by rw[bl_len];omega)=s[s.size-1]:=rfl;rw[this];simp only[beq_iff_eq] at hc
  congr 1
  rw[<-UInt8.toNat_inj]
  show s[s.size-1].toNat=10
  omega
 unfold Lib.trimSuffix;have hs:Lib.hasSuffix (bl s) [10]=true:=by
  unfold Lib.hasSuffix;rw[List.isSuffixOf_iff_suffix,List.suffix_iff_eq_drop];exact e.symm
 rw[hs,if_pos rfl,bl_len];rfl
theorem last_no{s:ByteArray}(h:0<s.size)(hc:((s[s.size-1].toNat:Int) == 10)=false):s=⟨(Lib.trimSuffix (bl s) [10]).toArray⟩:=by
 refine bl_inj ?_
 show bl s=Lib.trimSuffix (bl s) [10]
 unfold Lib.trimSuffix;have hs:Lib.hasSuffix (bl s) [10]=false:=by
  rw[Bool.eq_false_iff];intro hh;unfold Lib.hasSuffix at hh;rw[List.isSuffixOf_iff_suffix,List.suffix_iff_eq_drop] at hh;have e:(bl s).drop ((bl s).length-1)=[(bl s)[s.size-1]'(by rw[bl_len];omega)]:=by
   have e0:(bl s).length-1=s.size-1:=by rw[bl_len]
   rw[e0,List.drop_eq_getElem_cons (by rw[bl_len];omega),List.drop_eq_nil_of_le (by rw[bl_len];omega)]
  have hh':[(10:UInt8)]=(bl s).drop ((bl s).length-1):=hh;rw[e] at hh';have:(bl s)[s.size-1]'(by rw[bl_len];omega)=s[s.size-1]:=rfl;rw[this] at hh';have h10:(10:UInt8)=s[s.size-1]:=(List.cons.inj hh').1;rw[<-h10] at hc
  cases hc
 rw[hs];rfl
theorem done{s:Sp.Str}{w W:World}{b r:Nat}{p:Sp.Pk}{nv bv fv:Value}(hr:w.heap.size<=r)(hrb:r<b)(hbel:Below w.heap.size w W)(g0:GsOn (fun x=>x<W.heap.size/\b<x) W nv p.needs)(g1:ChOn (fun x=>x<W.heap.size/\b<x) W bv p.bars)(g2:FlOn (fun x=>x<W.heap.size/\b<x) W fv p.files)
  (hok:PkOk p)(hp:Sp.parse s=.inr p):
  ReadR s w (.returned (.tuple #[.agg #[sv p.name,sv p.ver,nv,bv,fv],.int .i64 (-1)])) (((((W.setCell ⟨r,0,none⟩ (sv p.name)).setCell ⟨r,1,none⟩ (sv p.ver)).setCell ⟨r,2,none⟩ nv).setCell ⟨r,3,none⟩ bv).setCell ⟨r,4,none⟩ fv):=by
 generalize hF:(((((W.setCell ⟨r,0,none⟩ (sv p.name)).setCell ⟨r,1,none⟩ (sv p.ver)).setCell ⟨r,2,none⟩ nv).setCell ⟨r,3,none⟩ bv).setCell ⟨r,4,none⟩ fv)=F;have hk:∀ x,x≠r->F.heap[x]? = W.heap[x]?:=fun x hx=>by
  rw[<-hF,Below.heap_setCell _ _ _ _ hx,Below.heap_setCell _ _ _ _ hx,Below.heap_setCell _ _ _ _ hx,Below.heap_setCell _ _ _ _ hx,Below.heap_setCell _ _ _ _ hx]
 have hsz:F.heap.size=W.heap.size:=by rw[<-hF];simp
 refine⟨?_,.inr ⟨p,nv,bv,fv,hp,rfl,hok,?_,?_,?_⟩⟩
 ·rw[<-hF]
  repeat' (first|exact hbel|refine Below.setCell ?_ hr _)
 ·exact(g0.keep fun x hx=>hk x (by omega)).mono fun x hx=>by omega
 ·exact(SlOn.keep g1 fun x hx=>hk x (by omega)).mono fun x hx=>by omega
 ·exact(SlOn.keep g2 fun x hx=>hk x (by omega)).mono fun x hx=>by omega
end R12
theorem readR_short(s:ByteArray)(w:World)(h:¬300<s.size)(h0:0<s.size):Calls Tryz.prog 16 #[.string s] w (ReadR (bl s) w):=by
 generalize hc:((s[s.size-1].toNat:Int) == 10)=c;have HC:=hid hc;go_enter Tryz.func16,Tryz.ntmps16;go_upto_if 25 with(fail)
 clear hc
 go_cut [0] (fun t wx=>t=.string ⟨(Lib.trimSuffix (bl s) [10]).toArray⟩/\wx=w.alloc (.cells #[.string ⟨#[]⟩,.string ⟨#[]⟩,.slice none 0 0,.slice none 0 0,.slice none 0 0] 30))
 case first =>
  cases c with
  | true =>
   have HX:=hid (R12.last_yes h0 HC.out);go_wp2_with fail;go_meet
   case rel=>exact⟨by rw[HX.out],rfl⟩
  | false =>
   have HX:=hid (R12.last_no h0 HC.out);go_wp2_with fail;go_meet
   case rel=>exact⟨congrArg Value.string HX.out,rfl⟩
 case rest =>
  obtain⟨rfl,rfl⟩:=hcut;have htl:(Lib.trimSuffix (bl s) [10]).length<=300:=by
   have:(Lib.trimSuffix (bl s) [10]).length<=(bl s).length:=by
    unfold Lib.trimSuffix;split
    ·rw[List.length_take];omega
    ·exact Nat.le_refl _
   rw[bl_len] at this;omega
  go_wp2_with fail;refine(cutR_any _ _ _ (by rw[<-bl_len,bl_mk];omega) (by decide) (by decide)).mono ?_;rintro e w1 ⟨v,rfl,hown,hb⟩;rw[bl_mk,show bl ⟨#[10]⟩=[10] from rfl] at hown;have hv:=StrsAt.of_row hown;have hpl:=Sp.split_length (Lib.trimSuffix (bl s) [10]) [10] (by simp);have hpm:∀ x∈Lib.split (Lib.trimSuffix (bl s) [10]) [10],x.length<=300:=fun x hx=>by
   have:=Sp.split_mem _ [10] x (by simp) hx;omega
  have HPM:=hid hpm;have hparse:Sp.parse (bl s)=match Sp.lines Sp.nothing 0 (Lib.split (Lib.trimSuffix (bl s) [10]) [10]) with
   | .inl n=>.inl n
   | .inr p=>.inr { p with files:=Sp.sortF p.files }:=by
   unfold Sp.parse;rw[if_neg (by rw[bl_len];exact h)];rfl
  clear hpm;generalize hL:Lib.split (Lib.trimSuffix (bl s) [10]) [10]=L at *;obtain⟨a,cap,rfl,hcap,hget⟩:=hv.get;have HL:=hid hL.symm;have HG:=hid hget;have HPA:=hid hparse;have hbw:Below w.heap.size w w1:=Below.trans ((Below.refl _ _).alloc (Nat.le_refl _) _) (hb.mono (by simp));have hs1:w.heap.size<w1.heap.size:=by have:=hb.size;simp at this;omega
  obtain⟨hrc,hrf⟩:=bcell hb;obtain⟨b,hbe⟩:∃ b,b=w1.heap.size:=⟨_,rfl⟩
  obtain⟨w2,hw2⟩:∃ w2,w2=w1.alloc (.cells #[.string ⟨#[]⟩,.string ⟨#[]⟩,.slice none 0 0,.slice none 0 0,.slice none 0 0] 30):=⟨_,rfl⟩
  have hs2:w2.heap.size=b+1:=by rw[hw2,hbe];simp
  have hc2:∀ o,w2.cell? ⟨b,o,none⟩=(#[.string ⟨#[]⟩,.string ⟨#[]⟩,.slice none 0 0,.slice none 0 0,.slice none 0 0]:Array Value)[o]?:=fun o=>by rw[hw2,hbe,World.cell?_alloc_at _ _ _ _ rfl]
  have hP0:RPk w2 (b+1) b Sp.nothing:=⟨.slice none 0 0,.slice none 0 0,.slice none 0 0,by omega,by omega,hc2 0,hc2 1,hc2 2,hc2 3,hc2 4,⟨[],SlOn.nil _ _ _,GrpsOn.nil _ _⟩,SlOn.nil _ _ _,World.ownsRow_nil _ _ _ _,fun _=>rfl,fun _=>rfl,fun _=>rfl,fun o=>by rw[hw2,hbe];simp⟩
  have hok0:PkOk Sp.nothing:=⟨by decide,by decide,by decide,fun g hg=>(by cases hg),by decide,fun c hc=>(by cases hc),by decide,fun f hf=>(by cases hf)⟩
  have hb2:Below w1.heap.size w1 w2:=by rw[hw2];exact(Below.refl _ _).alloc (Nat.le_refl _) _
  have HW2:=hid hw2;have HBE:=hid hbe;have HS2:=hid hs2;have hres:∀ W,FrN (b+1) b w2 W->(∀ o,W.cell? ⟨w.heap.size,o,none⟩=(#[.string ⟨#[]⟩,.string ⟨#[]⟩,.slice none 0 0,.slice none 0 0,.slice none 0 0]:Array Value)[o]?)/\(∀ o,W.frozen? ⟨w.heap.size,o,none⟩=false):=fun W hW=>by
   have hblk:W.heap[w.heap.size]? = (w.alloc (.cells #[.string ⟨#[]⟩,.string ⟨#[]⟩,.slice none 0 0,.slice none 0 0,.slice none 0 0] 30)).heap[w.heap.size]?:=
    (hW.block _ (by omega) (by omega)).trans ((hb2.block _ hs1).trans (hb.block _ (by simp)))
   refine⟨fun o=>?_,fun o=>?_⟩
   ·rw[World.cell?_of_block (w:=w.alloc (.cells #[.string ⟨#[]⟩,.string ⟨#[]⟩,.slice none 0 0,.slice none 0 0,.slice none 0 0] 30)) hblk,World.cell?_alloc_at _ _ _ _ rfl]
   ·rw[World.frozen?_of_block (w:=w.alloc (.cells #[.string ⟨#[]⟩,.string ⟨#[]⟩,.slice none 0 0,.slice none 0 0,.slice none 0 0] 30)) hblk];simp
  have HRES:=hid hres;have hbelow:∀ W,FrN (b+1) b w2 W->Below w.heap.size w W:=fun W hW =>
   hbw.trans ((hb2.mono (by omega)).trans ⟨hW.os,hW.tape,hW.output,hW.size,fun x hx=>hW.block x (by omega) (by omega)⟩)
  have HBEL:=hid hbelow;clear hL hv hget hown hparse hc2 hres hrc hrf hbelow;go_wp2_with fail;rw[<-HW2.out,<-HBE.out];clear hw2 hbe hs2
  go_loopw [6,7] (fun i _ wr=>∃ (k m:Nat) (p:Sp.Pk),k<=L.length/\i=.int .i64 k/\Sp.lines Sp.nothing 0 L=Sp.lines p k (L.drop k)/\RPk wr m b p/\PkOk p/\Sp.clash1 (p.files.map (·.path))=false/\b+1<=m/\FrN (b+1) b w2 wr) (fun i _ _=>L.length-(intOf i).toNat)
  case atStart=>exact⟨0,b+1,Sp.nothing,Nat.zero_le _,rfl,rfl,hP0,hok0,rfl,Nat.le_refl _,FrN.refl _ _ _⟩
  case round =>
   obtain⟨k,m,p,hk,rfl,hlines,hP,hok,hcl,hbm,hfr⟩:=hrel;have HLI:=hid hlines;have HCL:=hid hcl;clear hlines hcl hP0 hok0
   by_cases h:k<L.length
   ·obtain⟨lb,off,rfl,hlb,hcell⟩:=HG.out k h
    have hlb2:lb<b:=by rw[HBE.out];exact hlb
    have hcell':=(hfr.cell (p:=⟨lb,off+k,none⟩) (by show lb<b+1;omega) (by show lb≠b;omega)).trans (((bcell hb2).1 lb (off+k) hlb).trans hcell);have hpiece:=HPM.out L[k] (List.getElem_mem h);have hpiece2:(⟨L[k].toArray⟩:ByteArray).size<1000000:=by rw[<-bl_len,bl_mk];omega
    have hdr:L.drop k=L[k] :: L.drop (k+1):=List.drop_eq_getElem_cons h;have HDR:=hid hdr;clear hcell HG hdr;go_wp2_with fail;refine(lineR_any m b p ⟨L[k].toArray⟩ wr hP hok hpiece2 HCL.out k).mono ?_;rintro e w3 ⟨hfr3,⟨rfl,hno⟩|⟨p',m',rfl,hyes,hmm,hP'⟩⟩
    ·rw[bl_mk] at hno
     have HNO:=hid hno;clear hno;have hfr4:FrN (b+1) b w2 w3:=hfr.trans ⟨hfr3.os,hfr3.tape,hfr3.output,hfr3.size,fun x hx hne=>hfr3.block x (by omega) hne⟩;obtain⟨hrc,hrz⟩:=HRES.out w3 hfr4;have c0:=hrc 0;have c1:=hrc 1;have c2:=hrc 2;have c3:=hrc 3;have c4:=hrc 4;have z0:=hrz 0;have z1:=hrz 1;have z2:=hrz 2;have z3:=hrz 3;have z4:=hrz 4;simp only[List.getElem?_toArray,List.getElem?_cons_zero,List.getElem?_cons_succ] at c0 c1 c2 c3 c4;clear hrc hrz;have hbel:=HBEL.out w3 hfr4;go_wp2;refine bodyPost_ret (v:=.tuple #[.agg #[.string ⟨#[]⟩,.string ⟨#[]⟩,.slice none 0 0,.slice none 0 0,.slice none 0 0],.int .i64 (k+1)]) (by simp[results,Tryz.results16,go_sem,c0,c1,c2,c3,c4]) rfl ?_;refine⟨?_,.inl ⟨k+1,?_,by rw[show(((k+1:Nat)):Int)=(k:Int)+1 from by omega]⟩⟩
     ·repeat' (first|exact hbel|refine Below.setCell ?_ (by simp) _)
     ·rw[HPA.out,HLI.out,HDR.out]
      show(match (match Sp.line p (k == 0) L[k] with|some p'=>Sp.lines p' (k+1) (L.drop (k+1))|none=>.inl (k+1)) with|.inl n=>Sum.inl n|.inr p=>.inr { p with files:=Sp.sortF p.files })=_
      rw[HNO.out]
    ·rw[bl_mk] at hyes
     have HY:=hid hyes;clear hyes;go_wp2;go_roundw
     case rel=>exact⟨k+1,m',p',h,by go_num,by rw[HLI.out,HDR.out];show(match Sp.line p (k == 0) L[k] with|some p'=>Sp.lines p' (k+1) (L.drop (k+1))|none=>.inl (k+1))=_;rw[HY.out],hP',P2.line_ok hok hpiece HY.out,T2.line_clash HY.out HCL.out,by omega,hfr.trans ⟨hfr3.os,hfr3.tape,hfr3.output,hfr3.size,fun x hx hne=>hfr3.block x (by omega) hne⟩⟩
     case measure=>simp[intOf];omega
   ·obtain rfl:k=L.length:=by omega
    have hlin:Sp.lines Sp.nothing 0 L=.inr p:=by rw[HLI.out,List.drop_length];rfl
    have HLN:=hid hlin;clear hlin HG;have hn4:=hok.files;obtain⟨nv,bv,fv,hm,hbm2,k0,k1,k2,k3,k4,g0,g1,g2,n0,n1,n2,hz⟩:=hP;obtain⟨na,nc,rfl,_⟩:=g0.get;obtain⟨ba,bc,rfl,_⟩:=g1.get;obtain⟨hrc,hrz⟩:=HRES.out wr hfr;have c0:=hrc 0;have c1:=hrc 1;have c2:=hrc 2;have c3:=hrc 3;have c4:=hrc 4;have z0:=hrz 0;have z1:=hrz 1;have z2:=hrz 2;have z3:=hrz 3;have z4:=hrz 4;simp only[List.getElem?_toArray,List.getElem?_cons_zero,List.getElem?_cons_succ] at c0 c1 c2 c3 c4;have hbel:=HBEL.out wr hfr;have hrb:w.heap.size<b:=by rw[HBE.out];exact hs1
    have G0:=hid g0;have G1:=hid g1;have G2:=hid g2;have HOK:=hid hok;unfold sv at k0 k1;clear hrc hrz g0 g1 g2 n0 n1 hz hok
    by_cases hn0:p.files=[]
    ·obtain rfl:=n2 hn0
     have hn0':p.files.length=0:=by rw[hn0];rfl
     have HN:=hid hn0;clear hn0 n2 hn0';go_wp2_with fail;refine wp_loop_rounds 1 ?_;rw[rounds_succ];go_wp2_with fail;refine bodyPost_ret (v:=.tuple #[.agg #[.string ⟨p.name.toArray⟩,.string ⟨p.ver.toArray⟩,.slice na p.needs.length nc,.slice ba p.bars.length bc,.slice none 0 0],.int .i64 (-1)]) (by simp[results,Tryz.results16,go_sem,c0,c1,c2,c3,c4]) rfl ?_;have hfl:p.files=[]:=HN.out;exact R12.done (p:=p) (Nat.le_refl _) hrb hbel (G0.out.mono fun x hx=>by omega) (SlOn.mono G1.out fun x hx=>by omega) (by rw[hfl];exact SlOn.nil _ _ _) HOK.out (by rw[HPA.out,HLN.out];show Sum.inr { p with files:=Sp.sortF p.files }=_;rw[hfl];show _=Sum.inr p;obtain⟨_,_,_,_,_⟩:=p;cases hfl;rfl)
    ·generalize wr=wA at *
     obtain⟨g,fc,rfl⟩:=row_some G2.out hn0;obtain⟨hF0,hmg,_⟩:=files_of_row G2.out;have hgs:g<wA.heap.size:=hF0.2.2;have hcap:p.files.length<=fc:=by
      rcases G2.out.2 with⟨e,_⟩|⟨g',cap2,cur,e,_,_,hle,_⟩
      ·cases e
      ·cases e;exact hle
     have hk4:∀ W,FrN wA.heap.size g wA W->W.cell? ⟨b,4,none⟩=some (.slice (some ⟨g,0,none⟩) p.files.length fc):=fun W hW=>(hW.cell (p:=⟨b,4,none⟩) (show b<wA.heap.size by omega) (show b≠g by omega)).trans k4
     have HK4:=hid hk4;generalize hl0:p.files=l0 at *;have HL0:=hid hl0;have hpos:0<l0.length:=List.length_pos_iff.2 hn0;clear hk4 n2 hl0 hn0;go_wp2_with fail
     go_loopw [8,9,10] (fun i _ _ wS=>∃ (j:Nat) (l:List Sp.Fl),1<=j/\j<=5/\j<=l0.length/\i=.int .i64 j/\l=Sp.sortF (l0.take j) ++ l0.drop j/\l.length=l0.length/\FilesAt wS g l/\FrN wA.heap.size g wA wS) (fun i _ _ _=>5-(intOf i).toNat)
     case atStart=>exact⟨1,l0,Nat.le_refl _,by omega,hpos,rfl,sort_start l0,rfl,hF0,FrN.refl _ _ _⟩
     case round =>
      obtain⟨j,l,hj1,hj5,hjl,rfl,hl,hlen,hF,hfr5⟩:=hrel;have j4:=HK4.out wr hfr5
      by_cases hlt:j<l0.length
      ·have hS:=P3.sortF_ord (l0.take j)
       have hSl:(Sp.sortF (l0.take j)).length=j:=by rw[P3.sortF_len,List.length_take];omega
       have hdrop:l0.drop j=l0[j] :: l0.drop (j+1):=List.drop_eq_getElem_cons hlt;have htake:l0.take (j+1)=l0.take j ++ [l0[j]]:=by rw[List.take_add_one,List.getElem?_eq_getElem hlt];rfl
       generalize hf:l0[j]=f at hdrop htake;generalize hr:l0.drop (j+1)=rest at hdrop;generalize hSe:Sp.sortF (l0.take j)=S at hS hSl hl;have HT:=hid htake;have HR:=hid hr;have HS:=hid hS;have HSe:=hid hSe;rw[hdrop] at hl;subst hl;clear htake hr hS hSe hdrop hf;generalize wr=wB at *;have hpos0:0<j:=hj1;go_wp2_with fail
       go_loopw [9,10] (fun k _ wI=>∃ (kk:Nat) (pre moved:List Sp.Fl),k=.int .i64 kk/\pre.length=kk/\kk<=j/\pre ++ moved=S/\(∀ y r,moved=y :: r->Sp.strLt f.path y.path=true)/\FilesAt wI g (pre ++ f :: (moved ++ rest))/\FrN wA.heap.size g wA wI) (fun k _ _=>(intOf k).toNat)
       case atStart=>exact⟨j,S,[],rfl,hSl,Nat.le_refl _,List.append_nil _,(fun y r e=>by cases e),hF,hfr5⟩
       case round =>
        obtain⟨kk,pre,moved,rfl,hpl,hkj,hpm,hmv,hF2,hfr6⟩:=hrel;have i4:=HK4.out wr hfr6;clear hF hfr5 j4
        cases kk with
        | zero =>
         obtain rfl:=List.length_eq_zero_iff.1 hpl;rw[show((0:Nat):Int)=0 from rfl];have hend:Sp.sortF (l0.take (j+1)) ++ l0.drop (j+1)=f :: (moved ++ rest):=by
          rw[HT.out,P3.sortF_snoc,HSe.out,<-hpm,P3.ins_stop (by rw[hpm];exact HS.out) hmv (.inl rfl),HR.out];simp
         have HE:=hid hend;have HF2:=hid hF2;clear hmv hend hF2 hpm hlen;go_wp2_with fail;go_quiet (fail);go_wp2_with fail;have hbq:Below wr.heap.size wr (wr.drewN nq):=below_drawn wr nq;go_roundw
         case rel=>exact⟨j+1,_,by omega,by omega,by omega,by go_num,rfl,by simp[P3.sortF_len];omega,(by rw[HE.out];exact HF2.out.below hbq),hfr6.trans (FrN.of_below hbq hfr6.size)⟩
         case measure=>simp[intOf];omega
        | succ m' =>
         obtain⟨pre',x,rfl⟩:∃ p x,pre=p ++ [x]:=⟨pre.dropLast,pre.getLast (by intro e;rw[e] at hpl;cases hpl),(List.dropLast_concat_getLast _).symm⟩
         have hpl':pre'.length=m':=by simpa using hpl
         have hLL:(pre' ++ [x]) ++ f :: (moved ++ rest)=pre' ++ x :: f :: (moved ++ rest):=by simp
         rw[hLL] at hF2;have gx:=hF2.1 m' (by simp;omega);have gf:=hF2.1 (m'+1) (by simp;omega);have ex:(pre' ++ x :: f :: (moved ++ rest))[m']'(by simp;omega)=x:=by simp[<-hpl']
         have ef:(pre' ++ x :: f :: (moved ++ rest))[m'+1]'(by simp;omega)=f:=by simp[<-hpl']
         rw[ex] at gx;rw[ef] at gf;obtain⟨gx0,gx1⟩:=gx;obtain⟨gf0,gf1⟩:=gf;have hml:m'+1<l0.length:=by omega
         rw[show(((m'+1:Nat)):Int)=(m':Int)+1 from by omega];have q1:decide ((0:Int)<(m':Int)+1)=true:=decide_eq_true (by omega);have q2:(m':Int)+1-1=m':=by omega
         have q3:IntKind.i64.wrap ((m':Int))=(m':Int):=IntWalk.i64_in _ ⟨by omega,by omega⟩;have q4:((m':Int)+1).toNat=m'+1:=by omega
         have q5:(0:Int)<=(m':Int)+1:=by omega
         have q6:(m':Int)+1<(l0.length:Int):=by omega
         have q7:(m':Int)<(l0.length:Int):=by omega
         have hgw:g<wr.heap.size:=hF2.2.2;have hz0:=hF2.2.1 (m'*2);have hz1:=hF2.2.1 (m'*2+1);have hz2:=hF2.2.1 ((m'+1)*2);have hz3:=hF2.2.1 ((m'+1)*2+1);have hbw4:b<wr.heap.size:=by have:=hfr6.size;omega
         unfold sv at gx0 gx1 gf0 gf1
         cases hlt2:Sp.strLt f.path x.path with
         | false =>
          have hbl:Op.bytesLess f.path x.path=false:=by rw[R12.less_lt,hlt2]
          have hend:Sp.sortF (l0.take (j+1)) ++ l0.drop (j+1)=(pre' ++ [x]) ++ f :: (moved ++ rest):=by
           rw[HT.out,P3.sortF_snoc,HSe.out,<-hpm,P3.ins_stop (by rw[hpm];exact HS.out) hmv (.inr ⟨pre',x,rfl,hlt2⟩),HR.out];simp
          have HE:=hid hend;have HF2:=hid hF2;clear hmv hend hF2 hpm hlen hlt2;go_wp2_with fail;go_quiet (fail);go_wp2_with fail;have hbq:Below wr.heap.size wr (wr.drewN nq):=below_drawn wr nq;exact⟨⟨j+1,_,by omega,by omega,by omega,by go_num,rfl,by simp[P3.sortF_len];omega,(by rw[HE.out,hLL];exact HF2.out.below hbq),hfr6.trans (FrN.of_below hbq hfr6.size)⟩,by simp[intOf];omega⟩
         | true =>
          have hbl:Op.bytesLess f.path x.path=true:=by rw[R12.less_lt,hlt2]
          have hmv':∀ (y:Sp.Fl) (r:List Sp.Fl),x :: moved=y :: r->Sp.strLt f.path y.path=true:=by
           intro y r e;cases e;exact hlt2
          have HMV:=hid hmv';have HF2:=hid hF2;clear hF2 hmv hmv' hlt2;go_wp2_with fail;go_quiet (fail);have hbq:Below wr.heap.size wr (wr.drewN nq):=below_drawn wr nq;have hFq:=HF2.out.below hbq;have hfrq:FrN wA.heap.size g wA (wr.drewN nq):=hfr6.trans (FrN.of_below hbq hfr6.size);have t0:(wr.drewN nq).cell? ⟨g,m'*2,none⟩=some (.string ⟨x.path.toArray⟩):=gx0;have t1:(wr.drewN nq).cell? ⟨g,m'*2+1,none⟩=some (.string ⟨x.content.toArray⟩):=gx1;have t2:(wr.drewN nq).cell? ⟨g,(m'+1)*2,none⟩=some (.string ⟨f.path.toArray⟩):=gf0;have t3:(wr.drewN nq).cell? ⟨g,(m'+1)*2+1,none⟩=some (.string ⟨f.content.toArray⟩):=gf1;have t4:(wr.drewN nq).cell? ⟨b,4,none⟩=some (.slice (some ⟨g,0,none⟩) l0.length fc):=i4;have u0:(wr.drewN nq).frozen? ⟨g,m'*2,none⟩=false:=hz0;have u1:(wr.drewN nq).frozen? ⟨g,m'*2+1,none⟩=false:=hz1;have u2:(wr.drewN nq).frozen? ⟨g,(m'+1)*2,none⟩=false:=hz2;have u3:(wr.drewN nq).frozen? ⟨g,(m'+1)*2+1,none⟩=false:=hz3;have v0:g<(wr.drewN nq).heap.size:=hgw;have v1:b<(wr.drewN nq).heap.size:=hbw4;clear gx0 gx1 gf0 gf1 i4 hz0 hz1 hz2 hz3 hgw hbw4 HF2 hbq;generalize wr.drewN nq=wq at *;have HFQ:=hid hFq;clear hFq;go_wp2_with fail;go_region;go_wp2_with fail;have hsw:=files_swap (A:=pre') (x:=x) (f:=f) (B:=moved ++ rest) HFQ.out hpl';have hsA:=hfrq.size;refine⟨⟨m',pre',x :: moved,rfl,hpl',by omega,by rw[<-hpm];simp,HMV.out,hsw.1.below (Below.drew ((Below.refl _ _).alloc (Nat.le_refl _) _)),(hfrq.trans (hsw.2 _)).trans (FrN.of_below (Below.drew ((Below.refl _ _).alloc (Nat.le_refl _) _)) (by simp;omega))⟩,by simp[intOf]⟩
      ·have hdone:Sp.sortF (l0.take j) ++ l0.drop j=Sp.sortF l0:=by
        rw[List.take_of_length_le (by omega),List.drop_eq_nil_of_le (by omega),List.append_nil]
       rw[hl,hdone] at hF;clear hl;have hbg:b≠g:=by omega
       have hrg:w.heap.size≠g:=by omega
       have hbA:b<wA.heap.size:=by omega
       have e0:=(hfr5.cell (p:=⟨b,0,none⟩) hbA hbg).trans k0;have e1:=(hfr5.cell (p:=⟨b,1,none⟩) hbA hbg).trans k1;have e2:=(hfr5.cell (p:=⟨b,2,none⟩) hbA hbg).trans k2;have e3:=(hfr5.cell (p:=⟨b,3,none⟩) hbA hbg).trans k3;have hfr7:FrN (b+1) b w2 wr:=hfr.trans ⟨hfr5.os,hfr5.tape,hfr5.output,hfr5.size,fun x hx hne=>hfr5.block x (by omega) (by omega)⟩;obtain⟨hrc,hrz⟩:=HRES.out wr hfr7;have d0:=hrc 0;have d1:=hrc 1;have d2:=hrc 2;have d3:=hrc 3;have d4:=hrc 4;have y0:=hrz 0;have y1:=hrz 1;have y2:=hrz 2;have y3:=hrz 3;have y4:=hrz 4;simp only[List.getElem?_toArray,List.getElem?_cons_zero,List.getElem?_cons_succ] at d0 d1 d2 d3 d4;have hbel7:=HBEL.out wr hfr7;clear hrc hrz k0 k1 k2 k3 k4 c0 c1 c2 c3 c4 z0 z1 z2 z3 z4 hbel;have HF:=hid hF;clear hF;go_wp2_with fail;refine bodyPost_ret (v:=.tuple #[.agg #[.string ⟨p.name.toArray⟩,.string ⟨p.ver.toArray⟩,.slice na p.needs.length nc,.slice ba p.bars.length bc,.slice (some ⟨g,0,none⟩) l0.length fc],.int .i64 (-1)]) (by simp[results,Tryz.results16,go_sem,d0,d1,d2,d3,d4]) rfl ?_;have hgA:∀ x,x<m/\b<x->wr.heap[x]? = wA.heap[x]?:=fun x hx=>hfr5.block x (by omega) (by omega)
       have hsz5:=hfr5.size;have hfo:=FilesAt.flOn (m:=m) (cap:=fc) HF.out hmg (by rw[P3.sortF_len];exact hcap);rw[P3.sortF_len] at hfo;exact R12.done (p:={ p with files:=Sp.sortF l0 }) (Nat.le_refl _) hrb hbel7 ((G0.out.keep hgA).mono fun x hx=>by omega) ((SlOn.keep G1.out hgA).mono fun x hx=>by omega) (hfo.mono fun x hx=>by omega)
        (by have:=sorted_ok HOK.out;rw[HL0.out] at this;exact this) (by rw[HPA.out,HLN.out];show Sum.inr { p with files:=Sp.sortF p.files }=_;rw[HL0.out])
end
section
open Go.RowKit
theorem readR_empty(s:ByteArray)(w:World)(h0:¬0<s.size):Calls Tryz.prog 16 #[.string s] w (ReadR (bl s) w):=by
 have hs:bl s=[]:=List.length_eq_zero_iff.1 (by rw[bl_len];omega);have hz0:s.size<10:=by omega
 have HS:=hid hs;clear hs;go_enter Tryz.func16,Tryz.ntmps16;go_wp2_with fail;refine(cutR_any s _ _ (by omega) (by decide) (by decide)).mono ?_;rintro e w1 ⟨v,rfl,hown,hb⟩;rw[show bl ⟨#[10]⟩=[10] from rfl,HS.out,show Lib.split [] [10]=[[]] from rfl] at hown;obtain⟨lb,off,cap,rfl,hcap,hbb,c0⟩:=R3.strs1 (StrsAt.of_row hown);have hbw:Below w.heap.size w w1:=Below.trans ((Below.refl _ _).alloc (Nat.le_refl _) _) (hb.mono (by simp));have hs1:w.heap.size<w1.heap.size:=by have:=hb.size;simp at this;omega
 obtain⟨b,hbe⟩:∃ b,b=w1.heap.size:=⟨_,rfl⟩
 obtain⟨w2,hw2⟩:∃ w2,w2=w1.alloc (.cells #[.string ⟨#[]⟩,.string ⟨#[]⟩,.slice none 0 0,.slice none 0 0,.slice none 0 0] 30):=⟨_,rfl⟩
 have hs2:w2.heap.size=b+1:=by rw[hw2,hbe];simp
 have hc2:∀ o,w2.cell? ⟨b,o,none⟩=(#[.string ⟨#[]⟩,.string ⟨#[]⟩,.slice none 0 0,.slice none 0 0,.slice none 0 0]:Array Value)[o]?:=fun o=>by rw[hw2,hbe,World.cell?_alloc_at _ _ _ _ rfl]
 have hP0:RPk w2 (b+1) b Sp.nothing:=⟨.slice none 0 0,.slice none 0 0,.slice none 0 0,by omega,by omega,hc2 0,hc2 1,hc2 2,hc2 3,hc2 4,⟨[],SlOn.nil _ _ _,GrpsOn.nil _ _⟩,SlOn.nil _ _ _,World.ownsRow_nil _ _ _ _,fun _=>rfl,fun _=>rfl,fun _=>rfl,fun o=>by rw[hw2,hbe];simp⟩
 have hok0:PkOk Sp.nothing:=⟨by decide,by decide,by decide,fun g hg=>(by cases hg),by decide,fun c hc=>(by cases hc),by decide,fun f hf=>(by cases hf)⟩
 have hb2:Below w1.heap.size w1 w2:=by rw[hw2];exact(Below.refl _ _).alloc (Nat.le_refl _) _
 have hcl2:=(hb2.cell (p:=⟨lb,off,none⟩) hbb).trans c0;have hres:∀ W,FrN (b+1) b w2 W->(∀ o,W.cell? ⟨w.heap.size,o,none⟩=(#[.string ⟨#[]⟩,.string ⟨#[]⟩,.slice none 0 0,.slice none 0 0,.slice none 0 0]:Array Value)[o]?)/\(∀ o,W.frozen? ⟨w.heap.size,o,none⟩=false):=fun W hW=>by
  have hblk:W.heap[w.heap.size]? = (w.alloc (.cells #[.string ⟨#[]⟩,.string ⟨#[]⟩,.slice none 0 0,.slice none 0 0,.slice none 0 0] 30)).heap[w.heap.size]?:=
   (hW.block _ (by omega) (by omega)).trans ((hb2.block _ hs1).trans (hb.block _ (by simp)))
  refine⟨fun o=>?_,fun o=>?_⟩
  ·rw[World.cell?_of_block (w:=w.alloc (.cells #[.string ⟨#[]⟩,.string ⟨#[]⟩,.slice none 0 0,.slice none 0 0,.slice none 0 0] 30)) hblk,World.cell?_alloc_at _ _ _ _ rfl]
  ·rw[World.frozen?_of_block (w:=w.alloc (.cells #[.string ⟨#[]⟩,.string ⟨#[]⟩,.slice none 0 0,.slice none 0 0,.slice none 0 0] 30)) hblk];simp
 have hbelow:∀ W,FrN (b+1) b w2 W->Below w.heap.size w W:=fun W hW =>
  hbw.trans ((hb2.mono (by omega)).trans ⟨hW.os,hW.tape,hW.output,hW.size,fun x hx=>hW.block x (by omega) (by omega)⟩)
 have HBEL:=hid hbelow;have HRES:=hid hres;have HW2:=hid hw2;have HBE:=hid hbe;clear hown hc2 hres hbelow c0;simp only[List.length_nil,Nat.zero_add];go_wp2_with fail;rw[<-HW2.out,<-HBE.out];clear hw2 hbe hs2;refine wp_loop_rounds 1 ?_;rw[rounds_succ];go_wp2_with fail;refine(lineR_any (b+1) b Sp.nothing _ w2 hP0 hok0 (by decide) rfl 0).mono ?_;rintro e w3 ⟨hfr3,⟨rfl,_⟩|⟨p',m',rfl,hyes,_⟩⟩
 ·obtain⟨hrc,hrz⟩:=HRES.out w3 hfr3
  have c0:=hrc 0;have c1:=hrc 1;have c2:=hrc 2;have c3:=hrc 3;have c4:=hrc 4;have z0:=hrz 0;have z1:=hrz 1;have z2:=hrz 2;have z3:=hrz 3;have z4:=hrz 4;simp only[List.getElem?_toArray,List.getElem?_cons_zero,List.getElem?_cons_succ] at c0 c1 c2 c3 c4;have hbel:=HBEL.out w3 hfr3;clear hrc hrz;go_wp2;refine bodyPost_ret (v:=.tuple #[.agg #[.string ⟨#[]⟩,.string ⟨#[]⟩,.slice none 0 0,.slice none 0 0,.slice none 0 0],.int .i64 1]) (by simp[results,Tryz.results16,go_sem,c0,c1,c2,c3,c4]) rfl ?_;refine⟨?_,.inl ⟨1,by rw[HS.out];rfl,rfl⟩⟩
  repeat' (first|exact hbel|refine Below.setCell ?_ (by simp) _)
 ·exfalso
  cases hyes
theorem readR_any(s:ByteArray)(w:World):Calls Tryz.prog 16 #[.string s] w (ReadR (bl s) w):=by
 by_cases h:300<s.size
 ·exact readR_long s w h
 ·by_cases h0:0<s.size
  ·exact readR_short s w h h0
  ·exact readR_empty s w h0
end
section
open Go.RowKit
namespace Z9
open Sp (Str Pk)
theorem waits_self(T:List Pk)(p:Pk):Sp.waitsFor T p p=false:=by
 unfold Sp.waitsFor;rw[List.any_eq_false];intro g _
 cases Sp.any1 g [p] <;> simp
theorem filter_del:∀ {L:List Pk},L.Pairwise (fun p q=>p.name≠q.name)->∀ {k:Nat} (h:k<L.length),L.filter (fun p=>p.name != L[k].name)=L.take k ++ L.drop (k+1)
 | [],_,k,h=>by simp at h
 | p :: r,ha,0,h=>by
  obtain⟨h1,_⟩:=List.pairwise_cons.1 ha;rw[List.filter_cons_of_neg (by simp)];simp only[List.getElem_cons_zero,List.take_zero,List.nil_append,List.drop_succ_cons,List.drop_zero];rw[List.filter_eq_self];intro q hq
  simpa using fun e=>h1 q hq e.symm
 | p :: r,ha,k+1,h=>by
  obtain⟨h1,h2⟩:=List.pairwise_cons.1 ha;have hk:k<r.length:=by simpa using h
  simp only[List.getElem_cons_succ,List.take_succ_cons,List.drop_succ_cons,List.cons_append];rw[List.filter_cons_of_pos (by simpa using h1 r[k] (List.getElem_mem hk)),filter_del h2 hk]
def next(T L:List Pk):Str:=Sp.least ((Sp.free T L).map (·.name))
theorem order_stop{T L:List Pk}(h:next T L=[])(j:Nat):Sp.orderN T j L=([],L):=by
 cases j with
 | zero=>rfl
 | succ j =>
  unfold Sp.orderN;have:(Sp.least ((Sp.free T L).map (·.name))).isEmpty=true:=by
   show(next T L).isEmpty=true
   rw[h];rfl
  rw[if_pos this]
theorem order_next{T L:List Pk}(h:next T L≠[])(j:Nat):Sp.orderN T (j+1) L=(next T L :: (Sp.orderN T j (L.filter fun p=>p.name != next T L)).1,(Sp.orderN T j (L.filter fun p=>p.name != next T L)).2):=by
 conv=>lhs;unfold Sp.orderN
 have:¬(Sp.least ((Sp.free T L).map (·.name))).isEmpty=true:=by
  intro e;exact h (List.isEmpty_iff.1 e)
 rw[if_neg this];rfl
def Far(T F:List Pk)(done:List Str)(j:Nat)(L:List Pk):Prop:=Sp.orderN T F.length F=(done ++ (Sp.orderN T j L).1,(Sp.orderN T j L).2)/\L.length<=j
theorem far_start(T F:List Pk):Far T F [] F.length F:=⟨rfl,Nat.le_refl _⟩
theorem far_end{T F:List Pk}{done:List Str}{j:Nat}{L:List Pk}(h:Far T F done j L)(hn:next T L=[]):Sp.order T F=(done,L):=by
 unfold Sp.order;rw[h.1,order_stop hn];simp
theorem next_mem{T L:List Pk}(hn:∀ p∈L,p.name≠[])(h:next T L≠[]):∃ k,∃ hk:k<L.length,L[k].name=next T L:=by
 have hne:=V5.names_ne hn (fun p=>!L.any (Sp.waitsFor T p));have hf:(Sp.free T L).map (·.name)≠[]:=fun e=>h (by unfold next;rw[e];rfl)
 obtain⟨hm,_,_⟩:=V5.least_mem hne hf;obtain⟨p,hp,he⟩:=List.mem_map.1 hm;obtain⟨k,hk,hpk⟩:=List.mem_iff_getElem.1 (List.mem_filter.1 hp).1;exact⟨k,hk,by rw[hpk];exact he⟩
theorem far_next{T F:List Pk}{done:List Str}{j:Nat}{L:List Pk}(h:Far T F done j L)(hn:next T L≠[])(ha:L.Pairwise fun p q=>p.name≠q.name){k:Nat}(hk:k<L.length)(he:L[k].name=next T L):
  ∃ j',j=j'+1/\Far T F (done ++ [next T L]) j' (L.take k ++ L.drop (k+1)):=by
 cases j with
 | zero=>have:=h.2;omega
 | succ j =>
  refine⟨j,rfl,?_,?_⟩
  ·have hfd:=filter_del ha hk
   rw[he] at hfd;rw[h.1,order_next hn,hfd];simp
  ·have:=h.2
   rw[List.length_append,List.length_take,List.length_drop];omega
theorem find_at{L:List Pk}(ha:L.Pairwise fun p q=>p.name≠q.name){k:Nat}(hk:k<L.length):Z4.findI L L[k].name=k:=by
 refine Z4.find_hit hk (fun p hp=>?_) (by simp);rw[List.mem_take_iff_getElem] at hp;obtain⟨j,hj,rfl⟩:=hp;rw[List.pairwise_iff_getElem] at ha;have:=ha j k (by omega) hk (by omega)
 simpa using this
end Z9
theorem app111:AppTy 111 30 5 104:=AppTy.of Tryz.underlying111 info30 rfl (by decide) (by decide)
namespace Z9
def row(X:List PV):List Value:=(X.map PV.cells).flatten
theorem row_len(X:List PV):(row X).length=X.length*5:=by
 unfold row
 induction X with
 | nil=>rfl
 | cons x r ih=>rw[List.map_cons,List.flatten_cons,List.length_append,ih,List.length_cons];show 5+_=_;omega
theorem row_take:∀ (X:List PV) (k:Nat),row (X.take k)=(row X).take (k*5)
 | [],k=>by simp[row]
 | x :: r,0=>by simp[row]
 | x :: r,k+1=>by
  rw[List.take_succ_cons]
  show x.cells ++ row (r.take k)=(x.cells ++ row r).take ((k+1)*5)
  rw[row_take r k,List.take_append,List.take_of_length_le (l:=x.cells) (by show 5<=_;omega)]
  congr 2
  show k*5=(k+1)*5-5
  omega
theorem row_drop:∀ (X:List PV) (k:Nat),row (X.drop k)=(row X).drop (k*5)
 | [],k=>by simp[row]
 | x :: r,0=>by simp[row]
 | x :: r,k+1=>by
  rw[List.drop_succ_cons]
  show row (r.drop k)=(x.cells ++ row r).drop ((k+1)*5)
  rw[row_drop r k,List.drop_append,List.drop_of_length_le (l:=x.cells) (by show 5<=_;omega),List.nil_append]
  congr 1
  show k*5=(k+1)*5-5
  omega
theorem row_app(X Y:List PV):row (X ++ Y)=row X ++ row Y:=by unfold row;rw[List.map_append,List.flatten_append]
theorem row_one(X:List PV)(h:∀ x∈X,x.nv.oneCell'=true/\x.bv.oneCell'=true/\x.fv.oneCell'=true):∀ u∈row X,u.oneCell'=true:=by
 intro u hu;unfold row at hu;rw[List.mem_flatten] at hu;obtain⟨l,hl,hu⟩:=hu;obtain⟨x,hx,rfl⟩:=List.mem_map.1 hl;obtain⟨h1,h2,h3⟩:=h x hx;unfold PV.cells at hu;simp only[List.mem_cons,List.not_mem_nil,or_false] at hu
 rcases hu with rfl|rfl|rfl|rfl|rfl
 ·rfl
 ·rfl
 ·exact h1
 ·exact h2
 ·exact h3
theorem slice_cell{S:Nat->Prop}{w:World}{sz:Nat}{v:Value}{xs:List (List Value)}(h:SlOn S w sz v xs):v.oneCell'=true:=by
 obtain⟨a,cap,rfl,_⟩:=h;rfl
theorem on_one{S:Nat->Prop}{w:World}{X:List PV}(h:∀ x∈X,x.On S w):∀ x∈X,x.nv.oneCell'=true/\x.bv.oneCell'=true/\x.fv.oneCell'=true:=by
 intro x hx;have:=h x hx;obtain⟨vs,hv,_⟩:=this.needs;exact⟨slice_cell hv,slice_cell this.bars,slice_cell this.files⟩
theorem cells_row{S:Nat->Prop}{w:World}{b off n cap:Nat}{X:List PV}(h:PksOn S w (.slice (some ⟨b,off,none⟩) n cap) X):∀ (j:Nat) u,(row X)[j]? = some u->w.cell? ((⟨b,off,none⟩:Addr).add j)=some u:=by
 intro j u hj;obtain⟨a,c,e,_,hx⟩:=h.1;injection e with e1 _ _
 subst e1;have hlt:j<X.length*5:=by
  have:=(List.getElem?_eq_some_iff.1 hj).1
  rwa [row_len] at this
 have hk:j / 5<X.length:=by omega
 obtain⟨b',o',ea,hS,hu⟩:=hx (j / 5) (PV.cells X[j / 5]) (by rw[List.getElem?_map,List.getElem?_eq_getElem hk];rfl);injection ea with ea
 injection ea with ea1 ea2 _
 subst ea1 ea2;have key:∀ (X:List PV) (j:Nat),j<X.length*5->(row X)[j]? = (X[j / 5]?).bind fun x=>x.cells[j % 5]?:=by
  intro X
  induction X with
  | nil=>intro j h;simp at h
  | cons x r ih =>
   intro j h;have e:row (x :: r)=x.cells ++ row r:=rfl;rw[e]
   by_cases hj:j<5
   ·rw[List.getElem?_append_left (by exact hj),Nat.div_eq_of_lt hj,Nat.mod_eq_of_lt hj];rfl
   ·rw[List.getElem?_append_right (by show 5<=j;omega)]
    show(row r)[j-5]? = _
    rw[ih (j-5) (by rw[List.length_cons] at h;omega)];have e1:j / 5=(j-5) / 5+1:=by omega
    have e2:j % 5=(j-5) % 5:=by omega
    rw[e1,e2,List.getElem?_cons_succ]
 rw[key X j hlt,List.getElem?_eq_getElem hk] at hj;have:=hu (j % 5) u hj;rw[DK.addr_add,<-this]
 congr 2
 omega
theorem of_row{S:Nat->Prop}{w:World}{B:Nat}{v:Value}{X:List PV}(h:w.ownsRow B 30 5 v X.length (row X))(hX:∀ x∈X,x.On S w):PksOn (fun b=>S b\/(b<w.heap.size/\B<=b)) w v X:=by
 refine⟨?_,fun x hx=>(hX x hx).mono fun b hb=>.inl hb⟩;have hs:=sl_of_row (w:=w) (B:=B) (sz:=5) (e:=30) (v:=v) (xs:=X.map PV.cells) (fun y hy=>by obtain⟨x,_,rfl⟩:=List.mem_map.1 hy;rfl) (by rw[List.length_map];exact h);exact SlOn.mono hs fun b hb=>.inr ⟨hb.1,hb.2.1⟩
theorem cells_cut{S:Nat->Prop}{w:World}{b off n cap:Nat}{X:List PV}(h:PksOn S w (.slice (some ⟨b,off,none⟩) n cap) X)(k:Nat):
  (∀ a,some (⟨b,off,none⟩:Addr)=some a->∀ (j:Nat) u,(row (X.take k))[j]? = some u->w.cell? (a.add j)=some u)/\∀ (j:Nat) u,(row (X.drop (k+1)))[j]? = some u->w.cell? ((⟨b,off+(k+1)*5,none⟩:Addr).add j)=some u:=by
 refine⟨fun a ha j u hj=>?_,fun j u hj=>?_⟩
 ·injection ha with ha
  subst ha;rw[row_take,List.getElem?_take] at hj
  split at hj
  ·exact cells_row h j u hj
  ·cases hj
 ·rw[row_drop,List.getElem?_drop] at hj
  have:=cells_row h _ u hj;rw[DK.addr_add] at this ⊢;rw[Nat.add_assoc];exact this
theorem ahead{S:Nat->Prop}{w:World}{a:Option Addr}{n cap:Nat}{X:List PV}(h:PksOn S w (.slice a n cap) X){k:Nat}(hk:k<=n):PksOn S w (.slice a k k) (X.take k):=by
 obtain⟨⟨a',c',e,hc,hx⟩,hon⟩:=h;injection e with e1 e2 e3
 subst e1 e2 e3;rw[List.length_map] at hk;refine⟨⟨a,k,by rw[List.length_map,List.length_take,Nat.min_eq_left hk],by rw[List.length_map,List.length_take];omega,fun i x hi=>hx i x ?_⟩,fun x hx'=>hon x (List.mem_of_mem_take hx')⟩;rw[List.map_take,List.getElem?_take] at hi
 split at hi
 ·exact hi
 ·cases hi
end Z9
end
section
open Go.RowKit
namespace Z10
def slen:Value->Nat
 | .slice _ n _=>n
 | _=>0
structure St(B:Nat)(T F:List Sp.Pk)(w:World)(v6 v7:Value)(done:List Sp.Str)(j:Nat)(Y:List PV):Prop where
 out:w.ownsRow B 9 1 v6 done.length (done.map sv)
 left:PksOn (fun b=>b<w.heap.size/\v6.ownBlock≠some b) w v7 Y
 far:Z9.Far T F done j (pk Y)
 apart:(pk Y).Pairwise fun p q=>p.name≠q.name
 named:∀ p∈pk Y,p.name≠[]
 few:done.length+Y.length<=10000
 shape:v7=.slice none 0 0\/∃ b off cap,v7=.slice (some ⟨b,off,none⟩) Y.length cap
theorem St.below{B:Nat}{T F:List Sp.Pk}{w w':World}{v6 v7:Value}{done:List Sp.Str}{j:Nat}{Y:List PV}(h:St B T F w v6 v7 done j Y)(hb:Below w.heap.size w w'):St B T F w' v6 v7 done j Y:=
 ⟨W3.row_keep h.out hb,(h.left.keep fun b hb'=>hb.block b hb'.1).mono fun _ hb'=>⟨Nat.lt_of_lt_of_le hb'.1 hb.size,hb'.2⟩,h.far,h.apart,h.named,h.few,h.shape⟩
end Z10
theorem orderR_any{S:Nat->Prop}(fv tv:Value)(F T:List PV)(w:World)(hF:PksOn S w fv F)(hT:PksOn S w tv T)(hS:∀ b,S b->b<w.heap.size)(hFl:F.length<=10000)(hTl:T.length<=1099511627776)
  (hsh:fv=.slice none 0 0\/∃ g cap,fv=.slice (some ⟨g,0,none⟩) F.length cap)(ha:(pk F).Pairwise fun p q=>p.name≠q.name)(hne:∀ p∈pk F,p.name≠[]):
  Calls Tryz.prog 147 #[fv,tv] w fun e w'=>∃ v1 v2 Y,e=.returned (.tuple #[v1,v2])/\w'.ownsRow w.heap.size 9 1 v1 (Sp.order (pk T) (pk F)).1.length ((Sp.order (pk T) (pk F)).1.map sv)/\PksOn (fun b=>b<w'.heap.size) w' v2 Y/\pk Y=(Sp.order (pk T) (pk F)).2/\Below w.heap.size w w':=by
 obtain⟨ti,hi0,hz0,hz1,hz2⟩:=info_parts info30;have HI0:=hid hi0;have HZ0:=hid hz0;have HZ1:=hid hz1;have HZ2:=hid hz2;have HT:=hid (fun W (hW:Below w.heap.size w W)=>hT.keep fun b hb=>hW.block b (hS b hb));have HS:=hid hS;have HONE:=hid (Z9.row_one F (Z9.on_one hF.2));have HFON:=hid (fun W (hW:Below w.heap.size w W) x hx=>(hF.2 x hx).keep fun b hb=>hW.block b (hS b hb));have start:∀ v7 w7,Below w.heap.size w w7->w7.ownsRow w.heap.size 30 5 v7 F.length (Z9.row F)->Z10.St w.heap.size (pk T) (pk F) w7 (.slice none 0 0) v7 [] (pk F).length F:=fun v7 w7 hb ho=>by
  refine⟨World.ownsRow_nil _ _ _ _,(Z9.of_row ho (HFON.out w7 hb)).mono fun b hb'=>⟨?_,fun e=>by cases e⟩,Z9.far_start _ _,ha,hne,by simpa using hFl,?_⟩
  ·rcases hb' with h|h
   ·have:=hS b h;have:=hb.size;omega
   ·exact h.1
  ·rcases ho.2 with⟨h1,h2⟩|⟨g,cap,cur,h1,_⟩
   ·exact .inl h1
   ·exact .inr ⟨g,0,cap,h1⟩
 have HST:=hid start;clear hi0 hz0 hz1 hz2 hT hS ha hne start;go_enter Tryz.func147,Tryz.ntmps147;go_upto_region 2 with(fail)
 go_cut [7] from 14 to 15 (fun v7 wx=>Z10.St w.heap.size (pk T) (pk F) wx (.slice none 0 0) v7 [] (pk F).length F/\Below w.heap.size w wx)
 case first =>
  rcases hsh with rfl|⟨g,cap,rfl⟩
  ·have hF0:F=[]:=by
    obtain⟨a,c,e,_⟩:=hF.get;injection e with _ e2 _
    exact List.length_eq_zero_iff.1 e2.symm
   subst hF0;have hst:=HST.out (.slice none 0 0) w (Below.refl _ _) (World.ownsRow_nil _ _ _ _);have HSTT:=hid hst;clear hst hF;go_wp2_with (at_builtin;refine wpList_append_own_none rfl (.const (.slice none 0 0)) (.tmp 14) 111 rfl w.heap.size 30 ti 5 Tryz.underlying111 HI0.out _ 0 [] rfl (World.ownsRow_nil _ _ _ _) rfl ?_);go_meet
   case rel=>exact⟨HSTT.out,Below.refl _ _⟩
  ·have HC:=hid (Z9.cells_row hF)
   clear hF;go_wp2_with (at_builtin;refine wpList_append_own w rfl (.const (.slice none 0 0)) (.tmp 14) 111 rfl w.heap.size 30 ti _ 5 104 Tryz.underlying111 HI0.out HZ0.out HZ1.out HZ2.out rfl (by decide) _ 0 [] rfl (World.ownsRow_nil _ _ _ _) ⟨g,0,none⟩ F.length cap (Z9.row F) rfl (Z9.row_len F) HC.out HONE.out (by unfold maxLen;omega) (by omega) (Nat.le_refl _) ?_;intro v7 w7 hown7 hgrow7 _);have hb7:Below w.heap.size w w7:=(Below.refl _ _).grown hgrow7 (Nat.le_refl _) fun g hg=>by cases hg
   simp only[Nat.zero_add,List.nil_append] at hown7;go_meet
   case rel=>exact⟨HST.out _ _ hb7 hown7,hb7⟩
 case rest =>
  obtain⟨hst,hbc⟩:=hcut;have HST1:=hid hst;have HBC:=hid hbc;clear hst hbc hF hsh HONE HFON HST;go_wp2_with fail
  go_loopw [6,7] (fun v6 v7 wr=>∃ done j Y,Z10.St w.heap.size (pk T) (pk F) wr v6 v7 done j Y/\Below w.heap.size w wr) (fun _ v7 _=>Z10.slen v7+1)
  case atStart=>exact⟨[],_,F,HST1.out,HBC.out⟩
  case round =>
   obtain⟨done,fuel,Y,hst,hbel⟩:=hrel;have HST2:=hid hst;have HBL:=hid hbel;have hzr:=hbel.size;have hY:Y.length<=10000:=by have:=hst.few;omega
   obtain⟨oa,oc,rfl⟩:=W3.row_slice hst.out;obtain⟨la,lc,rfl,hlc,hlg⟩:=hst.left.get;have HLG:=hid hlg;have HL:=hid (pk_len Y);obtain⟨N,hN⟩:∃ N,N=Z9.next (pk T) (pk Y):=⟨_,rfl⟩
   have HN:=hid hN;clear hst hbel hlg hN;generalize wr=wo at *;go_wp2_with fail
   go_loopw [8,9] (fun n i wi=>∃ k:Nat,k<=Y.length/\i=.int .i64 k/\n=sv (Z5.upTo (fun p=>!(pk Y).any (Sp.waitsFor (pk T) p)) (pk Y) k)/\Below wo.heap.size wo wi) (fun _ i _=>Y.length-(intOf i).toNat)
   case atStart=>exact⟨0,Nat.zero_le _,rfl,rfl,Below.refl _ _⟩
   case round =>
    obtain⟨i,hi,rfl,rfl,hbi⟩:=hrel;have HBI:=hid hbi;have hzi:=hbi.size;clear hbi
    by_cases hil:i<Y.length
    ·obtain⟨b,off,rfl,hSb,x0,x1,x2,x3,x4⟩:=HLG.out i hil
     have hbl:b<wo.heap.size:=hSb.1;have hip:i<(pk Y).length:=by rw[HL.out];exact hil
     have hie:(pk Y)[i]=Y[i].p:=pk_get hip hil;have hnx:=Z5.upTo_next (fun p=>!(pk Y).any (Sp.waitsFor (pk T) p)) (pk Y) hip;rw[hie] at hnx;have hon:Y[i].On (fun b=>b<wo.heap.size/\(Value.slice oa done.length oc).ownBlock≠some b) wo:=HST2.out.left.2 _ (List.getElem_mem hil);obtain⟨y,hy⟩:∃ y,y=Y[i]:=⟨_,rfl⟩
     rw[<-hy] at x0 x1 x2 x3 x4 hnx hon;have HNX:=hid hnx;have HON:=hid hon;have HIE:=hid (show(pk Y)[i]=y.p by rw[hie,hy]);obtain⟨n0,hn0⟩:∃ n0,n0=Z5.upTo (fun p=>!(pk Y).any (Sp.waitsFor (pk T) p)) (pk Y) i:=⟨_,rfl⟩
     rw[<-hn0] at HNX ⊢;clear hie hnx hon hy hn0;generalize wr=wp at *;unfold sv at x0 x1 ⊢;go_wp2_with fail
     go_loopw [10,11] (fun fr k wi=>∃ m:Nat,m<=Y.length/\k=.int .i64 m/\fr=.bool (!((pk Y).take m).any (Sp.waitsFor (pk T) y.p))/\Below wo.heap.size wo wi) (fun _ k _=>Y.length-(intOf k).toNat)
     case atStart=>exact⟨0,Nat.zero_le _,rfl,rfl,HBI.out⟩
     case round =>
      obtain⟨m,hm,rfl,rfl,hbm⟩:=hrel;have HBM:=hid hbm;have hzm:=hbm.size;have d0:=(hbm.cell (p:=⟨b,off+i*5,none⟩) hbl).trans x0;clear hbm
      by_cases hml:m<Y.length
      ·obtain⟨b',off',ea,_,z0,z1,z2,z3,z4⟩:=HLG.out m hml
       injection ea with ea
       injection ea with ea1 ea2 _
       subst ea1 ea2;have hmp:m<(pk Y).length:=by rw[HL.out];exact hml
       have hme:(pk Y)[m]=Y[m].p:=pk_get hmp hml;have hom:Y[m].On (fun b=>b<wo.heap.size/\(Value.slice oa done.length oc).ownBlock≠some b) wo:=HST2.out.left.2 _ (List.getElem_mem hml);have d1:=(HBM.out.cell (p:=⟨b,off+i*5+1,none⟩) hbl).trans x1;have d2:=(HBM.out.cell (p:=⟨b,off+i*5+1+1,none⟩) hbl).trans x2;have d3:=(HBM.out.cell (p:=⟨b,off+i*5+1+1+1,none⟩) hbl).trans x3;have d4:=(HBM.out.cell (p:=⟨b,off+i*5+1+1+1+1,none⟩) hbl).trans x4;have e0:=(HBM.out.cell (p:=⟨b,off+m*5,none⟩) hbl).trans z0;have e1:=(HBM.out.cell (p:=⟨b,off+m*5+1,none⟩) hbl).trans z1;have e2:=(HBM.out.cell (p:=⟨b,off+m*5+1+1,none⟩) hbl).trans z2;have e3:=(HBM.out.cell (p:=⟨b,off+m*5+1+1+1,none⟩) hbl).trans z3;have e4:=(HBM.out.cell (p:=⟨b,off+m*5+1+1+1+1,none⟩) hbl).trans z4;obtain⟨u,hu⟩:∃ u,u=Y[m]:=⟨_,rfl⟩
       rw[<-hu] at e0 e1 e2 e3 e4 hom hme;have hw:=fun W (hW:Below wr.heap.size wr W)=>waitsR_any (S:=fun c=>c<wo.heap.size) tv y u T W ((HT.out W (HBL.out.trans ((HBM.out.trans (hW.mono hzm)).mono hzr))).mono fun c hc=>Nat.lt_of_lt_of_le (HS.out c hc) hzr) ((HON.out.keep fun c hc=>(HBM.out.trans (hW.mono hzm)).block c hc.1).mono fun c hc=>hc.1) ((hom.keep fun c hc=>(HBM.out.trans (hW.mono hzm)).block c hc.1).mono fun c hc=>hc.1) (fun c hc=>Nat.lt_of_lt_of_le hc (Nat.le_trans hzm hW.size)) hTl
       have HW:=hid hw;have HME:=hid hme;have htk:((pk Y).take (m+1)).any (Sp.waitsFor (pk T) y.p)=(((pk Y).take m).any (Sp.waitsFor (pk T) y.p) || Sp.waitsFor (pk T) y.p u.p):=by
        rw[List.take_add_one,List.getElem?_eq_getElem hmp,HME.out,List.any_append];simp
       have HTK:=hid htk;have HSELF:=hid (show Sp.waitsFor (pk T) y.p u.p=true->¬m=i from fun e em=>by
        subst em;rw[<-HME.out,HIE.out,Z9.waits_self] at e;cases e)
       clear hw hme hom hu htk;unfold PV.agg sv at HW;unfold sv at e0 e1 d0 d1;go_wp2_with fail;go_still_tail 9,(by kernel_rfl)
       change wpList _ _ _ _ _ (World.drew wr);go_wp2_with fail;refine(HW.out _ (Below.drew (Below.refl _ wr))).mono ?_;rintro e w3 ⟨rfl,hb3⟩;have hb3':Below wr.heap.size wr w3:=(Below.drew (Below.refl wr.heap.size wr)).trans hb3;have HB3:=hid (HBM.out.trans (hb3'.mono hzm));clear hb3 hb3' d0 d1 d2 d3 d4 e0 e1 e2 e3 e4;have him:¬i=m->¬(m:Int)=(i:Int):=fun e e'=>e (by omega)
       cases hwf:Sp.waitsFor (pk T) y.p u.p with
       | true =>
        have hnm:=HSELF.out hwf;have hti:((m:Int) == (i:Int))=false:=by simp;omega
        rw[hwf] at HTK;go_wp2_with fail;exact⟨⟨m+1,hml,rfl,by rw[HTK.out];simp,HB3.out⟩,by show Y.length-((m:Int)+1).toNat<Y.length-(m:Int).toNat;omega⟩
       | false =>
        rw[hwf] at HTK;go_wp2_with fail;exact⟨⟨m+1,hml,rfl,by rw[HTK.out];simp,HB3.out⟩,by show Y.length-((m:Int)+1).toNat<Y.length-(m:Int).toNat;omega⟩
      ·have hme:m=Y.length:=by omega
       subst hme;have hzz:¬((Y.length:Nat):Int)<((Y.length:Nat):Int):=by omega
       have hall:(pk Y).take Y.length=pk Y:=List.take_of_length_le (Nat.le_of_eq HL.out);rw[hall];clear hall
       cases hfr:(pk Y).any (Sp.waitsFor (pk T) y.p) with
       | true =>
        rw[hfr] at HNX;go_wp2_with fail;exact⟨⟨i+1,hil,rfl,by rw[HNX.out];rfl,HBM.out⟩,by show Y.length-((i:Int)+1).toNat<Y.length-(i:Int).toNat;omega⟩
       | false =>
        rw[hfr] at HNX;go_wp2_with fail;refine(firstR_any n0 y.p.name wr).mono ?_;rintro e _ ⟨rfl,rfl⟩;unfold sv;go_wp2_with fail;exact⟨⟨i+1,hil,rfl,by rw[HNX.out];rfl,HBM.out⟩,by show Y.length-((i:Int)+1).toNat<Y.length-(i:Int).toNat;omega⟩
    ·have hie:i=Y.length:=by omega
     subst hie;have hzz:¬((Y.length:Nat):Int)<((Y.length:Nat):Int):=by omega
     rw[Z5.upTo_all _ _ (Nat.le_of_eq HL.out),show Sp.least (((pk Y).filter fun p=>!(pk Y).any (Sp.waitsFor (pk T) p)).map (·.name))=N from HN.out.symm];have hb3:Below w.heap.size w wr:=HBL.out.trans (HBI.out.mono hzr);have HB3:=hid hb3;have HST3:=hid (HST2.out.below HBI.out);clear hb3;unfold sv
     cases hNe:N with
     | nil =>
      rw[HN.out] at hNe;have hend:=Z9.far_end HST3.out.far hNe;go_wp2_with fail
      go_ret2
      exact⟨_,_,rfl,HST3.out.out,Y,HST3.out.left.mono fun b hb=>hb.1,rfl,HB3.out⟩
     | cons n0 nr =>
      have hNn:Z9.next (pk T) (pk Y)≠[]:=by rw[<-HN.out,hNe];simp
      obtain⟨k,hk,hke⟩:=Z9.next_mem HST3.out.named hNn;obtain⟨j',hj',hfar⟩:=Z9.far_next HST3.out.far hNn HST3.out.apart hk hke;have hat:=Z9.find_at HST3.out.apart hk;rw[hke,<-HN.out,hNe] at hat;rw[<-HN.out,hNe] at hfar;have HFAR:=hid hfar;have HAT:=hid hat;have hkY:k<Y.length:=by rw[<-HL.out];exact hk
      have hzB:w.heap.size<=wr.heap.size:=HB3.out.size;clear hat hfar hke hNn hj';go_wp2_with (at_builtin;refine wp_app_at app38 wr [.string ⟨(n0 :: nr).toArray⟩] rfl (by simp[Value.oneCell']) rfl _ _ rfl w.heap.size _ _ _ rfl HST3.out.out rfl (by have:=HST3.out.few;omega) hzB ?_;intro v6' w4 hown' hgrow hat' hat);have hb4:=below_of_grown HB3.out hzB HST3.out.out hgrow;have hl4:PksOn (fun b=>b<w4.heap.size/\v6'.ownBlock≠some b) w4 (.slice la Y.length lc) Y:=by
       have hz4:=hgrow.size;refine(HST3.out.left.keep fun b hb=>hgrow.block b hb.1 (Ne.symm hb.2)).mono fun b hb=>⟨by omega,fun e=>?_⟩
       rcases hat with e'|⟨g,e',hg⟩
       ·rw[e'] at e;exact hb.2 e
       ·rw[e'] at e;injection e with e;have:=hb.1;omega
      have hsh7:=HST3.out.shape;have hfew:=HST3.out.few;have hapart:=HST3.out.apart;have hnamed:=HST3.out.named;have HOW:=hid hown';have HB4:=hid hb4;have HL4:=hid hl4;have HAPART:=hid hapart;have HNAMED:=hid hnamed;have HLT:=hid hown'.lt;clear hgrow hb4 hl4 hat hat' hown' hapart hnamed HST3 HST2 HLG HBI HB3 HBC HST1;refine(findR_any _ Y (n0 :: nr) w4 (HL4.out.mono fun b hb=>hb.1) (fun b hb=>hb) (by omega)).mono ?_;rw[HAT.out];rintro e w5 ⟨rfl,hb5⟩;have hz5:=hb5.size;have hl5:PksOn (fun b=>b<w4.heap.size/\v6'.ownBlock≠some b) w5 (.slice la Y.length lc) Y:=HL4.out.keep fun b hb=>hb5.block b hb.1
      have HOW5:=hid (W3.row_keep HOW.out hb5);have HB5:=hid (HB4.out.trans (hb5.mono HB4.out.size));obtain⟨b,off,cap,hsla⟩:∃ b off cap,Value.slice la Y.length lc=.slice (some ⟨b,off,none⟩) Y.length cap:=by
       rcases hsh7 with e|e
       ·injection e with _ e2 _;omega
       ·exact e
      injection hsla with e1 _ e3
      subst e1 e3;clear hsh7 hb5;have hcut:=Z9.cells_cut hl5 k;have HL5:=hid hl5;have HC1:=hid hcut.1;have HC2:=hid hcut.2;have HO1:=hid (Z9.row_one (Y.drop (k+1)) fun x hx=>Z9.on_one hl5.2 x (List.mem_of_mem_drop hx));clear hcut hl5;have q1:(0:Int)<=(k:Int):=by omega
      have q2:(0:Int)<=(k:Int)+1:=by omega
      have q3:((k:Int)+1).toNat=k+1:=by omega
      have q4:k<=lc:=by omega
      have q8:IntKind.i64.wrap ((k:Int)+1)=(k:Int)+1:=IntWalk.i64_in _ (by omega);have q9:(k:Int)+1<=(Y.length:Int):=by omega
      have q10:(Y.length:Int)<=(lc:Int):=by omega
      have q5:k+1<=lc:=by omega
      have q6:k+1<=Y.length:=hkY;have q7:¬lc=k/\(k=0->lc=0->False):=⟨by omega,by omega⟩
      have htl:(Z9.row (Y.take k)).length=k*5:=by rw[Z9.row_len,List.length_take];congr 1;omega
      have hdl:(Z9.row (Y.drop (k+1))).length=(Y.length-(k+1))*5:=by rw[Z9.row_len,List.length_drop]
      have HTL:=hid htl;have HDL:=hid hdl;clear htl hdl;have fin:∀ v7' w6,Below w5.heap.size w5 w6->PksOn (fun c=>c<w6.heap.size/\v6'.ownBlock≠some c) w6 v7' (Y.take k ++ Y.drop (k+1))->(v7'=.slice none 0 0\/∃ b off cap,v7'=.slice (some ⟨b,off,none⟩) (Y.take k ++ Y.drop (k+1)).length cap) ->
        Z10.St w.heap.size (pk T) (pk F) w6 v6' v7' (done ++ [n0 :: nr]) j' (Y.take k ++ Y.drop (k+1))/\Below w.heap.size w w6:=fun v7' w6 h1 h2 h3=>by
       have hpk:pk (Y.take k ++ Y.drop (k+1))=(pk Y).take k ++ (pk Y).drop (k+1):=by unfold pk;rw[List.map_append,List.map_take,List.map_drop]
       have hsub:((pk Y).take k ++ (pk Y).drop (k+1)).Sublist (pk Y):=by
        have:((pk Y).take k ++ (pk Y).drop (k+1)).Sublist ((pk Y).take k ++ (pk Y).drop k):=(List.Sublist.refl _).append (by rw[<-List.drop_drop];exact(List.drop_sublist _ _))
        rwa [List.take_append_drop] at this
       refine⟨⟨?_,h2,by rw[hpk];exact HFAR.out,by rw[hpk];exact HAPART.out.sublist hsub,fun p hp=>HNAMED.out p (hsub.subset (by rw[hpk] at hp;exact hp)),?_,h3⟩,HB5.out.trans (h1.mono HB5.out.size)⟩
       ·rw[List.length_append,List.map_append]
        exact W3.row_keep HOW5.out h1
       ·simp only[List.length_append,List.length_take,List.length_drop,List.length_singleton]
        omega
      have FIN:=hid fin;clear fin
      by_cases hlast:k+1=Y.length
      ·have hdr:Y.drop (k+1)=[]:=List.drop_of_length_le (by omega)
       have htk:PksOn (fun c=>c<w5.heap.size/\v6'.ownBlock≠some c) w5 (.slice (some ⟨b,off,none⟩) k k) (Y.take k ++ Y.drop (k+1)):=by
        rw[hdr,List.append_nil];exact(Z9.ahead HL5.out (by omega)).mono fun c hc=>⟨by omega,hc.2⟩
       have hF:=fun W (hW:Below w5.heap.size w5 W)=>FIN.out (.slice (some ⟨b,off,none⟩) k k) W hW ((htk.keep fun c hc=>hW.block c hc.1).mono fun c hc=>⟨Nat.lt_of_lt_of_le hc.1 hW.size,hc.2⟩) (.inr ⟨b,off,k,by rw[hdr,List.append_nil,List.length_take,Nat.min_eq_left (by omega)]⟩)
       have HF:=hid hF;clear hF htk;have q11:k<=Y.length:=by omega
       by_cases hlc:lc=k+1
       ·go_wp2_with fail
        go_region_law (refine step_append_room rfl (.tmp 66) (.tmp 70) 111 rfl 30 ti 5 Tryz.underlying111 HI0.out HZ1.out b off k k (by simp[Act.eval,Act.put]) ⟨b,off,none⟩ 0 0 [] (by simp[Act.eval,Act.put]) rfl (fun j u hj=>by simp at hj) (fun u hu=>by cases hu) (by omega) (fun j hj=>by simp at hj) ?_)
        simp[Act.put];go_wp2_with fail;go_roundw
        case rel=>exact⟨_,j',_,HF.out _ ((Below.refl _ _).drew)⟩
        case measure=>show k+1<Y.length+1;omega
       ·have hlc':¬lc=Y.length:=by omega
        go_wp2_with fail
        go_region_law (refine step_append_room rfl (.tmp 66) (.tmp 70) 111 rfl 30 ti 5 Tryz.underlying111 HI0.out HZ1.out b off k k (by simp[Act.eval,Act.put]) ⟨b,off+(k+1)*5,none⟩ 0 (lc-(k+1)) [] (by simp[Act.eval,Act.put,hlast]) rfl (fun j u hj=>by simp at hj) (fun u hu=>by cases hu) (by omega) (fun j hj=>by simp at hj) ?_)
        simp[Act.put];go_wp2_with fail;go_roundw
        case rel=>exact⟨_,j',_,HF.out _ ((Below.refl _ _).drew)⟩
        case measure=>show k+1<Y.length+1;omega
      ·have hlc:¬lc=k+1:=by omega
       go_wp2_with fail
       go_region_law (refine step_append_grows rfl (.tmp 66) (.tmp 70) 111 rfl 30 ti _ 5 104 Tryz.underlying111 HI0.out HZ0.out HZ1.out HZ2.out rfl (by decide) (some ⟨b,off,none⟩) k k (Z9.row (Y.take k)) (by simp[Act.eval,Act.put]) (fun e=>by cases e) HTL.out HC1.out ⟨b,off+(k+1)*5,none⟩ (Y.length-(k+1)) (lc-(k+1)) (Z9.row (Y.drop (k+1))) (by simp[Act.eval,Act.put]) HDL.out HC2.out HO1.out (by omega) (by unfold maxLen;omega) (by omega) ?_;intro v7' w6 hown7 hgrow7)
       simp[Act.put];go_wp2_with fail;go_roundw
       case rel =>
        have hb6:Below w5.heap.size w5 w6:=((Below.refl _ _).drew).grown hgrow7 (Nat.le_refl _) fun g hg=>by cases hg
        have hz6:=hb6.size;refine⟨_,j',_,FIN.out v7' w6 hb6 ?_ ?_⟩
        ·have hlen:k+(Y.length-(k+1))=(Y.take k ++ Y.drop (k+1)).length:=by rw[List.length_append,List.length_take,List.length_drop];omega
         rw[<-Z9.row_app,hlen] at hown7;refine(Z9.of_row hown7 (S:=fun c=>c<w4.heap.size/\v6'.ownBlock≠some c) fun x hx=>?_).mono fun c hc=>?_
         ·refine(HL5.out.2 x ?_).keep fun c hc=>hb6.block c (by omega)
          rcases List.mem_append.1 hx with hx|hx
          ·exact List.mem_of_mem_take hx
          ·exact List.mem_of_mem_drop hx
         ·rcases hc with hc|hc
          ·exact⟨by omega,hc.2⟩
          ·refine⟨hc.1,fun e=>?_⟩
           have h1:=(HLT.out _ e).2;have h2:w5.heap.size<=c:=hc.2;omega
        ·have hlen:k+(Y.length-(k+1))=(Y.take k ++ Y.drop (k+1)).length:=by rw[List.length_append,List.length_take,List.length_drop];omega
         rw[hlen] at hown7
         rcases hown7.2 with⟨h1,h2⟩|⟨g,cap,cur,h1,_⟩
         ·exact .inl h1
         ·exact .inr ⟨g,0,cap,h1⟩
       case measure =>
        rcases hown7.2 with⟨h1,h2⟩|⟨g,cap,cur,h1,_⟩
        ·rw[h1];show 0+1<Y.length+1;omega
        ·rw[h1];show k+(Y.length-(k+1))+1<Y.length+1;omega
end
end Go.Proofs.YtfphcecjhdkcoaaGreatDoor

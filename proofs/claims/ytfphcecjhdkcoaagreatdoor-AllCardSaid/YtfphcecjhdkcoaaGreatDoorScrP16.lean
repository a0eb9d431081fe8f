/-
What the rows of the statements on sessions open: the wrap with the reach handed on; a slice of texts among the arguments; the arguments handed back, all at once.
-/
import Derived.Test.YtfphcecjhdkcoaaGreatDoorScrP13
import Derived.Test.YtfphcecjhdkcoaaGreatDoorScrP14
import Derived.Test.YtfphcecjhdkcoaaGreatDoorScrP15
import Derived.Test.YtfphcecjhdkcoaaGreatDoorRows
import Derived.ProofKit
import Derived.LaidMore
import Derived.LaidHandle
import Derived.Lay
import Derived.HandedShaped
import Derived.Handed
import Derived.SliceStrings
import Derived.Shelf.Vars
import Derived.Stop.Joined
import Derived.Carry
import Derived.SizedLaws
set_option maxRecDepth 100000
set_option maxHeartbeats 8000000
namespace Go.Proofs.YtfphcecjhdkcoaaGreatDoor
section
open Go.RowKit Go.Maps
structure Wd(G:Nat)(w:World):Prop where
 glob:Glob G w
 err:ErrT w
theorem Wd.keep{G:Nat}{w w':World}(h:Wd G w)(hb:Below w.heap.size w w'):Wd G w':=
 ⟨h.glob.keep hb,h.err.keep hb (by have:=h.glob.size;have:=h.glob.six;omega)⟩
theorem Wd.from{G B:Nat}{w w':World}(h:Wd G w)(hb:Below B w w')(hB:G<=B):Wd G w':=
 ⟨h.glob.below hb hB,(hb.cell (p:=⟨0,0,none⟩) (by have:=h.glob.six;show 0<B;omega)).trans h.err⟩
theorem fit_of_live{S:Nat}{x:Sp.St}(h:V10.Live S x)(hl:x.last+1<18446744073709551616):Fit x:=
 ⟨h.ok,by rw[h.seen];exact h.big.1,by rw[h.seen];exact h.room,hl,by rw[h.calm.late];decide⟩
end
section
open Go.RowKit Go.Maps
end
section
open Go.RowKit Go.Maps
theorem StrsFrom.chg{B:Nat}{M:Nat->Prop}{w w':World}{v:Value}{l:List Sp.Str}(h:StrsFrom B w v l)(hc:Chg M w w')(hm:∀ k,M k->k<B):StrsFrom B w' v l:=
 SlOn.mono (SlOn.keep h fun k hk=>hc.block k hk.2 fun hx=>by have:=hm k hx;have:=hk.1;omega) fun k hk=>⟨hk.1,Nat.lt_of_lt_of_le hk.2 hc.size⟩
def FB(w:World)(b:Nat)(f:Sp.Fault):Prop:=w.heap[b]? = some (.cells #[.int .i64 (f.kind:Int),.int .i64 (f.which:Int),.int .i64 (f.line:Int),.string ⟨f.name.toArray⟩] 23 (0,0))
namespace FB
variable {w w':World} {b:Nat} {f:Sp.Fault}
theorem new(w:World)(f:Sp.Fault):FB (w.alloc (.cells #[.int .i64 (f.kind:Int),.int .i64 (f.which:Int),.int .i64 (f.line:Int),.string ⟨f.name.toArray⟩] 23)) w.heap.size f:=heap_alloc_new _ _
theorem lt(h:FB w b f):b<w.heap.size:=(Array.getElem?_eq_some_iff.1 h).1
theorem below(h:FB w b f)(hb:Below w.heap.size w w'):FB w' b f:=(hb.block b h.lt).trans h
theorem chg{M:Nat->Prop}(h:FB w b f)(hc:Chg M w w')(hm:¬M b):FB w' b f:=(hc.block b h.lt hm).trans h
theorem cells(h:FB w b f):w.cell? ⟨b,0,none⟩=some (.int .i64 (f.kind:Int))/\w.cell? ⟨b,1,none⟩=some (.int .i64 (f.which:Int))/\w.cell? ⟨b,2,none⟩=some (.int .i64 (f.line:Int))/\w.cell? ⟨b,3,none⟩=some (.string ⟨f.name.toArray⟩):=by
 have h':w.heap[b]? = some (.cells #[.int .i64 (f.kind:Int),.int .i64 (f.which:Int),.int .i64 (f.line:Int),.string ⟨f.name.toArray⟩] 23 (0,0)):=h;refine⟨?_,?_,?_,?_⟩
 ·rw[cell_of_row _ _ _ _ _ _ h'];rfl
 ·rw[cell_of_row _ _ _ _ _ _ h'];rfl
 ·rw[cell_of_row _ _ _ _ _ _ h'];rfl
 ·rw[cell_of_row _ _ _ _ _ _ h'];rfl
end FB
structure Run(B S:Nat)(O:Nat->Prop)(w:World)(x:Nat)(st:Sp.St):Prop where
 ses:Ses O w x st
 sure:V11.Sure S st
 low:∀ k,O k->B<=k/\k<w.heap.size
namespace Run
variable {B S:Nat} {O M:Nat->Prop} {w w':World} {x:Nat} {st:Sp.St}
theorem below(h:Run B S O w x st)(hb:Below w.heap.size w w'):Run B S O w' x st:=⟨h.ses.below hb,h.sure,fun k hk=>⟨(h.low k hk).1,Nat.lt_of_lt_of_le (h.low k hk).2 hb.size⟩⟩
theorem chg(h:Run B S O w x st)(hc:Chg M w w')(hm:∀ k,O k->¬M k):Run B S O w' x st:=⟨h.ses.keep (fun k hk hl=>hc.block k hl (hm k hk)) hc.size,h.sure,fun k hk=>⟨(h.low k hk).1,Nat.lt_of_lt_of_le (h.low k hk).2 hc.size⟩⟩
theorem few(h:Run B S O w x st):st.L.length<=600:=by
 have h1:=V8.size_count h.sure.live.ok.set.good;have h2:=h.sure.live.room;have h3:=h.sure.live.big;unfold Sp.room at h2;omega
theorem new{G:Nat}(hw:Wd G w)(z:Int):Calls Tryz.prog 21 #[.int .i64 z] w fun e w'=>∃ x,e=.returned (.tuple #[.pointer (some ⟨x,0,none⟩),faultV Sp.okF])/\Below w.heap.size w w'/\Run w.heap.size (secs z) (fun k=>w.heap.size<=k/\k<w'.heap.size) w' x (Sp.St.new (secs z)):=by
 refine(sesNew_any hw.glob z).mono ?_;rintro e w' ⟨x,rfl,hb,hs⟩;exact⟨x,rfl,hb,hs.mono fun k hl hk=>⟨hk,hl⟩,(V11.new_sure ⟨(secs_ok z).1,(secs_ok z).2.1⟩).1,fun k hk=>hk⟩
theorem install{G:Nat}(hw:Wd G w)(h:Run B S O w x st)(hG:G<=B)(hB:B<=w.heap.size)(hl:st.last<=1000000)(tv:Value)(ts:List Sp.Str)(htv:StrsAt w tv ts)(hts:ts.length<=9000):
  Calls Tryz.prog 25 #[.pointer (some ⟨x,0,none⟩),tv] w fun e w'=>e=.returned (faultV (st.install ts).1)/\Chg O w w'/\Run B S (fun k=>O k\/w.heap.size<=k/\k<w'.heap.size) w' x (st.install ts).2:=by
 refine(sesInstall_any hw.glob hw.err (fun k hk=>Nat.le_trans hG (h.low k hk).1) h.ses (fit_of_live h.sure.live (by omega)) tv ts htv hts).mono ?_;rintro e w' ⟨rfl,hc,hs⟩;have hz:=hc.size;exact⟨rfl,hc,hs.mono fun k hl hk=>hk.imp id fun h=>⟨h,hl⟩,(V11.install_sure h.sure (by omega) ts).1,fun k hk=>by
  rcases hk with hk|hk
  ·exact⟨(h.low k hk).1,by have:=(h.low k hk).2;omega⟩
  ·exact⟨by omega,hk.2⟩⟩
theorem remove{G:Nat}(hw:Wd G w)(h:Run B S O w x st)(hG:G<=B)(hB:B<=w.heap.size)(hl:st.last<=1000000)(tv:Value)(ts:List Sp.Str)(htv:StrsAt w tv ts)(hts:ts.length<=9000)(hnl:∀ n∈ts,n.length<=10000):
  Calls Tryz.prog 32 #[.pointer (some ⟨x,0,none⟩),tv] w fun e w'=>e=.returned (faultV (st.remove ts).1)/\Chg O w w'/\Run B S (fun k=>O k\/w.heap.size<=k/\k<w'.heap.size) w' x (st.remove ts).2:=by
 refine(sesRemove_any hw.glob hw.err (fun k hk=>Nat.le_trans hG (h.low k hk).1) h.ses (fit_of_live h.sure.live (by omega)) tv ts htv hts hnl).mono ?_;rintro e w' ⟨rfl,hc,hs⟩;have hz:=hc.size;exact⟨rfl,hc,hs.mono fun k hl hk=>hk.imp id fun h=>⟨h,hl⟩,(V11.remove_sure h.sure (by omega) ts).1,fun k hk=>by
  rcases hk with hk|hk
  ·exact⟨(h.low k hk).1,by have:=(h.low k hk).2;omega⟩
  ·exact⟨by omega,hk.2⟩⟩
theorem plan{G:Nat}(hw:Wd G w)(h:Run B S O w x st)(hl:st.last<=1000000)(tv:Value)(ts:List Sp.Str)(htv:StrsAt w tv ts)(hts:ts.length<=9000):
  Calls Tryz.prog 23 #[.pointer (some ⟨x,0,none⟩),tv] w fun e w'=>∃ v,e=.returned (.tuple #[v,faultV (st.plan ts).1])/\StrsFrom w.heap.size w' v (st.plan ts).2/\Below w.heap.size w w':=
 sesPlan_any hw.glob hw.err h.ses (fit_of_live h.sure.live (by omega)) tv ts htv hts
theorem packages(h:Run B S O w x st):Calls Tryz.prog 26 #[.pointer (some ⟨x,0,none⟩)] w fun e w'=>∃ v,e=.returned (.tuple #[v,.bool true])/\StrsFrom w.heap.size w' v (Sp.texts st.L)/\Below w.heap.size w w':=
 PK.packages_any h.ses h.sure.live.ok.set (by have:=h.few;omega)
theorem texts(h:Run B S O w x st):(Sp.texts st.L).length<=600:=by rw[V11.texts_len h.sure.live.ok.set];exact h.few
end Run
end
section
open Go.ChangeShapes Go.WideShapes Go.ChangeAt Go.RowKit
def LL:List (String × DataW Unit):=Rows.formsRow.laid
def L4: List (String × DataW Unit) := [("unicode/utf8.acceptRanges", Rows.laid_unicode_utf8_acceptRanges), ("parcels/parcels.signs", Rows.laid_parcels_parcels_signs), ("unicode.CaseRanges", Rows.laid_unicode_CaseRanges), ("unicode/utf8.first", Rows.laid_unicode_utf8_first)]
theorem own:ownKnob Tryz.prog.godebug=none:=by kernel_rfl
theorem gErr: Tryz.prog.globalNamed "errors.errorType" = some 0 := by kernel_rfl
theorem gSigns: Tryz.prog.globalNamed "parcels/parcels.signs" = some 1 := by kernel_rfl
theorem gCase: Tryz.prog.globalNamed "unicode.CaseRanges" = some 5 := by kernel_rfl
theorem tSigns:(Tryz.prog.globals[1]?).map (·.type)=some 38:=by kernel_rfl
theorem cells9:Tryz.prog.cellsOf 9=1:=by kernel_rfl
theorem rtRow: (Tryz.prog.cutTypes.find? (·.1 == "internal/reflectlite.rtype")).map (·.2) = some 251 := by kernel_rfl
theorem nTypes:Tryz.prog.types.size=396:=by kernel_rfl
theorem oneRow:((List.range 396).filter fun t=>Tryz.prog.rowNamed t [101,114,114,111,114])=[81]:=by kernel_rfl
theorem splitLaid{W : World}(h : laidMetH Tryz.prog LL W): laidMet Tryz.prog L4 W ∧ handlesMet Tryz.prog [("errors.errorType", Rows.laid_errors_errorType)] W := h
theorem errT_of_laid{W:World}(h:laidMetH Tryz.prog LL W):ErrT W:=by
 obtain⟨name,u,ty,e1,e2,e3,e4,e5⟩:=(splitLaid h).2 _ (List.mem_singleton.2 rfl);have en:name=[101,114,114,111,114]:=(Option.some.inj e1).symm;subst en;obtain rfl:=Option.some.inj (rtRow.symm.trans e2);have hm:ty∈(List.range 396).filter fun t=>Tryz.prog.rowNamed t [101,114,114,111,114]:=List.mem_filter.2 ⟨List.mem_range.2 (by rw[<-nTypes];exact e3),e4⟩
 rw[oneRow] at hm;obtain rfl:=List.mem_singleton.1 hm;have hh:typeHandle Tryz.prog 81=.pointer (some ⟨6,81,none⟩):=by kernel_rfl
 rw[hh] at e5;have:=World.var?_cell gErr e5 0
 simpa[ErrT] using this
theorem five{P:(k:Nat)->k<5->Prop}(h0:P 0 (by omega))(h1:P 1 (by omega))(h2:P 2 (by omega))(h3:P 3 (by omega))(h4:P 4 (by omega)):∀ k hk,P k hk
 | 0,_=>h0
 | 1,_=>h1
 | 2,_=>h2
 | 3,_=>h3
 | 4,_=>h4
theorem glob_of_laid{W:World}(h:laidMetH Tryz.prog LL W)(hs:W.ShapedOpen Tryz.prog):Glob W.heap.size W:=by
 have hmax:=Go.Proofs.cell_of_shapedOpen_int (g:=2) (zero:=#[.int .i64 0]) (t:=3) hs (of_decide_eq_true (by kernel_rfl)) (by kernel_rfl) rfl (by kernel_rfl) (by kernel_rfl) Tryz.underlying3;obtain⟨ps,⟨_,_,_,_,_,_,_,_,_,_,⟨g1,t1,cs1,f1,p1,q1,hg1,ht1,hv1,hd1,⟨g2,t2,cs2,f2,p2,q2,hg2,_,hv2,_,_,_⟩,_⟩,_⟩,_,_⟩:=(splitLaid h).1;obtain rfl:=Option.some.inj (gCase.symm.trans hg2);obtain rfl:=Option.some.inj (gSigns.symm.trans hg1);obtain rfl:=Option.some.inj (tSigns.symm.trans ht1)
 rcases open_strings Tryz.underlying38 Tryz.underlying9 cells9 hd1 with⟨_,hx⟩|⟨a,len,cap,ss,hcs,_,hle,_,hlen,hx,hcell,_⟩
 ·simp[Rows.laid_parcels_parcels_signs] at hx
 ·simp only[Prod.mk.injEq,Rows.laid_parcels_parcels_signs,DataW.slice.injEq] at hx
  obtain⟨⟨hx1,hx2⟩,_⟩:=hx;have hdn:ss.drop len=[]:=by
   have:=congrArg List.length hx2;simp[strs] at this;exact List.drop_eq_nil_of_le (by omega)
  have hln:ss.length<=len:=by
   have:=congrArg List.length hdn;simp at this;omega
  rw[List.take_of_length_le hln] at hx1;have h5:ss.length=5:=by
   have:=congrArg List.length hx1
   simpa[strs] using this.symm
  match ss,h5 with
  | [s0,s1,s2,s3,s4],_ =>
   simp only[strs,List.map_cons,List.map_nil,List.cons.injEq,DataW.lit.injEq,Lit.string.injEq,and_true] at hx1;obtain⟨e0,e1,e2,e3,e4⟩:=hx1;have hc5:5=cap:=by simpa using hlen
   have hl5:len=5:=by
    have:5<=len:=hln;omega
   subst hl5;obtain⟨b,off,spot⟩:=a;have c0:=hcell 0 (by simp);have c1:=hcell 1 (by simp);have c2:=hcell 2 (by simp);have c3:=hcell 3 (by simp);have c4:=hcell 4 (by simp);have hspot:spot=none:=by simpa[Addr.add] using World.cell?_spot c0
   subst hspot;have f0:s0=⟨(Sp.signs[0]).toArray⟩:=bl_inj e0.symm;have f1:s1=⟨(Sp.signs[1]).toArray⟩:=bl_inj e1.symm;have f2:s2=⟨(Sp.signs[2]).toArray⟩:=bl_inj e2.symm;have f3:s3=⟨(Sp.signs[3]).toArray⟩:=bl_inj e3.symm;have f4:s4=⟨(Sp.signs[4]).toArray⟩:=bl_inj e4.symm;have hv:=World.var?_cell gSigns hv1 0;have hcs0:cs1[0]? = some (.slice (some ⟨b,off,none⟩) 5 cap):=by
    have:cs1.toList[0]? = some (.slice (some ⟨b,off,none⟩) 5 cap):=by rw[hcs];rfl
    simpa using this
   have hb:b<W.heap.size:=by
    rcases Nat.lt_or_ge b W.heap.size with h|h
    ·exact h
    ·simp[World.cell?,Addr.add,Array.getElem?_eq_none h] at c0
   have h6:6<=W.heap.size:=by
    rcases Nat.lt_or_ge 5 W.heap.size with h|h
    ·exact h
    ·exfalso
     simp[World.var?,gCase,Array.getElem?_eq_none h] at hv2
   refine⟨h6,Nat.le_refl _,hmax,b,off,cap,hb,hv.trans hcs0,?_⟩;exact five (P:=fun k hk=>W.cell? ⟨b,off+k,none⟩=some (.string ⟨(Sp.signs[k]'hk).toArray⟩)) (by simp[Addr.add,f0] at c0;exact c0) (by simp[Addr.add,f1] at c1;exact c1) (by simp[Addr.add,f2] at c2;exact c2) (by simp[Addr.add,f3] at c3;exact c3) (by simp[Addr.add,f4] at c4;exact c4)
noncomputable def heldW(os:Os):World:=
 { World.holding Tryz.prog os ⟨#[],#[],[]⟩ with heap:=(World.holding Tryz.prog os ⟨#[],#[],[]⟩).heap.modify 0 fun
   | .cells _ t frozen=>.cells #[.iface 251 (.agg #[.pointer (some ⟨6,81,none⟩)])] t frozen
   | o=>o }
noncomputable def laidW(os:Os):World:=(heldW os).layVars Tryz.prog L4
theorem laidW_os(os:Os):(laidW os).os=os:=World.layVars_os _ _ _
theorem laidW_fits(os:Os):(heldW os).layFits Tryz.prog L4 []=true:=by kernel_rfl
theorem laidW_ifaces(os:Os):(heldW os).layIfaces Tryz.prog L4 (laidW os)=true:=by kernel_rfl
end
section
open Go.ChangeShapes Go.WideShapes Go.ChangeAt Go.RowKit
theorem laidW_met4(os:Os)(args:Array Value):laidMet Tryz.prog L4 ((laidW os).forCall (fun _ _=>0) ⟨#[],args,[]⟩).memory:=by
 have e1:(L4.filter fun x=>(L4.map (·.1)).contains x.1)=L4:=List.filter_eq_self.2 fun x hx=>List.contains_iff_mem.2 (List.mem_map.2 ⟨x,hx,rfl⟩)
 have e2:(L4.filter fun x=>!(L4.map (·.1)).contains x.1)=[]:=List.filter_eq_nil_iff.2 fun x hx=>by rw[List.contains_iff_mem.2 (List.mem_map.2 ⟨x,hx,rfl⟩)];simp
 have h:laidMet Tryz.prog L4 (laidW os):=laidMet_layVars (w0:=heldW os) (L4.map (·.1)) [] (by rw[e1];rfl) (by rw[e1];exact laidW_fits os) (by rw[e1];exact laidW_ifaces os) (by rw[e2];exact LaidIn.none);exact h.of_heap (by simp[World.memory,World.forCall,Input.heap])
theorem laidW_handles(os:Os)(args:Array Value):(LL.filter fun x=>x.2.handleName?.isSome).all (handleAtB Tryz.prog ((laidW os).forCall (fun _ _=>0) ⟨#[],args,[]⟩).memory)=true:=by kernel_rfl
theorem laidW_met(os:Os)(args:Array Value):laidMetH Tryz.prog LL ((laidW os).forCall (fun _ _=>0) ⟨#[],args,[]⟩).memory:=
 laidMetH_of_parts (show laidMet Tryz.prog L4 _ from laidW_met4 os args) (laidW_handles os args)
theorem laidW_zip(os:Os)(args:Array Value):((laidW os).forCall (fun _ _=>0) ⟨#[],args,[]⟩).variablesZipB Tryz.prog=true:=by kernel_rfl
theorem laidW_shaped(os:Os)(args:Array Value):((laidW os).forCall (fun _ _=>0) ⟨#[],args,[]⟩).Shaped Tryz.prog:=World.shaped_of_ZipB (laidW_zip os args) (by kernel_rfl)
end
section
open Go.ChangeShapes Go.WideShapes Go.ChangeAt Go.RowKit
theorem cLaid:laidOutB Tryz.prog=true:=by kernel_rfl
theorem cMaps:mapsRowed Tryz.prog=true:=by kernel_rfl
theorem cStops:Tryz.prog.stops=[]:=by kernel_rfl
theorem cKnobs:Tryz.prog.stopKnobs=[]:=by kernel_rfl
theorem cLifted:Tryz.prog.liftsFinal=Rows.formsRow.lifted:=by kernel_rfl
theorem cMake:Tryz.prog.make=some Rows.formsRow.make:=by kernel_rfl
theorem cKeys:Tryz.prog.plainKeys=Rows.formsRow.plainKeys:=by kernel_rfl
theorem cHeard:Tryz.prog.stopsHeard=true:=by kernel_rfl
theorem cEnter:Tryz.prog.mayEnter=true:=by kernel_rfl
end
section
open Go.ChangeShapes Go.WideShapes Go.ChangeAt Go.RowKit
theorem wrap_sized{H:Type}{enc:TypeId × Value->H}{a:Assume}{C:Checked}{os:Os}{f:FuncId}{fn:Func}{s:ChangeSpec}{conds:List PathCond}{apart fresh handsOn again:Bool}{X:World->Array Value->Prop}
  (hX:∀ (w w':World) (args:Array Value),w.heap=w'.heap->X w args->X w' args)
  (own:ownKnob C.prog.godebug=none)(started:os.Started)(noInit:C.prog.inits.idxOf? f=none)(hfn:C.prog.funcs[f]? = some fn)
  (witness:∃ (w:World) (tape:Tape) (i:Input),w.os=os/\(w.forCall tape i).Shaped C.prog/\i.vars=[]/\Input.okWide C.prog (w.forCall tape i) .any w.heap.size f i /\
   ((s.pre enc C.prog fn conds apart (w.forCall tape i).memory i.args/\X (w.forCall tape i).memory i.args)/\sizedMet enc C.prog fn (OpenSpec.ofChange s) apart (w.forCall tape i).memory i.args)/\a.holds C.prog (lone (Frame.enter C.prog f i.args .normal) [] (w.forCall tape i)))
  (contract:∀ (W:World) (base:Nat) (args:Array Value) (ds gs:List (DataW H)) (before:List MemPlace),
   (∀ (j:Nat) t v,fn.params[j]? = some t->args[j]? = some v->Value.okWide C.prog W .any base t v) ->
   DataW.Whole enc C.prog fn.params.toList s.vars apart W args.toList ds gs before ->
   X W args->W.ShapedOpen C.prog ->
   (DataW.weightsEach C.prog (fn.params.toList ++ s.plain.varTypes C.prog) (ds ++ gs)).all (·<=reachBytes)=true ->
   Calls C.prog f args W fun e W'=>∃ v,e=.returned v/\s.post enc C.prog fn apart fresh handsOn again W args v W'):
  ReturnsInHanded a C os f .any (fun w args=>(s.pre enc C.prog fn conds apart w args/\X w args)/\sizedMet enc C.prog fn (OpenSpec.ofChange s) apart w args) (s.post enc C.prog fn apart fresh handsOn again):=by
 refine returnsInHanded_of_calls own started noInit witness ?_;intro w tape i _ hsh _ hok hpre hholds;obtain⟨_,_,_,fn',hfn',_,_,_,_,hval⟩:=hok;have e:fn'=fn:=Option.some.inj (hfn'.symm.trans hfn);subst e;obtain⟨⟨⟨ds,gs,before,hw,hc⟩,hx⟩,hz⟩:=hpre;have hw':=DataW.Whole.of_heap (w':=w.forCall tape i) (by rfl) hw;refine(contract (w.forCall tape i) w.heap.size i.args ds gs before hval hw' (hX _ _ _ (by rfl) hx) hsh (hz.weights hw)).mono fun e W' ⟨v,he,hp⟩=>?_
 subst he;exact ChangeSpec.post_blind hp
theorem weightsAll_mem{H:Type}{P:Program}{e:TypeId}:∀ {ds:List (DataW H)} {d:DataW H},d∈ds->∀ n∈d.weights P e,n∈DataW.weightsAll P e ds
 | d0 :: ds,d,h,n,hn=>by
  simp only[DataW.weightsAll,List.mem_append]
  rcases List.mem_cons.1 h with rfl|h
  ·exact Or.inl hn
  ·exact Or.inr (weightsAll_mem h n hn)
theorem carry_all{H:Type}{enc:TypeId × Value->H}{P:Program}(hl:laidOutB P=true){W W':World}(hb:Below W.heap.size W W'):∀ {ts:List TypeId} {vs:List Value} {ds:List (DataW H)} {p:List MemPlace},(∀ t∈ts,P.readableRec t=true/\t<P.types.size)->DataW.TrodAll enc P W 0 (fun _=>true) true ts vs ds p->(∀ x∈p,x.block<W.heap.size) ->
  DataW.TrodAll enc P W' 0 (fun b=>decide (b<W.heap.size)) true ts vs ds p
 | [],vs,ds,p,_,h,_=>by
  obtain⟨rfl,rfl,rfl⟩:=trodAll_nil h
  rfl
 | t :: ts,vs,ds,p,ht,h,hlt=>by
  obtain⟨v,vs',d,ds',p1,q,rfl,rfl,rfl,hd,hrest⟩:=trodAll_cons h;exact trodAll_cons_mk (Below.trod hl (ht t (by simp)).1 (ht t (by simp)).2 hd hb fun x hx=>hlt x (by simp[hx]))
   (carry_all hl hb (fun u hu=>ht u (by simp[hu])) hrest fun x hx=>hlt x (by simp[hx]))
theorem read3:Tryz.prog.readableRec 3=true/\3<Tryz.prog.types.size:=⟨by kernel_rfl,of_decide_eq_true (by kernel_rfl)⟩
theorem read9:Tryz.prog.readableRec 9=true/\9<Tryz.prog.types.size:=⟨by kernel_rfl,of_decide_eq_true (by kernel_rfl)⟩
theorem read38:Tryz.prog.readableRec 38=true/\38<Tryz.prog.types.size:=⟨by kernel_rfl,of_decide_eq_true (by kernel_rfl)⟩
theorem readAll:∀ t∈[3,9,38],Tryz.prog.readableRec t=true/\t<Tryz.prog.types.size:=by
 intro t ht;simp only[List.mem_cons,List.not_mem_nil,or_false] at ht
 rcases ht with rfl|rfl|rfl
 ·exact read3
 ·exact read9
 ·exact read38
end
end Go.Proofs.YtfphcecjhdkcoaaGreatDoor

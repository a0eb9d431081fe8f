/-
The walk of the reference's Installed.
-/
import Derived.Test.YtfphcecjhdkcoaaGreatDoorScrP06
import Derived.Test.YtfphcecjhdkcoaaGreatDoorScrP12
import Derived.Test.YtfphcecjhdkcoaaGreatDoorScrP13
import Derived.Test.YtfphcecjhdkcoaaGreatDoorScrP20
set_option maxRecDepth 100000
set_option maxHeartbeats 8000000
namespace Go.Proofs.YtfphcecjhdkcoaaGreatDoor
open Go.Lib (hid)
section
open Go.RowKit
namespace Z11
def flV(f:Sp.Fault):Value:=.agg #[.int .i64 (f.kind:Int),.int .i64 (f.which:Int),.int .i64 (f.line:Int),sv f.name]
def Shape(v:Value)(n:Nat):Prop:=v=.slice none 0 0\/∃ g cap,v=.slice (some ⟨g,0,none⟩) n cap
theorem shape_row{w:World}{B e size n:Nat}{v:Value}{xs:List Value}(h:w.ownsRow B e size v n xs):Shape v n:=by
 rcases h.2 with⟨h1,_⟩|⟨g,cap,cur,h1,_⟩
 ·exact .inl h1
 ·exact .inr ⟨g,cap,h1⟩
def PlanR(S:Nat->Prop)(T:List Sp.Pk)(ts:List Sp.Str)(w:World)(e:Ending)(w':World):Prop:=
 Below w.heap.size w w' /\
  ((∃ f,Sp.planned T ts=.inl f/\1<=f.kind/\f.kind<=8/\e=.returned (.tuple #[.slice none 0 0,.slice none 0 0,flV f])) \/
   (∃ A o v1 v2,Sp.planned T ts=.inr (pk A,o)/\e=.returned (.tuple #[v1,v2,flV Sp.okF]) /\
    PksOn (fun b=>S b\/w.heap.size<=b/\b<w'.heap.size) w' v1 A/\Shape v1 A.length/\w'.ownsRow w.heap.size 9 1 v2 o.length (o.map sv)))
structure Grow(B:Nat)(w:World)(v:Value)(F:List PV):Prop where
 row:w.ownsRow B 30 5 v F.length (Z9.row F)
 on:∀ x∈F,x.On (fun b=>B<=b/\b<w.heap.size/\v.ownBlock≠some b) w
theorem Grow.start(B:Nat)(w:World):Grow B w (.slice none 0 0) []:=⟨World.ownsRow_nil _ _ _ _,fun x hx=>by cases hx⟩
theorem Grow.keep{B:Nat}{w w':World}{v:Value}{F:List PV}(h:Grow B w v F)(hb:Below w.heap.size w w'):Grow B w' v F:=
 ⟨W3.row_keep h.row hb,fun x hx=>((h.on x hx).keep fun b hb'=>hb.block b hb'.2.1).mono fun _ hb'=>⟨hb'.1,Nat.lt_of_lt_of_le hb'.2.1 hb.size,hb'.2.2⟩⟩
theorem Grow.pks{B:Nat}{w:World}{v:Value}{F:List PV}(h:Grow B w v F):PksOn (fun b=>B<=b/\b<w.heap.size) w v F:=
 (Z9.of_row h.row fun x hx=>(h.on x hx).mono fun b hb=>(⟨hb.1,hb.2.1⟩:B<=b/\b<w.heap.size)).mono fun b hb=>by
  rcases hb with hb|hb
  ·exact hb
  ·exact⟨hb.2,hb.1⟩
theorem Grow.snoc{B:Nat}{w w':World}{v v':Value}{F:List PV}{x:PV}(h:Grow B w v F)(hx:x.On (fun b=>B<=b/\b<w.heap.size/\v.ownBlock≠some b) w)(hr:w'.ownsRow B 30 5 v' (F.length+1) (Z9.row F ++ x.cells))(hg:w.grownBy w' v.ownBlock)
  (hat:v'.ownBlock=v.ownBlock\/∃ g,v'.ownBlock=some g/\w.heap.size<=g):Grow B w' v' (F ++ [x]):=by
 have hz:=hg.size;have key:∀ y:PV,y.On (fun b=>B<=b/\b<w.heap.size/\v.ownBlock≠some b) w->y.On (fun b=>B<=b/\b<w'.heap.size/\v'.ownBlock≠some b) w':=fun y hy =>
  (hy.keep fun b hb=>hg.block b hb.2.1 (Ne.symm hb.2.2)).mono fun b hb=>⟨hb.1,by omega,fun e=>by
   rcases hat with e'|⟨g,e',hg'⟩
   ·rw[e'] at e;exact hb.2.2 e
   ·rw[e'] at e;injection e with e;omega⟩
 refine⟨?_,fun y hy=>?_⟩
 ·rw[List.length_append,Z9.row_app]
  have:Z9.row [x]=x.cells:=by unfold Z9.row;simp
  rw[this];exact hr
 ·rcases List.mem_append.1 hy with hy|hy
  ·exact key y (h.on y hy)
  ·rw[List.mem_singleton] at hy;subst hy;exact key _ hx
theorem find_in{A:List Sp.Pk}{n:Sp.Str}(h:(Sp.names A).contains n=true):0<=Z4.findI A n:=by
 unfold Z4.findI
 cases hf:A.findIdx? (fun p=>p.name == n) with
 | some k=>simp
 | none =>
  rw[List.findIdx?_eq_none_iff] at hf;rw[List.contains_iff_mem] at h;obtain⟨p,hp,e⟩:=List.mem_map.1 h;have:=hf p hp;rw[e] at this;simp at this
theorem find_out{A:List Sp.Pk}{n:Sp.Str}(h:(Sp.names A).contains n=false):Z4.findI A n=-1:=by
 refine Z4.find_miss fun p hp=>?_
 rw[<-Bool.not_eq_true,beq_iff_eq];intro e;have:(Sp.names A).contains n=true:=List.contains_iff_mem.2 (List.mem_map.2 ⟨p,hp,e⟩);rw[h] at this;cases this
structure Adds(B:Nat)(L F:List PV)(k:Nat)(W0 w:World)(v:Value):Prop where
 row:w.ownsRow B 30 5 v (L.length+k) (Z9.row (L ++ F.take k))
 add:Sp.addAll 0 (pk L) (pk (F.take k))=.inr (pk (L ++ F.take k))
 below:Below B W0 w
theorem planned_two{L F:List PV}{ts:List Sp.Str}(hr:Sp.readAll 0 ts=.inr (pk F)){k:Nat}(hk:k<F.length)(ha:Sp.addAll 0 (pk L) (pk (F.take k))=.inr (pk (L ++ F.take k)))(hc:(Sp.names (pk (L ++ F.take k))).contains F[k].p.name=true):
  Sp.planned (pk L) ts=.inl ⟨2,k,0,F[k].p.name⟩:=by
 have h5:=PL.add_snoc (pk (F.take k)) 0 (pk L) F[k].p;rw[ha] at h5;simp only at h5;rw[hc,if_pos rfl] at h5;have h6:=PL.add_stop (pk L) _ 0 (pk L) (pk (F.drop (k+1))) h5;have h7:(pk (F.take k) ++ [F[k].p]) ++ pk (F.drop (k+1))=pk F:=by
  have:pk (F.take k) ++ [F[k].p]=pk (F.take (k+1)):=by rw[List.take_succ_eq_append_getElem hk];unfold pk;rw[List.map_append];rfl
  rw[this];unfold pk;rw[<-List.map_append,List.take_append_drop]
 rw[h7] at h6;have hl:(pk (F.take k)).length=k:=by unfold pk;rw[List.length_map,List.length_take];omega
 rw[hl] at h6;unfold Sp.planned;rw[hr];simp only;rw[h6];simp
theorem add_next{L F:List PV}{k:Nat}(hk:k<F.length)(ha:Sp.addAll 0 (pk L) (pk (F.take k))=.inr (pk (L ++ F.take k)))(hc:(Sp.names (pk (L ++ F.take k))).contains F[k].p.name=false):
  Sp.addAll 0 (pk L) (pk (F.take (k+1)))=.inr (pk (L ++ F.take (k+1))):=by
 have h5:=PL.add_snoc (pk (F.take k)) 0 (pk L) F[k].p;rw[ha] at h5;simp only at h5;rw[hc,if_neg (by decide)] at h5;have e:pk (F.take k) ++ [F[k].p]=pk (F.take (k+1)):=by rw[List.take_succ_eq_append_getElem hk];unfold pk;rw[List.map_append];rfl
 rw[e] at h5;rw[h5]
 congr 1
 unfold pk;rw[List.take_succ_eq_append_getElem hk,List.map_append,List.map_append,List.map_append,List.append_assoc];rfl
theorem planned_judged{L F:List PV}{ts:List Sp.Str}(hr:Sp.readAll 0 ts=.inr (pk F))(ha:Sp.addAll 0 (pk L) (pk F)=.inr (pk (L ++ F))):Sp.planned (pk L) ts=match Sp.judged (pk L) (pk F) (pk (L ++ F)) with
  | .inl f=>.inl f
  | .inr o=>.inr (pk (L ++ F),o):=by
 unfold Sp.planned;rw[hr];simp only;rw[ha]
 dsimp only
 cases Sp.judged (pk L) (pk F) (pk (L ++ F)) <;> rfl
theorem judged4(T F:List Sp.Pk){A:List Sp.Pk}(h:Sp.lacking A≠[]):Sp.judged T F A=.inl ⟨4,0,0,Sp.lacking A⟩:=by
 unfold Sp.judged;rw[if_pos (by simpa using h)]
theorem judged5(T F:List Sp.Pk){A:List Sp.Pk}(h0:Sp.lacking A=[])(h:Sp.barring A≠[]):Sp.judged T F A=.inl ⟨5,0,0,Sp.barring A⟩:=by
 unfold Sp.judged;rw[if_neg (by rw[h0];decide),if_pos (by simpa using h)]
theorem judged6(T F:List Sp.Pk){A:List Sp.Pk}(h0:Sp.lacking A=[])(h1:Sp.barring A=[])(h:Sp.clash A≠[]):Sp.judged T F A=.inl ⟨6,0,0,Sp.clash A⟩:=by
 unfold Sp.judged;rw[if_neg (by rw[h0];decide),if_neg (by rw[h1];decide),if_pos (by simpa using h)]
theorem judged7(T F:List Sp.Pk){A:List Sp.Pk}(h0:Sp.lacking A=[])(h1:Sp.barring A=[])(h2:Sp.clash A=[])(h:(Sp.order T F).2≠[]):Sp.judged T F A=.inl ⟨7,0,0,Sp.least (Sp.names (Sp.order T F).2)⟩:=by
 unfold Sp.judged;rw[if_neg (by rw[h0];decide),if_neg (by rw[h1];decide),if_neg (by rw[h2];decide),if_pos (by simpa using h)]
theorem judged0(T F:List Sp.Pk){A:List Sp.Pk}(h0:Sp.lacking A=[])(h1:Sp.barring A=[])(h2:Sp.clash A=[])(h:(Sp.order T F).2=[]):Sp.judged T F A=.inr (Sp.order T F).1:=by
 unfold Sp.judged;rw[if_neg (by rw[h0];decide),if_neg (by rw[h1];decide),if_neg (by rw[h2];decide),if_neg (by rw[h];decide)]
theorem left_sub(T:List Sp.Pk):∀ (n:Nat) (l:List Sp.Pk),∀ p∈(Sp.orderN T n l).2,p∈l
 | 0,l,p,hp=>hp
 | n+1,l,p,hp=>by
  unfold Sp.orderN at hp
  split at hp
  ·exact hp
  ·exact(List.mem_filter.1 (left_sub T n _ p hp)).1
theorem least_next{Y:List PV}{j:Nat}(h:j<Y.length):Sp.least (Sp.names ((pk Y).take (j+1)))=Sp.first (Sp.least (Sp.names ((pk Y).take j))) Y[j].p.name:=by
 have hj:j<(pk Y).length:=by rw[pk_len];exact h
 rw[List.take_succ_eq_append_getElem hj];unfold Sp.names Sp.least;rw[List.map_append,List.foldl_append];have:(pk Y)[j]=Y[j].p:=pk_get hj h;simp[this]
end Z11
end
section
open Go.RowKit
theorem plannedR_any{S:Nat->Prop}(lv tv:Value)(ts:List Sp.Str)(L:List PV)(w:World)(hL:PksOn S w lv L)(hS:∀ b,S b->b<w.heap.size)(htv:StrsAt w tv ts)(hts:ts.length<=9000)(hLl:L.length<=1000)
  (hsh:Z11.Shape lv L.length)(hset:Sp.Set (pk L)):
  Calls Tryz.prog 94 #[lv,tv] w (Z11.PlanR S (pk L) ts w):=by
 have HL:=hid hL;have HS:=hid hS;have HSH:=hid hsh;have HSET:=hid hset;obtain⟨ta,tc,rfl,htc,htg⟩:=htv.get;have HTG:=hid htg;obtain⟨w1,hw1⟩:∃ w1,w1=w.alloc (.cells #[.int .i64 0,.int .i64 0,.int .i64 0,.string ⟨#[]⟩] 34):=⟨_,rfl⟩
 have hb1:Below w.heap.size w w1:=by rw[hw1];exact(Below.refl _ _).alloc (Nat.le_refl _) _
 have hz1:w1.heap.size=w.heap.size+1:=by rw[hw1];simp
 have hr1:∀ o,w1.cell? ⟨w.heap.size,o,none⟩=(#[.int .i64 0,.int .i64 0,.int .i64 0,.string ⟨#[]⟩]:Array Value)[o]?:=fun o=>by rw[hw1,World.cell?_alloc_at _ _ _ _ rfl]
 have HW1:=hid hw1;have hrf:∀ W,Below w1.heap.size w1 W->(W.cell? ⟨w.heap.size,0,none⟩=some (.int .i64 0)/\W.cell? ⟨w.heap.size,1,none⟩=some (.int .i64 0)/\W.cell? ⟨w.heap.size,2,none⟩=some (.int .i64 0)/\W.cell? ⟨w.heap.size,3,none⟩=some (.string ⟨#[]⟩)) /\
   (W.frozen? ⟨w.heap.size,0,none⟩=false/\W.frozen? ⟨w.heap.size,1,none⟩=false/\W.frozen? ⟨w.heap.size,2,none⟩=false/\W.frozen? ⟨w.heap.size,3,none⟩=false)/\w.heap.size<W.heap.size:=fun W hW=>by
  have hc:=fun o=>(hW.cell (p:=⟨w.heap.size,o,none⟩) (by show w.heap.size<_;omega)).trans (hr1 o)
  have hz:=fun o=>(hW.frozen (p:=⟨w.heap.size,o,none⟩) (by show w.heap.size<_;omega)).trans (show w1.frozen? ⟨w.heap.size,o,none⟩=false by rw[hw1];simp)
  exact⟨⟨hc 0,hc 1,hc 2,hc 3⟩,⟨hz 0,hz 1,hz 2,hz 3⟩,by have:=hW.size;omega⟩
 have HRF:=hid hrf;have HB1:=hid hb1;have HR1:=hid hr1;have hza:=Nat.le_of_eq hz1;have hzb:=Nat.le_of_eq hz1.symm;clear hL hS hsh hset htv htg hw1 hb1 hz1 hr1 hrf;go_enter Tryz.func94,Tryz.ntmps94;go_wp2_with fail;rw[<-HW1.out]
 go_loopw [7,8] (fun v i wr=>∃ (k:Nat) (F:List PV),k<=ts.length/\i=.int .i64 k/\F.length=k/\Sp.readAll 0 (ts.take k)=.inr (pk F)/\Z11.Grow w1.heap.size wr v F/\(∀ p∈pk F,V3.Good p)/\Below w1.heap.size w1 wr) (fun _ i _=>ts.length+1-(intOf i).toNat)
 case atStart=>exact⟨0,[],Nat.zero_le _,rfl,rfl,rfl,Z11.Grow.start _ _,fun p hp=>(by cases hp),Below.refl _ _⟩
 case round =>
  obtain⟨k,F,hk,rfl,hFl,hread,hgr,hgd,hbel⟩:=hrel;have HR:=hid hread;have HGR:=hid hgr;have HGD:=hid hgd;have HBL:=hid hbel;have hws:=hbel.size;clear hread hgr hgd hbel
  by_cases h:k<ts.length
  ·obtain⟨tb,toff,rfl,htb,htcell⟩:=HTG.out k h
   have hbw:Below w.heap.size w wr:=HB1.out.trans (HBL.out.mono (by omega));have htc':=(hbw.cell (p:=⟨tb,toff+k,none⟩) htb).trans htcell;have hpc:=readR_any ⟨ts[k].toArray⟩ wr;rw[bl_mk] at hpc;have HPC:=hid hpc;have htk:ts.take (k+1)=ts.take k ++ [ts[k]]:=List.take_succ_eq_append_getElem h;have HTD:=hid (show ts.take (k+1) ++ ts.drop (k+1)=ts from List.take_append_drop _ _);have hrs:=PL.read_snoc 0 (ts.take k) ts[k];rw[<-htk,HR.out] at hrs;have hlk:(ts.take k).length=k:=by rw[List.length_take];omega
   rw[hlk] at hrs;have HRS:=hid hrs;have hbr:tb<wr.heap.size:=by omega
   clear hpc htcell htk hrs hlk hbw;generalize hx:ts[k]=x at *;clear hx;go_wp2_with fail;refine HPC.out.mono ?_;rintro e w2 ⟨hb2,⟨n,hp,rfl⟩|⟨p,nv,bv,fv,hp,rfl,hok,g0,g1,g2⟩⟩
   ·have hz2:=hb2.size
    obtain⟨⟨c0,c1,c2,c3⟩,⟨z0,z1,z2,z3⟩,hR2⟩:=HRF.out w2 (HBL.out.trans (hb2.mono hws));have hbf:=(HB1.out.trans (HBL.out.mono (by omega))).trans (hb2.mono (by omega));have hrd:=HRS.out;rw[hp] at hrd;have hpl:Sp.planned (pk L) ts=.inl ⟨1,0+k,n,[]⟩:=by
     have:=PL.read_stop 0 _ (ts.drop (k+1)) hrd;rw[HTD.out] at this;unfold Sp.planned;rw[this]
    have HBF:=hid hbf;have HPL:=hid hpl;clear hbf hpl hrd hp hb2;go_wp2_with fail;refine bodyPost_ret (v:=.tuple #[.slice none 0 0,.slice none 0 0,.agg #[.int .i64 1,.int .i64 (k:Int),.int .i64 (n:Int),.string ⟨#[]⟩]]) (by simp[results,Tryz.results94,go_sem,hR2,c0,c1,c2,c3]) rfl ⟨?_,.inl ⟨_,HPL.out,by simp,by simp,by simp[Z11.flV,sv]⟩⟩
    repeat' (first|exact HBF.out|refine Below.setCell ?_ (by simp) _|refine Below.alloc ?_ (by simp;omega) _)
   ·have hz2:=hb2.size
    obtain⟨na,nc,rfl,_⟩:=g0.get;obtain⟨ba,bc,rfl,_⟩:=g1.get;obtain⟨fa,fc,rfl,_⟩:=g2.get;have hrd:=HRS.out;rw[hp] at hrd;have hgp:=(V3.parse_good hp).1;have hon:(PV.mk p (.slice na p.needs.length nc) (.slice ba p.bars.length bc) (.slice fa p.files.length fc)).On (fun b=>wr.heap.size<=b/\b<w2.heap.size) w2:=⟨g0,g1,g2,hok⟩
    have HRD:=hid hrd;have HGP:=hid hgp;obtain⟨w3,hw3⟩:∃ w3,w3=w2.alloc (.cells #[.string ⟨p.name.toArray⟩,.string ⟨p.ver.toArray⟩,.slice na p.needs.length nc,.slice ba p.bars.length bc,.slice fa p.files.length fc] 30):=⟨_,rfl⟩
    have hsz3:w3.heap.size=w2.heap.size+1:=by rw[hw3];simp
    have hb3:Below w2.heap.size w2 w3:=by rw[hw3];exact(Below.refl _ _).alloc (Nat.le_refl _) _
    have hb23:Below wr.heap.size wr w3:=hb2.trans (hb3.mono hz2);have HG3:=hid (HGR.out.keep hb23);have hon3:(PV.mk p (.slice na p.needs.length nc) (.slice ba p.bars.length bc) (.slice fa p.files.length fc)).On (fun b=>w1.heap.size<=b/\b<w3.heap.size/\u7.ownBlock≠some b) w3:=(hon.keep fun b hb=>hb3.block b hb.2).mono fun b hb=>⟨by omega,by have:=hb3.size;omega,fun e=>by have:=(HGR.out.row.lt b e).2;omega⟩
    have HON3:=hid hon3;have hz3:=hb3.size;have HB3:=hid (HBL.out.trans (hb23.mono hws));have HW3:=hid hw3;clear hrd hgp hon hb23 hon3 hb3 hw3 hp hok g0 g1 g2 hb2;unfold sv;go_wp2_with (at_builtin;rw[<-HW3.out];refine wp_app_at app111 w3 [.string ⟨p.name.toArray⟩,.string ⟨p.ver.toArray⟩,.slice na p.needs.length nc,.slice ba p.bars.length bc,.slice fa p.files.length fc] rfl (by simp[Value.oneCell']) rfl _ _ rfl w1.heap.size _ _ _ rfl HG3.out.row (by show Value.slice (some ⟨w2.heap.size+1,0,none⟩) 1 1=_;rw[hsz3]) (by omega) (by omega) ?_;intro v' w4 hrow4 hg4 hv4 hloc4);have hG4:=HG3.out.snoc HON3.out hrow4 hg4 hloc4;have hb4:Below w1.heap.size w1 w4:=below_of_grown HB3.out (by omega) HG3.out.row hg4;go_roundw
    case rel=>exact⟨k+1,F ++ [_],h,by go_num,by rw[List.length_append,hFl];rfl,by rw[HRD.out];simp[pk],hG4,fun q hq=>by
      unfold pk at hq;rw[List.map_append,List.mem_append] at hq
      rcases hq with hq|hq
      ·exact HGD.out q hq
      ·have:q=p:=by simpa using hq
       rw[this];exact HGP.out,hb4⟩
    case measure=>simp[intOf];omega
  ·generalize wr=wa at *
   have hke:k=ts.length:=by omega
   have hread:=HR.out;rw[hke,List.take_length] at hread;have HRD:=hid hread;have hFn:F.length=ts.length:=by omega
   have hFle:F.length<=9000:=by omega
   have HFP:=hid HGR.out.pks;have HFS:=hid (Z11.shape_row HGR.out.row);have hon:∀ W,Below wa.heap.size wa W->∀ x∈L ++ F,x.On (fun b=>S b\/(w1.heap.size<=b/\b<wa.heap.size)) W:=fun W hW x hx=>by
    rcases List.mem_append.1 hx with hx|hx
    ·exact((HL.out.2 x hx).keep fun b hb=>((HB1.out.trans (HBL.out.mono (by omega))).trans (hW.mono (by omega))).block b (HS.out b hb)).mono fun b hb=>.inl hb
    ·exact((HFP.out.2 x hx).keep fun b hb=>hW.block b hb.2).mono fun b hb=>.inr ⟨by omega,hb.2⟩
   have HON:=hid hon;have hLW:PksOn S wa lv L:=HL.out.keep fun b hb=>(HB1.out.trans (HBL.out.mono (by omega))).block b (HS.out b hb)
   have HLW:=hid hLW;have HONE:=hid (Z9.row_one L (Z9.on_one hLW.2));obtain⟨ti,hi0,hj0,hj1,hj2⟩:=info_parts info30;have HI0:=hid hi0;have HZ0:=hid hj0;have HZ1:=hid hj1;have HZ2:=hid hj2;have HFN:=hid hFn;clear hread hFn hon hLW hi0 hj0 hj1 hj2 HR hke hFl;go_upto_region 9 with(fail)
   go_cut [11] from 41 to 42 (fun v11 wx=>wx.ownsRow wa.heap.size 30 5 v11 L.length (Z9.row L)/\Below wa.heap.size wa wx)
   case first =>
    rcases HSH.out with rfl|⟨g,cap,rfl⟩
    ·have hF0:L=[]:=by
      obtain⟨a,c,e,_⟩:=HLW.out.get;injection e with _ e2 _
      exact List.length_eq_zero_iff.1 e2.symm
     subst hF0;go_wp2_with (at_builtin;refine wpList_append_own_none rfl (.const (.slice none 0 0)) (.tmp 41) 111 rfl wa.heap.size 30 ti 5 Tryz.underlying111 HI0.out _ 0 [] rfl (World.ownsRow_nil _ _ _ _) rfl ?_);go_meet
     case rel=>exact⟨World.ownsRow_nil _ _ _ _,Below.refl _ _⟩
    ·have HC:=hid (Z9.cells_row HLW.out)
     go_wp2_with (at_builtin;refine wpList_append_own wa rfl (.const (.slice none 0 0)) (.tmp 41) 111 rfl wa.heap.size 30 ti _ 5 104 Tryz.underlying111 HI0.out HZ0.out HZ1.out HZ2.out rfl (by decide) _ 0 [] rfl (World.ownsRow_nil _ _ _ _) ⟨g,0,none⟩ L.length cap (Z9.row L) rfl (Z9.row_len L) HC.out HONE.out (by unfold maxLen;omega) (by omega) (Nat.le_refl _) ?_;intro v7 w7 hown7 hgrow7 _);have hb7:Below wa.heap.size wa w7:=(Below.refl _ _).grown hgrow7 (Nat.le_refl _) fun g hg=>by cases hg
     simp only[Nat.zero_add,List.nil_append] at hown7;go_meet
     case rel=>exact⟨hown7,hb7⟩
   case rest =>
    obtain⟨hown,hbc⟩:=hcut;have HOWN:=hid hown;have HBC:=hid hbc;obtain⟨fa,fc,hfv,hfc,hfg⟩:=HFP.out.get;subst hfv;have HFG:=hid hfg;clear hown hbc hfg;go_wp2_with fail
    go_loopw [11,12] (fun v i wr=>∃ k:Nat,k<=F.length/\i=.int .i64 k/\Z11.Adds wa.heap.size L F k wa wr v) (fun _ i _=>F.length+1-(intOf i).toNat)
    case atStart=>exact⟨0,Nat.zero_le _,rfl,by simpa using HOWN.out,by simp[pk,Sp.addAll],HBC.out⟩
    case round =>
     obtain⟨k,hk,rfl,had⟩:=hrel;have HAD:=hid had;have hzx:=had.below.size;clear had;have hlen:(L ++ F.take k).length=L.length+k:=by rw[List.length_append,List.length_take];omega
     have hpk:∀ W,Below wr.heap.size wr W->PksOn (fun b=>S b\/(w1.heap.size<=b/\b<W.heap.size)) W u11 (L ++ F.take k):=fun W hW=>by
      have hzW:=hW.size;refine(Z9.of_row (by rw[hlen];exact W3.row_keep HAD.out.row hW) (S:=fun b=>S b\/(w1.heap.size<=b/\b<wa.heap.size)) fun x hx=>HON.out W (HAD.out.below.trans (hW.mono hzx)) x ?_).mono fun b hb=>?_
      ·rcases List.mem_append.1 hx with hx|hx
       ·exact List.mem_append.2 (.inl hx)
       ·exact List.mem_append.2 (.inr (List.mem_of_mem_take hx))
      ·rcases hb with(hb|hb)|hb
       ·exact .inl hb
       ·exact .inr ⟨hb.1,by omega⟩
       ·exact .inr ⟨by have:=hb.2;omega,hb.1⟩
     have HPK:=hid hpk;have hlA:(L ++ F.take k).length<=10000:=by rw[List.length_append,List.length_take];omega
     clear hpk;obtain⟨aa,ac,rfl⟩:=W3.row_slice HAD.out.row
     by_cases hkf:k<F.length
     ·obtain⟨b,off,rfl,hSb,x0,x1,x2,x3,x4⟩:=HFG.out k hkf
      have hc0:∀ W,Below wa.heap.size wa W->W.cell? ⟨b,off+k*5,none⟩=some (sv F[k].p.name):=fun W hW=>(hW.cell (p:=⟨b,off+k*5,none⟩) hSb.2).trans x0
      have hfd:=findR_any _ (L ++ F.take k) F[k].p.name wr (HPK.out wr (Below.refl _ _)) (fun b hb=>by rcases hb with hb|hb;(· have:=HS.out b hb;omega);exact hb.2) (by omega);have y0:=(HAD.out.below.cell (p:=⟨b,off+k*5,none⟩) hSb.2).trans x0;have hbx:b<wr.heap.size:=by omega
      have HFD:=hid hfd;clear hfd;unfold sv at y0
      cases hcn:(Sp.names (pk (L ++ F.take k))).contains F[k].p.name with
      | true =>
       have hj:=Z11.find_in hcn;have HPL:=hid (Z11.planned_two HRD.out hkf HAD.out.add hcn);obtain⟨j,hje⟩:∃ j,j=Z4.findI (pk (L ++ F.take k)) F[k].p.name:=⟨_,rfl⟩
       rw[<-hje] at hj HFD;clear hje hcn;go_wp2_with fail;refine HFD.out.mono ?_;rintro e w5 ⟨rfl,hb5⟩;have hz5:=hb5.size;have hb15:Below w1.heap.size w1 w5:=HBL.out.trans (((HAD.out.below.trans (hb5.mono hzx))).mono hws);obtain⟨⟨c0,c1,c2,c3⟩,⟨z0,z1,z2,z3⟩,hR2⟩:=HRF.out w5 hb15;have y5:=(hb5.cell (p:=⟨b,off+k*5,none⟩) hbx).trans y0;have hbx5:b<w5.heap.size:=by omega
       have HBF:=hid (HB1.out.trans (hb15.mono (by omega)));clear hb15 hb5;go_wp2_with fail;go_region;go_wp2_with fail;refine bodyPost_ret (v:=.tuple #[.slice none 0 0,.slice none 0 0,.agg #[.int .i64 2,.int .i64 (k:Int),.int .i64 0,.string ⟨F[k].p.name.toArray⟩]]) (by simp[results,Tryz.results94,go_sem,c0,c1,c2,c3]) rfl ⟨?_,.inl ⟨_,HPL.out,by simp,by simp,by simp[Z11.flV,sv]⟩⟩
       repeat' (first|exact HBF.out|refine Below.setCell ?_ (by simp) _|refine Below.alloc ?_ (by simp;omega) _|refine Below.drew ?_)
      | false =>
       have hj:=Z11.find_out hcn;have HNX:=hid (Z11.add_next hkf HAD.out.add hcn);rw[hj] at HFD;have hrow1:Z9.row [F[k]]=F[k].cells:=by unfold Z9.row;simp
       have HTK:=hid (List.take_succ_eq_append_getElem hkf);have hon:=HON.out wa (Below.refl _ _) F[k] (List.mem_append.2 (.inr (List.getElem_mem hkf)));have y1:=(HAD.out.below.cell (p:=⟨b,off+k*5+1,none⟩) hSb.2).trans x1;have y2:=(HAD.out.below.cell (p:=⟨b,off+k*5+2,none⟩) hSb.2).trans x2;have y3:=(HAD.out.below.cell (p:=⟨b,off+k*5+3,none⟩) hSb.2).trans x3;have y4:=(HAD.out.below.cell (p:=⟨b,off+k*5+4,none⟩) hSb.2).trans x4;clear hcn hj x0 x1 x2 x3 x4;obtain⟨y,hy⟩:∃ y,y=F[k]:=⟨_,rfl⟩
       rw[<-hy] at hon y0 y1 y2 y3 y4 hrow1 HFD HTK;obtain⟨p,nv,bv,fv⟩:=y;obtain⟨na,nc,hn1,_⟩:=hon.needs.get;obtain⟨ba,bc,hn2,_⟩:=hon.bars.get;obtain⟨fa',fc',hn3,_⟩:=hon.files.get;simp only at hn1 hn2 hn3;subst hn1 hn2 hn3;have HR1':=hid hrow1;have HY:=hid hy;clear hon hrow1 hy;simp only at y0 y1 y2 y3 y4 HFD;unfold sv at y1;go_wp2_with fail;refine HFD.out.mono ?_;rintro e w5 ⟨rfl,hb5⟩;have hz5:=hb5.size;have u0:=(hb5.cell (p:=⟨b,off+k*5,none⟩) hbx).trans y0;have u1:=(hb5.cell (p:=⟨b,off+k*5+1,none⟩) hbx).trans y1;have u2:=(hb5.cell (p:=⟨b,off+k*5+2,none⟩) hbx).trans y2;have u3:=(hb5.cell (p:=⟨b,off+k*5+3,none⟩) hbx).trans y3;have u4:=(hb5.cell (p:=⟨b,off+k*5+4,none⟩) hbx).trans y4;have hbx5:b<w5.heap.size:=by omega
       have HROW5:=hid (W3.row_keep HAD.out.row hb5);have HB5:=hid (HAD.out.below.trans (hb5.mono hzx));clear hb5 y0 y1 y2 y3 y4;go_wp2_with (at_builtin;refine wp_app_at app111 w5 [.string ⟨p.name.toArray⟩,.string ⟨p.ver.toArray⟩,.slice na p.needs.length nc,.slice ba p.bars.length bc,.slice fa' p.files.length fc'] rfl (by simp[Value.oneCell']) rfl _ _ rfl wa.heap.size _ _ _ rfl HROW5.out rfl (by omega) (by omega) ?_;intro v' w6 hrow6 hg6 hv6 hloc6);have hb6:Below wa.heap.size wa w6:=below_of_grown HB5.out (by omega) HROW5.out hg6;go_roundw
       case rel=>exact⟨k+1,hkf,by go_num,by rw[HTK.out,<-List.append_assoc,Z9.row_app,HR1'.out];exact hrow6,HNX.out,hb6⟩
       case measure=>simp[intOf];omega
     ·have hke:k=F.length:=by omega
      subst hke;have hadd:=HAD.out.add;have hrowA:=HAD.out.row;rw[List.take_length] at hadd hrowA HPK;have HADD:=hid hadd;have HROWA:=hid hrowA;have HBA:=hid HAD.out.below;clear hadd hrowA HAD;have hlen':(L ++ F).length=L.length+F.length:=List.length_append;obtain⟨had1,had2,had3⟩:=(V9.add_iff _ _ _ _).1 HADD.out;have hsetA:Sp.Set (pk (L ++ F)):=by rw[had1];exact V9.set_append HSET.out HGD.out had2 had3
      have hSW:∀ W,Below wr.heap.size wr W->∀ b,(S b\/(w1.heap.size<=b/\b<W.heap.size))->b<W.heap.size:=fun W hW b hb=>by
       have:=hW.size
       rcases hb with hb|hb
       ·have:=HS.out b hb;omega
       ·exact hb.2
      have HLEN:=hid (Nat.le_of_eq hlen');have hplan:=Z11.planned_judged HRD.out HADD.out;have HPLAN:=hid hplan;have HSA:=hid hsetA;have HSW:=hid hSW;have HPG:=hid (HPK.out);have hbT:Below w1.heap.size w1 wr:=HBL.out.trans (HBA.out.mono hws);have HBT:=hid hbT;have hlack:=lackR_any _ (L ++ F) wr (HPK.out wr (Below.refl _ _)) (HSW.out wr (Below.refl _ _)) (by omega);have HLACK:=hid hlack;obtain⟨n1,hn1⟩:∃ n1,n1=Sp.lacking (pk (L ++ F)):=⟨_,rfl⟩
      rw[<-hn1] at HLACK;have HN1:=hid hn1;have HAD2:=hid had2;clear hSW hplan hsetA hlack had1 had2 had3 hbT hn1;go_wp2_with fail;refine HLACK.out.mono ?_;rintro e w5 ⟨rfl,hb5⟩;have HB5:=hid hb5;have hz5:=hb5.size;clear hb5;obtain⟨⟨c0,c1,c2,c3⟩,⟨z0,z1,z2,z3⟩,hR2⟩:=HRF.out w5 (HBT.out.trans (HB5.out.mono (by omega)));unfold sv
      cases n1 with
      | cons x xs =>
       have hpl:Sp.planned (pk L) ts=.inl ⟨4,0,0,x :: xs⟩:=by
        rw[HPLAN.out,Z11.judged4 _ _ (by rw[<-HN1.out];simp),<-HN1.out]
       have HBF:=hid (HB1.out.trans ((HBT.out.trans (HB5.out.mono (by omega))).mono (by omega)));have HPL:=hid hpl;clear hpl;go_wp2_with fail;refine bodyPost_ret (v:=.tuple #[.slice none 0 0,.slice none 0 0,.agg #[.int .i64 4,.int .i64 0,.int .i64 0,.string ⟨(x :: xs).toArray⟩]]) (by simp[results,Tryz.results94,go_sem,c0,c1,c2,c3]) rfl ⟨?_,.inl ⟨_,HPL.out,by simp,by simp,by simp[Z11.flV,sv]⟩⟩
       repeat' (first|exact HBF.out|refine Below.setCell ?_ (by simp) _|refine Below.alloc ?_ (by simp;omega) _|refine Below.drew ?_)
      | nil =>
       clear c0 c1 c2 c3 z0 z1 z2 z3 hR2;have hbar:=barR_any _ (L ++ F) w5 (HPG.out w5 HB5.out) (HSW.out w5 HB5.out) (by omega) HSA.out.apart;obtain⟨n2,hn2⟩:∃ n2,n2=Sp.barring (pk (L ++ F)):=⟨_,rfl⟩
       rw[<-hn2] at hbar;have HBAR:=hid hbar;have HN2:=hid hn2;clear hbar hn2;go_wp2_with fail;refine HBAR.out.mono ?_;rintro e w6 ⟨rfl,hb6⟩;have HB6:=hid (HB5.out.trans (hb6.mono hz5));have hz6:=hb6.size;clear hb6;have hbz:=HBT.out.trans (HB6.out.mono (by omega));obtain⟨⟨c0,c1,c2,c3⟩,⟨z0,z1,z2,z3⟩,hR2⟩:=HRF.out w6 hbz;unfold sv
       cases n2 with
       | cons x xs =>
         have hpl:Sp.planned (pk L) ts=.inl ⟨5,0,0,x :: xs⟩:=by
          rw[HPLAN.out,Z11.judged5 _ _ HN1.out.symm (by rw[<-HN2.out];simp),<-HN2.out]
         have HBF:=hid (HB1.out.trans (hbz.mono (by omega)));have HPL:=hid hpl;clear hpl hbz;go_wp2_with fail;refine bodyPost_ret (v:=.tuple #[.slice none 0 0,.slice none 0 0,.agg #[.int .i64 5,.int .i64 0,.int .i64 0,.string ⟨(x :: xs).toArray⟩]]) (by simp[results,Tryz.results94,go_sem,c0,c1,c2,c3]) rfl ⟨?_,.inl ⟨_,HPL.out,by simp,by simp,by simp[Z11.flV,sv]⟩⟩
         repeat' (first|exact HBF.out|refine Below.setCell ?_ (by simp) _|refine Below.alloc ?_ (by simp;omega) _|refine Below.drew ?_)
       | nil =>
        clear c0 c1 c2 c3 z0 z1 z2 z3 hR2 hbz;have hcla:=clashR_any _ (L ++ F) w6 (HPG.out w6 HB6.out) (HSW.out w6 HB6.out) (by omega) (fun p hp=>V17.clash1_nodup (HSA.out.good p hp).wf.clash) (V9.paths_ne HSA.out.good);obtain⟨n3,hn3⟩:∃ n3,n3=Sp.clash (pk (L ++ F)):=⟨_,rfl⟩
        rw[<-hn3] at hcla;have HCLA:=hid hcla;have HN3:=hid hn3;clear hcla hn3;go_wp2_with fail;refine HCLA.out.mono ?_;rintro e wq ⟨rfl,hwq⟩;have hwq':=hwq.symm;subst hwq';clear hwq;have hbz:=HBT.out.trans (HB6.out.mono (by omega));obtain⟨⟨c0,c1,c2,c3⟩,⟨z0,z1,z2,z3⟩,hR2⟩:=HRF.out w6 hbz;unfold sv
        cases n3 with
        | cons x xs =>
          have hpl:Sp.planned (pk L) ts=.inl ⟨6,0,0,x :: xs⟩:=by
           rw[HPLAN.out,Z11.judged6 _ _ HN1.out.symm HN2.out.symm (by rw[<-HN3.out];simp),<-HN3.out]
          have HBF:=hid (HB1.out.trans (hbz.mono (by omega)));have HPL:=hid hpl;clear hpl hbz;go_wp2_with fail;refine bodyPost_ret (v:=.tuple #[.slice none 0 0,.slice none 0 0,.agg #[.int .i64 6,.int .i64 0,.int .i64 0,.string ⟨(x :: xs).toArray⟩]]) (by simp[results,Tryz.results94,go_sem,c0,c1,c2,c3]) rfl ⟨?_,.inl ⟨_,HPL.out,by simp,by simp,by simp[Z11.flV,sv]⟩⟩
          repeat' (first|exact HBF.out|refine Below.setCell ?_ (by simp) _|refine Below.alloc ?_ (by simp;omega) _|refine Below.drew ?_)
        | nil =>
         clear c0 c1 c2 c3 z0 z1 z2 z3 hR2;have hba6:Below wa.heap.size wa w6:=HBA.out.trans (HB6.out.mono (by omega));have hord:=orderR_any (S:=fun b=>S b\/(w1.heap.size<=b/\b<wa.heap.size)) _ lv F L w6 ((HFP.out.keep fun b hb=>hba6.block b hb.2).mono fun b hb=>.inr ⟨by omega,hb.2⟩) ((HLW.out.keep fun b hb=>hba6.block b (by have:=HS.out b hb;omega)).mono fun b hb=>.inl hb)
          (fun b hb=>by rcases hb with hb|hb;(· have:=HS.out b hb;omega);(· omega)) (by omega) (by omega) HFS.out HAD2.out (V9.names_ne HGD.out)
         have HORD:=hid hord;have HBZ:=hid hbz;clear hord hbz hba6;go_wp2_with fail;refine HORD.out.mono ?_;rintro e w7 ⟨v1,v2,Y,rfl,hown,hY,hYe,hb7⟩;have hz7:=hb7.size;have hord0:Sp.judged (pk L) (pk F) (pk (L ++ F))=if (Sp.order (pk L) (pk F)).2=[] then .inr (Sp.order (pk L) (pk F)).1 else .inl ⟨7,0,0,Sp.least (Sp.names (pk Y))⟩:=by
          split
          ·rename_i h0;exact Z11.judged0 _ _ HN1.out.symm HN2.out.symm HN3.out.symm h0
          ·rename_i h0;rw[hYe];exact Z11.judged7 _ _ HN1.out.symm HN2.out.symm HN3.out.symm h0
         have hlY:Y.length<=9000:=by
          have h0:=V9.order_len (pk L) F.length (pk F) (V9.names_ne HGD.out) HAD2.out;have h1:(pk Y).length=Y.length:=pk_len Y;rw[hYe] at h1;have h2:(pk F).length=F.length:=pk_len F;unfold Sp.order at h1;rw[h2] at h1;omega
         have hneY:∀ x∈Sp.names (pk Y),x≠[]:=fun x hx=>by
          obtain⟨p,hp,rfl⟩:=List.mem_map.1 hx;rw[hYe] at hp;exact V9.names_ne HGD.out p (Z11.left_sub _ _ _ p hp)
         obtain⟨ya,yc,hyv,hyc,hyg⟩:=hY.get;subst hyv;have HYG:=hid hyg;have HNEY:=hid hneY;have HORD0:=hid hord0;have HOWN:=hid hown;have HYE:=hid hYe;have HB7:=hid (HB6.out.trans (hb7.mono (by omega)));clear hY hyg hneY hord0 hown hYe hb7;go_wp2_with fail
         go_loopw [14,17] (fun n i wr=>∃ j:Nat,j<=Y.length/\i=.int .i64 j/\n=sv (Sp.least (Sp.names ((pk Y).take j)))/\wr=w7) (fun _ i _=>Y.length-(intOf i).toNat)
         case atStart=>exact⟨0,Nat.zero_le _,rfl,rfl,rfl⟩
         case round =>
          obtain⟨j,hj,rfl,rfl,hww⟩:=hrel;have hww':=hww.symm;subst hww';clear hww
          by_cases hjl:j<Y.length
          ·obtain⟨b,off,rfl,hbY,x0,_⟩:=HYG.out j hjl
           have HNXT:=hid (Z11.least_next hjl);obtain⟨n0,hn0⟩:∃ n0,n0=Sp.least (Sp.names ((pk Y).take j)):=⟨_,rfl⟩
           rw[<-hn0] at HNXT ⊢;clear hn0;unfold sv at x0 ⊢;go_wp2_with fail;refine(firstR_any n0 Y[j].p.name _).mono ?_;rintro e wq ⟨rfl,hwq⟩;have hwq':=hwq.symm;subst hwq';clear hwq;unfold sv;go_wp2_with fail;exact⟨⟨j+1,hjl,rfl,by rw[HNXT.out];exact⟨rfl,trivial⟩⟩,by show Y.length-((j:Int)+1).toNat<Y.length-(j:Int).toNat;omega⟩
          ·have hje:j=Y.length:=by omega
           subst hje;have hzz:¬((Y.length:Nat):Int)<((Y.length:Nat):Int):=by omega
           rw[pk_all Y (Nat.le_refl _)];have hbz:=HBT.out.trans (HB7.out.mono (by omega));obtain⟨⟨c0,c1,c2,c3⟩,⟨z0,z1,z2,z3⟩,hR2⟩:=HRF.out w7 hbz;obtain⟨n4,hn4⟩:∃ n4,n4=Sp.least (Sp.names (pk Y)):=⟨_,rfl⟩
           rw[<-hn4] at HORD0 ⊢;have HN4:=hid hn4;clear hn4;unfold sv
           cases n4 with
           | cons x xs =>
            have hpl:Sp.planned (pk L) ts=.inl ⟨7,0,0,x :: xs⟩:=by
             have hne:¬(Sp.order (pk L) (pk F)).2=[]:=fun e=>by
              rw[<-HYE.out] at e;have:=HN4.out;rw[e] at this;cases this
             rw[HPLAN.out,HORD0.out,if_neg hne]
            have HBF:=hid (HB1.out.trans (hbz.mono (by omega)));have HPL:=hid hpl;clear hpl hbz;go_wp2_with fail;refine bodyPost_ret (v:=.tuple #[.slice none 0 0,.slice none 0 0,.agg #[.int .i64 7,.int .i64 0,.int .i64 0,.string ⟨(x :: xs).toArray⟩]]) (by simp[results,Tryz.results94,go_sem,c0,c1,c2,c3]) rfl ⟨?_,.inl ⟨_,HPL.out,by simp,by simp,by simp[Z11.flV,sv]⟩⟩
            repeat' (first|exact HBF.out|refine Below.setCell ?_ (by simp) _|refine Below.alloc ?_ (by simp;omega) _|refine Below.drew ?_)
           | nil =>
            have hpl:Sp.planned (pk L) ts=.inr (pk (L ++ F),(Sp.order (pk L) (pk F)).1):=by
             have hne:(Sp.order (pk L) (pk F)).2=[]:=by
              rw[<-HYE.out];exact List.map_eq_nil_iff.1 ((V5.least_none HNEY.out).1 HN4.out.symm)
             rw[HPLAN.out,HORD0.out,if_pos hne]
            have HBF:=hid (HB1.out.trans (hbz.mono (by omega)));have HPL:=hid hpl;clear hpl hbz;go_wp2_with fail;have hX:∀ b,b≠w.heap.size->((((w7.setCell ⟨w.heap.size,0,none⟩ (.int .i64 0)).setCell ⟨w.heap.size,1,none⟩ (.int .i64 0)).setCell ⟨w.heap.size,2,none⟩ (.int .i64 0)).setCell ⟨w.heap.size,3,none⟩ (.string ⟨#[]⟩)).heap[b]? = w7.heap[b]?:=fun b hb=>by
             rw[Below.heap_setCell _ _ _ _ hb,Below.heap_setCell _ _ _ _ hb,Below.heap_setCell _ _ _ _ hb,Below.heap_setCell _ _ _ _ hb]
            refine bodyPost_ret (v:=.tuple #[.slice aa (L.length+F.length) ac,v1,.agg #[.int .i64 0,.int .i64 0,.int .i64 0,.string ⟨#[]⟩]]) (by simp[results,Tryz.results94,go_sem,c0,c1,c2,c3]) rfl ⟨?_,.inr ⟨_,_,_,_,HPL.out,rfl,?_,?_,?_⟩⟩
            ·repeat' (first|exact HBF.out|refine Below.setCell ?_ (by simp) _)
            ·refine((HPG.out w7 HB7.out).keep fun b hb=>hX b ?_).mono fun b hb=>?_
             ·rcases hb with hb|hb
              ·have:=HS.out b hb;omega
              ·omega
             ·rcases hb with hb|hb
              ·exact .inl hb
              ·exact .inr ⟨by omega,by simpa using hb.2⟩
            ·rw[List.length_append];exact Z11.shape_row HROWA.out
            ·refine W3.row_base (row_block HOWN.out fun k hk=>hX k (by omega)) (by omega)
end
section
open Go.RowKit
theorem roomR_any(n:Int)(w:World)(h:0<=n/\n<=1000000):Calls Tryz.prog 98 #[.int .i64 n] w fun e w'=>e=.returned (.int .i64 (24*(n-8)))/\w'=w:=by
 have q1:IntKind.i64.wrap (n-8)=n-8:=IntWalk.i64_in _ (by omega);have q2:IntKind.i64.wrap (24*(n-8))=24*(n-8):=IntWalk.i64_in _ (by omega);go_enter Tryz.func98,Tryz.ntmps98;go_wp2;go_ret;exact⟨rfl,rfl⟩
def Sp.sectors(n:Int):Int:=if n<16 then 16 else if 256<n then 256 else n
theorem sectorsR_any(n:Int)(w:World):Calls Tryz.prog 59 #[.int .i64 n] w fun e w'=>e=.returned (.int .i64 (Sp.sectors n))/\w'=w:=by
 unfold Sp.sectors
 by_cases h1:n<16
 ·rw[if_pos h1]
  go_enter Tryz.func59,Tryz.ntmps59;go_wp2;go_ret;exact⟨rfl,rfl⟩
 ·rw[if_neg h1]
  by_cases h2:256<n
  ·rw[if_pos h2]
   go_enter Tryz.func59,Tryz.ntmps59;go_wp2;go_ret;exact⟨rfl,rfl⟩
  ·rw[if_neg h2]
   go_enter Tryz.func59,Tryz.ntmps59;go_wp2;go_ret;exact⟨rfl,rfl⟩
namespace Z13
theorem size_next{X:List PV}{k:Nat}(h:k<X.length):Sp.size ((pk X).take (k+1))=Sp.size ((pk X).take k)+(Sp.print X[k].p).length:=by
 have hk:k<(pk X).length:=by rw[pk_len];exact h
 rw[List.take_succ_eq_append_getElem hk];unfold Sp.size;rw[List.map_append,List.sum_append];have:(pk X)[k]=X[k].p:=pk_get hk h;simp[this]
theorem size_le:∀ (l:List Sp.Pk),(∀ p∈l,V3.Good p)->Sp.size l<=300*l.length
 | [],_=>by simp[Sp.size]
 | p :: r,h=>by
  have h1:=(h p (by simp)).len;have h2:=size_le r fun q hq=>h q (List.mem_cons_of_mem _ hq)
  unfold Sp.size at h2 ⊢;simp only[List.map_cons,List.sum_cons,List.length_cons];omega
end Z13
theorem sizeR_any{S:Nat->Prop}(v:Value)(X:List PV)(w:World)(h:PksOn S w v X)(hS:∀ b,S b->b<w.heap.size)(hX:X.length<=1000000)(hgood:∀ p∈pk X,V3.Good p):
  Calls Tryz.prog 97 #[v] w fun e w'=>e=.returned (.int .i64 (Sp.size (pk X)))/\Below w.heap.size w w':=by
 have hk:∀ W,Below w.heap.size w W->PksOn (fun b=>b<W.heap.size) W v X:=fun W hW=>(h.keep fun b hb=>hW.block b (hS b hb)).mono fun b hb=>Nat.lt_of_lt_of_le (hS b hb) hW.size
 have HK:=hid hk;obtain⟨a,cap,rfl,hc,hg⟩:=h.get;have HG:=hid hg;have HS:=hid hS;have HGO:=hid hgood;clear h hg hS hk hgood;go_enter Tryz.func97,Tryz.ntmps97;go_wp2_with fail
 go_loopw [3,4] (fun n i wr=>∃ k:Nat,k<=X.length/\i=.int .i64 k/\n=.int .i64 (Sp.size ((pk X).take k):Nat)/\Below w.heap.size w wr) (fun _ i _=>X.length-(intOf i).toNat)
 case atStart=>exact⟨0,Nat.zero_le _,rfl,rfl,Below.refl _ _⟩
 case round =>
  obtain⟨k,hk,rfl,rfl,hbel⟩:=hrel;have HBL:=hid hbel;have hzr:=hbel.size;have hsz:=Z13.size_le ((pk X).take k) fun p hp=>HGO.out p (List.mem_of_mem_take hp)
  rw[List.length_take] at hsz;clear hbel
  by_cases hlt:k<X.length
  ·obtain⟨b,off,rfl,hSb,c0,c1,c2,c3,c4⟩:=HG.out k hlt
   have hbl:=HS.out b hSb;have d0:=(HBL.out.cell (p:=⟨b,off+k*5,none⟩) hbl).trans c0;have d1:=(HBL.out.cell (p:=⟨b,off+k*5+1,none⟩) hbl).trans c1;have d2:=(HBL.out.cell (p:=⟨b,off+k*5+1+1,none⟩) hbl).trans c2;have d3:=(HBL.out.cell (p:=⟨b,off+k*5+1+1+1,none⟩) hbl).trans c3;have d4:=(HBL.out.cell (p:=⟨b,off+k*5+1+1+1+1,none⟩) hbl).trans c4;have hon:=(HK.out wr HBL.out).2 X[k] (List.getElem_mem hlt);have hpr:=printR_any X[k].p X[k].nv X[k].bv X[k].fv wr hon.ok hon.needs hon.bars hon.files;have hnx:=Z13.size_next hlt;have hpl:=(HGO.out X[k].p (List.mem_map.2 ⟨_,List.getElem_mem hlt,rfl⟩)).len;obtain⟨y,hy⟩:∃ y,y=X[k]:=⟨_,rfl⟩
   rw[<-hy] at d0 d1 d2 d3 d4 hpr hnx hpl;have HPR:=hid hpr;have HNX:=hid hnx;have hbr:b<wr.heap.size:=by omega
   obtain⟨m,hm⟩:∃ m,m=Sp.size ((pk X).take k):=⟨_,rfl⟩
   rw[<-hm] at HNX hsz ⊢;have q1:IntKind.i64.wrap ((m:Int)+((Sp.print y.p).length:Int))=(m:Int)+((Sp.print y.p).length:Int):=IntWalk.i64_in _ (by omega);clear hon hpr hnx c0 c1 c2 c3 c4 hy hm;unfold sv at d0 d1 HPR;go_wp2_with fail;refine HPR.out.mono ?_;rintro e w2 ⟨rfl,hb2⟩;have HB2:=hid (HBL.out.trans (hb2.mono hzr));clear hb2 d0 d1 d2 d3 d4;go_wp2_with fail;exact⟨⟨k+1,hlt,rfl,by rw[HNX.out];rfl,HB2.out⟩,by show X.length-((k:Int)+1).toNat<X.length-(k:Int).toNat;omega⟩
  ·obtain rfl:k=X.length:=by omega
   rw[pk_all X (Nat.le_refl _)];go_wp2_with fail;go_ret;exact⟨rfl,HBL.out⟩
end
section
open Go.RowKit
namespace Z14
def own(x:Sp.Str)(p:Sp.Pk):Bool:=(p.files.map (·.path)).contains x
theorem owner_hit{L:List Sp.Pk}{x:Sp.Str}{i:Nat}(h:i<L.length)(hb:∀ p∈L.take i,own x p=false)(he:own x L[i]=true):Sp.owner L x=L[i].name:=by
 have hf:L.find? (own x)=some L[i]:=by
  have e:L=L.take i ++ L[i] :: L.drop (i+1):=by rw[List.getElem_cons_drop];exact(List.take_append_drop _ _).symm
  have h1:(L.take i).find? (own x)=none:=by rw[List.find?_eq_none];intro p hp;rw[hb p hp];decide
  conv=>lhs;rw[e]
  rw[List.find?_append,h1,List.find?_cons_of_pos he];rfl
 unfold Sp.owner;have:(L.find? fun p=>(p.files.map (·.path)).contains x)=some L[i]:=hf;rw[this]
theorem owner_miss{L:List Sp.Pk}{x:Sp.Str}(hb:∀ p∈L,own x p=false):Sp.owner L x=[]:=by
 have hf:L.find? (own x)=none:=by rw[List.find?_eq_none];intro p hp;rw[hb p hp];decide
 unfold Sp.owner;have:(L.find? fun p=>(p.files.map (·.path)).contains x)=none:=hf;rw[this]
theorem own_hit{x:Sp.Str}{p:Sp.Pk}{k:Nat}(h:k<p.files.length)(he:(p.files[k].path == x)=true):own x p=true:=by
 unfold own;rw[List.contains_iff_mem];rw[beq_iff_eq] at he;exact List.mem_map.2 ⟨_,List.getElem_mem h,he⟩
theorem own_miss{x:Sp.Str}{p:Sp.Pk}(h:∀ f∈p.files,(f.path == x)=false):own x p=false:=by
 unfold own;rw[<-Bool.not_eq_true,List.contains_iff_mem];intro hm;obtain⟨f,hf,e⟩:=List.mem_map.1 hm;have:=h f hf;rw[e] at this;simp at this
end Z14
theorem ownerR_any{S:Nat->Prop}(v:Value)(x:Sp.Str)(X:List PV)(w:World)(h:PksOn S w v X)(hS:∀ b,S b->b<w.heap.size)(hX:X.length<=1000000):
  Calls Tryz.prog 96 #[v,sv x] w fun e w'=>e=.returned (sv (Sp.owner (pk X) x))/\w'=w:=by
 have hon:∀ x∈X,x.On S w:=h.2;obtain⟨a,cap,rfl,hc,hx⟩:=h.get;have HX:=hid hx;have HON:=hid hon;have HS:=hid hS;clear h hx hon hS;unfold sv;go_enter Tryz.func96,Tryz.ntmps96;go_wp2
 go_loop [5] (fun i=>∃ k:Nat,k<=X.length/\i=.int .i64 k/\∀ p∈(pk X).take k,Z14.own x p=false) (fun i=>X.length-(intOf i).toNat)
 case atStart=>exact⟨0,Nat.zero_le _,rfl,fun p hp=>by simp at hp⟩
 case round =>
  obtain⟨i,hi,rfl,hno⟩:=hrel;have HNO:=hid hno;clear hno
  by_cases hil:i<X.length
  ·obtain⟨b,off,rfl,hSb,x0,x1,x2,x3,x4⟩:=HX.out i hil
   have hbl:=HS.out b hSb;have hip:i<(pk X).length:=by rw[pk_len];exact hil
   have hie:(pk X)[i]=X[i].p:=pk_get hip hil;have hxo:=HON.out _ (List.getElem_mem hil);obtain⟨y,hy⟩:∃ y,y=X[i]:=⟨_,rfl⟩
   rw[<-hy] at x0 x4 hxo hie;obtain⟨fa,fc,hfv,hfc,hfg⟩:=hxo.files.get;rw[hfv] at x4;have hf4:=hxo.ok.files;have HIE:=hid hie;have HFG:=hid hfg;clear x1 x2 x3 hxo hy hfv hfg hie;unfold sv at x0;go_wp2_with fail
   go_loop [6] (fun k=>∃ m:Nat,m<=y.p.files.length/\k=.int .i64 m/\∀ f∈y.p.files.take m,(f.path == x)=false) (fun k=>y.p.files.length-(intOf k).toNat)
   case atStart=>exact⟨0,Nat.zero_le _,rfl,fun f hf=>by simp at hf⟩
   case round =>
    obtain⟨m,hm,rfl,hnf⟩:=hrel;have HNF:=hid hnf;clear hnf
    by_cases hml:m<y.p.files.length
    ·obtain⟨b',off',rfl,hSb',y0,_⟩:=HFG.out m hml
     have hbl':=HS.out b' hSb';unfold sv at y0
     cases he:(y.p.files[m].path == x) with
     | true =>
      have HR:=hid (Z14.owner_hit (x:=x) hip HNO.out (by rw[HIE.out];exact Z14.own_hit hml he));go_wp2_with fail;go_ret;exact⟨by rw[HR.out,HIE.out];rfl,rfl⟩
     | false =>
      have HR:=hid (Z4.take_next hml HNF.out he);go_wp2_with fail;go_round
      case rel=>exact⟨m+1,hml,by go_num,HR.out⟩
      case measure=>simp[intOf];omega
    ·obtain rfl:m=y.p.files.length:=by omega
     have HM:=hid (Z14.own_miss (x:=x) (p:=y.p) fun f hf=>HNF.out f (by rw[List.take_length];exact hf));have HR:=hid (Z4.take_next hip HNO.out (by rw[HIE.out];exact HM.out));go_wp2_with fail;go_round
     case rel=>exact⟨i+1,hil,by go_num,HR.out⟩
     case measure=>simp[intOf];omega
  ·obtain rfl:i=X.length:=by omega
   have HR:=hid (Z14.owner_miss (L:=pk X) (x:=x) fun p hp=>HNO.out p (by rw[pk_all _ (Nat.le_refl _)];exact hp));go_wp2_with fail;go_ret;exact⟨by rw[HR.out];rfl,rfl⟩
end
section
open Go.RowKit
namespace Z15
open Sp (Str Pk)
def lastN(L:List Pk)(k:Nat):Str:=match k with
 | 0=>[]
 | k+1=>match (V8.byName L)[k]? with
  | some p=>p.name
  | none=>[]
theorem len{L:List Pk}(h:Sp.Set L):(V8.byName L).length=L.length:=(V8.byName_perm h).length_eq
theorem strict{L:List Pk}(h:Sp.Set L):(V8.byName L).Pairwise fun p q=>p.name<q.name:=by
 have h1:((V8.byName L).map (·.name)).Pairwise (·<=·):=by rw[V8.byName_names];exact V8.sorted_ord _
 have h2:((V8.byName L).map (·.name)).Nodup:=by
  rw[V8.byName_names];exact(V8.sorted_perm _).nodup_iff.2 (V8.names_nodup h)
 have h3:((V8.byName L).map (·.name)).Pairwise (· < ·):=(h1.and h2).imp fun ⟨a,b⟩=>Classical.byContradiction fun c=>b (List.le_antisymm a (List.not_lt.1 c))
 exact List.pairwise_map.1 h3
theorem order{L:List Pk}(h:Sp.Set L){i j:Nat}(hi:i<(V8.byName L).length)(hj:j<(V8.byName L).length):(V8.byName L)[i].name<(V8.byName L)[j].name↔i<j:=by
 have hp:=List.pairwise_iff_getElem.1 (strict h);constructor
 ·intro hl
  rcases Nat.lt_trichotomy i j with c|c|c
  ·exact c
  ·subst c;exact absurd hl (List.lt_irrefl _)
  ·exact absurd (List.lt_trans hl (hp j i hj hi c)) (List.lt_irrefl _)
 ·intro c;exact hp i j hi hj c
theorem above{L:List Pk}(h:Sp.Set L){k:Nat}(hk:k<=L.length)(p:Pk)(hp:p∈L):Sp.strLt (lastN L k) p.name=true↔p∈(V8.byName L).drop k:=by
 have hm:=(V8.byName_mem h p).2 hp
 cases k with
 | zero =>
  have hne:=V1.name_ne (h.good p hp).wf.name;simp only[List.drop_zero,hm,iff_true]
  show Sp.strLt [] p.name=true
  cases hn:p.name with
  | nil=>exact absurd hn hne
  | cons a r=>rfl
 | succ k =>
  have hkl:k<(V8.byName L).length:=by rw[len h];exact hk
  have e:lastN L (k+1)=(V8.byName L)[k].name:=by
   show(match (V8.byName L)[k]? with|some p=>p.name|none=>[])=_
   rw[List.getElem?_eq_getElem hkl]
  rw[e,P3.lt_iff];obtain⟨j,hj,rfl⟩:=List.mem_iff_getElem.1 hm;rw[order h hkl hj];constructor
  ·intro c
   rw[List.mem_iff_getElem];exact⟨j-(k+1),by rw[List.length_drop];omega,by rw[List.getElem_drop];congr 1;omega⟩
  ·intro hd
   obtain⟨i,hi,hie⟩:=List.mem_iff_getElem.1 hd;rw[List.getElem_drop] at hie;have hi':k+1+i<(V8.byName L).length:=by rw[List.length_drop] at hi;omega
   have:(V8.byName L)[k+1+i].name=(V8.byName L)[j].name:=by rw[hie]
   have h1:=(order h hkl hi').2 (by omega);rw[this] at h1;exact(order h hkl hj).1 h1
theorem pick{L:List Pk}(h:Sp.Set L){k:Nat}(hk:k<(V8.byName L).length):Sp.least ((L.filter fun p=>Sp.strLt (lastN L k) p.name).map (·.name))=(V8.byName L)[k].name:=by
 have hkl:k<=L.length:=by rw[<-len h];omega
 refine V5.least_eq (V5.names_ne (fun p hp=>V1.name_ne (h.good p hp).wf.name) _) ?_ fun x hx=>?_
 ·have hm:(V8.byName L)[k]∈L:=(V8.byName_mem h _).1 (List.getElem_mem hk)
  refine List.mem_map.2 ⟨_,List.mem_filter.2 ⟨hm,?_⟩,rfl⟩;rw[above h hkl _ hm,List.mem_iff_getElem];exact⟨0,by rw[List.length_drop];omega,by rw[List.getElem_drop];rfl⟩
 ·obtain⟨p,hp,rfl⟩:=List.mem_map.1 hx
  obtain⟨hp1,hp2⟩:=List.mem_filter.1 hp;rw[above h hkl _ hp1] at hp2;obtain⟨i,hi,hie⟩:=List.mem_iff_getElem.1 hp2;rw[List.getElem_drop] at hie;rw[List.length_drop] at hi;subst hie
  by_cases c:i=0
  ·subst c;exact List.le_refl _
  ·exact List.le_of_lt ((order h hk (by omega)).2 (by omega))
theorem last_next{L:List Pk}{k:Nat}(hk:k<(V8.byName L).length):lastN L (k+1)=(V8.byName L)[k].name:=by
 show(match (V8.byName L)[k]? with|some p=>p.name|none=>[])=_
 rw[List.getElem?_eq_getElem hk]
end Z15
end
section
open Go.RowKit
theorem textsR_any{S:Nat->Prop}(v:Value)(X:List PV)(w:World)(h:PksOn S w v X)(hS:∀ b,S b->b<w.heap.size)(hX:X.length<=1000000)(hset:Sp.Set (pk X)):
  Calls Tryz.prog 99 #[v] w fun e w'=>∃ v',e=.returned v'/\w'.ownsRow w.heap.size 9 1 v' (Sp.texts (pk X)).length ((Sp.texts (pk X)).map sv)/\Below w.heap.size w w':=by
 have hk:∀ W,Below w.heap.size w W->PksOn (fun b=>b<W.heap.size) W v X:=fun W hW=>(h.keep fun b hb=>hW.block b (hS b hb)).mono fun b hb=>Nat.lt_of_lt_of_le (hS b hb) hW.size
 have HK:=hid hk;obtain⟨a,cap,rfl,hc,hg⟩:=h.get;have HG:=hid hg;have HS:=hid hS;have HSET:=hid hset;obtain⟨N,hN⟩:∃ N,N=V8.byName (pk X):=⟨_,rfl⟩
 have hNl:N.length=X.length:=by rw[hN,Z15.len hset,pk_len]
 have htx:Sp.texts (pk X)=N.map Sp.print:=by rw[hN];exact V8.texts_byName _
 have HN:=hid hN;have HNL:=hid hNl;rw[htx];clear h hg hS hk hset hN hNl htx;go_enter Tryz.func99,Tryz.ntmps99;go_wp2_with fail
 go_loopw [3,4] (fun out last wr=>∃ k:Nat,k<=X.length/\wr.ownsRow w.heap.size 9 1 out k (((N.take k).map Sp.print).map sv)/\last=sv (Z15.lastN (pk X) k)/\Below w.heap.size w wr) (fun out _ _=>X.length-Z10.slen out)
 case atStart=>exact⟨0,Nat.zero_le _,World.ownsRow_nil _ _ _ _,rfl,Below.refl _ _⟩
 case round =>
  obtain⟨k,hk,hown,rfl,hbel⟩:=hrel;have HOWN:=hid hown;have HBL:=hid hbel;have hzr:=hbel.size;clear hown hbel;obtain⟨oa,oc,rfl⟩:=W3.row_slice HOWN.out
  by_cases hkl:k<X.length
  ·have hkN:k<N.length:=by rw[HNL.out];exact hkl
   have hpick:=Z15.pick HSET.out (k:=k) (by rw[<-HN.out];exact hkN);have hlast:=Z15.last_next (L:=pk X) (k:=k) (by rw[<-HN.out];exact hkN);have hNk:(V8.byName (pk X))[k]'(by rw[<-HN.out];exact hkN)=N[k]:=by simp only[<-HN.out]
   rw[hNk] at hpick hlast;have hmem:N[k]∈pk X:=(V8.byName_mem HSET.out _).1 (by rw[<-HN.out];exact List.getElem_mem hkN);obtain⟨j,hj,hje⟩:=List.mem_iff_getElem.1 hmem;have hfi:=Z9.find_at HSET.out.apart hj;rw[hje] at hfi;have htk:N.take (k+1)=N.take k ++ [N[k]]:=List.take_succ_eq_append_getElem hkN;obtain⟨la,hla⟩:∃ la,la=Z15.lastN (pk X) k:=⟨_,rfl⟩
   rw[<-hla] at hpick ⊢;obtain⟨q,hq⟩:∃ q,q=N[k]:=⟨_,rfl⟩
   rw[<-hq] at hpick hlast hje hfi htk;have HP:=hid hpick;have HLA:=hid hlast;have HFI:=hid hfi;have HJE:=hid hje;have HTK:=hid htk;clear hpick hlast hfi hje htk hNk hmem hla hq hkN;generalize wr=wo at *;unfold sv;go_wp2_with fail
   go_loop [5,6] (fun n i=>∃ m:Nat,m<=X.length/\i=.int .i64 m/\n=sv (Z5.upTo (fun p=>Sp.strLt la p.name) (pk X) m)) (fun _ i=>X.length-(intOf i).toNat)
   case atStart=>exact⟨0,Nat.zero_le _,rfl,rfl⟩
   case round =>
    obtain⟨m,hm,rfl,rfl⟩:=hrel
    by_cases hml:m<X.length
    ·obtain⟨b,off,rfl,hSb,x0,_⟩:=HG.out m hml
     have hbl:=HS.out b hSb;have d0:=(HBL.out.cell (p:=⟨b,off+m*5,none⟩) hbl).trans x0;have hbr:b<wo.heap.size:=by omega
     have hmp:m<(pk X).length:=by rw[pk_len];exact hml
     have hnx:=Z5.upTo_next (fun p=>Sp.strLt la p.name) (pk X) hmp;rw[pk_get hmp hml] at hnx;obtain⟨y,hy⟩:∃ y,y=X[m].p.name:=⟨_,rfl⟩
     simp only[<-hy] at hnx d0;have HNX:=hid hnx;obtain⟨n0,hn0⟩:∃ n0,n0=Z5.upTo (fun p=>Sp.strLt la p.name) (pk X) m:=⟨_,rfl⟩
     rw[<-hn0] at HNX ⊢;clear hnx x0 hy hn0;unfold sv at d0 ⊢
     cases hlt:Sp.strLt la y with
     | true =>
      rw[hlt,if_pos rfl] at HNX;have f1:Op.bytesLess y la=false:=by
       rw[CM.less_lt,<-Bool.not_eq_true,P3.lt_iff];rw[P3.lt_iff] at hlt;exact fun e=>List.lt_irrefl _ (List.lt_trans hlt e)
      have f2:(y == la)=false:=by
       rw[<-Bool.not_eq_true,beq_iff_eq];rintro rfl;rw[V4.strLt_irrefl] at hlt;cases hlt
      go_wp2_with fail;refine(firstR_any n0 y _).mono ?_;rintro e wq ⟨rfl,hwq⟩;have hwq':=hwq.symm;subst hwq';clear hwq;unfold sv;go_wp2_with fail;exact⟨⟨m+1,hml,rfl,by rw[HNX.out]⟩,by show X.length-((m:Int)+1).toNat<X.length-(m:Int).toNat;omega⟩
     | false =>
      rw[hlt,if_neg Bool.false_ne_true] at HNX
      by_cases hey:y=la
      ·subst hey
       have f2:(y == y)=true:=by simp
       go_wp2_with fail;exact⟨⟨m+1,hml,rfl,by rw[HNX.out]⟩,by show X.length-((m:Int)+1).toNat<X.length-(m:Int).toNat;omega⟩
      ·have f2:(y == la)=false:=by simpa using hey
       have f1:Op.bytesLess y la=true:=by rw[CM.less_lt];exact CM.lt_conn hlt fun e=>hey e.symm
       go_wp2_with fail;exact⟨⟨m+1,hml,rfl,by rw[HNX.out]⟩,by show X.length-((m:Int)+1).toNat<X.length-(m:Int).toNat;omega⟩
    ·have hme:m=X.length:=by omega
     subst hme;have hzz:¬((X.length:Nat):Int)<((X.length:Nat):Int):=by omega
     rw[Z5.upTo_all _ _ (Nat.le_of_eq (pk_len X)),show Sp.least (((pk X).filter fun p=>Sp.strLt la p.name).map (·.name))=q.name from HP.out];have hjX:j<X.length:=by rw[<-pk_len X];exact hj
     have hf:=findR_any _ X q.name wo (HK.out wo HBL.out) (fun b hb=>hb) (by omega);rw[HFI.out] at hf;have HF:=hid hf;have hjp:X[j].p=q:=by rw[<-pk_get hj hjX];exact HJE.out
     have HJP:=hid hjp;clear hf hjp;unfold sv at HF ⊢;go_wp2_with fail;refine HF.out.mono ?_;rintro e w5 ⟨rfl,hb5⟩;have hz5:=hb5.size;have HB5:=hid (HBL.out.trans (hb5.mono hzr));have HROW5:=hid (W3.row_keep HOWN.out hb5);clear hb5;obtain⟨b,off,rfl,hSb,c0,c1,c2,c3,c4⟩:=HG.out j hjX;have hbl:=HS.out b hSb;have d0:=(HB5.out.cell (p:=⟨b,off+j*5,none⟩) hbl).trans c0;have d1:=(HB5.out.cell (p:=⟨b,off+j*5+1,none⟩) hbl).trans c1;have d2:=(HB5.out.cell (p:=⟨b,off+j*5+1+1,none⟩) hbl).trans c2;have d3:=(HB5.out.cell (p:=⟨b,off+j*5+1+1+1,none⟩) hbl).trans c3;have d4:=(HB5.out.cell (p:=⟨b,off+j*5+1+1+1+1,none⟩) hbl).trans c4;have hon:=(HK.out w5 HB5.out).2 X[j] (List.getElem_mem hjX);have hpr:=printR_any X[j].p X[j].nv X[j].bv X[j].fv w5 hon.ok hon.needs hon.bars hon.files;have HPR:=hid hpr;have hbr:b<w5.heap.size:=by omega
     clear hon hpr c0 c1 c2 c3 c4;unfold sv at d0 d1 HPR;go_wp2_with fail;refine HPR.out.mono ?_;rintro e w6 ⟨rfl,hb6⟩;have hz6:=hb6.size;have HB6:=hid (HB5.out.trans (hb6.mono (by omega)));have HROW6:=hid (W3.row_keep HROW5.out hb6);clear hb6 d0 d1 d2 d3 d4;go_wp2_with (at_builtin;refine wp_app_at app38 w6 [.string ⟨(Sp.print X[j].p).toArray⟩] rfl (by simp[Value.oneCell']) rfl _ _ rfl w.heap.size _ _ _ rfl HROW6.out rfl (by omega) (by omega) ?_;intro v' w7 hrow7 hg7 hv7 hloc7);have hb7:=below_of_grown HB6.out (by omega) HROW6.out hg7;obtain⟨g7,cap7,rfl⟩:=hv7;exact⟨⟨k+1,hkl,by rw[HTK.out,List.map_append,List.map_append,<-HJP.out];exact hrow7,by rw[HLA.out],hb7⟩,by show X.length-(k+1)<X.length-k;omega⟩
  ·obtain rfl:k=X.length:=by omega
   have hte:N.take X.length=N:=List.take_of_length_le (Nat.le_of_eq HNL.out);have hown:=HOWN.out;rw[hte] at hown;have HOW:=hid hown;clear hown hte HOWN;go_wp2_with fail;go_ret;refine⟨_,rfl,?_,HBL.out⟩;rw[List.length_map,HNL.out];exact HOW.out
end
section
open Go.RowKit
namespace Z17
def SetR(S:Nat->Prop)(res:Sp.Fault ⊕ List Sp.Pk)(w:World)(e:Ending)(w':World):Prop:=
 Below w.heap.size w w' /\
  ((∃ f,res=.inl f/\1<=f.kind/\f.kind<=8/\e=.returned (.tuple #[.slice none 0 0,Z11.flV f])) \/
   (∃ A v1,res=.inr (pk A)/\e=.returned (.tuple #[v1,Z11.flV Sp.okF]) /\
    PksOn (fun b=>S b\/w.heap.size<=b/\b<w'.heap.size) w' v1 A/\Z11.Shape v1 A.length))
theorem four(w:World)(r:Nat)(k a b:Int)(n:ByteArray):∀ x,x≠r->((((w.setCell ⟨r,0,none⟩ (.int .i64 k)).setCell ⟨r,1,none⟩ (.int .i64 a)).setCell ⟨r,2,none⟩ (.int .i64 b)).setCell ⟨r,3,none⟩ (.string n)).heap[x]? = w.heap[x]?:=fun x hb=>by
 rw[Below.heap_setCell _ _ _ _ hb,Below.heap_setCell _ _ _ _ hb,Below.heap_setCell _ _ _ _ hb,Below.heap_setCell _ _ _ _ hb]
end Z17
theorem installedR_any{S:Nat->Prop}(lv tv:Value)(ts:List Sp.Str)(L:List PV)(n:Nat)(w:World)(hL:PksOn S w lv L)(hS:∀ b,S b->b<w.heap.size)(htv:StrsAt w tv ts)(hts:ts.length<=9000)(hLl:L.length<=1000)
  (hsh:Z11.Shape lv L.length)(hset:Sp.Set (pk L))(hn:16<=n/\n<=256):
  Calls Tryz.prog 140 #[lv,tv,.int .i64 n] w (Z17.SetR S (Sp.installed (pk L) ts (24*(n-8))) w):=by
 obtain⟨w1,hw1⟩:∃ w1,w1=w.alloc (.cells #[.int .i64 0,.int .i64 0,.int .i64 0,.string ⟨#[]⟩] 34):=⟨_,rfl⟩
 have hb1:Below w.heap.size w w1:=by rw[hw1];exact(Below.refl _ _).alloc (Nat.le_refl _) _
 have hz1:w1.heap.size=w.heap.size+1:=by rw[hw1];simp
 have hr1:∀ o,w1.cell? ⟨w.heap.size,o,none⟩=(#[.int .i64 0,.int .i64 0,.int .i64 0,.string ⟨#[]⟩]:Array Value)[o]?:=fun o=>by rw[hw1,World.cell?_alloc_at _ _ _ _ rfl]
 have hrf:∀ W,Below w1.heap.size w1 W->(W.cell? ⟨w.heap.size,0,none⟩=some (.int .i64 0)/\W.cell? ⟨w.heap.size,1,none⟩=some (.int .i64 0)/\W.cell? ⟨w.heap.size,2,none⟩=some (.int .i64 0)/\W.cell? ⟨w.heap.size,3,none⟩=some (.string ⟨#[]⟩)) /\
   (W.frozen? ⟨w.heap.size,0,none⟩=false/\W.frozen? ⟨w.heap.size,1,none⟩=false/\W.frozen? ⟨w.heap.size,2,none⟩=false/\W.frozen? ⟨w.heap.size,3,none⟩=false)/\w.heap.size<W.heap.size:=fun W hW=>by
  have hc:=fun o=>(hW.cell (p:=⟨w.heap.size,o,none⟩) (by show w.heap.size<_;omega)).trans (hr1 o)
  have hz:=fun o=>(hW.frozen (p:=⟨w.heap.size,o,none⟩) (by show w.heap.size<_;omega)).trans (show w1.frozen? ⟨w.heap.size,o,none⟩=false by rw[hw1];simp)
  exact⟨⟨hc 0,hc 1,hc 2,hc 3⟩,⟨hz 0,hz 1,hz 2,hz 3⟩,by have:=hW.size;omega⟩
 have HRF:=hid hrf;have HW1:=hid hw1;have HB1:=hid hb1;have hza:=Nat.le_of_eq hz1;have hzb:=Nat.le_of_eq hz1.symm;have hplan:=plannedR_any lv tv ts L w1 (hL.keep fun b hb=>hb1.block b (hS b hb)) (fun b hb=>by have:=hS b hb;omega) (htv.below hb1) hts hLl hsh hset;have HPLAN:=hid hplan;have HS:=hid hS;have hroom:(24*((n:Int)-8))=((24*(n-8):Nat):Int):=by omega
 have HSET:=hid hset;clear hL hS hsh hset htv hw1 hb1 hz1 hr1 hrf hplan;go_enter Tryz.func140,Tryz.ntmps140;go_wp2_with fail;rw[<-HW1.out];refine HPLAN.out.mono ?_;rintro e w2 ⟨hb2,⟨f,hpl,hk1,hk8,rfl⟩|⟨A,o,v1,v2,hpl,rfl,hA,hsA,hown⟩⟩
 ·have hz2:=hb2.size
  obtain⟨⟨c0,c1,c2,c3⟩,⟨z0,z1,z2,z3⟩,hR2⟩:=HRF.out w2 hb2;have hins:Sp.installed (pk L) ts (24*(n-8))=.inl f:=by unfold Sp.installed;rw[hpl]
  have HINS:=hid hins;have HBF:=hid (HB1.out.trans (hb2.mono (by omega)));have hk0:((f.kind:Int) == 0)=false:=by rw[<-Bool.not_eq_true,beq_iff_eq];omega
  have hk0':¬(f.kind:Int)=0:=by omega
  have hk0'':¬f.kind=0:=by omega
  clear hpl hins hb2;unfold Z11.flV sv;go_wp2_with fail;go_region;go_wp2_with fail;refine bodyPost_ret (v:=.tuple #[.slice none 0 0,.agg #[.int .i64 f.kind,.int .i64 f.which,.int .i64 f.line,.string ⟨f.name.toArray⟩]]) (by simp[results,Tryz.results140,go_sem,hR2,c0,c1,c2,c3]) rfl ⟨?_,.inl ⟨_,HINS.out,hk1,hk8,rfl⟩⟩
  repeat' (first|exact HBF.out|refine Below.setCell ?_ (by simp) _|refine Below.alloc ?_ (by simp;omega) _|refine Below.drew ?_)
 ·have hz2:=hb2.size
  obtain⟨hok,F,hAF,hFl,_⟩:=V9.planned_ok HSET.out hpl;have hAl:A.length<=10000:=by
   have h1:(pk A).length=A.length:=pk_len A;have h2:(pk L).length=L.length:=pk_len L;rw[hAF,List.length_append] at h1;omega
  have hgA:∀ p∈pk A,V3.Good p:=hok.set.good;have hsz:=fun W (hW:Below w2.heap.size w2 W)=>sizeR_any v1 A W (hA.keep fun b hb=>hW.block b (by rcases hb with hb|hb;(· have:=HS.out b hb;omega);exact hb.2)) (fun b hb=>by have:=hW.size;rcases hb with hb|hb;(· have:=HS.out b hb;omega);(· omega)) (by omega) hgA
  have HSZ:=hid hsz;have hsl:=Z13.size_le (pk A) hgA;have hpkl:(pk A).length=A.length:=pk_len A;have hins:Sp.installed (pk L) ts (24*(n-8))=if 24*(n-8)<Sp.size (pk A) then .inl ⟨8,0,0,[]⟩ else .inr (pk A):=by unfold Sp.installed;rw[hpl]
  have HINS:=hid hins;have HA:=hid hA;have HSA:=hid hsA;have HB2:=hid hb2;obtain⟨sz,hsze⟩:∃ sz,sz=Sp.size (pk A):=⟨_,rfl⟩
  rw[<-hsze] at HSZ HINS hsl;have hv1:∃ a c,v1=.slice a A.length c:=by obtain⟨a,c,e,_⟩:=hA.get;exact⟨a,c,e⟩
  obtain⟨a1,c1',rfl⟩:=hv1;obtain⟨a2,c2',rfl⟩:=W3.row_slice hown;clear hpl hins hb2 hA hsA hown hok hAF hsz hgA hsze;unfold Z11.flV Sp.okF sv;go_wp2_with fail;refine(HSZ.out _ ?_).mono ?_
  ·exact(Below.refl _ _).alloc (Nat.le_refl _) _
  rintro e w5 ⟨rfl,hb5⟩;have hb25:Below w2.heap.size w2 w5:=(((Below.refl w2.heap.size w2).alloc (Nat.le_refl _) _)).trans (hb5.mono (by simp));have hz25:=hb25.size;have hb15:Below w1.heap.size w1 w5:=HB2.out.trans (hb25.mono hz2);obtain⟨⟨c0,c1,c2,c3⟩,⟨z0,z1,z2,z3⟩,hR2⟩:=HRF.out w5 hb15;have HBF:=hid (HB1.out.trans (hb15.mono (by omega)));have HB25:=hid hb25;have hroom:=roomR_any (n:Int) w5 (by omega);rw[show(24*((n:Int)-8))=((24*(n-8):Nat):Int) by omega] at hroom;obtain⟨rm,hrm⟩:∃ rm,rm=24*(n-8):=⟨_,rfl⟩
  rw[<-hrm] at hroom HINS ⊢;have HROOM:=hid hroom;clear hb5 hb25 hb15 hroom;go_wp2_with fail;refine HROOM.out.mono ?_;rintro e wq ⟨rfl,hwq⟩;have hwq':=hwq.symm;subst hwq';clear hwq
  by_cases hlt:rm<sz
  ·rw[if_pos hlt] at HINS
   have hlt':(rm:Int)<(sz:Int):=by omega
   go_wp2_with fail;refine bodyPost_ret (v:=.tuple #[.slice none 0 0,.agg #[.int .i64 8,.int .i64 0,.int .i64 0,.string ⟨#[]⟩]]) (by simp[results,Tryz.results140,go_sem,c0,c1,c2,c3]) rfl ⟨?_,.inl ⟨_,by rw[<-hrm];exact HINS.out,by simp,by simp,rfl⟩⟩
   repeat' (first|exact HBF.out|refine Below.setCell ?_ (by simp) _|refine Below.alloc ?_ (by simp;omega) _|refine Below.drew ?_)
  ·rw[if_neg hlt] at HINS
   have hlt':¬(rm:Int)<(sz:Int):=by omega
   go_wp2_with fail;have hX:=Z17.four w5 w.heap.size 0 0 0 ⟨#[]⟩;refine bodyPost_ret (v:=.tuple #[.slice a1 A.length c1',.agg #[.int .i64 0,.int .i64 0,.int .i64 0,.string ⟨#[]⟩]]) (by simp[results,Tryz.results140,go_sem,c0,c1,c2,c3]) rfl ⟨?_,.inr ⟨_,_,by rw[<-hrm];exact HINS.out,rfl,?_,HSA.out⟩⟩
   ·repeat' (first|exact HBF.out|refine Below.setCell ?_ (by simp) _|refine Below.alloc ?_ (by simp;omega) _|refine Below.drew ?_)
   ·refine((HA.out.keep fun b hb=>(hX b ?_).trans (HB25.out.block b ?_)).mono fun b hb=>?_)
    ·rcases hb with hb|hb
     ·have:=HS.out b hb;omega
     ·omega
    ·rcases hb with hb|hb
     ·have:=HS.out b hb;omega
     ·exact hb.2
    ·rcases hb with hb|hb
     ·exact .inl hb
     ·exact .inr ⟨by omega,by simp;omega⟩
end
end Go.Proofs.YtfphcecjhdkcoaaGreatDoor

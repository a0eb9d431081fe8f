/-
errors.Is at a fault of the program's and an error number.
-/
import Derived.Test.YtfphcecjhdkcoaaGreatDoorScrP03
import Derived.Test.YtfphcecjhdkcoaaGreatDoorScrP05
import Derived.Test.YtfphcecjhdkcoaaGreatDoorScrP06
import Derived.StillTailTactics
import Derived.WalkMore
import Derived.Test.YtfphcecjhdkcoaaGreatDoorProg
import Derived.WalkKit
import Derived.LaidEql
import Derived.Stop.Asserts
import Derived.RowKitTokens
set_option maxRecDepth 100000
set_option maxHeartbeats 8000000
namespace Go.Proofs.YtfphcecjhdkcoaaGreatDoor
open Go.Lib (hid)
section
open Go.RowKit
theorem fits_nil(n s v:ByteArray)(w:World):Calls Tryz.prog 167 #[.agg #[.string n,.string s,.string v],.pointer none] w fun e w'=>e=.returned (.bool false)/\Below w.heap.size w w':=by
 go_enter Tryz.func167,Tryz.ntmps167;go_wp2_with fail;go_quiet (fail);go_wp2;go_ret;exact⟨rfl,below_drewN ((Below.refl _ _).alloc (Nat.le_refl _) _) _⟩
namespace FT
theorem fits_name{c:Sp.Ch}{p:Sp.Pk}(h:(p.name == c.name)=false):Sp.fits c p=false:=by
 unfold Sp.fits;have:(c.name == p.name)=false:=by
  rw[<-Bool.not_eq_true] at h ⊢;intro e;exact h (by rw[eq_of_beq e];exact BEq.rfl)
 rw[this];rfl
theorem fits_sign{c:Sp.Ch}{p:Sp.Pk}(h:(p.name == c.name)=true):Sp.fits c p=Sp.signOk c.sign (Sp.cmp p.ver c.ver):=by
 unfold Sp.fits;have:(c.name == p.name)=true:=by rw[eq_of_beq h];exact BEq.rfl
 rw[this];rfl
theorem sgn1{s:Sp.Str}{o:Int}(h:(s == [60,60])=true):Sp.signOk s o=decide (o<0):=by unfold Sp.signOk;rw[if_pos h]
theorem sgn2{s:Sp.Str}{o:Int}(h1:(s == [60,60])=false)(h:(s == [60,61])=true):Sp.signOk s o=decide (o<=0):=by unfold Sp.signOk;rw[if_neg (by rw[h1];simp),if_pos h]
theorem sgn3{s:Sp.Str}{o:Int}(h1:(s == [60,60])=false)(h2:(s == [60,61])=false)(h:(s == [61])=true):Sp.signOk s o=decide (o=0):=by unfold Sp.signOk;rw[if_neg (by rw[h1];simp),if_neg (by rw[h2];simp),if_pos h]
theorem sgn4{s:Sp.Str}{o:Int}(h1:(s == [60,60])=false)(h2:(s == [60,61])=false)(h3:(s == [61])=false)(h:(s == [62,61])=true):Sp.signOk s o=decide (0<=o):=by unfold Sp.signOk;rw[if_neg (by rw[h1];simp),if_neg (by rw[h2];simp),if_neg (by rw[h3];simp),if_pos h]
theorem sgn5{s:Sp.Str}{o:Int}(h1:(s == [60,60])=false)(h2:(s == [60,61])=false)(h3:(s == [61])=false)(h4:(s == [62,61])=false)(h:(s == [62,62])=true):Sp.signOk s o=decide (0<o):=by unfold Sp.signOk;rw[if_neg (by rw[h1];simp),if_neg (by rw[h2];simp),if_neg (by rw[h3];simp),if_neg (by rw[h4];simp),if_pos h]
theorem sgn6{s:Sp.Str}{o:Int}(h1:(s == [60,60])=false)(h2:(s == [60,61])=false)(h3:(s == [61])=false)(h4:(s == [62,61])=false)(h5:(s == [62,62])=false):Sp.signOk s o=true:=by unfold Sp.signOk;rw[if_neg (by rw[h1];simp),if_neg (by rw[h2];simp),if_neg (by rw[h3];simp),if_neg (by rw[h4];simp),if_neg (by rw[h5];simp)]
end FT
theorem fits_other(c:Sp.Ch)(b:Nat)(p:Sp.Pk)(w:World)(hb:b<w.heap.size)(h2:w.cell? ⟨b,2,none⟩=some (sv p.name))(hn:(p.name == c.name)=false):
  Calls Tryz.prog 167 #[.agg #[sv c.name,sv c.sign,sv c.ver],.pointer (some ⟨b,0,none⟩)] w fun e w'=>e=.returned (.bool (Sp.fits c p))/\Below w.heap.size w w':=by
 rw[FT.fits_name hn];unfold sv at h2 ⊢;have hn':(!(p.name == c.name))=true:=by rw[hn];rfl
 go_enter Tryz.func167,Tryz.ntmps167;go_wp2_with fail;go_quiet (fail);go_wp2;go_ret;exact⟨rfl,below_drewN ((Below.refl _ _).alloc (Nat.le_refl _) _) _⟩
theorem fits_same(c:Sp.Ch)(b:Nat)(p:Sp.Pk)(w:World)(hb:b<w.heap.size)(h2:w.cell? ⟨b,2,none⟩=some (sv p.name))(h3:w.cell? ⟨b,3,none⟩=some (sv p.ver))(hn:(p.name == c.name)=true)(hv:p.ver.length<1000)(hc:c.ver.length<1000):
  Calls Tryz.prog 167 #[.agg #[sv c.name,sv c.sign,sv c.ver],.pointer (some ⟨b,0,none⟩)] w fun e w'=>e=.returned (.bool (Sp.fits c p))/\Below w.heap.size w w':=by
 rw[FT.fits_sign hn];generalize hS:Sp.signOk c.sign (Sp.cmp p.ver c.ver)=R;have HS:=hid hS;clear hS;unfold sv at h2 h3 ⊢;have hn':(!(p.name == c.name))=false:=by rw[hn];rfl
 have hcmp:=fun (W:World)=>cmp_any ⟨p.ver.toArray⟩ ⟨c.ver.toArray⟩ W (by rw[<-bl_len,bl_mk];omega) (by rw[<-bl_len,bl_mk];omega)
 simp only[bl_mk] at hcmp;have HC:=hid hcmp;clear hcmp;go_enter Tryz.func167,Tryz.ntmps167;go_wp2_with fail;go_quiet (fail);go_wp2_with fail;have hb0:Below w.heap.size w ((w.alloc (.cells #[.string ⟨c.name.toArray⟩,.string ⟨c.sign.toArray⟩,.string ⟨c.ver.toArray⟩] 187)).drewN nq):=below_drewN ((Below.refl _ _).alloc (Nat.le_refl _) _) _;have hg1:((w.alloc (.cells #[.string ⟨c.name.toArray⟩,.string ⟨c.sign.toArray⟩,.string ⟨c.ver.toArray⟩] 187)).drewN nq).cell? ⟨w.heap.size,1,none⟩=some (.string ⟨c.sign.toArray⟩):=by
  show(w.alloc _).cell? _=_
  rw[World.cell?_alloc_at _ _ _ _ rfl];rfl
 have hg2:((w.alloc (.cells #[.string ⟨c.name.toArray⟩,.string ⟨c.sign.toArray⟩,.string ⟨c.ver.toArray⟩] 187)).drewN nq).cell? ⟨w.heap.size,2,none⟩=some (.string ⟨c.ver.toArray⟩):=by
  show(w.alloc _).cell? _=_
  rw[World.cell?_alloc_at _ _ _ _ rfl];rfl
 have hgl:w.heap.size<((w.alloc (.cells #[.string ⟨c.name.toArray⟩,.string ⟨c.sign.toArray⟩,.string ⟨c.ver.toArray⟩] 187)).drewN nq).heap.size:=by show _<(w.alloc _).heap.size;simp
 have h3':=((bcell hb0).1 b 3 hb).trans h3;clear h2 h3;generalize (w.alloc (.cells #[.string ⟨c.name.toArray⟩,.string ⟨c.sign.toArray⟩,.string ⟨c.ver.toArray⟩] 187)).drewN nq=W2 at *;have hb1:=hb0.size;go_still_tail 6,(by kernel_rfl)
 change wpList _ _ _ _ _ (World.drew W2);go_wp2_with fail;refine(HC.out _).mono ?_;rintro e w3 ⟨rfl,hb3⟩;have hs3:=(bcell (W:=W2) ⟨hb3.os,hb3.tape,hb3.output,hb3.size,hb3.block⟩).1 w.heap.size 1 hgl;have hg3:=hs3.trans hg1;have hbw:Below w.heap.size w w3:=hb0.trans ((show Below W2.heap.size W2 w3 from⟨hb3.os,hb3.tape,hb3.output,hb3.size,hb3.block⟩).mono hb1);clear hs3 hg1 hg2 hgl hb3 h3';generalize Sp.cmp p.ver c.ver=o at *
 cases s1:(c.sign == [60,60]) with
 | true =>
  have hR:=HS.out;rw[FT.sgn1 s1] at hR;have HR:=hid hR;clear hR HS;go_wp2;go_ret;exact⟨ret_bool (by rw[<-HR.out]),hbw⟩
 | false =>
  cases s2:(c.sign == [60,61]) with
  | true =>
   have hR:=HS.out;rw[FT.sgn2 s1 s2] at hR;have HR:=hid hR;clear hR HS;go_wp2;go_ret;exact⟨ret_bool (by rw[<-HR.out]),hbw⟩
  | false =>
   cases s3:(c.sign == [61]) with
   | true =>
    have hR:=HS.out;rw[FT.sgn3 s1 s2 s3] at hR;have HR:=hid hR;clear hR HS;go_wp2;go_ret;exact⟨ret_bool (by rw[<-HR.out,Bool.eq_iff_iff];simp),hbw⟩
   | false =>
    cases s4:(c.sign == [62,61]) with
    | true =>
     have hR:=HS.out;rw[FT.sgn4 s1 s2 s3 s4] at hR;have HR:=hid hR;clear hR HS;go_wp2;go_ret;exact⟨ret_bool (by rw[<-HR.out]),hbw⟩
    | false =>
     cases s5:(c.sign == [62,62]) with
     | true =>
      have hR:=HS.out;rw[FT.sgn5 s1 s2 s3 s4 s5] at hR;have HR:=hid hR;clear hR HS;go_wp2;go_ret;exact⟨ret_bool (by rw[<-HR.out]),hbw⟩
     | false =>
      have hR:=HS.out;rw[FT.sgn6 s1 s2 s3 s4 s5] at hR;have HR:=hid hR;clear hR HS;go_wp2;go_ret;exact⟨ret_bool HR.out,hbw⟩
theorem fits_any(c:Sp.Ch)(b:Nat)(p:Sp.Pk)(w:World)(h:IsPack (fun x=>x<w.heap.size) w b p)(hok:PkOk p)(hc:ChOk c):
  Calls Tryz.prog 167 #[.agg #[sv c.name,sv c.sign,sv c.ver],.pointer (some ⟨b,0,none⟩)] w fun e w'=>e=.returned (.bool (Sp.fits c p))/\Below w.heap.size w w':=by
 obtain⟨nv,bv,fv,hS,h0,h1,h2,h3,h4,g0,g1,g2,n0,n1⟩:=h;unfold ChOk at hc
 cases hn:(p.name == c.name) with
 | true=>exact fits_same c b p w hS h2 h3 hn (by have:=hok.ver;omega) (by omega)
 | false=>exact fits_other c b p w hS h2 hn
end
section
open Go.RowKit Go.Maps
def pks(L:List (Nat × Sp.Pk)):List Sp.Pk:=L.map (·.2)
theorem zero118(w:World):(zeroValue 118).run Tryz.prog w=.ok (.pointer none) w:=by kernel_rfl
namespace MP
theorem kv_get{L:List (Nat × Sp.Pk)}(x:Sp.Str):(getKV (kvOf L) x (.pointer none)=.pointer none/\∀ q∈L,q.2.name≠x)\/∃ q∈L,q.2.name=x/\getKV (kvOf L) x (.pointer none)=.pointer (some ⟨q.1,0,none⟩):=by
 unfold getKV kvOf
 cases hf:(L.map fun q=>(q.2.name,Value.pointer (some ⟨q.1,0,none⟩))).find? (fun q=>q.1 == x) with
 | none =>
  left;refine⟨rfl,fun q hq e=>?_⟩;rw[List.find?_eq_none] at hf;exact hf _ (List.mem_map.2 ⟨q,hq,rfl⟩) (by simpa using e)
 | some r =>
  right;obtain⟨q,hq,rfl⟩:=List.mem_map.1 (List.mem_of_find?_eq_some hf);exact⟨q,hq,by simpa using List.find?_some hf,rfl⟩
theorem any_fits{L:List (Nat × Sp.Pk)}(ha:L.Pairwise fun q r=>q.2.name≠r.2.name)(c:Sp.Ch){q:Nat × Sp.Pk}(hq:q∈L)(hn:q.2.name=c.name):(pks L).any (Sp.fits c)=Sp.fits c q.2:=by
 rw[Bool.eq_iff_iff,List.any_eq_true];constructor
 ·rintro ⟨p,hp,hf⟩
  obtain⟨r,hr,rfl⟩:=List.mem_map.1 hp;have hrn:r.2.name=c.name:=by
   unfold Sp.fits at hf;rw[Bool.and_eq_true] at hf;exact(eq_of_beq hf.1).symm
  have:=names_one ha r hr q hq (hrn.trans hn.symm);rw[<-this];exact hf
 ·intro hf
  exact⟨q.2,List.mem_map.2 ⟨q,hq,rfl⟩,hf⟩
theorem none_fits{L:List (Nat × Sp.Pk)}(c:Sp.Ch)(hn:∀ q∈L,q.2.name≠c.name):(pks L).any (Sp.fits c)=false:=by
 rw[List.any_eq_false];intro p hp hf;obtain⟨r,hr,rfl⟩:=List.mem_map.1 hp;unfold Sp.fits at hf;rw[Bool.and_eq_true] at hf;exact hn r hr (eq_of_beq hf.1).symm
end MP
theorem fits_look(c:Sp.Ch)(mb:Nat)(L:List (Nat × Sp.Pk))(w:World)(h:SetOn (fun b=>b<w.heap.size) w mb L)(hc:ChOk c)(w2:World)(hb:Below w.heap.size w w2):
  Calls Tryz.prog 167 #[.agg #[sv c.name,sv c.sign,sv c.ver],getKV (kvOf L) c.name (.pointer none)] w2 fun e w'=>e=.returned (.bool ((pks L).any (Sp.fits c)))/\Below w2.heap.size w2 w':=by
 rcases MP.kv_get (L:=L) c.name with⟨h1,h2⟩|⟨q,hq,h1,h2⟩
 ·rw[h1,MP.none_fits c h2]
  exact fits_nil _ _ _ _
 ·rw[h2,MP.any_fits h.2.1 c hq h1]
  obtain⟨hp,hok⟩:=h.2.2 q hq;exact fits_any c q.1 q.2 w2 ((hp.keep fun x hx=>hb.block x hx).mono fun x hx=>Nat.lt_of_lt_of_le hx hb.size) hok hc
theorem hasOne_any(c:Sp.Ch)(bx mb:Nat)(L:List (Nat × Sp.Pk))(w:World)(h:SetOn (fun b=>b<w.heap.size) w mb L)(hc:ChOk c)(hb:w.cell? ⟨bx,0,none⟩=some (.map (some mb))):
  Calls Tryz.prog 181 #[.agg #[sv c.name,sv c.sign,sv c.ver],.pointer (some ⟨bx,0,none⟩)] w fun e w'=>e=.returned (.bool ((pks L).any (Sp.fits c)))/\Below w.heap.size w w':=by
 have hbw:bx<w.heap.size:=by
  rcases Nat.lt_or_ge bx w.heap.size with h|h
  ·exact h
  ·simp[World.cell?,Array.getElem?_eq_none h] at hb
 have hfl:=fits_look c mb L w h hc _ ((Below.refl _ w).alloc (Nat.le_refl _) (.cells #[sv c.name,sv c.sign,sv c.ver] 187));have hlk:=(h.map.below (w':=w.alloc (.cells #[sv c.name,sv c.sign,sv c.ver] 187)) ((Below.refl _ w).alloc (Nat.le_refl _) _) h.map.lt).look Tryz.underlying140 zero118 c.name (by unfold ChOk at hc;unfold maxLen;omega);have HF:=hid hfl;clear hfl;unfold sv at *;go_enter Tryz.func181,Tryz.ntmps181;go_wp2_with fail;refine HF.out.mono ?_;rintro e w1 ⟨rfl,hb1⟩;go_wp2;go_ret;exact⟨rfl,((Below.refl _ w).alloc (Nat.le_refl _) _).trans (hb1.mono (by simp))⟩
namespace MP
theorem any_next{α:Type}{l:List α}{f:α->Bool}{k:Nat}(hk:k<l.length)(h:(l.take k).any f=false)(hf:f l[k]=false):(l.take (k+1)).any f=false:=by
 rw[List.take_succ_eq_append_getElem hk,List.any_append,h];simp[hf]
theorem any_hit{α:Type}{l:List α}{f:α->Bool}{k:Nat}(hk:k<l.length)(hf:f l[k]=true):l.any f=true:=
 List.any_eq_true.2 ⟨_,List.getElem_mem hk,hf⟩
end MP
theorem index_any(v:Value)(g:List Sp.Ch)(bx mb:Nat)(L:List (Nat × Sp.Pk))(w:World)(h:SetOn (fun b=>b<w.heap.size) w mb L)(hg:ChOn (fun b=>b<w.heap.size) w v g)(hgl:g.length<=3)(hc:∀ c∈g,ChOk c)(hb:w.cell? ⟨bx,0,none⟩=some (.map (some mb))):
  Calls Tryz.prog 222 #[v,.func (.func 181) #[] #[.pointer (some ⟨bx,0,none⟩)]] w fun e w'=>(∃ i:Int,e=.returned (.int .i64 i)/\decide (0<=i)=Sp.any1 g (pks L))/\Below w.heap.size w w':=by
 obtain⟨a,cap,rfl,hcap,hget⟩:=hg.get;have hbw:bx<w.heap.size:=by
  rcases Nat.lt_or_ge bx w.heap.size with h|h
  ·exact h
  ·simp[World.cell?,Array.getElem?_eq_none h] at hb
 have HG:=hid hget;have HS:=hid h;have HC:=hid hc;have HD:=hid (show Sp.any1 g (pks L)=g.any fun c=>(pks L).any (Sp.fits c) from rfl);clear hget hg h hc;go_enter Tryz.func222,Tryz.ntmps222;go_wp2
 go_loopw [8] (fun i wr=>∃ k:Nat,k<=g.length/\(g.take k).any (fun c=>(pks L).any (Sp.fits c))=false/\i=.int .i64 k/\Below w.heap.size w wr) (fun i _=>g.length+1-(intOf i).toNat)
 case atStart=>exact⟨0,Nat.zero_le _,rfl,rfl,Below.refl _ _⟩
 case round =>
  obtain⟨k,hk,hn,rfl,hbel⟩:=hrel;have HN:=hid hn;clear hn
  by_cases h:k<g.length
  ·obtain⟨b,off,rfl,hbb,c0,c1,c2⟩:=HG.out k h
   have d0:=(hbel.cell (p:=⟨b,off+k*3,none⟩) hbb).trans c0;have d1:=(hbel.cell (p:=⟨b,off+k*3+1,none⟩) hbb).trans c1;have d2:=(hbel.cell (p:=⟨b,off+k*3+2,none⟩) hbb).trans c2;have hcall:=hasOne_any g[k] bx mb L wr (HS.out.below hbel) (HC.out _ (List.getElem_mem h)) ((hbel.cell (p:=⟨bx,0,none⟩) hbw).trans hb);have HCALL:=hid hcall;clear hcall c0 c1 c2;have hws:=hbel.size;unfold sv at d0 d1 d2 HCALL
   cases hf:(pks L).any (Sp.fits g[k]) with
   | true =>
    have HF:=hid hf;clear hf;go_wp2_with fail;refine HCALL.out.mono ?_;rintro e w1 ⟨rfl,hb1⟩;rw[HF.out];go_wp2;go_ret;exact⟨⟨_,rfl,by rw[HD.out,MP.any_hit h HF.out];simp⟩,hbel.trans (hb1.mono hws)⟩
   | false =>
    have HF:=hid hf;clear hf;go_wp2_with fail;refine HCALL.out.mono ?_;rintro e w1 ⟨rfl,hb1⟩;rw[HF.out];go_wp2;go_roundw
    case rel=>exact⟨k+1,h,MP.any_next h HN.out HF.out,by go_num,hbel.trans (hb1.mono hws)⟩
    case measure=>simp[intOf];omega
  ·obtain rfl:k=g.length:=by omega
   have hall:=HN.out;rw[List.take_length] at hall;have HA:=hid hall;clear hall HN HG;go_wp2;go_ret;exact⟨⟨_,rfl,by rw[HD.out,HA.out];rfl⟩,hbel⟩
theorem hasFn_any(v:Value)(g:List Sp.Ch)(L:List (Nat × Sp.Pk)){W:World}{bx:Nat}
  (h:Calls Tryz.prog 222 #[v,.func (.func 181) #[] #[.pointer (some ⟨bx,0,none⟩)]] W fun e w'=>(∃ i:Int,e=.returned (.int .i64 i)/\decide (0<=i)=Sp.any1 g (pks L))/\Below W.heap.size W w'):
  Calls Tryz.prog 180 #[v,.func (.func 181) #[] #[.pointer (some ⟨bx,0,none⟩)]] W fun e w'=>e=.returned (.bool (Sp.any1 g (pks L)))/\Below W.heap.size W w':=by
 have H:=hid h;clear h;go_enter Tryz.func180,Tryz.ntmps180;go_wp2_with fail;refine H.out.mono ?_;rintro e w1 ⟨⟨i,rfl,hi⟩,hb1⟩;go_wp2;go_ret;exact⟨rfl,hb1⟩
theorem has_any(v:Value)(g:List Sp.Ch)(mb:Nat)(L:List (Nat × Sp.Pk))(w:World)(h:SetOn (fun b=>b<w.heap.size) w mb L)(hg:ChOn (fun b=>b<w.heap.size) w v g)(hgl:g.length<=3)(hc:∀ c∈g,ChOk c):
  Calls Tryz.prog 132 #[.map (some mb),v] w fun e w'=>e=.returned (.bool (Sp.any1 g (pks L)))/\Below w.heap.size w w':=by
 have hb0:Below w.heap.size w (w.alloc (.cells #[.map (some mb)] 140)):=(Below.refl _ w).alloc (Nat.le_refl _) _;have hcall:=index_any v g w.heap.size mb L (w.alloc (.cells #[.map (some mb)] 140)) (h.below hb0) ((SlOn.keep hg fun x hx=>hb0.block x hx).mono fun x hx=>Nat.lt_of_lt_of_le hx hb0.size) hgl hc (by rw[World.cell?_alloc_at _ _ _ _ rfl];rfl);have HCALL:=hid hcall;clear hcall h hg hc;have hmf:∀ (fn:Fn) (first cap:Array Value) (w:World),(Instr.makeFunc fn first cap).run Tryz.prog w=.ok (.func fn first cap) w:=fun _ _ _ _=>rfl
 have h180:=hasFn_any v g L HCALL.out;have H180:=hid h180;clear h180 HCALL;go_enter Tryz.func132,Tryz.ntmps132;go_wp2_with fail;refine H180.out.mono ?_;rintro e w1 ⟨rfl,hb1⟩;go_wp2;go_ret;exact⟨rfl,hb0.trans (hb1.mono hb0.size)⟩
end
section
open Go.RowKit Go.Maps
namespace MP
theorem first_least{l:List Sp.Pk}(hn:∀ p∈l,p.name≠[])(P:Sp.Str->Bool)(Q:Sp.Pk->Bool)(hPQ:∀ p∈l,P p.name=Q p):Sp.least ((l.filter Q).map (·.name))=((Sp.sorted (Sp.names l)).find? P).getD []:=by
 have hne:∀ x∈Sp.sorted (Sp.names l),x≠[]:=fun x hx=>by
  obtain⟨p,hp,rfl⟩:=List.mem_map.1 ((V8.sorted_perm _).mem_iff.1 hx);exact hn p hp
 rw[<-V5.least_find (V8.sorted_ord _) hne P];refine V5.least_congr (V5.names_ne hn Q) fun x=>?_
 rw[List.mem_map,List.mem_filter,(V8.sorted_perm _).mem_iff];constructor
 ·rintro ⟨p,hp,rfl⟩
  obtain⟨h1,h2⟩:=List.mem_filter.1 hp;exact⟨List.mem_map.2 ⟨p,h1,rfl⟩,by rw[hPQ p h1];exact h2⟩
 ·rintro ⟨h1,h2⟩
  obtain⟨p,hp,rfl⟩:=List.mem_map.1 h1;exact⟨p,List.mem_filter.2 ⟨hp,by rw[<-hPQ p hp];exact h2⟩,rfl⟩
def byN(L:List (Nat × Sp.Pk))(Q:Sp.Pk->Bool)(n:Sp.Str):Bool:=(pks L).any fun p=>p.name == n && Q p
theorem byN_eq{L:List (Nat × Sp.Pk)}(ha:L.Pairwise fun q r=>q.2.name≠r.2.name)(Q:Sp.Pk->Bool){q:Nat × Sp.Pk}(hq:q∈L):byN L Q q.2.name=Q q.2:=by
 unfold byN;rw[Bool.eq_iff_iff,List.any_eq_true];constructor
 ·rintro ⟨p,hp,h⟩
  obtain⟨r,hr,rfl⟩:=List.mem_map.1 hp;rw[Bool.and_eq_true] at h;have:=names_one ha r hr q hq (eq_of_beq h.1);rw[<-this];exact h.2
 ·intro h
  exact⟨q.2,List.mem_map.2 ⟨q,hq,rfl⟩,by simp[h]⟩
theorem first_of{L:List (Nat × Sp.Pk)}(ha:L.Pairwise fun q r=>q.2.name≠r.2.name)(hn:∀ p∈pks L,p.name≠[])(Q:Sp.Pk->Bool):Sp.least (((pks L).filter Q).map (·.name))=((Sp.sorted (Sp.names (pks L))).find? (byN L Q)).getD []:=
 first_least hn _ _ fun p hp=>by
  obtain⟨q,hq,rfl⟩:=List.mem_map.1 hp;exact byN_eq ha Q hq
theorem find_hit{l:List Sp.Str}{P:Sp.Str->Bool}{k:Nat}(hk:k<l.length)(h:(l.take k).any P=false)(hp:P l[k]=true):(l.find? P).getD []=l[k]:=by
 have:l=l.take k ++ l[k] :: l.drop (k+1):=by rw[<-List.drop_eq_getElem_cons hk,List.take_append_drop]
 have h2:(l.take k).find? P=none:=by
  rw[List.find?_eq_none];intro x hx;rw[List.any_eq_false] at h
  simpa using h x hx
 conv=>lhs;rw[this]
 rw[List.find?_append,h2,List.find?_cons_of_pos hp];rfl
theorem find_no{l:List Sp.Str}{P:Sp.Str->Bool}(h:l.any P=false):(l.find? P).getD []=[]:=by
 have h2:l.find? P=none:=by
  rw[List.find?_eq_none];intro x hx;rw[List.any_eq_false] at h
  simpa using h x hx
 rw[h2];rfl
theorem mem_sorted_names{L:List (Nat × Sp.Pk)}{n:Sp.Str}(h:n∈Sp.sorted (Sp.names (pks L))):∃ q∈L,q.2.name=n:=by
 obtain⟨p,hp,rfl⟩:=List.mem_map.1 ((V8.sorted_perm _).mem_iff.1 h);obtain⟨q,hq,rfl⟩:=List.mem_map.1 hp;exact⟨q,hq,rfl⟩
theorem kv_at{L:List (Nat × Sp.Pk)}(ha:L.Pairwise fun q r=>q.2.name≠r.2.name){q:Nat × Sp.Pk}(hq:q∈L):getKV (kvOf L) q.2.name (.pointer none)=.pointer (some ⟨q.1,0,none⟩):=
 get_mem (kv:=kvOf L) (List.pairwise_map.2 ha) (q:=(q.2.name,.pointer (some ⟨q.1,0,none⟩))) (List.mem_map.2 ⟨q,hq,rfl⟩) _
end MP
theorem lacking_any(mb:Nat)(L:List (Nat × Sp.Pk))(w:World)(h:SetOn (fun b=>b<w.heap.size) w mb L)(hmax:L.length<1000000000)(hn:∀ p∈pks L,p.name≠[]):
  Calls Tryz.prog 80 #[.map (some mb)] w fun e w'=>e=.returned (sv (Sp.lacking (pks L)))/\Below w.heap.size w w':=by
 have hres:Sp.lacking (pks L)=((Sp.sorted (Sp.names (pks L))).find? (MP.byN L (Sp.lacks (pks L)))).getD []:=MP.first_of h.2.1 hn _;rw[hres];have hnames:=names_any mb L w h hmax;have hmem:∀ n∈Sp.sorted (Sp.names (pks L)),∃ q∈L,q.2.name=n:=fun n=>MP.mem_sorted_names
 change Calls _ _ _ _ (fun e w'=>∃ v,e=.returned v/\StrsAt w' v (Sp.sorted (Sp.names (pks L)))/\Below w.heap.size w w') at hnames;have hnsl:(Sp.sorted (Sp.names (pks L))).length<1000000000:=by rw[(V8.sorted_perm _).length_eq];unfold Sp.names pks;simp;exact hmax
 generalize Sp.sorted (Sp.names (pks L))=ns at hnames hmem hnsl ⊢;have HM:=hid hmem;have HS:=hid h;have HN:=hid hnames;have hlt:=h.map.lt;have hap:=h.2.1;have HB:=hid (fun (q:Nat × Sp.Pk) (hq:q∈L)=>MP.byN_eq hap (Sp.lacks (pks L)) hq);have HK:=hid (fun (q:Nat × Sp.Pk) (hq:q∈L)=>MP.kv_at hap hq);clear hmem h hnames hres hn;unfold sv;go_enter Tryz.func80,Tryz.ntmps80;go_wp2_with fail;refine HN.out.mono ?_;rintro e w1 ⟨v,rfl,hv,hb1⟩;obtain⟨a,cap,rfl,hcap,hget⟩:=hv.get;have HG:=hid hget;have hs1:=hb1.size;clear hv hget HN;go_wp2
 go_loopw [10] (fun i wr=>∃ k:Nat,k<=ns.length/\(ns.take k).any (MP.byN L (Sp.lacks (pks L)))=false/\i=.int .i64 k/\Below w.heap.size w wr/\Below w1.heap.size w1 wr) (fun i _=>ns.length+1-(intOf i).toNat)
 case atStart=>exact⟨0,Nat.zero_le _,rfl,rfl,hb1,Below.refl _ _⟩
 case round =>
  obtain⟨k,hk,hno,rfl,hbel,hbel1⟩:=hrel;have HNO:=hid hno;clear hno
  by_cases h:k<ns.length
  ·obtain⟨b,off,rfl,hbb,hcell⟩:=HG.out k h
   have hcell':=(hbel1.cell (p:=⟨b,off+k,none⟩) hbb).trans hcell;clear hcell;obtain⟨q,hq,hqn⟩:=HM.out _ (List.getElem_mem h);have hQ:=HB.out q hq;have hKV:=HK.out q hq;rw[hqn] at hQ hKV;have hSr:=HS.out.below hbel;obtain⟨hip,hok⟩:=hSr.2.2 q hq;have hlk:=hSr.map.look Tryz.underlying140 zero118 ns[k] (by rw[<-hqn];have:=hok.name;unfold maxLen;omega);rw[hKV] at hlk;obtain⟨nv,bv,fv,hSS,h0,h1,h2,h3,h4,g0,g1,g2,n0,n1⟩:=hip;obtain⟨na,nc,rfl,hnc,gn⟩:=g0.get;have GN:=hid gn;have HQ:=hid hQ;have HOK:=hid hok;have HSR:=hid hSr;have hnl:=hok.needs;clear g0 g1 g2 n0 n1 gn hok hQ h1 h2 h3 h4 hKV hSr;generalize hnk:ns[k]=nm at *;have HNK:=hid hnk;clear hnk;go_wp2_with fail
   go_loopw [22] (fun i wi=>∃ j:Nat,j<=q.2.needs.length/\(q.2.needs.take j).any (fun g=>!Sp.any1 g (pks L))=false/\i=.int .i64 j/\Below w.heap.size w wi/\Below w1.heap.size w1 wi/\Below wr.heap.size wr wi) (fun i _=>q.2.needs.length+1-(intOf i).toNat)
   case atStart=>exact⟨0,Nat.zero_le _,rfl,rfl,hbel,hbel1,Below.refl _ _⟩
   case round =>
    obtain⟨j,hj,hnj,rfl,hbi,hbi1,hbir⟩:=hrel;have HNJ:=hid hnj;clear hnj
    by_cases hjl:j<q.2.needs.length
    ·obtain⟨gb,goff,x,rfl,hgb,hgc,hgch⟩:=GN.out j hjl
     have hgc':=(hbir.cell (p:=⟨gb,goff+j,none⟩) hgb).trans hgc;obtain⟨hgl,hgok⟩:=HOK.out.groups _ (List.getElem_mem hjl);have hcall:=has_any x q.2.needs[j] mb L wr (HS.out.below hbi) ((SlOn.keep hgch fun y hy=>hbir.block y hy).mono fun y hy=>Nat.lt_of_lt_of_le hy hbir.size) hgl hgok;have HCALL:=hid hcall;clear hcall hgc hgch hgok;have hwi:=hbi.size;have hwi1:=hbi1.size;have hwir:=hbir.size
     cases hf:Sp.any1 q.2.needs[j] (pks L) with
     | true =>
      have HF:=hid hf;clear hf;go_wp2_with fail;refine HCALL.out.mono ?_;rintro e w2 ⟨rfl,hb2⟩;rw[HF.out];go_wp2;go_roundw
      case rel=>exact⟨j+1,hjl,MP.any_next hjl HNJ.out (by rw[HF.out];rfl),by go_num,hbi.trans (hb2.mono hwi),hbi1.trans (hb2.mono hwi1),hbir.trans (hb2.mono hwir)⟩
      case measure=>simp[intOf];omega
     | false =>
      have HF:=hid hf;clear hf;go_wp2_with fail;refine HCALL.out.mono ?_;rintro e w2 ⟨rfl,hb2⟩;rw[HF.out];go_wp2;go_ret;have hl:Sp.lacks (pks L) q.2=true:=by unfold Sp.lacks;exact MP.any_hit hjl (by rw[HF.out];rfl)
      exact⟨by rw[MP.find_hit h HNO.out (by rw[HNK.out,HQ.out];exact hl),HNK.out];rfl,hbi.trans (hb2.mono hwi)⟩
    ·obtain rfl:j=q.2.needs.length:=by omega
     have hl:Sp.lacks (pks L) q.2=false:=by
      have:=HNJ.out;rw[List.take_length] at this;unfold Sp.lacks;exact this
     have HL:=hid hl;clear hl HNJ;go_wp2;go_roundw
     case rel=>exact⟨k+1,h,MP.any_next h HNO.out (by rw[HNK.out,HQ.out];exact HL.out),by go_num,hbi,hbi1⟩
     case measure=>simp[intOf];omega
  ·obtain rfl:k=ns.length:=by omega
   have hall:=HNO.out;rw[List.take_length] at hall;have HA:=hid hall;clear hall HNO HG;go_wp2;go_ret;exact⟨by rw[MP.find_no HA.out];rfl,hbel⟩
namespace MP
def barC(l:List Sp.Pk)(n:Sp.Str)(c:Sp.Ch):Bool:=!(c.name == n) && l.any (Sp.fits c)
theorem bars_eq(l:List Sp.Pk)(p:Sp.Pk):Sp.barsOne l p=p.bars.any (barC l p.name):=by
 unfold Sp.barsOne Sp.any1 barC;rw[Bool.eq_iff_iff,List.any_eq_true,List.any_eq_true];have hf:∀ (c:Sp.Ch) (q:Sp.Pk),Sp.fits c q=true->c.name=q.name:=fun c q h=>by
  unfold Sp.fits at h;rw[Bool.and_eq_true] at h;exact eq_of_beq h.1
 constructor
 ·rintro ⟨q,hq,h⟩
  rw[Bool.and_eq_true,List.any_eq_true] at h;obtain⟨h1,c,hc,h2⟩:=h;simp only[List.any_cons,List.any_nil,Bool.or_false] at h2;refine⟨c,hc,?_⟩;rw[Bool.and_eq_true,List.any_eq_true];refine⟨?_,q,hq,h2⟩;rw[hf c q h2]
  simpa using h1
 ·rintro ⟨c,hc,h⟩
  rw[Bool.and_eq_true,List.any_eq_true] at h;obtain⟨h1,q,hq,h2⟩:=h;refine⟨q,hq,?_⟩;rw[Bool.and_eq_true,List.any_eq_true];refine⟨?_,c,hc,by simpa using h2⟩;rw[<-hf c q h2]
  simpa using h1
end MP
theorem barring_any(mb:Nat)(L:List (Nat × Sp.Pk))(w:World)(h:SetOn (fun b=>b<w.heap.size) w mb L)(hmax:L.length<1000000000)(hn:∀ p∈pks L,p.name≠[]):
  Calls Tryz.prog 123 #[.map (some mb)] w fun e w'=>e=.returned (sv (Sp.barring (pks L)))/\Below w.heap.size w w':=by
 have hres:Sp.barring (pks L)=((Sp.sorted (Sp.names (pks L))).find? (MP.byN L (Sp.barsOne (pks L)))).getD []:=MP.first_of h.2.1 hn _;rw[hres];have hnames:=names_any mb L w h hmax;have hmem:∀ n∈Sp.sorted (Sp.names (pks L)),∃ q∈L,q.2.name=n:=fun n=>MP.mem_sorted_names
 change Calls _ _ _ _ (fun e w'=>∃ v,e=.returned v/\StrsAt w' v (Sp.sorted (Sp.names (pks L)))/\Below w.heap.size w w') at hnames;have hnsl:(Sp.sorted (Sp.names (pks L))).length<1000000000:=by rw[(V8.sorted_perm _).length_eq];unfold Sp.names pks;simp;exact hmax
 generalize Sp.sorted (Sp.names (pks L))=ns at hnames hmem hnsl ⊢;have HM:=hid hmem;have HS:=hid h;have HN:=hid hnames;have hlt:=h.map.lt;have hap:=h.2.1;have HB:=hid (fun (q:Nat × Sp.Pk) (hq:q∈L)=>(MP.byN_eq hap (Sp.barsOne (pks L)) hq).trans (MP.bars_eq (pks L) q.2));have HK:=hid (fun (q:Nat × Sp.Pk) (hq:q∈L)=>MP.kv_at hap hq);clear hmem h hnames hres hn;unfold sv;go_enter Tryz.func123,Tryz.ntmps123;go_wp2
 go_step3
 go_wp2
 try go_step3
 go_wp2_with fail;refine HN.out.mono ?_;rintro e w1 ⟨v,rfl,hv,hb1⟩;obtain⟨a,cap,rfl,hcap,hget⟩:=hv.get;have HG:=hid hget;have hs1:=hb1.size;clear hv hget HN;go_wp2
 go_loopw [10] (fun i wr=>∃ k:Nat,k<=ns.length/\(ns.take k).any (MP.byN L (Sp.barsOne (pks L)))=false/\i=.int .i64 k/\Below w.heap.size w wr/\Below w1.heap.size w1 wr) (fun i _=>ns.length+1-(intOf i).toNat)
 case atStart=>exact⟨0,Nat.zero_le _,rfl,rfl,hb1,Below.refl _ _⟩
 case round =>
  obtain⟨k,hk,hno,rfl,hbel,hbel1⟩:=hrel;have HNO:=hid hno;clear hno
  by_cases h:k<ns.length
  ·obtain⟨b,off,rfl,hbb,hcell⟩:=HG.out k h
   have hcell':=(hbel1.cell (p:=⟨b,off+k,none⟩) hbb).trans hcell;clear hcell;obtain⟨q,hq,hqn⟩:=HM.out _ (List.getElem_mem h);have hQ:=HB.out q hq;have hKV:=HK.out q hq;rw[hqn] at hQ hKV;have hSr:=HS.out.below hbel;obtain⟨hip,hok⟩:=hSr.2.2 q hq;have hlk:=hSr.map.look Tryz.underlying140 zero118 ns[k] (by rw[<-hqn];have:=hok.name;unfold maxLen;omega);rw[hKV] at hlk;obtain⟨nv,bv,fv,hSS,h0,h1,h2,h3,h4,g0,g1,g2,n0,n1⟩:=hip;obtain⟨ba,bc,rfl,hbc,gb⟩:=g1.get;have GB:=hid gb;have HQ:=hid hQ;have HOK:=hid hok;have hbl:=hok.bars;clear g0 g1 g2 n0 n1 gb hok hQ h0 h2 h3 h4 hKV hSr;generalize hnk:ns[k]=nm at *;have HNK:=hid hnk;clear hnk;go_wp2_with fail
   go_loopw [22] (fun i wi=>∃ j:Nat,j<=q.2.bars.length/\(q.2.bars.take j).any (MP.barC (pks L) nm)=false/\i=.int .i64 j/\Below w.heap.size w wi/\Below w1.heap.size w1 wi/\Below wr.heap.size wr wi) (fun i _=>q.2.bars.length+1-(intOf i).toNat)
   case atStart=>exact⟨0,Nat.zero_le _,rfl,rfl,hbel,hbel1,Below.refl _ _⟩
   case round =>
    obtain⟨j,hj,hnj,rfl,hbi,hbi1,hbir⟩:=hrel;have HNJ:=hid hnj;clear hnj
    by_cases hjl:j<q.2.bars.length
    ·obtain⟨gb,goff,rfl,hgb,hc0,hc1,hc2⟩:=GB.out j hjl
     have d0:=(hbir.cell (p:=⟨gb,goff+j*3,none⟩) hgb).trans hc0;have d1:=(hbir.cell (p:=⟨gb,goff+j*3+1,none⟩) hgb).trans hc1;have d2:=(hbir.cell (p:=⟨gb,goff+j*3+2,none⟩) hgb).trans hc2;have hcok:=HOK.out.barred _ (List.getElem_mem hjl);have HBC:=hid (show MP.barC (pks L) nm q.2.bars[j]=(!(q.2.bars[j].name == nm) && (pks L).any (Sp.fits q.2.bars[j])) from rfl);have hbA:Below wr.heap.size wr (wr.alloc (.cells #[sv q.2.bars[j].name,sv q.2.bars[j].sign,sv q.2.bars[j].ver] 187)):=(Below.refl _ wr).alloc (Nat.le_refl _) _;have hcall:=fits_look q.2.bars[j] mb L wr (HS.out.below hbi) hcok _ hbA;have hlk2:=((HS.out.below hbi).map.below hbA (HS.out.below hbi).map.lt).look Tryz.underlying140 zero118 q.2.bars[j].name (by unfold ChOk at hcok;unfold maxLen;omega);have HCALL:=hid hcall;clear hcall hc0 hc1 hc2;have hwi:=hbi.size;have hwi1:=hbi1.size;have hwir:=hbir.size;unfold sv at d0 d1 d2 hlk2 HCALL hbA;generalize hcj:q.2.bars[j]=c at *;have HCJ:=hid hcj;clear hcj
     cases hcn:(c.name == nm) with
     | true =>
      have HCN:=hid hcn;go_wp2_with fail;go_roundw
      case rel=>exact⟨j+1,hjl,MP.any_next hjl HNJ.out (by rw[HCJ.out,HBC.out];simp[HCN.out]),by go_num,hbi.trans (hbA.mono hwi),hbi1.trans (hbA.mono hwi1),hbir.trans (hbA.mono hwir)⟩
      case measure=>simp[intOf];omega
     | false =>
      have HCN:=hid hcn
      cases hf:(pks L).any (Sp.fits c) with
      | false =>
       have HF:=hid hf;clear hf;go_wp2_with fail;refine HCALL.out.mono ?_;rintro e w2 ⟨rfl,hb2⟩;rw[HF.out];go_wp2;go_roundw
       case rel=>exact⟨j+1,hjl,MP.any_next hjl HNJ.out (by rw[HCJ.out,HBC.out,HF.out];simp),by go_num,hbi.trans ((hbA.trans (hb2.mono hbA.size)).mono hwi),hbi1.trans ((hbA.trans (hb2.mono hbA.size)).mono hwi1),hbir.trans ((hbA.trans (hb2.mono hbA.size)).mono hwir)⟩
       case measure=>simp[intOf];omega
      | true =>
       have HF:=hid hf;clear hf;go_wp2_with fail;refine HCALL.out.mono ?_;rintro e w2 ⟨rfl,hb2⟩;rw[HF.out];go_wp2
       try rw[Exit.noGoto_ret]
       go_ret;have hl:q.2.bars.any (MP.barC (pks L) nm)=true:=MP.any_hit hjl (by rw[HCJ.out,HBC.out,HF.out,HCN.out];rfl);exact⟨by rw[MP.find_hit h HNO.out (by rw[HNK.out,HQ.out];exact hl),HNK.out];rfl,hbi.trans ((hbA.trans (hb2.mono hbA.size)).mono hwi)⟩
    ·obtain rfl:j=q.2.bars.length:=by omega
     have hl:q.2.bars.any (MP.barC (pks L) nm)=false:=by
      have:=HNJ.out;rw[List.take_length] at this;exact this
     have HL:=hid hl;clear hl HNJ;go_wp2;go_roundw
     case rel=>exact⟨k+1,h,MP.any_next h HNO.out (by rw[HNK.out,HQ.out];exact HL.out),by go_num,hbi,hbi1⟩
     case measure=>simp[intOf];omega
  ·obtain rfl:k=ns.length:=by omega
   have hall:=HNO.out;rw[List.take_length] at hall;have HA:=hid hall;clear hall HNO HG;go_wp2
   try rw[Exit.noGoto_ret]
   go_ret;exact⟨by rw[MP.find_no HA.out];rfl,hbel⟩
end
section
open Go.RowKit Go.Maps
structure RangeS(w:World)(mb r:Nat)(L T:List (Nat × Sp.Pk)):Prop where
 at_:RangeAt w mb r (kvOf L) (kvOf T)
 sub:∀ q∈T,q∈L
 apart:T.Pairwise fun q r=>q.2.name≠r.2.name
namespace MP
def dropL(T:List (Nat × Sp.Pk))(n:Sp.Str):List (Nat × Sp.Pk):=T.filter fun q=>q.2.name != n
theorem drop_kv(T:List (Nat × Sp.Pk))(n:Sp.Str):dropKV (kvOf T) n=kvOf (dropL T n):=by
 unfold dropKV kvOf dropL;rw[List.filter_map];rfl
theorem dropL_perm{T:List (Nat × Sp.Pk)}(ha:T.Pairwise fun q r=>q.2.name≠r.2.name){t:Nat × Sp.Pk}(ht:t∈T):T.Perm (t :: dropL T t.2.name):=by
 induction T with
 | nil=>cases ht
 | cons p r ih =>
  obtain⟨h1,h2⟩:=List.pairwise_cons.1 ha;unfold dropL at ih ⊢
  rcases List.mem_cons.1 ht with rfl|ht
  ·rw[List.filter_cons_of_neg (by simp)]
   have:r.filter (fun q=>q.2.name != t.2.name)=r:=by
    rw[List.filter_eq_self];intro p hp;simpa using fun e=>h1 p hp e.symm
   rw[this]
  ·rw[List.filter_cons_of_pos (by simpa using h1 t ht)]
   exact((ih h2 ht).cons p).trans (List.Perm.swap t p _)
end MP
theorem RangeS.block{w w':World}{mb r:Nat}{L T:List (Nat × Sp.Pk)}(h:RangeS w mb r L T)(hb:w'.heap[mb]? = w.heap[mb]?)(hr:w'.heap[r]? = w.heap[r]?):RangeS w' mb r L T:=⟨h.at_.block hb hr,h.sub,h.apart⟩
section
variable (w:World) {ops:Array Oper} {rest:List Oper} {o:Oper} {a:Act} {Q:Exit->Act->World->Prop}
theorem wp_set_range{S:Nat->Prop}(t e:TypeId)(hg:o.guard=none)(m:Operand)(hop:o.op=Op.range t m)(ht:Tryz.prog.underlying t=some (.map 9 e))(b:Nat)(L:List (Nat × Sp.Pk))(hm:a.eval m=.map (some b))(h:SetOn S w b L)
  (K:∀ w',RangeS w' b w.heap.size L L->w.grownBy w' none->w'.heap.size=w.heap.size+1->wpList Tryz.prog ops Q rest (a.put o.dst (.pointer (some ⟨w.heap.size,0,none⟩))) w'):wpList Tryz.prog ops Q (o :: rest) a w:=
 wp_map_range w t e hg m hop ht b (kvOf L) hm h.map fun w' h1 h2 h3=>K w' ⟨h1,fun _ hq=>hq,h.2.1⟩ h2 h3
theorem wp_set_next(hg:o.guard=none)(it:Operand)(hop:o.op=Op.next it false)(b r:Nat)(L T:List (Nat × Sp.Pk))(hit:a.eval it=.pointer (some ⟨r,0,none⟩))(h:RangeS w b r L T)
  (hDone:T=[]->wpList Tryz.prog ops Q rest (a.put o.dst (.tuple #[.bool false])) w)
  (hMore:∀ (t:Nat × Sp.Pk) (w':World),t∈T->RangeS w' b r L (MP.dropL T t.2.name)->w.grownBy w' (some r)->w'.heap.size=w.heap.size ->
   (Instr.entry (.pointer (some ⟨r,0,none⟩))).run Tryz.prog w'=.ok (.tuple #[.string ⟨t.2.name.toArray⟩,.pointer (some ⟨t.1,0,none⟩)]) w'->w'.rangeLeft b r<w.rangeLeft b r->wpList Tryz.prog ops Q rest (a.put o.dst (.tuple #[.bool true,.string ⟨t.2.name.toArray⟩,.pointer (some ⟨t.1,0,none⟩)])) w'):wpList Tryz.prog ops Q (o :: rest) a w:=by
 refine wp_map_next w hg it hop b r (kvOf L) (kvOf T) hit h.at_ (fun e=>hDone (List.map_eq_nil_iff.1 e)) fun q w' hq h1 h2 h3 h4 h5=>?_
 obtain⟨t,ht,rfl⟩:=List.mem_map.1 hq;rw[MP.drop_kv] at h1;exact hMore t w' ht ⟨h1,fun q hq=>h.sub q (List.mem_filter.1 hq).1,h.apart.sublist List.filter_sublist⟩ h2 h3 h4 h5
end
theorem grown_below{w w':World}{r B:Nat}(h:w.grownBy w' (some r))(hr:B<=r)(hB:B<=w.heap.size):Below B w w':=
 ⟨h.os,h.tape,h.output,h.size,fun k hk=>h.block k (by omega) (by simp;omega)⟩
namespace MP
def tot(T:List (Nat × Sp.Pk)):Nat:=Sp.size (pks T)
theorem tot_drop{T:List (Nat × Sp.Pk)}(ha:T.Pairwise fun q r=>q.2.name≠r.2.name){t:Nat × Sp.Pk}(ht:t∈T):tot T=(Sp.print t.2).length+tot (dropL T t.2.name):=by
 unfold tot;have hp:(pks T).Perm (pks (t :: dropL T t.2.name)):=(dropL_perm ha ht).map _;rw[V8.size_perm hp];unfold Sp.size pks;simp
end MP
theorem size_any(mb:Nat)(L:List (Nat × Sp.Pk))(w:World)(h:SetOn (fun b=>b<w.heap.size) w mb L)(hsz:Sp.size (pks L)<4611686018427387904):
  Calls Tryz.prog 81 #[.map (some mb)] w fun e w'=>e=.returned (.int .i64 (Sp.size (pks L)))/\Below w.heap.size w w':=by
 have hlt:=h.map.lt;have HS:=hid h;change MP.tot L<_ at hsz;change Calls _ _ _ _ fun e w'=>e=.returned (.int .i64 (MP.tot L))/\_
 generalize htot:MP.tot L=tt at hsz ⊢;have HT:=hid htot;clear htot;go_enter Tryz.func81,Tryz.ntmps81;go_wp2_with (at_range;refine wp_set_range _ 140 118 rfl _ rfl Tryz.underlying140 mb L rfl h ?_;intro w1 hr1 hg1 hs1)
 go_frame
 have hb1:Below w.heap.size w w1:=⟨hg1.os,hg1.tape,hg1.output,by omega,fun k hk=>hg1.block k hk (by simp)⟩
 clear h hg1
 go_loopw [3,8] (fun n _ wr=>∃ (T:List (Nat × Sp.Pk)) (k:Nat),RangeS wr mb w.heap.size L T/\n=.int .i64 k/\k+MP.tot T=tt/\Below w.heap.size w wr) (fun _ _ wr=>wr.rangeLeft mb w.heap.size)
 case atStart=>exact⟨L,0,hr1,rfl,by rw[HT.out];omega,hb1⟩
 case round =>
  obtain⟨T,k,hr,rfl,hk,hbel⟩:=hrel;go_wp2_with (at_next;refine wp_set_next _ rfl _ rfl mb w.heap.size L T rfl hr ?_ ?_)
  ·intro hT
   subst hT;have hkt:k=tt:=by unfold MP.tot Sp.size pks at hk;simpa using hk
   subst hkt;go_wp2;go_ret;exact⟨rfl,hbel⟩
  ·intro tb tp w2 ht hr2 hg2 hs2 hen hleft
   have hq:=hr.sub (tb,tp) ht;have hbel2:Below w.heap.size w w2:=hbel.trans (grown_below hg2 (Nat.le_refl _) hbel.size);obtain⟨hip,hok⟩:=(HS.out.below hbel2).2.2 (tb,tp) hq;have hp:=print_any tb tp w2 hip hok;have hd:=MP.tot_drop hr.apart ht;have HP:=hid hp;have hrl:=hr2.at_.lt;have hml:=hr2.at_.map.lt;have hws:=hbel2.size;clear hp hip hok hr;unfold sv at HP;generalize Sp.print tp=pt at *;go_wp2_with fail;refine HP.out.mono ?_;rintro e w3 ⟨rfl,hb3⟩;go_wp2;go_roundw
   case rel=>exact⟨_,k+pt.length,hr2.block (hb3.block _ hml) (hb3.block _ hrl),by go_num,by omega,hbel2.trans (hb3.mono hws)⟩
   case measure=>rw[rangeLeft_block (hb3.block _ hml) (hb3.block _ hrl)];exact hleft
end
section
open Go.RowKit Go.Extern.Stop Go.Stop Go.Extern
theorem Tryz.valueOf127(t:Addr)(w:World):(ReflectliteValue.unpack (.iface 127 (.pointer (some t)))).run Tryz.prog w
  = .ok (.agg #[.pointer (some ⟨6,127,none⟩),.pointer (some ⟨w.heap.size,0,none⟩),.int .u64 150]) (w.alloc (.cells #[.pointer (some t)] 127)):=by kernel_rfl
theorem Tryz.type127(a : Addr)(w : World): (ReflectliteValue.methodAny (ReflectliteValue.valueError "reflectlite.Value.Type" 0) (fun t _ _ _ => ReflectliteType.toType t) #[.agg #[.pointer (some ⟨6, 127, none⟩), .pointer (some a), .int .u64 150]]).run Tryz.prog w
  = .ok (.iface 251 (.agg #[.pointer (some ⟨6,127,none⟩)])) w:=by kernel_rfl
theorem Tryz.kind127(w:World):((ReflectliteType.abiMethod fun t=>(fun a:Nat=>Value.int IntKind.u8 (a:Int)) <$> Rtype.kind t) #[.pointer (some ⟨6,127,none⟩)]).run Tryz.prog w=.ok (.int .u8 22) w:=by kernel_rfl
theorem Tryz.kind121(w:World):((ReflectliteType.abiMethod fun t=>(fun a:Nat=>Value.int IntKind.u8 (a:Int)) <$> Rtype.kind t) #[.pointer (some ⟨6,121,none⟩)]).run Tryz.prog w=.ok (.int .u8 22) w:=by kernel_rfl
theorem Tryz.elem127(w:World):(ReflectliteType.method ReflectliteType.elem #[.agg #[.pointer (some ⟨6,127,none⟩)]]).run Tryz.prog w=.ok (.iface 251 (.agg #[.pointer (some ⟨6,121,none⟩)])) w:=by kernel_rfl
theorem Tryz.implements121(w : World): (ReflectliteType.relation "Implements" ReflectliteType.implements_ #[.agg #[.pointer (some ⟨6, 121, none⟩)], .iface 251 (.agg #[.pointer (some ⟨6, 81, none⟩)])]).run Tryz.prog w = .ok (.bool true) w := by kernel_rfl
theorem Tryz.typeOf121(v:Value)(w:World):(ReflectliteType.typeOf #[.iface 121 v]).run Tryz.prog w=.ok (.iface 251 (.agg #[.pointer (some ⟨6,121,none⟩)])) w:=by kernel_rfl
theorem Tryz.assignable121(w : World): (ReflectliteType.relation "AssignableTo" ReflectliteType.assignableTo #[.agg #[.pointer (some ⟨6, 121, none⟩)], .iface 251 (.agg #[.pointer (some ⟨6, 121, none⟩)])]).run Tryz.prog w = .ok (.bool true) w := by kernel_rfl
theorem Tryz.valueOf121(e:Addr)(w:World):(ReflectliteValue.unpack (.iface 121 (.pointer (some e)))).run Tryz.prog w
  = .ok (.agg #[.pointer (some ⟨6,121,none⟩),.pointer (some ⟨w.heap.size,0,none⟩),.int .u64 150]) (w.alloc (.cells #[.pointer (some e)] 121)):=by kernel_rfl
end
section
open Go.RowKit Go.Extern.Stop Go.Stop Go.Extern
theorem Tryz.methodKind(h : Value)(w : World): (Go.method 496 251 (.agg #[h]) "Kind").run Tryz.prog w = .ok (293, h) w := by kernel_rfl
theorem rlm(z:Sem Value)(f:TypeId->Addr->Nat->Nat->Sem Value)(v:Value):
  ReflectliteValue.method z f #[v]=(do match <-ReflectliteValue.parts v with|none=>z|some (t,a,fl)=>f t a fl (fl % 32)):=rfl
theorem Tryz.parts127(a:Addr)(w:World):(ReflectliteValue.parts (.agg #[.pointer (some ⟨6,127,none⟩),.pointer (some a),.int .u64 150])).run Tryz.prog w=.ok (some (127,a,150)) w:=by kernel_rfl
theorem Tryz.isNil127(a p:Addr)(W:World)(ha:W.cell? a=some (.pointer (some p))):
  (ReflectliteValue.method (ReflectliteValue.valueError "reflectlite.Value.IsNil" 0) ReflectliteValue.isNil #[.agg #[.pointer (some ⟨6, 127, none⟩), .pointer (some a), .int .u64 150]]).run Tryz.prog W = .ok (.bool false) W := by
 rw[rlm];simp only[Sem.run_bind,Tryz.parts127,Result.andThen];simp[ReflectliteValue.isNil,loadVar,isAgg,underlying,Tryz.underlying127,ha,Result.andThen]
theorem Tryz.methodElem(h : Value)(w : World): (Go.method 496 251 (.agg #[h]) "Elem").run Tryz.prog w = .ok (310, .agg #[h]) w := by kernel_rfl
theorem Tryz.methodImplements(h : Value)(w : World): (Go.method 496 251 (.agg #[h]) "Implements").run Tryz.prog w = .ok (311, .agg #[h]) w := by kernel_rfl
theorem Tryz.methodAssignableTo(h : Value)(w : World): (Go.method 496 251 (.agg #[h]) "AssignableTo").run Tryz.prog w = .ok (308, .agg #[h]) w := by kernel_rfl
theorem Tryz.elemOf127(w:World):(Rtype.elem? 127).run Tryz.prog w=.ok (some 121) w:=by kernel_rfl
theorem Tryz.mk121(p:Addr)(w:World):(ReflectliteValue.mk 121 p ReflectliteValue.flagAddr).run Tryz.prog w=.ok (.agg #[.pointer (some ⟨6,121,none⟩),.pointer (some p),.int .u64 406]) w:=by kernel_rfl
theorem Tryz.elemV127(a p:Addr)(W:World)(ha:W.cell? a=some (.pointer (some p))):
  (ReflectliteValue.method (ReflectliteValue.valueError "reflectlite.Value.Elem" 0) ReflectliteValue.elem #[.agg #[.pointer (some ⟨6, 127, none⟩), .pointer (some a), .int .u64 150]]).run Tryz.prog W
   = .ok (.agg #[.pointer (some ⟨6,121,none⟩),.pointer (some p),.int .u64 406]) W:=by
 rw[rlm];simp only[Sem.run_bind,Tryz.parts127,Result.andThen];simp[ReflectliteValue.elem,loadVar,isAgg,underlying,Tryz.underlying127,ha,Result.andThen,Tryz.elemOf127,Tryz.mk121]
theorem rls(v x:Value):ReflectliteValue.set #[v,x]=(do
  let (some (dst,a,fl),some (src,b,_)):=(<-ReflectliteValue.parts v,<-ReflectliteValue.parts x)
   | unsupported (.noEntry "extern/(internal/reflectlite.Value).Set.zeroValue")
  if fl / ReflectliteValue.flagAddr % 2 == 0 then unsupported (.noEntry "extern/(internal/reflectlite.Value).Set.unaddressable")
  let val <-loadVar src b
  if <-Rtype.directlyAssignable dst src then storeVar dst a val
  else if <-Rtype.implements dst src then
   if (<-Rtype.kind src) == 20 then
    match val with
    | .nilIface => unsupported (.noEntry "extern/reflectlite: a nil value of one interface type handed on as a value of another")
    | _=>storeVar dst a val
   else storeVar dst a (.iface src val)
  else panicString ("reflectlite.Set: value of type " ++ (← Rtype.spelt src) ++ " is not assignable to type " ++ (← Rtype.spelt dst))
  pure (.tuple #[])):=rfl
theorem Tryz.parts121a(a:Addr)(w:World):(ReflectliteValue.parts (.agg #[.pointer (some ⟨6,121,none⟩),.pointer (some a),.int .u64 406])).run Tryz.prog w=.ok (some (121,a,406)) w:=by kernel_rfl
theorem Tryz.parts121(a:Addr)(w:World):(ReflectliteValue.parts (.agg #[.pointer (some ⟨6,121,none⟩),.pointer (some a),.int .u64 150])).run Tryz.prog w=.ok (some (121,a,150)) w:=by kernel_rfl
theorem Tryz.direct121(w:World):(Rtype.directlyAssignable 121 121).run Tryz.prog w=.ok true w:=by kernel_rfl
theorem Tryz.set121(ta b e:Addr)(old:Value)(W:World)(hb:W.cell? b=some (.pointer (some e)))(ht:W.cell? ta=some old)(hf:W.frozen? ta=false):
  (ReflectliteValue.set #[.agg #[.pointer (some ⟨6,121,none⟩),.pointer (some ta),.int .u64 406],.agg #[.pointer (some ⟨6,121,none⟩),.pointer (some b),.int .u64 150]]).run Tryz.prog W
   = .ok (.tuple #[]) (W.setCell ta (.pointer (some e))):=by
 rw[rls];simp only[Sem.run_bind,Tryz.parts121a,Tryz.parts121,Result.andThen];simp[ReflectliteValue.flagAddr,loadVar,isAgg,underlying,Tryz.underlying121,hb,Result.andThen,Tryz.direct121,storeVar,Value.cells,storeCells,Addr.add];rw[run_store Tryz.prog W ta _ _ (by rfl)];simp[ht,hf]
theorem as_hit(e t:Addr)(old:Value)(w:World)(hg:w.cell? ⟨0,0,none⟩=some (.iface 251 (.agg #[.pointer (some ⟨6,81,none⟩)])))(ht0:w.cell? t=some old)(hf0:w.frozen? t=false):
  Calls Tryz.prog 65 #[.iface 121 (.pointer (some e)),.iface 127 (.pointer (some t))] w fun ev w'=>ev=.returned (.bool true)/\w'=((((w.alloc (.cells #[.pointer (some t)] 127)).alloc (.cells #[.pointer (some ⟨6,127,none⟩),.pointer (some ⟨w.heap.size,0,none⟩),.int .u64 150] 193)).alloc (.cells #[.pointer (some ⟨6,127,none⟩),.pointer (some ⟨w.heap.size,0,none⟩),.int .u64 150] 193)).alloc (.cells #[.pointer (some e)] 121)).setCell t (.pointer (some e)):=by
 have h6:=@run_callFunc_extern Tryz.prog 111 _ (fun args=>ReflectliteValue.unpack (args.getD 0 (.tuple #[]))) Tryz.func111 (by kernel_rfl) (by kernel_rfl) (by kernel_rfl) (by kernel_rfl)
 have h7 := @run_callFunc_extern Tryz.prog 112 _ (ReflectliteValue.methodAny (ReflectliteValue.valueError "reflectlite.Value.Type" 0) (fun t _ _ _ => ReflectliteType.toType t)) Tryz.func112 (by kernel_rfl) (by kernel_rfl) (by kernel_rfl) (by kernel_rfl)
 have h8 := @run_callFunc_extern Tryz.prog 113 _ (ReflectliteValue.method (ReflectliteValue.valueError "reflectlite.Value.IsNil" 0) ReflectliteValue.isNil) Tryz.func113 (by kernel_rfl) (by kernel_rfl) (by kernel_rfl) (by kernel_rfl)
 have h27:=@run_callFunc_extern Tryz.prog 293 _ (ReflectliteType.abiMethod fun t=>do pure (.int .u8 (<-Rtype.kind t))) Tryz.func293 (by kernel_rfl) (by kernel_rfl) (by kernel_rfl) (by kernel_rfl);have h37:=@run_callFunc_extern Tryz.prog 310 _ (ReflectliteType.method ReflectliteType.elem) Tryz.func310 (by kernel_rfl) (by kernel_rfl) (by kernel_rfl) (by kernel_rfl)
 have h38 := @run_callFunc_extern Tryz.prog 311 _ (ReflectliteType.relation "Implements" ReflectliteType.implements_) Tryz.func311 (by kernel_rfl) (by kernel_rfl) (by kernel_rfl) (by kernel_rfl)
 have h10:=@run_callFunc_extern Tryz.prog 115 _ ReflectliteType.typeOf Tryz.func115 (by kernel_rfl) (by kernel_rfl) (by kernel_rfl) (by kernel_rfl)
 have h35 := @run_callFunc_extern Tryz.prog 308 _ (ReflectliteType.relation "AssignableTo" ReflectliteType.assignableTo) Tryz.func308 (by kernel_rfl) (by kernel_rfl) (by kernel_rfl) (by kernel_rfl)
 have h11 := @run_callFunc_extern Tryz.prog 164 _ (ReflectliteValue.method (ReflectliteValue.valueError "reflectlite.Value.Elem" 0) ReflectliteValue.elem) Tryz.func164 (by kernel_rfl) (by kernel_rfl) (by kernel_rfl) (by kernel_rfl)
 have h12:=@run_callFunc_extern Tryz.prog 165 _ ReflectliteValue.set Tryz.func165 (by kernel_rfl) (by kernel_rfl) (by kernel_rfl) (by kernel_rfl);have tO:=Tryz.typeOf121;have mA:=Tryz.methodAssignableTo;have a25:=Tryz.assignable121;have v25:=Tryz.valueOf121;have f6:=Tryz.valueOf127;have f7:=Tryz.type127;have mK:=Tryz.methodKind;have mE:=Tryz.methodElem;have mI:=Tryz.methodImplements;have k27:=Tryz.kind127;have k25:=Tryz.kind121;have e27:=Tryz.elem127;have i25:=Tryz.implements121;have n8:=Tryz.isNil127 ⟨w.heap.size,0,none⟩ t ((w.alloc (.cells #[.pointer (some t)] 127)).alloc (.cells #[.pointer (some ⟨6,127,none⟩),.pointer (some ⟨w.heap.size,0,none⟩),.int .u64 150] 193)) (by simp);have hlt:0<w.heap.size:=by
  rcases Nat.eq_zero_or_pos w.heap.size with h0|h
  ·simp[World.cell?,h0] at hg
  ·exact h
 have hg2:((w.alloc (.cells #[.pointer (some t)] 127)).alloc (.cells #[.pointer (some ⟨6,127,none⟩),.pointer (some ⟨w.heap.size,0,none⟩),.int .u64 150] 193)).cell? ⟨0,0,none⟩=some (.iface 251 (.agg #[.pointer (some ⟨6,81,none⟩)])):=by
  rw[World.cell?_alloc_lt _ _ ⟨0,0,none⟩ (by simp),World.cell?_alloc_lt _ _ ⟨0,0,none⟩ hlt];exact hg
 have htl:t.block<w.heap.size:=by
  rcases Nat.lt_or_ge t.block w.heap.size with h|h
  ·exact h
  ·simp[World.cell?,Array.getElem?_eq_none h] at ht0
 have el:=Tryz.elemV127 ⟨w.heap.size,0,none⟩ t (((w.alloc (.cells #[.pointer (some t)] 127)).alloc (.cells #[.pointer (some ⟨6,127,none⟩),.pointer (some ⟨w.heap.size,0,none⟩),.int .u64 150] 193)).alloc (.cells #[.pointer (some ⟨6,127,none⟩),.pointer (some ⟨w.heap.size,0,none⟩),.int .u64 150] 193)) (by rw[World.cell?_alloc_lt _ _ ⟨w.heap.size,0,none⟩ (by simp;omega)];simp);have st:=Tryz.set121 t ⟨w.heap.size+1+1+1,0,none⟩ e old ((((w.alloc (.cells #[.pointer (some t)] 127)).alloc (.cells #[.pointer (some ⟨6,127,none⟩),.pointer (some ⟨w.heap.size,0,none⟩),.int .u64 150] 193)).alloc (.cells #[.pointer (some ⟨6,127,none⟩),.pointer (some ⟨w.heap.size,0,none⟩),.int .u64 150] 193)).alloc (.cells #[.pointer (some e)] 121))
  (by rw[World.cell?_alloc_at _ _ _ _ (by simp)];rfl)
  (by rw[World.cell?_alloc_lt _ _ t (by simp;omega),World.cell?_alloc_lt _ _ t (by simp;omega),World.cell?_alloc_lt _ _ t (by simp;omega),World.cell?_alloc_lt _ _ t htl];exact ht0)
  (by rw[World.frozen?_alloc_old _ _ t (by simp;omega),World.frozen?_alloc_old _ _ t (by simp;omega),World.frozen?_alloc_old _ _ t (by simp;omega),World.frozen?_alloc_old _ _ t (Nat.ne_of_lt htl)];exact hf0)
 go_enter Tryz.func65,Tryz.ntmps65;go_wp2;refine wp_loop_rounds 1 ?_;rw[rounds_succ];go_wp2;go_ret;exact⟨rfl,rfl⟩
end
end Go.Proofs.YtfphcecjhdkcoaaGreatDoor
namespace Go
section
variable {P:Program} (w:World)
theorem run_equalIn_iface_int(d:Nat){ti tn:TypeId}{ms:Array (String × TypeId)}{i:TypeInfo}{k:IntKind}(a b:Int)
  (hi:P.underlying ti=some (.interface ms))(hn:P.underlying tn=some (.int k))(hinfo:P.info? tn=some i)(hcomp:i.comparable=true):
  (Op.equalIn (d+2) ti (.iface tn (.int k a)) (.iface tn (.int k b))).run P w=.ok (a == b) w:=by
 simp[Op.equalIn,run_underlying hi,run_underlying hn,typeInfo,hinfo,hcomp]
theorem run_eql_iface_int{ti tn:TypeId}{ms:Array (String × TypeId)}{i:TypeInfo}{k:IntKind}(a b:Int)
  (hi:P.underlying ti=some (.interface ms))(hn:P.underlying tn=some (.int k))(hinfo:P.info? tn=some i)(hcomp:i.comparable=true):
  (binOp .eql ti (.iface tn (.int k a)) (.iface tn (.int k b))).run P w=.ok (.bool (a == b)) w:=by
 simp only[binOp];simp[Op.equal,Op.maxDepth,run_equalIn_iface_int w 9998 a b hi hn hinfo hcomp]
end
end Go
namespace Go.Proofs.YtfphcecjhdkcoaaGreatDoor
open Go.Lib (hid)
open Go.RowKit Go.Extern.Stop Go.Stop Go.Extern
theorem Tryz.isTypeOf(v:Value)(w:World):(Extern.ReflectliteType.typeOf #[.iface 122 v]).run Tryz.prog w=.ok (.iface 251 (.agg #[.pointer (some ⟨6,122,none⟩)])) w:=by kernel_rfl
theorem Tryz.isComparable(w : World): ((Extern.ReflectliteType.method fun t => do Extern.Rtype.noPackHeld "Comparable" t; (fun a => Value.bool a.comparable) <$> typeInfo t) #[.agg #[.pointer (some ⟨6, 122, none⟩)]]).run Tryz.prog w = .ok (.bool true) w := by kernel_rfl
theorem Tryz.isMethodComparable(v : Value)(w : World): (Go.method 496 251 v "Comparable").run Tryz.prog w = .ok (309, v) w := by kernel_rfl
theorem Tryz.isComp:(Tryz.prog.info? 122).map (·.comparable)=some true:=by kernel_rfl
theorem Tryz.noIsF(v:Value)(xT:TypeId)(w:World):(Instr.typeAssert (.iface 121 v) xT 263 true).run Tryz.prog w=.ok (.tuple #[.nilIface,.bool false]) w:=run_typeAssert_lacksB Tryz.underlying263 (by kernel_rfl) (by kernel_rfl) v xT w
theorem Tryz.noIsE(v:Value)(xT:TypeId)(w:World):(Instr.typeAssert (.iface 122 v) xT 263 true).run Tryz.prog w=.ok (.tuple #[.nilIface,.bool false]) w:=run_typeAssert_lacksB Tryz.underlying263 (by kernel_rfl) (by kernel_rfl) v xT w
theorem Tryz.noUnwrapE(v:Value)(xT:TypeId)(w:World):(Instr.typeAssert (.iface 122 v) xT 258 true).run Tryz.prog w=.ok (.tuple #[.nilIface,.bool false]) w:=run_typeAssert_lacksB Tryz.underlying258 (by kernel_rfl) (by kernel_rfl) v xT w
theorem Tryz.noUnwrapsE(v:Value)(xT:TypeId)(w:World):(Instr.typeAssert (.iface 122 v) xT 260 true).run Tryz.prog w=.ok (.tuple #[.nilIface,.bool false]) w:=run_typeAssert_lacksB Tryz.underlying260 (by kernel_rfl) (by kernel_rfl) v xT w
theorem Tryz.hasUnwrapF(v:Value)(xT:TypeId)(w:World):(Instr.typeAssert (.iface 121 v) xT 258 true).run Tryz.prog w=.ok (.tuple #[.iface 121 v,.bool true]) w:=run_typeAssert_hasB Tryz.underlying258 (by kernel_rfl) v xT w
theorem Tryz.methodUnwrap(v : Value)(w : World): (Go.method 496 121 v "Unwrap").run Tryz.prog w = .ok (302, v) w := by kernel_rfl
theorem is_same(eb:Nat)(k:Int)(w:World)(hk:w.cell? ⟨eb,0,none⟩=some (.int .i64 k)):
  Calls Tryz.prog 66 #[.iface 121 (.pointer (some ⟨eb,0,none⟩)),.iface 122 (.int .i64 k)] w fun e w'=>e=.returned (.bool true)/\w'=w:=by
 obtain⟨i,hi,hcmp⟩:=Option.map_eq_some_iff.1 Tryz.isComp;have h8:=@run_callFunc_extern Tryz.prog 115 _ Extern.ReflectliteType.typeOf Tryz.func115 (by kernel_rfl) (by kernel_rfl) (by kernel_rfl) (by kernel_rfl)
 have h32 := @run_callFunc_extern Tryz.prog 309 _ (Extern.ReflectliteType.method fun t => do Extern.Rtype.noPackHeld "Comparable" t; pure (.bool (← typeInfo t).comparable)) Tryz.func309 (by kernel_rfl) (by kernel_rfl) (by kernel_rfl) (by kernel_rfl)
 have tT:=Tryz.isTypeOf;have cT:=Tryz.isComparable;have mR:=Tryz.isMethodComparable;have nF:=Tryz.noIsF;have nE:=Tryz.noIsE;have uF:=Tryz.hasUnwrapF;have mU:=Tryz.methodUnwrap;have heq:=fun W=>run_eql_iface_int (P:=Tryz.prog) W (k:=.i64) k k Tryz.underlying81 Tryz.underlying122 hi hcmp
 have hty:=fun W=>run_eql_iface_types (P:=Tryz.prog) 121 122 (.pointer (some ⟨eb,0,none⟩)) (.int .i64 k) Tryz.underlying81 (by decide) W
 go_enter Tryz.func66,Tryz.ntmps66;go_wp2;refine wp_loop_rounds 2 ?_;rw[rounds_succ];go_wp2;rw[rounds_succ];go_wp2;go_ret;exact⟨rfl,rfl⟩
theorem is_other(eb:Nat)(k j:Int)(w:World)(hk:w.cell? ⟨eb,0,none⟩=some (.int .i64 k))(hne:(k == j)=false):
  Calls Tryz.prog 66 #[.iface 121 (.pointer (some ⟨eb,0,none⟩)),.iface 122 (.int .i64 j)] w fun e w'=>e=.returned (.bool false)/\w'=w:=by
 obtain⟨i,hi,hcmp⟩:=Option.map_eq_some_iff.1 Tryz.isComp;have h8:=@run_callFunc_extern Tryz.prog 115 _ Extern.ReflectliteType.typeOf Tryz.func115 (by kernel_rfl) (by kernel_rfl) (by kernel_rfl) (by kernel_rfl)
 have h32 := @run_callFunc_extern Tryz.prog 309 _ (Extern.ReflectliteType.method fun t => do Extern.Rtype.noPackHeld "Comparable" t; pure (.bool (← typeInfo t).comparable)) Tryz.func309 (by kernel_rfl) (by kernel_rfl) (by kernel_rfl) (by kernel_rfl)
 have tT:=Tryz.isTypeOf;have cT:=Tryz.isComparable;have mR:=Tryz.isMethodComparable;have nF:=Tryz.noIsF;have nE:=Tryz.noIsE;have uE:=Tryz.noUnwrapE;have vE:=Tryz.noUnwrapsE;have uF:=Tryz.hasUnwrapF;have mU:=Tryz.methodUnwrap;have heq:=fun W=>run_eql_iface_int (P:=Tryz.prog) W (k:=.i64) k j Tryz.underlying81 Tryz.underlying122 hi hcmp
 have hty:=fun W=>run_eql_iface_types (P:=Tryz.prog) 121 122 (.pointer (some ⟨eb,0,none⟩)) (.int .i64 j) Tryz.underlying81 (by decide) W
 go_enter Tryz.func66,Tryz.ntmps66;go_wp2;refine wp_loop_rounds 2 ?_;rw[rounds_succ];go_wp2;rw[rounds_succ];go_wp2;go_ret;exact⟨rfl,rfl⟩
theorem is_any(eb:Nat)(k j:Int)(w:World)(hk:w.cell? ⟨eb,0,none⟩=some (.int .i64 k)):
  Calls Tryz.prog 66 #[.iface 121 (.pointer (some ⟨eb,0,none⟩)),.iface 122 (.int .i64 j)] w fun e w'=>e=.returned (.bool (k == j))/\w'=w:=by
 cases h:(k == j) with
 | true =>
  have:k=j:=by simpa using h
  subst this;exact is_same eb k w hk
 | false=>exact is_other eb k j w hk h
end Go.Proofs.YtfphcecjhdkcoaaGreatDoor

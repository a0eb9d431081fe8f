/-
A store in memory; the walks of its Plan and Install.
-/
import Derived.Test.YtfphcecjhdkcoaaGreatDoorScrP07
import Derived.Test.YtfphcecjhdkcoaaGreatDoorScrP10
import Derived.Test.YtfphcecjhdkcoaaGreatDoorScrP12
import Derived.Lib.ConvBytes
import Derived.WideKeyEntry
import Derived.StringKeys
set_option maxRecDepth 100000
set_option maxHeartbeats 8000000
namespace Go.Proofs.YtfphcecjhdkcoaaGreatDoor
open Go.Lib (hid)
section
open Go.RowKit Go.Maps
theorem store1_any(mb bx:Nat)(L:List (Nat × Sp.Pk))(w:World)(h:SetOn (fun b=>b<w.heap.size) w mb L)(hc:w.cell? ⟨bx,0,none⟩=some (.map (some mb)))(q:Nat × Sp.Pk)(hq:q∈L):
  Calls Tryz.prog 176 #[sv q.2.name,.pointer (some ⟨bx,0,none⟩)] w fun e w'=>e=.returned (sv (Sp.print q.2))/\Below w.heap.size w w':=by
 have hnl:q.2.name.length<=maxLen:=by have:=(h.2.2 q hq).2.name;unfold maxLen;omega
 have hlk:=h.map.look Tryz.underlying140 zero118 q.2.name hnl;rw[MP.kv_at h.2.1 hq] at hlk;have hp:=print_any q.1 q.2 w (h.2.2 q hq).1 (h.2.2 q hq).2;have HP:=hid hp;clear hp h;unfold sv at HP ⊢;go_enter Tryz.func176,Tryz.ntmps176;go_wp2_with fail;refine HP.out.mono ?_;rintro e w1 ⟨rfl,hb⟩;go_wp2;go_ret;exact⟨rfl,hb⟩
theorem joinedS_any(v:Value)(sep:ByteArray)(mb bx:Nat)(T L:List (Nat × Sp.Pk))(w:World)(h:SetOn (fun b=>b<w.heap.size) w mb L)(hc:w.cell? ⟨bx,0,none⟩=some (.map (some mb)))(hbx:bx<w.heap.size)(hT:∀ q∈T,q∈L)(hn:T.length<1000000)
  (hv:StrsAt w v (Sp.names (pks T)))(hj:(Lib.join ((pks T).map Sp.print) (bl sep)).length<=140737488355328):
  Calls Tryz.prog 175 #[v,.string sep,.func (.func 176) #[] #[.pointer (some ⟨bx,0,none⟩)]] w fun e w'=>e=.returned (sv (Lib.join ((pks T).map Sp.print) (bl sep)))/\Below w.heap.size w w':=by
 obtain⟨a,cap,rfl,hcap,hget⟩:=hv.get;have hTl:(Sp.names (pks T)).length=T.length:=by unfold Sp.names pks;simp
 have hget':∀ k,(hk:k<T.length)->∃ b off,a=some ⟨b,off,none⟩/\b<w.heap.size/\w.cell? ⟨b,off+k,none⟩=some (sv T[k].2.name):=fun k hk=>by
  obtain⟨b,off,h1,h2,h3⟩:=hget k (by rw[hTl];exact hk);refine⟨b,off,h1,h2,?_⟩;rw[h3];simp[Sp.names,pks,sv]
 have HG:=hid hget';have HS:=hid h;have HT:=hid hT;have HJ:=hid hj;have hpl:(pks T).length=T.length:=by unfold pks;rw[List.length_map]
 have HPL:=hid hpl;rw[hTl];clear hv hget hget' h hT hj hcap hTl hpl;go_enter Tryz.func175,Tryz.ntmps175;go_wp2
 go_loopw [7,12] (fun v i wr=>∃ (k:Nat),k<=T.length/\i=.int .i64 k/\wr.ownsRow w.heap.size 9 1 v k ((((pks T).take k).map Sp.print).map sv)/\Below w.heap.size w wr) (fun _ i _=>T.length-(intOf i).toNat)
 case atStart=>exact⟨0,Nat.zero_le _,rfl,World.ownsRow_nil _ _ _ _,Below.refl _ _⟩
 case round =>
  obtain⟨k,hk,rfl,hown,hbel⟩:=hrel
  by_cases hlt:k<T.length
  ·obtain⟨b,off,rfl,hb,h0⟩:=HG.out k hlt
   have g0:=(hbel.cell (p:=⟨b,off+k,none⟩) hb).trans h0;have hcw:=(hbel.cell (p:=⟨bx,0,none⟩) hbx).trans hc;have HC:=hid (store1_any mb bx L wr (HS.out.below hbel) hcw T[k] (HT.out _ (List.getElem_mem hlt)));have hpk:(pks T)[k]'(by rw[HPL.out];exact hlt)=T[k].2:=by simp[pks]
   have htk:((pks T).take (k+1)).map Sp.print=((pks T).take k).map Sp.print ++ [Sp.print T[k].2]:=by
    rw[List.take_succ_eq_append_getElem (by rw[HPL.out];exact hlt),List.map_append,hpk];rfl
   have HTK:=hid htk;clear h0 hpk htk hcw HG;unfold sv at g0 HC;go_wp2_with fail;refine HC.out.mono ?_;rintro e w2 ⟨rfl,hb2⟩;have hb3:Below w.heap.size w w2:=hbel.trans (hb2.mono hbel.size);have hown2:=W3.row_keep hown hb2;have hs2:=hb3.size;go_wp2_with (at_builtin;refine wp_app app38 w2 [.string ⟨(Sp.print T[k].2).toArray⟩] rfl (by simp[Value.oneCell']) rfl _ _ rfl w.heap.size _ _ _ rfl hown2 rfl (by omega) hs2 ?_;intro v' w3 hown' hgrow _);have hb4:=below_of_grown hb3 hs2 hown2 hgrow;go_roundw
   case rel=>exact⟨k+1,hlt,by go_num,by rw[HTK.out,List.map_append];exact hown',hb4⟩
   case measure=>simp[intOf];omega
  ·obtain rfl:k=T.length:=by omega
   obtain⟨ra,rc,rfl⟩:=W3.row_slice hown;have htake:(pks T).take T.length=pks T:=by rw[<-HPL.out,List.take_length]
   rw[htake] at hown;have hst:StrsAt wr (.slice ra T.length rc) ((pks T).map Sp.print):=StrsAt.of_row (B:=w.heap.size) (e:=9) (by rw[List.length_map,HPL.out];exact hown);have HST:=hid hst;clear HG hown hst htake;go_wp2_with fail;refine(join_any _ _ sep wr HST.out (by rw[List.length_map,HPL.out];omega) HJ.out).mono ?_;rintro e w2 ⟨rfl,hb2⟩;go_wp2;go_ret;exact⟨rfl,hbel.trans (hb2.mono hbel.size)⟩
end
section
open Go.RowKit Go.Maps
def sortL(L:List (Nat × Sp.Pk)):List (Nat × Sp.Pk):=(Sp.sorted (Sp.names (pks L))).filterMap fun n=>L.find? fun q=>q.2.name == n
namespace ST
theorem sortL_pks(L:List (Nat × Sp.Pk)):pks (sortL L)=V8.byName (pks L):=by
 unfold sortL V8.byName pks;rw[List.map_filterMap]
 congr 1
 funext n
 unfold Sp.find?;rw[List.find?_map];rfl
theorem sortL_mem{L:List (Nat × Sp.Pk)}:∀ q∈sortL L,q∈L:=by
 intro q hq;unfold sortL at hq;obtain⟨n,_,h⟩:=List.mem_filterMap.1 hq;exact List.mem_of_find?_eq_some h
theorem sortL_names(L:List (Nat × Sp.Pk)):Sp.names (pks (sortL L))=Sp.sorted (Sp.names (pks L)):=by rw[sortL_pks];exact V8.byName_names _
theorem sortL_texts(L:List (Nat × Sp.Pk)):(pks (sortL L)).map Sp.print=Sp.texts (pks L):=by rw[sortL_pks,V8.texts_byName]
theorem sortL_len(L:List (Nat × Sp.Pk)):(sortL L).length<=L.length:=by
 unfold sortL;refine Nat.le_trans (List.length_filterMap_le _ _) ?_;rw[(V8.sorted_perm _).length_eq];unfold Sp.names pks;simp
theorem made_bytes(w:World)(s:ByteArray):BytesOn (·=w.heap.size) (Lib.bytesWorld w 5 s) (.slice (some ⟨w.heap.size,0,none⟩) s.size (grownCap w s.size 0 5)) (bl s):=by
 refine⟨some ⟨w.heap.size,0,none⟩,_,by rw[List.length_map,bl_len],by rw[List.length_map,bl_len];exact grownCap_ge _ _ _ _,fun k x hk=>?_⟩;rw[List.getElem?_map] at hk;have hlt:k<(bl s).length:=by
  rcases Nat.lt_or_ge k (bl s).length with h|h
  ·exact h
  ·rw[List.getElem?_eq_none h] at hk;cases hk
 rw[List.getElem?_eq_getElem hlt] at hk;injection hk with hk
 subst hk;refine⟨w.heap.size,0,rfl,rfl,fun j u hj=>?_⟩
 cases j with
 | zero =>
  have hj':u8v (bl s)[k]=u:=by simpa using hj
  subst hj';have:=Lib.bytesWorld_cell w 5 s k (by rw[<-bl_len];exact hlt);rw[show 0+k*1+0=k by omega,this];unfold u8v
  congr 3
  rw[List.getD_eq_getElem?_getD];have:s.data.toList[k]? = some (bl s)[k]:=List.getElem?_eq_getElem hlt;rw[this];rfl
 | succ j=>simp at hj
theorem made_below(w:World)(s:ByteArray):Below w.heap.size w (Lib.bytesWorld w 5 s):=
 ⟨rfl,rfl,rfl,by rw[Lib.bytesWorld_size];omega,fun k hk=>Lib.bytesWorld_at_old w 5 s k hk⟩
end ST
theorem store_any{O S:Nat->Prop}{w:World}{s D last:Nat}{mv ov:Value}{d:Sp.Dk}(hs:StBlk w s D last mv ov)(hd:DkE O w D d)(hO:¬O s)(hl:last+1<18446744073709551616)(mb:Nat)(L:List (Nat × Sp.Pk))(h:SetOn S w mb L)(hS:∀ x,S x->x<w.heap.size)
  (hL:L.length<=50000)(hlen:(Sp.joined (pks L)).length<=Sp.areaN d.seen.length*64)(hlate:d.late.length<900000):
  Calls Tryz.prog 128 #[.pointer (some ⟨s,0,none⟩),.map (some mb)] w fun e w'=>e=.returned (.tuple #[])/\Chg (fun k=>O k\/k=s) w w'/\StBlk w' s D (last+1) mv ov/\∃ O',DkE O' w' D (Sp.save d last (Sp.joined (pks L)))/\∀ k,O' k->(O k\/w.heap.size<=k)/\k<w'.heap.size:=by
 have hmf:∀ (fn:Fn) (first cap:Array Value) (w:World),(Instr.makeFunc fn first cap).run Tryz.prog w=.ok (.func fn first cap) w:=fun _ _ _ _=>rfl
 have hlens:=hd.lens;have hjl:(Sp.joined (pks L)).length<=8128:=by unfold Sp.areaN at hlen;omega
 have hslt:=hs.lt;have hmlt:=h.map.lt;have hA:Below w.heap.size w (w.alloc (.cells #[.map (some mb)] 140)):=(Below.refl _ _).alloc (Nat.le_refl _) _;have h0:(w.alloc (.cells #[.map (some mb)] 140)).cell? ⟨w.heap.size,0,none⟩=some (.map (some mb)):=by rw[World.cell?_alloc_at _ _ _ _ rfl];rfl
 have h1:=(h.mono hS).below hA;have hn:=names_any mb L _ h1 (by omega);have hz1:(w.alloc (.cells #[.map (some mb)] 140)).heap.size=w.heap.size+1:=by simp
 have HZ1:=hid hz1;have HA:=hid hA;have HH1:=hid h1;have HN:=hid hn;have HS:=hid hs;have HD:=hid hd.inside;have HO:=hid hO;have HC0:=hid h0;clear hs hd h hS hA h1 hn h0 hz1 hO;go_enter Tryz.func128,Tryz.ntmps128;go_wp2_with fail;generalize w.alloc (.cells #[.map (some mb)] 140)=w1 at *;have hc0:=HC0.out;have hz1:=HZ1.out;refine HN.out.mono ?_;rintro e w2 ⟨v,rfl,hv,hb2⟩;have hb12:Below w.heap.size w w2:=HA.out.trans (hb2.mono (by omega));have hz2:=hb2.size;have hc2:=(hb2.cell (p:=⟨w.heap.size,0,none⟩) (show w.heap.size<_ by omega)).trans hc0;have h2:=HH1.out.below hb2;have hnm:(Sp.sorted (Sp.names (L.map (·.2))))=Sp.names (pks (sortL L)):=(ST.sortL_names L).symm;rw[hnm] at hv;have hjt:Lib.join ((pks (sortL L)).map Sp.print) (bl ⟨#[10,10]⟩)=Sp.joined (pks L):=by rw[ST.sortL_texts];rfl
 have hj:=joinedS_any v ⟨#[10,10]⟩ mb w.heap.size (sortL L) L w2 h2 hc2 (by omega) ST.sortL_mem (by have:=ST.sortL_len L;omega) hv (by rw[hjt];omega);rw[hjt] at hj;have HJ:=hid hj;have HB12:=hid hb12;clear hj hv h2 hnm hjt hb12 HN HH1 HC0 HA;obtain⟨J,hJ⟩:∃ J,J=Sp.joined (pks L):=⟨_,rfl⟩
 rw[<-hJ] at HJ hlen hjl;have HJE:=hid hJ;clear hJ;go_wp2_with fail;refine HJ.out.mono ?_;rintro e w3 ⟨rfl,hb3⟩;have hz3:=hb3.size;have hcv:=Lib.run_convert_string_bytes (P:=Tryz.prog) w3 9 136 5 ⟨J.toArray⟩ (u:=.string) Tryz.underlying9 Tryz.underlying136 Tryz.underlying5;have hbA:=ST.made_below w3 ⟨J.toArray⟩;have hby:=ST.made_bytes w3 ⟨J.toArray⟩;have hzA:(Lib.bytesWorld w3 5 ⟨J.toArray⟩).heap.size=w3.heap.size+1:=Lib.bytesWorld_size _ _ _;rw[bl_mk] at hby;have hb4:Below w.heap.size w (Lib.bytesWorld w3 5 ⟨J.toArray⟩):=HB12.out.trans ((hb3.mono (by omega)).trans (hbA.mono (by omega)));generalize Lib.bytesWorld w3 5 ⟨J.toArray⟩=w4 at *;have hsv:=save_any (HS.out.keep (hb4.block s hslt)) (HD.out.below (hb4.mono (Nat.le_refl _) |>.mono (Nat.le_refl _))) (fun h=>HO.out h.1) hl _ J hby (by rintro x rfl;exact⟨by omega,fun h=>by omega,by omega⟩) hlen hlate;have HSV:=hid hsv;have HB4:=hid hb4;clear hsv hby hbA hb4;unfold sv;go_wp2_with fail;refine HSV.out.mono ?_;rintro e w5 ⟨rfl,hch,hst,hdk⟩;have hz4:=HB4.out.size;go_wp2
 go_end0
 rw[<-HJE.out];refine⟨rfl,((Chg.of_below HB4.out).trans' hch fun x hx=>?_),hst,_,hdk.inside,fun k hk=>⟨?_,hk.2⟩⟩
 ·rcases hx with hx|hx
  ·exact .inl (.inl hx.1)
  ·exact .inl (.inr hx)
 ·rcases hk.1 with hk|hk
  ·exact .inl hk.1
  ·exact .inr (by omega)
end
section
open Go.RowKit Go.Maps
namespace ST
def lastOf(a b last:Nat):Nat:=if a=b then last else last+1
def dkOf(a b:Nat)(d d':Sp.Dk):Sp.Dk:=if a=b then d else d'
end ST
theorem become_any{O S S2:Nat->Prop}{w:World}{s D last:Nat}{ov:Value}{d:Sp.Dk}{mb mb2:Nat}{L L2:List (Nat × Sp.Pk)}(hs:StBlk w s D last (.map (some mb)) ov)(hd:DkE O w D d)(hO:¬O s)
  (h:SetOn S w mb L)(hS:∀ x,S x->x<w.heap.size)(h2:SetOn S2 w mb2 L2)(hS2:∀ x,S2 x->x<w.heap.size/\¬O x/\x≠s)(hm2:¬O mb2/\mb2≠s)
  (hok:Sp.Set (pks L2))(hnd:(Sp.paths (pks L2)).Nodup)(hS16:16<=d.seen.length)(hl:last+1<18446744073709551616)(hlate:d.late.length<900000)(hL2:L2.length<=50000)(hsame:L2.length=L.length->L2=L):
  Calls Tryz.prog 75 #[.pointer (some ⟨s,0,none⟩),.map (some mb2)] w fun e w' =>
   (Sp.room d.seen.length<Sp.size (pks L2)/\∃ b,e=.returned (.iface 121 (.pointer (some ⟨b,0,none⟩)))/\w.heap.size<=b/\FaultAt w' b 8 0 0 []/\Below w.heap.size w w') \/
   (Sp.size (pks L2)<=Sp.room d.seen.length/\e=.returned .nilIface/\Chg (fun k=>O k\/k=s) w w'/\∃ ob O',w.heap.size<=ob/\ob<w'.heap.size/\¬O' ob/\(∀ k,O' k->(O k\/w.heap.size<=k)/\k<w'.heap.size) /\
    StBlk w' s D (ST.lastOf L2.length L.length last) (.map (some mb2)) (.map (some ob))/\DkE O' w' D (ST.dkOf L2.length L.length d (Sp.save d last (Sp.joined (pks L2))))/\MapAt w' ob (ownKV (pks L2))):=by
 have hlens:=hd.lens;have hslt:=hs.lt;have hszb:Sp.size (pks L2)<=15000000:=by
  have:=V8.size_len hok.good;have hp:(pks L2).length=L2.length:=by unfold pks;rw[List.length_map]
  omega
 have hsz:=size_any mb2 L2 w (h2.mono fun x hx=>(hS2 x hx).1) (by omega);have hm2l:=h2.map.lt;have hml:=h.map.lt;have hrm:24*((d.seen.length:Int)-8)=(Sp.room d.seen.length:Int):=by unfold Sp.room;omega
 obtain⟨z,hz⟩:∃ z,z=Sp.size (pks L2):=⟨_,rfl⟩
 obtain⟨r,hr⟩:∃ r,r=Sp.room d.seen.length:=⟨_,rfl⟩
 rw[<-hr] at hrm;rw[<-hz] at hsz;have hfit:z<=r->(Sp.joined (pks L2)).length<=Sp.areaN d.seen.length*64:=fun hle=>V8.joined_fits hok hS16 (by rw[<-hz,<-hr];exact hle)
 rw[<-hz,<-hr];have HZ:=hid hz;have HR:=hid hr;have HSZ:=hid hsz;have HST:=hid hs;have HD:=hid hd;have HSET:=hid h;have HSET2:=hid h2;have HS2:=hid hS2;have HSB:=hid hS;have HND:=hid hnd;have HFIT:=hid hfit;have HSAME:=hid hsame;have HO:=hid hO;have HM2:=hid hm2;clear hs hd h h2 hS hS2 hnd hsz hz hr hfit hsame hok hO hm2;go_enter Tryz.func75,Tryz.ntmps75;go_wp2_with fail;refine HSZ.out.mono ?_;rintro e w1 ⟨rfl,hb1⟩;have hs1:=HST.out.keep (hb1.block s hslt);have hd1:=HD.out.below hb1;have hrc:=room_any hs1 hd1;rw[hrm] at hrc;have HRC:=hid hrc;have HB1:=hid hb1;have HS1:=hid hs1;have HD1:=hid hd1;clear hs1 hd1 hrc hb1;go_wp2_with fail;refine HRC.out.mono ?_;rintro e w2 ⟨rfl,rfl⟩;have hz1:=HB1.out.size
 by_cases hbig:r<z
 ·have hgt:decide ((r:Int)<(z:Int))=true:=decide_eq_true (by omega)
  have hgt2:(r:Int)<(z:Int):=by omega
  have hf:=fault_any 8 0 [] w2;have HF:=hid hf;clear hf;go_wp2_with fail;refine HF.out.mono ?_;rintro e w3 ⟨rfl,hF,hb3⟩;have HFA:=hid hF;have HBIG:=hid hbig;clear hF hbig hgt hgt2;go_wp2;go_ret;exact .inl ⟨HBIG.out,_,rfl,hz1,HFA.out,HB1.out.trans (hb3.mono hz1)⟩
 ·have hgt:decide ((r:Int)<(z:Int))=false:=decide_eq_false (by omega)
  have hle:(z:Int)<=(r:Int):=by omega
  obtain⟨c0,c1,c2,c3,cz⟩:=HS1.out.cells;have hslt2:s<w2.heap.size:=by omega
  have hsetA:=HSET.out.keep (w':=w2) (HB1.out.block mb hml) fun x hx=>HB1.out.block x (HSB.out x hx)
  have hsetB:=HSET2.out.keep (w':=w2) (HB1.out.block mb2 hm2l) fun x hx=>HB1.out.block x (HS2.out x hx).1
  have hgen:∀ (last':Nat) (d':Sp.Dk) (O':Nat->Prop) (W:World) (ov':Value),Chg (fun k=>O k\/k=s) w W->StBlk W s D last' (.map (some mb)) ov'->DkE O' W D d'->(∀ k,O' k->(O k\/w.heap.size<=k)/\k<W.heap.size) ->
    Calls Tryz.prog 121 #[.pointer (some ⟨s,0,none⟩),.map (some mb2)] W fun e w'=>e=.returned (.tuple #[])/\Chg (fun k=>O k\/k=s) w w'/\∃ ob O',w.heap.size<=ob/\ob<w'.heap.size/\¬O' ob/\(∀ k,O' k->(O k\/w.heap.size<=k)/\k<w'.heap.size) /\
    StBlk w' s D last' (.map (some mb2)) (.map (some ob))/\DkE O' w' D d'/\MapAt w' ob (ownKV (pks L2)):=by
   intro last' d' O' W ov' hch hst hdk hO';have hkm:W.heap[mb2]? = w.heap[mb2]?:=hch.block mb2 hm2l fun hx=>by
    rcases hx with hx|hx
    ·exact HM2.out.1 hx
    ·exact HM2.out.2 hx
   have hks:∀ x,S2 x->W.heap[x]? = w.heap[x]?:=fun x hx=>hch.block x (HS2.out x hx).1 fun hy=>by
    rcases hy with hy|hy
    ·exact(HS2.out x hx).2.1 hy
    ·exact(HS2.out x hx).2.2 hy
   have hzW:=hch.size;refine(take_any hst mb2 L2 (HSET2.out.keep hkm hks) (fun x hx=>⟨by have:=(HS2.out x hx).1;omega,(HS2.out x hx).2.2⟩) HM2.out.2 (by omega) HND.out).mono ?_;rintro e w' ⟨rfl,hc,ob,hob,hst',hmap⟩;have hnot:∀ k,O' k->k≠s:=fun k hk e=>by
    subst e
    rcases (hO' _ hk).1 with h1|h1
    ·exact HO.out h1
    ·omega
   refine⟨rfl,hch.trans (hc.mono fun x hx=>.inr hx),ob,O',by omega,hmap.lt,fun hk=>?_,fun k hk=>⟨(hO' k hk).1,by have:=(hO' k hk).2;have:=hc.size;omega⟩,hst',hdk.keep (fun k hk hl=>hc.block k hl (hnot k hk)) hc.size,hmap⟩;have:=(hO' ob hk).2;omega
  have HGEN:=hid hgen;have hch2:Chg (fun k=>O k\/k=s) w w2:=Chg.of_below HB1.out;have HCH2:=hid hch2;clear hgen hch2
  by_cases hln:L2.length=L.length
  ·have hLL:=HSAME.out hln
   have heq:=equal_same mb2 mb L w2 (by rw[<-hLL];exact hsetB) hsetA;have HEQ:=hid heq;clear heq hsetA hsetB hLL;go_wp2_with fail;refine HEQ.out.mono ?_;rintro e w3 ⟨rfl,hb3⟩;have hz3:=hb3.size;have hcg:=HGEN.out last d (fun k=>O k/\k<w.heap.size) w3 ov (HCH2.out.trans (Chg.of_below hb3)) (HS1.out.keep (hb3.block s hslt2)) ((HD.out.inside.below HB1.out).below hb3) (fun k hk=>⟨.inl hk.1,by have:=hk.2;omega⟩);have HCG:=hid hcg;clear hcg;go_wp2_with fail;refine HCG.out.mono ?_;rintro e w4 ⟨rfl,hres⟩;have HRES:=hid hres;have HLN:=hid hln;have HNB:=hid hbig;clear hres hln hbig hgt hle;go_wp2;go_ret;rw[show ST.lastOf L2.length L.length last=last from if_pos HLN.out,show ST.dkOf L2.length L.length d (Sp.save d last (Sp.joined (pks L2)))=d from if_pos HLN.out];exact .inr ⟨by have:=HNB.out;omega,rfl,HRES.out⟩
  ·have hne:(kvOf L2).length≠(kvOf L).length:=by unfold kvOf;rw[List.length_map,List.length_map];exact hln
   have heq:=equal_len mb2 mb (kvOf L2) (kvOf L) w2 hsetB.map hsetA.map hne;have HEQ:=hid heq;have HB2:=hid hsetB;clear heq hsetA hne hsetB;go_wp2_with fail;refine HEQ.out.mono ?_;rintro e w3 ⟨rfl,hb3⟩;have hz3:=hb3.size;have hst:=store_any (HS1.out.keep (hb3.block s hslt2)) ((HD.out.inside.below HB1.out).below hb3) (fun hx=>HO.out hx.1) hl mb2 L2 (HB2.out.keep (hb3.block mb2 (by omega)) fun x hx=>hb3.block x (by have:=(HS2.out x hx).1;omega)) (fun x hx=>by have:=(HS2.out x hx).1;omega) hL2 (HFIT.out (by omega)) hlate;have HSTO:=hid hst;have HC3:=hid (HCH2.out.trans (Chg.of_below hb3));clear hst;go_wp2_with fail;refine HSTO.out.mono ?_;rintro e w4 ⟨rfl,hch4,hst4,O',hdk4,hO4⟩;have hcg:=HGEN.out _ _ O' w4 ov (HC3.out.trans (hch4.mono fun x hx=>by
    rcases hx with hx|hx
    ·exact .inl hx.1
    ·exact .inr hx)) hst4 hdk4 (fun k hk=>⟨by
     rcases (hO4 k hk).1 with h1|h1
     ·exact .inl h1.1
     ·exact .inr (by omega),(hO4 k hk).2⟩)
   have HCG:=hid hcg;clear hcg hst4 hdk4 hO4 hch4;go_wp2_with fail;refine HCG.out.mono ?_;rintro e w5 ⟨rfl,hres⟩;have HRES:=hid hres;have HLN:=hid hln;have HNB:=hid hbig;clear hres hln hbig hgt hle;go_wp2;go_ret;rw[show ST.lastOf L2.length L.length last=last+1 from if_neg HLN.out,show ST.dkOf L2.length L.length d (Sp.save d last (Sp.joined (pks L2)))=Sp.save d last (Sp.joined (pks L2)) from if_neg HLN.out];exact .inr ⟨by have:=HNB.out;omega,rfl,HRES.out⟩
end
section
open Go.RowKit
theorem ErrT.keep{w w':World}(h:ErrT w)(hb:Below w.heap.size w w')(h0:0<w.heap.size):ErrT w':=(hb.cell (p:=⟨0,0,none⟩) h0).trans h
end
section
open Go.RowKit Go.Maps
theorem info118:(Tryz.prog.info? 118).map (fun i=>(i.zero,i.size,i.bytes))=some (some (.pointer none),1,8):=by kernel_rfl
theorem app209:AppTy 209 118 1 8:=AppTy.of Tryz.underlying209 info118 rfl (by decide) (by decide)
def pv(b:Nat):Value:=.pointer (some ⟨b,0,none⟩)
def PlanRes(S:Nat->Prop)(L:List (Nat × Sp.Pk))(ts:List Sp.Str)(w:World)(e:Ending)(w':World):Prop:=
 Below w.heap.size w w' /\
  ((∃ f b,Sp.planned (pks L) ts=.inl f/\1<=f.kind/\f.kind<=8/\e=.returned (.tuple #[.map none,.slice none 0 0,pv b])/\w.heap.size<=b/\FaultAt w' b f.kind f.which f.line f.name) \/
   (∃ F o mb v,Sp.planned (pks L) ts=.inr (pks (L ++ F),o)/\e=.returned (.tuple #[.map (some mb),v,.pointer none])/\w.heap.size<=mb/\F.length=ts.length /\
    SetOn (fun b=>S b\/w.heap.size<=b/\b<w'.heap.size) w' mb (L ++ F)/\StrsFrom w.heap.size w' v o/\(∀ p∈pks F,V3.Good p)))
namespace PL
theorem read_snoc(i:Nat):∀ (ts:List Sp.Str) (t:Sp.Str),Sp.readAll i (ts ++ [t])=match Sp.readAll i ts with
  | .inl f=>.inl f
  | .inr l=>match Sp.parse t with
   | .inl n=>.inl ⟨1,i+ts.length,n,[]⟩
   | .inr p=>.inr (l ++ [p])
 | [],t=>by
  simp only[List.nil_append,Sp.readAll]
  cases Sp.parse t <;> simp
 | s :: r,t=>by
  rw[List.cons_append,Sp.readAll,Sp.readAll]
  cases Sp.parse s with
  | inl n=>rfl
  | inr p =>
   simp only;rw[read_snoc (i+1) r t]
   cases Sp.readAll (i+1) r with
   | inl f=>rfl
   | inr l =>
    cases Sp.parse t with
    | inl n=>simp;omega
    | inr q=>rfl
theorem read_stop(i:Nat):∀ (a b:List Sp.Str) {f:Sp.Fault},Sp.readAll i a=.inl f->Sp.readAll i (a ++ b)=.inl f
 | [],b,f,h=>by cases h
 | s :: r,b,f,h=>by
  rw[List.cons_append];rw[Sp.readAll] at h ⊢
  cases hs:Sp.parse s with
  | inl n=>rw[hs] at h;exact h
  | inr p =>
   rw[hs] at h;simp only at h ⊢
   cases hr:Sp.readAll (i+1) r with
   | inl g=>rw[hr] at h;simp only at h;rw[read_stop (i+1) r b hr];exact h
   | inr l=>rw[hr] at h;cases h
theorem add_stop(there:List Sp.Pk):∀ (a:List Sp.Pk) (i:Nat) (th:List Sp.Pk) (b:List Sp.Pk) {f:Sp.Fault},Sp.addAll i th a=.inl f->Sp.addAll i th (a ++ b)=.inl f
 | [],i,th,b,f,h=>by cases h
 | p :: r,i,th,b,f,h=>by
  rw[List.cons_append];rw[Sp.addAll] at h ⊢
  split
  ·rename_i hc;rw[if_pos hc] at h;exact h
  ·rename_i hc;rw[if_neg hc] at h;exact add_stop there r _ _ b h
theorem add_snoc:∀ (a:List Sp.Pk) (i:Nat) (th:List Sp.Pk) (p:Sp.Pk),Sp.addAll i th (a ++ [p])=match Sp.addAll i th a with
  | .inl f=>.inl f
  | .inr l=>if (Sp.names l).contains p.name then .inl ⟨2,i+a.length,0,p.name⟩ else .inr (l ++ [p])
 | [],i,th,p=>by simp only[List.nil_append,Sp.addAll];rfl
 | q :: r,i,th,p=>by
  rw[List.cons_append,Sp.addAll,Sp.addAll]
  split
  ·rfl
  ·rw[add_snoc r (i+1) (th ++ [q]) p]
   cases Sp.addAll (i+1) (th ++ [q]) r with
   | inl f=>rfl
   | inr l=>simp only[List.length_cons];rw[show i+1+r.length=i+(r.length+1) from by omega]
def PacksAt(S:Nat->Prop)(w:World)(F:List (Nat × Sp.Pk)):Prop:=∀ q∈F,IsPack S w q.1 q.2/\PkOk q.2
theorem PacksAt.keep{S S':Nat->Prop}{w w':World}{F:List (Nat × Sp.Pk)}(h:PacksAt S w F)(hb:∀ x,S x->w'.heap[x]? = w.heap[x]?)(hs:∀ x,S x->S' x):PacksAt S' w' F:=
 fun q hq=>⟨((h q hq).1.keep hb).mono hs,(h q hq).2⟩
theorem row_get{w:World}{B:Nat}{v:Value}{F:List (Nat × Sp.Pk)}(h:w.ownsRow B 118 1 v F.length (F.map fun q=>pv q.1)):∃ a cap,v=.slice a F.length cap/\F.length<=cap/\∀ k,(hk:k<F.length)->∃ b off,a=some ⟨b,off,none⟩/\B<=b/\b<w.heap.size/\w.cell? ⟨b,off+k,none⟩=some (pv F[k].1):=by
 have h1:=one_row (vs:=F.map fun q=>pv q.1) (by rw[List.length_map]) h;obtain⟨a,cap,hv,hc,hx⟩:=h1;rw[List.length_map,List.length_map] at hv hc;refine⟨a,cap,hv,hc,fun k hk=>?_⟩;obtain⟨b,off,ha,hb,hj⟩:=hx k [pv F[k].1] (by rw[List.getElem?_map,List.getElem?_map,List.getElem?_eq_getElem hk];rfl);refine⟨b,off,ha,hb.2.1,hb.1,?_⟩;have:=hj 0 _ rfl
 simpa using this
end PL
theorem MapAt.enter{w:World}{b:Nat}{kv:KV}{t e:TypeId}{z:Value}(h:MapAt w b kv)(ht:Tryz.prog.underlying t=some (.map 9 e))(hz:∀ w,(zeroValue e).run Tryz.prog w=.ok z w)(hn:kv.length<1000000000)(x:Sp.Str)(hx:x.length<=maxLen)(hnew:hasKV kv x=false)(v:Value):
  ∃ (v0:Value) (st:Nat) (w1 w2:World),(Instr.mapEntry t (.map (some b)) (.string ⟨x.toArray⟩)).run Tryz.prog w=.ok (.tuple #[v0,.int .i64 st]) w1/\(Instr.entryStore t (.map (some b)) (.int .i64 st) v).run Tryz.prog w1=.ok () w2 /\
   MapAt w2 b (kv ++ [(x,v)])/\(∀ k,k≠b->w1.heap[k]? = w.heap[k]?)/\(∀ k,k≠b->w2.heap[k]? = w.heap[k]?)/\(w1.os=w.os/\w1.tape=w.tape/\w1.output=w.output/\w1.heap.size=w.heap.size)/\(w2.os=w.os/\w2.tape=w.tape/\w2.output=w.output/\w2.heap.size=w.heap.size):=by
 have hput:=h.put ht hn x hx hnew v;obtain⟨D,⟨es,clock,hb,F,hs,hD⟩,hsh⟩:=h;obtain⟨v0,st,es1,clock1,r1,_,r2⟩:=WideElems.entry_then_store (WideMaps.string_law Tryz.underlying9) ht hz hb F (keyOf9 x hx);have hb1:(ChangeMaps.setBlock w b (.map es1 clock1)).heap[b]? = some (.map es1 clock1):=ChangeMaps.heap_setBlock_same hb _;obtain⟨es',clock',r3,r4⟩:=r2 (ChangeMaps.setBlock w b (.map es1 clock1)) v hb1;obtain⟨w',r5,hm,_⟩:=hput;have e1:w'=ChangeMaps.setBlock w b (.map es' clock'):=by
  rw[r4] at r5;exact((Result.ok.inj r5).2).symm
 have e2:ChangeMaps.setBlock (ChangeMaps.setBlock w b (.map es1 clock1)) b (.map es' clock')=ChangeMaps.setBlock w b (.map es' clock'):=by
  simp only[ChangeMaps.setBlock,Array.setIfInBounds_setIfInBounds]
 rw[e2,<-e1] at r3;refine⟨v0,st,_,w',r1,r3,hm,fun k hk=>ChangeMaps.heap_setBlock_other hb _ hk,fun k hk=>?_,⟨rfl,rfl,rfl,by simp[ChangeMaps.setBlock]⟩,?_⟩
 ·rw[e1];exact ChangeMaps.heap_setBlock_other hb _ hk
 ·rw[e1];exact⟨rfl,rfl,rfl,by simp[ChangeMaps.setBlock]⟩
end
section
open Go.RowKit Go.Maps
namespace PL
theorem order_sub(there:List Sp.Pk):∀ (n:Nat) (l:List Sp.Pk),∀ p∈(Sp.orderN there n l).2,p∈l
 | 0,l,p,h=>h
 | n+1,l,p,h=>by
  rw[Sp.orderN] at h
  split at h
  ·exact h
  ·exact(List.mem_filter.1 (order_sub there n _ p h)).1
end PL
theorem planned_any{G:Nat}{S:Nat->Prop}(mt:Nat)(tv:Value)(ts:List Sp.Str)(L:List (Nat × Sp.Pk))(w:World)(hG:Glob G w)(hS:∀ x,S x->x<w.heap.size)(hT:SetOn S w mt L)(htv:StrsAt w tv ts)(hts:ts.length<=50000)(hL:L.length<=50000)(hgood:∀ p∈pks L,V3.Good p):
  Calls Tryz.prog 74 #[.map (some mt),tv] w (PlanRes S L ts w):=by
 have hmm:=@run_makeMap Tryz.prog;have hmtl:=hT.map.lt;have hcl:=clone_map mt (kvOf L) w hT.map;have HT:=hid hT;have HGO:=hid hgood;have HTV:=hid htv;have HS:=hid hS;have HG:=hid hG;obtain⟨ta,tc,rfl,htc,htg⟩:=htv.get;have HTG:=hid htg;clear hT hgood htv hS htg hG;go_enter Tryz.func74,Tryz.ntmps74;go_wp2_with fail;refine hcl.mono ?_;rintro e w1 ⟨rfl,hall,hb1⟩;have hs1:=hb1.size;have hal:=hall.lt;have HALL:=hid hall;clear hall hcl;go_wp2
 go_loopw [9,27] (fun pvv i wr=>∃ (k:Nat) (F:List (Nat × Sp.Pk)),k<=ts.length/\i=.int .i64 k/\F.length=k/\Sp.readAll 0 (ts.take k)=.inr (pks F)/\wr.ownsRow (w1.heap.size+1) 118 1 pvv F.length (F.map fun q=>pv q.1) /\
   PL.PacksAt (fun x=>w1.heap.size+1<=x/\x<wr.heap.size/\pvv.ownBlock≠some x) wr F/\(∀ p∈pks F,V3.Good p)/\Below (w1.heap.size+1) (w1.alloc (.map #[] 0)) wr) (fun _ i _=>ts.length+1-(intOf i).toNat)
 case atStart=>exact⟨0,[],Nat.zero_le _,rfl,rfl,rfl,World.ownsRow_nil _ _ _ _,fun q hq=>(by cases hq),fun p hp=>(by cases hp),Below.refl _ _⟩
 case round =>
  obtain⟨k,F,hk,rfl,hFl,hread,hrow,hpks,hgd,hbel⟩:=hrel;have HR:=hid hread;have HROW:=hid hrow;have HPK:=hid hpks;have HGD:=hid hgd;have hws:=hbel.size;simp only[World.size_alloc] at hws;have hbw:Below w.heap.size w wr:=hb1.trans ((((Below.refl w1.heap.size w1).alloc (Nat.le_refl _) (.map #[] 0)).trans (hbel.mono (by omega))).mono hs1);clear hread hrow hpks hgd
  by_cases h:k<ts.length
  ·obtain⟨tb,toff,rfl,htb,htcell⟩:=HTG.out k h
   have htc':=(hbw.cell (p:=⟨tb,toff+k,none⟩) htb).trans htcell;have hpc:=parsed_any ⟨ts[k].toArray⟩ wr (HG.out.keep hbw);rw[bl_mk] at hpc;have HPC:=hid hpc;have htk:ts.take (k+1)=ts.take k ++ [ts[k]]:=List.take_succ_eq_append_getElem h;have htd:ts.take (k+1) ++ ts.drop (k+1)=ts:=List.take_append_drop _ _;have HTD:=hid htd;clear htd;have hrs:=PL.read_snoc 0 (ts.take k) ts[k];rw[<-htk,HR.out] at hrs;have hlk:(ts.take k).length=k:=by rw[List.length_take];omega
   rw[hlk] at hrs;have HRS:=hid hrs;clear hpc htcell htk hrs hlk;generalize hx:ts[k]=x at *;clear hx;go_wp2_with fail;refine HPC.out.mono ?_;rintro e w2 ⟨hb2,⟨n,hp,rfl⟩|⟨p,b,hp,rfl,hpk,hok⟩⟩
   ·have hrd:=HRS.out
    rw[hp] at hrd;have hpl:Sp.planned (pks L) ts=.inl ⟨1,0+k,n,[]⟩:=by
     have:=PL.read_stop 0 _ (ts.drop (k+1)) hrd;rw[HTD.out] at this;unfold Sp.planned;rw[this]
    have HPL:=hid hpl;have hs2:=hb2.size;clear hp hrd hpl;go_wp2
    go_ret3
    refine⟨(hbw.trans (hb2.mono hbw.size)).alloc (by omega) _,.inl ⟨_,w2.heap.size,HPL.out,Nat.le_refl _,by simp,rfl,by omega,⟨by simp,?_,?_,?_,?_⟩⟩⟩ <;> rw[World.cell?_alloc_at _ _ _ _ rfl]
    all_goals simp[sv]
   ·have hrd:=HRS.out
    rw[hp] at hrd;have hgp:=(V3.parse_good hp).1;have HGP:=hid hgp;have HPKN:=hid hpk;have HRD:=hid hrd;have hs2:=hb2.size;have hrow2:=W3.row_keep HROW.out hb2;have HROW2:=hid hrow2;clear hp hrd hgp hpk hrow2;go_wp2_with (at_builtin;refine wp_app_at app209 w2 [pv b] rfl (by simp[Value.oneCell',pv]) rfl _ _ rfl (w1.heap.size+1) _ _ _ rfl HROW2.out rfl (by omega) (by omega) ?_;intro v' w3 hrow3 hg3 hv3 hloc3);have hb3:=below_of_grown (Below.refl (w1.heap.size+1) w2) (by omega) HROW2.out hg3;have hs3:=hb3.size;have hPK3:PL.PacksAt (fun y=>w1.heap.size+1<=y/\y<w3.heap.size/\v'.ownBlock≠some y) w3 (F ++ [(b,p)]):=by
     intro q hq
     rcases List.mem_append.1 hq with hq|hq
     ·refine PL.PacksAt.keep (w':=w3) HPK.out (fun y hy=>(hg3.block y (by omega) (fun e=>hy.2.2 e.symm)).trans (hb2.block y hy.2.1)) (fun y hy=>⟨hy.1,by omega,fun e=>?_⟩) q hq
      rcases hloc3 with h1|⟨g,h1,h2⟩
      ·exact hy.2.2 (h1 ▸ e)
      ·rw[h1] at e;have:=Option.some.inj e;omega
     ·rw[List.mem_singleton] at hq;subst hq
      refine⟨(HPKN.out.keep fun y hy=>hg3.block y hy.2 fun e=>?_).mono fun y hy=>⟨by omega,by omega,fun e=>?_⟩,hok⟩
      ·have:=(HROW.out.lt y e.symm).2;omega
      ·rcases hloc3 with h1|⟨g,h1,h2⟩
       ·have:=(HROW.out.lt y (h1 ▸ e)).2;omega
       ·rw[h1] at e;have:=Option.some.inj e;omega
    have HPK3:=hid hPK3;have HROW3:=hid hrow3;clear hPK3 hrow3 hloc3 hg3;go_roundw
    case rel=>exact⟨k+1,F ++ [(b,p)],h,by go_num,by rw[List.length_append,hFl];rfl,by rw[HRD.out];simp[pks],by rw[List.length_append,List.map_append];exact HROW3.out,HPK3.out,fun q hq=>by
      unfold pks at hq;rw[List.map_append,List.mem_append] at hq
      rcases hq with hq|hq
      ·exact HGD.out q hq
      ·have:q=p:=by simpa using hq
       rw[this];exact HGP.out,(hbel.trans (hb2.mono (by omega))).trans hb3⟩
    case measure=>simp[intOf];omega
  ·have hke:k=ts.length:=by omega
   have hread:=HR.out;rw[hke,List.take_length] at hread;have HRD:=hid hread;have hFn:F.length=ts.length:=by omega
   have HFN:=hid hFn;have hFle:=Nat.le_of_eq hFn;have HFL:=hid hFl;clear hFn hke hFl;obtain⟨W0,hW0⟩:∃ W0,W0=wr:=⟨_,rfl⟩
   have hsl:=PL.row_get HROW.out;obtain⟨pa,pc,hpv,hpc,hpg⟩:=hsl;have hall0:MapAt wr w.heap.size (kvOf L):=(HALL.out.below (w':=w1.alloc (.map #[] 0)) ((Below.refl w1.heap.size w1).alloc (Nat.le_refl _) _) hal).below hbel (by omega);have hfr0:MapAt wr w1.heap.size (kvOf []):=(MapAt.made w1).below hbel (by omega);have HA0:=hid hall0;have HF0:=hid hfr0;have HPG:=hid hpg;rw[<-hW0] at HPG HPK HROW;have hW0s:W0.heap.size=wr.heap.size:=by rw[hW0]
   have hbw0:=hbw;have hle0:=Nat.le_of_eq hW0s;have HW0:=hid hW0;clear hread hpg hall0 hfr0 hW0 HR hW0s;subst hpv;go_wp2
   go_loopw [50] (fun i wr=>∃ k:Nat,k<=F.length/\i=.int .i64 k/\MapAt wr w.heap.size (kvOf (L ++ F.take k))/\MapAt wr w1.heap.size (kvOf (F.take k))/\Sp.addAll 0 (pks L) (pks (F.take k))=.inr (pks (L ++ F.take k)) /\
     (∀ j,w1.heap.size+1<=j->j<W0.heap.size->wr.heap[j]? = W0.heap[j]?)/\W0.heap.size<=wr.heap.size/\Below w.heap.size w wr) (fun i _=>F.length+1-(intOf i).toNat)
   case atStart=>exact⟨0,Nat.zero_le _,rfl,by simpa using HA0.out,HF0.out,by simp[pks,Sp.addAll],fun j _ _=>by rw[HW0.out],hle0,hbw0⟩
   case round =>
    obtain⟨k2,hk2,rfl,hA2,hF2,hadd,hkp,hsz0,hbw2⟩:=hrel;have HA2:=hid hA2;have HF2:=hid hF2;have HADD:=hid hadd;have HKP:=hid hkp;clear hA2 hF2 hadd hkp
    by_cases h2:k2<F.length
    ·obtain⟨rb,ro,rfl,hrb1,hrb2,hrc⟩:=HPG.out k2 h2
     have hrc2:=(World.cell?_of_block (w:=W0) (a:=⟨rb,ro+k2,none⟩) (HKP.out rb hrb1 hrb2)).trans hrc;obtain⟨hpk,hok⟩:=HPK.out F[k2] (List.getElem_mem h2);have hpk2:=hpk.keep (w':=wr) fun x hx=>HKP.out x hx.1 hx.2.1
     have hnl:=hok.name;have HOK:=hid hok;have HPKW:=hid hpk2;obtain⟨_,_,_,⟨hS1,hS2,_⟩,_,_,hc2,_⟩:=hpk2;have htk:F.take (k2+1)=F.take k2 ++ [F[k2]]:=List.take_succ_eq_append_getElem h2;have htd:F.take (k2+1) ++ F.drop (k2+1)=F:=List.take_append_drop _ _;have has:=PL.add_snoc (pks (F.take k2)) 0 (pks L) F[k2].2;rw[HADD.out] at has;have hlk:(pks (F.take k2)).length=k2:=by unfold pks;rw[List.length_map,List.length_take];omega
     have e1:pks (F.take k2) ++ [F[k2].2]=pks (F.take (k2+1)):=by rw[htk];unfold pks;rw[List.map_append];rfl
     rw[hlk,e1] at has;have HAS:=hid has;have HTK:=hid htk;have HTDF:=hid htd;have hlkk:=HA2.out.look Tryz.underlying140 zero118 F[k2].2.name (by unfold maxLen;omega);have hSr:F[k2].1<wr.heap.size:=by omega
     clear hpk hok hrc htk htd has hlk e1;unfold sv at hc2;unfold pv at hrc2;generalize hq:F[k2]=q at *;have HQ:=hid hq;clear hq;obtain⟨qb,qp⟩:=q;simp only at hnl hc2 hrc2 hlkk hSr hS1 hS2
     rcases MP.kv_get (L:=L ++ F.take k2) qp.name with⟨g1,g2⟩|⟨q0,hq0,hqn,g2⟩
     ·rw[g1] at hlkk
      have HNEW:=hid g2;clear g1 g2;go_wp2_with fail;have hnewA:hasKV (kvOf (L ++ F.take k2)) qp.name=false:=by
       rw[<-Bool.not_eq_true,MP.has_kv];rintro ⟨q,hq,e⟩;exact HNEW.out q hq e
      have hnewF:hasKV (kvOf (F.take k2)) qp.name=false:=by
       rw[<-Bool.not_eq_true,MP.has_kv];rintro ⟨q,hq,e⟩;exact HNEW.out q (List.mem_append.2 (.inr hq)) e
      have hnmx:qp.name.length<=maxLen:=by unfold maxLen;omega
      have hAd:MapAt wr.drew w.heap.size (kvOf (L ++ F.take k2)):=HA2.out;have hlA:(kvOf (L ++ F.take k2)).length<1000000000:=by unfold kvOf;rw[List.length_map,List.length_append,List.length_take];omega
      have hlF:(kvOf (F.take k2)).length<1000000000:=by unfold kvOf;rw[List.length_map,List.length_take];omega
      obtain⟨v1,st1,u1,u2,r1,r2,hA3,f1,f2,⟨o1,o2,o3,o4⟩,⟨p1,p2,p3,p4⟩⟩:=hAd.enter Tryz.underlying140 zero118 hlA qp.name hnmx hnewA (.pointer (some ⟨qb,0,none⟩));have hF3:MapAt u2 w1.heap.size (kvOf (F.take k2)):=HF2.out.block (f2 _ (by omega));obtain⟨v2,st2,u3,u4,r3,r4,hF4,f3,f4,⟨o5,o6,o7,o8⟩,⟨p5,p6,p7,p8⟩⟩:=hF3.enter Tryz.underlying140 zero118 hlF qp.name hnmx hnewF (.pointer (some ⟨qb,0,none⟩));have hcd:∀ W:World,W.heap[qb]? = wr.heap[qb]?->W.cell? ⟨qb,2,none⟩=some (.string ⟨qp.name.toArray⟩):=fun W hW=>(World.cell?_of_block (w:=wr) (a:=⟨qb,2,none⟩) hW).trans hc2
      have d1:=hcd u1 (f1 qb (by omega));have d2:=hcd u2 (f2 qb (by omega));have d3:=hcd u3 ((f3 qb (by omega)).trans (f2 qb (by omega)));have d0:=hcd wr.drew rfl;have q1:qb<u1.heap.size:=by rw[o4];exact hSr
      have q2:qb<u2.heap.size:=by rw[p4];exact hSr
      clear hcd;have hno:(Sp.names (pks (L ++ F.take k2))).contains qp.name=false:=by
       rw[<-Bool.not_eq_true,List.contains_iff_mem];intro hm;obtain⟨p,hp,e⟩:=List.mem_map.1 hm;obtain⟨q,hq,rfl⟩:=List.mem_map.1 hp;exact HNEW.out q hq e
      have hk1:kvOf (L ++ F.take (k2+1))=kvOf (L ++ F.take k2) ++ [(qp.name,.pointer (some ⟨qb,0,none⟩))]:=by
       rw[HTK.out,<-List.append_assoc,kv_snoc]
      have hk3:kvOf (F.take (k2+1))=kvOf (F.take k2) ++ [(qp.name,.pointer (some ⟨qb,0,none⟩))]:=by
       rw[HTK.out,kv_snoc]
      have hA5:MapAt u4 w.heap.size (kvOf (L ++ F.take (k2+1))):=by rw[hk1];exact hA3.block (f4 _ (by omega))
      have hF5:MapAt u4 w1.heap.size (kvOf (F.take (k2+1))):=by rw[hk3];exact hF4
      have hadd5:Sp.addAll 0 (pks L) (pks (F.take (k2+1)))=.inr (pks (L ++ F.take (k2+1))):=by
       have h5:Sp.addAll 0 (pks L) (pks (F.take (k2+1)))=if (Sp.names (pks (L ++ F.take k2))).contains qp.name then _ else _:=HAS.out
       rw[hno,if_neg Bool.false_ne_true] at h5;rw[h5,HTK.out,<-List.append_assoc];unfold pks;simp only[List.map_append,List.map_cons,List.map_nil]
      have hf24:∀ j,w1.heap.size+1<=j->u4.heap[j]? = wr.heap[j]?:=fun j hj=>(f4 j (by omega)).trans (f2 j (by omega))
      have hkp5:∀ j,w1.heap.size+1<=j->j<W0.heap.size->u4.heap[j]? = W0.heap[j]?:=fun j hj hj2=>(hf24 j hj).trans (HKP.out j hj hj2)
      have hb5:Below w.heap.size wr u4:=⟨p5.trans p1,p6.trans p2,p7.trans p3,by rw[p8,p4];exact Nat.le_refl _,fun j hj=>(f4 j (by omega)).trans (f2 j (by omega))⟩
      have hz5:wr.heap.size<=u4.heap.size:=hb5.size;have HA5:=hid hA5;have HF5:=hid hF5;have HADD5:=hid hadd5;have HKP5:=hid hkp5;clear hA5 hF5 hadd5 hkp5 hk1 hk3 hno hf24 o1 o2 o3 o5 o6 o7 p1 p2 p3 p5 p6 p7 f1 f2 f3 f4 hA3 hF4 hF3 hAd;go_region;go_wp2;go_roundw
      case rel=>exact⟨k2+1,h2,by go_num,HA5.out,HF5.out,HADD5.out,HKP5.out,by omega,hbw2.trans hb5⟩
      case measure=>simp[intOf];omega
     ·rw[g2] at hlkk
      have hyes:(Sp.names (pks (L ++ F.take k2))).contains qp.name=true:=by
       rw[List.contains_iff_mem];exact List.mem_map.2 ⟨q0.2,List.mem_map.2 ⟨q0,hq0,rfl⟩,hqn⟩
      have hpl:Sp.planned (pks L) ts=.inl ⟨2,0+k2,0,qp.name⟩:=by
       have h5:=HAS.out;simp only at h5;rw[hyes,if_pos rfl] at h5;have h6:=PL.add_stop (pks L) _ 0 (pks L) (pks (F.drop (k2+1))) h5;have h7:pks (F.take (k2+1)) ++ pks (F.drop (k2+1))=pks F:=by
        unfold pks;rw[<-List.map_append,HTDF.out]
       rw[h7] at h6;unfold Sp.planned;rw[HRD.out];simp only;rw[h6]
      have HPL:=hid hpl;have hfa:=fault_any 2 (k2:Int) qp.name wr;have HFA:=hid hfa;clear hyes hpl hfa g2 hqn hq0;unfold sv at HFA;go_wp2_with fail;refine HFA.out.mono ?_;rintro e w4 ⟨rfl,hfl,hb4⟩;go_wp2
      go_ret3
      refine⟨hbw2.trans (hb4.mono hbw2.size),.inl ⟨_,_,HPL.out,by simp,by simp,rfl,hbw2.size,by simpa using hfl⟩⟩
    ·have hk2e:k2=F.length:=by omega
     have hA6:=HA2.out;have hF6:=HF2.out;have hadd6:=HADD.out;rw[hk2e,List.take_length] at hA6 hF6 hadd6;have hpks6:PL.PacksAt (fun x=>x<wr.heap.size/\(S x\/w.heap.size<=x)) wr (L ++ F):=fun q hq=>by
      rcases List.mem_append.1 hq with hq|hq
      ·obtain⟨h5,h6⟩:=HT.out.2.2 q hq
       exact⟨(h5.keep fun x hx=>hbw2.block x (HS.out x hx)).mono fun x hx=>⟨by have:=HS.out x hx;have:=hbw2.size;omega,.inl hx⟩,h6⟩
      ·obtain⟨h5,h6⟩:=HPK.out q hq
       exact⟨(h5.keep fun x hx=>HKP.out x hx.1 hx.2.1).mono fun x hx=>⟨by omega,.inr (by omega)⟩,h6⟩
     have hset:SetOn (fun x=>x<wr.heap.size/\(S x\/w.heap.size<=x)) wr w.heap.size (L ++ F):=SetOn.of_map hA6 hpks6;have hfset:SetOn (fun x=>x<wr.heap.size) wr w1.heap.size F:=SetOn.of_map hF6 fun q hq=>by
      obtain⟨h5,h6⟩:=hpks6 q (List.mem_append.2 (.inr hq));exact⟨h5.mono fun x hx=>hx.1,h6⟩
     have htset:SetOn (fun x=>x<wr.heap.size) wr mt L:=(HT.out.keep (hbw2.block _ hmtl) fun x hx=>hbw2.block x (HS.out x hx)).mono fun x hx=>by have:=HS.out x hx;have:=hbw2.size;omega
     have hgall:∀ p∈pks (L ++ F),V3.Good p:=fun p hp=>by
      unfold pks at hp;rw[List.map_append] at hp
      rcases List.mem_append.1 hp with hp|hp
      ·exact HGO.out p hp
      ·exact HGD.out p hp
     have hlen6:(L ++ F).length<=100000:=by rw[List.length_append];omega
     have hplan:Sp.planned (pks L) ts=match Sp.judged (pks L) (pks F) (pks (L ++ F)) with
       | .inl f=>.inl f
       | .inr o=>.inr (pks (L ++ F),o):=by
      unfold Sp.planned;rw[HRD.out];simp only;rw[hadd6]
      dsimp only
      cases Sp.judged (pks L) (pks F) (pks (L ++ F)) <;> rfl
     have HSET:=hid hset;have HFSET:=hid hfset;have HTSET:=hid htset;have HGALL:=hid hgall;have HPLAN:=hid hplan;have hbw2s:=hbw2.size;clear hA6 hF6 hadd6 hpks6 hset hfset htset hgall hplan hk2e HA2 HF2 HADD;have hnm6:∀ p∈pks (L ++ F),p.name≠[]:=fun p hp=>V1.name_ne (HGALL.out p hp).wf.name
     have hcl6:∀ p∈pks (L ++ F),Sp.clash1 (p.files.map (·.path))=false/\∀ f∈p.files,f.path≠[]:=fun p hp=>⟨(HGALL.out p hp).wf.clash,fun f hf e=>by
      have:=((HGALL.out p hp).wf.paths f hf).1;rw[e] at this;cases this⟩
     have HNM6:=hid hnm6;have HCL6:=hid hcl6;clear hnm6 hcl6;have hjd:Sp.judged (pks L) (pks F) (pks (L ++ F))=(if !(Sp.lacking (pks (L ++ F))).isEmpty then .inl ⟨4,0,0,Sp.lacking (pks (L ++ F))⟩
      else if !(Sp.barring (pks (L ++ F))).isEmpty then .inl ⟨5,0,0,Sp.barring (pks (L ++ F))⟩
      else if !(Sp.clash (pks (L ++ F))).isEmpty then .inl ⟨6,0,0,Sp.clash (pks (L ++ F))⟩
      else if !(Sp.order (pks L) (pks F)).2.isEmpty then .inl ⟨7,0,0,Sp.least (Sp.names (Sp.order (pks L) (pks F)).2)⟩
      else .inr (Sp.order (pks L) (pks F)).1):=rfl
     have HJD:=hid hjd;clear hjd;have hsf:=fun (w:World) (a:Addr) (fn:Fn) (f c:Array Value) (m:Mode)=>run_store Tryz.prog w a (.func fn f c) m rfl
     go_wp2;refine wp_loop_rounds 4 ?_;have hbk:Below wr.heap.size wr (wr.alloc (.cells #[.int .i64 4,.func (.func 80) #[] #[],.int .i64 5,.func (.func 123) #[] #[],.int .i64 6,.func (.func 124) #[] #[]] 211)):=(Below.refl _ _).alloc (Nat.le_refl _) _;have hk0:(wr.alloc (.cells #[.int .i64 4,.func (.func 80) #[] #[],.int .i64 5,.func (.func 123) #[] #[],.int .i64 6,.func (.func 124) #[] #[]] 211)).cell? ⟨wr.heap.size,0,none⟩=some (.int .i64 4):=by rw[World.cell?_alloc_at _ _ _ _ rfl];rfl
     have hk1:(wr.alloc (.cells #[.int .i64 4,.func (.func 80) #[] #[],.int .i64 5,.func (.func 123) #[] #[],.int .i64 6,.func (.func 124) #[] #[]] 211)).cell? ⟨wr.heap.size,1,none⟩=some (.func (.func 80) #[] #[]):=by rw[World.cell?_alloc_at _ _ _ _ rfl];rfl
     have hk2':(wr.alloc (.cells #[.int .i64 4,.func (.func 80) #[] #[],.int .i64 5,.func (.func 123) #[] #[],.int .i64 6,.func (.func 124) #[] #[]] 211)).cell? ⟨wr.heap.size,2,none⟩=some (.int .i64 5):=by rw[World.cell?_alloc_at _ _ _ _ rfl];rfl
     have hk3:(wr.alloc (.cells #[.int .i64 4,.func (.func 80) #[] #[],.int .i64 5,.func (.func 123) #[] #[],.int .i64 6,.func (.func 124) #[] #[]] 211)).cell? ⟨wr.heap.size,3,none⟩=some (.func (.func 123) #[] #[]):=by rw[World.cell?_alloc_at _ _ _ _ rfl];rfl
     have hk4:(wr.alloc (.cells #[.int .i64 4,.func (.func 80) #[] #[],.int .i64 5,.func (.func 123) #[] #[],.int .i64 6,.func (.func 124) #[] #[]] 211)).cell? ⟨wr.heap.size,4,none⟩=some (.int .i64 6):=by rw[World.cell?_alloc_at _ _ _ _ rfl];rfl
     have hk5:(wr.alloc (.cells #[.int .i64 4,.func (.func 80) #[] #[],.int .i64 5,.func (.func 123) #[] #[],.int .i64 6,.func (.func 124) #[] #[]] 211)).cell? ⟨wr.heap.size,5,none⟩=some (.func (.func 124) #[] #[]):=by rw[World.cell?_alloc_at _ _ _ _ rfl];rfl
     have hkl:wr.heap.size<(wr.alloc (.cells #[.int .i64 4,.func (.func 80) #[] #[],.int .i64 5,.func (.func 123) #[] #[],.int .i64 6,.func (.func 124) #[] #[]] 211)).heap.size:=by simp
     generalize (wr.alloc (.cells #[.int .i64 4,.func (.func 80) #[] #[],.int .i64 5,.func (.func 123) #[] #[],.int .i64 6,.func (.func 124) #[] #[]] 211))=x0 at *;have hbx0:Below wr.heap.size wr x0:=hbk;clear hbk;have hsx0:=hbx0.size;have hbA0:Below x0.heap.size x0 (x0.alloc (.cells #[.int .i64 4,.func (.func 80) #[] #[]] 211)):=(Below.refl _ _).alloc (Nat.le_refl _) _;have hst0:SetOn (fun b=>b<(x0.alloc (.cells #[.int .i64 4,.func (.func 80) #[] #[]] 211)).heap.size) (x0.alloc (.cells #[.int .i64 4,.func (.func 80) #[] #[]] 211)) w.heap.size (L ++ F):=(HSET.out.mono fun _ hx=>hx.1).below (hbx0.trans (hbA0.mono hsx0));have hcall0:=lacking_any w.heap.size (L ++ F) _ hst0 (by rw[List.length_append];omega) HNM6.out;have HC0:=hid hcall0;clear hcall0 hst0;unfold sv at HC0;rw[rounds_succ]
     cases he0:(Sp.lacking (pks (L ++ F))).isEmpty with
     | false =>
      have hpl:Sp.planned (pks L) ts=.inl ⟨4,0,0,Sp.lacking (pks (L ++ F))⟩:=by
       rw[HPLAN.out,HJD.out,he0];rfl
      have HPL:=hid hpl;clear hpl;go_wp2_with fail;refine HC0.out.mono ?_;rintro e z ⟨rfl,hbz⟩;have hz0:=hbz.cell (p:=⟨x0.heap.size,0,none⟩) (show x0.heap.size<_ by simp);rw[World.cell?_alloc_at _ _ _ _ rfl] at hz0;simp only[List.getElem?_toArray,List.getElem?_cons_zero] at hz0;have hbzz:Below w.heap.size w z:=hbw2.trans ((hbx0.trans ((hbA0.trans (hbz.mono hbA0.size)).mono hsx0)).mono hbw2s);have hfa:=fault_any 4 0 (Sp.lacking (pks (L ++ F))) z;have HFA:=hid hfa;clear hfa;unfold sv at HFA;go_wp2_with fail;refine HFA.out.mono ?_;rintro e z2 ⟨rfl,hfl,hb4⟩;go_wp2
      go_ret3
      exact⟨hbzz.trans (hb4.mono hbzz.size),.inl ⟨_,_,HPL.out,by simp,by simp,rfl,hbzz.size,hfl⟩⟩
     | true =>
      go_wp2_with fail;refine HC0.out.mono ?_;rintro e x1 ⟨rfl,hbz⟩;have hbx1:Below wr.heap.size wr x1:=hbx0.trans ((hbA0.trans (hbz.mono hbA0.size)).mono hsx0);have hk2q:=(hbz.cell (p:=⟨wr.heap.size,2,none⟩) (show wr.heap.size<_ by simp;omega)).trans ((World.cell?_alloc_lt _ _ _ (show wr.heap.size<_ by omega)).trans hk2');have hk3q:=(hbz.cell (p:=⟨wr.heap.size,3,none⟩) (show wr.heap.size<_ by simp;omega)).trans ((World.cell?_alloc_lt _ _ _ (show wr.heap.size<_ by omega)).trans hk3);have hk4q:=(hbz.cell (p:=⟨wr.heap.size,4,none⟩) (show wr.heap.size<_ by simp;omega)).trans ((World.cell?_alloc_lt _ _ _ (show wr.heap.size<_ by omega)).trans hk4);have hk5q:=(hbz.cell (p:=⟨wr.heap.size,5,none⟩) (show wr.heap.size<_ by simp;omega)).trans ((World.cell?_alloc_lt _ _ _ (show wr.heap.size<_ by omega)).trans hk5);have hkl1:wr.heap.size<x1.heap.size:=by have:=hbz.size;simp at this;omega
      go_wp2_with fail;have hsx1:=hbx1.size;have hbA1:Below x1.heap.size x1 (x1.alloc (.cells #[.int .i64 5,.func (.func 123) #[] #[]] 211)):=(Below.refl _ _).alloc (Nat.le_refl _) _;have hst1:SetOn (fun b=>b<(x1.alloc (.cells #[.int .i64 5,.func (.func 123) #[] #[]] 211)).heap.size) (x1.alloc (.cells #[.int .i64 5,.func (.func 123) #[] #[]] 211)) w.heap.size (L ++ F):=(HSET.out.mono fun _ hx=>hx.1).below (hbx1.trans (hbA1.mono hsx1));have hcall1:=barring_any w.heap.size (L ++ F) _ hst1 (by rw[List.length_append];omega) HNM6.out;have HC1:=hid hcall1;clear hcall1 hst1;unfold sv at HC1;rw[rounds_succ]
      cases he1:(Sp.barring (pks (L ++ F))).isEmpty with
      | false =>
       have hpl:Sp.planned (pks L) ts=.inl ⟨5,0,0,Sp.barring (pks (L ++ F))⟩:=by
        rw[HPLAN.out,HJD.out,he0,he1];rfl
       have HPL:=hid hpl;clear hpl;go_wp2_with fail;refine HC1.out.mono ?_;rintro e z ⟨rfl,hbz⟩;have hz0:=hbz.cell (p:=⟨x1.heap.size,0,none⟩) (show x1.heap.size<_ by simp);rw[World.cell?_alloc_at _ _ _ _ rfl] at hz0;simp only[List.getElem?_toArray,List.getElem?_cons_zero] at hz0;have hbzz:Below w.heap.size w z:=hbw2.trans ((hbx1.trans ((hbA1.trans (hbz.mono hbA1.size)).mono hsx1)).mono hbw2s);have hfa:=fault_any 5 0 (Sp.barring (pks (L ++ F))) z;have HFA:=hid hfa;clear hfa;unfold sv at HFA;go_wp2_with fail;refine HFA.out.mono ?_;rintro e z2 ⟨rfl,hfl,hb4⟩;go_wp2
       go_ret3
       exact⟨hbzz.trans (hb4.mono hbzz.size),.inl ⟨_,_,HPL.out,by simp,by simp,rfl,hbzz.size,hfl⟩⟩
      | true =>
       go_wp2_with fail;refine HC1.out.mono ?_;rintro e x2 ⟨rfl,hbz⟩;have hbx2:Below wr.heap.size wr x2:=hbx1.trans ((hbA1.trans (hbz.mono hbA1.size)).mono hsx1);have hk4qq:=(hbz.cell (p:=⟨wr.heap.size,4,none⟩) (show wr.heap.size<_ by simp;omega)).trans ((World.cell?_alloc_lt _ _ _ (show wr.heap.size<_ by omega)).trans hk4q);have hk5qq:=(hbz.cell (p:=⟨wr.heap.size,5,none⟩) (show wr.heap.size<_ by simp;omega)).trans ((World.cell?_alloc_lt _ _ _ (show wr.heap.size<_ by omega)).trans hk5q);have hkl2:wr.heap.size<x2.heap.size:=by have:=hbz.size;simp at this;omega
       go_wp2_with fail;have hsx2:=hbx2.size;have hbA2:Below x2.heap.size x2 (x2.alloc (.cells #[.int .i64 6,.func (.func 124) #[] #[]] 211)):=(Below.refl _ _).alloc (Nat.le_refl _) _;have hst2:SetOn (fun b=>b<(x2.alloc (.cells #[.int .i64 6,.func (.func 124) #[] #[]] 211)).heap.size) (x2.alloc (.cells #[.int .i64 6,.func (.func 124) #[] #[]] 211)) w.heap.size (L ++ F):=(HSET.out.mono fun _ hx=>hx.1).below (hbx2.trans (hbA2.mono hsx2));have hcall2:=planned1_any w.heap.size (L ++ F) _ hst2 hlen6 HCL6.out;have HC2:=hid hcall2;clear hcall2 hst2;unfold sv at HC2;rw[rounds_succ]
       cases he2:(Sp.clash (pks (L ++ F))).isEmpty with
       | false =>
        have hpl:Sp.planned (pks L) ts=.inl ⟨6,0,0,Sp.clash (pks (L ++ F))⟩:=by
         rw[HPLAN.out,HJD.out,he0,he1,he2];rfl
        have HPL:=hid hpl;clear hpl;go_wp2_with fail;refine HC2.out.mono ?_;rintro e z ⟨rfl,hbz⟩;have hz0:=hbz.cell (p:=⟨x2.heap.size,0,none⟩) (show x2.heap.size<_ by simp);rw[World.cell?_alloc_at _ _ _ _ rfl] at hz0;simp only[List.getElem?_toArray,List.getElem?_cons_zero] at hz0;have hbzz:Below w.heap.size w z:=hbw2.trans ((hbx2.trans ((hbA2.trans (hbz.mono hbA2.size)).mono hsx2)).mono hbw2s);have hfa:=fault_any 6 0 (Sp.clash (pks (L ++ F))) z;have HFA:=hid hfa;clear hfa;unfold sv at HFA;go_wp2_with fail;refine HFA.out.mono ?_;rintro e z2 ⟨rfl,hfl,hb4⟩;go_wp2
        go_ret3
        exact⟨hbzz.trans (hb4.mono hbzz.size),.inl ⟨_,_,HPL.out,by simp,by simp,rfl,hbzz.size,hfl⟩⟩
       | true =>
        go_wp2_with fail;refine HC2.out.mono ?_;rintro e x3 ⟨rfl,hbz⟩;have hbx3:Below wr.heap.size wr x3:=hbx2.trans ((hbA2.trans (hbz.mono hbA2.size)).mono hsx2);have hkl3:wr.heap.size<x3.heap.size:=by have:=hbz.size;simp at this;omega
        go_wp2_with fail;rw[rounds_succ];go_wp2_with fail;have hsx:=hbx3.size;have hord:=order_any mt w1.heap.size L F x3 (HTSET.out.below hbx3) (HFSET.out.below hbx3) (by omega) (fun p hp=>⟨by
          have:=(HGALL.out p (by unfold pks at hp ⊢;rw[List.map_append];exact List.mem_append.2 (.inr hp))).wf.name;have:=P2.name_len this;omega,V1.name_ne (HGALL.out p (by unfold pks at hp ⊢;rw[List.map_append];exact List.mem_append.2 (.inr hp))).wf.name⟩)
        refine hord.mono ?_;rintro e x4 ⟨hb4,v,l,ok,rfl,hv,hor⟩;have hbw4:Below w.heap.size w x4:=hbw2.trans ((hbx3.trans (hb4.mono hsx)).mono hbw2s)
        rcases hor with⟨rfl,hor2,rfl⟩|⟨rfl,hor2,rfl⟩
        ·have hpl:Sp.planned (pks L) ts=.inr (pks (L ++ F),(Sp.order (pks L) (pks F)).1):=by
          rw[HPLAN.out,HJD.out,he0,he1,he2,hor2];rfl
         have HPL:=hid hpl;have HV:=hid hv;clear hpl hor2 hv;go_wp2
         go_ret3
         refine⟨hbw4,.inr ⟨F,_,w.heap.size,v,HPL.out,rfl,Nat.le_refl _,HFN.out,?_,HV.out.base (by have:=hbw2.size;omega),HGD.out⟩⟩;have hbx4:=hbx3.trans (hb4.mono hsx);refine(HSET.out.keep (hbx4.block w.heap.size HSET.out.map.lt) fun x hx=>hbx4.block x hx.1).mono fun x hx=>?_
         have:=hbx4.size
         rcases hx.2 with h5|h5
         ·exact .inl h5
         ·exact .inr (by omega)
        ·have hle:∀ x∈Sp.names (Sp.order (pks L) (pks F)).2,x≠[]:=fun x hx=>by
          obtain⟨p,hp,rfl⟩:=List.mem_map.1 hx;have hp2:=PL.order_sub (pks L) _ _ p hp;exact V1.name_ne (HGALL.out p (by unfold pks at hp2 ⊢;rw[List.map_append];exact List.mem_append.2 (.inr hp2))).wf.name
         have hso:=V8.sorted_ord (Sp.names (Sp.order (pks L) (pks F)).2);have hsp:=V8.sorted_perm (Sp.names (Sp.order (pks L) (pks F)).2)
         cases hl:Sp.sorted (Sp.names (Sp.order (pks L) (pks F)).2) with
         | nil =>
          rw[hl] at hsp;exact absurd (List.map_eq_nil_iff.1 (List.nil_perm.1 hsp)) hor2
         | cons n r =>
          rw[hl] at hsp hso hv;have hlst:Sp.least (Sp.names (Sp.order (pks L) (pks F)).2)=n:=V5.least_eq hle (hsp.mem_iff.1 (by simp)) fun x hx=>by
           rcases List.mem_cons.1 (hsp.mem_iff.2 hx) with rfl|hx
           ·exact List.le_refl _
           ·exact(List.pairwise_cons.1 hso).1 x hx
          have hne:(Sp.order (pks L) (pks F)).2.isEmpty=false:=by
           cases h5:(Sp.order (pks L) (pks F)).2 with
           | nil=>exact absurd h5 hor2
           | cons _ _=>rfl
          have hpl:Sp.planned (pks L) ts=.inl ⟨7,0,0,n⟩:=by
           rw[HPLAN.out,HJD.out,he0,he1,he2,hne,hlst];rfl
          have HPL:=hid hpl;obtain⟨va,vc,rfl,hvc,hvg⟩:=hv.at_.get;obtain⟨vb,vo,rfl,hvb,hvcell⟩:=hvg 0 (by simp);simp only[List.getElem_cons_zero,Nat.add_zero] at hvcell;have hfa:=fault_any 7 0 n x4;have HFA:=hid hfa;have hvl:0<(n :: r).length:=by simp
          clear hpl hor2 hle hso hsp hlst hne hfa hvg hv hl;unfold sv at HFA;go_wp2_with fail;refine HFA.out.mono ?_;rintro e x5 ⟨rfl,hfl,hb5⟩;go_wp2
          go_ret3
          exact⟨hbw4.trans (hb5.mono hbw4.size),.inl ⟨_,_,HPL.out,by simp,by simp,rfl,hbw4.size,hfl⟩⟩
end
section
open Go.RowKit Go.Maps
def faultV(f:Sp.Fault):Value:=.agg #[.int .i64 (f.kind:Int),.int .i64 (f.which:Int),.int .i64 (f.line:Int),sv f.name]
def ErrAt(w:World)(v:Value)(f:Sp.Fault):Prop:=
 (f=Sp.okF/\v=.nilIface)\/(1<=f.kind/\f.kind<=8/\∃ b,v=.iface 121 (.pointer (some ⟨b,0,none⟩))/\FaultAt w b f.kind f.which f.line f.name)
theorem parts_any{w:World}{v:Value}{f:Sp.Fault}(hE:ErrT w)(h:ErrAt w v f):Calls Tryz.prog 42 #[v] w fun e w'=>e=.returned (faultV f)/\Below w.heap.size w w':=by
 rcases h with⟨rfl,rfl⟩|⟨h1,h8,b,rfl,hF⟩
 ·exact parts_nil w
 ·exact parts_fault b f.kind f.which f.line f.name w hE hF (by omega) (by omega)
structure Fit(st:Sp.St):Prop where
 ok:Sp.Ok st.L
 big:16<=st.d.seen.length
 room:Sp.size st.L<=Sp.room st.d.seen.length
 last:st.last+1<18446744073709551616
 late:st.d.late.length<900000
def Sto(O:Nat->Prop)(w:World)(s D:Nat)(st:Sp.St):Prop:=
 ∃ mb ob OD S L,StBlk w s D st.last (.map (some mb)) (.map (some ob))/\DkE OD w D st.d/\SetOn S w mb L/\MapAt w ob (ownKV (pks L))/\pks L=st.L/\O s /\
  (∀ k,OD k->O k/\k≠s/\k<w.heap.size)/\(∀ k,(S k\/k=mb\/k=ob)->k<w.heap.size/\O k/\¬OD k/\k≠s)
namespace Sto
variable {O O':Nat->Prop} {w w':World} {s D:Nat} {st:Sp.St}
theorem mono(h:Sto O w s D st)(hm:∀ k,k<w.heap.size->O k->O' k):Sto O' w s D st:=by
 obtain⟨mb,ob,OD,S,L,h1,h2,h3,h4,h5,h6,h7,h8⟩:=h;exact⟨mb,ob,OD,S,L,h1,h2,h3,h4,h5,hm s h1.lt h6,fun k hk=>⟨hm k (h7 k hk).2.2 (h7 k hk).1,(h7 k hk).2⟩,fun k hk=>⟨(h8 k hk).1,hm k (h8 k hk).1 (h8 k hk).2.1,(h8 k hk).2.2⟩⟩
theorem keep(h:Sto O w s D st)(hk:∀ k,O k->k<w.heap.size->w'.heap[k]? = w.heap[k]?)(hs:w.heap.size<=w'.heap.size):Sto O w' s D st:=by
 obtain⟨mb,ob,OD,S,L,h1,h2,h3,h4,h5,h6,h7,h8⟩:=h;have k8:∀ k,(S k\/k=mb\/k=ob)->w'.heap[k]? = w.heap[k]?:=fun k hk'=>hk k (h8 k hk').2.1 (h8 k hk').1
 exact⟨mb,ob,OD,S,L,h1.keep (hk s h6 h1.lt),h2.keep (fun k hk' hl=>hk k (h7 k hk').1 hl) hs,h3.keep (k8 mb (.inr (.inl rfl))) fun x hx=>k8 x (.inl hx),h4.block (k8 ob (.inr (.inr rfl))),h5,h6,
  fun k hk'=>⟨(h7 k hk').1,(h7 k hk').2.1,by have:=(h7 k hk').2.2;omega⟩,fun k hk'=>⟨by have:=(h8 k hk').1;omega,(h8 k hk').2⟩⟩
theorem below(h:Sto O w s D st)(hb:Below w.heap.size w w'):Sto O w' s D st:=h.keep (fun k _ hl=>hb.block k hl) hb.size
theorem lt(h:Sto O w s D st):s<w.heap.size:=by
 obtain⟨mb,ob,OD,S,L,h1,_⟩:=h;exact h1.lt
theorem own(h:Sto O w s D st):O s/\O D:=by
 obtain⟨mb,ob,OD,S,L,h1,h2,_,_,_,h6,h7,_⟩:=h;exact⟨h6,(h7 D h2.own).1⟩
end Sto
theorem pks_len(L:List (Nat × Sp.Pk)):(pks L).length=L.length:=by unfold pks;rw[List.length_map]
theorem Fit.few{st:Sp.St}(h:Fit st)(hS:st.d.seen.length<=256):st.L.length<=600:=by
 have h1:=V8.size_count h.ok.set.good;have h2:=h.room;unfold Sp.room at h2;omega
theorem become_eq(st:Sp.St)(L L2:List (Nat × Sp.Pk))(hL:pks L=st.L):st.become (pks L2)=⟨ST.dkOf L2.length L.length st.d (Sp.save st.d st.last (Sp.joined (pks L2))),ST.lastOf L2.length L.length st.last,pks L2⟩:=by
 unfold Sp.St.become ST.dkOf ST.lastOf;rw[<-hL,pks_len,pks_len]
 split <;> rfl
theorem storePlan_any{G:Nat}{O:Nat->Prop}{w:World}{s D:Nat}{st:Sp.St}(hG:Glob G w)(h:Sto O w s D st)(hf:Fit st)(tv:Value)(ts:List Sp.Str)(htv:StrsAt w tv ts)(hts:ts.length<=9000):
  Calls Tryz.prog 48 #[.pointer (some ⟨s,0,none⟩),tv] w fun e w'=>∃ v ev,e=.returned (.tuple #[v,ev])/\StrsFrom w.heap.size w' v (st.plan ts).2/\ErrAt w' ev (st.plan ts).1/\Below w.heap.size w w':=by
 obtain⟨mb,ob,OD,S,L,h1,h2,h3,h4,h5,h6,h7,h8⟩:=h;have hfew:=hf.few h2.lens.2.2;rw[<-h5,pks_len] at hfew;have hp:=planned_any (G:=G) mb tv ts L w hG (fun x hx=>(h8 x (.inl hx)).1) h3 htv (by omega) (by omega) (by rw[h5];exact hf.ok.set.good);obtain⟨c0,c1,c2,c3,cz⟩:=h1.cells;have hlt:=h1.lt;have HP:=hid hp;have H5:=hid h5;have HTV:=hid htv;clear hp h1 h2 h3 h4 h5 h7 h8 htv;go_enter Tryz.func48,Tryz.ntmps48;go_wp2_with fail;refine HP.out.mono ?_;rintro e w1 ⟨hb1,⟨f,b,hpl,hk1,hk8,rfl,hge,hF⟩|⟨F,o,mb2,v,hpl,rfl,hge,hFl,hset,hv,hgood⟩⟩
 ·have e1:st.plan ts=(f,[]):=by unfold Sp.St.plan;rw[<-H5.out,hpl]
  have E1:=hid e1;have HF:=hid hF;clear hpl e1 hF;unfold pv;go_wp2
  go_ret2
  rw[E1.out];exact⟨_,_,rfl,StrsFrom.nil _ _,.inr ⟨hk1,hk8,b,rfl,HF.out⟩,hb1⟩
 ·have e1:st.plan ts=(Sp.okF,o):=by unfold Sp.St.plan;rw[<-H5.out,hpl]
  have E1:=hid e1;have HV:=hid hv;clear hpl e1 hset hgood hv;go_wp2
  go_ret2
  rw[E1.out];exact⟨_,_,rfl,HV.out,.inl ⟨rfl,rfl⟩,hb1⟩
theorem sto_become{O:Nat->Prop}{w w1 w':World}{s D mb mb2 ob ob2:Nat}{st:Sp.St}{L L2:List (Nat × Sp.Pk)}{OD S S2 O2:Nat->Prop}(hb1:Below w.heap.size w w1)(hL:pks L=st.L)
  (h1:StBlk w s D st.last (.map (some mb)) (.map (some ob)))(h6:O s)(h7:∀ k,OD k->O k/\k≠s/\k<w.heap.size)(h8:∀ k,(S k\/k=mb\/k=ob)->k<w.heap.size/\O k/\¬OD k/\k≠s)
  (hset:SetOn S2 w1 mb2 L2)(hS2:∀ x,(S2 x\/x=mb2)->S x\/w.heap.size<=x)(hS2l:∀ x,(S2 x\/x=mb2)->x<w1.heap.size)
  (hch:Chg (fun k=>OD k\/k=s) w1 w')(hob:w1.heap.size<=ob2)(hobl:ob2<w'.heap.size)(hobn:¬O2 ob2)(hO2:∀ k,O2 k->(OD k\/w1.heap.size<=k)/\k<w'.heap.size)
  (hst:StBlk w' s D (ST.lastOf L2.length L.length st.last) (.map (some mb2)) (.map (some ob2)))(hdk:DkE O2 w' D (ST.dkOf L2.length L.length st.d (Sp.save st.d st.last (Sp.joined (pks L2)))))(hmap:MapAt w' ob2 (ownKV (pks L2))):
  Chg O w w'/\Sto (fun k=>O k\/w.heap.size<=k) w' s D (st.become (pks L2)):=by
 have hz1:=hb1.size;have hslt:=h1.lt;have hz':=hch.size;have hnS:∀ x,(S2 x\/x=mb2)->¬OD x/\x≠s:=fun x hx=>by
  rcases hS2 x hx with h|h
  ·exact(h8 x (.inl h)).2.2
  ·exact⟨fun hy=>by have:=(h7 x hy).2.2;omega,by omega⟩
 refine⟨(Chg.of_below hb1).trans (hch.mono fun x hx=>?_),?_⟩
 ·rcases hx with hx|rfl
  ·exact(h7 x hx).1
  ·exact h6
 ·have hk:∀ x,(S2 x\/x=mb2)->w'.heap[x]? = w1.heap[x]?:=fun x hx=>hch.block x (hS2l x hx) fun hy=>by
   rcases hy with hy|hy
   ·exact(hnS x hx).1 hy
   ·exact(hnS x hx).2 hy
  rw[become_eq st L L2 hL];refine⟨mb2,ob2,O2,S2,L2,hst,hdk,hset.keep (hk mb2 (.inr rfl)) fun x hx=>hk x (.inl hx),hmap,rfl,.inl h6,fun k hk'=>⟨?_,?_,(hO2 k hk').2⟩,fun k hk'=>?_⟩
  ·rcases (hO2 k hk').1 with h|h
   ·exact .inl (h7 k h).1
   ·exact .inr (by omega)
  ·rcases (hO2 k hk').1 with h|h
   ·exact(h7 k h).2.1
   ·omega
  ·have key:(S2 k\/k=mb2)->k<w'.heap.size/\(O k\/w.heap.size<=k)/\¬O2 k/\k≠s:=fun hx=>by
    refine⟨by have:=hS2l k hx;omega,?_,fun hy=>?_,(hnS k hx).2⟩
    ·rcases hS2 k hx with h|h
     ·exact .inl (h8 k (.inl h)).2.1
     ·exact .inr h
    ·rcases (hO2 k hy).1 with h|h
     ·exact(hnS k hx).1 h
     ·have:=hS2l k hx;omega
   rcases hk' with hx|hx|rfl
   ·exact key (.inl hx)
   ·exact key (.inr hx)
   ·exact⟨hobl,.inr (by omega),hobn,by omega⟩
theorem storeInstall_any{G:Nat}{O:Nat->Prop}{w:World}{s D:Nat}{st:Sp.St}(hG:Glob G w)(h:Sto O w s D st)(hf:Fit st)(tv:Value)(ts:List Sp.Str)(htv:StrsAt w tv ts)(hts:ts.length<=9000):
  Calls Tryz.prog 49 #[.pointer (some ⟨s,0,none⟩),tv] w fun e w'=>∃ ev,e=.returned ev/\ErrAt w' ev (st.install ts).1/\Chg O w w'/\Sto (fun k=>O k\/w.heap.size<=k) w' s D (st.install ts).2:=by
 have h0:=h;obtain⟨mb,ob,OD,S,L,h1,h2,h3,h4,h5,h6,h7,h8⟩:=h;have hl256:=h2.lens.2.2;have hfew:=hf.few hl256;rw[<-h5,pks_len] at hfew;have hp:=planned_any (G:=G) mb tv ts L w hG (fun x hx=>(h8 x (.inl hx)).1) h3 htv (by omega) (by omega) (by rw[h5];exact hf.ok.set.good);obtain⟨c0,c1,c2,c3,cz⟩:=h1.cells;have hlt:=h1.lt;have H0:=hid h0;have H1:=hid h1;have H2:=hid h2;have H3:=hid h3;have H5:=hid h5;have H6:=hid h6;have H7:=hid h7;have H8:=hid h8;have HF:=hid hf;have HP:=hid hp;have hmlt:=h3.map.lt;clear hp h0 h1 h2 h3 h4 h5 h6 h7 h8 htv hf hG;go_enter Tryz.func49,Tryz.ntmps49;go_wp2_with fail;refine HP.out.mono ?_;rintro e w1 ⟨hb1,⟨f,b,hpl,hk1,hk8,rfl,hge,hFa⟩|⟨F,o,mb2,v,hpl,rfl,hge,hFl,hset,hv,hgood⟩⟩
 ·have e1:st.install ts=(f,st):=V10.install_no (by rw[<-H5.out];exact hpl)
  have E1:=hid e1;have HFA:=hid hFa;have HB1:=hid hb1;clear hpl e1 hFa hb1;unfold pv;go_wp2;go_ret;rw[E1.out];exact⟨_,rfl,.inr ⟨hk1,hk8,b,rfl,HFA.out⟩,Chg.of_below HB1.out,(H0.out.below HB1.out).mono fun k _ hk=>.inl hk⟩
 ·have hz1:=hb1.size
  have hpl':Sp.planned st.L ts=.inr (pks (L ++ F),o):=by rw[<-H5.out];exact hpl
  obtain⟨hok,_⟩:=V9.planned_ok HF.out.ok.set hpl';have hml2:=hset.map.lt;have hS2:∀ x,((S x\/w.heap.size<=x/\x<w1.heap.size)\/x=mb2)->S x\/w.heap.size<=x:=fun x hx=>by
   rcases hx with(hx|hx)|hx
   ·exact .inl hx
   ·exact .inr hx.1
   ·exact .inr (by omega)
  have hS2l:∀ x,((S x\/w.heap.size<=x/\x<w1.heap.size)\/x=mb2)->x<w1.heap.size:=fun x hx=>by
   rcases hx with(hx|hx)|hx
   ·have:=(H8.out x (.inl hx)).1;omega
   ·exact hx.2
   ·omega
  have hnOD:∀ x,w.heap.size<=x->¬OD x/\x≠s:=fun x hx=>⟨fun hy=>by have:=(H7.out x hy).2.2;omega,by omega⟩
  have hbc:=become_any (O:=OD) (S:=S) (L2:=L ++ F) (H1.out.keep (hb1.block s hlt)) (H2.out.below hb1) (fun hy=>(H7.out s hy).2.1 rfl)
   (H3.out.keep (w':=w1) (hb1.block mb hmlt) fun x hx=>hb1.block x (H8.out x (.inl hx)).1) (fun x hx=>by have:=(H8.out x (.inl hx)).1;omega)
   hset (fun x hx=>⟨hS2l x (.inl hx),by
    rcases hx with hx|hx
    ·exact(H8.out x (.inl hx)).2.2
    ·exact hnOD x hx.1⟩) (hnOD mb2 hge) hok.set (V9.paths_nodup hok) HF.out.big HF.out.last HF.out.late (by rw[List.length_append];omega)
   (fun he=>by rw[List.length_append] at he;rw[List.length_eq_zero_iff.1 (show F.length=0 by omega),List.append_nil])
  have HBC:=hid hbc;have HPL:=hid hpl';have HB1:=hid hb1;have HSET:=hid hset;have HS2:=hid hS2;have HS2L:=hid hS2l;clear hbc hpl hpl' hset hgood hv hS2 hS2l hnOD hok hb1;go_wp2_with fail;refine HBC.out.mono ?_;rintro e w2 (⟨hr,b,rfl,hge2,hFa,hb2⟩|⟨hr,rfl,hch,ob2,O2,hob,hobl,hobn,hO2,hst,hdk,hmap⟩)
  ·have e1:st.install ts=(⟨8,0,0,[]⟩,st):=by unfold Sp.St.install;rw[HPL.out];simp only;rw[if_pos hr]
   have E1:=hid e1;have HFA:=hid hFa;have HB2:=hid (HB1.out.trans (hb2.mono hz1));clear e1 hFa hb2;go_wp2;go_ret;rw[E1.out];exact⟨_,rfl,.inr ⟨by simp,by simp,b,rfl,HFA.out⟩,Chg.of_below HB2.out,(H0.out.below HB2.out).mono fun k _ hk=>.inl hk⟩
  ·have e1:st.install ts=(Sp.okF,st.become (pks (L ++ F))):=by unfold Sp.St.install;rw[HPL.out];simp only;rw[if_neg (by omega)]
   have E1:=hid e1;have hfin:=sto_become HB1.out H5.out H1.out H6.out H7.out H8.out HSET.out HS2.out HS2L.out hch hob hobl hobn hO2 hst hdk hmap;have HFIN:=hid hfin;clear e1 hfin hch hO2 hst hdk hmap;go_wp2;go_ret;rw[E1.out];exact⟨_,rfl,.inl ⟨rfl,rfl⟩,HFIN.out⟩
end
end Go.Proofs.YtfphcecjhdkcoaaGreatDoor

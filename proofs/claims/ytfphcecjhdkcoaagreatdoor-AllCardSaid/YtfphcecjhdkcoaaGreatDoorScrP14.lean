/-
What the walk of newDisk stands on: rows of sectors that grow side by side.
-/
import Derived.Test.YtfphcecjhdkcoaaGreatDoorScrP06
import Derived.Test.YtfphcecjhdkcoaaGreatDoorScrP11
import Derived.Test.YtfphcecjhdkcoaaGreatDoorScrP12
import Derived.Test.YtfphcecjhdkcoaaGreatDoorScrP13
import Derived.BigQuiet
import Derived.Deep.QuietTactic
import Derived.Laws.BytesArg
import Derived.Lib.MinMax
import Derived.Deep.AppendLies
set_option maxRecDepth 100000
set_option maxHeartbeats 8000000
namespace Go.Proofs.YtfphcecjhdkcoaaGreatDoor
open Go.Lib (hid)
section
open Go.RowKit Go.Maps
namespace ST
theorem rem_snoc:∀ (ns:List Sp.Str) (i:Nat) (L:List Sp.Pk) (n:Sp.Str),Sp.removeAll i L (ns ++ [n])=match Sp.removeAll i L ns with
  | .inl f=>.inl f
  | .inr A=>if (Sp.names A).contains n then .inr (A.filter fun p=>p.name != n) else .inl ⟨3,i+ns.length,0,n⟩
 | [],i,L,n=>by
  simp only[List.nil_append,Sp.removeAll]
  split <;> rfl
 | m :: r,i,L,n=>by
  rw[List.cons_append,Sp.removeAll,Sp.removeAll]
  split
  ·rw[rem_snoc r (i+1) _ n,List.length_cons,show i+(r.length+1)=i+1+r.length by omega]
  ·rfl
theorem rem_stop:∀ (ns ms:List Sp.Str) (i:Nat) (L:List Sp.Pk) {f:Sp.Fault},Sp.removeAll i L ns=.inl f->Sp.removeAll i L (ns ++ ms)=.inl f
 | [],_,_,_,_,h=>by cases h
 | n :: r,ms,i,L,f,h=>by
  rw[Sp.removeAll] at h;rw[List.cons_append,Sp.removeAll]
  split at h
  ·rename_i hc
   rw[if_pos hc];exact rem_stop r ms (i+1) _ h
  ·rename_i hc
   rw[if_neg hc];exact h
theorem pks_drop(L:List (Nat × Sp.Pk))(n:Sp.Str):pks (MP.dropL L n)=(pks L).filter fun p=>p.name != n:=by
 unfold pks MP.dropL;rw[List.filter_map];rfl
theorem names_mem{L:List (Nat × Sp.Pk)}{n:Sp.Str}:(Sp.names (pks L)).contains n=true↔∃ q∈L,q.2.name=n:=by
 rw[List.contains_iff_mem];unfold Sp.names pks;constructor
 ·intro h
  obtain⟨p,hp,e⟩:=List.mem_map.1 h;obtain⟨q,hq,rfl⟩:=List.mem_map.1 hp;exact⟨q,hq,e⟩
 ·rintro ⟨q,hq,rfl⟩
  exact List.mem_map.2 ⟨q.2,List.mem_map.2 ⟨q,hq,rfl⟩,rfl⟩
end ST
theorem storeRemove_any{O:Nat->Prop}{w:World}{s D:Nat}{st:Sp.St}(h:Sto O w s D st)(hf:Fit st)(tv:Value)(ns:List Sp.Str)(htv:StrsAt w tv ns)(hns:ns.length<=9000)(hnl:∀ n∈ns,n.length<=10000):
  Calls Tryz.prog 53 #[.pointer (some ⟨s,0,none⟩),tv] w fun e w'=>∃ ev,e=.returned ev/\ErrAt w' ev (st.remove ns).1/\Chg O w w'/\Sto (fun k=>O k\/w.heap.size<=k) w' s D (st.remove ns).2:=by
 have h0:=h;obtain⟨mb,ob,OD,S,L,h1,h2,h3,h4,h5,h6,h7,h8⟩:=h;have hl256:=h2.lens.2.2;have hfew:=hf.few hl256;rw[<-h5,pks_len] at hfew;have hmlt:=h3.map.lt;have hcl:=clone_map mb (kvOf L) w h3.map;obtain⟨c0,c1,c2,c3,cz⟩:=h1.cells;have hlt:=h1.lt;obtain⟨ta,tc,rfl,htc,htg⟩:=htv.get;have HTG:=hid htg;have H0:=hid h0;have H1:=hid h1;have H2:=hid h2;have H3:=hid h3;have H5:=hid h5;have H6:=hid h6;have H7:=hid h7;have H8:=hid h8;have HF:=hid hf;have HCL:=hid hcl;have HNL:=hid hnl;clear hcl h0 h1 h2 h3 h4 h5 h6 h7 h8 htv hf htg htc hnl;go_enter Tryz.func53,Tryz.ntmps53;go_wp2_with fail;refine HCL.out.mono ?_;rintro e w1 ⟨rfl,hcm,hb1⟩;have hz1:=hb1.size;have hcl:=hcm.lt;have HCM:=hid hcm;have HB1:=hid hb1;clear hcm hb1 HCL;go_wp2_with fail
 go_loopw [16] (fun i wr=>∃ (k:Nat) (L':List (Nat × Sp.Pk)),k<=ns.length/\i=.int .i64 k/\Sp.removeAll 0 (pks L) (ns.take k)=.inr (pks L')/\L'.Sublist L/\MapAt wr w.heap.size (kvOf L')/\Below w.heap.size w wr) (fun i _=>ns.length+1-(intOf i).toNat)
 case atStart=>exact⟨0,L,Nat.zero_le _,rfl,rfl,List.Sublist.refl _,HCM.out,HB1.out⟩
 case round =>
  obtain⟨k,L',hk,rfl,hrem,hsub,hmap,hbel⟩:=hrel;have HREM:=hid hrem;have HSUB:=hid hsub;have HMAP:=hid hmap;have HBEL:=hid hbel;have hzr:=hbel.size;have hmapl:=hmap.lt;have hapart:L'.Pairwise fun q r=>q.2.name≠r.2.name:=H3.out.2.1.sublist hsub
  have HAP:=hid hapart;clear hrem hsub hmap hapart
  by_cases hklt:k<ns.length
  ·obtain⟨b,off,rfl,hb,hc⟩:=HTG.out k hklt
   have hc':=(hbel.cell (p:=⟨b,off+k,none⟩) hb).trans hc;have htk:ns.take (k+1)=ns.take k ++ [ns[k]]:=List.take_succ_eq_append_getElem hklt;have hsn:=ST.rem_snoc (ns.take k) 0 (pks L) ns[k];rw[<-htk,HREM.out] at hsn;have hlk:(ns.take k).length=k:=by rw[List.length_take];omega
   rw[hlk] at hsn;have htd:ns.take (k+1) ++ ns.drop (k+1)=ns:=List.take_append_drop _ _;have HSN:=hid hsn;have HTD:=hid htd;have hnm:(ns[k]).length<=10000:=HNL.out _ (List.getElem_mem hklt);have hlook:=HMAP.out.look Tryz.underlying140 zero118 ns[k] (by unfold maxLen;omega);have hbW:b<wr.heap.size:=by omega
   clear hc htk hsn hlk htd hbel;generalize hx:ns[k]=n at *;clear hx
   rcases MP.kv_get (L:=L') n with⟨g1,g2⟩|⟨q0,hq0,hqn,g2⟩
   ·rw[g1] at hlook
    have hno:(Sp.names (pks L')).contains n=false:=by
     rw[<-Bool.not_eq_true,ST.names_mem];rintro ⟨q,hq,e⟩;exact g2 q hq e
    have hre:Sp.removed st.L ns=.inl ⟨3,0+k,0,n⟩:=by
     have h9:=HSN.out;simp only[hno] at h9;have:=ST.rem_stop _ (ns.drop (k+1)) 0 (pks L) h9;rw[HTD.out] at this;unfold Sp.removed;rw[<-H5.out,this]
    have e1:st.remove ns=(⟨3,0+k,0,n⟩,st):=by unfold Sp.St.remove;rw[hre]
    have E1:=hid e1;have hfa:=fault_any 3 (k:Int) n wr;have HFA:=hid hfa;clear g1 g2 hno hre e1 hfa;unfold sv at HFA;go_wp2_with fail;refine HFA.out.mono ?_;rintro e w2 ⟨rfl,hF,hb2⟩;have HFT:=hid hF;have HB2:=hid (HBEL.out.trans (hb2.mono hzr));clear hF hb2;go_wp2;go_ret;rw[E1.out];refine⟨_,rfl,.inr ⟨by simp,by simp,_,rfl,?_⟩,Chg.of_below HB2.out,(H0.out.below HB2.out).mono fun k _ hk=>.inl hk⟩
    simpa using HFT.out
   ·rw[g2] at hlook
    have hyes:(Sp.names (pks L')).contains n=true:=ST.names_mem.2 ⟨q0,hq0,hqn⟩;have h9:=HSN.out;simp only[hyes] at h9;have h9':Sp.removeAll 0 (pks L) (ns.take (k+1))=.inr (pks (MP.dropL L' n)):=by rw[ST.pks_drop];exact h9
    have H9:=hid h9';clear hyes h9 h9' g2;go_wp2_with (at_delete;refine wp_map_del _ 140 118 rfl _ _ rfl Tryz.underlying140 w.heap.size (kvOf L') rfl HMAP.out n (by unfold maxLen;omega) rfl ?_;intro w2 hm2 hg2;rw[MP.drop_kv] at hm2);have hb2:=grown_below hg2 (Nat.le_refl w.heap.size) hzr;go_roundw
    case rel=>exact⟨k+1,MP.dropL L' n,hklt,by go_num,H9.out,(List.filter_sublist).trans HSUB.out,hm2,HBEL.out.trans hb2⟩
    case measure=>simp[intOf];omega
  ·obtain rfl:k=ns.length:=by omega
   have hrem:=HREM.out;rw[List.take_length] at hrem;have hset:SetOn S wr w.heap.size L':=SetOn.of_map HMAP.out fun q hq=>⟨(H3.out.2.2 q (HSUB.out.subset hq)).1.keep fun x hx=>hbel.block x (H8.out x (.inl hx)).1,(H3.out.2.2 q (HSUB.out.subset hq)).2⟩
   have hln:=HSUB.out.length_le;have hpsub:(pks L').Sublist (pks L):=HSUB.out.map _;have hne:∀ p∈pks L',p.name≠[]:=fun p hp=>V9.names_ne HF.out.ok.set.good p (by rw[<-H5.out];exact hpsub.subset hp)
   have hlk:=lacking_any w.heap.size L' wr (hset.mono fun x hx=>by have:=(H8.out x (.inl hx)).1;omega) (by omega) hne;have HLK:=hid hlk;have HSET:=hid hset;have HRM:=hid hrem;clear hlk hset hrem hne hpsub hbel;go_wp2_with fail;refine HLK.out.mono ?_;rintro e w2 ⟨rfl,hb2⟩;have hz2:=hb2.size;have hB2:=HBEL.out.trans (hb2.mono hzr);have HB2:=hid hB2
   cases hlack:Sp.lacking (pks L') with
   | cons c r =>
    have hre:Sp.removed st.L ns=.inl ⟨4,0,0,c :: r⟩:=by unfold Sp.removed;rw[<-H5.out,HRM.out];simp only;rw[hlack];rfl
    have e1:st.remove ns=(⟨4,0,0,c :: r⟩,st):=by unfold Sp.St.remove;rw[hre]
    have E1:=hid e1;have hfa:=fault_any 4 0 (c :: r) w2;have HFA:=hid hfa;clear hre e1 hfa hb2 hB2 hlack;unfold sv at HFA;unfold sv;go_wp2_with fail;refine HFA.out.mono ?_;rintro e w3 ⟨rfl,hF,hb3⟩;have HFT:=hid hF;have HB3:=hid (HB2.out.trans (hb3.mono (by omega)));clear hF hb3;go_wp2;go_ret;rw[E1.out];exact⟨_,rfl,.inr ⟨by simp,by simp,_,rfl,HFT.out⟩,Chg.of_below HB3.out,(H0.out.below HB3.out).mono fun k _ hk=>.inl hk⟩
   | nil =>
    have hre:Sp.removed st.L ns=.inr (pks L'):=by unfold Sp.removed;rw[<-H5.out,HRM.out];simp only;rw[hlack];rfl
    obtain⟨hok,_⟩:=V9.removed_ok HF.out.ok hre;have hnOD:∀ x,w.heap.size<=x->¬OD x/\x≠s:=fun x hx=>⟨fun hy=>by have:=(H7.out x hy).2.2;omega,by omega⟩
    have hset2:SetOn S w2 w.heap.size L':=HSET.out.keep (hb2.block _ hmapl) fun x hx=>hb2.block x (by have:=(H8.out x (.inl hx)).1;omega)
    have hbc:=become_any (O:=OD) (S:=S) (S2:=S) (L2:=L') (H1.out.keep (hB2.block s hlt)) (H2.out.below hB2) (fun hy=>(H7.out s hy).2.1 rfl)
     (H3.out.keep (w':=w2) (hB2.block mb hmlt) fun x hx=>hB2.block x (H8.out x (.inl hx)).1) (fun x hx=>by have:=(H8.out x (.inl hx)).1;omega)
     hset2 (fun x hx=>⟨by have:=(H8.out x (.inl hx)).1;omega,(H8.out x (.inl hx)).2.2⟩) (hnOD _ (Nat.le_refl _)) hok.set (V9.paths_nodup hok) HF.out.big HF.out.last HF.out.late (by omega)
     (fun he=>HSUB.out.eq_of_length he)
    have HBC:=hid hbc;have HRE:=hid hre;have HSET2:=hid hset2;have hS2:∀ x,(S x\/x=w.heap.size)->S x\/w.heap.size<=x:=fun x hx=>hx.imp id fun e=>by omega
    have hS2l:∀ x,(S x\/x=w.heap.size)->x<w2.heap.size:=fun x hx=>by
     rcases hx with hx|hx
     ·have:=(H8.out x (.inl hx)).1;omega
     ·omega
    have HS2:=hid hS2;have HS2L:=hid hS2l;clear hbc hre hset2 hnOD hok hb2 hB2 hlack hS2 hS2l;unfold sv;go_wp2_with fail;refine HBC.out.mono ?_;rintro e w3 (⟨hr,b,rfl,hge2,hFa,hb3⟩|⟨hr,rfl,hch,ob2,O2,hob,hobl,hobn,hO2,hst,hdk,hmap⟩)
    ·have e1:st.remove ns=(⟨8,0,0,[]⟩,st):=by unfold Sp.St.remove;rw[HRE.out];simp only;rw[if_pos hr]
     have E1:=hid e1;have HFA:=hid hFa;have HB3:=hid (HB2.out.trans (hb3.mono (by omega)));clear e1 hFa hb3;go_wp2;go_ret;rw[E1.out];exact⟨_,rfl,.inr ⟨by simp,by simp,b,rfl,HFA.out⟩,Chg.of_below HB3.out,(H0.out.below HB3.out).mono fun k _ hk=>.inl hk⟩
    ·have e1:st.remove ns=(Sp.okF,st.become (pks L')):=by unfold Sp.St.remove;rw[HRE.out];simp only;rw[if_neg (by omega)]
     have E1:=hid e1;have hfin:=sto_become HB2.out H5.out H1.out H6.out H7.out H8.out HSET2.out HS2.out HS2L.out hch hob hobl hobn hO2 hst hdk hmap;have HFIN:=hid hfin;clear e1 hfin hch hO2 hst hdk hmap;go_wp2;go_ret;rw[E1.out];exact⟨_,rfl,.inl ⟨rfl,rfl⟩,HFIN.out⟩
end
section
open Go.RowKit Go.Maps
namespace ST
def loadK(s:List Sp.Str)(last:Nat):Nat->Sp.Str × Nat
 | 0=>([],last)
 | k+1=>Sp.loadOne s (loadK s last k) k
theorem load_eq(s:List Sp.Str)(last:Nat):Sp.load s last=loadK s last 2:=rfl
def areaK(s:List Sp.Str)(number k:Nat):Sp.Str:=((List.range k).map fun i=>s.getD (Sp.areaFrom s.length number+i) []).flatten
theorem areaK_all(s:List Sp.Str)(number:Nat):areaK s number (Sp.areaN s.length)=Sp.areaB s number:=rfl
theorem areaK_snoc(s:List Sp.Str)(number k:Nat):areaK s number (k+1)=areaK s number k ++ s.getD (Sp.areaFrom s.length number+k) []:=by
 unfold areaK;rw[List.range_succ,List.map_append,List.flatten_append];simp
theorem sec_len{s:List Sp.Str}(h:∀ x∈s,x.length=64)(k:Nat)(hk:k<s.length):(s.getD k []).length=64:=by
 rw[List.getD_eq_getElem?_getD,List.getElem?_eq_getElem hk];exact h _ (List.getElem_mem hk)
theorem areaK_len{s:List Sp.Str}(h:∀ x∈s,x.length=64)(hS:4<=s.length)(number:Nat):∀ k,k<=Sp.areaN s.length->(areaK s number k).length=64*k
 | 0,_=>rfl
 | k+1,hk=>by
  rw[areaK_snoc,List.length_append,areaK_len h hS number k (by omega),sec_len h _ (V6.area_in s.length number k hS (by omega)).2];omega
theorem load_lt(s:List Sp.Str)(last:Nat)(hl:last<18446744073709551616):∀ k,(loadK s last k).2<18446744073709551616
 | 0=>hl
 | k+1=>by
  have ih:=load_lt s last hl k;unfold loadK Sp.loadOne
  split
  ·have h8:((s.getD k []).take 8).length<=8:=by rw[List.length_take];omega
   have:=DS.num8_lt ((s.getD k []).take 8);have h2:(256:Nat) ^ ((s.getD k []).take 8).length<=256 ^ 8:=Nat.pow_le_pow_right (by decide) h8
   show Sp.num8 _<_
   exact Nat.lt_of_lt_of_le this h2
  ·exact ih
theorem head_lt(b:Sp.Str):(Sp.headOf b).number<18446744073709551616/\(Sp.headOf b).size<18446744073709551616/\(Sp.headOf b).sum<18446744073709551616:=by
 have key:∀ l:Sp.Str,l.length<=8->Sp.num8 l<18446744073709551616:=fun l h=>Nat.lt_of_lt_of_le (DS.num8_lt l) (Nat.pow_le_pow_right (n:=256) (by decide) h)
 exact⟨key _ (by rw[List.length_take];omega),key _ (by rw[List.length_take];omega),key _ (by rw[List.length_take];omega)⟩
end ST
theorem BytesOn.nil(S:Nat->Prop)(w:World):BytesOn S w (.slice none 0 0) []:=SlOn.nil S w 1
theorem load_any{O:Nat->Prop}{w:World}{s D last:Nat}{mv ov:Value}{d:Sp.Dk}(hs:StBlk w s D last mv ov)(hd:DkE O w D d)(hO:¬O s)(hS:16<=d.seen.length)(hl:last<18446744073709551616):
  Calls Tryz.prog 166 #[.pointer (some ⟨s,0,none⟩)] w fun e w'=>∃ v,e=.returned v/\Chg (·=s) w w'/\StBlk w' s D (Sp.load d.seen last).2 mv ov/\BytesOn (fun x=>w.heap.size<=x/\x<w'.heap.size) w' v (Sp.load d.seen last).1:=by
 have m0:=Tryz.mRead;have hlen:=hd.lens;have HSEC:=hid hd.secs;have HD:=hid (fun (W:World) (hW:Chg (·=s) w W)=>hd.keep (fun k hk hl=>hW.block k hl (by rintro rfl;exact hO hk)) hW.size);have HS:=hid hs;have HL:=hid hl;have hslt:=hs.lt;clear hd hs hO hl;go_enter Tryz.func166,Tryz.ntmps166;go_wp2
 go_loopw [3,11] (fun best i wr=>∃ k:Nat,k<=2/\i=.int .i64 k/\Chg (·=s) w wr/\StBlk wr s D (ST.loadK d.seen last k).2 mv ov/\BytesOn (fun x=>w.heap.size<=x/\x<wr.heap.size) wr best (ST.loadK d.seen last k).1) (fun _ i _=>3-(intOf i).toNat)
 case atStart=>exact⟨0,by omega,rfl,Chg.refl _ _,HS.out,BytesOn.nil _ _⟩
 case round =>
  obtain⟨k,hk,rfl,hch,hst,hby⟩:=hrel
  by_cases h:k<2
  ·have hdr:=HD.out wr hch
   have HST:=hid hst;have HCH:=hid hch;have HBY:=hid hby;obtain⟨c0,c1,c2,c3,cz⟩:=hst.cells;have hltw:=hst.lt;unfold dptr at c0;have hkS:k<d.seen.length:=by omega
   have HRD:=hid (hdr.read k hkS);have h64:=ST.sec_len HSEC.out k hkS;obtain⟨hd,hhd⟩:∃ hd,hd=Sp.headOf (d.seen.getD k []):=⟨_,rfl⟩
   have hlt3:=ST.head_lt (d.seen.getD k []);have hone:ST.loadK d.seen last (k+1)=Sp.loadOne d.seen (ST.loadK d.seen last k) k:=rfl;unfold Sp.loadOne at hone;rw[<-hhd] at hlt3 hone;have HH:=hid (fun (W:World) (v:Value) (S:Nat->Prop) (hv:BytesOn S W v (d.seen.getD k [])) (hS:∀ x,S x->x<W.heap.size)=>by have:=headOf_any v _ W hv hS h64;rw[<-hhd] at this;exact this);have hlk:=ST.load_lt d.seen last HL.out k;obtain⟨acc,hacc⟩:∃ acc,acc=ST.loadK d.seen last k:=⟨_,rfl⟩
   rw[<-hacc] at hone hlk HST HBY c1;have HARE:=hid (fun (W:World) (hW:Below wr.heap.size wr W)=>area_any (HST.out.keep (hW.block s hltw)) (hdr.below hW) hd.number hlt3.1);obtain⟨num,sz,sm,ok⟩:=hd;obtain⟨ab,al⟩:=acc;simp only at hlt3 hone hlk c1 HARE HH;obtain⟨ln1,ln2,ln3⟩:=hlt3;have HHD:=hid hhd;have HONE:=hid hone;have HACC:=hid hacc;have HL1:=hid ln1;have HL2:=hid ln2;have HL3:=hid ln3;have HLK:=hid hlk;have HDR:=hid hdr;clear hst hch hby hdr h64 hhd hone hacc ln1 ln2 ln3 hlk;go_wp2_with fail;refine HRD.out.mono ?_;rintro e w1 ⟨g,rfl,hb1,hbytes⟩;have HH1:=hid (HH.out _ _ _ hbytes fun x hx=>hx.2);clear hbytes;go_wp2_with fail;refine HH1.out.mono ?_;rintro e w2 ⟨rfl,hb2⟩;have hb12:Below wr.heap.size wr w2:=hb1.trans (hb2.mono hb1.size);have hbA:∀ o,Below wr.heap.size wr (w2.alloc o):=fun o=>hb12.trans (((Below.refl _ _).alloc (Nat.le_refl _) o).mono hb12.size)
   have HBA:=hid hbA;clear hbA;go_wp2_with fail;refine(HARE.out _ (HBA.out _)).mono ?_;rintro e w3 ⟨rfl,rfl⟩;go_wp2_with fail;have k0:(w2.alloc (.cells #[.int .u64 (num:Int),.int .u64 (sz:Int),.int .u64 (sm:Int)] 309)).cell? ⟨w2.heap.size,0,none⟩=some (.int .u64 (num:Int)):=by rw[World.cell?_alloc_at _ _ _ _ rfl];rfl
   have k1:(w2.alloc (.cells #[.int .u64 (num:Int),.int .u64 (sz:Int),.int .u64 (sm:Int)] 309)).cell? ⟨w2.heap.size,1,none⟩=some (.int .u64 (sz:Int)):=by rw[World.cell?_alloc_at _ _ _ _ rfl];rfl
   have k2:(w2.alloc (.cells #[.int .u64 (num:Int),.int .u64 (sz:Int),.int .u64 (sm:Int)] 309)).cell? ⟨w2.heap.size,2,none⟩=some (.int .u64 (sm:Int)):=by rw[World.cell?_alloc_at _ _ _ _ rfl];rfl
   have hb0:=HBA.out (.cells #[.int .u64 (num:Int),.int .u64 (sz:Int),.int .u64 (sm:Int)] 309);have hltA:w2.heap.size<(w2.alloc (.cells #[.int .u64 (num:Int),.int .u64 (sz:Int),.int .u64 (sm:Int)] 309)).heap.size:=by simp
   have hltR:wr.heap.size<=w2.heap.size:=hb12.size;generalize (w2.alloc (.cells #[.int .u64 (num:Int),.int .u64 (sz:Int),.int .u64 (sm:Int)] 309))=x0 at *;generalize w2.heap.size=H at *;have s1:=((bcell hb0).1 s 1 hltw).trans c1;have s0:=((bcell hb0).1 s 0 hltw).trans c0;have hx0:=hb0.size;obtain⟨an,han⟩:∃ an,an=Sp.areaN d.seen.length:=⟨_,rfl⟩
   have han1:7<=an/\an<=127:=by rw[han];unfold Sp.areaN;omega
   rw[<-han];have hcv:IntKind.u64.wrap ((an:Int)*64)=(an:Int)*64:=by
    have:=DS.wrap64 (an*64) (by omega);rw[show((an*64:Nat):Int)=(an:Int)*64 from by omega] at this;exact this
   have HAN:=hid han;have HCV:=hid hcv;clear han hcv hb2 hb1 HH1 HH hb12 c0 c1 c2 c3;have HB0:=hid hb0;clear hb0;have HEND:=hid (fun (W:World) (hW:Below wr.heap.size wr W)=>(⟨HCH.out.trans (Chg.of_below hW),HST.out.keep (hW.block s hltw),HBY.out.keep (fun x hx=>hW.block x hx.2) fun x hx=>⟨hx.1,Nat.lt_of_lt_of_le hx.2 hW.size⟩⟩:Chg (·=s) w W/\StBlk W s D al mv ov/\BytesOn (fun x=>w.heap.size<=x/\x<W.heap.size) W u3 ab))
   cases ok with
   | false =>
    have HN:=hid (show ST.loadK d.seen last (k+1)=(ab,al) from HONE.out);go_quiet (fail);go_wp2_with fail
    case roundEnd =>
     obtain⟨e1,e2,e3⟩:=HEND.out _ (HB0.out.trans (below_drawn x0 nq |>.mono hx0));exact⟨⟨k+1,h,by go_num,e1,by rw[HN.out];exact e2,by rw[HN.out];exact e3⟩,by simp[intOf];omega⟩
   | true =>
    by_cases h1:num<=al
    ·have HN:=hid (show ST.loadK d.seen last (k+1)=(ab,al) from HONE.out.trans (by rw[decide_eq_false (show ¬al<num by omega)];rfl))
     have h1d:decide ((num:Int)<=(al:Int))=true:=decide_eq_true (by omega);go_quiet (fail);go_wp2_with fail
     case roundEnd =>
      obtain⟨e1,e2,e3⟩:=HEND.out _ (HB0.out.trans (below_drawn x0 nq |>.mono hx0));exact⟨⟨k+1,h,by go_num,e1,by rw[HN.out];exact e2,by rw[HN.out];exact e3⟩,by simp[intOf];omega⟩
    ·have h1d:decide ((num:Int)<=(al:Int))=false:=decide_eq_false (by omega)
     by_cases h2:an*64<sz
     ·have HN:=hid (show ST.loadK d.seen last (k+1)=(ab,al) from HONE.out.trans (by rw[<-HAN.out,decide_eq_false (show ¬sz<=an*64 by omega),Bool.and_false,Bool.false_and];rfl))
      have h2d:decide ((an:Int)*64<(sz:Int))=true:=decide_eq_true (by omega);have hcv:=HCV.out;go_quiet (fail);go_wp2_with fail
      case roundEnd =>
       obtain⟨e1,e2,e3⟩:=HEND.out _ (HB0.out.trans (below_drawn x0 nq |>.mono hx0));exact⟨⟨k+1,h,by go_num,e1,by rw[HN.out];exact e2,by rw[HN.out];exact e3⟩,by simp[intOf];omega⟩
     ·have h2d:decide ((an:Int)*64<(sz:Int))=false:=decide_eq_false (by omega)
      have hcv:=HCV.out;go_quiet (fail);go_wp2_with fail;obtain⟨x1,hx1⟩:∃ x1,x1=x0.drewN nq:=⟨_,rfl⟩
      rw[<-hx1];have hb1:Below wr.heap.size wr x1:=by rw[hx1];exact HB0.out.trans (below_drawn x0 nq |>.mono hx0)
      have hx1s:H<x1.heap.size:=by rw[hx1];exact hltA
      have hx1k:∀ o v,x0.cell? ⟨H,o,none⟩=some v->x1.cell? ⟨H,o,none⟩=some v:=fun o v hv=>by rw[hx1];simpa using hv
      have j0:=hx1k 0 _ k0;have j1:=hx1k 1 _ k1;have j2:=hx1k 2 _ k2;have HB1:=hid hb1;obtain⟨frm,hfrm⟩:∃ frm,frm=Sp.areaFrom d.seen.length num:=⟨_,rfl⟩
      rw[<-hfrm];have hfr:∀ j,j<an->2<=frm+j/\frm+j<d.seen.length:=fun j hj=>by rw[hfrm];exact V6.area_in _ _ _ (by omega) (by rw[<-HAN.out];exact hj)
      have HFR:=hid hfr;have HFRM:=hid hfrm;clear hx1 hb1 hx1k k0 k1 k2 hfr hfrm s0 s1 hltA hx0 hcv h1d h2d;clear HB0 x0;obtain⟨wo,rfl⟩:∃ wo:World,wo=wr:=⟨_,rfl⟩
      go_loopw [9,51] (fun bv i wi=>∃ j:Nat,j<=an/\i=.int .i64 j/\wi.ownsRow x1.heap.size 5 1 bv (ST.areaK d.seen num j).length (bvs (ST.areaK d.seen num j))/\Below x1.heap.size x1 wi) (fun _ i _=>an+1-(intOf i).toNat)
      case atStart=>exact⟨0,Nat.zero_le _,rfl,World.ownsRow_nil _ _ _ _,Below.refl _ _⟩
      case round =>
       obtain⟨j,hj,rfl,hrow,hbi⟩:=hrel;obtain⟨i0,hi0,hz0,hz1,hz2⟩:=info_parts info5;have HI0:=hid hi0;have HZ0:=hid hz0;have HZ1:=hid hz1;have HZ2:=hid hz2;clear hi0 hz0 hz1 hz2;have HROW:=hid hrow;have hwi:=hbi.size;have hbo:Below wo.heap.size wo wr:=HB1.out.trans (hbi.mono HB1.out.size);have hos:=HB1.out.size;obtain⟨ra,rc,rfl⟩:=W3.row_slice hrow;clear hrow
       by_cases hlt2:j<an
       ·have hcs:=((bcell hbo).1 s 0 hltw).trans (HST.out.cells).1
        unfold dptr at hcs;obtain⟨hf2,hf3⟩:=HFR.out j hlt2;have hrd2:=(HDR.out.below hbo).read (frm+j) hf3;rw[Int.natCast_add] at hrd2;have HRD2:=hid hrd2;have hsl:s<wr.heap.size:=by omega
        have h642:=ST.sec_len HSEC.out (frm+j) hf3;have hsn:=ST.areaK_snoc d.seen num j;rw[<-HFRM.out] at hsn;have hal:=ST.areaK_len HSEC.out (by omega) num j (by rw[<-HAN.out];exact hj);have HSN:=hid hsn;have H642:=hid h642;have HAL:=hid hal;have hal2:=Nat.le_of_eq hal;clear hsn h642 hal hrd2;go_wp2_with fail;refine HRD2.out.mono ?_;rintro e w3 ⟨g3,rfl,hb3,hby3⟩;obtain⟨bb,off,e1,_,hsrc⟩:=hby3.src (by have:=H642.out;omega);injection e1 with e1
        injection e1 with e1 e2 _
        subst e1 e2;have hsr:∀ i u,(bvs (d.seen.getD (frm+j) []))[i]? = some u->w3.cell? ((⟨g3,0,none⟩:Addr).add i)=some u:=fun i u hi=>by rw[DK.addr_add];exact hsrc i u hi
        have hlen3:(bvs (d.seen.getD (frm+j) [])).length=64*1:=by rw[bvs_len,H642.out]
        have hown3:=W3.row_keep HROW.out hb3;have HOWN3:=hid hown3;have HSR:=hid hsr;have HL3:=hid hlen3;have hb4:Below x1.heap.size x1 w3:=hbi.trans (hb3.mono hwi);have hs4:=hb4.size;clear hby3 hsrc hsr hlen3 hown3;go_wp2_with (at_builtin;refine wpList_append_own _ rfl _ _ 136 rfl x1.heap.size 5 i0 (.int .u8 0) 1 1 Tryz.underlying136 HI0.out HZ0.out HZ1.out HZ2.out rfl (by decide) _ _ _ rfl HOWN3.out ⟨g3,0,none⟩ 64 64 _ rfl HL3.out HSR.out (DK.one_cell _) (by unfold maxLen;omega) (by omega) hs4 ?_;intro v' w5 hown5 hg5 _);have hb5:=below_of_grown hb4 hs4 HOWN3.out hg5;go_roundw
        case rel=>exact⟨j+1,hlt2,by go_num,by rw[HSN.out,List.length_append,H642.out];unfold bvs;rw[List.map_append];exact hown5,hb5⟩
        case measure=>simp[intOf];omega
       ·obtain rfl:j=an:=by omega
        have c0:=((bcell hbi).1 H 0 hx1s).trans j0;have c1:=((bcell hbi).1 H 1 hx1s).trans j1;have c2:=((bcell hbi).1 H 2 hx1s).trans j2;have hal:=ST.areaK_len HSEC.out (by omega) num j (by rw[<-HAN.out];exact Nat.le_refl _);have hB:=BytesOn.of_row HROW.out;obtain⟨a',cap',he,hcap,_⟩:=hB.get;injection he with he1 he2 he3
        subst he1 he3;have hszc:sz<=rc:=by omega
        have HAL:=hid hal;have HB:=hid hB;clear hal hB he2 hcap j0 j1 j2;go_wp2_with fail;obtain⟨bb,off,e1,_,_⟩:=BytesOn.src HB.out (by have:=HAL.out;omega);subst e1;have hcutb:=HB.out.cut 0 sz rc (by omega) (by have:=HAL.out;omega) (by omega);simp only[Nat.sub_zero,Nat.add_zero,List.drop_zero] at hcutb;have HCB:=hid hcutb;have HSUM:=hid (fun (n:Nat)=>sum_any _ _ (wr.drewN n) (HCB.out.keep (S':=fun x=>x<wr.heap.size/\x1.heap.size<=x/\Value.ownBlock (.slice (some ⟨bb,off,none⟩) (ST.areaK d.seen num j).length rc)=some x) (fun _ _=>by simp) fun _ h=>h) (by rw[List.length_take];omega));clear hcutb;have hone:=HONE.out;rw[<-ST.areaK_all,<-HAN.out,decide_eq_true (show al<num by omega),decide_eq_true (show sz<=j*64 by omega)] at hone;have HO2:=hid hone;have hbe:=DS.beq_nat (Sp.sum ((ST.areaK d.seen num j).take sz)) sm;have hrl:x1.heap.size<=wr.heap.size:=hwi;clear hone
        by_cases hsm:Sp.sum ((ST.areaK d.seen num j).take sz)=sm
        ·rw[decide_eq_true hsm] at hbe
         have HY:=hid (show ST.loadK d.seen last (k+1)=((ST.areaK d.seen num j).take sz,num) from HO2.out.trans (by rw[decide_eq_true hsm];rfl));have hst:=HST.out.keep (hbo.block s hltw);obtain⟨r0,r1,r2,r3,rz⟩:=hst.cells;have HSTR:=hid hst;have hsl:s<wr.heap.size:=by omega
         clear hsm hst;go_quiet (first|(go_at_call 215;exact(HSUM.out _).mono fun e w' h=>⟨h.1,_,h.2⟩));go_wp2_with fail;go_region;go_wp2_with fail
         case roundEnd =>
          have hst2:=(HSTR.out.keep (w':=wr.drewN (nq+1)) rfl).set1 num;have hz0:=HCH.out.size;have hc2:Chg (·=s) w ((wr.drewN (nq+1)).setCell ⟨s,1,none⟩ (.int .u64 (num:Int))):=(HCH.out.trans (Chg.of_below (hbo.trans (below_drawn wr (nq+1) |>.mono (by omega))))).setCell (p:=⟨s,1,none⟩) rfl _;refine⟨⟨k+1,h,by go_num,hc2,by rw[HY.out];exact hst2,?_⟩,by simp[intOf];omega⟩;rw[HY.out];exact HCB.out.keep (fun x hx=>Below.heap_setCell _ _ _ _ (show x≠s by have:=hx.2.1;omega)) fun x hx=>⟨by have:=hx.2.1;omega,by have:=hx.1;simpa[World.setCell] using this⟩
        ·rw[decide_eq_false hsm] at hbe
         have HN:=hid (show ST.loadK d.seen last (k+1)=(ab,al) from HO2.out.trans (by rw[decide_eq_false hsm];rfl));clear hsm;go_quiet (first|(go_at_call 215;exact(HSUM.out _).mono fun e w' h=>⟨h.1,_,h.2⟩));go_wp2_with fail
         case roundEnd =>
          obtain⟨e1,e2,e3⟩:=HEND.out _ (hbo.trans (below_drawn wr nq |>.mono (by omega)));exact⟨⟨k+1,h,by go_num,e1,by rw[HN.out];exact e2,by rw[HN.out];exact e3⟩,by simp[intOf];omega⟩
  ·obtain rfl:k=2:=by omega
   have hby2:=hby;clear hby;go_wp2;go_ret;exact⟨_,rfl,hch,hst,hby2⟩
end
section
open Go.RowKit Go.Maps
theorem conv_bytes{S:Nat->Prop}{w:World}{v:Value}{b:Sp.Str}(h:BytesOn S w v b):(convert 136 9 v).run Tryz.prog w=.ok (.string ⟨b.toArray⟩) w:=by
 obtain⟨a,cap,rfl,hcap,hget⟩:=h.get
 cases a with
 | none =>
  have:b=[]:=by
   cases b with
   | nil=>rfl
   | cons c r=>obtain⟨_,_,e,_⟩:=hget 0 (by simp);cases e
  subst this;exact run_convert_bytes_nil w 136 5 Tryz.underlying136 Tryz.underlying5 _ _ 9 Tryz.underlying9
 | some ad =>
  have hl:(loadCells ad b.length).run Tryz.prog w=.ok ((b.map fun c=>(c.toNat:Int)).map (Value.int .u8)).toArray w:=by
   have:=run_loadCells_list (P:=Tryz.prog) w ad ((b.map fun c=>(c.toNat:Int)).map (Value.int .u8)) (fun j v hj=>by
    rw[List.getElem?_map,List.getElem?_map] at hj;have hjl:j<b.length:=by
     rcases Nat.lt_or_ge j b.length with h|h
     ·exact h
     ·rw[List.getElem?_eq_none h] at hj;cases hj
    rw[List.getElem?_eq_getElem hjl] at hj;injection hj with hj
    obtain⟨bb,off,e,_,hc⟩:=hget j hjl;injection e with e
    rw[e,DK.addr_add,hc,<-hj])
   simpa using this
  rw[run_convert_bytes_string w 136 9 5 _ _ cap Tryz.underlying136 Tryz.underlying5 Tryz.underlying9,run_bytesToString w ad _ cap _ hl,foldl_push_bytes]
  congr 2
  simp[ByteArray.empty,ByteArray.emptyWithCapacity,List.map_map,Function.comp_def]
  rfl
namespace ST
theorem load_len{s:List Sp.Str}(h:∀ x∈s,x.length=64)(hS:4<=s.length)(last:Nat):∀ k,(loadK s last k).1.length<=Sp.areaN s.length*64
 | 0=>Nat.zero_le _
 | k+1=>by
  have ih:=load_len h hS last k;unfold loadK Sp.loadOne
  split
  ·show((Sp.areaB s _).take _).length<=_
   rw[List.length_take,<-areaK_all,areaK_len h hS _ _ (Nat.le_refl _)];omega
  ·exact ih
theorem packOf_inl{t:Sp.Str}{n:Nat}(h:Sp.parse t=.inl n):Sp.packOf t=none:=by unfold Sp.packOf;rw[h]
theorem packOf_inr{t:Sp.Str}{p:Sp.Pk}(h:Sp.parse t=.inr p):Sp.packOf t=some p:=by unfold Sp.packOf;rw[h]
theorem new_name{T:List Sp.Str}{k:Nat}(hk:k<T.length){p:Sp.Pk}(hp:Sp.packOf T[k]=some p)(ha:(T.filterMap Sp.packOf).Pairwise fun p q=>p.name≠q.name):∀ q∈(T.take k).filterMap Sp.packOf,q.name≠p.name:=by
 have e:T=T.take k ++ (T[k] :: T.drop (k+1)):=by rw[<-List.drop_eq_getElem_cons hk,List.take_append_drop]
 rw[e,List.filterMap_append,List.filterMap_cons_some hp,List.pairwise_append] at ha;exact fun q hq=>ha.2.2 q hq p (by simp)
end ST
theorem loaded_any{G:Nat}{O:Nat->Prop}{w:World}{s D last:Nat}{mv ov:Value}{d:Sp.Dk}(hG:Glob G w)(hGs:G<=s)(hs:StBlk w s D last mv ov)(hd:DkE O w D d)(hO:¬O s)(hS:16<=d.seen.length)(hl:last<18446744073709551616)
  (hset:(Sp.loaded (Sp.load d.seen last).1).Pairwise fun p q=>p.name≠q.name):
  Calls Tryz.prog 122 #[.pointer (some ⟨s,0,none⟩)] w fun e w'=>∃ mb L,e=.returned (.map (some mb))/\Chg (·=s) w w'/\StBlk w' s D (Sp.load d.seen last).2 mv ov/\pks L=Sp.loaded (Sp.load d.seen last).1/\w.heap.size<=mb /\
   SetOn (fun x=>w.heap.size<=x/\x<w'.heap.size) w' mb L:=by
 have hmm:=@run_makeMap Tryz.prog;have hslt:=hs.lt;have hGz:=hG.size;have hA:Below w.heap.size w (w.alloc (.map #[] 0)):=(Below.refl _ _).alloc (Nat.le_refl _) _;have hlen:(Sp.load d.seen last).1.length<=8128:=by
  have h1:=ST.load_len hd.secs (by omega) last 2;rw[<-ST.load_eq] at h1;have:=hd.lens;unfold Sp.areaN at h1;omega
 have hld:=load_any (hs.keep (hA.block s hslt)) (hd.below hA) hO hS hl;have HLD:=hid hld;have HMK:=hid (MapAt.made w);have HG:=hid (hG.keep hA);have HSET:=hid hset;generalize (Sp.load d.seen last).1=text at *;generalize (Sp.load d.seen last).2=num at *;have HA:=hid hA;have HSZ:=hid (show(w.alloc (.map #[] 0)).heap.size=w.heap.size+1 by simp);clear hs hd hG hset hld hl hO hS hA;go_enter Tryz.func122,Tryz.ntmps122;go_wp2_with fail;generalize w.alloc (.map #[] 0)=w1 at *;refine HLD.out.mono ?_;rintro e w2 ⟨v,rfl,hch,hst,hby⟩;have hcv:=conv_bytes hby;have hG2:Glob G w2:=HG.out.below (hch.below HG.out.size (by rintro x rfl;exact hGs)) (Nat.le_refl _);have hz1:=HSZ.out;have hz2:=hch.size;have hM2:MapAt w2 w.heap.size []:=HMK.out.block (hch.block _ (by omega) (by omega));have hsp:=splitS_at ⟨text.toArray⟩ ⟨#[10,10]⟩ w2 hG2 (by show text.toArray.size<_;simp;omega) (by decide);have e1:bl ⟨text.toArray⟩=text:=bl_mk _;have e2:bl ⟨#[10,10]⟩=[10,10]:=rfl;rw[e1,e2] at hsp;obtain⟨T,hT⟩:∃ T,T=Lib.split text [10,10]:=⟨_,rfl⟩
 rw[<-hT] at hsp;have hTl:T.length<=8129:=by have:=(Sp.split_len [10,10] (by decide) _ text (Nat.le_refl _)).1;rw[hT];omega
 have HSP:=hid hsp;have HT:=hid hT;have HCH:=hid hch;have HST:=hid hst;have HG2:=hid hG2;have HM2:=hid hM2;clear hsp hT hch hst hby hG2 hM2 HG HMK HLD;go_wp2_with fail;refine HSP.out.mono ?_;rintro e w3 ⟨⟨cap,rfl⟩,hcell,hb3,hz3⟩;have hG3:=HG2.out.keep hb3;have hM3:=HM2.out.below hb3 (by omega);have HG3:=hid hG3;have HM3:=hid hM3;have HC:=hid hcell;have HCH3:=hid (HCH.out.trans (Chg.of_below hb3));have HST3:=hid (HST.out.keep (hb3.block s (by omega)));have hz3':w2.heap.size<w3.heap.size:=by omega
 clear hG3 hM3 hcell hb3 hcv;go_wp2_with fail
 go_loopw [14] (fun i wr=>∃ (k:Nat) (L:List (Nat × Sp.Pk)),k<=T.length/\i=.int .i64 k/\pks L=(T.take k).filterMap Sp.packOf/\L.length<=k/\MapAt wr w.heap.size (kvOf L)/\(∀ q∈L,IsPack (fun x=>w3.heap.size<=x/\x<wr.heap.size) wr q.1 q.2/\PkOk q.2)/\Chg (·=w.heap.size) w3 wr) (fun i _=>T.length+1-(intOf i).toNat)
 case atStart=>exact⟨0,[],Nat.zero_le _,rfl,rfl,Nat.le_refl _,HM3.out,fun q hq=>(by cases hq),Chg.refl _ _⟩
 case round =>
  obtain⟨k,L,hk,rfl,hpk,hLk,hmap,hall,hch⟩:=hrel;have HPK:=hid hpk;have HMAP:=hid hmap;have HALL:=hid hall;have HCR:=hid hch;have hzr:=hch.size;clear hpk hmap hall hch
  by_cases hlt:k<T.length
  ·have hc:=(World.cell?_of_block (w:=w3) (a:=⟨w2.heap.size,k,none⟩) (HCR.out.block w2.heap.size (by omega) (show ¬w2.heap.size=w.heap.size by omega))).trans (HC.out k hlt)
   have hGr:Glob G wr:=HG3.out.below (HCR.out.below (B:=G) HG3.out.size (by rintro x rfl;exact hGz)) (Nat.le_refl _);have hpc:=parsed_any ⟨T[k].toArray⟩ wr hGr;rw[bl_mk] at hpc;have HPC:=hid hpc;have htk:T.take (k+1)=T.take k ++ [T[k]]:=List.take_succ_eq_append_getElem hlt;have hfm:(T.take (k+1)).filterMap Sp.packOf=(T.take k).filterMap Sp.packOf ++ [T[k]].filterMap Sp.packOf:=by rw[htk,List.filterMap_append]
   have hnew:=fun p hp=>ST.new_name (p:=p) hlt hp (by rw[HT.out];exact HSET.out)
   have HNEW:=hid hnew;have HFM:=hid hfm;clear hpc htk hfm hnew hGr;generalize hx:T[k]=x at *;clear hx;go_wp2_with fail;refine HPC.out.mono ?_;rintro e w4 ⟨hb4,⟨n,hp,rfl⟩|⟨p,b,hp,rfl,hip,hok⟩⟩
   ·have hno:=ST.packOf_inl hp
    have hfm:=HFM.out;rw[List.filterMap_cons_none hno,List.filterMap_nil,List.append_nil] at hfm;have HF:=hid hfm;have hM4:=HMAP.out.below hb4 HMAP.out.lt;have HM4:=hid hM4;have hz4:=hb4.size;clear hno hfm hM4 hp;go_wp2_with fail
    case roundEnd=>exact⟨⟨k+1,L,hlt,by go_num,by rw[HF.out];exact HPK.out,by omega,HM4.out,fun q hq=>⟨((HALL.out q hq).1.keep fun y hy=>hb4.block y hy.2).mono fun y hy=>⟨hy.1,by omega⟩,(HALL.out q hq).2⟩,HCR.out.trans (Chg.of_below hb4)⟩,by simp[intOf];omega⟩
   ·have hyes:=ST.packOf_inr hp
    have hfm:=HFM.out;rw[List.filterMap_cons_some hyes,List.filterMap_nil] at hfm;have hnew:=HNEW.out p hyes;rw[<-HPK.out] at hnew;have hnw:hasKV (kvOf L) p.name=false:=by
     rw[<-Bool.not_eq_true,MP.has_kv];rintro ⟨q,hq,e⟩;exact hnew q.2 (List.mem_map.2 ⟨q,hq,rfl⟩) e
    have HF:=hid hfm;have HNW:=hid hnw;have hM4:=HMAP.out.below hb4 HMAP.out.lt;have HM4:=hid hM4;have hz4:=hb4.size;have HIP:=hid hip;obtain⟨_,_,_,⟨hS1,hS2⟩,_,_,hc2,_⟩:=hip;have hnl:p.name.length<=maxLen:=by have:=hok.name;unfold maxLen;omega
    have hkl:(kvOf L).length<1000000000:=by unfold kvOf;rw[List.length_map];omega
    clear hfm hnew hnw hM4 hp hyes;unfold sv at hc2;go_wp2_with (at_mapUpdate;refine wp_map_put _ 140 118 rfl _ _ _ rfl Tryz.underlying140 w.heap.size (kvOf L) rfl HM4.out hkl p.name hnl HNW.out rfl (.pointer (some ⟨b,0,none⟩)) rfl ?_;intro w5 hO5 hg5);have hk5:∀ y,y<w4.heap.size->y≠w.heap.size->w5.heap[y]? = w4.heap[y]?:=fun y hy hne=>hg5.block y hy (fun e=>hne (Option.some.inj e))
    have hz5:=hg5.size
    case roundEnd=>exact⟨⟨k+1,L ++ [(b,p)],hlt,by go_num,by rw[HF.out,<-HPK.out];unfold pks;rw[List.map_append];rfl,by rw[List.length_append];simp;omega,by rw[kv_snoc];exact hO5,fun q hq=>by
      rcases List.mem_append.1 hq with hq|hq
      ·exact⟨((HALL.out q hq).1.keep fun y hy=>(hk5 y (by omega) (by omega)).trans (hb4.block y hy.2)).mono fun y hy=>⟨hy.1,by omega⟩,(HALL.out q hq).2⟩
      ·rw[List.mem_singleton] at hq;subst hq
       exact⟨(HIP.out.keep fun y hy=>hk5 y hy.2 (by omega)).mono fun y hy=>⟨by omega,by omega⟩,hok⟩,(HCR.out.trans (Chg.of_below hb4)).grown hg5 fun g hg=>by injection hg with hg;exact .inl hg.symm⟩,by simp[intOf];omega⟩
  ·obtain rfl:k=T.length:=by omega
   go_wp2;go_ret;have hpk:=HPK.out;rw[List.take_length,HT.out] at hpk;refine⟨_,L,rfl,((Chg.of_below HA.out).trans HCH3.out).trans' HCR.out fun y hy=>.inr (by omega),HST3.out.keep (HCR.out.block s (by omega) (by omega)),hpk,Nat.le_refl _,SetOn.of_map HMAP.out fun q hq=>⟨(HALL.out q hq).1.mono fun y hy=>⟨by omega,hy.2⟩,(HALL.out q hq).2⟩⟩
end
section
open Go.RowKit Go.Maps
theorem storeOpen_any{G:Nat}{OD:Nat->Prop}{w:World}{D:Nat}{d:Sp.Dk}(hG:Glob G w)(hd:DkE OD w D d)(hS:16<=d.seen.length)(hok:Sp.Ok (Sp.St.opened d).L)(hfew:(Sp.St.opened d).L.length<100000):
  Calls Tryz.prog 73 #[dptr D] w fun e w'=>∃ s,e=.returned (.tuple #[.pointer (some ⟨s,0,none⟩),.nilIface])/\w.heap.size<=s/\Below w.heap.size w w'/\Sto (fun k=>OD k\/w.heap.size<=k) w' s D (Sp.St.opened d):=by
 have hA:Below w.heap.size w (w.alloc (.cells #[dptr D,.int .u64 ((0:Nat):Int),.map none,.map none] 150)):=(Below.refl _ _).alloc (Nat.le_refl _) _;have hs1:StBlk (w.alloc (.cells #[dptr D,.int .u64 ((0:Nat):Int),.map none,.map none] 150)) w.heap.size D 0 (.map none) (.map none):=heap_alloc_new _ _;have hz1:(w.alloc (.cells #[dptr D,.int .u64 ((0:Nat):Int),.map none,.map none] 150)).heap.size=w.heap.size+1:=by simp
 have hd1:=hd.inside.below hA;have hld:=loaded_any (hG.keep hA) hG.size hs1 hd1 (fun h=>Nat.lt_irrefl _ h.2) hS (by decide) hok.set.apart;have HLD:=hid hld;have HD1:=hid hd1;have HA:=hid hA;have HZ1:=hid hz1;have HOK:=hid hok;have HFEW:=hid hfew;clear hs1 hd1 hld hG hd hA hz1 hok hfew;unfold dptr at HLD HD1 HA HZ1 ⊢;go_enter Tryz.func73,Tryz.ntmps73;go_wp2_with fail;have e0:(Obj.cells #[.iface 90 (.pointer (some ⟨D,0,none⟩)),.int .u64 ((0:Nat):Int),.map none,.map none] 150)=(Obj.cells #[.iface 90 (.pointer (some ⟨D,0,none⟩)),.int .u64 0,.map none,.map none] 150):=rfl;rw[e0] at HLD HD1 HA HZ1;generalize (w.alloc (.cells #[.iface 90 (.pointer (some ⟨D,0,none⟩)),.int .u64 0,.map none,.map none] 150))=w1 at *;refine HLD.out.mono ?_;rintro e w2 ⟨mb,L,rfl,hch,hst,hpk,hmb,hset⟩;have hz1:=HZ1.out;have hz2:=hch.size;have hbw:Below w.heap.size w w2:=HA.out.trans (hch.below (by omega) (by rintro x rfl;exact Nat.le_refl _));have hml:=hset.map.lt;have hLl:L.length<100000:=by have:=HFEW.out;unfold Sp.St.opened at this;simp only at this;rw[<-hpk,pks_len] at this;exact this
 have hnd:(Sp.paths (pks L)).Nodup:=by rw[hpk];exact V9.paths_nodup HOK.out
 have htk:=take_any hst mb L hset (fun x hx=>⟨hx.2,by have:=hx.1;omega⟩) (by omega) hLl hnd;have HTK:=hid htk;have HBW:=hid hbw;have HCH:=hid hch;have HSET:=hid hset;have HPK:=hid hpk;clear htk hbw hch hst hset hnd hpk;go_wp2_with fail;refine HTK.out.mono ?_;rintro e w3 ⟨rfl,hch3,ob,hob,hst3,hmap⟩;have hz3:=hch3.size;have HB3:=hid (HBW.out.trans (hch3.below (B:=w.heap.size) (by omega) (by rintro x rfl;exact Nat.le_refl _)));have HST3:=hid hst3;have HMAP:=hid hmap;have HCH3:=hid hch3;clear hst3 hmap hch3;go_wp2
 go_ret2
 have hne:∀ x,w1.heap.size<=x->x≠w.heap.size:=fun x hx=>by omega
 have hk3:∀ x,w1.heap.size<=x->x<w2.heap.size->w3.heap[x]? = w2.heap[x]?:=fun x hx hl=>HCH3.out.block x hl (hne x hx)
 have hmapl:=HMAP.out.lt;refine⟨w.heap.size,rfl,Nat.le_refl _,HB3.out,mb,ob,_,_,L,HST3.out,(HD1.out.keep (fun k hk hl=>HCH.out.block k hl (show k≠w.heap.size by have:=hk.2;omega)) hz2).keep (fun k hk hl=>HCH3.out.block k hl (show k≠w.heap.size by have:=hk.2;omega)) hz3,HSET.out.keep (hk3 mb hmb hml) fun x hx=>hk3 x hx.1 hx.2,HMAP.out,HPK.out,.inr (Nat.le_refl _),fun k hk=>⟨.inl hk.1,by have:=hk.2;omega,by have:=hk.2;omega⟩,fun k hk=>?_⟩;have hk':w1.heap.size<=k/\k<w3.heap.size:=by
  rcases hk with hx|rfl|rfl
  ·exact⟨hx.1,by have:=hx.2;omega⟩
  ·exact⟨hmb,by omega⟩
  ·exact⟨by omega,hmapl⟩
 exact⟨hk'.2,.inr (by omega),fun hx=>by have:=hx.2;omega,by omega⟩
end
section
open Go.RowKit Go.Maps
def Ses(O:Nat->Prop)(w:World)(x:Nat)(st:Sp.St):Prop:=
 ∃ D s O',w.heap[x]? = some (.cells #[.pointer (some ⟨D,0,none⟩),.pointer (some ⟨s,0,none⟩)] 94 (0,0))/\Sto O' w s D st/\(∀ k,O' k->O k/\k≠x/\k<w.heap.size)/\O x
namespace Ses
variable {O O':Nat->Prop} {w w':World} {x:Nat} {st:Sp.St}
theorem lt(h:Ses O w x st):x<w.heap.size:=by
 obtain⟨D,s,O',h1,_⟩:=h;exact(Array.getElem?_eq_some_iff.1 h1).1
theorem own(h:Ses O w x st):O x:=by
 obtain⟨D,s,O',_,_,_,h4⟩:=h;exact h4
theorem mono(h:Ses O w x st)(hm:∀ k,k<w.heap.size->O k->O' k):Ses O' w x st:=by
 have hl:=h.lt;obtain⟨D,s,O1,h1,h2,h3,h4⟩:=h;exact⟨D,s,O1,h1,h2,fun k hk=>⟨hm k (h3 k hk).2.2 (h3 k hk).1,(h3 k hk).2⟩,hm x hl h4⟩
theorem keep(h:Ses O w x st)(hk:∀ k,O k->k<w.heap.size->w'.heap[k]? = w.heap[k]?)(hs:w.heap.size<=w'.heap.size):Ses O w' x st:=by
 have hl:=h.lt;obtain⟨D,s,O1,h1,h2,h3,h4⟩:=h;exact⟨D,s,O1,(hk x h4 hl).trans h1,h2.keep (fun k hk' hl'=>hk k (h3 k hk').1 hl') hs,fun k hk'=>⟨(h3 k hk').1,(h3 k hk').2.1,by have:=(h3 k hk').2.2;omega⟩,h4⟩
theorem below(h:Ses O w x st)(hb:Below w.heap.size w w'):Ses O w' x st:=h.keep (fun k _ hl=>hb.block k hl) hb.size
theorem cells{D s:Nat}(h:w.heap[x]? = some (.cells #[.pointer (some ⟨D,0,none⟩),.pointer (some ⟨s,0,none⟩)] 94 (0,0))):w.cell? ⟨x,0,none⟩=some (.pointer (some ⟨D,0,none⟩))/\w.cell? ⟨x,1,none⟩=some (.pointer (some ⟨s,0,none⟩)):=by
 exact⟨by rw[cell_of_row _ _ _ _ _ _ h];rfl,by rw[cell_of_row _ _ _ _ _ _ h];rfl⟩
end Ses
def ZB(w:World)(r:Nat):Prop:=w.heap[r]? = some (.cells #[.int .i64 0,.int .i64 0,.int .i64 0,.string ⟨#[]⟩] 23 (0,0))
theorem ZB.cells{w:World}{r:Nat}(h:ZB w r):w.cell? ⟨r,0,none⟩=some (.int .i64 0)/\w.cell? ⟨r,1,none⟩=some (.int .i64 0)/\w.cell? ⟨r,2,none⟩=some (.int .i64 0)/\w.cell? ⟨r,3,none⟩=some (.string ⟨#[]⟩) /\
  w.frozen? ⟨r,0,none⟩=false/\w.frozen? ⟨r,1,none⟩=false/\w.frozen? ⟨r,2,none⟩=false/\w.frozen? ⟨r,3,none⟩=false/\r<w.heap.size:=by
 have h':w.heap[r]? = some (.cells #[.int .i64 0,.int .i64 0,.int .i64 0,.string ⟨#[]⟩] 23 (0,0)):=h;refine⟨?_,?_,?_,?_,?_,?_,?_,?_,(Array.getElem?_eq_some_iff.1 h').1⟩
 ·rw[cell_of_row _ _ _ _ _ _ h'];rfl
 ·rw[cell_of_row _ _ _ _ _ _ h'];rfl
 ·rw[cell_of_row _ _ _ _ _ _ h'];rfl
 ·rw[cell_of_row _ _ _ _ _ _ h'];rfl
 all_goals simp[World.frozen?,h']
def putF(w:World)(r:Nat)(f:Sp.Fault):World:=
 (((w.setCell ⟨r,0,none⟩ (.int .i64 (f.kind:Int))).setCell ⟨r,1,none⟩ (.int .i64 (f.which:Int))).setCell ⟨r,2,none⟩ (.int .i64 (f.line:Int))).setCell ⟨r,3,none⟩ (.string ⟨f.name.toArray⟩)
theorem putF_other(w:World)(r:Nat)(f:Sp.Fault){k:Nat}(hk:k≠r):(putF w r f).heap[k]? = w.heap[k]?:=by
 unfold putF;rw[Below.heap_setCell _ _ _ _ (show k≠r from hk),Below.heap_setCell _ _ _ _ (show k≠r from hk),Below.heap_setCell _ _ _ _ (show k≠r from hk),Below.heap_setCell _ _ _ _ (show k≠r from hk)]
theorem putF_size(w:World)(r:Nat)(f:Sp.Fault):(putF w r f).heap.size=w.heap.size:=by unfold putF;simp[World.setCell]
theorem putF_below(w:World)(r:Nat)(f:Sp.Fault){B:Nat}(hB:B<=r):Below B w (putF w r f):=
 ⟨rfl,rfl,rfl,Nat.le_of_eq (putF_size w r f).symm,fun k hk=>putF_other w r f (by omega)⟩
theorem ses_done{O O1:Nat->Prop}{w w1 w2 w3:World}{x s D:Nat}{st':Sp.St}(f:Sp.Fault)(hA:Below w.heap.size w w1)(hz1:w1.heap.size=w.heap.size+1)(hxl:x<w.heap.size)
  (h1:w1.heap[x]? = some (.cells #[.pointer (some ⟨D,0,none⟩),.pointer (some ⟨s,0,none⟩)] 94 (0,0)))(h3:∀ k,O1 k->O k/\k≠x/\k<w.heap.size)(h4:O x)
  (hch:Chg O1 w1 w2)(hsto:Sto (fun k=>O1 k\/w1.heap.size<=k) w2 s D st')(hb3:Below w2.heap.size w2 w3):
  Chg O w (putF w3 w.heap.size f)/\Ses (fun k=>O k\/w.heap.size<=k) (putF w3 w.heap.size f) x st':=by
 have hz2:=hch.size;have hz3:=hb3.size;have hzp:=putF_size w3 w.heap.size f;have hput:Chg (·=w.heap.size) w3 (putF w3 w.heap.size f):=⟨rfl,rfl,rfl,Nat.le_of_eq hzp.symm,fun i _ hm=>putF_other w3 _ f hm⟩
 refine⟨(((Chg.of_below hA).trans (hch.mono fun k hk=>(h3 k hk).1)).trans (Chg.of_below hb3 |>.mono fun k hk=>hk)).trans' hput fun k hk=>.inr (by omega),?_⟩;refine⟨D,s,fun k=>(O1 k\/w1.heap.size<=k)/\k<w2.heap.size,?_,?_,fun k hk=>⟨?_,?_,by have:=hk.2;omega⟩,.inl h4⟩
 ·exact(putF_other w3 _ f (by omega)).trans ((hb3.block x (by omega)).trans ((hch.block x (by omega) fun hk=>(h3 x hk).2.1 rfl).trans h1))
 ·refine((hsto.mono (O':=fun k=>(O1 k\/w1.heap.size<=k)/\k<w2.heap.size) fun k hl hk=>⟨hk,hl⟩).below hb3).keep (fun k hk _=>putF_other w3 _ f ?_) (Nat.le_of_eq hzp.symm)
  rcases hk.1 with hk'|hk'
  ·have:=(h3 k hk').2.2;omega
  ·omega
 ·rcases hk.1 with hk'|hk'
  ·exact .inl (h3 k hk').1
  ·exact .inr (by omega)
 ·rcases hk.1 with hk'|hk'
  ·exact(h3 k hk').2.1
  ·omega
theorem sesInstall_any{G:Nat}{O:Nat->Prop}{w:World}{x:Nat}{st:Sp.St}(hG:Glob G w)(hE:ErrT w)(hOG:∀ k,O k->G<=k)(h:Ses O w x st)(hf:Fit st)(tv:Value)(ts:List Sp.Str)(htv:StrsAt w tv ts)(hts:ts.length<=9000):
  Calls Tryz.prog 25 #[.pointer (some ⟨x,0,none⟩),tv] w fun e w'=>e=.returned (faultV (st.install ts).1)/\Chg O w w'/\Ses (fun k=>O k\/w.heap.size<=k) w' x (st.install ts).2:=by
 have hxl:=h.lt;obtain⟨D,s,O1,h1,h2,h3,h4⟩:=h;have hA:Below w.heap.size w (w.alloc (.cells #[.int .i64 0,.int .i64 0,.int .i64 0,.string ⟨#[]⟩] 23)):=(Below.refl _ _).alloc (Nat.le_refl _) _;have hz1:(w.alloc (.cells #[.int .i64 0,.int .i64 0,.int .i64 0,.string ⟨#[]⟩] 23)).heap.size=w.heap.size+1:=by simp
 have hzb:ZB (w.alloc (.cells #[.int .i64 0,.int .i64 0,.int .i64 0,.string ⟨#[]⟩] 23)) w.heap.size:=heap_alloc_new _ _;have hin:=storeInstall_any (hG.keep hA) (h2.below hA) hf tv ts (htv.below hA) hts;have hx1:=(Ses.cells ((hA.block x hxl).trans h1)).2;have hE1:ErrT (w.alloc (.cells #[.int .i64 0,.int .i64 0,.int .i64 0,.string ⟨#[]⟩] 23)):=hE.keep hA (by have:=hG.size;have:=hG.six;omega);have HIN:=hid hin;have HZB:=hid hzb;have HA:=hid hA;have HZ1:=hid hz1;have HE1:=hid hE1;have HG1:=hid (hG.keep hA);have H1:=hid ((hA.block x hxl).trans h1);have H3:=hid h3;have H4:=hid h4;have HOG:=hid hOG;clear hin hzb hA hz1 hE1 h1 h2 h3 hG hE htv hf hOG;go_enter Tryz.func25,Tryz.ntmps25;go_wp2_with fail;generalize w.alloc (.cells #[.int .i64 0,.int .i64 0,.int .i64 0,.string ⟨#[]⟩] 23)=w1 at *;have hz1:=HZ1.out;refine HIN.out.mono ?_;rintro e w2 ⟨ev,rfl,hev,hch,hsto⟩;have hO1:∀ k,O1 k->G<=k/\k<w.heap.size:=fun k hk=>⟨HOG.out k (H3.out k hk).1,(H3.out k hk).2.2⟩
 have hE2:ErrT w2:=by
  have hb:=hch.below HG1.out.size fun k hk=>(hO1 k hk).1
  exact(hb.cell (p:=⟨0,0,none⟩) (by have:=HG1.out.six;show 0<G;omega)).trans HE1.out
 have hpt:=parts_any hE2 hev;have HPT:=hid hpt;have HCH:=hid hch;have HSTO:=hid hsto;have hz2:=hch.size;have hR2:ZB w2 w.heap.size:=(hch.block _ (by omega) fun hk=>by have:=(hO1 _ hk).2;omega).trans HZB.out;have HR2:=hid hR2;clear hpt hev hch hsto hE2 hR2;go_wp2_with fail;refine HPT.out.mono ?_;rintro e w3 ⟨rfl,hb3⟩;have hz3:=hb3.size;have hR3:ZB w3 w.heap.size:=(hb3.block _ (by omega)).trans HR2.out;obtain⟨k0,k1,k2,k3,g0,g1,g2,g3,hRl⟩:=hR3.cells;have HB3:=hid hb3;clear hR3 hb3;obtain⟨f,hf⟩:∃ f,f=(st.install ts).1:=⟨_,rfl⟩
 rw[<-hf] at HPT ⊢;have HF:=hid hf;clear hf;unfold faultV sv;go_wp2_with fail;rw[<-HF.out];refine bodyPost_ret (v:=faultV f) (by simp[results,Tryz.results25,go_sem,faultV,sv,k0,k1,k2,k3]) rfl ⟨rfl,?_⟩;exact ses_done f HA.out hz1 hxl H1.out H3.out H4.out HCH.out HSTO.out HB3.out
theorem sesRemove_any{G:Nat}{O:Nat->Prop}{w:World}{x:Nat}{st:Sp.St}(hG:Glob G w)(hE:ErrT w)(hOG:∀ k,O k->G<=k)(h:Ses O w x st)(hf:Fit st)(tv:Value)(ts:List Sp.Str)(htv:StrsAt w tv ts)(hts:ts.length<=9000)(hnl:∀ n∈ts,n.length<=10000):
  Calls Tryz.prog 32 #[.pointer (some ⟨x,0,none⟩),tv] w fun e w'=>e=.returned (faultV (st.remove ts).1)/\Chg O w w'/\Ses (fun k=>O k\/w.heap.size<=k) w' x (st.remove ts).2:=by
 have hxl:=h.lt;obtain⟨D,s,O1,h1,h2,h3,h4⟩:=h;have hA:Below w.heap.size w (w.alloc (.cells #[.int .i64 0,.int .i64 0,.int .i64 0,.string ⟨#[]⟩] 23)):=(Below.refl _ _).alloc (Nat.le_refl _) _;have hz1:(w.alloc (.cells #[.int .i64 0,.int .i64 0,.int .i64 0,.string ⟨#[]⟩] 23)).heap.size=w.heap.size+1:=by simp
 have hzb:ZB (w.alloc (.cells #[.int .i64 0,.int .i64 0,.int .i64 0,.string ⟨#[]⟩] 23)) w.heap.size:=heap_alloc_new _ _;have hin:=storeRemove_any (h2.below hA) hf tv ts (htv.below hA) hts hnl;have hx1:=(Ses.cells ((hA.block x hxl).trans h1)).2;have hE1:ErrT (w.alloc (.cells #[.int .i64 0,.int .i64 0,.int .i64 0,.string ⟨#[]⟩] 23)):=hE.keep hA (by have:=hG.size;have:=hG.six;omega);have HIN:=hid hin;have HZB:=hid hzb;have HA:=hid hA;have HZ1:=hid hz1;have HE1:=hid hE1;have HG1:=hid (hG.keep hA);have H1:=hid ((hA.block x hxl).trans h1);have H3:=hid h3;have H4:=hid h4;have HOG:=hid hOG;clear hin hzb hA hz1 hE1 h1 h2 h3 hG hE htv hf hOG hnl;go_enter Tryz.func32,Tryz.ntmps32;go_wp2_with fail;generalize w.alloc (.cells #[.int .i64 0,.int .i64 0,.int .i64 0,.string ⟨#[]⟩] 23)=w1 at *;have hz1:=HZ1.out;refine HIN.out.mono ?_;rintro e w2 ⟨ev,rfl,hev,hch,hsto⟩;have hO1:∀ k,O1 k->G<=k/\k<w.heap.size:=fun k hk=>⟨HOG.out k (H3.out k hk).1,(H3.out k hk).2.2⟩
 have hE2:ErrT w2:=by
  have hb:=hch.below HG1.out.size fun k hk=>(hO1 k hk).1
  exact(hb.cell (p:=⟨0,0,none⟩) (by have:=HG1.out.six;show 0<G;omega)).trans HE1.out
 have hpt:=parts_any hE2 hev;have HPT:=hid hpt;have HCH:=hid hch;have HSTO:=hid hsto;have hz2:=hch.size;have hR2:ZB w2 w.heap.size:=(hch.block _ (by omega) fun hk=>by have:=(hO1 _ hk).2;omega).trans HZB.out;have HR2:=hid hR2;clear hpt hev hch hsto hE2 hR2;go_wp2_with fail;refine HPT.out.mono ?_;rintro e w3 ⟨rfl,hb3⟩;have hz3:=hb3.size;have hR3:ZB w3 w.heap.size:=(hb3.block _ (by omega)).trans HR2.out;obtain⟨k0,k1,k2,k3,g0,g1,g2,g3,hRl⟩:=hR3.cells;have HB3:=hid hb3;clear hR3 hb3;obtain⟨f,hf⟩:∃ f,f=(st.remove ts).1:=⟨_,rfl⟩
 rw[<-hf] at HPT ⊢;have HF:=hid hf;clear hf;unfold faultV sv;go_wp2_with fail;rw[<-HF.out];refine bodyPost_ret (v:=faultV f) (by simp[results,Tryz.results32,go_sem,faultV,sv,k0,k1,k2,k3]) rfl ⟨rfl,?_⟩;exact ses_done f HA.out hz1 hxl H1.out H3.out H4.out HCH.out HSTO.out HB3.out
end
section
open Go.RowKit Go.Maps
namespace ST
theorem plan_none{st:Sp.St}{ts:List Sp.Str}(h:1<=(st.plan ts).1.kind):(st.plan ts).2=[]:=by
 unfold Sp.St.plan at h ⊢
 split
 ·rfl
 ·rename_i hp
  rw[hp] at h;exact absurd h (by simp[Sp.okF])
end ST
theorem sesPlan_any{G:Nat}{O:Nat->Prop}{w:World}{x:Nat}{st:Sp.St}(hG:Glob G w)(hE:ErrT w)(h:Ses O w x st)(hf:Fit st)(tv:Value)(ts:List Sp.Str)(htv:StrsAt w tv ts)(hts:ts.length<=9000):
  Calls Tryz.prog 23 #[.pointer (some ⟨x,0,none⟩),tv] w fun e w'=>∃ v,e=.returned (.tuple #[v,faultV (st.plan ts).1])/\StrsFrom w.heap.size w' v (st.plan ts).2/\Below w.heap.size w w':=by
 have hxl:=h.lt;obtain⟨D,s,O1,h1,h2,h3,h4⟩:=h;have hA:Below w.heap.size w (w.alloc (.cells #[.int .i64 0,.int .i64 0,.int .i64 0,.string ⟨#[]⟩] 23)):=(Below.refl _ _).alloc (Nat.le_refl _) _;have hz1:(w.alloc (.cells #[.int .i64 0,.int .i64 0,.int .i64 0,.string ⟨#[]⟩] 23)).heap.size=w.heap.size+1:=by simp
 have hzb:ZB (w.alloc (.cells #[.int .i64 0,.int .i64 0,.int .i64 0,.string ⟨#[]⟩] 23)) w.heap.size:=heap_alloc_new _ _;have hin:=storePlan_any (hG.keep hA) (h2.below hA) hf tv ts (htv.below hA) hts;have hx1:=(Ses.cells ((hA.block x hxl).trans h1)).2;have hE1:ErrT (w.alloc (.cells #[.int .i64 0,.int .i64 0,.int .i64 0,.string ⟨#[]⟩] 23)):=hE.keep hA (by have:=hG.size;have:=hG.six;omega);have hpos:0<(w.alloc (.cells #[.int .i64 0,.int .i64 0,.int .i64 0,.string ⟨#[]⟩] 23)).heap.size:=by omega
 have HIN:=hid hin;have HZB:=hid hzb;have HA:=hid hA;have HZ1:=hid hz1;have HE1:=hid hE1;clear hin hzb hA hz1 hE1 h1 h2 h3 hG hE htv hf;go_enter Tryz.func23,Tryz.ntmps23;go_wp2_with fail;generalize w.alloc (.cells #[.int .i64 0,.int .i64 0,.int .i64 0,.string ⟨#[]⟩] 23)=w1 at *;have hz1:=HZ1.out;refine HIN.out.mono ?_;rintro e w2 ⟨v,ev,rfl,hv,hev,hb2⟩;have hE2:ErrT w2:=HE1.out.keep hb2 hpos;have hz2:=hb2.size;have hpt:=parts_any hE2 hev;have HPT:=hid hpt;have HB2:=hid (HA.out.trans (hb2.mono (by omega)));have HEV:=hid hev;have HR2:=hid (show ZB w2 w.heap.size from(hb2.block _ (by omega)).trans HZB.out);have hnil:=fun hk=>ST.plan_none (st:=st) (ts:=ts) hk
 have HNIL:=hid hnil;obtain⟨va,vc,rfl,hvc,_⟩:=hv.at_.get;have HV:=hid hv;clear hpt hev hb2 hE2 hnil hv;go_wp2_with fail;refine HPT.out.mono ?_;rintro e w3 ⟨rfl,hb3⟩;have hz3:=hb3.size;have hR3:ZB w3 w.heap.size:=(hb3.block _ (by omega)).trans HR2.out;obtain⟨k0,k1,k2,k3,g0,g1,g2,g3,hRl⟩:=hR3.cells;have HB3:=hid (HB2.out.trans (hb3.mono (by omega)));have HV3:=hid (HV.out.below hb3);clear hR3 hb3;obtain⟨f,hf⟩:∃ f,f=(st.plan ts).1:=⟨_,rfl⟩
 obtain⟨o,ho⟩:∃ o,o=(st.plan ts).2:=⟨_,rfl⟩
 rw[<-hf] at HPT HNIL HEV ⊢;rw[<-ho] at HNIL HV3 hvc ⊢;have HF:=hid hf;have HO:=hid ho;clear hf ho HPT;have hfin:∀ W:World,Below (putF w3 w.heap.size f).heap.size (putF w3 w.heap.size f) W->StrsFrom w.heap.size W (.slice va o.length vc) o/\Below w.heap.size w W:=fun W hW=>by
  have hps:=putF_size w3 w.heap.size f;have hb:=HB3.out.trans (putF_below w3 w.heap.size f (Nat.le_refl _));have h1:StrsFrom w1.heap.size (putF w3 w.heap.size f) (.slice va o.length vc) o:=SlOn.mono (SlOn.keep HV3.out fun k hk=>putF_other w3 _ f (by have:=hk.1;omega)) fun k hk=>⟨hk.1,by have:=hk.2;omega⟩
  exact⟨(h1.below hW).base (by omega),hb.trans (hW.mono (by omega))⟩
 have HFIN:=hid (hfin (((putF w3 w.heap.size f).alloc (.cells #[.int .i64 (f.kind:Int),.int .i64 (f.which:Int),.int .i64 (f.line:Int),.string ⟨f.name.toArray⟩] 23)).drew) (((Below.refl _ _).alloc (Nat.le_refl _) _).drew));clear hfin;unfold faultV sv
 rcases HEV.out with⟨h0,rfl⟩|⟨hk1,hk8,b,rfl,_⟩
 ·clear h0
  go_wp2_with fail;go_region;go_wp2_with fail;rw[<-HF.out,<-HO.out];refine bodyPost_ret (v:=.tuple #[.slice va o.length vc,faultV f]) (by simp[results,Tryz.results23,go_sem,faultV,sv,k0,k1,k2,k3,hRl]) rfl ⟨_,rfl,HFIN.out⟩
 ·have hon:=HNIL.out hk1
  have hol:o.length=0:=by rw[hon];rfl
  clear hon;go_wp2_with fail;go_region;go_wp2_with fail;rw[<-HF.out,<-HO.out];have hfi:=HFIN.out;rw[hol] at hfi;refine bodyPost_ret (v:=.tuple #[.slice va 0 vc,faultV f]) (by simp[results,Tryz.results23,go_sem,faultV,sv,k0,k1,k2,k3,hRl]) rfl ⟨_,rfl,hfi⟩
end
section
open Go.RowKit Go.Maps
namespace ND
def z64:Sp.Str:=List.replicate 64 0
def I(b:Nat)(w:World)(v v2:Value)(x:Nat):Prop:=b<x/\x<w.heap.size/\v.ownBlock≠some x/\v2.ownBlock≠some x
structure Half(b:Nat)(w:World)(v v2:Value)(k:Nat)(vs:List Value):Prop where
 row:w.ownsRow (b+1) 136 1 v k vs
 secs:Secs (I b w v v2) w vs (List.replicate k z64)
def Apart(v v2:Value):Prop:=∀ g,v.ownBlock=some g->v2.ownBlock≠some g
theorem step{b:Nat}{w wA w3:World}{v v2 zs:Value}{k k2:Nat}{vs vs2:List Value}{g' cap:Nat}(hb:b<w.heap.size)(h:Half b w v v2 k vs)(h2:Half b w v2 v k2 vs2)(ha:Apart v v2)
  (hA:Below w.heap.size w wA)(hzs:BytesOn (·=w.heap.size) wA zs z64)(hszA:w.heap.size<wA.heap.size)
  (hrow:w3.ownsRow (b+1) 136 1 (.slice (some ⟨g',0,none⟩) (k+1) cap) (k+1) (vs ++ [zs]))(hg:wA.grownBy w3 v.ownBlock)(hloc:v.ownBlock=some g'\/g'=wA.heap.size)(_hlt:g'<w3.heap.size)(i:Nat)(u:Value):
  w3.heap[b]? = w.heap[b]?/\Below b w (w3.setCell ⟨b,i,none⟩ u)/\Half b (w3.setCell ⟨b,i,none⟩ u) (.slice (some ⟨g',0,none⟩) (k+1) cap) v2 (k+1) (vs ++ [zs]) /\
   Half b (w3.setCell ⟨b,i,none⟩ u) v2 (.slice (some ⟨g',0,none⟩) (k+1) cap) k2 vs2/\Apart (.slice (some ⟨g',0,none⟩) (k+1) cap) v2:=by
 have hv:∀ g,v.ownBlock=some g->b+1<=g/\g<w.heap.size:=fun g hg=>h.row.lt g hg
 have hv2:∀ g,v2.ownBlock=some g->b+1<=g/\g<w.heap.size:=fun g hg=>h2.row.lt g hg
 have hzA:=hA.size;have hz3:=hg.size;have hk:∀ x,x<w.heap.size->v.ownBlock≠some x->w3.heap[x]? = w.heap[x]?:=fun x hx hne=>(hg.block x (by omega) fun e=>hne e.symm).trans (hA.block x hx)
 have hset:∀ x,x≠b->(w3.setCell ⟨b,i,none⟩ u).heap[x]? = w3.heap[x]?:=fun x hx=>Below.heap_setCell _ _ _ _ hx
 have hz4:(w3.setCell ⟨b,i,none⟩ u).heap.size=w3.heap.size:=by simp[World.setCell]
 have hgb:b<g':=by
  rcases hloc with e|e
  ·have:=hv g' e;omega
  ·omega
 have hg2:v2.ownBlock≠some g':=fun e2=>by
  rcases hloc with e|e
  ·exact ha g' e e2
  ·have:=hv2 g' e2;omega
 have hnb:v.ownBlock≠some b:=fun e=>by have:=hv b e;omega
 have hI:∀ x,I b w v v2 x->I b (w3.setCell ⟨b,i,none⟩ u) (.slice (some ⟨g',0,none⟩) (k+1) cap) v2 x:=fun x hx=>⟨hx.1,by have:=hx.2.1;omega,fun e=>by
  have e:g'=x:=Option.some.inj e;subst e
  rcases hloc with e|e
  ·exact hx.2.2.1 e
  ·have:=hx.2.1;omega,hx.2.2.2⟩
 have hkI:∀ x,I b w v v2 x->(w3.setCell ⟨b,i,none⟩ u).heap[x]? = w.heap[x]?:=fun x hx=>(hset x (by have:=hx.1;omega)).trans (hk x hx.2.1 hx.2.2.1)
 have hnz:v.ownBlock≠some w.heap.size:=fun e=>by have:=hv _ e;omega
 refine⟨hk b hb hnb,⟨?_,?_,?_,by omega,fun x hx=>?_⟩,⟨own_keep hrow fun g e=>?_,?_⟩,⟨own_keep h2.row fun g e=>?_,?_⟩,fun g e e2=>?_⟩
 ·exact hg.os.trans hA.os
 ·exact hg.tape.trans hA.tape
 ·exact hg.output.trans hA.output
 ·exact(hset x (by omega)).trans (hk x (by omega) fun e=>by have:=hv x e;omega)
 ·have e:g'=g:=Option.some.inj e
  subst e;exact hset g' (by omega)
 ·rw[List.replicate_succ']
  refine(h.secs.keep hkI hI).snoc ((hzs.keep (fun x hx=>?_) (fun _ h=>h)).mono fun x hx=>?_) (by unfold z64;rw[List.length_replicate])
  ·subst hx
   exact(hset _ (by omega)).trans (hg.block _ hszA fun e=>hnz e.symm)
  ·subst hx
   refine⟨hb,by omega,fun e=>?_,fun e=>by have:=hv2 _ e;omega⟩;have e:g'=w.heap.size:=Option.some.inj e
   rcases hloc with e2|e2
   ·have:=hv g' e2;omega
   ·omega
 ·have:=hv2 g e
  exact(hset g (by omega)).trans (hk g this.2 fun e1=>ha g e1 e)
 ·exact h2.secs.keep (fun x hx=>hkI x ⟨hx.1,hx.2.1,hx.2.2.2,hx.2.2.1⟩) fun x hx=>by
   obtain⟨a1,a2,a3,a4⟩:=hI x ⟨hx.1,hx.2.1,hx.2.2.2,hx.2.2.1⟩;exact⟨a1,a2,a4,a3⟩
 ·have e:g'=g:=Option.some.inj e
  subst e;exact hg2 e2
theorem Apart.symm{v v2:Value}(h:Apart v v2):Apart v2 v:=fun g e e2=>h g e2 e
theorem nil(b:Nat)(w:World)(v2:Value):Half b w (.slice none 0 0) v2 0 []:=⟨World.ownsRow_nil _ _ _ _,Secs.nil _ _⟩
theorem zeros(w:World):BytesOn (·=w.heap.size) ((w.alloc (.cells DK.Zr 5)).alloc (.cells #[.slice (some ⟨w.heap.size,0,none⟩) 64 64] 136)) (.slice (some ⟨w.heap.size,0,none⟩) 64 64) z64:=by
 have hb:((w.alloc (.cells DK.Zr 5)).alloc (.cells #[.slice (some ⟨w.heap.size,0,none⟩) 64 64] 136)).heap[w.heap.size]? = some (.cells (bvs z64).toArray 5 (0,0)):=by
  rw[Below.heap_alloc _ _ _ (by simp),heap_alloc_new,DK.zr_eq];rfl
 have:=DK.bytes_of (S:=(·=w.heap.size)) hb rfl (cap:=64) (by unfold z64;rw[List.length_replicate];exact Nat.le_refl _);rw[show z64.length=64 by unfold z64;rw[List.length_replicate]] at this;exact this
end ND
end
end Go.Proofs.YtfphcecjhdkcoaaGreatDoor

/-
Plain: a program installs at all.
-/
import Derived.Test.YtfphcecjhdkcoaaGreatDoorScrP10
import Derived.Test.YtfphcecjhdkcoaaGreatDoorScrP12
import Derived.Test.YtfphcecjhdkcoaaGreatDoorScrP13
import Derived.Test.YtfphcecjhdkcoaaGreatDoorScrP14
import Derived.Deep.RegionLaw
import Derived.Deep.DeepCutAuto
import Derived.Lib.MinMax
import Derived.RangeFuncNested
import Derived.RangeFuncBound
import Derived.RangeFuncCalls
import Derived.RangeFuncLeaves
import Derived.RangeFuncBox
import Derived.Shelf.Abstract
import Derived.Shelf.RegionOpen
import Derived.WalkKit
import Derived.OwnWalkIn
import Derived.TacticsInMore
import Derived.LoopNIn
import Derived.LoopIn
import Derived.Maps.OwnIn
import Derived.Maps.AppendAt
import Derived.RangeFuncFrom
set_option maxRecDepth 100000
set_option maxHeartbeats 8000000
namespace Go.Proofs.YtfphcecjhdkcoaaGreatDoor
open Go.Lib (hid)
section
open Go.RowKit Go.Maps
theorem info136:(Tryz.prog.info? 136).map (fun i=>(i.zero,i.size,i.bytes))=some (some (.slice none 0 0),1,24):=by kernel_rfl
namespace ND
def At(b:Nat)(w:World)(k1 k2:Nat):Prop:=
 ∃ hvv svv hvs svs,w.heap[b]? = some (.cells #[hvv,svv,.slice none 0 0,.int .i64 (-1),.bool false] 106 (0,0))/\Half b w hvv svv k1 hvs/\Half b w svv hvv k2 svs/\Apart hvv svv
theorem disk{b n:Nat}{w:World}(h:At b w n n)(hn:2<=n/\n<=256):DkE (fun k=>b<=k/\k<w.heap.size) w b (Sp.fresh n):=by
 obtain⟨hvv,svv,hvs,svs,hblk,hh,hs,hap⟩:=h;have hlt:=(Array.getElem?_eq_some_iff.1 hblk).1;obtain⟨hb,hc,rfl,hb1,hb2⟩:=hh.row.form (by omega);obtain⟨sb,sc,rfl,sb1,sb2⟩:=hs.row.form (by omega);have hl:(Sp.fresh n).held.length=n:=by simp[Sp.fresh]
 have sl:(Sp.fresh n).seen.length=n:=by simp[Sp.fresh]
 have hne:hb≠sb:=fun e=>hap hb rfl (by rw[e];rfl)
 refine⟨I b w (.slice (some ⟨hb,0,none⟩) n hc) (.slice (some ⟨sb,0,none⟩) n sc),hb,sb,hc,sc,.slice none 0 0,hvs,svs,[],?_,fun k hk=>?_⟩
 ·exact {
   blk:=by rw[hl,sl];exact hblk
   held:=by rw[hl];exact W3.row_base hh.row (Nat.zero_le _)
   seen:=by rw[sl];exact W3.row_base hs.row (Nat.zero_le _)
   late:=World.ownsRow_nil _ _ _ _
   hsec:=hh.secs
   ssec:=hs.secs.keep (fun _ _=>rfl) fun x hx=>⟨hx.1,hx.2.1,hx.2.2.2,hx.2.2.1⟩
   lsec:=Secs.nil _ _
   lnum:=rfl
   apart:=hne
   imm:=fun k hk=>⟨hk.2.1,by have:=hk.1;omega,fun e=>hk.2.2.1 (by rw[e];rfl),fun e=>hk.2.2.2 (by rw[e];rfl),fun e=>by cases e⟩
   lens:=⟨by rw[hl,sl],by rw[sl];exact hn.1,by rw[sl];exact hn.2⟩
   lats:=fun q hq=>by cases hq
   left:=⟨by simp[Sp.fresh],by simp[Sp.fresh]⟩ }
 ·rcases hk with(rfl|rfl|rfl|hk)|hk
  ·exact⟨Nat.le_refl _,hlt⟩
  ·exact⟨by omega,hb2⟩
  ·exact⟨by omega,sb2⟩
  ·cases hk
  ·exact⟨Nat.le_of_lt hk.1,hk.2.1⟩
end ND
theorem newDisk_any(n:Nat)(hn:2<=n/\n<=256)(w:World):
  Calls Tryz.prog 46 #[.int .i64 (n:Int)] w fun e w'=>e=.returned (.pointer (some ⟨w.heap.size,0,none⟩))/\Below w.heap.size w w'/\DkE (fun k=>w.heap.size<=k/\k<w'.heap.size) w' w.heap.size (Sp.fresh n):=by
 have hmk:=DK.mk64;obtain⟨i0,hi0,hz0,hz1,hz2⟩:=info_parts info136;have HI0:=hid hi0;have HZ0:=hid hz0;have HZ1:=hid hz1;have HZ2:=hid hz2;clear hi0 hz0 hz1 hz2;go_enter Tryz.func46,Tryz.ntmps46;go_wp2
 go_loopw [7] (fun i wr=>∃ k:Nat,k<=n/\i=.int .i64 (k:Int)/\ND.At w.heap.size wr k k/\Below w.heap.size w wr) (fun i _=>n+1-(intOf i).toNat)
 case atStart=>exact⟨0,Nat.zero_le _,rfl,⟨.slice none 0 0,.slice none 0 0,[],[],heap_alloc_new _ _,ND.nil _ _ _,ND.nil _ _ _,(fun g e=>by cases e)⟩,(Below.refl _ _).alloc (Nat.le_refl _) _⟩
 case round =>
  obtain⟨k,hk,rfl,hat,hbel⟩:=hrel;have hzr:=hbel.size;have HBEL:=hid hbel;have HAT:=hid hat;clear hbel
  by_cases h:k<n
  ·obtain⟨hvv,svv,hvs,svs,hblk,hh,hs,hap⟩:=hat
   have hlt:=(Array.getElem?_eq_some_iff.1 hblk).1;have c0:wr.cell? ⟨w.heap.size,0,none⟩=some hvv:=by rw[cell_of_row _ _ _ _ _ _ hblk];rfl
   have cz0:wr.frozen? ⟨w.heap.size,0,none⟩=false:=by simp[World.frozen?,hblk]
   have HBLK:=hid hblk;have HH:=hid hh;have HS:=hid hs;have HAP:=hid hap;clear hblk hh hs hap;obtain⟨wA,hwA⟩:∃ wA,wA=((wr.alloc (.cells DK.Zr 5)).alloc (.cells #[.slice (some ⟨wr.heap.size,0,none⟩) 64 64] 136)).drew:=⟨_,rfl⟩
   have hzA:wA.heap.size=wr.heap.size+2:=by rw[hwA];simp
   have hbA:Below wr.heap.size wr wA:=by rw[hwA];exact(((Below.refl _ _).alloc (Nat.le_refl _) _).alloc (by simp) _).drew
   have hzs:BytesOn (·=wr.heap.size) wA (.slice (some ⟨wr.heap.size,0,none⟩) 64 64) ND.z64:=by rw[hwA];exact(ND.zeros wr).keep (fun _ _=>rfl) fun _ h=>h
   have hrowA:wA.ownsRow (w.heap.size+1) 136 1 hvv k hvs:=W3.row_keep HH.out.row hbA;have hnew:∀ (j:Nat) (u:Value),([.slice (some ⟨wr.heap.size,0,none⟩) 64 64]:List Value)[j]? = some u->wA.cell? ((⟨wr.heap.size+1,0,none⟩:Addr).add j)=some u:=fun j u hj=>by
    rw[hwA];exact World.news_of_block (w:=((wr.alloc (.cells DK.Zr 5)).alloc (.cells #[.slice (some ⟨wr.heap.size,0,none⟩) 64 64] 136)).drew) (B:=wr.heap.size+1) (DS.heap_second wr _ _) j u hj
   have hst:=fun (w3:World) (g1 cap1:Nat) (hown1:w3.ownsRow (w.heap.size+1) 136 1 (.slice (some ⟨g1,0,none⟩) (k+1) cap1) (k+1) (hvs ++ [.slice (some ⟨wr.heap.size,0,none⟩) 64 64])) (hg1:wA.grownBy w3 hvv.ownBlock) (hloc1:hvv.ownBlock=some g1\/g1=wA.heap.size) (hlt1:g1<w3.heap.size) (u:Value) =>
    ND.step hlt HH.out HS.out HAP.out hbA hzs (by omega) hown1 hg1 hloc1 hlt1 0 u
   rw[hwA] at hrowA hnew hst;have HROW1:=hid hrowA;have HNEW1:=hid hnew;have HSTEP:=hid hst;clear hwA hrowA hnew hzA hbA hzs hst;clear wA;go_wp2
   go_cut [7] from 7 to 29 (fun s7 wx=>s7=.int .i64 (k:Int)/\ND.At w.heap.size wx (k+1) k/\Below w.heap.size wr wx)
   case first =>
    go_region_law (first
     | (
       refine step_append_lies _ rfl _ _ 103 rfl (w.heap.size+1) 136 i0 (.slice none 0 0) 1 24 Tryz.underlying103 HI0.out HZ0.out HZ1.out HZ2.out rfl (by decide) hvv k hvs rfl HROW1.out ⟨wr.heap.size+1,0,none⟩ 1 1 [.slice (some ⟨wr.heap.size,0,none⟩) 64 64] rfl rfl HNEW1.out (by simp[Value.oneCell']) (by decide) (by unfold maxLen;omega) (by omega) (by simp;omega) _ rfl ?_;intro g1 cap1 w3 hown1 hg1 hloc1 hlt1;have hst1:=HSTEP.out w3 g1 cap1 hown1 hg1 hloc1 hlt1;have hbk3:=(hst1 undef).1;have d0:=(World.cell?_of_block (w:=wr) (a:=⟨w.heap.size,0,none⟩) hbk3).trans c0;have e0:w3.frozen? ⟨w.heap.size,0,none⟩=false:=by simp only[World.frozen?,hbk3];simpa[World.frozen?] using cz0
       have hz3:=hg1.size;have HBK3:=hid hbk3;have HST1:=hid hst1;clear hown1 hg1 hloc1 hbk3 hst1))
    all_goals
     go_wp2_with fail;go_meet;refine⟨rfl,?_,(HST1.out _).2.1⟩;exact⟨_,svv,_,svs,DS.set_blk (HBK3.out.trans HBLK.out) 0 _,(HST1.out _).2.2⟩
   case rest =>
    obtain⟨rfl,⟨hvv,svv,hvs,svs,hblk,hh,hs,hap⟩,hbc⟩:=hcut;have hlt:=(Array.getElem?_eq_some_iff.1 hblk).1;have c1:wc.cell? ⟨w.heap.size,1,none⟩=some svv:=by rw[cell_of_row _ _ _ _ _ _ hblk];rfl
    have cz1:wc.frozen? ⟨w.heap.size,1,none⟩=false:=by simp[World.frozen?,hblk]
    have HBLK:=hid hblk;have HH:=hid hh;have HS:=hid hs;have HAP:=hid hap;have HBC:=hid (HBEL.out.trans hbc);have hzc:=hbc.size;clear hblk hh hs hap hbc;obtain⟨wA,hwA⟩:∃ wA,wA=((wc.alloc (.cells DK.Zr 5)).alloc (.cells #[.slice (some ⟨wc.heap.size,0,none⟩) 64 64] 136)).drew:=⟨_,rfl⟩
    have hzA:wA.heap.size=wc.heap.size+2:=by rw[hwA];simp
    have hbA:Below wc.heap.size wc wA:=by rw[hwA];exact(((Below.refl _ _).alloc (Nat.le_refl _) _).alloc (by simp) _).drew
    have hzs:BytesOn (·=wc.heap.size) wA (.slice (some ⟨wc.heap.size,0,none⟩) 64 64) ND.z64:=by rw[hwA];exact(ND.zeros wc).keep (fun _ _=>rfl) fun _ h=>h
    have hrowA:wA.ownsRow (w.heap.size+1) 136 1 svv k svs:=W3.row_keep HS.out.row hbA;have hnew:∀ (j:Nat) (u:Value),([.slice (some ⟨wc.heap.size,0,none⟩) 64 64]:List Value)[j]? = some u->wA.cell? ((⟨wc.heap.size+1,0,none⟩:Addr).add j)=some u:=fun j u hj=>by
     rw[hwA];exact World.news_of_block (w:=((wc.alloc (.cells DK.Zr 5)).alloc (.cells #[.slice (some ⟨wc.heap.size,0,none⟩) 64 64] 136)).drew) (B:=wc.heap.size+1) (DS.heap_second wc _ _) j u hj
    have hst:=fun (w3:World) (g1 cap1:Nat) (hown1:w3.ownsRow (w.heap.size+1) 136 1 (.slice (some ⟨g1,0,none⟩) (k+1) cap1) (k+1) (svs ++ [.slice (some ⟨wc.heap.size,0,none⟩) 64 64])) (hg1:wA.grownBy w3 svv.ownBlock) (hloc1:svv.ownBlock=some g1\/g1=wA.heap.size) (hlt1:g1<w3.heap.size) (u:Value) =>
     ND.step hlt HS.out HH.out HAP.out.symm hbA hzs (by omega) hown1 hg1 hloc1 hlt1 1 u
    rw[hwA] at hrowA hnew hst;have HROW1:=hid hrowA;have HNEW1:=hid hnew;have HSTEP:=hid hst;clear hwA hrowA hnew hzA hbA hzs hst;clear wA;go_wp2
    go_region_law (first
     | (
       refine step_append_lies _ rfl _ _ 103 rfl (w.heap.size+1) 136 i0 (.slice none 0 0) 1 24 Tryz.underlying103 HI0.out HZ0.out HZ1.out HZ2.out rfl (by decide) svv k svs rfl HROW1.out ⟨wc.heap.size+1,0,none⟩ 1 1 [.slice (some ⟨wc.heap.size,0,none⟩) 64 64] rfl rfl HNEW1.out (by simp[Value.oneCell']) (by decide) (by unfold maxLen;omega) (by omega) (by simp;omega) _ rfl ?_;intro g1 cap1 w3 hown1 hg1 hloc1 hlt1;have hst1:=HSTEP.out w3 g1 cap1 hown1 hg1 hloc1 hlt1;have hbk3:=(hst1 undef).1;have d1:=(World.cell?_of_block (w:=wc) (a:=⟨w.heap.size,1,none⟩) hbk3).trans c1;have e1:w3.frozen? ⟨w.heap.size,1,none⟩=false:=by simp only[World.frozen?,hbk3];simpa[World.frozen?] using cz1
       have hz3:=hg1.size;have HBK3:=hid hbk3;have HST1:=hid hst1;clear hown1 hg1 hloc1 hbk3 hst1))
    all_goals
     go_wp2_with fail;refine⟨⟨k+1,h,by go_num,⟨hvv,_,hvs,_,DS.set_blk (HBK3.out.trans HBLK.out) 1 _,(HST1.out _).2.2.2.1,(HST1.out _).2.2.1,(HST1.out undef).2.2.2.2.symm⟩,HBC.out.trans (HST1.out _).2.1⟩,by simp[intOf];omega⟩
  ·obtain rfl:k=n:=by omega
   clear hat;go_wp2;go_ret;exact⟨rfl,HBEL.out,ND.disk HAT.out hn⟩
end
section
open Go.RowKit Go.Maps
theorem DkE.flag{O:Nat->Prop}{w:World}{b:Nat}{d:Sp.Dk}(h:DkE O w b d):w.cell? ⟨b,3,none⟩=some (.int .i64 d.left)/\w.cell? ⟨b,4,none⟩=some (.bool d.dead)/\w.frozen? ⟨b,3,none⟩=false/\b<w.heap.size:=by
 obtain⟨I,hb,sb,hc,sc,lv,hv,sv,lt,h,_⟩:=h;obtain⟨_,_,_,c3,c4,cz⟩:=h.cells;exact⟨c3,c4,cz 3,h.lt_b⟩
theorem DkE.cut{O:Nat->Prop}{w:World}{b:Nat}{d:Sp.Dk}(h:DkE O w b d)(k:Int)(hk:k<=9223372036854775807):DkE O (w.setCell ⟨b,3,none⟩ (.int .i64 (max k (-1)))) b (d.cut k):=by
 obtain⟨I,hb,sb,hc,sc,lv,hv,sv,lt,h,hO⟩:=h;exact⟨I,hb,sb,hc,sc,lv,hv,sv,lt,h.flags (l:=max k (-1)) (dead:=d.dead) (DS.set_blk h.blk 3 _) (fun j hj _=>Below.heap_setCell _ _ _ _ hj) (by simp[World.setCell]) ⟨by omega,by omega⟩,hO⟩
theorem cut_any{w:World}{x D:Nat}{v old:Value}(hx:w.heap[x]? = some (.cells #[.pointer (some ⟨D,0,none⟩),v] 94 (0,0)))(hc:w.cell? ⟨D,3,none⟩=some old)(hz:w.frozen? ⟨D,3,none⟩=false)(k:Int):
  Calls Tryz.prog 28 #[.pointer (some ⟨x,0,none⟩),.int .i64 k] w fun e w'=>e=.returned (.tuple #[])/\w'=w.setCell ⟨D,3,none⟩ (.int .i64 (max k (-1))):=by
 have c0:w.cell? ⟨x,0,none⟩=some (.pointer (some ⟨D,0,none⟩)):=by rw[cell_of_row _ _ _ _ _ _ hx];rfl
 clear hx;go_enter Tryz.func28,Tryz.ntmps28;go_wp2
 go_end0
 exact⟨rfl,rfl⟩
theorem sesCut_any{O:Nat->Prop}{w:World}{x:Nat}{st:Sp.St}(h:Ses O w x st)(k:Int)(hk:k<=9223372036854775807):
  Calls Tryz.prog 28 #[.pointer (some ⟨x,0,none⟩),.int .i64 k] w fun e w'=>e=.returned (.tuple #[])/\Chg O w w'/\Ses O w' x (st.cut k):=by
 obtain⟨D,s,O1,h1,⟨mb,ob,OD,S,L,s1,s2,s3,s4,s5,s6,s7,s8⟩,h3,h4⟩:=h;obtain⟨c3,_,cz,hDl⟩:=s2.flag;have hOD:=s2.own;refine(cut_any h1 c3 cz k).mono ?_;rintro e w' ⟨rfl,rfl⟩;have hk':∀ j,j≠D->(w.setCell ⟨D,3,none⟩ (.int .i64 (max k (-1)))).heap[j]? = w.heap[j]?:=fun j hj=>Below.heap_setCell _ _ _ _ hj
 have hz:(w.setCell ⟨D,3,none⟩ (.int .i64 (max k (-1)))).heap.size=w.heap.size:=by simp[World.setCell]
 have hxD:x≠D:=fun e=>(h3 D (s7 D hOD).1).2.1 e.symm
 have hnD:∀ j,(S j\/j=mb\/j=ob)->j≠D:=fun j hj e=>(s8 j hj).2.2.1 (e ▸ hOD)
 refine⟨rfl,(Chg.refl _ _).setCell (p:=⟨D,3,none⟩) (h3 D (s7 D hOD).1).1 _,D,s,O1,(hk' x hxD).trans h1,⟨mb,ob,OD,S,L,s1.keep (hk' s fun e=>(s7 D hOD).2.1 e.symm),s2.cut k hk,s3.keep (hk' mb (hnD mb (.inr (.inl rfl)))) fun j hj=>hk' j (hnD j (.inl hj)),s4.block (hk' ob (hnD ob (.inr (.inr rfl)))),s5,s6,fun j hj=>⟨(s7 j hj).1,(s7 j hj).2.1,by rw[hz];exact(s7 j hj).2.2⟩,fun j hj=>⟨by rw[hz];exact(s8 j hj).1,(s8 j hj).2⟩⟩,fun j hj=>⟨(h3 j hj).1,(h3 j hj).2.1,by rw[hz];exact(h3 j hj).2.2⟩,h4⟩
theorem sesLost_any{O:Nat->Prop}{w:World}{x:Nat}{st:Sp.St}(h:Ses O w x st):
  Calls Tryz.prog 29 #[.pointer (some ⟨x,0,none⟩)] w fun e w'=>e=.returned (.bool st.d.dead)/\w'=w:=by
 obtain⟨D,s,O1,h1,⟨mb,ob,OD,S,L,s1,s2,_⟩,_⟩:=h;obtain⟨_,c4,_,hDl⟩:=s2.flag;obtain⟨c0,c1⟩:=Ses.cells h1;clear h1 s1 s2;go_enter Tryz.func29,Tryz.ntmps29;go_wp2;go_ret;exact⟨rfl,rfl⟩
theorem sesOpen_any{G:Nat}{OD:Nat->Prop}{w:World}{x D:Nat}{v:Value}{d:Sp.Dk}(hG:Glob G w)(hx:w.heap[x]? = some (.cells #[.pointer (some ⟨D,0,none⟩),v] 94 (0,0)))(hd:DkE OD w D d)
  (hOD:∀ k,OD k->k<w.heap.size/\k≠x)(hS:16<=d.seen.length)(hok:Sp.Ok (Sp.St.opened d).L)(hfew:(Sp.St.opened d).L.length<100000):
  Calls Tryz.prog 47 #[.pointer (some ⟨x,0,none⟩)] w fun e w'=>e=.returned (faultV Sp.okF)/\Chg (·=x) w w'/\∃ s O',w'.heap[x]? = some (.cells #[.pointer (some ⟨D,0,none⟩),.pointer (some ⟨s,0,none⟩)] 94 (0,0))/\Sto O' w' s D (Sp.St.opened d) /\
   ∀ k,O' k->(OD k\/w.heap.size<=k)/\k≠x/\k<w'.heap.size:=by
 have hxl:=(Array.getElem?_eq_some_iff.1 hx).1;have hA:Below w.heap.size w (w.alloc (.cells #[.int .i64 0,.int .i64 0,.int .i64 0,.string ⟨#[]⟩] 23)):=(Below.refl _ _).alloc (Nat.le_refl _) _;have hz1:(w.alloc (.cells #[.int .i64 0,.int .i64 0,.int .i64 0,.string ⟨#[]⟩] 23)).heap.size=w.heap.size+1:=by simp
 have hzb:ZB (w.alloc (.cells #[.int .i64 0,.int .i64 0,.int .i64 0,.string ⟨#[]⟩] 23)) w.heap.size:=heap_alloc_new _ _;have hop:=storeOpen_any (hG.keep hA) (hd.below hA) hS hok hfew;have hx1:=(hA.block x hxl).trans hx;have c0:(w.alloc (.cells #[.int .i64 0,.int .i64 0,.int .i64 0,.string ⟨#[]⟩] 23)).cell? ⟨x,0,none⟩=some (.pointer (some ⟨D,0,none⟩)):=by rw[cell_of_row _ _ _ _ _ _ hx1];rfl
 have HOP:=hid hop;have HZB:=hid hzb;have HA:=hid hA;have HZ1:=hid hz1;have HX1:=hid hx1;have HOD:=hid hOD;clear hop hzb hA hz1 hx1 hG hx hd hOD hok hfew;unfold dptr at HOP;go_enter Tryz.func47,Tryz.ntmps47;go_wp2_with fail;generalize w.alloc (.cells #[.int .i64 0,.int .i64 0,.int .i64 0,.string ⟨#[]⟩] 23)=w1 at *;have hz1:=HZ1.out;refine HOP.out.mono ?_;rintro e w2 ⟨s,rfl,hsl,hb2,hsto⟩;have hz2:=hb2.size;have hx2:=(hb2.block x (by omega)).trans HX1.out;have c1:w2.cell? ⟨x,1,none⟩=some v:=by rw[cell_of_row _ _ _ _ _ _ hx2];rfl
 have cz:w2.frozen? ⟨x,1,none⟩=false:=by simp[World.frozen?,hx2]
 have hxl2:x<w2.heap.size:=by omega
 have HX2:=hid hx2;have HB2:=hid hb2;have HSTO:=hid hsto;have hpn:=parts_nil (w2.setCell ⟨x,1,none⟩ (.pointer (some ⟨s,0,none⟩)));have HPN:=hid hpn;clear hx2 hb2 hsto hpn;go_wp2_with fail;refine HPN.out.mono ?_;rintro e w3 ⟨rfl,hb3⟩;have hz3:=hb3.size;have hz3':w2.heap.size<=w3.heap.size:=by simpa[World.setCell] using hz3
 have hR3:ZB w3 w.heap.size:=(hb3.block _ (by simp[World.setCell];omega)).trans ((Below.heap_setCell _ _ _ _ (show w.heap.size≠x by omega)).trans ((HB2.out.block _ (by omega)).trans HZB.out));obtain⟨k0,k1,k2,k3,g0,g1,g2,g3,hRl⟩:=hR3.cells;have HB3:=hid hb3;clear hR3 hb3 hz3;go_wp2_with fail;obtain⟨W,hW⟩:∃ W,W=(putF w3 w.heap.size Sp.okF).alloc (.cells #[.int .i64 0,.int .i64 0,.int .i64 0,.string ⟨#[]⟩] 23):=⟨_,rfl⟩
 have hzp:=putF_size w3 w.heap.size Sp.okF;have hzW:W.heap.size=w3.heap.size+1:=by rw[hW,World.size_alloc,hzp]
 have hput:Chg (·=w.heap.size) w3 (putF w3 w.heap.size Sp.okF):=⟨rfl,rfl,rfl,Nat.le_of_eq hzp.symm,fun i _ hm=>putF_other w3 _ _ hm⟩
 have hch:Chg (·=x) w W:=by
  rw[hW];exact(((((Chg.of_below (M:=(·=x)) HA.out).trans (Chg.of_below HB2.out)).setCell (p:=⟨x,1,none⟩) rfl (.pointer (some ⟨s,0,none⟩))).trans (Chg.of_below HB3.out)).trans' hput fun k hk=>.inr (by omega)).alloc _
 have hkeep:∀ k,k<w2.heap.size->k≠w.heap.size->W.heap[k]? = (w2.setCell ⟨x,1,none⟩ (.pointer (some ⟨s,0,none⟩))).heap[k]?:=fun k hk hne=>by
  rw[hW,Below.heap_alloc _ _ _ (by rw[hzp];omega),putF_other _ _ _ hne];exact HB3.out.block k (by simpa[World.setCell] using hk)
 have hxW:W.heap[x]? = some (.cells #[.pointer (some ⟨D,0,none⟩),.pointer (some ⟨s,0,none⟩)] 94 (0,0)):=(hkeep x (by omega) (by omega)).trans (DS.set_blk HX2.out 1 _);have hO:∀ k,((OD k\/w1.heap.size<=k)/\k<w2.heap.size)->k≠x/\k≠w.heap.size:=fun k hk=>by
  rcases hk.1 with h1|h1
  ·have:=HOD.out k h1;exact⟨this.2,by omega⟩
  ·exact⟨by omega,by omega⟩
 have hst:=(HSTO.out.mono (O':=fun k=>(OD k\/w1.heap.size<=k)/\k<w2.heap.size) fun k hl hk=>⟨hk,hl⟩).keep (w':=W) (fun k hk hl=>(hkeep k hl (hO k hk).2).trans (Below.heap_setCell _ _ _ _ (hO k hk).1)) (by omega);have hend:Chg (·=x) w W/\∃ s O',W.heap[x]? = some (.cells #[.pointer (some ⟨D,0,none⟩),.pointer (some ⟨s,0,none⟩)] 94 (0,0))/\Sto O' W s D (Sp.St.opened d)/\∀ k,O' k->(OD k\/w.heap.size<=k)/\k≠x/\k<W.heap.size:=
  ⟨hch,s,_,hxW,hst,fun k hk=>⟨by
   rcases hk.1 with h1|h1
   ·exact .inl h1
   ·exact .inr (by omega),(hO k hk).1,by have:=hk.2;omega⟩⟩
 rw[hW] at hend;refine bodyPost_ret (v:=faultV Sp.okF) (by simp[results,Tryz.results47,go_sem,faultV,Sp.okF,sv,k0,k1,k2,k3,hRl]) rfl ⟨rfl,hend⟩
end
section
open Go.RowKit Go.Maps
theorem sesReopen_any{G:Nat}{O:Nat->Prop}{w:World}{x:Nat}{st:Sp.St}(hG:Glob G w)(hOG:∀ k,O k->G<=k)(h:Ses O w x st)(mask after:Int)(hm1:-9223372036854775808<=mask)(hm2:mask<=9223372036854775807)(ha:after<=9223372036854775807)
  (hlate:st.d.late.length<1000000)(hS':16<=st.d.seen.length)(hok:Sp.Ok (st.reopen mask after).L)(hfew:(st.reopen mask after).L.length<100000):
  Calls Tryz.prog 30 #[.pointer (some ⟨x,0,none⟩),.int .i64 mask,.int .i64 after] w fun e w'=>e=.returned (faultV Sp.okF)/\Chg O w w'/\Ses (fun k=>O k\/w.heap.size<=k) w' x (st.reopen mask after):=by
 have hxl:=h.lt;obtain⟨D,s,O1,h1,⟨mb,ob,OD,S,L,s1,s2,s3,s4,s5,s6,s7,s8⟩,h3,h4⟩:=h;have hA:Below w.heap.size w (w.alloc (.cells #[.int .i64 0,.int .i64 0,.int .i64 0,.string ⟨#[]⟩] 23)):=(Below.refl _ _).alloc (Nat.le_refl _) _;have hz1:(w.alloc (.cells #[.int .i64 0,.int .i64 0,.int .i64 0,.string ⟨#[]⟩] 23)).heap.size=w.heap.size+1:=by simp
 have hzb:ZB (w.alloc (.cells #[.int .i64 0,.int .i64 0,.int .i64 0,.string ⟨#[]⟩] 23)) w.heap.size:=heap_alloc_new _ _;have hx1:=(hA.block x hxl).trans h1;have hba:=back_any (s2.below hA) mask hm1 hm2 hlate;have c0:(w.alloc (.cells #[.int .i64 0,.int .i64 0,.int .i64 0,.string ⟨#[]⟩] 23)).cell? ⟨x,0,none⟩=some (.pointer (some ⟨D,0,none⟩)):=by rw[cell_of_row _ _ _ _ _ _ hx1];rfl
 have hOD:∀ k,OD k->O k/\k≠x/\k<w.heap.size:=fun k hk=>⟨(h3 k (s7 k hk).1).1,(h3 k (s7 k hk).1).2.1,(s7 k hk).2.2⟩
 have hS:16<=st.d.held.length:=by rw[s2.lens.1];exact hS'
 have hbl:(st.d.back mask).held.length=st.d.held.length:=by unfold Sp.Dk.back;simp only;exact hold_len _ _
 have HBA:=hid hba;have HZB:=hid hzb;have HA:=hid hA;have HZ1:=hid hz1;have HX1:=hid hx1;have HOD:=hid hOD;have HG:=hid (hG.keep hA);have HOG:=hid hOG;have HOX:=hid h4;have HOK:=hid hok;have HFEW:=hid hfew;have HBL:=hid hbl;clear hba hzb hA hz1 hx1 hG hOG h1 s1 s2 s3 s4 s5 s6 s7 s8 h3 h4 hOD hok hfew hbl;go_enter Tryz.func30,Tryz.ntmps30;go_wp2_with fail;generalize w.alloc (.cells #[.int .i64 0,.int .i64 0,.int .i64 0,.string ⟨#[]⟩] 23)=w1 at *;have hz1:=HZ1.out;refine HBA.out.mono ?_;rintro e w2 ⟨rfl,hch,hdk⟩;have hz2:=hch.size;have hx2:=(hch.block x (by omega) fun hk=>(HOD.out x hk).2.1 rfl).trans HX1.out;have hG2:Glob G w2:=HG.out.below (hch.below HG.out.size fun k hk=>HOG.out k (HOD.out k hk).1) (Nat.le_refl _);have hR2:ZB w2 w.heap.size:=(hch.block _ (by omega) fun hk=>by have:=(HOD.out _ hk).2.2;omega).trans HZB.out;have hdi:=hdk.inside;obtain⟨c3,_,cz,hDl⟩:=hdi.flag;have hDo:=hdi.own;have hDw:(OD D\/w1.heap.size<=D)/\D<w2.heap.size:=hDo;have hDx:D≠x/\D≠w.heap.size:=by
  rcases hDw.1 with h5|h5
  ·have:=HOD.out D h5;exact⟨this.2.1,by omega⟩
  ·exact⟨by omega,by omega⟩
 have hcut:=cut_any hx2 c3 cz after;have HCUT:=hid hcut;have hd3:=hdi.cut after ha;obtain⟨w3,hw3⟩:∃ w3,w3=w2.setCell ⟨D,3,none⟩ (.int .i64 (max after (-1))):=⟨_,rfl⟩
 have hk3:∀ j,j≠D->w3.heap[j]? = w2.heap[j]?:=fun j hj=>by rw[hw3];exact Below.heap_setCell _ _ _ _ hj
 have hz3:w3.heap.size=w2.heap.size:=by rw[hw3];simp[World.setCell]
 have hch3:Chg (fun k=>(OD k\/w1.heap.size<=k)/\k<w2.heap.size) w2 w3:=by rw[hw3];exact(Chg.refl _ _).setCell (p:=⟨D,3,none⟩) hDw _
 have hG3:Glob G w3:=hG2.below (hch3.below hG2.size fun k hk=>by
  rcases hk.1 with h5|h5
  ·exact HOG.out k (HOD.out k h5).1
  ·have:=HG.out.size;omega) (Nat.le_refl _)
 rw[<-hw3] at hd3;have hx3:=(hk3 x fun e=>hDx.1 e.symm).trans hx2;have hop:=sesOpen_any hG3 hx3 hd3 (fun k hk=>⟨by have:=hk.2;omega,by
  rcases hk.1 with h5|h5
  ·exact(HOD.out k h5).2.1
  ·omega⟩) (by show 16<=((st.d.back mask).cut after).seen.length;have:=hdi.lens;have h6:((st.d.back mask).cut after).seen.length=(st.d.back mask).seen.length:=rfl;rw[h6,<-this.1,HBL.out];exact hS) HOK.out HFEW.out
 have HOP:=hid hop;have HW3:=hid hw3;have HR3:=hid (show ZB w3 w.heap.size from(hk3 _ fun e=>hDx.2 e.symm).trans hR2);have HC:=hid (show Chg O w w3 from(((Chg.of_below HA.out).trans (hch.mono fun k hk=>(HOD.out k hk).1))).trans' hch3 fun k hk=>by
  rcases hk.1 with h5|h5
  ·exact .inl (HOD.out k h5).1
  ·exact .inr (by omega))
 clear hch hdk hx2 hG2 hR2 hdi c3 cz hcut hd3 hw3 hk3 hch3 hG3 hx3 hop hDo;go_wp2_with fail;refine HCUT.out.mono ?_;rintro e w3' ⟨rfl,hw3'⟩;obtain rfl:w3'=w3:=hw3'.trans HW3.out.symm;clear hw3';go_wp2_with fail;refine HOP.out.mono ?_;rintro e w4 ⟨rfl,hch4,s',O',hx4,hsto,hO'⟩;have hz4:=hch4.size;have hR4:ZB w4 w.heap.size:=(hch4.block _ (by omega) (show w.heap.size≠x by omega)).trans HR3.out;obtain⟨k0,k1,k2,k3,g0,g1,g2,g3,hRl⟩:=hR4.cells;have HCH4:=hid hch4;have HX4:=hid hx4;have HSTO:=hid hsto;have HO':=hid hO';clear hR4 hch4 hx4 hsto hO';unfold faultV sv;go_wp2_with fail;have hzp:=putF_size w4 w.heap.size Sp.okF;have hput:Chg (·=w.heap.size) w4 (putF w4 w.heap.size Sp.okF):=⟨rfl,rfl,rfl,Nat.le_of_eq hzp.symm,fun i _ hm=>putF_other w4 _ _ hm⟩
 have hOR:∀ k,O' k->k≠w.heap.size:=fun k hk=>by
  rcases (HO'.out k hk).1 with h5|h5
  ·rcases h5.1 with h6|h6
   ·have:=(HOD.out k h6).2.2;omega
   ·omega
  ·omega
 have hend:Chg O w (putF w4 w.heap.size Sp.okF)/\Ses (fun k=>O k\/w.heap.size<=k) (putF w4 w.heap.size Sp.okF) x (st.reopen mask after):=by
  refine⟨(HC.out.trans (HCH4.out.mono fun k hk=>by rw[hk];exact HOX.out)).trans' hput fun k hk=>.inr (by omega),D,s',O',(putF_other w4 _ _ (by omega)).trans HX4.out,HSTO.out.keep (fun k hk _=>putF_other w4 _ _ (hOR k hk)) (Nat.le_of_eq hzp.symm),fun k hk=>⟨?_,(HO'.out k hk).2.1,by have:=(HO'.out k hk).2.2;omega⟩,.inl HOX.out⟩
  rcases (HO'.out k hk).1 with h5|h5
  ·rcases h5.1 with h6|h6
   ·exact .inl (HOD.out k h6).1
   ·exact .inr (by omega)
  ·exact .inr (by omega)
 refine bodyPost_ret (v:=faultV Sp.okF) (by simp[results,Tryz.results30,go_sem,faultV,Sp.okF,sv,k0,k1,k2,k3]) rfl ⟨rfl,hend⟩
def secs(z:Int):Nat:=(min (max z 16) 256).toNat
theorem secs_ok(z:Int):16<=secs z/\secs z<=256/\min (max z 16) 256=(secs z:Int):=by unfold secs;omega
theorem sesNew_any{G:Nat}{w:World}(hG:Glob G w)(z:Int):
  Calls Tryz.prog 21 #[.int .i64 z] w fun e w'=>∃ x,e=.returned (.tuple #[.pointer (some ⟨x,0,none⟩),faultV Sp.okF])/\Below w.heap.size w w'/\Ses (fun k=>w.heap.size<=k) w' x (Sp.St.new (secs z)):=by
 obtain⟨hs1,hs2,hs3⟩:=secs_ok z;obtain⟨hl,_,_⟩:=V10.new_live (S:=secs z) ⟨hs1,hs2⟩;have hA:Below w.heap.size w (w.alloc (.cells #[.int .i64 0,.int .i64 0,.int .i64 0,.string ⟨#[]⟩] 23)):=(Below.refl _ _).alloc (Nat.le_refl _) _;have hz1:(w.alloc (.cells #[.int .i64 0,.int .i64 0,.int .i64 0,.string ⟨#[]⟩] 23)).heap.size=w.heap.size+1:=by simp
 have hzb:ZB (w.alloc (.cells #[.int .i64 0,.int .i64 0,.int .i64 0,.string ⟨#[]⟩] 23)) w.heap.size:=heap_alloc_new _ _;have hnd:=newDisk_any (secs z) ⟨by omega,hs2⟩ (w.alloc (.cells #[.int .i64 0,.int .i64 0,.int .i64 0,.string ⟨#[]⟩] 23));have HND:=hid hnd;have HZB:=hid hzb;have HA:=hid hA;have HZ1:=hid hz1;have HG:=hid (hG.keep hA);have HL:=hid hl;obtain⟨n,hn⟩:∃ n,n=secs z:=⟨_,rfl⟩
 rw[<-hn] at hs3 HND HL hs1 hs2 ⊢;have hsl:(Sp.fresh n).seen.length=n:=by simp[Sp.fresh]
 clear hnd hzb hA hz1 hG hl hn;go_enter Tryz.func21,Tryz.ntmps21;go_wp2_with fail;generalize w.alloc (.cells #[.int .i64 0,.int .i64 0,.int .i64 0,.string ⟨#[]⟩] 23)=w1 at *;have hz1a:=Nat.le_of_eq HZ1.out;have hz1b:=Nat.le_of_eq HZ1.out.symm;refine HND.out.mono ?_;rintro e w2 ⟨rfl,hb2,hdk⟩;have hz2:=hb2.size;have hB:Below w2.heap.size w2 (w2.alloc (.cells #[.pointer (some ⟨w1.heap.size,0,none⟩),.pointer none] 94)):=(Below.refl _ _).alloc (Nat.le_refl _) _;have hzB:(w2.alloc (.cells #[.pointer (some ⟨w1.heap.size,0,none⟩),.pointer none] 94)).heap.size=w2.heap.size+1:=by simp
 have hxB:(w2.alloc (.cells #[.pointer (some ⟨w1.heap.size,0,none⟩),.pointer none] 94)).heap[w2.heap.size]? = some (.cells #[.pointer (some ⟨w1.heap.size,0,none⟩),.pointer none] 94 (0,0)):=heap_alloc_new _ _;have hop:=sesOpen_any ((HG.out.keep hb2).keep hB) hxB (hdk.below hB) (fun k hk=>⟨by have:=hk.2;omega,by have:=hk.2;omega⟩) (by rw[hsl];exact hs1) HL.out.ok (by
  have h1:=V8.size_count HL.out.ok.set.good;have h2:=HL.out.room;unfold Sp.room at h2;have h3:(Sp.St.opened (Sp.fresh n)).L=(Sp.St.new n).L:=rfl;rw[h3];omega)
 have HOP:=hid hop;have HB:=hid hB;have HZB2:=hid hzB;have HB2:=hid hb2;clear hop hB hzB hxB hdk hb2;go_wp2_with fail;generalize w2.alloc (.cells #[.pointer (some ⟨w1.heap.size,0,none⟩),.pointer none] 94)=w3 at *;have hz3a:=Nat.le_of_eq HZB2.out;have hz3b:=Nat.le_of_eq HZB2.out.symm;refine HOP.out.mono ?_;rintro e w4 ⟨rfl,hch4,s',O',hx4,hsto,hO'⟩;have hz4:=hch4.size;have hR4:ZB w4 w.heap.size:=(hch4.block _ (by omega) (show w.heap.size≠w2.heap.size by omega)).trans ((HB.out.block _ (by omega)).trans ((HB2.out.block _ (by omega)).trans HZB.out));obtain⟨k0,k1,k2,k3,g0,g1,g2,g3,hRl⟩:=hR4.cells;have HCH4:=hid hch4;have HX4:=hid hx4;have HSTO:=hid hsto;have HO':=hid hO';clear hR4 hch4 hx4 hsto hO';unfold faultV sv;go_wp2_with fail;go_region;go_wp2_with fail;obtain⟨W,hW⟩:∃ W,W=((putF w4 w.heap.size Sp.okF).alloc (.cells #[.int .i64 (Sp.okF.kind:Int),.int .i64 (Sp.okF.which:Int),.int .i64 (Sp.okF.line:Int),.string ⟨Sp.okF.name.toArray⟩] 23)).drew:=⟨_,rfl⟩
 have hzp:=putF_size w4 w.heap.size Sp.okF;have hzW:w4.heap.size<=W.heap.size:=by
  rw[hW];show w4.heap.size<=(World.alloc _ _).heap.size;rw[World.size_alloc,hzp];omega
 have hbW:Below w.heap.size w W:=by
  rw[hW];exact((((HA.out.trans (HB2.out.mono (by omega))).trans (HB.out.mono (by omega))).trans (HCH4.out.below (B:=w.heap.size) (by omega) (by rintro k rfl;omega))).trans (putF_below w4 _ _ (Nat.le_refl _))).trans ((((Below.refl _ _).alloc (by rw[hzp];omega) _)).drew)
 have hkeep:∀ k,k<w4.heap.size->k≠w.heap.size->W.heap[k]? = w4.heap[k]?:=fun k hk hne=>by
  rw[hW]
  show(World.alloc _ _).heap[k]? = _
  rw[Below.heap_alloc _ _ _ (by rw[hzp];omega),putF_other _ _ _ hne]
 have hOR:∀ k,O' k->w.heap.size<k:=fun k hk=>by
  rcases (HO'.out k hk).1 with h5|h5
  ·have:=h5.1;omega
  ·omega
 have hend:Below w.heap.size w W/\Ses (fun k=>w.heap.size<=k) W w2.heap.size (Sp.St.new n):=
  ⟨hbW,w1.heap.size,s',O',(hkeep _ (by omega) (by omega)).trans HX4.out,HSTO.out.keep (fun k hk hl=>hkeep k hl (by have:=hOR k hk;omega)) hzW,fun k hk=>⟨by have:=hOR k hk;omega,(HO'.out k hk).2.1,by have:=(HO'.out k hk).2.2;omega⟩,(by show w.heap.size<=w2.heap.size;omega)⟩
 rw[hW] at hend;refine bodyPost_ret (v:=.tuple #[.pointer (some ⟨w2.heap.size,0,none⟩),faultV Sp.okF]) (by simp[results,Tryz.results21,go_sem,faultV,sv,k0,k1,k2,k3,hRl]) rfl ⟨_,rfl,hend⟩
end
section
open Go.RowKit Go.Maps Go.Shelf
attribute [local go_sem] Oper.semAt_some
theorem StrsFrom.get{B:Nat}{w:World}{v:Value}{l:List Sp.Str}(h:StrsFrom B w v l):∃ a cap,v=.slice a l.length cap/\l.length<=cap/\∀ k,(hk:k<l.length)->∃ b off,a=some ⟨b,off,none⟩/\B<=b/\b<w.heap.size/\w.cell? ⟨b,off+k,none⟩=some (.string ⟨l[k].toArray⟩):=by
 obtain⟨a,cap,hv,hc,h⟩:=h;refine⟨a,cap,by simpa using hv,by simpa using hc,fun k hk=>?_⟩;obtain⟨b,off,ha,hb,hx⟩:=h k [sv l[k]] (by rw[List.getElem?_map,List.getElem?_eq_getElem hk];rfl);exact⟨b,off,ha,hb.1,hb.2,by have:=hx 0 (sv l[k]) rfl;simpa[sv] using this⟩
theorem names_from(mb:Nat)(L:List (Nat × Sp.Pk))(w:World)(h:MapAt w mb (kvOf L))(hmax:L.length<1000000000):
  Calls Tryz.prog 77 #[.map (some mb)] w fun e w'=>∃ v,e=.returned v/\StrsFrom w.heap.size w' v (Sp.sorted (Sp.names (L.map (·.2))))/\Below w.heap.size w w':=by
 refine(names_map mb (kvOf L) w h (by unfold kvOf;rw[List.length_map];exact hmax)).mono ?_;rintro e w' ⟨v,rfl,hrow,hb⟩;rw[kvOf_names] at hrow;refine⟨v,rfl,?_,hb⟩;have hl:(kvOf L).length=(Sp.sorted (Sp.names (L.map (·.2)))).length:=by
  rw[(V8.sorted_perm _).length_eq];unfold kvOf Sp.names;simp
 rw[hl] at hrow;exact StrsFrom.of_row hrow (Nat.le_succ _)
namespace PK
def rowOf(W:World)(b:Nat):Option Nat:=(W.cell? ⟨b,0,none⟩).bind Value.ownBlock
structure KP(n₀ B1 B2:Nat)(A B:World):Prop where
 low:Below n₀ A B
 keep:∀ k,k<A.heap.size->k≠B1->k≠B2->rowOf A B1≠some k->(∃ o:Obj,A.heap[k]? = some o/\o.isCells=true)->B.heap[k]? = A.heap[k]?
 row:rowOf B B1=rowOf A B1\/∀ g,rowOf B B1=some g->A.heap.size<=g
theorem KP.trans{n₀ B1 B2:Nat}{A B C:World}(h:KP n₀ B1 B2 A B)(k:KP n₀ B1 B2 B C):KP n₀ B1 B2 A C:=by
 have hz:=h.low.size;refine⟨h.low.trans k.low,fun i hi h1 h2 h3 h4=>?_,?_⟩
 ·have e1:=h.keep i hi h1 h2 h3 h4
  refine(k.keep i (by omega) h1 h2 (fun e=>?_) (by rw[e1];exact h4)).trans e1
  rcases h.row with h5|h5
  ·exact h3 (h5 ▸ e)
  ·have:=h5 i e;omega
 ·rcases k.row with h5|h5
  ·rw[h5];exact h.row
  ·exact .inr fun g hg=>by have:=h5 g hg;omega
theorem KP.below{n₀ B1 B2:Nat}{A B:World}(hn:n₀<=A.heap.size)(hB:B1<A.heap.size)(h:Below A.heap.size A B):KP n₀ B1 B2 A B:=
 ⟨h.mono hn,fun k hk _ _ _ _=>h.block k hk,.inl (by unfold rowOf;rw[h.cell (p:=⟨B1,0,none⟩) hB])⟩
theorem KP.put{n₀ B1 B2:Nat}{w:World}(hn:n₀<=w.heap.size)(hB:B1<w.heap.size)(W:World)(l:Nat)(o o':Obj)(hl:w.heap.size<=l)(h:W.heap[l]? = some o)(hc:o.isCells=false)(hw:o.isWalk=false):KP n₀ B1 B2 W (W.putObj l o'):=by
 refine⟨belowK_b hn W l o o' hl h hc hw,fun k hk _ _ _ h4=>World.putObj_heap_other fun e=>?_,.inl ?_⟩
 ·obtain⟨x,hx,hxc⟩:=h4
  subst e;rw[h] at hx
  cases hx
  rw[hc] at hxc;cases hxc
 ·unfold rowOf
  rw[World.cell?_of_block (w:=W) (a:=⟨B1,0,none⟩) (World.putObj_heap_other (show B1≠l by omega))]
theorem grown_none{A B:World}(h:Below A.heap.size A B):A.grownBy B none:=⟨h.os,h.tape,h.output,h.size,fun k hk _=>h.block k hk⟩
abbrev GP:Type:={ p:Sp.Pk // V3.Good p }
def encs(p:GP):Array Value:=#[.string ⟨p.1.name.toArray⟩,.string ⟨(Sp.print p.1).toArray⟩]
theorem lift:∀ (l:List Sp.Pk),(∀ p∈l,V3.Good p)->∃ ys:List GP,ys.map (·.1)=l
 | [],_=>⟨[],rfl⟩
 | p :: r,h=>by
  obtain⟨ys,hy⟩:=lift r fun q hq=>h q (List.mem_cons_of_mem _ hq)
  exact⟨⟨p,h p (by simp)⟩ :: ys,by rw[List.map_cons,hy]⟩
theorem cells_of{W:World}{b o:Nat}{v:Value}(h:W.cell? ⟨b,o,none⟩=some v):∃ x:Obj,W.heap[b]? = some x/\x.isCells=true:=cells_of_cell (a:=⟨b,o,none⟩) h
theorem stops(n:Nat)(hn:1<=n){n₀ B1 B2 Bx s mb:Nat}{L:List (Nat × Sp.Pk)}{w:World}(hn₀:n₀<=w.heap.size)(hB1:B1<w.heap.size)(hBx:Bx<w.heap.size/\Bx≠B1/\Bx≠B2/\n₀<=B1/\n₀<=B2/\B2<w.heap.size)(hbx:w.cell? ⟨Bx,0,none⟩=some (.pointer (some ⟨s,0,none⟩)))
  (hR:w.cell? ⟨B1,0,none⟩=some (.slice none 0 0))(hs:w.cell? ⟨s,2,none⟩=some (.map (some mb)))(hsn:s<n₀)(hmn:mb<n₀)(hset:SetOn (fun b=>b<n₀) w mb L)(hS:Sp.Set (pks L))(hL:L.length<=50000):
  SeqStopsK Fence.wide n Tryz.prog 76 #[.pointer (some ⟨Bx,0,none⟩)] encs (KP n₀ B1 B2) (fun xs=>xs.map (·.1)=V8.byName (pks L)) (fun _=>True) (V8.byName (pks L)).length w:=fun l J Jx W hW hJ hJx hY h0=>by
 obtain⟨ys,hys⟩:=lift (V8.byName (pks L)) fun p hp=>hS.good p ((V8.byName_mem hS p).1 hp)
 have hyl:ys.length=(V8.byName (pks L)).length:=by rw[<-hys,List.length_map]
 have hzW:=hW.size;have hbxW:=(hW.cell (p:=⟨Bx,0,none⟩) hBx.1).trans hbx;have hsW:=(hW.cell (p:=⟨s,2,none⟩) (show s<w.heap.size by omega)).trans hs;have hRW:=(hW.cell (p:=⟨B1,0,none⟩) hB1).trans hR;have hsetW:SetOn (fun b=>b<n₀) W mb L:=hset.keep (hW.block mb (by omega)) fun x hx=>hW.block x (by omega)
 have hnm:=names_from mb L W hsetW.map (by omega);have e1:Sp.sorted (Sp.names (L.map (·.2)))=ys.map (fun y=>y.1.name):=by
  have:=V8.byName_names (pks L);rw[<-hys,List.map_map] at this;exact this.symm
 rw[e1] at hnm;have hmem0:∀ y∈ys,∃ q∈L,q.2=y.1:=fun y hy=>by
  have:y.1∈V8.byName (pks L):=by rw[<-hys];exact List.mem_map.2 ⟨_,hy,rfl⟩
  obtain⟨q,hq,e⟩:=List.mem_map.1 ((V8.byName_mem hS _).1 this);exact⟨q,hq,e⟩
 have hnl:(ys.map (fun y=>y.1.name)).length=ys.length:=List.length_map _;have HMEM:=hid hmem0;have HYS:=hid hys;have HNL:=hid hnl;have hyle:=Nat.le_of_eq hyl;have hyb:ys.length<=50000:=by rw[hyl,(V8.byName_perm hS).length_eq];unfold pks;rw[List.length_map];exact hL
 have HSET:=hid hsetW;have HNM:=hid hnm;have HY:=hid hY;have HJ:=hid hJ;have H0:=hid h0;have hRo:rowOf W B1=none:=by unfold rowOf;rw[hRW];rfl
 have HRO:=hid hRo;have hsWl:s<W.heap.size:=by omega
 have hBxl:Bx<W.heap.size:=by omega
 clear e1 hmem0 hys hnl hyl hsetW hset hnm hY hJ h0 hRo hW hbx hR hs hRW hJx;refine callsIn_of_wp Tryz.func76 rfl trivial ?_ rfl;simp only[Tryz.ntmps76,List.size_toArray,List.length_cons,List.length_nil,Nat.reduceAdd,Nat.reduceSub,Array.replicate_succ,Array.replicate_zero,List.push_toArray,List.append_toArray,List.nil_append,List.cons_append]
 gi_wp2_with (refine⟨trivial,?_⟩;gi_at_call 77;refine(callsIn_wide.2 HNM.out).mono ?_;rintro e W1 ⟨v,rfl,hv,hb1⟩;obtain⟨va,vc,rfl,hvc,hvg⟩:=hv.get;(have HVG:=hid hvg);clear hv hvg)
 have hz1:=hb1.size;have h1s:=(hb1.cell (p:=⟨s,2,none⟩) (show s<W.heap.size by omega)).trans hsW;have HK0:=hid (KP.below (n₀:=n₀) (B1:=B1) (B2:=B2) (by omega) (by omega) hb1);have hJ1:J [] W1:=HJ.out [] W W1 none H0.out (grown_none hb1) fun r e=>by cases e
 have HJ1:=hid hJ1;have hcs:∀ k (hk:k<ys.length),∃ b off,va=some ⟨b,off,none⟩/\W.heap.size<=b/\b<W1.heap.size/\W1.cell? ⟨b,off+k,none⟩=some (.string ⟨(ys[k]).1.name.toArray⟩):=fun k hk=>by
  obtain⟨b,off,e,hb0,hb,hc⟩:=HVG.out k (by rw[List.length_map];exact hk);refine⟨b,off,e,hb0,hb,?_⟩;rw[hc];simp only[List.getElem_map]
 have HCS:=hid hcs;have hRo1:rowOf W1 B1=none:=by
  rw[<-HRO.out];unfold rowOf;rw[hb1.cell (p:=⟨B1,0,none⟩) (show B1<W.heap.size by omega)]
 have HR1:=hid hRo1;have HS1:=hid h1s;have HBX1:=hid ((hb1.cell (p:=⟨Bx,0,none⟩) hBxl).trans hbxW);have HSET1:=hid (HSET.out.keep (hb1.block mb (by omega)) fun x hx=>hb1.block x (by omega));obtain⟨hBx1,hBx2,hBx3,hBx4,hBx5,hBx6⟩:=hBx;clear hJ1 hcs hRo1 hb1 hbxW hsW h1s HRO HVG HNM HSET
 gi_loopw [11] (fun i wr=>∃ k:Nat,k<=ys.length/\i=.int .i64 (k:Int)/\KP n₀ B1 B2 W1 wr/\J (ys.take k) wr) (fun i _=>ys.length+1-(intOf i).toNat)
 case atStart=>exact⟨0,Nat.zero_le _,rfl,⟨Below.refl _ _,fun _ _ _ _ _ _=>rfl,.inl rfl⟩,HJ1.out⟩
 case round =>
  obtain⟨k,hk,rfl,hkp,hJk⟩:=hrel;have hzr:=hkp.low.size;have hRr:∀ g,rowOf wr B1=some g->W1.heap.size<=g:=fun g hg=>by
   rcases hkp.row with h5|h5
   ·rw[h5,HR1.out] at hg;cases hg
   ·exact h5 g hg
  have HRR:=hid hRr;have HKP:=hid hkp;have HJK:=hid hJk;have hold:∀ b o v,b<W1.heap.size->b≠B1->b≠B2->W1.cell? ⟨b,o,none⟩=some v->wr.cell? ⟨b,o,none⟩=some v:=fun b o v h1 h2 h3 h4 =>
   (World.cell?_of_block (w:=W1) (a:=⟨b,o,none⟩) (hkp.keep b h1 h2 h3 (by rw[HR1.out];exact fun e=>by cases e) (cells_of h4))).trans h4
  have hbxr:=hold Bx 0 _ (by omega) hBx2 hBx3 HBX1.out;have hsr:=(hkp.low.cell (p:=⟨s,2,none⟩) hsn).trans HS1.out;have HOLD:=hid hold;clear hkp hJk hRr hold
  by_cases hlt:k<ys.length
  ·obtain⟨b,off,rfl,hb0,hb,hc⟩:=HCS.out k hlt
   have hcr:=HOLD.out b (off+k) _ hb (by omega) (by omega) hc;obtain⟨q,hq,hqe⟩:=HMEM.out _ (List.getElem_mem hlt);have hsetr:SetOn (fun x=>x<wr.heap.size) wr mb L:=(HSET1.out.keep (HKP.out.low.block mb hmn) fun x hx=>HKP.out.low.block x hx).mono fun x hx=>by omega
   have hpk:=hsetr.2.2 q hq;have hlk:=hsetr.map.look Tryz.underlying140 zero118 q.2.name (by have:=hpk.2.name;unfold maxLen;omega);rw[MP.kv_at hsetr.2.1 hq,hqe] at hlk;have hpr:=print_any q.1 q.2 wr hpk.1 hpk.2;rw[hqe] at hpr;have HPR:=hid hpr;have hyk:=fun (w2:World) (hw2:J (ys.take k) w2)=>HY.out (ys.take k) ys[k] w2 hw2 (by rw[List.length_take];omega)
   have htk:ys.take k ++ [ys[k]]=ys.take (k+1):=(List.take_succ_eq_append_getElem hlt).symm;rw[htk] at hyk;have HYK:=hid hyk;have hbr:b<wr.heap.size:=by omega
   clear hc hq hqe hsetr hpk hpr hyk htk;obtain⟨y,hy⟩:∃ y,y=ys[k]:=⟨_,rfl⟩
   rw[<-hy] at hcr hlk HPR HYK;clear hy;unfold sv at HPR
   gi_wp2_with (refine⟨trivial,?_⟩;gi_at_call 64;refine(callsIn_wide.2 HPR.out).mono ?_;rintro e w2 ⟨rfl,hb2⟩;(have hJ2:J (ys.take k) w2:=HJ.out _ wr w2 none HJK.out (grown_none hb2) fun r e=>by cases e);(have HK2:=hid (HKP.out.trans (KP.below (n₀:=n₀) (B1:=B1) (B2:=B2) (by omega) (by omega) hb2)));obtain⟨fn,tmps,assign,body,hyl,hR⟩:=HYK.out w2 hJ2;(have HRO:=hid hR);unfold encs at hyl;clear hR hJ2 hb2 hlk hcr)
   refine HRO.out.mono ?_;rintro e W3 (⟨rfl,hJ3,hk3⟩|⟨rfl,hJx3⟩)
   ·have HJ3:=hid hJ3
    have HK3:=hid (HK2.out.trans hk3);clear hJ3 hk3 hyl
    gi_wp2
    go_roundw
    case rel=>exact⟨k+1,hlt,by go_num,HK3.out,HJ3.out⟩
    case measure=>simp[intOf];omega
   ·have HX3:=hid hJx3
    clear hJx3 hyl
    gi_wp2
    refine bodyPost_ret (results_none rfl _ _ _) rfl ?_;exact⟨⟨_,rfl⟩,.inr ⟨_,trivial,HX3.out⟩⟩
  ·obtain rfl:k=ys.length:=by omega
   have hJe:=HJK.out;rw[List.take_length] at hJe;have HJE:=hid hJe;clear hJe
   gi_wp2
   go_end0
   exact⟨⟨_,rfl⟩,.inl ⟨ys,HYS.out,HJE.out⟩⟩
end PK
end
section
open Go.RowKit Go.Maps
namespace PK
theorem again{w:World}{Bo Bn Bk Bl b off m cap j:Nat}{nm:ByteArray}{t:ByteArray}(ho:Boxed w Bo 4 (.bool true))(hn:Boxed w Bn 4 (.bool false))(hk:Boxed w Bk 3 (.int .i64 (j:Int)))(hl:Boxed w Bl 38 (.slice (some ⟨b,off,none⟩) m cap))
  (hc:w.cell? ⟨b,off+j,none⟩=some (.string t))(hj:j<m)(hm:m<=100000)(hne:Bo≠Bn/\Bo≠Bk/\Bo≠Bl/\Bn≠Bk/\Bn≠Bl/\Bk≠Bl/\b≠Bo/\b≠Bn/\b≠Bk):
  Calls Tryz.prog 51 #[.string nm,.string t,.pointer (some ⟨Bo,0,none⟩),.pointer (some ⟨Bn,0,none⟩),.pointer (some ⟨Bk,0,none⟩),.pointer (some ⟨Bl,0,none⟩)] w fun e w'=>∃ g:Bool,e=.returned (.bool (!g)) /\
   w'=((w.setCell ⟨Bo,0,none⟩ (.bool true)).setCell ⟨Bk,0,none⟩ (.int .i64 ((j:Int)+1))).setCell ⟨Bn,0,none⟩ (.bool g):=by
 obtain⟨n1,n2,n3,n4,n5,n6,n7,n8,n9⟩:=hne;have c0:=ho.cell;have c1:=hn.cell;have c2:=hk.cell;have c3:=hl.cell;have f0:=ho.frozen;have f1:=hn.frozen;have f2:=hk.frozen;have l0:=ho.lt;have l1:=hn.lt;have l2:=hk.lt;have l3:=hl.lt;have hji:(j:Int)<(m:Int):=by omega
 clear ho hn hk hl;go_enter Tryz.func51,Tryz.ntmps51;go_wp2;go_ret;exact⟨_,rfl,rfl⟩
theorem boxed_chg{M:Nat->Prop}{A B:World}{b:Nat}{t:TypeId}{v:Value}(h:Boxed A b t v)(hc:Chg M A B)(hm:¬M b):Boxed B b t v:=(hc.block b h.lt hm).trans h
def three(Bo Bn Bk k:Nat):Prop:=k=Bo\/k=Bn\/k=Bk
theorem gone{S:Nat->Prop}{w:World}{Bo Bn Bk Bl Bx s mb lc:Nat}{la:Option Addr}{L:List (Nat × Sp.Pk)}{ys:List Sp.Pk}(hys:ys=V8.byName (pks L))(hS:Sp.Set (pks L))(hL:L.length<=50000)
  (ho:Boxed w Bo 4 (.bool true))(hn:Boxed w Bn 4 (.bool false))(hk:Boxed w Bk 3 (.int .i64 0))(hl:Boxed w Bl 38 (.slice la ys.length lc))
  (hne:Bo≠Bn/\Bo≠Bk/\Bo≠Bl/\Bn≠Bk/\Bn≠Bl/\Bk≠Bl)
  (hc:∀ j (hj:j<ys.length),∃ b off,la=some ⟨b,off,none⟩/\b<w.heap.size/\¬three Bo Bn Bk b/\w.cell? ⟨b,off+j,none⟩=some (.string ⟨(Sp.print ys[j]).toArray⟩))
  (hx:w.cell? ⟨Bx,0,none⟩=some (.pointer (some ⟨s,0,none⟩)))(hxl:Bx<w.heap.size/\¬three Bo Bn Bk Bx)(hs:w.cell? ⟨s,2,none⟩=some (.map (some mb)))(hsl:s<w.heap.size/\¬three Bo Bn Bk s)
  (hset:SetOn S w mb L)(hSb:∀ x,(S x\/x=mb)->x<w.heap.size/\¬three Bo Bn Bk x):
  Calls Tryz.prog 76 #[.func (.func 51) #[] #[.pointer (some ⟨Bo,0,none⟩),.pointer (some ⟨Bn,0,none⟩),.pointer (some ⟨Bk,0,none⟩),.pointer (some ⟨Bl,0,none⟩)],.pointer (some ⟨Bx,0,none⟩)] w fun e w' =>
   e=.returned (.tuple #[])/\Chg (three Bo Bn Bk) w w'/\Boxed w' Bo 4 (.bool true):=by
 have hyb:ys.length<=50000:=by rw[hys,(V8.byName_perm hS).length_eq];unfold pks;rw[List.length_map];exact hL
 have e1:Sp.sorted (Sp.names (L.map (·.2)))=ys.map (·.name):=by rw[hys];exact(V8.byName_names (pks L)).symm
 have hnm:=names_from mb L w hset.map (by omega);rw[e1] at hnm;have hmem:∀ y∈ys,∃ q∈L,q.2=y:=fun y hy=>by
  rw[hys] at hy;obtain⟨q,hq,e⟩:=List.mem_map.1 ((V8.byName_mem hS _).1 hy);exact⟨q,hq,e⟩
 have HMEM:=hid hmem;have HNM:=hid hnm;have HO:=hid ho;have HN:=hid hn;have HK:=hid hk;have HL:=hid hl;have HNE:=hid hne;have HC:=hid hc;have HX:=hid hx;have HXL:=hid hxl;have HSC:=hid hs;have HSL:=hid hsl;have HSET:=hid hset;have HSB:=hid hSb;have hxll:=hxl.1;have hsll:=hsl.1;clear hys hS e1 hnm hmem ho hn hk hl hne hc hxl hsl hset hSb;go_enter Tryz.func76,Tryz.ntmps76;go_wp2_with fail;refine HNM.out.mono ?_;rintro e w1 ⟨v,rfl,hv,hb1⟩;have hz1:=hb1.size;obtain⟨va,vc,rfl,hvc,hvg⟩:=hv.get;rw[List.length_map];have HVG:=hid hvg;have HB1:=hid hb1;clear hv hvg hb1 hx hs;go_wp2
 go_loopw [11] (fun i wr=>∃ k:Nat,k<=ys.length/\i=.int .i64 (k:Int)/\Boxed wr Bo 4 (.bool true)/\Boxed wr Bn 4 (.bool false)/\Boxed wr Bk 3 (.int .i64 (k:Int))/\Chg (three Bo Bn Bk) w1 wr) (fun i _=>ys.length+1-(intOf i).toNat)
 case atStart=>exact⟨0,Nat.zero_le _,rfl,(HB1.out.block Bo HO.out.lt).trans HO.out,(HB1.out.block Bn HN.out.lt).trans HN.out,(HB1.out.block Bk HK.out.lt).trans HK.out,Chg.refl _ _⟩
 case round =>
  obtain⟨k,hk,rfl,hbo,hbn,hbk,hch⟩:=hrel;have hzr:=hch.size;have HBO:=hid hbo;have HBN:=hid hbn;have HBK:=hid hbk;have HCH:=hid hch;have hold:∀ b,b<w.heap.size->¬three Bo Bn Bk b->wr.heap[b]? = w.heap[b]?:=fun b h1 h2=>(hch.block b (by omega) h2).trans (HB1.out.block b h1)
  have HOLD:=hid hold;have hxr:=(World.cell?_of_block (w:=w) (a:=⟨Bx,0,none⟩) (hold Bx hxll HXL.out.2)).trans HX.out;have hsr:=(World.cell?_of_block (w:=w) (a:=⟨s,2,none⟩) (hold s hsll HSL.out.2)).trans HSC.out;have hxrl:Bx<wr.heap.size:=by omega
  have hsrl:s<wr.heap.size:=by omega
  clear hbo hbn hbk hch hold
  by_cases hlt:k<ys.length
  ·obtain⟨nb,noff,rfl,hn0,hn1,hnc⟩:=HVG.out k (by rw[List.length_map];exact hlt)
   rw[List.getElem_map] at hnc;have hn3:¬three Bo Bn Bk nb:=fun h=>by
    have h1:=HO.out.lt;have h2:=HN.out.lt;have h3:=HK.out.lt
    rcases h with h|h|h <;> omega
   have hncr:=(World.cell?_of_block (w:=w1) (a:=⟨nb,noff+k,none⟩) (HCH.out.block nb (by omega) hn3)).trans hnc;obtain⟨q,hq,hqe⟩:=HMEM.out _ (List.getElem_mem hlt);have hsetr:SetOn (fun x=>x<wr.heap.size) wr mb L:=(HSET.out.keep (HOLD.out mb (HSB.out mb (.inr rfl)).1 (HSB.out mb (.inr rfl)).2) fun x hx=>HOLD.out x (HSB.out x (.inl hx)).1 (HSB.out x (.inl hx)).2).mono fun x hx=>by have:=(HSB.out x (.inl hx)).1;omega
   have hpk:=hsetr.2.2 q hq;have hlk:=hsetr.map.look Tryz.underlying140 zero118 q.2.name (by have:=hpk.2.name;unfold maxLen;omega);rw[MP.kv_at hsetr.2.1 hq,hqe] at hlk;have hpr:=print_any q.1 q.2 wr hpk.1 hpk.2;rw[hqe] at hpr;obtain⟨lb,loff,rfl,hl0,hl3,hlc⟩:=HC.out k hlt;have hlcr:=(World.cell?_of_block (w:=w) (a:=⟨lb,loff+k,none⟩) (HOLD.out lb hl0 hl3)).trans hlc;obtain⟨y,hy⟩:∃ y,y=ys[k]:=⟨_,rfl⟩
   rw[<-hy] at hncr hlk hpr hlcr;have HPR:=hid hpr;have HLCR:=hid hlcr;have hnbl:nb<wr.heap.size:=by omega
   have hlbl:lb<wr.heap.size:=by omega
   have HL3:=hid hl3;clear hnc hn3 hq hqe hsetr hpk hpr hlc hlcr hy hl3;unfold sv at HPR;go_wp2_with fail;refine HPR.out.mono ?_;rintro e w2 ⟨rfl,hb2⟩;have hz2:=hb2.size;obtain⟨n1,n2,n3,n4,n5,n6⟩:=HNE.out;have ho2:Boxed w2 Bo 4 (.bool true):=(hb2.block Bo HBO.out.lt).trans HBO.out;have hn2:Boxed w2 Bn 4 (.bool false):=(hb2.block Bn HBN.out.lt).trans HBN.out;have hk2:Boxed w2 Bk 3 (.int .i64 (k:Int)):=(hb2.block Bk HBK.out.lt).trans HBK.out;have hl2:Boxed w2 Bl 38 (.slice (some ⟨lb,loff,none⟩) ys.length lc):=(hb2.block Bl (by have:=HL.out.lt;omega)).trans ((HOLD.out Bl HL.out.lt (fun h=>by rcases h with h|h|h <;> omega)).trans HL.out);have hag:=again (nm:=⟨y.name.toArray⟩) ho2 hn2 hk2 hl2 ((hb2.cell (p:=⟨lb,loff+k,none⟩) hlbl).trans HLCR.out) hlt (by omega) ⟨n1,n2,n3,n4,n5,n6,fun e=>HL3.out (.inl e),fun e=>HL3.out (.inr (.inl e)),fun e=>HL3.out (.inr (.inr e))⟩;have HAG:=hid hag;have hrest:∀ g:Bool,Boxed (((w2.setCell ⟨Bo,0,none⟩ (.bool true)).setCell ⟨Bk,0,none⟩ (.int .i64 ((k:Int)+1))).setCell ⟨Bn,0,none⟩ (.bool g)) Bo 4 (.bool true) /\
     Boxed (((w2.setCell ⟨Bo,0,none⟩ (.bool true)).setCell ⟨Bk,0,none⟩ (.int .i64 ((k:Int)+1))).setCell ⟨Bn,0,none⟩ (.bool g)) Bn 4 (.bool g) /\
     Boxed (((w2.setCell ⟨Bo,0,none⟩ (.bool true)).setCell ⟨Bk,0,none⟩ (.int .i64 ((k:Int)+1))).setCell ⟨Bn,0,none⟩ (.bool g)) Bk 3 (.int .i64 ((k:Int)+1)) /\
     Chg (three Bo Bn Bk) w1 (((w2.setCell ⟨Bo,0,none⟩ (.bool true)).setCell ⟨Bk,0,none⟩ (.int .i64 ((k:Int)+1))).setCell ⟨Bn,0,none⟩ (.bool g)):=fun g =>
    ⟨((ho2.set _).other n2 _).other n1 _,((hn2.other (fun e=>n1 e.symm) _).other n4 _).set _,((hk2.other (fun e=>n2 e.symm) _).set _).other (fun e=>n4 e.symm) _,
     (((HCH.out.trans (Chg.of_below hb2)).setCell (p:=⟨Bo,0,none⟩) (.inl rfl) _).setCell (p:=⟨Bk,0,none⟩) (.inr (.inr rfl)) _).setCell (p:=⟨Bn,0,none⟩) (.inr (.inl rfl)) _⟩
   have HREST:=hid hrest;clear hag hrest ho2 hn2 hk2 hl2 hb2 hlk;go_wp2_with fail;refine HAG.out.mono ?_;rintro e w3 ⟨g,rfl,hw3⟩;obtain⟨r1,r2,r3,r4⟩:=HREST.out g;rw[<-hw3] at r1 r2 r3 r4;have R1:=hid r1;have R2:=hid r2;have R3:=hid r3;have R4:=hid r4;clear hw3 r1 r2 r3 r4 n1 n2 n3 n4 n5 n6
   cases g with
   | false =>
    go_wp2;go_roundw
    case rel=>exact⟨k+1,hlt,by go_num,R1.out,R2.out,R3.out,R4.out⟩
    case measure=>simp[intOf];omega
   | true =>
    go_wp2;refine bodyPost_ret (results_none rfl _ _ _) rfl ?_;exact⟨rfl,(Chg.of_below HB1.out).trans R4.out,R1.out⟩
  ·obtain rfl:k=ys.length:=by omega
   go_wp2
   go_end0
   exact⟨rfl,(Chg.of_below HB1.out).trans HCH.out,HBO.out⟩
end PK
end
section
open Go.RowKit Go.Maps Go.Shelf
attribute [local go_sem] Oper.semAt_some
theorem storePackages_any(s:Nat)(w:World):Calls Tryz.prog 50 #[.pointer (some ⟨s,0,none⟩)] w fun e w'=>e=.returned (.func (.func 76) #[] #[.pointer (some ⟨w.heap.size,0,none⟩)])/\w'=w.alloc (.cells #[.pointer (some ⟨s,0,none⟩)] 92):=by
 have hmf:∀ (fn:Fn) (first cap:Array Value) (w:World),(Instr.makeFunc fn first cap).run Tryz.prog w=.ok (.func fn first cap) w:=fun _ _ _ _=>rfl
 go_enter Tryz.func50,Tryz.ntmps50;go_wp2;go_ret;exact⟨rfl,rfl⟩
namespace PK
def prints(l:List GP):List Value:=l.map fun p=>.string ⟨(Sp.print p.1).toArray⟩
theorem told{p:Sp.Pk}(h:V3.Good p):∃ N T:ByteArray,N=⟨p.name.toArray⟩/\T=⟨(Sp.print p).toArray⟩/\(8:Int)+(N.size:Int)<(T.size:Int)/\T.size<=300/\(T.extract 0 8).toList=[112,97,99,107,97,103,101,32]/\(T.extract 8 (8+N.size)).toList=N.toList /\
  ∀ h:8+N.size<T.size,T[8+N.size]=32:=by
 obtain⟨r,hr,_⟩:=V3.print_head p;have hl:=h.len;have hp:(Sp.print p).length=8+p.name.length+1+r.length:=by rw[hr];simp;omega
 have hs:(⟨(Sp.print p).toArray⟩:ByteArray).size=(Sp.print p).length:=by show(Sp.print p).toArray.size=_;simp
 have hn:(⟨p.name.toArray⟩:ByteArray).size=p.name.length:=by show p.name.toArray.size=_;simp
 have hb:bl ⟨(Sp.print p).toArray⟩=[112,97,99,107,97,103,101,32] ++ (p.name ++ 32 :: r):=by rw[bl_mk,hr]
 refine⟨_,_,rfl,rfl,by rw[hs,hn];omega,by rw[hs];omega,?_,?_,fun hlt=>?_⟩
 ·rw[toList_bl,bl_to,hb];rfl
 ·rw[toList_bl,toList_bl,bl_ext,hb,bl_mk,hn]
  simp
 ·have h2:(bl ⟨(Sp.print p).toArray⟩)[8+p.name.length]? = some 32:=by
   rw[hb,List.getElem?_append_right (by simp)];simp
  obtain⟨h3,h4⟩:=List.getElem?_eq_some_iff.1 h2;have h5:(⟨(Sp.print p).toArray⟩:ByteArray)[8+p.name.length]'(by rw[<-hn];exact hlt)=32:=h4;simp only[hn];exact h5
theorem row_strs{B n:Nat}{w:World}{v:Value}{l:List Sp.Str}(h:w.ownsRow B 9 1 v n (l.map sv))(hn:n=l.length):∃ la lc,v=.slice la n lc/\∀ j (hj:j<l.length),∃ b off,la=some ⟨b,off,none⟩/\b<w.heap.size/\v.ownBlock=some b/\w.cell? ⟨b,off+j,none⟩=some (.string ⟨l[j].toArray⟩):=by
 subst hn;obtain⟨a,cap,hv,hc,hx⟩:=(StrsFrom.of_row h (Nat.le_refl B)).get;refine⟨a,cap,hv,fun j hj=>?_⟩;obtain⟨b,off,ha,_,hb2,hcell⟩:=hx j hj;refine⟨b,off,ha,hb2,?_,hcell⟩;obtain⟨g,c2,hg,_,_⟩:=h.form (by omega);rw[hg] at hv ⊢;injection hv with h1 _ _
 rw[ha] at h1;injection h1 with h1
 injection h1 with h1 _ _
 show some g=some b
 rw[h1]
theorem packages_any{O:Nat->Prop}{w:World}{x:Nat}{st:Sp.St}(h:Ses O w x st)(hS:Sp.Set st.L)(hL:st.L.length<=50000):
  Calls Tryz.prog 26 #[.pointer (some ⟨x,0,none⟩)] w fun e w'=>∃ v,e=.returned (.tuple #[v,.bool true])/\StrsFrom w.heap.size w' v (Sp.texts st.L)/\Below w.heap.size w w':=by
 have hmf:∀ (fn:Fn) (first cap:Array Value) (w:World),(Instr.makeFunc fn first cap).run Tryz.prog w=.ok (.func fn first cap) w:=fun _ _ _ _=>rfl
 have hxl:=h.lt;obtain⟨D,s,O1,h1,⟨mb,ob,OD,S,L,s1,s2,s3,s4,s5,s6,s7,s8⟩,h3,h4⟩:=h;obtain⟨c0,c1⟩:=Ses.cells h1;obtain⟨_,_,d2,_,_⟩:=s1.cells;have hsl:=s1.lt;have hml:=s3.map.lt;rw[<-s5] at hS hL;have hL':L.length<=50000:=by unfold pks at hL;rw[List.length_map] at hL;exact hL
 have hset:SetOn (fun b=>b<w.heap.size) w mb L:=s3.mono fun y hy=>(s8 y (.inl hy)).1
 have HSET:=hid hset;have HS:=hid hS;have HE:=hid s5;obtain⟨i0,hi0,hz0,hz1,hz2⟩:=info_parts infoStr;have HI0:=hid hi0;have HZ0:=hid hz0;have HZ1:=hid hz1;have HZ2:=hid hz2;clear hi0 hz0 hz1 hz2 hset h1 s1 s2 s3 s4 s5 s6 s7 s8 h3 h4 hS hL;refine(callsIn_wide (n:=5)).1 ?_;refine callsIn_of_wp_marks Tryz.func26 rfl trivial ?_ rfl;simp only[Tryz.ntmps26,List.size_toArray,List.length_cons,List.length_nil,Nat.reduceAdd,Nat.reduceSub,Array.replicate_succ,Array.replicate_zero,List.push_toArray,List.append_toArray,List.nil_append,List.cons_append]
 gi_wp2_with (refine⟨trivial,?_⟩;gi_at_call 50;refine(callsIn_wide.2 (storePackages_any s _)).mono ?_;rintro e w' ⟨rfl,rfl⟩)
 have bL:=Boxed.new w 38 (.slice none 0 0);have bO:=Boxed.new (w.alloc (.cells #[.slice none 0 0] 38)) 4 (.bool true);have bX:=Boxed.new ((w.alloc (.cells #[.slice none 0 0] 38)).alloc (.cells #[.bool true] 4)) 92 (.pointer (some ⟨s,0,none⟩));rw[World.size_alloc] at bO;rw[World.size_alloc,World.size_alloc] at bX;have bL2:=(bL.alloc (.cells #[.bool true] 4)).alloc (.cells #[.pointer (some ⟨s,0,none⟩)] 92);have bO2:=bO.alloc (.cells #[.pointer (some ⟨s,0,none⟩)] 92);have hB0:Below w.heap.size w (((w.alloc (.cells #[.slice none 0 0] 38)).alloc (.cells #[.bool true] 4)).alloc (.cells #[.pointer (some ⟨s,0,none⟩)] 92)):=(((Below.refl _ w).alloc (Nat.le_refl _) _).alloc (by simp) _).alloc (by simp;omega) _;have hz0:(((w.alloc (.cells #[.slice none 0 0] 38)).alloc (.cells #[.bool true] 4)).alloc (.cells #[.pointer (some ⟨s,0,none⟩)] 92)).heap.size=w.heap.size+3:=by simp
 obtain⟨w0,hw0⟩:∃ w0,w0=(((w.alloc (.cells #[.slice none 0 0] 38)).alloc (.cells #[.bool true] 4)).alloc (.cells #[.pointer (some ⟨s,0,none⟩)] 92)):=⟨_,rfl⟩
 rw[<-hw0] at bL2 bO2 bX hB0 hz0 ⊢;have hd2:=(hB0.cell (p:=⟨s,2,none⟩) hsl).trans d2;have hset0:SetOn (fun b=>b<w.heap.size) w0 mb L:=HSET.out.keep (hB0.block mb hml) fun y hy=>hB0.block y hy
 have hst:=stops (5-1) (by omega) (n₀:=w.heap.size) (B1:=w.heap.size) (B2:=w.heap.size+1) (Bx:=w.heap.size+1+1) (s:=s) (mb:=mb) (L:=L) (w:=w0) (by omega) (by omega) ⟨by omega,by omega,by omega,by omega,by omega,by omega⟩ bX.cell bL2.cell hd2 hsl hml hset0 HS.out hL';have HST:=hid hst;have HW0:=hid hw0;have HZ:=hid hz0;have hz0a:=Nat.le_of_eq hz0;have hz0b:=Nat.le_of_eq hz0.symm;clear hst hw0 hz0 bL bO hd2 hset0;refine wpIn_rangeFunc_ownF rfl (by omega) (gf:=76) (lb:=#[.pointer (some ⟨w.heap.size+1+1,0,none⟩)]) rfl trivial (enters_of Tryz.func76 (by kernel_rfl) rfl) HST.out (fun h k=>KP.trans h k)
  (fun W l o o' hl h hc hw=>KP.put (w:=w0) (by omega) (by omega) W l o o' hl h hc hw) (Below.refl _ _) (fun _=>rfl)
  (fun pre W=>((∃ v,Boxed W w.heap.size 38 v/\W.ownsRow w.heap.size 9 1 v pre.length (prints pre)/\True)/\Boxed W (w.heap.size+1) 4 (.bool true)/\Boxed W (w.heap.size+1+1) 92 (.pointer (some ⟨s,0,none⟩)))/\Below w.heap.size w W)
  (fun _ _ _=>False)
  (OwnFrom.and (OwnFrom.and (Own.from (holdsRow_own w.heap.size w.heap.size 38 9 1 (fun pre=>pre.length) (fun pre=>prints pre) (fun _ _=>True)) _) (OwnFrom.and (Own.from (boxed_own _ _ _) _) (Own.from (boxed_own _ _ _) _))) (ownFrom_below (Nat.le_refl _) (by omega)))
  (fun _ _ _ _ _ hs _ _=>hs)
  ⟨⟨⟨_,bL2,World.ownsRow_nil _ _ _ _,trivial⟩,bO2,bX⟩,hB0⟩
  (fun p=>{ tmps:=#[Value.pointer (some ⟨x,0,none⟩),undef,Value.slice none 0 0,Value.bool false,Value.pointer (some ⟨w.heap.size,0,none⟩),Value.pointer (some ⟨w.heap.size+1,0,none⟩),Value.func (Fn.func 76) #[] #[Value.pointer (some ⟨w.heap.size+1+1,0,none⟩)],Value.string ⟨p.1.name.toArray⟩,Value.string ⟨(Sp.print p.1).toArray⟩,undef,undef,Value.pointer (some ⟨x,0,none⟩),Value.pointer (some ⟨x,0,none⟩),Value.pointer (some ⟨x,1,none⟩),Value.pointer (some ⟨s,0,none⟩),Value.func (Fn.func 76) #[] #[Value.pointer (some ⟨w.heap.size+1+1,0,none⟩)],Value.func (Fn.func 76) #[] #[Value.pointer (some ⟨w.heap.size+1+1,0,none⟩)],Value.string ⟨p.1.name.toArray⟩,Value.string ⟨(Sp.print p.1).toArray⟩,undef,undef,undef,undef,undef,undef,undef,undef,undef,undef,undef,undef,undef,undef,undef,undef,undef,undef,undef,undef,undef,undef,undef,undef,undef,undef,undef,undef,undef,undef,undef,undef,undef,undef,undef,undef,undef,undef,undef,undef],defers:=[] }) ?assign ?body ?done ?stop
 case assign =>
  intro l p W K hK;unfold encs
  gi_wp2
  exact hK
 case body =>
  rintro l pre p W ⟨⟨⟨v,hv,hrow,_⟩,hok,hbx⟩,hB⟩ hlen;have hco:=hok.cell;have hfo:=hok.frozen;have hlo:=hok.lt;obtain⟨N,T,hN,hT,f1,f2,f3,f4,f5⟩:=told p.2;rw[<-hN,<-hT];have HN:=hid hN;have HT:=hid hT;clear hN hT;have hc1:=hv.cell;have hl1:=hv.lt;have hzW:=hB.size;have hlen2:pre.length<60000:=by rw[(V8.byName_perm HS.out).length_eq] at hlen;unfold pks at hlen;rw[List.length_map] at hlen;omega
  have hv2:Boxed (W.setCell ⟨w.heap.size+1,0,none⟩ (.bool true)) w.heap.size 38 v:=hv.other (by omega) _;have ho2:Boxed (W.setCell ⟨w.heap.size+1,0,none⟩ (.bool true)) (w.heap.size+1) 4 (.bool true):=hok.set _;have hrow2:(W.setCell ⟨w.heap.size+1,0,none⟩ (.bool true)).ownsRow w.heap.size 9 1 v pre.length (prints pre):=hrow.kept (grownBy_setCell' W (w.heap.size+1) (.bool true)) (.inr (hok.not_row (by decide) hrow).symm);have hz2:(W.setCell ⟨w.heap.size+1,0,none⟩ (.bool true)).heap.size=W.heap.size:=by simp[World.setCell]
  have hnews:∀ (j:Nat) (u:Value),([.string T]:List Value)[j]? = some u->((W.setCell ⟨w.heap.size+1,0,none⟩ (.bool true)).alloc (.cells #[.string T] 9)).cell? ((⟨W.heap.size,0,none⟩:Addr).add j)=some u:=by
   have:=cell_one_new (W.setCell ⟨w.heap.size+1,0,none⟩ (.bool true)) (.string T) 9;rw[hz2] at this;exact this
  have HNEWS:=hid hnews;clear hnews;have HZ2':=hid hz2;have HROW2:=hid hrow2;have HV:=hid hv;have HOK:=hid hok;have HBX:=hid hbx;have hx2:Boxed (W.setCell ⟨w.heap.size+1,0,none⟩ (.bool true)) (w.heap.size+1+1) 92 (.pointer (some ⟨s,0,none⟩)):=hbx.other (by omega) _;have HX2:=hid hx2;have HO2:=hid ho2;have HV2:=hid hv2;have HBB:=hid hB;have hRv:rowOf W w.heap.size=v.ownBlock:=by unfold rowOf;rw[hc1];rfl
  have HRV:=hid hRv;clear hrow2 hz2 hv hok hrow hB hRv ho2 hv2 hlen hbx hx2
  gi_wp2_with (gi_at_builtin;refine wpListIn_append_own_at _ rfl _ _ 38 rfl w.heap.size 9 i0 (.string ⟨#[]⟩) 1 16 Tryz.underlying38 HI0.out HZ0.out HZ1.out HZ2.out rfl (by decide) _ _ _ rfl (HROW2.out.alloc _) ⟨W.heap.size,0,none⟩ 1 1 [.string T] rfl rfl HNEWS.out (by simp[Value.oneCell']) (by unfold maxLen;omega) (by omega) (by simp[World.setCell];omega) ?_;intro v' w1 hown' hgrow _ hloc;obtain⟨g',cap',rfl⟩:=ownsRow_succ hown';obtain⟨hv1,hv3,hr3,hk3,hb3⟩:=HV2.out.appended (by decide) HROW2.out (by rw[HZ2'.out];omega) (Nat.le_refl _) hown' hgrow;have hc3:=hv1.cell;have hf3:=hv1.frozen)
  have hnr:∀ (b:Nat) (ty:TypeId) (u:Value),ty≠9->Boxed (W.setCell ⟨w.heap.size+1,0,none⟩ (.bool true)) b ty u->some b≠v.ownBlock:=fun b ty u hty hb=>hb.not_row hty HROW2.out
  have ho4:Boxed (w1.setCell ⟨w.heap.size,0,none⟩ (.slice (some ⟨g',0,none⟩) (pre.length+1) cap')) (w.heap.size+1) 4 (.bool true):=((HO2.out.alloc (.cells #[.string T] 9)).kept hgrow (hnr _ 4 _ (by decide) HO2.out)).other (by omega) _;have hx4:Boxed (w1.setCell ⟨w.heap.size,0,none⟩ (.slice (some ⟨g',0,none⟩) (pre.length+1) cap')) (w.heap.size+1+1) 92 (.pointer (some ⟨s,0,none⟩)):=((HX2.out.alloc (.cells #[.string T] 9)).kept hgrow (hnr _ 92 _ (by decide) HX2.out)).other (by omega) _;have hlow:Below w.heap.size W (w1.setCell ⟨w.heap.size,0,none⟩ (.slice (some ⟨g',0,none⟩) (pre.length+1) cap')):=((Below.refl w.heap.size W).setCell (p:=⟨w.heap.size+1,0,none⟩) (by show w.heap.size<=w.heap.size+1;omega) (.bool true)).trans hb3;have hpr:prints (pre ++ [p])=prints pre ++ [.string T]:=by unfold prints;rw[List.map_append,HT.out];rfl
  refine⟨(KeepsOthers.setCell W ⟨w.heap.size+1,0,none⟩ (.bool true)).trans hk3,⟨hlow,fun k hk h1 h2 h3 h4=>?_,?_⟩,⟨⟨_,hv3,by rw[hpr,List.length_append];exact hr3,trivial⟩,ho4,hx4⟩,HBB.out.trans hlow⟩
  ·rw[HRV.out] at h3
   refine(Below.heap_setCell _ _ _ _ (show k≠w.heap.size from h1)).trans ((hgrow.block k (by rw[World.size_alloc,HZ2'.out];omega) fun e=>h3 e.symm).trans ((Below.heap_alloc _ _ _ (by rw[HZ2'.out];exact hk)).trans (Below.heap_setCell _ _ _ _ (show k≠w.heap.size+1 from h2))))
  ·have hr':rowOf (w1.setCell ⟨w.heap.size,0,none⟩ (.slice (some ⟨g',0,none⟩) (pre.length+1) cap')) w.heap.size=some g':=by unfold rowOf;rw[hv3.cell];rfl
   rw[hr',HRV.out]
   rcases hloc with h5|h5
   ·exact .inl h5
   ·right
    intro g hg;have e1:g'=g:=Option.some.inj hg;have e2:g'=((W.setCell ⟨w.heap.size+1,0,none⟩ (.bool true)).alloc (.cells #[.string T] 9)).heap.size:=Option.some.inj h5;rw[World.size_alloc,HZ2'.out] at e2;omega
 case done =>
  rintro D ys W hD hys ⟨⟨⟨v,hv,hrow,_⟩,hok,hbx⟩,hB⟩ hK;have hpt:prints ys=((V8.byName (pks L)).map Sp.print).map sv:=by
   have hys':ys.map (·.1)=V8.byName (pks L):=hys;rw[<-hys',List.map_map,List.map_map];rfl
  have hyl:ys.length=(V8.byName (pks L)).length:=by
   have hys':ys.map (·.1)=V8.byName (pks L):=hys;rw[<-hys',List.length_map]
  rw[hpt] at hrow;obtain⟨la,lc,rfl,hcell⟩:=row_strs hrow (by rw[List.length_map];exact hyl);have hDl:D<W.heap.size:=(Array.getElem?_eq_some_iff.1 hK).1;have hzB:=hB.size;have bK:=Boxed.new W 3 (.int .i64 0);have bN:=Boxed.new (W.alloc (.cells #[.int .i64 0] 3)) 4 (.bool false);rw[World.size_alloc] at bN;have bK2:=bK.alloc (.cells #[.bool false] 4);have hAA:Below W.heap.size W ((W.alloc (.cells #[.int .i64 0] 3)).alloc (.cells #[.bool false] 4)):=((Below.refl _ _).alloc (Nat.le_refl _) _).alloc (by simp) _;have hl2:=(hv.alloc (.cells #[.int .i64 0] 3)).alloc (.cells #[.bool false] 4);have hok2:=(hok.alloc (.cells #[.int .i64 0] 3)).alloc (.cells #[.bool false] 4);have hbx2:=(hbx.alloc (.cells #[.int .i64 0] 3)).alloc (.cells #[.bool false] 4);have hz2:((W.alloc (.cells #[.int .i64 0] 3)).alloc (.cells #[.bool false] 4)).heap.size=W.heap.size+2:=by simp
  have hBl:w.heap.size+1+1<W.heap.size:=hbx.lt;have hol:w.heap.size+1<W.heap.size:=hok.lt;have hnt:∀ k,k<W.heap.size->k≠w.heap.size+1->¬three (w.heap.size+1) (W.heap.size+1) W.heap.size k:=fun k hk hne h=>by
   rcases h with h|h|h <;> omega
  have hset2:SetOn (fun b=>b<w.heap.size) ((W.alloc (.cells #[.int .i64 0] 3)).alloc (.cells #[.bool false] 4)) mb L:=(HSET.out.keep (hB.block mb hml) fun y hy=>hB.block y hy).keep (hAA.block mb (by omega)) fun y hy=>hAA.block y (by omega)
  have hgn:=gone (S:=fun b=>b<w.heap.size) (w:=(W.alloc (.cells #[.int .i64 0] 3)).alloc (.cells #[.bool false] 4)) (Bo:=w.heap.size+1) (Bn:=W.heap.size+1) (Bk:=W.heap.size) (Bl:=w.heap.size) (Bx:=w.heap.size+1+1) (s:=s) (mb:=mb) (lc:=lc) (la:=la) (L:=L) (ys:=V8.byName (pks L)) rfl HS.out hL' hok2 bN bK2 (by rw[<-hyl];exact hl2)
   ⟨by omega,by omega,by omega,by omega,by omega,by omega⟩
   (fun j hj=>by
    obtain⟨b,off,e1,e2,e3,e4⟩:=hcell j (by rw[List.length_map];exact hj);refine⟨b,off,e1,by omega,hnt b e2 fun e=>hok.not_row (by decide) hrow (by rw[e3,e]),?_⟩;rw[hAA.cell (p:=⟨b,off+j,none⟩) e2,e4];simp only[List.getElem_map])
   hbx2.cell ⟨by omega,hnt _ hBl (by omega)⟩ (((hAA.cell (p:=⟨s,2,none⟩) (show s<W.heap.size by omega)).trans (hB.cell (p:=⟨s,2,none⟩) hsl)).trans d2) ⟨by omega,hnt s (by omega) (by omega)⟩ hset2
   (fun y hy=>by
    have:y<w.heap.size:=by
     rcases hy with hy|rfl
     ·exact hy
     ·exact hml
    exact⟨by omega,hnt y (by omega) (by omega)⟩)
  have HNB:=hid (hok.not_row (by decide) hrow);have HGN:=hid hgn;have HROW:=hid hrow;have HK:=hid hK;have HB:=hid hB;have HAA:=hid hAA;have HV:=hid hv;have HNT:=hid hnt;have HYL:=hid hyl;have hzza:=Nat.le_of_eq hz2;have hzzb:=Nat.le_of_eq hz2.symm;clear hgn hrow hK hB hAA hv hok hbx bK bN bK2 hl2 hok2 hbx2 hz2 hset2 hcell hnt hyl hpt hys
  gi_wp2_with (refine⟨trivial,?_⟩;gi_at_call 76;refine(callsIn_wide.2 HGN.out).mono ?_;rintro e w5 ⟨rfl,hch5,hok5⟩)
  have hz5:=hch5.size;have hv5:Boxed w5 w.heap.size 38 (.slice la ys.length lc):=boxed_chg ((HAA.out.block w.heap.size (by omega)).trans HV.out) hch5 (HNT.out _ (by omega) (by omega));have hK5:w5.heap[D]? = some (.deferred (some [])):=(hch5.block D (by omega) (HNT.out D hDl (by omega))).trans ((HAA.out.block D hDl).trans HK.out);have c5:=hv5.cell;have c6:=hok5.cell;have hb5:Below w.heap.size w w5:=(HB.out.trans (HAA.out.mono (by omega))).trans ⟨hch5.os,hch5.tape,hch5.output,hch5.size,fun k hk=>hch5.block k (by omega) (HNT.out k (by omega) (by omega))⟩;have hrow5:w5.ownsRow w.heap.size 9 1 (.slice la ys.length lc) ys.length (((V8.byName (pks L)).map Sp.print).map sv):=own_keep HROW.out fun g hg=>by
   obtain⟨h1,h2⟩:=HROW.out.lt g hg;exact(hch5.block g (by omega) (HNT.out g h2 fun e=>HNB.out (by rw[hg,e]))).trans (HAA.out.block g h2)
  have HB5:=hid hb5;have HROW5:=hid hrow5;have HK5:=hid hK5;clear hch5 hv5 hok5 hb5 hrow5 hK5
  gi_region
  all_goals gi_wp2
  have hKd:w5.drew.heap[D]? = some (.deferred (some [])):=HK5.out;refine⟨by simp,.inl ⟨_,_,rfl,run_takeDeferred hKd,?_⟩⟩;have hrd:w5.drew.ownsRow w.heap.size 9 1 (.slice la ys.length lc) ys.length (((V8.byName (pks L)).map Sp.print).map sv):=own_keep HROW5.out fun _ _=>rfl
  have hrp:=ownsRow_putObj hrd (.deferred none) hKd rfl;have hyl2:ys.length=((V8.byName (pks L)).map Sp.print).length:=by rw[List.length_map];exact HYL.out
  refine⟨_,results_tmp2 rfl _ _ _,_,rfl,?_,HB5.out.drew.trans (belowK_b (w:=w0) (by omega) w5.drew D _ _ (by omega) hKd rfl rfl)⟩;rw[<-HE.out,V8.texts_byName];refine StrsFrom.of_row (B:=w.heap.size) (e:=9) ?_ (Nat.le_refl _);rw[<-hyl2];exact hrp
 case stop =>
  rintro D c pre W _ _ h _;exact h.elim
end PK
end
section
namespace V13
open Sp (Str Pk Dk St)
def one:Str:=[112,97,99,107,97,103,101,32,97,32,49,10,102,105,108,101,32,120,61,49]
end V13
end
end Go.Proofs.YtfphcecjhdkcoaaGreatDoor

/-
The walks of the laws Plans, Stores, Cuts and All.
-/
import Derived.Test.YtfphcecjhdkcoaaGreatDoorScrP24
import Derived.WalkSpells
import Derived.Deep.CutBlock
set_option maxRecDepth 100000
set_option maxHeartbeats 8000000
namespace Go.Proofs.YtfphcecjhdkcoaaGreatDoor
open Go.Lib (hid)
section
open Go.RowKit Go.Maps
theorem step_install{G B S k:Nat}{nc:Bool}{w:World}{q x:Nat}(h:Ask G B S k nc w q x)(oa ob:Int)(os:Sp.Str):
  Calls Tryz.prog 60 #[.pointer (some ⟨q,0,none⟩),(OpV.agg ⟨3,oa,ob,os⟩)] w (Went B S k nc w q x):=by
 obtain⟨hw,⟨O,tv,ov,hv,X,Y,s,hand,hW,hi,hO,hOl,hhl,hht,hnil⟩,hG,hB,hqB,hk⟩:=h;obtain⟨wb,hwb⟩:∃ wb,wb=w.alloc (.cells #[.int .i64 3,.int .i64 oa,.int .i64 ob,.string ⟨os.toArray⟩] 115):=⟨_,rfl⟩
 have hbb:Below w.heap.size w wb:=by rw[hwb];exact(Below.refl _ _).alloc (Nat.le_refl _) _
 have hzb:wb.heap.size=w.heap.size+1:=by rw[hwb];simp
 have p0:wb.cell? ⟨w.heap.size,0,none⟩=some (.int .i64 3):=by rw[hwb,World.cell?_alloc_at _ _ _ _ rfl];rfl
 have p1:wb.cell? ⟨w.heap.size,1,none⟩=some (.int .i64 oa):=by rw[hwb,World.cell?_alloc_at _ _ _ _ rfl];rfl
 have p2:wb.cell? ⟨w.heap.size,2,none⟩=some (.int .i64 ob):=by rw[hwb,World.cell?_alloc_at _ _ _ _ rfl];rfl
 have p3:wb.cell? ⟨w.heap.size,3,none⟩=some (.string ⟨os.toArray⟩):=by rw[hwb,World.cell?_alloc_at _ _ _ _ rfl];rfl
 have h1:=hW.below hbb;have hlo:=h1.ses.lost;have cw0:=hW.c0;have qw:=hW.lt;have c0:=h1.c0;have c1:=h1.c1;have c2:=h1.c2;have c5:=h1.c5;have z5:=h1.z 5;have hq:=h1.lt;have hqr:¬q=w.heap.size:=by have:=hW.lt;omega
 have hrb:w.heap.size<wb.heap.size:=by omega
 have hBb:B<=wb.heap.size:=by omega
 clear hzb;obtain⟨hT,hXl,hYl⟩:=h1.few hi hOl;have HW1:=hid h1;have HLO:=hid hlo;have HBB:=hid (hbb.mono hB);have HI:=hid hi;have HHT:=hid hht;have HO:=hid hO;have HT:=hid hT;have HNIL:=hid hnil;have HWD:=hid (hw.keep hbb);have hic:=V20.inv_cases hi;have HF0:=hid (⟨hbb.mono hB,O,tv,ov,hv,X,Y,s,hand,h1,hi.mono (Nat.le_succ k),hO,hOl,by omega,hht,hnil⟩:Below B w wb/\PlayAt B S (k+1) nc wb q x);clear h1 hlo hbb hi hht hO hW hw hT hnil
 rcases hic with⟨hd,hal⟩|⟨hd,_,_⟩
 ·rw[hd] at HLO
  have HAL:=hid hal;clear hal hd HF0;unfold OpV.agg sv;go_enter Tryz.func60,Tryz.ntmps60;go_wp2_with fail;rw[<-hwb];clear hwb cw0 qw;refine HLO.out.mono ?_;rintro e wq ⟨rfl,hwq⟩;have hwq':=hwq.symm;subst hwq';clear hwq;obtain⟨ti,hi0,hz0,hz1,hz2⟩:=info_parts infoStr;have HI0:=hid hi0;have HZ0:=hid hz0;have HZ1:=hid hz1;have HZ2:=hid hz2;clear hi0 hz0 hz1 hz2;obtain⟨ra,rc,hvr⟩:=W3.row_slice HW1.out.row;go_upto_region 16 with(fail)
  go_cut [6] from 63 to 67 (fun hh wx=>Below wb.heap.size wb wx/\wx.ownsRow wb.heap.size 9 1 hh hand.length (hand.map sv))
  case first =>
   by_cases hne:hand=[]
   ·have hv0:=HNIL.out hne
    subst hne;subst hv0;clear hvr;go_wp2_with (at_builtin;refine wpList_append_own_none rfl (.const (.slice none 0 0)) (.tmp 66) 38 rfl wb.heap.size 9 ti 1 Tryz.underlying38 HI0.out _ 0 [] rfl (World.ownsRow_nil _ _ _ _) rfl ?_);go_meet
    case rel=>exact⟨Below.refl _ _,World.ownsRow_nil _ _ _ _⟩
   ·obtain⟨b,off,cap,hv',hl',hc'⟩:=row_cells HW1.out.row hne
    have HC:=hid hc';have hon:∀ u∈hand.map sv,u.oneCell'=true:=fun u hu=>by
     obtain⟨s,_,rfl⟩:=List.mem_map.1 hu
     rfl
    have HON:=hid hon;clear hon hc' hvr;subst hv';go_wp2_with (at_builtin;refine wpList_append_own wb rfl (.const (.slice none 0 0)) (.tmp 66) 38 rfl wb.heap.size 9 ti (.string ⟨#[]⟩) 1 16 Tryz.underlying38 HI0.out HZ0.out HZ1.out HZ2.out rfl (by decide) _ 0 [] rfl (World.ownsRow_nil _ _ _ _) ⟨b,off,none⟩ hand.length cap (hand.map sv) rfl (by rw[List.length_map,Nat.mul_one]) HC.out HON.out (by unfold maxLen;omega) (by omega) (Nat.le_refl _) ?_;intro v7 w7 hown7 hgrow7 _);have hb7:Below wb.heap.size wb w7:=(Below.refl _ _).grown hgrow7 (Nat.le_refl _) fun g hg=>by cases hg
    simp only[Nat.zero_add,List.nil_append] at hown7;go_meet
    case rel=>exact⟨hb7,hown7⟩
  case rest =>
   obtain⟨hbc,hrow6⟩:=hcut;have h6:=HW1.out.below hbc;have hsa:=StrsAt.of_row hrow6;obtain⟨fa,fc,rfl⟩:=W3.row_slice hrow6;have c0':=h6.c0;have c1':=h6.c1;have c2':=h6.c2;have c5':=h6.c5;have q6:=h6.lt;have hz6:=hbc.size;have p0':=(hbc.cell (p:=⟨w.heap.size,0,none⟩) hrb).trans p0;have p3':=(hbc.cell (p:=⟨w.heap.size,3,none⟩) hrb).trans p3;have hr6:w.heap.size<wc.heap.size:=by omega
   have H6:=hid h6;have HSA:=hid hsa;have HR6:=hid hrow6;have HBC:=hid (HBB.out.trans (hbc.mono (by omega)));have hBc:B<=wc.heap.size:=by omega
   have HWC:=hid (HWD.out.keep hbc);obtain⟨xa,xc,htv,_⟩:=h6.there.get;subst htv;clear h6 hsa hrow6 hbc p0 p1 p2 p3 c0 c1 c2 c5 z5 hvr HI0 HZ0 HZ1 HZ2;have hch:=changes3_any HWC.out H6.out HAL.out hk hG hBc hqB HO.out hOl (by omega) HHT.out HNIL.out _ _ HR6.out (fun g hg=>(HW1.out.ses.low g hg).2) hq;have HCH:=hid hch;clear hch;go_wp2_with fail;refine HCH.out.mono ?_;rintro e w7 ⟨rfl,hb7,hp7⟩;have HF:=hid (⟨HBC.out.trans hb7,hp7⟩:Below B w w7/\PlayAt B S (k+1) nc w7 q x);clear hb7 hp7;go_wp2;go_ret;exact⟨rfl,HF.out⟩
 ·rw[hd] at HLO
  unfold OpV.agg sv;go_enter Tryz.func60,Tryz.ntmps60;go_wp2_with fail;rw[<-hwb];clear hwb cw0 qw;refine HLO.out.mono ?_;rintro e wq ⟨rfl,hwq⟩;have hwq':=hwq.symm;subst hwq';clear hwq;go_wp2;go_ret;exact⟨rfl,HF0.out⟩
theorem step_remove{G B S k:Nat}{nc:Bool}{w:World}{q x:Nat}(h:Ask G B S k nc w q x)(oa ob:Int)(os:Sp.Str):
  Calls Tryz.prog 60 #[.pointer (some ⟨q,0,none⟩),(OpV.agg ⟨4,oa,ob,os⟩)] w (Went B S k nc w q x):=by
 obtain⟨hw,⟨O,tv,ov,hv,X,Y,s,hand,hW,hi,hO,hOl,hhl,hht,hnil⟩,hG,hB,hqB,hk⟩:=h;obtain⟨wb,hwb⟩:∃ wb,wb=w.alloc (.cells #[.int .i64 4,.int .i64 oa,.int .i64 ob,.string ⟨os.toArray⟩] 115):=⟨_,rfl⟩
 have hbb:Below w.heap.size w wb:=by rw[hwb];exact(Below.refl _ _).alloc (Nat.le_refl _) _
 have hzb:wb.heap.size=w.heap.size+1:=by rw[hwb];simp
 have p0:wb.cell? ⟨w.heap.size,0,none⟩=some (.int .i64 4):=by rw[hwb,World.cell?_alloc_at _ _ _ _ rfl];rfl
 have p1:wb.cell? ⟨w.heap.size,1,none⟩=some (.int .i64 oa):=by rw[hwb,World.cell?_alloc_at _ _ _ _ rfl];rfl
 have p2:wb.cell? ⟨w.heap.size,2,none⟩=some (.int .i64 ob):=by rw[hwb,World.cell?_alloc_at _ _ _ _ rfl];rfl
 have p3:wb.cell? ⟨w.heap.size,3,none⟩=some (.string ⟨os.toArray⟩):=by rw[hwb,World.cell?_alloc_at _ _ _ _ rfl];rfl
 have h1:=hW.below hbb;have hlo:=h1.ses.lost;have cw0:=hW.c0;have qw:=hW.lt;have c0:=h1.c0;have c1:=h1.c1;have c2:=h1.c2;have c5:=h1.c5;have z5:=h1.z 5;have hq:=h1.lt;have hqr:¬q=w.heap.size:=by have:=hW.lt;omega
 have hrb:w.heap.size<wb.heap.size:=by omega
 have hBb:B<=wb.heap.size:=by omega
 clear hzb;obtain⟨hT,hXl,hYl⟩:=h1.few hi hOl;have HW1:=hid h1;have HLO:=hid hlo;have HBB:=hid (hbb.mono hB);have HI:=hid hi;have HHT:=hid hht;have HO:=hid hO;have HT:=hid hT;have HNIL:=hid hnil;have HWD:=hid (hw.keep hbb);have hic:=V20.inv_cases hi;have HF0:=hid (⟨hbb.mono hB,O,tv,ov,hv,X,Y,s,hand,h1,hi.mono (Nat.le_succ k),hO,hOl,by omega,hht,hnil⟩:Below B w wb/\PlayAt B S (k+1) nc wb q x);clear h1 hlo hbb hi hht hO hW hw hT hnil
 rcases hic with⟨hd,hal⟩|⟨hd,_,_⟩
 ·rw[hd] at HLO
  have HAL:=hid hal;clear hal hd HF0;unfold OpV.agg sv;go_enter Tryz.func60,Tryz.ntmps60;go_wp2_with fail;rw[<-hwb];clear hwb cw0 qw;refine HLO.out.mono ?_;rintro e wq ⟨rfl,hwq⟩;have hwq':=hwq.symm;subst hwq';clear hwq;obtain⟨ti,hi0,hz0,hz1,hz2⟩:=info_parts infoStr;have HI0:=hid hi0;have HZ0:=hid hz0;have HZ1:=hid hz1;have HZ2:=hid hz2;clear hi0 hz0 hz1 hz2;obtain⟨ra,rc,hvr⟩:=W3.row_slice HW1.out.row;go_upto_region 16 with(fail)
  go_cut [6] from 63 to 67 (fun hh wx=>Below wb.heap.size wb wx/\wx.ownsRow wb.heap.size 9 1 hh hand.length (hand.map sv))
  case first =>
   by_cases hne:hand=[]
   ·have hv0:=HNIL.out hne
    subst hne;subst hv0;clear hvr;go_wp2_with (at_builtin;refine wpList_append_own_none rfl (.const (.slice none 0 0)) (.tmp 66) 38 rfl wb.heap.size 9 ti 1 Tryz.underlying38 HI0.out _ 0 [] rfl (World.ownsRow_nil _ _ _ _) rfl ?_);go_meet
    case rel=>exact⟨Below.refl _ _,World.ownsRow_nil _ _ _ _⟩
   ·obtain⟨b,off,cap,hv',hl',hc'⟩:=row_cells HW1.out.row hne
    have HC:=hid hc';have hon:∀ u∈hand.map sv,u.oneCell'=true:=fun u hu=>by
     obtain⟨s,_,rfl⟩:=List.mem_map.1 hu
     rfl
    have HON:=hid hon;clear hon hc' hvr;subst hv';go_wp2_with (at_builtin;refine wpList_append_own wb rfl (.const (.slice none 0 0)) (.tmp 66) 38 rfl wb.heap.size 9 ti (.string ⟨#[]⟩) 1 16 Tryz.underlying38 HI0.out HZ0.out HZ1.out HZ2.out rfl (by decide) _ 0 [] rfl (World.ownsRow_nil _ _ _ _) ⟨b,off,none⟩ hand.length cap (hand.map sv) rfl (by rw[List.length_map,Nat.mul_one]) HC.out HON.out (by unfold maxLen;omega) (by omega) (Nat.le_refl _) ?_;intro v7 w7 hown7 hgrow7 _);have hb7:Below wb.heap.size wb w7:=(Below.refl _ _).grown hgrow7 (Nat.le_refl _) fun g hg=>by cases hg
    simp only[Nat.zero_add,List.nil_append] at hown7;go_meet
    case rel=>exact⟨hb7,hown7⟩
  case rest =>
   obtain⟨hbc,hrow6⟩:=hcut;have h6:=HW1.out.below hbc;have hsa:=StrsAt.of_row hrow6;obtain⟨fa,fc,rfl⟩:=W3.row_slice hrow6;have c0':=h6.c0;have c1':=h6.c1;have c2':=h6.c2;have c5':=h6.c5;have q6:=h6.lt;have hz6:=hbc.size;have p0':=(hbc.cell (p:=⟨w.heap.size,0,none⟩) hrb).trans p0;have p3':=(hbc.cell (p:=⟨w.heap.size,3,none⟩) hrb).trans p3;have hr6:w.heap.size<wc.heap.size:=by omega
   have H6:=hid h6;have HSA:=hid hsa;have HR6:=hid hrow6;have HBC:=hid (HBB.out.trans (hbc.mono (by omega)));have hBc:B<=wc.heap.size:=by omega
   have HWC:=hid (HWD.out.keep hbc);obtain⟨xa,xc,htv,_⟩:=h6.there.get;subst htv;clear h6 hsa hrow6 hbc p0 p1 p2 p3 c0 c1 c2 c5 z5 hvr HI0 HZ0 HZ1 HZ2;have hch:=changes4_any HWC.out H6.out HAL.out hk hG hBc hqB HO.out hOl (by omega) HHT.out HNIL.out _ _ HR6.out (fun g hg=>(HW1.out.ses.low g hg).2) hq;have HCH:=hid hch;clear hch;go_wp2_with fail;refine HCH.out.mono ?_;rintro e w7 ⟨rfl,hb7,hp7⟩;have HF:=hid (⟨HBC.out.trans hb7,hp7⟩:Below B w w7/\PlayAt B S (k+1) nc w7 q x);clear hb7 hp7;go_wp2;go_ret;exact⟨rfl,HF.out⟩
 ·rw[hd] at HLO
  unfold OpV.agg sv;go_enter Tryz.func60,Tryz.ntmps60;go_wp2_with fail;rw[<-hwb];clear hwb cw0 qw;refine HLO.out.mono ?_;rintro e wq ⟨rfl,hwq⟩;have hwq':=hwq.symm;subst hwq';clear hwq;go_wp2;go_ret;exact⟨rfl,HF0.out⟩
theorem step_plan{G B S k:Nat}{nc:Bool}{w:World}{q x:Nat}(h:Ask G B S k nc w q x)(oa ob:Int)(os:Sp.Str):
  Calls Tryz.prog 60 #[.pointer (some ⟨q,0,none⟩),(OpV.agg ⟨5,oa,ob,os⟩)] w (Went B S k nc w q x):=by
 obtain⟨hw,⟨O,tv,ov,hv,X,Y,s,hand,hW,hi,hO,hOl,hhl,hht,hnil⟩,hG,hB,hqB,hk⟩:=h;obtain⟨wb,hwb⟩:∃ wb,wb=w.alloc (.cells #[.int .i64 5,.int .i64 oa,.int .i64 ob,.string ⟨os.toArray⟩] 115):=⟨_,rfl⟩
 have hbb:Below w.heap.size w wb:=by rw[hwb];exact(Below.refl _ _).alloc (Nat.le_refl _) _
 have hzb:wb.heap.size=w.heap.size+1:=by rw[hwb];simp
 have p0:wb.cell? ⟨w.heap.size,0,none⟩=some (.int .i64 5):=by rw[hwb,World.cell?_alloc_at _ _ _ _ rfl];rfl
 have p1:wb.cell? ⟨w.heap.size,1,none⟩=some (.int .i64 oa):=by rw[hwb,World.cell?_alloc_at _ _ _ _ rfl];rfl
 have p2:wb.cell? ⟨w.heap.size,2,none⟩=some (.int .i64 ob):=by rw[hwb,World.cell?_alloc_at _ _ _ _ rfl];rfl
 have p3:wb.cell? ⟨w.heap.size,3,none⟩=some (.string ⟨os.toArray⟩):=by rw[hwb,World.cell?_alloc_at _ _ _ _ rfl];rfl
 have h1:=hW.below hbb;have hlo:=h1.ses.lost;have cw0:=hW.c0;have qw:=hW.lt;have c0:=h1.c0;have c1:=h1.c1;have c2:=h1.c2;have c5:=h1.c5;have z5:=h1.z 5;have hq:=h1.lt;have hqr:¬q=w.heap.size:=by have:=hW.lt;omega
 have hrb:w.heap.size<wb.heap.size:=by omega
 have hBb:B<=wb.heap.size:=by omega
 clear hzb;obtain⟨hT,hXl,hYl⟩:=h1.few hi hOl;have HW1:=hid h1;have HLO:=hid hlo;have HBB:=hid (hbb.mono hB);have HI:=hid hi;have HHT:=hid hht;have HO:=hid hO;have HT:=hid hT;have HNIL:=hid hnil;have HWD:=hid (hw.keep hbb);have hic:=V20.inv_cases hi;have HF0:=hid (⟨hbb.mono hB,O,tv,ov,hv,X,Y,s,hand,h1,hi.mono (Nat.le_succ k),hO,hOl,by omega,hht,hnil⟩:Below B w wb/\PlayAt B S (k+1) nc wb q x);clear h1 hlo hbb hi hht hO hW hw hT hnil
 rcases hic with⟨hd,hal⟩|⟨hd,_,_⟩
 ·rw[hd] at HLO
  have HAL:=hid hal;clear hal hd HF0;unfold OpV.agg sv;go_enter Tryz.func60,Tryz.ntmps60;go_wp2_with fail;rw[<-hwb];clear hwb cw0 qw;refine HLO.out.mono ?_;rintro e wq ⟨rfl,hwq⟩;have hwq':=hwq.symm;subst hwq';clear hwq;obtain⟨ti,hi0,hz0,hz1,hz2⟩:=info_parts infoStr;have HI0:=hid hi0;have HZ0:=hid hz0;have HZ1:=hid hz1;have HZ2:=hid hz2;clear hi0 hz0 hz1 hz2;obtain⟨ra,rc,hvr⟩:=W3.row_slice HW1.out.row;go_upto_region 16 with(fail)
  go_cut [6] from 63 to 67 (fun hh wx=>Below wb.heap.size wb wx/\wx.ownsRow wb.heap.size 9 1 hh hand.length (hand.map sv))
  case first =>
   by_cases hne:hand=[]
   ·have hv0:=HNIL.out hne
    subst hne;subst hv0;clear hvr;go_wp2_with (at_builtin;refine wpList_append_own_none rfl (.const (.slice none 0 0)) (.tmp 66) 38 rfl wb.heap.size 9 ti 1 Tryz.underlying38 HI0.out _ 0 [] rfl (World.ownsRow_nil _ _ _ _) rfl ?_);go_meet
    case rel=>exact⟨Below.refl _ _,World.ownsRow_nil _ _ _ _⟩
   ·obtain⟨b,off,cap,hv',hl',hc'⟩:=row_cells HW1.out.row hne
    have HC:=hid hc';have hon:∀ u∈hand.map sv,u.oneCell'=true:=fun u hu=>by
     obtain⟨s,_,rfl⟩:=List.mem_map.1 hu
     rfl
    have HON:=hid hon;clear hon hc' hvr;subst hv';go_wp2_with (at_builtin;refine wpList_append_own wb rfl (.const (.slice none 0 0)) (.tmp 66) 38 rfl wb.heap.size 9 ti (.string ⟨#[]⟩) 1 16 Tryz.underlying38 HI0.out HZ0.out HZ1.out HZ2.out rfl (by decide) _ 0 [] rfl (World.ownsRow_nil _ _ _ _) ⟨b,off,none⟩ hand.length cap (hand.map sv) rfl (by rw[List.length_map,Nat.mul_one]) HC.out HON.out (by unfold maxLen;omega) (by omega) (Nat.le_refl _) ?_;intro v7 w7 hown7 hgrow7 _);have hb7:Below wb.heap.size wb w7:=(Below.refl _ _).grown hgrow7 (Nat.le_refl _) fun g hg=>by cases hg
    simp only[Nat.zero_add,List.nil_append] at hown7;go_meet
    case rel=>exact⟨hb7,hown7⟩
  case rest =>
   obtain⟨hbc,hrow6⟩:=hcut;have h6:=HW1.out.below hbc;have hsa:=StrsAt.of_row hrow6;obtain⟨fa,fc,rfl⟩:=W3.row_slice hrow6;have c0':=h6.c0;have c1':=h6.c1;have c2':=h6.c2;have c5':=h6.c5;have q6:=h6.lt;have hz6:=hbc.size;have p0':=(hbc.cell (p:=⟨w.heap.size,0,none⟩) hrb).trans p0;have p3':=(hbc.cell (p:=⟨w.heap.size,3,none⟩) hrb).trans p3;have hr6:w.heap.size<wc.heap.size:=by omega
   have H6:=hid h6;have HSA:=hid hsa;have HR6:=hid hrow6;have HBC:=hid (HBB.out.trans (hbc.mono (by omega)));have hBc:B<=wc.heap.size:=by omega
   have HWC:=hid (HWD.out.keep hbc);obtain⟨xa,xc,htv,_⟩:=h6.there.get;subst htv;clear h6 hsa hrow6 hbc p0 p1 p2 p3 c0 c1 c2 c5 z5 hvr HI0 HZ0 HZ1 HZ2;have hpl:=plannedR_any _ _ hand X wc H6.out.there (fun b hb=>hb.1) HSA.out (by omega) (by omega) H6.out.thereS (by rw[H6.out.thereP];exact HT.out);rw[H6.out.thereP] at hpl;have hlaw:=V19.plan HAL.out hand;have hspl:=fun W (hW:Below wc.heap.size wc W)=>(H6.out.ses.below hW).plan (HWC.out.keep hW) (fit_live HAL.out.live (by have:=HAL.out.last;omega)) _ hand (HSA.out.below hW) (by omega)
   have HPL:=hid hpl;have HLAW:=hid hlaw;have HSPL:=hid hspl;clear hpl hlaw hspl;go_wp2_with fail;refine HPL.out.mono ?_;rintro e w7 ⟨hb7,hres⟩;have HB7:=hid hb7;have hz7:=hb7.size;have h7:=H6.out.below hb7;have d0:=h7.c0;have q7:=h7.lt;clear h7 hb7;have key:∃ (f:Sp.Fault) (a1 a2:Option Addr) (n1 n2 k1 k2:Nat) (o:List Sp.Str),e=.returned (.tuple #[.slice a1 n1 k1,.slice a2 n2 k2,.agg #[.int .i64 (f.kind:Int),.int .i64 (f.which:Int),.int .i64 (f.line:Int),.string ⟨f.name.toArray⟩]])/\s.x.plan hand=(f,o)/\w7.ownsRow wc.heap.size 9 1 (.slice a2 n2 k2) o.length (o.map sv)/\o.length<=9000:=by
    rcases hres with⟨f,m1,_,_,rfl⟩|⟨A,o,v1,v2,m1,rfl,m2,_,m3⟩
    ·rcases HLAW.out with⟨f',l1,l2⟩|⟨A',o',l1,_⟩
     ·rw[l1] at m1
      injection m1 with m1
      subst m1;exact⟨f',none,none,0,0,0,0,[],rfl,l2,World.ownsRow_nil _ _ _ _,by simp⟩
     ·rw[l1] at m1;cases m1
    ·rcases HLAW.out with⟨f',l1,l2⟩|⟨A',o',l1,l2⟩
     ·rw[l1] at m1;cases m1
     ·have hol:=V9.planned_len HT.out l1
      rw[l1] at m1;injection m1 with m1
      injection m1 with _ m1
      subst m1;obtain⟨a1,k1,rfl,_⟩:=m2.get;obtain⟨a2,k2,rfl⟩:=W3.row_slice m3;exact⟨Sp.okF,a1,a2,_,_,k1,k2,o',rfl,l2,m3,by omega⟩
   obtain⟨f,a1,a2,n1,n2,k1,k2,o,rfl,hpo,hrow,hol⟩:=key;obtain⟨w8,hw8⟩:∃ w8,w8=w7.alloc (.cells #[.int .i64 (f.kind:Int),.int .i64 (f.which:Int),.int .i64 (f.line:Int),.string ⟨f.name.toArray⟩] 34):=⟨_,rfl⟩
   have hb8:Below w7.heap.size w7 w8:=by rw[hw8];exact(Below.refl _ _).alloc (Nat.le_refl _) _
   have hr8:RF w8 w7.heap.size f:=by rw[hw8];exact RF.new w7 f 34
   have hcl:=HSPL.out w8 (HB7.out.trans (hb8.mono hz7));rw[hpo] at hcl;have HCL:=hid hcl;have HR8:=hid hr8;have HB8:=hid (HB7.out.trans (hb8.mono hz7));have HROW8:=hid (W3.row_keep hrow hb8);clear hcl hr8 hb8 hrow hpo hres HPL HLAW HSPL c0' c1' c2' c5' q6;go_wp2_with fail;rw[<-hw8];clear hw8 d0 q7;refine HCL.out.mono ?_;rintro e w9 ⟨v,rfl,hv,hb9⟩;obtain⟨va,vc,rfl,_⟩:=hv.at_.get;have hr9:=HR8.out.below hb9;obtain⟨w10,hw10⟩:∃ w10,w10=w9.alloc (.cells #[.int .i64 (f.kind:Int),.int .i64 (f.which:Int),.int .i64 (f.line:Int),.string ⟨f.name.toArray⟩] 23):=⟨_,rfl⟩
   have hb10:Below w9.heap.size w9 w10:=by rw[hw10];exact(Below.refl _ _).alloc (Nat.le_refl _) _
   have hg10:RF w10 w9.heap.size f:=by rw[hw10];exact RF.new w9 f 23
   have hsm:=sameL_any _ _ o o w10 (hv.below hb10).at_ (StrsAt.of_row (W3.row_keep (W3.row_keep HROW8.out hb9) hb10)) (by omega);rw[decide_eq_true rfl] at hsm;have HSM:=hid hsm;have HR10:=hid (hr9.below hb10);have HG10:=hid hg10;have HB10:=hid ((HB8.out.trans (hb9.mono HB8.out.size)).trans (hb10.mono (Nat.le_trans HB8.out.size hb9.size)));clear hsm hr9 hg10 hb10 hb9 hv;unfold faultV sv;go_wp2_with fail;rw[<-hw10];clear hw10;refine HSM.out.mono ?_;rintro e w11 ⟨rfl,hb11⟩;have hrg8:=HG10.out.below hb11;have hrf8:=HR10.out.below hb11;have i0:=hrg8.c0;have i1:=hrg8.c1;have i2:=hrg8.c2;have i3:=hrg8.c3;have il:=hrg8.lt;have j0:=hrf8.c0;have j1:=hrf8.c1;have j2:=hrf8.c2;have j3:=hrf8.c3;have jl:=hrf8.lt;have HB11:=hid (HB10.out.trans (hb11.mono HB10.out.size));have hsf:=fun W=>sameFaultN_any (f.kind:Int) (f.which:Int) (f.line:Int) f.name W
   have HSF:=hid hsf;clear hb11 hrg8 hrf8 hsf;go_wp2_with fail;refine(HSF.out _).mono ?_;rintro e w12 ⟨rfl,hb12⟩;have hb13:=HB11.out.trans (hb12.mono HB11.out.size);have HF:=hid (⟨HBC.out.trans (hb13.mono hBc),O,_,ov,hv,X,Y,s,hand,H6.out.below hb13,HI.out.mono (Nat.le_succ k),HO.out,hOl,by omega,HHT.out,HNIL.out⟩:Below B w w12/\PlayAt B S (k+1) nc w12 q x);clear hb12 hb13;go_wp2;go_ret;exact⟨rfl,HF.out⟩
 ·rw[hd] at HLO
  unfold OpV.agg sv;go_enter Tryz.func60,Tryz.ntmps60;go_wp2_with fail;rw[<-hwb];clear hwb cw0 qw;refine HLO.out.mono ?_;rintro e wq ⟨rfl,hwq⟩;have hwq':=hwq.symm;subst hwq';clear hwq;go_wp2;go_ret;exact⟨rfl,HF0.out⟩
end
section
open Go.RowKit Go.Maps
theorem step_any{G B S k:Nat}{nc:Bool}{w:World}{q x:Nat}(h:Ask G B S k nc w q x)(o:OpV)(hs:o.s.length<=8192)(ha:-9223372036854775808<=o.a/\o.a<=9223372036854775807)(hb:-9223372036854775808<=o.b/\o.b<=9223372036854775807)(hnc:nc=true->o.kind≠9/\o.kind≠10):
  Calls Tryz.prog 60 #[.pointer (some ⟨q,0,none⟩),o.agg] w (Went B S k nc w q x):=by
 obtain⟨kd,oa,ob,os⟩:=o;simp only at hs ha hb hnc;have hf:nc=true\/nc=false:=by cases nc <;> simp
 by_cases h1:kd=1
 ·subst h1;exact step_text h oa ob os hs
 by_cases h2:kd=2
 ·subst h2;exact step_clear h oa ob os
 by_cases h3:kd=3
 ·subst h3;exact step_install h oa ob os
 by_cases h4:kd=4
 ·subst h4;exact step_remove h oa ob os
 by_cases h5:kd=5
 ·subst h5;exact step_plan h oa ob os
 by_cases h6:kd=6
 ·subst h6;exact step_show h oa ob os
 by_cases h7:kd=7
 ·subst h7;exact step_owner h oa ob os hs
 by_cases h8:kd=8
 ·subst h8;exact step_fill h oa ob os
 by_cases h9:kd=9
 ·subst h9
  rcases hf with hf|hf
  ·exact absurd rfl (hnc hf).1
  ·exact step_reopen h oa ob os hf ha hb.2
 by_cases h10:kd=10
 ·subst h10
  rcases hf with hf|hf
  ·exact absurd rfl (hnc hf).2
  ·exact step_cut h oa ob os hf ha.2
 have ne:∀ m:Int,kd≠m->(kd == m)=false:=fun m hm=>beq_eq_false_iff_ne.2 hm
 exact step_none h oa ob os kd (ne _ h1) (ne _ h2) (ne _ h9) (ne _ h10) (ne _ h3) (ne _ h4) (ne _ h5) (ne _ h6) (ne _ h7) (ne _ h8)
theorem PlayAt.mono{B S k j:Nat}{nc:Bool}{w:World}{q x:Nat}(h:PlayAt B S k nc w q x)(hk:k<=j):PlayAt B S j nc w q x:=by
 obtain⟨O,tv,ov,hv,X,Y,s,hand,h1,h2,h3,h4,h5,h6⟩:=h;exact⟨O,tv,ov,hv,X,Y,s,hand,h1,h2.mono hk,h3,h4,by omega,h6⟩
theorem any_more(ks:List Int)(p:Int->Bool){m:Nat}(hm:m<ks.length):(ks.take (m+1)).any p=((ks.take m).any p || p ks[m]):=by
 rw[List.take_succ_eq_append_getElem hm,List.any_append];simp
theorem secs_eq(z:Int):Sp.sectors z=(secs z:Int):=by
 have h:=(secs_ok z).2.2;unfold Sp.sectors
 split
 ·omega
 ·split <;> omega
theorem play_start{B S:Nat}{O:Nat->Prop}{w:World}{x:Nat}(h:Bare B O w x (Sp.St.new S))(hS:16<=S/\S<=256)(nc:Bool):
  PlayAt B S 0 nc (w.alloc (.cells #[.pointer (some ⟨x,0,none⟩),.int .i64 S,.slice none 0 0,.slice none 0 0,.bool false,.slice none 0 0] 113)) w.heap.size x:=by
 have hb:Below w.heap.size w (w.alloc (.cells #[.pointer (some ⟨x,0,none⟩),.int .i64 S,.slice none 0 0,.slice none 0 0,.bool false,.slice none 0 0] 113)):=(Below.refl _ _).alloc (Nat.le_refl _) _;have h':=heap_alloc_new w (.cells #[.pointer (some ⟨x,0,none⟩),.int .i64 S,.slice none 0 0,.slice none 0 0,.bool false,.slice none 0 0] 113);have hn:¬O w.heap.size:=fun e=>by have:=(h.low _ e).2;omega
 have hset:Sp.Set ([]:List Sp.Pk):=V9.nil_ok.set;refine⟨O,.slice none 0 0,.slice none 0 0,.slice none 0 0,[],[],⟨Sp.St.new S,[],[],false⟩,[],⟨h.below hb,by simp,hn,?_,?_,?_,?_,?_,?_,fun o=>by simp,PksOn.nil _ _,rfl,.inl rfl,PksOn.nil _ _,rfl,.inl rfl,World.ownsRow_nil _ _ _ _,fun g hg=>by cases hg⟩,.inl (V19.new hS nc),hset,Nat.zero_le _,Nat.zero_le _,fun t ht=>(by cases ht),fun _=>rfl⟩
 all_goals (rw[cell_of_row _ _ _ _ _ _ h'];rfl)
end
section
open Go.RowKit Go.Maps
theorem plays_some{G:Nat}{w:World}(hw:Wd G w)(z:Int)(sc:Value)(l:List OpV)(hsc:OpsAt w sc l)(hl:l.length<=2305843009213693952)(hs:∀ o∈l,o.s.length<=2305843009213693952)
  (hab:∀ o∈l,(-9223372036854775808<=o.a/\o.a<=9223372036854775807)/\(-9223372036854775808<=o.b/\o.b<=9223372036854775807))(b off cap:Nat)(ks:List Int)(hb:b<w.heap.size)(hks:∀ j,(hj:j<ks.length)->w.cell? ⟨b,off+j,none⟩=some (.int .i64 ks[j]))(hne:1<=ks.length)(hfew:ks.length<=100)(nc:Bool)(hnc:nc=true->∀ i∈ks,i≠9/\i≠10)(hend:(nc=false/\ks[ks.length-1]'(by omega)=10)\/(nc=true/\ks[ks.length-1]'(by omega)≠10)):
  Calls Tryz.prog 40 #[.int .i64 z,sc,(.slice (some ⟨b,off,none⟩) ks.length cap)] w fun e w'=>e=.returned (.bool true)/\Below w.heap.size w w':=by
 have hGz:=hw.glob.size;have hsm:=smallOps_any sc l w hsc hl hs;have hnew:=Run.new hw z;have hS:=secs_ok z;obtain⟨sa,scp,rfl,hscp,hsg⟩:=hsc.get;have HSM:=hid hsm;have HNEW:=hid hnew;have HSG:=hid hsg;have HAB:=hid hab;have HW:=hid (fun (W:World) (hW:Below w.heap.size w W)=>hw.keep hW);have HKS:=hid hks;have HNC:=hid hnc;have HEND:=hid hend;have hnil:=fun w=>Lib.run_eql_slice_nil (P:=Tryz.prog) w 77 3 (some ⟨b,off,none⟩) ks.length cap 0 0 Tryz.underlying77
 clear hks hnc hend;clear hsm hnew hsg hsc hw hs hab;go_enter Tryz.func40,Tryz.ntmps40;go_wp2_with fail;refine HSM.out.mono ?_;rintro e w1 ⟨rfl,hw1⟩;have hw1':=hw1.symm;subst hw1';clear hw1
 by_cases hsum:sumS l<=8192
 ·rw[decide_eq_true hsum]
  have hll:l.length<=8192:=by unfold sumS at hsum;omega
  have hos:∀ o∈l,o.s.length<=8192:=fun o ho=>by
   have h1:=V11.sum_sub (l:=[o.s.length]) (r:=l.map fun o=>o.s.length) (List.singleton_sublist.2 (List.mem_map.2 ⟨o,ho,rfl⟩));unfold sumS at hsum;simp at h1;omega
  have HOS:=hid hos;clear hos hsum;go_wp2_with fail;refine HNEW.out.mono ?_;rintro e w2 ⟨x,rfl,hb2,hrun⟩;have hbare:=hrun.bare;have hz2:=hb2.size;have hsec:=fun W=>sectorsR_any z W
  simp only[secs_eq] at hsec;have HSEC:=hid hsec;obtain⟨w3,hw3⟩:∃ w3,w3=w2.alloc (.cells #[.int .i64 0,.int .i64 0,.int .i64 0,.string ⟨#[]⟩] 23):=⟨_,rfl⟩
  have hb3:Below w2.heap.size w2 w3:=by rw[hw3];exact(Below.refl _ _).alloc (Nat.le_refl _) _
  have hz3:=hb3.size;have hst:=play_start (hbare.below hb3) ⟨hS.1,hS.2.1⟩ nc;obtain⟨S,hSS⟩:∃ S,S=secs z:=⟨_,rfl⟩
  rw[<-hSS] at hst HSEC;have hb4:Below w3.heap.size w3 (w3.alloc (.cells #[.pointer (some ⟨x,0,none⟩),.int .i64 S,.slice none 0 0,.slice none 0 0,.bool false,.slice none 0 0] 113)):=(Below.refl _ _).alloc (Nat.le_refl _) _;have HST:=hid hst;have HB4:=hid ((hb2.trans (hb3.mono hz2)).trans (hb4.mono (by omega)));clear hst hbare hrun hsec hb2 hb3 hb4 hSS hS HSM HNEW;unfold faultV sv Sp.okF;go_wp2_with fail;rw[<-hw3];clear hw3;refine(HSEC.out _).mono ?_;rintro e wq ⟨rfl,hwq⟩;have hwq':=hwq.symm;subst hwq';clear hwq;obtain⟨q,hq⟩:∃ q,q=w3.heap.size:=⟨_,rfl⟩
  have hqB:w.heap.size<=q:=by omega
  go_upto_block 2 with(fail)
  rw[<-hq] at HST ⊢;generalize (w3.alloc (.cells #[.pointer (some ⟨x,0,none⟩),.int .i64 S,.slice none 0 0,.slice none 0 0,.bool false,.slice none 0 0] 113))=w4 at *;clear hq
  go_loopw [12,13,14,15,16] (fun i _ _ _ _ wr=>∃ k:Nat,k<=l.length/\i=.int .i64 k/\PlayAt w.heap.size S k nc wr q x/\Below w.heap.size w wr) (fun i _ _ _ _ _=>l.length-(intOf i).toNat)
  case atStart=>exact⟨0,Nat.zero_le _,rfl,HST.out,HB4.out⟩
  case round =>
   obtain⟨k,hk,rfl,hpl,hbw⟩:=hrel;have HPL:=hid hpl;have HBW:=hid hbw;have hzw:=hbw.size;clear hpl hbw HST
   by_cases hkl:k<l.length
   ·obtain⟨b2,off2,rfl,hb2l,x0,x1,x2,x3⟩:=HSG.out k hkl
    have hol:=HOS.out _ (List.getElem_mem hkl);have hob:=HAB.out _ (List.getElem_mem hkl);generalize l[k]=o at x0 x1 x2 x3 hol hob;have y0:=(HBW.out.cell (p:=⟨b2,off2+k*4,none⟩) hb2l).trans x0;have y1:=(HBW.out.cell (p:=⟨b2,off2+k*4+1,none⟩) hb2l).trans x1;have y2:=(HBW.out.cell (p:=⟨b2,off2+k*4+2,none⟩) hb2l).trans x2;have y3:=(HBW.out.cell (p:=⟨b2,off2+k*4+3,none⟩) hb2l).trans x3;unfold sv at y3;have hb2r:b2<wr.heap.size:=by omega
    have HOB:=hid hob;clear x0 x1 x2 x3 hob;go_upto_region 13 with(fail)
    go_cut [14] from 35 to 80 (fun t wx=>t=.bool ((o.kind == 1) || (o.kind == 2))/\wx=wr)
    case first =>
     cases e1:(o.kind == 1) with
     | true =>
      go_wp2_with fail;go_meet
      case rel=>exact⟨by rw[e1];rfl,rfl⟩
     | false =>
      cases e2:(o.kind == 2) with
      | true =>
       go_wp2_with fail;go_meet
       case rel=>exact⟨by rw[e1,e2];rfl,rfl⟩
      | false =>
       go_wp2_with fail;go_meet
       case rel=>exact⟨by rw[e1,e2];rfl,rfl⟩
    case rest =>
     obtain⟨rfl,hwc⟩:=hcut;have hwc':=hwc.symm;subst hwc';clear hwc;go_wp2_with fail
     go_loop [14,15] (fun t j=>∃ m:Nat,m<=ks.length/\j=.int .i64 m/\t=.bool ((o.kind == 1 || o.kind == 2) || (ks.take m).any (fun i=>o.kind == i))) (fun _ j=>ks.length-(intOf j).toNat)
     case atStart=>exact⟨0,Nat.zero_le _,rfl,by simp⟩
     case round =>
      obtain⟨m,hm,rfl,rfl⟩:=hrel
      by_cases hml:m<ks.length
      ·have hx:=HKS.out m hml
       have hx':=(HBW.out.cell (p:=⟨b,off+m,none⟩) hb).trans hx;have hbr:b<wr.heap.size:=by omega
       have hmore:=any_more ks (fun i=>o.kind == i) hml;generalize ks[m]=km at hx hx' hmore;have HM:=hid hmore;clear hx hmore
       cases hcc:((o.kind == 1 || o.kind == 2) || (ks.take m).any (fun i=>o.kind == i)) with
       | true =>
        have HCC:=hid hcc;clear hcc;go_wp2_with fail;go_round
        case rel=>exact⟨m+1,hml,by go_num,by rw[HM.out,<-Bool.or_assoc,HCC.out];rfl⟩
        case measure=>simp[intOf];omega
       | false =>
        have HCC:=hid hcc;clear hcc;go_wp2_with fail;go_round
        case rel=>exact⟨m+1,hml,by go_num,by rw[HM.out,<-Bool.or_assoc,HCC.out];rfl⟩
        case measure=>simp[intOf];omega
      ·obtain rfl:m=ks.length:=by omega
       rw[List.take_length]
       cases hcc:((o.kind == 1 || o.kind == 2) || ks.any (fun i=>o.kind == i)) with
       | false =>
        clear hcc;go_wp2_with fail;go_roundw
        case rel=>exact⟨k+1,hkl,by go_num,HPL.out.mono (Nat.le_succ k),HBW.out⟩
        case measure=>simp[intOf];omega
       | true =>
        have hnk:nc=true->o.kind≠9/\o.kind≠10:=fun hn=>by
         rw[Bool.or_eq_true,Bool.or_eq_true,beq_iff_eq,beq_iff_eq,List.any_eq_true] at hcc
         rcases hcc with(h|h)|⟨i,hi,h⟩
         ·omega
         ·omega
         ·rw[beq_iff_eq] at h
          rw[h];exact HNC.out hn i hi
        have hst:Calls Tryz.prog 60 #[.pointer (some ⟨q,0,none⟩),.agg #[.int .i64 o.kind,.int .i64 o.a,.int .i64 o.b,.string ⟨o.s.toArray⟩]] wr (Went w.heap.size S k nc wr q x):=step_any ⟨HW.out wr HBW.out,HPL.out,hGz,hzw,hqB,by omega⟩ o hol HOB.out.1 HOB.out.2 hnk;have HSTP:=hid hst;clear hcc hnk hst;go_wp2_with fail;refine HSTP.out.mono ?_;rintro e w5 ⟨rfl,hb5,hp5⟩;have HF:=hid (⟨hp5,HBW.out.trans hb5⟩:PlayAt w.heap.size S (k+1) nc w5 q x/\Below w.heap.size w w5);clear hb5 hp5;go_wp2_with fail;go_roundw
        case rel=>exact⟨k+1,hkl,by go_num,HF.out⟩
        case measure=>simp[intOf];omega
   ·obtain rfl:k=l.length:=by omega
    obtain⟨d,hd⟩:∃ d,d=ks.length-1:=⟨_,rfl⟩
    have hdl:d<ks.length:=by omega
    have q1:IntKind.i64.wrap ((ks.length:Int)-1)=(d:Int):=by rw[show((ks.length:Int)-1)=(d:Int) from by omega];exact IntWalk.i64_in _ (by omega)
    have hdi:(d:Int)<(ks.length:Int):=by omega
    have hx':=(HBW.out.cell (p:=⟨b,off+d,none⟩) hb).trans (HKS.out d hdl);have hend:=HEND.out;simp only[<-hd] at hend;generalize ks[d]=kd at hx' hend;clear hd;have hbr:b<wr.heap.size:=by omega
    obtain⟨O,tv,ov,hv,X,Y,s,hand,h1,h2,h3,h4,h5,h6⟩:=HPL.out;obtain⟨hT,hXl,hYl⟩:=h1.few h2 h4
    rcases hend with⟨hn,he⟩|⟨hn,he⟩
    ·subst he
     subst hn;have hro:=reopens_any (HW.out wr HBW.out) h1 h2 (V20.inv_big h2).1 hqB hGz hzw (by omega) (by omega) hT h3 (-1) (-1) (by decide) (by decide) (by decide);have HRO:=hid hro;clear hro h1 h2 h3 hT;go_wp2_with fail;refine HRO.out.mono ?_;rintro e w5 ⟨rfl,hb5,_⟩;have HB5:=hid (HBW.out.trans hb5);clear hb5;go_wp2;go_ret;exact⟨rfl,HB5.out⟩
    ·have he':(kd == 10)=false:=beq_eq_false_iff_ne.2 he
     have hal:=V20.inv_seen h2 hn;have hsh:=shown_any h1 hal.live hT (by omega);rw[decide_eq_true (V19.texts_ok hal).symm] at hsh;have HSH:=hid hsh;clear hsh h1 h2 h3 hT hal
     cases e1:((ks.length:Int) == 1) with
     | true =>
      have HB5:=hid HBW.out;go_wp2;go_ret;exact⟨rfl,HB5.out⟩
     | false =>
      go_wp2_with fail;refine HSH.out.mono ?_;rintro e w5 ⟨rfl,hb5⟩;have HB5:=hid (HBW.out.trans (hb5.mono hzw));clear hb5;go_wp2;go_ret;exact⟨rfl,HB5.out⟩
 ·rw[decide_eq_false hsum]
  go_wp2;go_ret;exact⟨rfl,Below.refl _ _⟩
end
section
open Go.RowKit Go.Maps
theorem plays_all{G:Nat}{w:World}(hw:Wd G w)(z:Int)(sc:Value)(l:List OpV)(hsc:OpsAt w sc l)(hl:l.length<=2305843009213693952)(hs:∀ o∈l,o.s.length<=2305843009213693952)
  (hab:∀ o∈l,(-9223372036854775808<=o.a/\o.a<=9223372036854775807)/\(-9223372036854775808<=o.b/\o.b<=9223372036854775807)):
  Calls Tryz.prog 40 #[.int .i64 z,sc,(.slice none 0 0)] w fun e w'=>e=.returned (.bool true)/\Below w.heap.size w w':=by
 have hGz:=hw.glob.size;have hsm:=smallOps_any sc l w hsc hl hs;have hnew:=Run.new hw z;have hS:=secs_ok z;obtain⟨sa,scp,rfl,hscp,hsg⟩:=hsc.get;have HSM:=hid hsm;have HNEW:=hid hnew;have HSG:=hid hsg;have HAB:=hid hab;have HW:=hid (fun (W:World) (hW:Below w.heap.size w W)=>hw.keep hW);have hnil:=fun w=>Lib.run_eql_slice_nil (P:=Tryz.prog) w 77 3 none 0 0 0 0 Tryz.underlying77
 clear hsm hnew hsg hsc hw hs hab;go_enter Tryz.func40,Tryz.ntmps40;go_wp2_with fail;refine HSM.out.mono ?_;rintro e w1 ⟨rfl,hw1⟩;have hw1':=hw1.symm;subst hw1';clear hw1
 by_cases hsum:sumS l<=8192
 ·rw[decide_eq_true hsum]
  have hll:l.length<=8192:=by unfold sumS at hsum;omega
  have hos:∀ o∈l,o.s.length<=8192:=fun o ho=>by
   have h1:=V11.sum_sub (l:=[o.s.length]) (r:=l.map fun o=>o.s.length) (List.singleton_sublist.2 (List.mem_map.2 ⟨o,ho,rfl⟩));unfold sumS at hsum;simp at h1;omega
  have HOS:=hid hos;clear hos hsum;go_wp2_with fail;refine HNEW.out.mono ?_;rintro e w2 ⟨x,rfl,hb2,hrun⟩;have hbare:=hrun.bare;have hz2:=hb2.size;have hsec:=fun W=>sectorsR_any z W
  simp only[secs_eq] at hsec;have HSEC:=hid hsec;obtain⟨w3,hw3⟩:∃ w3,w3=w2.alloc (.cells #[.int .i64 0,.int .i64 0,.int .i64 0,.string ⟨#[]⟩] 23):=⟨_,rfl⟩
  have hb3:Below w2.heap.size w2 w3:=by rw[hw3];exact(Below.refl _ _).alloc (Nat.le_refl _) _
  have hz3:=hb3.size;have hst:=play_start (hbare.below hb3) ⟨hS.1,hS.2.1⟩ false;obtain⟨S,hSS⟩:∃ S,S=secs z:=⟨_,rfl⟩
  rw[<-hSS] at hst HSEC;have hb4:Below w3.heap.size w3 (w3.alloc (.cells #[.pointer (some ⟨x,0,none⟩),.int .i64 S,.slice none 0 0,.slice none 0 0,.bool false,.slice none 0 0] 113)):=(Below.refl _ _).alloc (Nat.le_refl _) _;have HST:=hid hst;have HB4:=hid ((hb2.trans (hb3.mono hz2)).trans (hb4.mono (by omega)));clear hst hbare hrun hsec hb2 hb3 hb4 hSS hS HSM HNEW;unfold faultV sv Sp.okF;go_wp2_with fail;rw[<-hw3];clear hw3;refine(HSEC.out _).mono ?_;rintro e wq ⟨rfl,hwq⟩;have hwq':=hwq.symm;subst hwq';clear hwq;obtain⟨q,hq⟩:∃ q,q=w3.heap.size:=⟨_,rfl⟩
  have hqB:w.heap.size<=q:=by omega
  go_upto_block 2 with(fail)
  rw[<-hq] at HST ⊢;generalize (w3.alloc (.cells #[.pointer (some ⟨x,0,none⟩),.int .i64 S,.slice none 0 0,.slice none 0 0,.bool false,.slice none 0 0] 113))=w4 at *;clear hq
  go_loopw [12,13,14,15,16] (fun i _ _ _ _ wr=>∃ k:Nat,k<=l.length/\i=.int .i64 k/\PlayAt w.heap.size S k false wr q x/\Below w.heap.size w wr) (fun i _ _ _ _ _=>l.length-(intOf i).toNat)
  case atStart=>exact⟨0,Nat.zero_le _,rfl,HST.out,HB4.out⟩
  case round =>
   obtain⟨k,hk,rfl,hpl,hbw⟩:=hrel;have HPL:=hid hpl;have HBW:=hid hbw;have hzw:=hbw.size;clear hpl hbw HST
   by_cases hkl:k<l.length
   ·obtain⟨b2,off2,rfl,hb2l,x0,x1,x2,x3⟩:=HSG.out k hkl
    have hol:=HOS.out _ (List.getElem_mem hkl);have hob:=HAB.out _ (List.getElem_mem hkl);generalize l[k]=o at x0 x1 x2 x3 hol hob;have y0:=(HBW.out.cell (p:=⟨b2,off2+k*4,none⟩) hb2l).trans x0;have y1:=(HBW.out.cell (p:=⟨b2,off2+k*4+1,none⟩) hb2l).trans x1;have y2:=(HBW.out.cell (p:=⟨b2,off2+k*4+2,none⟩) hb2l).trans x2;have y3:=(HBW.out.cell (p:=⟨b2,off2+k*4+3,none⟩) hb2l).trans x3;unfold sv at y3;have hb2r:b2<wr.heap.size:=by omega
    have HOB:=hid hob;clear x0 x1 x2 x3 hob;go_upto_region 13 with(fail)
    go_wp2_with fail
    go_loop [14,15] (fun t j=>j=.int .i64 0/\t=.bool true) (fun _ j=>0)
    case atStart=>exact⟨rfl,rfl⟩
    case round =>
     obtain⟨rfl,rfl⟩:=hrel;have hst:Calls Tryz.prog 60 #[.pointer (some ⟨q,0,none⟩),.agg #[.int .i64 o.kind,.int .i64 o.a,.int .i64 o.b,.string ⟨o.s.toArray⟩]] wr (Went w.heap.size S k false wr q x):=step_any ⟨HW.out wr HBW.out,HPL.out,hGz,hzw,hqB,by omega⟩ o hol HOB.out.1 HOB.out.2 (fun hn=>by cases hn);have HSTP:=hid hst;clear hst;go_wp2_with fail;refine HSTP.out.mono ?_;rintro e w5 ⟨rfl,hb5,hp5⟩;have HF:=hid (⟨hp5,HBW.out.trans hb5⟩:PlayAt w.heap.size S (k+1) false w5 q x/\Below w.heap.size w w5);clear hb5 hp5;go_wp2_with fail;go_roundw
     case rel=>exact⟨k+1,hkl,by go_num,HF.out⟩
     case measure=>simp[intOf];omega
   ·obtain rfl:k=l.length:=by omega
    obtain⟨O,tv,ov,hv,X,Y,s,hand,h1,h2,h3,h4,h5,h6⟩:=HPL.out;obtain⟨hT,hXl,hYl⟩:=h1.few h2 h4;have hro:=reopens_any (HW.out wr HBW.out) h1 h2 (V20.inv_big h2).1 hqB hGz hzw (by omega) (by omega) hT h3 (-1) (-1) (by decide) (by decide) (by decide);have HRO:=hid hro;clear hro h1 h2 h3 hT;go_wp2_with fail;refine HRO.out.mono ?_;rintro e w5 ⟨rfl,hb5,_⟩;have HB5:=hid (HBW.out.trans hb5);clear hb5;go_wp2;go_ret;exact⟨rfl,HB5.out⟩
 ·rw[decide_eq_false hsum]
  go_wp2;go_ret;exact⟨rfl,Below.refl _ _⟩
end
section
open Go.RowKit Go.Maps
theorem OpsAt.below{w w':World}{v:Value}{l:List OpV}(h:OpsAt w v l)(hb:Below w.heap.size w w'):OpsAt w' v l:=SlOn.mono (SlOn.keep h fun b hm=>hb.block b hm) fun _ hm=>Nat.lt_of_lt_of_le hm hb.size
structure Fair(l:List OpV):Prop where
 few:l.length<=2305843009213693952
 texts:∀ o∈l,o.s.length<=2305843009213693952
 nums:∀ o∈l,(-9223372036854775808<=o.a/\o.a<=9223372036854775807)/\(-9223372036854775808<=o.b/\o.b<=9223372036854775807)
theorem plans_law{G:Nat}{w:World}(hw:Wd G w)(sc:Value)(l:List OpV)(hsc:OpsAt w sc l)(hf:Fair l):
  Calls Tryz.prog 11 #[sc] w fun e w'=>e=.returned (.bool true)/\Below w.heap.size w w':=by
 obtain⟨w1,hw1⟩:∃ w1,w1=w.alloc (.cells #[.int .i64 5] 3):=⟨_,rfl⟩
 have hb1:Below w.heap.size w w1:=by rw[hw1];exact(Below.refl _ _).alloc (Nat.le_refl _) _
 have h':w1.heap[w.heap.size]? = some (.cells #[.int .i64 5] 3 (0,0)):=by rw[hw1];exact heap_alloc_new _ _
 have hlt:w.heap.size<w1.heap.size:=by rw[hw1];simp
 have hc:=fun o=>cell_of_row w1 w.heap.size o _ _ _ h'
 have hks:∀ j,(hj:j<([5]:List Int).length)->w1.cell? ⟨w.heap.size,0+j,none⟩=some (.int .i64 ([5]:List Int)[j]):=fun j hj=>by
  rw[Nat.zero_add,hc]
  match j,hj with
  | 0,_=>rfl
 have hp:=plays_some (hw.keep hb1) 16 sc l (hsc.below hb1) hf.few hf.texts hf.nums w.heap.size 0 1 [5] hlt hks (by decide) (by decide) true (by decide) (.inr ⟨rfl,by simp⟩);have HP:=hid hp;have HB:=hid hb1;obtain⟨a,cap,rfl,_⟩:=hsc.get;clear hp hb1 h' hc hks hlt hsc hf hw;go_enter Tryz.func11,Tryz.ntmps11;go_wp2_with fail;rw[<-hw1];clear hw1;refine HP.out.mono ?_;rintro e w2 ⟨rfl,hb2⟩;have HB2:=hid (HB.out.trans (hb2.mono HB.out.size));clear hb2;go_wp2;go_ret;exact⟨rfl,HB2.out⟩
theorem stores_law{G:Nat}{w:World}(hw:Wd G w)(z:Int)(sc:Value)(l:List OpV)(hsc:OpsAt w sc l)(hf:Fair l):
  Calls Tryz.prog 12 #[.int .i64 z,sc] w fun e w'=>e=.returned (.bool true)/\Below w.heap.size w w':=by
 obtain⟨w1,hw1⟩:∃ w1,w1=w.alloc (.cells #[.int .i64 3,.int .i64 4,.int .i64 5,.int .i64 6,.int .i64 7,.int .i64 8] 3):=⟨_,rfl⟩
 have hb1:Below w.heap.size w w1:=by rw[hw1];exact(Below.refl _ _).alloc (Nat.le_refl _) _
 have h':w1.heap[w.heap.size]? = some (.cells #[.int .i64 3,.int .i64 4,.int .i64 5,.int .i64 6,.int .i64 7,.int .i64 8] 3 (0,0)):=by rw[hw1];exact heap_alloc_new _ _
 have hlt:w.heap.size<w1.heap.size:=by rw[hw1];simp
 have hc:=fun o=>cell_of_row w1 w.heap.size o _ _ _ h'
 have hks:∀ j,(hj:j<([3,4,5,6,7,8]:List Int).length)->w1.cell? ⟨w.heap.size,0+j,none⟩=some (.int .i64 ([3,4,5,6,7,8]:List Int)[j]):=fun j hj=>by
  rw[Nat.zero_add,hc]
  match j,hj with
  | 0,_=>rfl
  | 1,_=>rfl
  | 2,_=>rfl
  | 3,_=>rfl
  | 4,_=>rfl
  | 5,_=>rfl
 have hp:=plays_some (hw.keep hb1) z sc l (hsc.below hb1) hf.few hf.texts hf.nums w.heap.size 0 6 [3,4,5,6,7,8] hlt hks (by decide) (by decide) true (by decide) (.inr ⟨rfl,by simp⟩);have HP:=hid hp;have HB:=hid hb1;obtain⟨a,cap,rfl,_⟩:=hsc.get;clear hp hb1 h' hc hks hlt hsc hf hw;go_enter Tryz.func12,Tryz.ntmps12;go_wp2_with fail;rw[<-hw1];clear hw1;refine HP.out.mono ?_;rintro e w2 ⟨rfl,hb2⟩;have HB2:=hid (HB.out.trans (hb2.mono HB.out.size));clear hb2;go_wp2;go_ret;exact⟨rfl,HB2.out⟩
theorem cuts_law{G:Nat}{w:World}(hw:Wd G w)(z:Int)(sc:Value)(l:List OpV)(hsc:OpsAt w sc l)(hf:Fair l):
  Calls Tryz.prog 13 #[.int .i64 z,sc] w fun e w'=>e=.returned (.bool true)/\Below w.heap.size w w':=by
 obtain⟨w1,hw1⟩:∃ w1,w1=w.alloc (.cells #[.int .i64 3,.int .i64 4,.int .i64 6,.int .i64 9,.int .i64 10] 3):=⟨_,rfl⟩
 have hb1:Below w.heap.size w w1:=by rw[hw1];exact(Below.refl _ _).alloc (Nat.le_refl _) _
 have h':w1.heap[w.heap.size]? = some (.cells #[.int .i64 3,.int .i64 4,.int .i64 6,.int .i64 9,.int .i64 10] 3 (0,0)):=by rw[hw1];exact heap_alloc_new _ _
 have hlt:w.heap.size<w1.heap.size:=by rw[hw1];simp
 have hc:=fun o=>cell_of_row w1 w.heap.size o _ _ _ h'
 have hks:∀ j,(hj:j<([3,4,6,9,10]:List Int).length)->w1.cell? ⟨w.heap.size,0+j,none⟩=some (.int .i64 ([3,4,6,9,10]:List Int)[j]):=fun j hj=>by
  rw[Nat.zero_add,hc]
  match j,hj with
  | 0,_=>rfl
  | 1,_=>rfl
  | 2,_=>rfl
  | 3,_=>rfl
  | 4,_=>rfl
 have hp:=plays_some (hw.keep hb1) z sc l (hsc.below hb1) hf.few hf.texts hf.nums w.heap.size 0 5 [3,4,6,9,10] hlt hks (by decide) (by decide) false (by decide) (.inl ⟨rfl,rfl⟩);have HP:=hid hp;have HB:=hid hb1;obtain⟨a,cap,rfl,_⟩:=hsc.get;clear hp hb1 h' hc hks hlt hsc hf hw;go_enter Tryz.func13,Tryz.ntmps13;go_wp2_with fail;rw[<-hw1];clear hw1;refine HP.out.mono ?_;rintro e w2 ⟨rfl,hb2⟩;have HB2:=hid (HB.out.trans (hb2.mono HB.out.size));clear hb2;go_wp2;go_ret;exact⟨rfl,HB2.out⟩
theorem all_law{G:Nat}{w:World}(hw:Wd G w)(z:Int)(sc:Value)(l:List OpV)(hsc:OpsAt w sc l)(hf:Fair l):
  Calls Tryz.prog 14 #[.int .i64 z,sc] w fun e w'=>e=.returned (.bool true)/\Below w.heap.size w w':=by
 have hp:=plays_all hw z sc l hsc hf.few hf.texts hf.nums;have HP:=hid hp;obtain⟨a,cap,rfl,_⟩:=hsc.get;clear hp hsc hf hw;go_enter Tryz.func14,Tryz.ntmps14;go_wp2_with fail;refine HP.out.mono ?_;rintro e w2 ⟨rfl,hb2⟩;have HB2:=hid hb2;clear hb2;go_wp2;go_ret;exact⟨rfl,HB2.out⟩
end
end Go.Proofs.YtfphcecjhdkcoaaGreatDoor

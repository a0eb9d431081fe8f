/-
How a package lies in memory; the walk of its printing.
-/
import Derived.Test.YtfphcecjhdkcoaaGreatDoorScrP01
import Derived.Test.YtfphcecjhdkcoaaGreatDoorScrP02
import Derived.Deep.DeepCutAuto
set_option maxRecDepth 100000
set_option maxHeartbeats 8000000
namespace Go.Proofs.YtfphcecjhdkcoaaGreatDoor
open Go.Lib (hid)
section
open Go.RowKit
theorem signs_any(x:ByteArray)(b off cap:Nat)(w:World)(h:∀ k,(hk:k<5)->w.cell? ⟨b,off+k,none⟩=some (.string ⟨(Sp.signs[k]'hk).toArray⟩)):
  Calls Tryz.prog 195 #[.slice (some ⟨b,off,none⟩) 5 cap,.string x] w fun e w'=>e=.returned (.bool (Sp.signs.contains (bl x)))/\w=w':=by
 have hz:∀ j,(hj:j<(Sp.signs.map (fun s=>(⟨s.toArray⟩:ByteArray))).length)->(Sp.signs.map (fun s=>(⟨s.toArray⟩:ByteArray))).getD j ByteArray.empty=⟨(Sp.signs[j]'(by simpa using hj)).toArray⟩:=fun j hj=>by
  rw[List.getD_eq_getElem?_getD,List.getElem?_map,List.getElem?_eq_getElem (by simpa using hj)];rfl
 refine(Tryz.slices_Contains_string b off 5 cap (Sp.signs.map (fun s=>(⟨s.toArray⟩:ByteArray))) x w (by decide) (by decide) (fun j hj=>?_)).mono fun e w' ⟨h1,h2⟩=>⟨?_,h2.symm⟩
 ·rw[hz j hj];exact h j hj
 ·rw[h1]
  refine ret_bool ?_;rw[Bool.eq_iff_iff,Lib.containsS_iff];simp only[List.contains_iff_mem];constructor
  ·intro hm
   have hm':=List.mem_of_mem_take hm;obtain⟨q,hq,rfl⟩:=List.mem_map.1 hm';exact hq
  ·intro hm
   rw[List.take_of_length_le (by decide)];exact List.mem_map.2 ⟨bl x,hm,mk_bl x⟩
theorem choose_no0{G:Nat}(s:ByteArray)(w:World)(hG:Glob G w)(hs:s.size<4294967281)(hn:Sp.isName (Lib.cut (bl s) [32,40]).1=false):
  Calls Tryz.prog 158 #[.string s] w fun e w'=>e=.panicked [{v:=.iface 177 (.agg #[]),recovered:=false}]/\Below w.heap.size w w':=by
 have HN:=hid hn;clear hn;go_enter Tryz.func158,Tryz.ntmps158;go_wp2_with fail;refine(cutS_any s _ _ (hG.keep ((Below.refl _ _).alloc (Nat.le_refl _) _)) hs).mono ?_;rintro e w1 ⟨rfl,n,rfl⟩;go_wp2_with fail;refine(name_no ⟨(Lib.cut (bl s) [32,40]).1.toArray⟩ _ (hG.keep (below_drewN ((Below.refl _ _).alloc (Nat.le_refl _) _) n)) HN.out).mono ?_;rintro e w1 ⟨rfl,hb⟩;go_wp2;exact⟨rfl,rfl,(below_drewN ((Below.refl _ _).alloc (Nat.le_refl _) _) n).trans (hb.mono (by simp))⟩
theorem choose_yes0{G:Nat}(s:ByteArray)(w:World)(hG:Glob G w)(hs:s.size<4294967281)(a1 a2:Sp.Str)(hA:Lib.cut (bl s) [32,40]=(a1,a2,false))(hn:Sp.isName a1=true):
  Calls Tryz.prog 158 #[.string s] w fun e w'=>e=.returned (.agg #[sv a1,sv [],sv []])/\Below w.heap.size w w':=by
 have HN:=hid hn;have HA:=hid hA;clear hn hA;go_enter Tryz.func158,Tryz.ntmps158;go_wp2_with fail;refine(cutS_any s _ _ (hG.keep ((Below.refl _ _).alloc (Nat.le_refl _) _)) hs).mono ?_;rintro e w1 ⟨rfl,n,rfl⟩;rw[show bl ⟨#[32,40]⟩=[32,40] from rfl,HA.out];go_wp2_with fail;have hb0:Below w.heap.size w ((w.alloc (Obj.cells #[Value.string ⟨#[]⟩,Value.string ⟨#[]⟩,Value.string ⟨#[]⟩] 187)).drewN n):=below_drewN ((Below.refl _ _).alloc (Nat.le_refl _) _) n;refine(name_yes ⟨a1.toArray⟩ _ (hG.keep hb0) HN.out).mono ?_;rintro e w1 ⟨rfl,hb⟩;obtain⟨hc,hf⟩:=bcell hb;have hz:w.heap.size<w1.heap.size:=by have:=hb.size;simp at this;omega
 go_wp2;refine bodyPost_ret (v:=.agg #[sv a1,sv [],sv []]) (by simp[results,Tryz.results158,go_sem,hc,hz,sv]) rfl ⟨rfl,?_⟩;have hb1:=hb0.trans (hb.mono (by simp))
 repeat' (first|assumption|refine Below.setCell ?_ (by simp) _|refine Below.alloc ?_ (by simp;omega) _)
theorem choose_no1{G:Nat}(s:ByteArray)(w:World)(hG:Glob G w)(hs:s.size<4294967281)(a1 a2 b1 b2:Sp.Str)(ok:Bool)(hA:Lib.cut (bl s) [32,40]=(a1,a2,true))(hn:Sp.isName a1=true)(hB:Lib.cut a2 [32]=(b1,b2,ok))(ha2:a2.length<4294967281)
  (h:(ok && Sp.signs.contains b1 && Lib.hasSuffix b2 [41])=false)(hlb:b2.length<=9223372036854775807):
  Calls Tryz.prog 158 #[.string s] w fun e w'=>e=.panicked [{v:=.iface 177 (.agg #[]),recovered:=false}]/\Below w.heap.size w w':=by
 have HN:=hid hn;have HA:=hid hA;have HB:=hid hB;have hsz2:(⟨a2.toArray⟩:ByteArray).size<4294967281:=by rw[<-bl_len,bl_mk];exact ha2
 have hsb2:(⟨b2.toArray⟩:ByteArray).size<=9223372036854775807:=by rw[<-bl_len,bl_mk];exact hlb
 have H:=hid h;clear hn hA hB ha2 hlb h;go_enter Tryz.func158,Tryz.ntmps158;go_wp2_with fail;refine(cutS_any s _ _ (hG.keep ((Below.refl _ _).alloc (Nat.le_refl _) _)) hs).mono ?_;rintro e w1 ⟨rfl,n,rfl⟩;rw[show bl ⟨#[32,40]⟩=[32,40] from rfl,HA.out];go_wp2_with fail;have hb0:Below w.heap.size w ((w.alloc (Obj.cells #[Value.string ⟨#[]⟩,Value.string ⟨#[]⟩,Value.string ⟨#[]⟩] 187)).drewN n):=below_drewN ((Below.refl _ _).alloc (Nat.le_refl _) _) n;refine(name_yes ⟨a1.toArray⟩ _ (hG.keep hb0) HN.out).mono ?_;rintro e w1 ⟨rfl,hb⟩;obtain⟨hc,hf⟩:=bcell hb;have hz:w.heap.size<w1.heap.size:=by have:=hb.size;simp at this;omega
 have hb1:=hb0.trans (hb.mono (by simp));go_wp2_with fail;have hGl:=(hG.keep hb1).keep ((Below.refl w1.heap.size w1).alloc (Nat.le_refl _) (Obj.cells #[Value.string ⟨a1.toArray⟩,Value.string ⟨#[]⟩,Value.string ⟨#[]⟩] 187));refine(cutS_any ⟨a2.toArray⟩ _ _ hGl hsz2).mono ?_;rintro e w2 ⟨rfl,n2,rfl⟩;rw[show bl ⟨#[32]⟩=[32] from rfl,bl_mk,HB.out];have hb2:Below w.heap.size w ((w1.alloc (Obj.cells #[Value.string ⟨a1.toArray⟩,Value.string ⟨#[]⟩,Value.string ⟨#[]⟩] 187)).drewN n2):=below_drewN (hb1.alloc (by omega) _) n2;obtain⟨sb,so,sc,hsbG,hs1,hs2⟩:=(hG.keep hb2).signs
 cases ok with
 | false =>
  go_wp2_with fail;refine(must_false _).mono ?_;rintro e w3 ⟨rfl,rfl⟩;go_wp2;exact⟨rfl,rfl,hb2⟩
 | true =>
  go_wp2_with fail;refine(signs_any _ sb so sc _ hs2).mono ?_;rintro e w3 ⟨rfl,rfl⟩;rw[bl_mk];have H2:Hid ((Sp.signs.contains b1 && Lib.hasSuffix b2 [41])=false):=by have:=H.out;simp only[Bool.true_and] at this;exact this
  clear H;generalize Sp.signs.contains b1=c at *
  cases c with
  | false =>
   go_wp2_with fail;refine(must_false _).mono ?_;rintro e w3 ⟨rfl,rfl⟩;go_wp2;exact⟨rfl,rfl,hb2⟩
  | true =>
   go_wp2_with fail;refine(hasSuffix_any _ _ _ hsb2).mono ?_;rintro e w3 ⟨rfl,rfl⟩;rw[bl_mk,show bl ⟨#[41]⟩=[41] from rfl,show Lib.hasSuffix b2 [41]=false from by have:=H2.out;rwa [Bool.true_and] at this];go_wp2_with fail;refine(must_false _).mono ?_;rintro e w3 ⟨rfl,rfl⟩;go_wp2;exact⟨rfl,rfl,hb2⟩
theorem choose_no2{G:Nat}(s:ByteArray)(w:World)(hG:Glob G w)(hs:s.size<4294967281)(a1 a2 b1 b2:Sp.Str)(ok:Bool)(hA:Lib.cut (bl s) [32,40]=(a1,a2,true))(hn:Sp.isName a1=true)(hB:Lib.cut a2 [32]=(b1,b2,ok))(ha2:a2.length<4294967281)
  (h:(ok && Sp.signs.contains b1 && Lib.hasSuffix b2 [41])=true)(hlb:b2.length<=9223372036854775807)(hv:Sp.isVer (Lib.trimSuffix b2 [41])=false):
  Calls Tryz.prog 158 #[.string s] w fun e w'=>e=.panicked [{v:=.iface 177 (.agg #[]),recovered:=false}]/\Below w.heap.size w w':=by
 have HV:=hid hv;clear hv;have HN:=hid hn;have HA:=hid hA;have HB:=hid hB;have hsz2:(⟨a2.toArray⟩:ByteArray).size<4294967281:=by rw[<-bl_len,bl_mk];exact ha2
 have hsb2:(⟨b2.toArray⟩:ByteArray).size<=9223372036854775807:=by rw[<-bl_len,bl_mk];exact hlb
 have H:=hid h;clear hn hA hB ha2 hlb h;go_enter Tryz.func158,Tryz.ntmps158;go_wp2_with fail;refine(cutS_any s _ _ (hG.keep ((Below.refl _ _).alloc (Nat.le_refl _) _)) hs).mono ?_;rintro e w1 ⟨rfl,n,rfl⟩;rw[show bl ⟨#[32,40]⟩=[32,40] from rfl,HA.out];go_wp2_with fail;have hb0:Below w.heap.size w ((w.alloc (Obj.cells #[Value.string ⟨#[]⟩,Value.string ⟨#[]⟩,Value.string ⟨#[]⟩] 187)).drewN n):=below_drewN ((Below.refl _ _).alloc (Nat.le_refl _) _) n;refine(name_yes ⟨a1.toArray⟩ _ (hG.keep hb0) HN.out).mono ?_;rintro e w1 ⟨rfl,hb⟩;obtain⟨hc,hf⟩:=bcell hb;have hz:w.heap.size<w1.heap.size:=by have:=hb.size;simp at this;omega
 have hb1:=hb0.trans (hb.mono (by simp));go_wp2_with fail;have hGl:=(hG.keep hb1).keep ((Below.refl w1.heap.size w1).alloc (Nat.le_refl _) (Obj.cells #[Value.string ⟨a1.toArray⟩,Value.string ⟨#[]⟩,Value.string ⟨#[]⟩] 187));refine(cutS_any ⟨a2.toArray⟩ _ _ hGl hsz2).mono ?_;rintro e w2 ⟨rfl,n2,rfl⟩;rw[show bl ⟨#[32]⟩=[32] from rfl,bl_mk,HB.out];have hb2:Below w.heap.size w ((w1.alloc (Obj.cells #[Value.string ⟨a1.toArray⟩,Value.string ⟨#[]⟩,Value.string ⟨#[]⟩] 187)).drewN n2):=below_drewN (hb1.alloc (by omega) _) n2;obtain⟨sb,so,sc,hsbG,hs1,hs2⟩:=(hG.keep hb2).signs;obtain⟨rfl,hcon,hsuf⟩:ok=true/\Sp.signs.contains b1=true/\Lib.hasSuffix b2 [41]=true:=by
  have:=H.out;simp only[Bool.and_eq_true] at this;exact⟨this.1.1,this.1.2,this.2⟩
 have HC:=hid hcon;have HS:=hid hsuf;clear H hcon hsuf;go_wp2_with fail;refine(signs_any _ sb so sc _ hs2).mono ?_;rintro e w3 ⟨rfl,rfl⟩;rw[bl_mk,HC.out];go_wp2_with fail;refine(hasSuffix_any _ _ _ hsb2).mono ?_;rintro e w3 ⟨rfl,rfl⟩;rw[bl_mk,show bl ⟨#[41]⟩=[41] from rfl,HS.out];go_wp2_with fail;refine(must_true _).mono ?_;rintro e w3 ⟨rfl,rfl⟩;go_wp2_with fail;refine(trim_any _ _ _ hsb2).mono ?_;rintro e w3 ⟨rfl,rfl⟩;rw[bl_mk,show bl ⟨#[41]⟩=[41] from rfl];go_wp2_with fail;refine(ver_no ⟨(Lib.trimSuffix b2 [41]).toArray⟩ _ HV.out).mono ?_;rintro e w3 ⟨rfl,hb3⟩;go_wp2;exact⟨rfl,rfl,hb2.trans (hb3.mono hb2.size)⟩
theorem choose_yes{G:Nat}(s:ByteArray)(w:World)(hG:Glob G w)(hs:s.size<4294967281)(a1 a2 b1 b2:Sp.Str)(ok:Bool)(hA:Lib.cut (bl s) [32,40]=(a1,a2,true))(hn:Sp.isName a1=true)(hB:Lib.cut a2 [32]=(b1,b2,ok))(ha2:a2.length<4294967281)
  (h:(ok && Sp.signs.contains b1 && Lib.hasSuffix b2 [41])=true)(hlb:b2.length<=9223372036854775807)(hv:Sp.isVer (Lib.trimSuffix b2 [41])=true):
  Calls Tryz.prog 158 #[.string s] w fun e w'=>e=.returned (.agg #[sv a1,sv b1,sv (Lib.trimSuffix b2 [41])])/\Below w.heap.size w w':=by
 have HV:=hid hv;clear hv;have HN:=hid hn;have HA:=hid hA;have HB:=hid hB;have hsz2:(⟨a2.toArray⟩:ByteArray).size<4294967281:=by rw[<-bl_len,bl_mk];exact ha2
 have hsb2:(⟨b2.toArray⟩:ByteArray).size<=9223372036854775807:=by rw[<-bl_len,bl_mk];exact hlb
 have H:=hid h;clear hn hA hB ha2 hlb h;go_enter Tryz.func158,Tryz.ntmps158;go_wp2_with fail;refine(cutS_any s _ _ (hG.keep ((Below.refl _ _).alloc (Nat.le_refl _) _)) hs).mono ?_;rintro e w1 ⟨rfl,n,rfl⟩;rw[show bl ⟨#[32,40]⟩=[32,40] from rfl,HA.out];go_wp2_with fail;have hb0:Below w.heap.size w ((w.alloc (Obj.cells #[Value.string ⟨#[]⟩,Value.string ⟨#[]⟩,Value.string ⟨#[]⟩] 187)).drewN n):=below_drewN ((Below.refl _ _).alloc (Nat.le_refl _) _) n;refine(name_yes ⟨a1.toArray⟩ _ (hG.keep hb0) HN.out).mono ?_;rintro e w1 ⟨rfl,hb⟩;obtain⟨hc,hf⟩:=bcell hb;have hz:w.heap.size<w1.heap.size:=by have:=hb.size;simp at this;omega
 have hb1:=hb0.trans (hb.mono (by simp));go_wp2_with fail;have hGl:=(hG.keep hb1).keep ((Below.refl w1.heap.size w1).alloc (Nat.le_refl _) (Obj.cells #[Value.string ⟨a1.toArray⟩,Value.string ⟨#[]⟩,Value.string ⟨#[]⟩] 187));refine(cutS_any ⟨a2.toArray⟩ _ _ hGl hsz2).mono ?_;rintro e w2 ⟨rfl,n2,rfl⟩;rw[show bl ⟨#[32]⟩=[32] from rfl,bl_mk,HB.out];have hb2:Below w.heap.size w ((w1.alloc (Obj.cells #[Value.string ⟨a1.toArray⟩,Value.string ⟨#[]⟩,Value.string ⟨#[]⟩] 187)).drewN n2):=below_drewN (hb1.alloc (by omega) _) n2;obtain⟨sb,so,sc,hsbG,hs1,hs2⟩:=(hG.keep hb2).signs;obtain⟨rfl,hcon,hsuf⟩:ok=true/\Sp.signs.contains b1=true/\Lib.hasSuffix b2 [41]=true:=by
  have:=H.out;simp only[Bool.and_eq_true] at this;exact⟨this.1.1,this.1.2,this.2⟩
 have HC:=hid hcon;have HS:=hid hsuf;clear H hcon hsuf;go_wp2_with fail;refine(signs_any _ sb so sc _ hs2).mono ?_;rintro e w3 ⟨rfl,rfl⟩;rw[bl_mk,HC.out];go_wp2_with fail;refine(hasSuffix_any _ _ _ hsb2).mono ?_;rintro e w3 ⟨rfl,rfl⟩;rw[bl_mk,show bl ⟨#[41]⟩=[41] from rfl,HS.out];go_wp2_with fail;refine(must_true _).mono ?_;rintro e w3 ⟨rfl,rfl⟩;go_wp2_with fail;refine(trim_any _ _ _ hsb2).mono ?_;rintro e w3 ⟨rfl,rfl⟩;rw[bl_mk,show bl ⟨#[41]⟩=[41] from rfl];go_wp2_with fail;refine(ver_yes ⟨(Lib.trimSuffix b2 [41]).toArray⟩ _ HV.out).mono ?_;rintro e w3 ⟨rfl,hb3⟩;obtain⟨hc3,hf3⟩:=bcell hb3;have hz3:w1.heap.size<w3.heap.size:=by have:=hb3.size;simp at this;omega
 have hb4:=hb2.trans (hb3.mono hb2.size);go_wp2;have hz':w.heap.size<w1.heap.size+1:=by omega
 refine bodyPost_ret (v:=.agg #[sv a1,sv b1,sv (Lib.trimSuffix b2 [41])]) (by simp[results,Tryz.results158,go_sem,sv,hc,hc3,hz,hz']) rfl ⟨rfl,?_⟩
 repeat' (first|assumption|refine Below.setCell ?_ (by simp;omega) _|refine Below.setCell ?_ (by simp) _|refine Below.alloc ?_ (by simp;omega) _)
namespace W2
theorem cut_fst(s t:Sp.Str):(Lib.cut s t).1.length<=s.length:=by
 unfold Lib.cut;split
 ·simp;omega
 ·simp
theorem cut_snd(s t:Sp.Str):(Lib.cut s t).2.1.length<=s.length:=by
 unfold Lib.cut;split
 ·simp
 ·simp
end W2
theorem choose_some{G:Nat}(s:ByteArray)(w:World)(c:Sp.Ch)(hG:Glob G w)(hs:s.size<4294967281)(h:Sp.choose (bl s)=some c):
  Calls Tryz.prog 158 #[.string s] w fun e w'=>e=.returned (.agg #[sv c.name,sv c.sign,sv c.ver])/\Below w.heap.size w w':=by
 have h1:=W2.cut_snd (bl s) [32,40];have h2:=W2.cut_snd (Lib.cut (bl s) [32,40]).2.1 [32];rw[bl_len] at h1;unfold Sp.choose at h
 rcases hA:Lib.cut (bl s) [32,40] with⟨a1,a2,a3⟩
 rw[hA] at h h1 h2;simp only at h h1 h2
 by_cases hn:Sp.isName a1=true
 ·rw[if_pos hn] at h
  cases a3 with
  | false =>
   rw[if_neg (by simp)] at h
   cases h
   exact choose_yes0 s w hG hs a1 a2 hA hn
  | true =>
   rw[if_pos rfl] at h
   rcases hB:Lib.cut a2 [32] with⟨b1,b2,b3⟩
   rw[hB] at h h2;simp only at h h2
   split at h
   ·rename_i hc
    cases h
    rw[Bool.and_eq_true] at hc;exact choose_yes s w hG hs a1 a2 b1 b2 b3 hA hn hB (by omega) hc.1 (by omega) hc.2
   ·cases h
 ·rw[if_neg hn] at h;cases h
theorem choose_none{G:Nat}(s:ByteArray)(w:World)(hG:Glob G w)(hs:s.size<4294967281)(h:Sp.choose (bl s)=none):
  Calls Tryz.prog 158 #[.string s] w fun e w'=>e=.panicked [{v:=.iface 177 (.agg #[]),recovered:=false}]/\Below w.heap.size w w':=by
 have h1:=W2.cut_snd (bl s) [32,40];have h2:=W2.cut_snd (Lib.cut (bl s) [32,40]).2.1 [32];rw[bl_len] at h1;unfold Sp.choose at h
 by_cases hn:Sp.isName (Lib.cut (bl s) [32,40]).1=true
 ·rcases hA:Lib.cut (bl s) [32,40] with⟨a1,a2,a3⟩
  rw[hA] at h h1 h2 hn;simp only at h h1 h2 hn;rw[if_pos hn] at h
  cases a3 with
  | false=>rw[if_neg (by simp)] at h;cases h
  | true =>
   rw[if_pos rfl] at h
   rcases hB:Lib.cut a2 [32] with⟨b1,b2,b3⟩
   rw[hB] at h h2;simp only at h h2
   split at h
   ·cases h
   ·rename_i hc
    cases hd:(b3 && Sp.signs.contains b1 && Lib.hasSuffix b2 [41]) with
    | false=>exact choose_no1 s w hG hs a1 a2 b1 b2 b3 hA hn hB (by omega) hd (by omega)
    | true=>exact choose_no2 s w hG hs a1 a2 b1 b2 b3 hA hn hB (by omega) hd (by omega) (by rw[hd,Bool.true_and] at hc;simpa using hc)
 ·exact choose_no0 s w hG hs (by simpa using hn)
end
section
open Go.RowKit
def EachC(s sep:Sp.Str)(most B:Nat)(w:World)(e:Ending)(w':World):Prop:=
 Below B w w'/\((∃ l v,Sp.each s sep most Sp.choose=some l/\e=.returned v/\w'.ownsRow B 187 3 v l.length (chRow l))\/(Sp.each s sep most Sp.choose=none/\e=.panicked [{v:=.iface 177 (.agg #[]),recovered:=false}]))
theorem eachC_any{G:Nat}(s sep:ByteArray)(most:Nat)(w:World)(hG:Glob G w)(hs:s.size<1000000)(h0:0<sep.size):
  Calls Tryz.prog 157 #[.string s,.string sep,.int .i64 most,.func (.func 158) #[] #[]] w (EachC (bl s) (bl sep) most w.heap.size w):=by
 have htn:bl sep≠[]:=by intro h;rw[<-bl_len,h] at h0;simp at h0
 have hpl:=Sp.split_length (bl s) (bl sep) htn;rw[bl_len] at hpl;have hpm:∀ x∈Lib.split (bl s) (bl sep),x.length<1000000:=fun x hx=>by
  have:=Sp.split_mem (bl s) (bl sep) x htn hx;rw[bl_len] at this;omega
 have HPM:=hid hpm;clear htn hpm;obtain⟨B,hB⟩:∃ B,w.heap.size=B:=⟨_,rfl⟩
 rw[hB];have hGB:G<=B:=by rw[<-hB];exact hG.size
 have HB:=hid hB;clear hB;go_enter Tryz.func157,Tryz.ntmps157;go_wp2_with fail;refine(splitS_any s sep w hG (by omega) h0).mono ?_;rintro e w1 ⟨v,rfl,hv,hb⟩;generalize hL:Lib.split (bl s) (bl sep)=L at *;obtain⟨a,cap,rfl,hcap,hget⟩:=hv.get;have HL:=hid hL.symm;have HG:=hid hget;clear hL hv hget;rw[HB.out] at hb;go_wp2
 go_loopw [9,16] (fun v i wr=>∃ (k:Nat) (done:List Sp.Ch),k<=L.length/\i=.int .i64 k/\Sp.mapO Sp.choose (L.take k)=some done/\wr.ownsRow w1.heap.size 187 3 v done.length (chRow done)/\Below w1.heap.size w1 wr) (fun _ i _=>L.length-(intOf i).toNat)
 case atStart=>exact⟨0,[],Nat.zero_le _,rfl,rfl,World.ownsRow_nil _ _ _ _,Below.refl _ _⟩
 case round =>
  obtain⟨k,done,hk,rfl,hdone,hown,hbel⟩:=hrel;have hlen:=W3.mapO_len _ _ _ hdone;rw[List.length_take,Nat.min_eq_left hk] at hlen;have HD:=hid hdone;have hn:done.length<=1000000:=by omega
  have HLEN:=hid hlen;have hbw:Below B w wr:=hb.trans (hbel.mono (by have:=hb.size;rw[HB.out] at this;exact this));have hGr:Glob G wr:=hG.below hbw hGB;have hw1:w1.heap.size<=wr.heap.size:=hbel.size;have hbw0:B<=wr.heap.size:=by have:=hbw.size;rw[HB.out] at this;exact this
  clear hdone hlen
  by_cases h:k<L.length
  ·obtain⟨b,off,rfl,hbb,hcell⟩:=HG.out k h
   have hcell':=(hbel.cell (p:=⟨b,off+k,none⟩) hbb).trans hcell;have hpiece:(⟨L[k].toArray⟩:ByteArray).size<4294967281:=by
    have:=HPM.out L[k] (List.getElem_mem h);rw[<-bl_len,bl_mk];omega
   clear hcell HG
   cases hone:Sp.choose L[k] with
   | none =>
    have HO:=hid hone;clear hone;go_wp2_with fail;refine(choose_none ⟨L[k].toArray⟩ wr hGr hpiece HO.out).mono ?_;rintro e w2 ⟨rfl,hb2⟩;go_wp2;exact⟨rfl,hbw.trans (hb2.mono hbw0),.inr ⟨W3.each_stop HL.out (W3.mapO_stop _ L[k] L (List.getElem_mem h) HO.out),rfl⟩⟩
   | some c =>
    have HO:=hid hone;clear hone;go_wp2_with fail;refine(choose_some ⟨L[k].toArray⟩ wr c hGr hpiece HO.out).mono ?_;rintro e w2 ⟨rfl,hb2⟩;have hown2:=W3.row_keep hown hb2;have hbel2:=hbel.trans (hb2.mono hw1);go_wp2_with (at_builtin;refine wp_app app170 w2 [sv c.name,sv c.sign,sv c.ver] rfl (by simp[Value.oneCell',sv]) rfl _ _ rfl w1.heap.size _ _ _ rfl hown2 rfl (by omega) (by have:=hb2.size;omega) ?_;intro v' w3 hown' hgrow _);have hbel3:=below_of_grown hbel2 hbel2.size hown2 hgrow;rw[chRow_snoc] at hown';go_roundw
    case rel=>exact⟨k+1,done ++ [c],h,by go_num,W3.mapO_next h HD.out HO.out,by simpa using hown',hbel3⟩
    case measure=>simp[intOf];omega
  ·obtain rfl:k=L.length:=by omega
   have hdone':Sp.mapO Sp.choose L=some done:=by have:=HD.out;rwa [List.take_length] at this
   have hln:(done.length:Int)=L.length:=by have:=HLEN.out;omega
   have HD':=hid hdone';have HLN:=hid hln;clear hdone' hln HG;obtain⟨ra,rc,rfl⟩:=W3.row_slice hown
   by_cases hmo:done.length<=most
   ·go_wp2_with fail
    refine(must_true _).mono ?_;rintro e w2 ⟨rfl,rfl⟩;go_wp2;go_ret;exact⟨hbw,.inl ⟨done,_,by rw[W3.each_of HL.out HD'.out,if_pos hmo],rfl,W3.row_base hown (by have:=hb.size;rw[HB.out] at this;exact this)⟩⟩
   ·go_wp2_with fail
    refine(must_false _).mono ?_;rintro e w2 ⟨rfl,rfl⟩;go_wp2;exact⟨rfl,hbw,.inr ⟨by rw[W3.each_of HL.out HD'.out,if_neg hmo],rfl⟩⟩
end
section
open Go.RowKit
theorem groupO_none{G:Nat}(s:ByteArray)(w:World)(hG:Glob G w)(hs:s.size<1000000)(h:groupO (bl s)=none):
  Calls Tryz.prog 156 #[.string s] w fun e w'=>e=.panicked [{v:=.iface 177 (.agg #[]),recovered:=false}]/\Below w.heap.size w w':=by
 have H:=hid h;clear h;go_enter Tryz.func156,Tryz.ntmps156;go_wp2_with fail;refine(eachC_any s _ 3 w hG hs (by decide)).mono ?_;rintro e w1 ⟨hb,⟨l,v,hl,_,_⟩|⟨_,rfl⟩⟩
 ·exfalso
  have:=H.out;unfold groupO at this;rw[show([32,124,32]:Sp.Str)=bl ⟨#[32,124,32]⟩ from rfl,hl] at this
  cases this
 ·go_wp2
  exact⟨rfl,rfl,hb⟩
theorem groupO_some{G:Nat}(s:ByteArray)(w:World)(cs:List Sp.Ch)(hG:Glob G w)(hs:s.size<1000000)(h:groupO (bl s)=some cs):
  Calls Tryz.prog 156 #[.string s] w fun e w'=>(∃ a cap,e=.returned (.slice a cs.length cap)/\ChOn (fun b=>b<w'.heap.size/\w.heap.size<=b) w' (.slice a cs.length cap) cs)/\Below w.heap.size w w':=by
 have H:=hid h;clear h;go_enter Tryz.func156,Tryz.ntmps156;go_wp2_with fail;refine(eachC_any s _ 3 w hG hs (by decide)).mono ?_;rintro e w1 ⟨hb,⟨l,v,hl,rfl,hv⟩|⟨hno,_⟩⟩
 ·obtain rfl:l=cs:=by
   have:=H.out;unfold groupO at this;rw[show([32,124,32]:Sp.Str)=bl ⟨#[32,124,32]⟩ from rfl,hl] at this
   cases this;rfl
  obtain⟨a,cap,rfl⟩:=W3.row_slice hv;go_wp2;go_ret;exact⟨⟨a,cap,rfl,(ChOn.of_row hv).mono fun b hb=>⟨hb.1,hb.2.1⟩⟩,hb⟩
 ·exfalso
  have:=H.out;unfold groupO at this;rw[show([32,124,32]:Sp.Str)=bl ⟨#[32,124,32]⟩ from rfl,hno] at this
  cases this
def EachG(s sep:Sp.Str)(most B:Nat)(w:World)(e:Ending)(w':World):Prop:=
 Below B w w'/\((∃ l a cap,Sp.each s sep most groupO=some l/\e=.returned (.slice a l.length cap)/\GsOn (fun b=>b<w'.heap.size/\B<=b) w' (.slice a l.length cap) l)\/(Sp.each s sep most groupO=none/\e=.panicked [{v:=.iface 177 (.agg #[]),recovered:=false}]))
theorem eachG_any{G:Nat}(s sep:ByteArray)(most:Nat)(w:World)(hG:Glob G w)(hs:s.size<1000000)(h0:0<sep.size):
  Calls Tryz.prog 155 #[.string s,.string sep,.int .i64 most,.func (.func 156) #[] #[]] w (EachG (bl s) (bl sep) most w.heap.size w):=by
 have htn:bl sep≠[]:=by intro h;rw[<-bl_len,h] at h0;simp at h0
 have hpl:=Sp.split_length (bl s) (bl sep) htn;rw[bl_len] at hpl;have hpm:∀ x∈Lib.split (bl s) (bl sep),x.length<1000000:=fun x hx=>by
  have:=Sp.split_mem (bl s) (bl sep) x htn hx;rw[bl_len] at this;omega
 have HPM:=hid hpm;clear htn hpm;obtain⟨B,hB⟩:∃ B,w.heap.size=B:=⟨_,rfl⟩
 rw[hB];have hGB:G<=B:=by rw[<-hB];exact hG.size
 have HB:=hid hB;clear hB;go_enter Tryz.func155,Tryz.ntmps155;go_wp2_with fail;refine(splitS_any s sep w hG (by omega) h0).mono ?_;rintro e w1 ⟨v,rfl,hv,hb⟩;generalize hL:Lib.split (bl s) (bl sep)=L at *;obtain⟨a,cap,rfl,hcap,hget⟩:=hv.get;have HL:=hid hL.symm;have HG:=hid hget;clear hL hv hget;rw[HB.out] at hb;go_wp2
 go_loopw [9,16] (fun v i wr=>∃ (k:Nat) (done:List (List Sp.Ch)) (vs:List Value),k<=L.length/\i=.int .i64 k/\Sp.mapO groupO (L.take k)=some done/\wr.ownsRow w1.heap.size 170 1 v done.length vs/\GrpsOn (fun b=>b<wr.heap.size/\w1.heap.size<=b/\v.ownBlock≠some b) wr vs done/\Below w1.heap.size w1 wr) (fun _ i _=>L.length-(intOf i).toNat)
 case atStart=>exact⟨0,[],[],Nat.zero_le _,rfl,rfl,World.ownsRow_nil _ _ _ _,GrpsOn.nil _ _,Below.refl _ _⟩
 case round =>
  obtain⟨k,done,vs,hk,rfl,hdone,hown,hgr,hbel⟩:=hrel;have hlen:=W3.mapO_len _ _ _ hdone;rw[List.length_take,Nat.min_eq_left hk] at hlen;have HD:=hid hdone;have hn:done.length<=1000000:=by omega
  have HLEN:=hid hlen;have hbw:Below B w wr:=hb.trans (hbel.mono (by have:=hb.size;rw[HB.out] at this;exact this));have hGr:Glob G wr:=hG.below hbw hGB;have hw1:w1.heap.size<=wr.heap.size:=hbel.size;have hbw0:B<=wr.heap.size:=by have:=hbw.size;rw[HB.out] at this;exact this
  clear hdone hlen
  by_cases h:k<L.length
  ·obtain⟨b,off,rfl,hbb,hcell⟩:=HG.out k h
   have hcell':=(hbel.cell (p:=⟨b,off+k,none⟩) hbb).trans hcell;have hpiece:(⟨L[k].toArray⟩:ByteArray).size<1000000:=by
    have:=HPM.out L[k] (List.getElem_mem h);rw[<-bl_len,bl_mk];omega
   clear hcell HG
   cases hone:groupO L[k] with
   | none =>
    have HO:=hid hone;clear hone;go_wp2_with fail;refine(groupO_none ⟨L[k].toArray⟩ wr hGr hpiece HO.out).mono ?_;rintro e w2 ⟨rfl,hb2⟩;go_wp2;exact⟨rfl,hbw.trans (hb2.mono hbw0),.inr ⟨W3.each_stop HL.out (W3.mapO_stop _ L[k] L (List.getElem_mem h) HO.out),rfl⟩⟩
   | some c =>
    have HO:=hid hone;clear hone;go_wp2_with fail;refine(groupO_some ⟨L[k].toArray⟩ wr c hGr hpiece HO.out).mono ?_;rintro e w2 ⟨⟨ga,gcap,rfl,hgc⟩,hb2⟩;have hown2:=W3.row_keep hown hb2;have hbel2:=hbel.trans (hb2.mono hw1);go_wp2_with (at_builtin;refine wp_app_at app169 w2 [.slice ga c.length gcap] rfl (by simp[Value.oneCell']) rfl _ _ rfl w1.heap.size _ _ _ rfl hown2 rfl (by omega) (by have:=hb2.size;omega) ?_;intro v' w3 hown' hgrow _ hat);have hbel3:=below_of_grown hbel2 hbel2.size hown2 hgrow;have hgr3:=hgr.app hgc hb2 hw1 (fun k hk=>(hown.lt k hk).2) hgrow hat;go_roundw
    case rel=>exact⟨k+1,done ++ [c],vs ++ [.slice ga c.length gcap],h,by go_num,W3.mapO_next h HD.out HO.out,by simpa using hown',hgr3,hbel3⟩
    case measure=>simp[intOf];omega
  ·obtain rfl:k=L.length:=by omega
   have hdone':Sp.mapO groupO L=some done:=by have:=HD.out;rwa [List.take_length] at this
   have hln:(done.length:Int)=L.length:=by have:=HLEN.out;omega
   have HD':=hid hdone';have HLN:=hid hln;clear hdone' hln HG;obtain⟨ra,rc,rfl⟩:=W3.row_slice hown
   by_cases hmo:done.length<=most
   ·go_wp2_with fail
    refine(must_true _).mono ?_;rintro e w2 ⟨rfl,rfl⟩;go_wp2;go_ret;have hB1:B<=w1.heap.size:=by have:=hb.size;rw[HB.out] at this;exact this
    exact⟨hbw,.inl ⟨done,ra,rc,by rw[W3.each_of HL.out HD'.out,if_pos hmo],rfl,vs,(one_row hgr.1 hown).mono (fun b hb1=>⟨hb1.1,by omega⟩),hgr.mono fun b hb1=>⟨hb1.1,by omega⟩⟩⟩
   ·go_wp2_with fail
    refine(must_false _).mono ?_;rintro e w2 ⟨rfl,rfl⟩;go_wp2;exact⟨rfl,hbw,.inr ⟨by rw[W3.each_of HL.out HD'.out,if_neg hmo],rfl⟩⟩
end
section
open Go.RowKit
theorem printC_any(c:Sp.Ch)(w:World)(hl:c.name.length+c.sign.length+c.ver.length<1000000):
  Calls Tryz.prog 110 #[.agg #[sv c.name,sv c.sign,sv c.ver]] w fun e w'=>e=.returned (sv (Sp.printC c))/\Below w.heap.size w w':=by
 unfold sv
 by_cases h:c.sign=[]
 ·have HP:=hid (W6.printC_bare c h)
  have h':c.sign.isEmpty=true:=by rw[h];rfl
  clear h;go_enter Tryz.func110,Tryz.ntmps110;go_wp2;go_ret;exact⟨ret_str (by rw[HP.out]),(Below.refl _ _).alloc (Nat.le_refl _) _⟩
 ·have HP:=hid (W6.printC_more c h)
  have h':c.sign.isEmpty=false:=by simpa using h
  clear h;go_enter Tryz.func110,Tryz.ntmps110;go_wp2;go_ret;exact⟨ret_str (by rw[HP.out];simp only[bl_app];rfl),(Below.refl _ _).alloc (Nat.le_refl _) _⟩
end
section
open Go.RowKit
theorem joinedC_any(v:Value)(cs:List Sp.Ch)(sep:ByteArray)(w:World)(hv:ChOn (fun b=>b<w.heap.size) w v cs)(hn:cs.length<1000000)(hcs:∀ c∈cs,c.name.length+c.sign.length+c.ver.length<1000000)(hj:(Lib.join (cs.map Sp.printC) (bl sep)).length<=140737488355328):
  Calls Tryz.prog 109 #[v,.string sep,.func (.func 110) #[] #[]] w fun e w'=>e=.returned (sv (Lib.join (cs.map Sp.printC) (bl sep)))/\Below w.heap.size w w':=by
 obtain⟨a,cap,rfl,hcap,hget⟩:=hv.get;have HG:=hid hget;have HC:=hid hcs;have HJ:=hid hj;clear hv hget hcs hj;go_enter Tryz.func109,Tryz.ntmps109;go_wp2
 go_loopw [7,12] (fun v i wr=>∃ (k:Nat),k<=cs.length/\i=.int .i64 k/\wr.ownsRow w.heap.size 9 1 v k (((cs.take k).map Sp.printC).map sv)/\Below w.heap.size w wr) (fun _ i _=>cs.length-(intOf i).toNat)
 case atStart=>exact⟨0,Nat.zero_le _,rfl,World.ownsRow_nil _ _ _ _,Below.refl _ _⟩
 case round =>
  obtain⟨k,hk,rfl,hown,hbel⟩:=hrel
  by_cases h:k<cs.length
  ·obtain⟨b,off,rfl,hb,h0,h1,h2⟩:=HG.out k h
   have g0:=(hbel.cell (p:=⟨b,off+k*3,none⟩) hb).trans h0;have g1:=(hbel.cell (p:=⟨b,off+k*3+1,none⟩) hb).trans h1;have g2:=(hbel.cell (p:=⟨b,off+k*3+1+1,none⟩) hb).trans h2;unfold sv at g0 g1 g2;clear h0 h1 h2 HG;have hcl:=HC.out cs[k] (List.getElem_mem h);go_wp2_with fail;refine(printC_any cs[k] _ hcl).mono ?_;rintro e w2 ⟨rfl,hb2⟩;have hb3:Below w.heap.size w w2:=(hbel.alloc hbel.size _).trans (hb2.mono (by have:=hbel.size;simp;omega));have hown2:=W3.row_keep (hown.alloc _) hb2;have hs2:=hb3.size;unfold sv;go_wp2_with (at_builtin;refine wp_app app38 w2 [.string ⟨(Sp.printC cs[k]).toArray⟩] rfl (by simp[Value.oneCell']) rfl _ _ rfl w.heap.size _ _ _ rfl hown2 rfl (by omega) hs2 ?_;intro v' w3 hown' hgrow _);have hb4:=below_of_grown hb3 hs2 hown2 hgrow;go_roundw
   case rel=>exact⟨k+1,h,by go_num,by rw[List.take_succ_eq_append_getElem h,List.map_append,List.map_append];exact hown',hb4⟩
   case measure=>simp[intOf];omega
  ·obtain rfl:k=cs.length:=by omega
   obtain⟨ra,rc,rfl⟩:=W3.row_slice hown;rw[List.take_length] at hown;have hst:StrsAt wr (.slice ra cs.length rc) (cs.map Sp.printC):=StrsAt.of_row (B:=w.heap.size) (e:=9) (by rw[List.length_map];exact hown);clear HG hown;go_wp2_with fail;refine(join_any _ _ sep wr hst (by rw[List.length_map];omega) HJ.out).mono ?_;rintro e w2 ⟨rfl,hb2⟩;go_wp2;go_ret;exact⟨rfl,hbel.trans (hb2.mono hbel.size)⟩
end
section
open Go.RowKit
theorem groupText_any(v:Value)(g:List Sp.Ch)(w:World)(hv:ChOn (fun b=>b<w.heap.size) w v g)(hg:g.length<=3)(h:∀ c∈g,ChOk c):
  Calls Tryz.prog 108 #[v] w fun e w'=>e=.returned (sv (groupText g))/\Below w.heap.size w w':=by
 have hl:=groupText_len g hg h;have h':∀ c∈g,c.name.length+c.sign.length+c.ver.length<1000000:=fun c hc=>by have:=h c hc;unfold ChOk at this;omega
 have H:=hid h';have HL:=hid hl;clear h h' hl;go_enter Tryz.func108,Tryz.ntmps108;go_wp2_with fail;refine(joinedC_any v g _ w hv (by omega) H.out (by have:=HL.out;unfold groupText at this;exact Nat.le_trans this (by decide))).mono ?_;rintro e w1 ⟨rfl,hb⟩;go_wp2;go_ret;exact⟨rfl,hb⟩
theorem joinedG_any(v:Value)(gs:List (List Sp.Ch))(sep:ByteArray)(w:World)(hv:GsOn (fun b=>b<w.heap.size) w v gs)(hn:gs.length<=3)(hgs:∀ g∈gs,g.length<=3/\∀ c∈g,ChOk c)(hj:(Lib.join (gs.map groupText) (bl sep)).length<=140737488355328):
  Calls Tryz.prog 107 #[v,.string sep,.func (.func 108) #[] #[]] w fun e w'=>e=.returned (sv (Lib.join (gs.map groupText) (bl sep)))/\Below w.heap.size w w':=by
 obtain⟨a,cap,rfl,hcap,hget⟩:=hv.get;have HG:=hid hget;have HC:=hid hgs;have HJ:=hid hj;clear hv hget hgs hj;go_enter Tryz.func107,Tryz.ntmps107;go_wp2
 go_loopw [7,12] (fun v i wr=>∃ (k:Nat),k<=gs.length/\i=.int .i64 k/\wr.ownsRow w.heap.size 9 1 v k (((gs.take k).map groupText).map sv)/\Below w.heap.size w wr) (fun _ i _=>gs.length-(intOf i).toNat)
 case atStart=>exact⟨0,Nat.zero_le _,rfl,World.ownsRow_nil _ _ _ _,Below.refl _ _⟩
 case round =>
  obtain⟨k,hk,rfl,hown,hbel⟩:=hrel
  by_cases h:k<gs.length
  ·obtain⟨b,off,x,rfl,hb,h0,hx⟩:=HG.out k h
   have g0:=(hbel.cell (p:=⟨b,off+k,none⟩) hb).trans h0;have hx':ChOn (fun b=>b<wr.heap.size) wr x gs[k]:=(SlOn.keep hx fun b hb=>hbel.block b hb).mono fun b hb=>by have:=hbel.size;omega
   obtain⟨xa,xc,rfl,_⟩:=hx'.get;have hcl:=HC.out gs[k] (List.getElem_mem h);clear h0 HG hx;have HX:=hid hx';have HCL:=hid hcl;clear hx' hcl;go_wp2_with fail;refine(groupText_any _ gs[k] wr HX.out HCL.out.1 HCL.out.2).mono ?_;rintro e w2 ⟨rfl,hb2⟩;have hb3:Below w.heap.size w w2:=hbel.trans (hb2.mono hbel.size);have hown2:=W3.row_keep hown hb2;have hs2:=hb3.size;unfold sv;go_wp2_with (at_builtin;refine wp_app app38 w2 [.string ⟨(groupText gs[k]).toArray⟩] rfl (by simp[Value.oneCell']) rfl _ _ rfl w.heap.size _ _ _ rfl hown2 rfl (by omega) hs2 ?_;intro v' w3 hown' hgrow _);have hb4:=below_of_grown hb3 hs2 hown2 hgrow;go_roundw
   case rel=>exact⟨k+1,h,by go_num,by rw[List.take_succ_eq_append_getElem h,List.map_append,List.map_append];exact hown',hb4⟩
   case measure=>simp[intOf];omega
  ·obtain rfl:k=gs.length:=by omega
   obtain⟨ra,rc,rfl⟩:=W3.row_slice hown;rw[List.take_length] at hown;have hst:StrsAt wr (.slice ra gs.length rc) (gs.map groupText):=StrsAt.of_row (B:=w.heap.size) (e:=9) (by rw[List.length_map];exact hown);clear HG hown;go_wp2_with fail;refine(join_any _ _ sep wr hst (by rw[List.length_map];omega) HJ.out).mono ?_;rintro e w2 ⟨rfl,hb2⟩;go_wp2;go_ret;exact⟨rfl,hbel.trans (hb2.mono hbel.size)⟩
end
section
open Go.RowKit
theorem print_any(b:Nat)(p:Sp.Pk)(w:World)(h:IsPack (fun b=>b<w.heap.size) w b p)(hok:PkOk p):
  Calls Tryz.prog 64 #[.pointer (some ⟨b,0,none⟩)] w fun e w'=>e=.returned (sv (Sp.print p))/\Below w.heap.size w w':=by
 obtain⟨nv,bv,fv,hS,h0,h1,h2,h3,h4,g0,g1,g2,n0,n1⟩:=h;obtain⟨na,nc,rfl,hnc,gn⟩:=g0.get;obtain⟨ba,bc,rfl,hbc,gb⟩:=g1.get;obtain⟨fa,fc,rfl,hfc,gf⟩:=g2.get;have en:p.needs=[]->na=none:=fun e=>by have:=n0 e;simp only[Value.slice.injEq] at this;exact this.1
 have eb:p.bars=[]->ba=none:=fun e=>by have:=n1 e;simp only[Value.slice.injEq] at this;exact this.1
 have sn:p.needs≠[]->∃ x o,na=some ⟨x,o,none⟩:=fun e=>by obtain⟨x,o,_,h,_⟩:=gn 0 (List.length_pos_iff.2 e);exact⟨x,o,h⟩
 have sb:p.bars≠[]->∃ x o,ba=some ⟨x,o,none⟩:=fun e=>by obtain⟨x,o,h,_⟩:=gb 0 (List.length_pos_iff.2 e);exact⟨x,o,h⟩
 have EN:=hid en;have EB:=hid eb;have SN:=hid sn;have SB:=hid sb;have G0:=hid g0;have G1:=hid g1;have GF:=hid gf;clear g0 g1 g2 gn gb gf n0 n1 en eb sn sb;have hname:=hok.name;have hver:=hok.ver;unfold sv at h2 h3;have hnn:∀ (a:Option Addr) (n c:Nat) (W:World),(binOp .neq 169 (.slice a n c) (.slice none 0 0)).run Tryz.prog W=.ok (.bool (!a.isNone)) W:=fun a n c W=>run_neq_slice_nil_any W 169 _ a n c 0 0 Tryz.underlying169
 have hnb:∀ (a:Option Addr) (n c:Nat) (W:World),(binOp .neq 170 (.slice a n c) (.slice none 0 0)).run Tryz.prog W=.ok (.bool (!a.isNone)) W:=fun a n c W=>run_neq_slice_nil_any W 170 _ a n c 0 0 Tryz.underlying170
 go_enter Tryz.func64,Tryz.ntmps64;go_wp2;go_quiet (fail);have hbq:Below w.heap.size w (w.drewN nq):=below_drawn w nq;go_upto_if 22 with(fail)
 go_cut [3] (fun s wx=>s=.string ⟨(head1 p).toArray⟩/\Below w.heap.size w wx)
 case first =>
  by_cases hne:p.needs=[]
  ·obtain rfl:=EN.out hne
   have H1:Hid (head1 p=head0 p):=hid (by unfold head1;rw[hne];simp);clear hne;go_wp2_with fail;go_meet
   case rel=>exact⟨str_eq (by rw[bl_app,bl_app,bl_app,H1.out];rfl),hbq⟩
  ·obtain⟨nb,no,rfl⟩:=SN.out hne
   have H1:Hid (head1 p=head0 p ++ ([10,110,101,101,100,115,32] ++ Lib.join (p.needs.map groupText) [44,32])):=by
    exact hid (by unfold head1;rw[if_neg (by simpa using hne)])
   have hjl:=W8.join_bound [44,32] 3039 3 (p.needs.map groupText) (fun x hx=>by obtain⟨g,hg,rfl⟩:=List.mem_map.1 hx;exact groupText_len g (hok.groups g hg).1 (hok.groups g hg).2) (by rw[List.length_map];exact hok.needs);have hjl2:(Lib.join (p.needs.map groupText) [44,32]).length<=10000:=Nat.le_trans hjl (by decide);clear hne hjl;go_wp2_with fail;refine(joinedG_any _ p.needs _ (w.drewN nq) ((GsOn.keep G0.out fun _ _=>rfl).mono fun _ h=>h) hok.needs hok.groups (Nat.le_trans hjl2 (by decide))).mono ?_;rintro e w2 ⟨rfl,hb2⟩;unfold sv;rw[show bl ⟨#[44,32]⟩=[44,32] from rfl];go_wp2_with fail;go_meet
   case rel=>exact⟨str_eq (by rw[bl_app,bl_app,bl_app,bl_app,bl_app,H1.out];rfl),hbq.trans (hb2.mono (by simp))⟩
 case rest =>
  obtain⟨rfl,hb1⟩:=hcut;have hhl:(head1 p).length<=20000:=head1_len p hok;obtain⟨hc,_⟩:=bcell hb1;have k0:=(hb1.cell (p:=⟨b,0,none⟩) hS).trans h0;have k1:=(hb1.cell (p:=⟨b,1,none⟩) hS).trans h1;have k4:=(hb1.cell (p:=⟨b,4,none⟩) hS).trans h4;have H4:=hid h4;clear hc h0 h1 h2 h3 h4;go_upto_if 37 with(fail)
  go_cut [3] (fun s wx=>s=.string ⟨(head2 p).toArray⟩/\Below w.heap.size w wx)
  case first =>
   by_cases hne:p.bars=[]
   ·obtain rfl:=EB.out hne
    have H1:Hid (head2 p=head1 p):=hid (by unfold head2;rw[hne];simp);clear hne;go_wp2_with fail;go_meet
    case rel=>exact⟨by rw[H1.out],hb1⟩
   ·obtain⟨nb,no,rfl⟩:=SB.out hne
    have H1:Hid (head2 p=head1 p ++ ([10,98,97,114,115,32] ++ Lib.join (p.bars.map Sp.printC) [44,32])):=by
     exact hid (by unfold head2;rw[if_neg (by simpa using hne)])
    have hjl:=W8.join_bound [44,32] 1010 3 (p.bars.map Sp.printC) (fun x hx=>by obtain⟨g,hg,rfl⟩:=List.mem_map.1 hx;exact printC_len g (hok.barred g hg)) (by rw[List.length_map];exact hok.bars);have hjl2:(Lib.join (p.bars.map Sp.printC) [44,32]).length<=10000:=Nat.le_trans hjl (by decide);have hbl:=hok.bars;clear hne hjl;go_wp2_with fail;refine(joinedC_any _ p.bars _ wc ((SlOn.keep G1.out fun x hx=>hb1.block x hx).mono fun x hx=>Nat.lt_of_lt_of_le hx hb1.size) (by omega) (fun c hc=>by have:=hok.barred c hc;unfold ChOk at this;omega) (Nat.le_trans hjl2 (by decide))).mono ?_;rintro e w2 ⟨rfl,hb2⟩;unfold sv;rw[show bl ⟨#[44,32]⟩=[44,32] from rfl];go_wp2_with fail;go_meet
    case rel=>exact⟨str_eq (by rw[bl_app,bl_app,H1.out];rfl),hb1.trans (hb2.mono hb1.size)⟩
  case rest =>
   obtain⟨rfl,hb2⟩:=hcut;clear k0 k1 k4 hb1;have k4:=(hb2.cell (p:=⟨b,4,none⟩) hS).trans H4.out;have hh2:=head2_len p hok;have hnf:=hok.files;have hfl:∀ k,(files_text p k).length<=10000:=fun k=>files_len p hok k
   have HFL:=hid hfl;have HPA:=hid hok.paths;clear hfl EN EB SN SB G0 G1 hhl hname hver hnn hnb;go_wp2
   go_loopw [3,52] (fun s i wr=>∃ k:Nat,k<=p.files.length/\i=.int .i64 k/\s=.string ⟨(head2 p ++ files_text p k).toArray⟩/\Below w.heap.size w wr) (fun _ i _=>p.files.length-(intOf i).toNat)
   case atStart=>exact⟨0,Nat.zero_le _,rfl,str_eq (by unfold files_text;simp),hb2⟩
   case round =>
    obtain⟨k,hk,rfl,rfl,hbel⟩:=hrel;have hfk:=HFL.out k
    by_cases h:k<p.files.length
    ·obtain⟨fb,fo,rfl,hfb,c0,c1⟩:=GF.out k h
     have d0:=(hbel.cell (p:=⟨fb,fo+k*2,none⟩) hfb).trans c0;have d1:=(hbel.cell (p:=⟨fb,fo+k*2+1,none⟩) hfb).trans c1;unfold sv at d0 d1;have hpa:=HPA.out p.files[k] (List.getElem_mem h);clear c0 c1 GF;go_wp2;go_roundw
     case rel=>exact⟨k+1,h,by go_num,str_eq (by rw[bl_app,bl_app,bl_app,bl_app,files_next p k h];exact List.append_assoc _ _ _),hbel.alloc hbel.size _⟩
     case measure=>simp[intOf];omega
    ·obtain rfl:k=p.files.length:=by omega
     clear GF;go_wp2;go_ret;exact⟨ret_str (by rw[print_eq];unfold files_text;rw[List.take_length]),hbel⟩
end
end Go.Proofs.YtfphcecjhdkcoaaGreatDoor

/-
The walk of the disk's back: the power is back.
-/
import Derived.Test.YtfphcecjhdkcoaaGreatDoorScrP10
import Derived.Deep.RegionHeld3
import Derived.Laws.CopyOwn
import Derived.Deep.OwnRows
import Derived.Deep.AppendLies
set_option maxRecDepth 100000
set_option maxHeartbeats 8000000
namespace Go.Proofs.YtfphcecjhdkcoaaGreatDoor
open Go.Lib (hid)
section
open Go.RowKit Go.Maps
theorem info5:(Tryz.prog.info? 5).map (fun i=>(i.zero,i.size,i.bytes))=some (some (.int .u8 0),1,1):=by kernel_rfl
theorem app136:AppTy 136 5 1 1:=AppTy.of Tryz.underlying136 info5 rfl (by decide) (by decide)
def bvs(b:Sp.Str):List Value:=b.map u8v
namespace DS
theorem put_take(x j:Nat)(h:j<8):(Sp.put x).take (j+1)=(Sp.put x).take j ++ [UInt8.ofNat (x / 2 ^ (56-8*j))]:=by
 have:j=0\/j=1\/j=2\/j=3\/j=4\/j=5\/j=6\/j=7:=by omega
 rcases this with rfl|rfl|rfl|rfl|rfl|rfl|rfl|rfl <;> simp[Sp.put]
theorem u8_nat(n:Nat):u8v (UInt8.ofNat n)=.int .u8 ((n:Int) % 256):=by
 unfold u8v;rw[UInt8.toNat_ofNat']
 congr 1
end DS
theorem put_any{B:Nat}(v:Value)(b:Sp.Str)(x:Nat)(w:World)(hB:B<=w.heap.size)(hv:w.ownsRow B 5 1 v b.length (bvs b))(hl:b.length<=100000000):
  Calls Tryz.prog 240 #[v,.int .u64 (x:Int)] w fun e w'=>∃ v',e=.returned v'/\w'.ownsRow B 5 1 v' (b ++ Sp.put x).length (bvs (b ++ Sp.put x))/\Below B w w':=by
 have HV:=hid hv;clear hv;go_enter Tryz.func240,Tryz.ntmps240;go_wp2
 go_loopw [0,5] (fun pv i wr=>∃ j:Nat,j<=8/\i=.int .i64 (56-8*(j:Int))/\wr.ownsRow B 5 1 pv (b ++ (Sp.put x).take j).length (bvs (b ++ (Sp.put x).take j))/\Below B w wr) (fun _ i _=>((intOf i)+16).toNat)
 case atStart=>exact⟨0,by omega,rfl,by simpa using HV.out,Below.refl _ _⟩
 case round =>
  obtain⟨j,hj,rfl,hrow,hbel⟩:=hrel;have HR:=hid hrow;clear hrow
  by_cases h:j<8
  ·have hpt:=DS.put_take x j h
   have hu:=DS.u8_nat (x / 2 ^ (56-8*j));simp only[Int.natCast_ediv,Int.natCast_pow,Int.cast_ofNat_Int] at hu;have hxs:bvs (b ++ (Sp.put x).take (j+1))=bvs (b ++ (Sp.put x).take j) ++ [.int .u8 ((x:Int) / 2 ^ (56-8*j) % 256)]:=by
    rw[hpt,<-List.append_assoc];unfold bvs;rw[List.map_append];simp only[List.map_cons,List.map_nil];rw[hu]
   have hn:(b ++ (Sp.put x).take (j+1)).length=(b ++ (Sp.put x).take j).length+1:=by rw[hpt,<-List.append_assoc,List.length_append (bs:=[_])];rfl
   have hnl:(b ++ (Sp.put x).take j).length<=100000100:=by rw[List.length_append,List.length_take];omega
   have HXS:=hid hxs;have HN:=hid hn;have hws:=hbel.size;obtain⟨ra,rcap,rfl⟩:=W3.row_slice HR.out;clear hxs hn hpt hu;go_wp2_with (at_builtin;refine wp_app app136 wr [.int .u8 ((x:Int) / 2 ^ (56-8*j) % 256)] rfl (by simp[Value.oneCell']) rfl _ _ rfl B _ _ _ rfl HR.out rfl (by omega) (by omega) ?_;intro v' w3 hrow3 hg3 hv3);rw[<-HXS.out,<-HN.out] at hrow3;obtain⟨g3,c3,rfl⟩:=hv3;have HR3:=hid hrow3;have hb3:=below_of_grown hbel (by omega) HR.out hg3;clear hrow3;go_wp2
   case roundEnd=>exact⟨⟨j+1,h,by congr 1;omega,HR3.out,hb3⟩,by simp only[intOf];omega⟩
  ·have hj8:j=8:=by omega
   have hrow:=HR.out;rw[hj8,show(Sp.put x).take 8=Sp.put x from List.take_of_length_le (by rw[V6.put_len];omega)] at hrow;have HR2:=hid hrow;subst hj8;clear hrow;go_wp2;go_ret;exact⟨_,rfl,HR2.out,hbel⟩
theorem BytesOn.of_row{w:World}{B:Nat}{v:Value}{b:Sp.Str}(h:w.ownsRow B 5 1 v b.length (bvs b)):BytesOn (fun x=>x<w.heap.size/\B<=x/\v.ownBlock=some x) w v b:=by
 have:=one_row (vs:=bvs b) (by unfold bvs;rw[List.length_map]) h;unfold bvs at this;rw[List.map_map] at this;exact this
theorem headBytes_any(n z m:Nat)(w:World):
  Calls Tryz.prog 219 #[.agg #[.int .u64 (n:Int),.int .u64 (z:Int),.int .u64 (m:Int)]] w fun e w'=>∃ v',e=.returned v'/\w'.ownsRow w.heap.size 5 1 v' (Sp.headB n z m).length (bvs (Sp.headB n z m))/\Below w.heap.size w w':=by
 go_enter Tryz.func219,Tryz.ntmps219;go_wp2_with fail;have hbA:Below w.heap.size w (w.alloc (.cells #[.int .u64 (n:Int),.int .u64 (z:Int),.int .u64 (m:Int)] 309)):=(Below.refl _ _).alloc (Nat.le_refl _) _;have c0:(w.alloc (.cells #[.int .u64 (n:Int),.int .u64 (z:Int),.int .u64 (m:Int)] 309)).cell? ⟨w.heap.size,0,none⟩=some (.int .u64 (n:Int)):=by rw[World.cell?_alloc_at _ _ _ _ rfl];rfl
 have c1:(w.alloc (.cells #[.int .u64 (n:Int),.int .u64 (z:Int),.int .u64 (m:Int)] 309)).cell? ⟨w.heap.size,1,none⟩=some (.int .u64 (z:Int)):=by rw[World.cell?_alloc_at _ _ _ _ rfl];rfl
 have c2:(w.alloc (.cells #[.int .u64 (n:Int),.int .u64 (z:Int),.int .u64 (m:Int)] 309)).cell? ⟨w.heap.size,2,none⟩=some (.int .u64 (m:Int)):=by rw[World.cell?_alloc_at _ _ _ _ rfl];rfl
 have hs:w.heap.size+1<=(w.alloc (.cells #[.int .u64 (n:Int),.int .u64 (z:Int),.int .u64 (m:Int)] 309)).heap.size:=by simp
 generalize w.alloc (.cells #[.int .u64 (n:Int),.int .u64 (z:Int),.int .u64 (m:Int)] 309)=x0 at *;have hs0:w.heap.size+1<=x0.drew.heap.size:=hs;have hnil:∀ W:World,W.ownsRow (w.heap.size+1) 5 1 (.slice none 0 0) ([]:Sp.Str).length (bvs []):=fun W=>World.ownsRow_nil _ _ _ _
 have hS0:=hid (show x0.drew.cell? ⟨w.heap.size,0,none⟩=some (.int .u64 (n:Int))/\x0.drew.cell? ⟨w.heap.size,1,none⟩=some (.int .u64 (z:Int))/\x0.drew.cell? ⟨w.heap.size,2,none⟩=some (.int .u64 (m:Int))/\w.heap.size+1<=x0.drew.heap.size/\Below w.heap.size w x0.drew from⟨c0,c1,c2,hs,hbA.drew⟩);have hp0:=put_any (B:=w.heap.size+1) (.slice none 0 0) [] n x0.drew hs0 (hnil _) (by simp)
 go_region_held3 (fun w'=>w'.cell? ⟨w.heap.size,0,none⟩=some (.int .u64 (n:Int))/\w'.cell? ⟨w.heap.size,1,none⟩=some (.int .u64 (z:Int))/\w'.cell? ⟨w.heap.size,2,none⟩=some (.int .u64 (m:Int))/\w.heap.size+1<=w'.heap.size/\Below w.heap.size w w')
  (first|(with_reducible exact hS0.out)|(with_reducible exact hS1.out)|(with_reducible exact hS2.out)|(with_reducible exact hS3.out))
  (first
      | (
       go_at_call 240;with_reducible refine hp0.mono ?_;rintro e w1 ⟨v1,rfl,hr1,hb1⟩
       have hp1:=put_any (B:=w.heap.size+1) v1 _ z w1 (Nat.le_trans hs0 hb1.size) hr1 (by simp[V6.put_len]);have d0:=(hb1.cell (p:=⟨w.heap.size,0,none⟩) (Nat.lt_succ_self _)).trans c0;have d1:=(hb1.cell (p:=⟨w.heap.size,1,none⟩) (Nat.lt_succ_self _)).trans c1;have d2:=(hb1.cell (p:=⟨w.heap.size,2,none⟩) (Nat.lt_succ_self _)).trans c2;have ds:=Nat.le_trans hs0 hb1.size;have hS1:=hid (And.intro d0 (And.intro d1 (And.intro d2 (And.intro ds (hbA.drew.trans (hb1.mono (Nat.le_succ _)))))));have HP1:=hid hp1;clear hr1 hb1 hp1)
      | (
       go_at_call 240;with_reducible refine HP1.out.mono ?_;rintro e w2 ⟨v2,rfl,hr2,hb2⟩
       have hp2:=put_any (B:=w.heap.size+1) v2 _ m w2 (Nat.le_trans ds hb2.size) hr2 (by simp[V6.put_len]);have e0:=(hb2.cell (p:=⟨w.heap.size,0,none⟩) (Nat.lt_succ_self _)).trans d0;have e1:=(hb2.cell (p:=⟨w.heap.size,1,none⟩) (Nat.lt_succ_self _)).trans d1;have e2:=(hb2.cell (p:=⟨w.heap.size,2,none⟩) (Nat.lt_succ_self _)).trans d2;have es:=Nat.le_trans ds hb2.size;have hS2:=hid (And.intro e0 (And.intro e1 (And.intro e2 (And.intro es (hS1.out.2.2.2.2.trans (hb2.mono (Nat.le_succ _)))))));have HP2:=hid hp2;clear hr2 hb2 hp2)
      | (
       go_at_call 240;with_reducible refine HP2.out.mono ?_;rintro e w3 ⟨v3,rfl,hr3,hb3⟩
       have f0:=(hb3.cell (p:=⟨w.heap.size,0,none⟩) (Nat.lt_succ_self _)).trans e0;have f1:=(hb3.cell (p:=⟨w.heap.size,1,none⟩) (Nat.lt_succ_self _)).trans e1;have f2:=(hb3.cell (p:=⟨w.heap.size,2,none⟩) (Nat.lt_succ_self _)).trans e2;have fs:=Nat.le_trans es hb3.size;have hS3:=hid (And.intro f0 (And.intro f1 (And.intro f2 (And.intro fs (hS2.out.2.2.2.2.trans (hb3.mono (Nat.le_succ _)))))));have HR3:=hid hr3;clear hr3 hb3))
 have hrow3:w3.ownsRow (w.heap.size+1) 5 1 v3 (Sp.put n ++ Sp.put z ++ Sp.put m).length (bvs (Sp.put n ++ Sp.put z ++ Sp.put m)):=by simpa using HR3.out
 have hsum:=sum_any v3 _ w3 (BytesOn.of_row hrow3) (by simp[V6.put_len]);have hp3:=put_any (B:=w.heap.size+1) v3 _ (Sp.sum (Sp.put n ++ Sp.put z ++ Sp.put m)) w3 fs hrow3 (by simp[V6.put_len]);have HSUM:=hid hsum;have HP3:=hid hp3;clear hrow3 hsum hp3;go_wp2_with fail;refine HSUM.out.mono ?_;rintro e w4 ⟨rfl,rfl⟩;go_wp2_with fail;refine HP3.out.mono ?_;rintro e w5 ⟨v5,rfl,hr5,hb5⟩;have HR5:=hid hr5;have hb6:=hS3.out.2.2.2.2.trans (hb5.mono (Nat.le_succ _));clear hr5;go_wp2;go_ret;refine⟨_,rfl,?_,hb6⟩;have hr6:=HR5.out;unfold Sp.headB;exact W3.row_base hr6 (Nat.le_succ _)
end
section
open Go.RowKit Go.Maps
theorem BytesOn.cut{S:Nat->Prop}{w:World}{bb off n cap:Nat}{b:Sp.Str}(h:BytesOn S w (.slice (some ⟨bb,off,none⟩) n cap) b)(i j cap':Nat)(hij:i<=j)(hj:j<=b.length)(hc:j-i<=cap'):
  BytesOn S w (.slice (some ⟨bb,off+i,none⟩) (j-i) cap') ((b.drop i).take (j-i)):=by
 obtain⟨a,c,hv,_,hx⟩:=h;injection hv with ha hn _
 subst ha;have hl:((b.drop i).take (j-i)).length=j-i:=by rw[List.length_take,List.length_drop];omega
 refine⟨_,cap',by rw[List.length_map,hl],by rw[List.length_map,hl];exact hc,fun k x hk=>?_⟩;rw[List.getElem?_map,List.getElem?_take] at hk
 split at hk
 ·rename_i hlt
  rw[List.getElem?_drop] at hk;obtain⟨b',off',e,hS,hcell⟩:=hx (i+k) x (by rw[List.getElem?_map];exact hk);injection e with e
  injection e with e1 e2 _
  subst e1 e2;refine⟨_,_,rfl,hS,fun q u hq=>?_⟩;have:=hcell q u hq;rw[show off+i+k*1+q=off+(i+k)*1+q from by omega];exact this
 ·cases hk
namespace DS
def fld(b:Sp.Str)(k j:Nat):Nat:=Sp.num8 ((b.drop (8*j)).take (min 8 (k-8*j)))
def fv(b:Sp.Str)(k j:Nat):Value:=.int .u64 (fld b k j:Int)
theorem set_blk{w:World}{g:Nat}{t:TypeId}{cs:Array Value}(h:w.heap[g]? = some (.cells cs t (0,0)))(i:Nat)(u:Value):(w.setCell ⟨g,i,none⟩ u).heap[g]? = some (.cells (cs.setIfInBounds i u) t (0,0)):=by
 simp[World.setCell,Array.getElem?_modify,h]
theorem or_byte(x c:Nat)(hx:x<72057594037927936)(hc:c<256):bits .or .u64 (IntKind.u64.wrap ((x:Int)*256)) (IntKind.u64.wrap (c:Int))=((x*256+c:Nat):Int):=by
 rw[show(x:Int)*256=((x*256:Nat):Int) from by omega,wrap64 _ (by omega),wrap64 _ (by omega),bits_or _ _ (by omega) (by omega)];have:=Nat.shiftLeft_add_eq_or_of_lt (i:=8) (b:=c) (by omega) x;rw[Nat.shiftLeft_eq,show(2:Nat) ^ 8=256 from rfl] at this;rw[this]
theorem num8_snoc(l:Sp.Str)(c:UInt8):Sp.num8 (l ++ [c])=Sp.num8 l*256+c.toNat:=by
 unfold Sp.num8;simp only[List.foldl_append,List.foldl_cons,List.foldl_nil]
theorem num8_lt(l:Sp.Str):Sp.num8 l<256 ^ l.length:=by
 have:=V6.num8_lt l 0;unfold Sp.num8
 simpa using this
theorem fld_same(b:Sp.Str)(j r:Nat)(hr:r<8)(hb:8*j+r<b.length):fld b (8*j+r+1) j=fld b (8*j+r) j*256+(b[8*j+r]).toNat:=by
 unfold fld;have e1:min 8 (8*j+r+1-8*j)=r+1:=by omega
 have e2:min 8 (8*j+r-8*j)=r:=by omega
 have hd:r<(b.drop (8*j)).length:=by rw[List.length_drop];omega
 rw[e1,e2,List.take_succ_eq_append_getElem hd,num8_snoc];simp
theorem fld_other(b:Sp.Str)(j r i:Nat)(hr:r<8)(hi:i≠j):fld b (8*j+r+1) i=fld b (8*j+r) i:=by
 unfold fld;have:min 8 (8*j+r+1-8*i)=min 8 (8*j+r-8*i):=by omega
 rw[this]
theorem fld_lt(b:Sp.Str)(j r:Nat)(hr:r<8):fld b (8*j+r) j<72057594037927936:=by
 refine Nat.lt_of_lt_of_le (num8_lt _) ?_;have:((b.drop (8*j)).take (min 8 (8*j+r-8*j))).length<=7:=by rw[List.length_take];omega
 calc 256 ^ _<=256 ^ 7:=Nat.pow_le_pow_right (by omega) this
  _=72057594037927936:=by decide
theorem fld_round(b:Sp.Str)(k j:Nat)(hj:j<4)(hk:k<8*(j+1))(hk2:8*j<=k)(hb:k<b.length):
  (#[fv b k 0,fv b k 1,fv b k 2,fv b k 3]:Array Value).setIfInBounds j (.int .u64 (bits .or .u64 (IntKind.u64.wrap ((fld b k j:Int)*256)) (IntKind.u64.wrap ((b[k]).toNat:Int))))=#[fv b (k+1) 0,fv b (k+1) 1,fv b (k+1) 2,fv b (k+1) 3]:=by
 obtain⟨r,hr,rfl⟩:∃ r,r<8/\k=8*j+r:=⟨k-8*j,by omega,by omega⟩
 rw[or_byte _ _ (fld_lt b j r hr) (b[8*j+r]).toNat_lt,<-fld_same b j r hr hb];have:j=0\/j=1\/j=2\/j=3:=by omega
 unfold fv
 rcases this with rfl|rfl|rfl|rfl
 ·rw[fld_other b 0 r 1 hr (by decide),fld_other b 0 r 2 hr (by decide),fld_other b 0 r 3 hr (by decide)];rfl
 ·rw[fld_other b 1 r 0 hr (by decide),fld_other b 1 r 2 hr (by decide),fld_other b 1 r 3 hr (by decide)];rfl
 ·rw[fld_other b 2 r 0 hr (by decide),fld_other b 2 r 1 hr (by decide),fld_other b 2 r 3 hr (by decide)];rfl
 ·rw[fld_other b 3 r 0 hr (by decide),fld_other b 3 r 1 hr (by decide),fld_other b 3 r 2 hr (by decide)];rfl
def cellD(x:World)(a:Addr):Value:=(x.cell? a).getD undef
theorem cellD_of{x:World}{a:Addr}{v:Value}(h:x.cell? a=some v):x.cell? a=some (cellD x a):=by unfold cellD;rw[h];rfl
def SH(S:Nat->Prop)(n z m q:Nat)(b:Sp.Str)(sl:Value)(B C H:Nat)(x:World):Prop:=
 x.cell? ⟨H,0,none⟩=some (.int .u64 (n:Int))/\x.cell? ⟨H,1,none⟩=some (.int .u64 (z:Int))/\x.cell? ⟨H,2,none⟩=some (.int .u64 (m:Int))/\x.cell? ⟨C,3,none⟩=some (.int .u64 (q:Int)) /\
  x.cell? ⟨B,0,none⟩=some (cellD x ⟨B,0,none⟩)/\x.cell? ⟨B,1,none⟩=some (cellD x ⟨B,1,none⟩)/\x.cell? ⟨B,2,none⟩=some (cellD x ⟨B,2,none⟩) /\
  x.frozen? ⟨B,0,none⟩=false/\x.frozen? ⟨B,1,none⟩=false/\x.frozen? ⟨B,2,none⟩=false/\BytesOn S x sl b
theorem SH.set{S:Nat->Prop}{n z m q:Nat}{b:Sp.Str}{sl:Value}{B C H:Nat}{x:World}(h:SH S n z m q b sl B C H x)(hC:B≠C)(hH:B≠H)(hS:∀ k,S k->k≠B)(i:Nat)(v:Value):SH S n z m q b sl B C H (x.setCell ⟨B,i,none⟩ v):=by
 obtain⟨h1,h2,h3,h4,h5,h6,h7,h8,h9,h10,h11⟩:=h;have far:∀ (a:Addr),a.block≠B->(x.setCell ⟨B,i,none⟩ v).cell? a=x.cell? a:=fun a ha=>World.cell?_setCell_far _ _ _ _ fun e=>ha e.symm
 have near:∀ o u,x.cell? ⟨B,o,none⟩=some u->∃ u',(x.setCell ⟨B,i,none⟩ v).cell? ⟨B,o,none⟩=some u':=fun o u hu=>cell?_setCell_some hu
 refine⟨(far _ fun e=>hH e.symm).trans h1,(far _ fun e=>hH e.symm).trans h2,(far _ fun e=>hH e.symm).trans h3,(far _ fun e=>hC e.symm).trans h4,?_,?_,?_,?_,?_,?_,h11.keep (fun k hk=>Below.heap_setCell _ _ _ _ (hS k hk)) fun _ h=>h⟩
 ·obtain⟨u,hu⟩:=near 0 _ h5;exact cellD_of hu
 ·obtain⟨u,hu⟩:=near 1 _ h6;exact cellD_of hu
 ·obtain⟨u,hu⟩:=near 2 _ h7;exact cellD_of hu
 ·rw[World.frozen?_setCell];exact h8
 ·rw[World.frozen?_setCell];exact h9
 ·rw[World.frozen?_setCell];exact h10
theorem beq_nat(a b:Nat):((a:Int) == (b:Int))=decide (a=b):=by
 by_cases h:a=b
 ·subst h;simp
 ·have:((a:Int) == (b:Int))=false:=by rw[beq_eq_false_iff_ne];omega
  rw[this];simp[h]
theorem below_first{w x:World}{o:Obj}(h:Below (w.heap.size+1) (w.alloc o) x):Below w.heap.size w x:=((Below.refl _ _).alloc (Nat.le_refl _) o).trans (h.mono (Nat.le_succ _))
theorem heap_second(w:World)(o p:Obj):((w.alloc o).alloc p).heap[w.heap.size+1]? = some p:=by
 have:=heap_alloc_new (w.alloc o) p
 rwa [World.size_alloc] at this
end DS
theorem headOf_any{S:Nat->Prop}(v:Value)(b:Sp.Str)(w:World)(hv:BytesOn S w v b)(hS:∀ x,S x->x<w.heap.size)(hl:b.length=64):
  Calls Tryz.prog 213 #[v] w fun e w'=>e=.returned (.tuple #[.agg #[.int .u64 ((Sp.headOf b).number:Int),.int .u64 ((Sp.headOf b).size:Int),.int .u64 ((Sp.headOf b).sum:Int)],.bool (Sp.headOf b).ok])/\Below w.heap.size w w':=by
 have hlen:64<=b.length:=by omega
 obtain⟨a,cap,rfl,hcap,hg⟩:=hv.get;have HG:=hid hg;have HS:=hid hS;have HV:=hid hv;have HL:=hid hl;clear hg hv hl hS;go_enter Tryz.func213,Tryz.ntmps213;go_wp2
 go_loopw [5,7] (fun _ i wr=>∃ k:Nat,k<=32/\i=.int .i64 k/\wr.heap[w.heap.size+1]? = some (.cells #[DS.fv b k 0,DS.fv b k 1,DS.fv b k 2,DS.fv b k 3] 334 (0,0))/\Below (w.heap.size+1) (w.alloc (.cells #[.int .u64 0,.int .u64 0,.int .u64 0] 309)) wr) (fun _ i _=>33-(intOf i).toNat)
 case atStart=>exact⟨0,by omega,rfl,DS.heap_second w _ _,(Below.refl _ _).alloc (by simp) _⟩
 case round =>
  obtain⟨k,hk,rfl,hblk,hbel⟩:=hrel;have HB:=hid hblk;clear hblk
  by_cases h:k<32
  ·obtain⟨bb,off,rfl,hbS,hc⟩:=HG.out k (by omega)
   have hcw:=(hbel.cell (p:=⟨bb,off+k,none⟩) (show bb<w.heap.size+1 by have:=HS.out bb hbS;omega)).trans ((World.cell?_alloc_lt _ _ _ (HS.out bb hbS)).trans hc);obtain⟨j,hj,hq⟩:∃ j:Nat,j<4/\(k:Int).tdiv 8=(j:Int):=⟨k / 8,by omega,by rw[Int.tdiv_eq_ediv_of_nonneg (by omega)];omega⟩
   have hcj:wr.cell? ⟨w.heap.size+1,j,none⟩=some (DS.fv b k j):=by
    rw[cell_of_row _ _ _ _ _ _ HB.out];have:j=0\/j=1\/j=2\/j=3:=by omega
    rcases this with rfl|rfl|rfl|rfl <;> rfl
   have hzj:wr.frozen? ⟨w.heap.size+1,j,none⟩=false:=by
    have:=HB.out;simp[World.frozen?,this]
   unfold DS.fv at hcj;go_wp2;have hset:=DS.set_blk HB.out j (.int .u64 (bits .or .u64 (IntKind.u64.wrap ((DS.fld b k j:Int)*256)) (IntKind.u64.wrap ((b[k]).toNat:Int))));rw[DS.fld_round b k j hj (by rw[Int.tdiv_eq_ediv_of_nonneg (by omega)] at hq;omega) (by rw[Int.tdiv_eq_ediv_of_nonneg (by omega)] at hq;omega) (by omega)] at hset;have HSET:=hid hset;clear hset;go_region;go_wp2;go_roundw
   case rel=>exact⟨k+1,h,by go_num,HSET.out,(hbel.setCell (Nat.le_refl _) _).drew⟩
   case measure=>simp[intOf];omega
  ·have hk2:k=32:=by omega
   subst hk2;have hblk:=HB.out;have h0:=(cell_of_row _ _ 0 _ _ _ hblk)
   have h1:=(cell_of_row _ _ 1 _ _ _ hblk)
   have h2:=(cell_of_row _ _ 2 _ _ _ hblk)
   have h3:=(cell_of_row _ _ 3 _ _ _ hblk)
   simp only[List.getElem?_toArray,List.getElem?_cons_zero,List.getElem?_cons_succ,DS.fv] at h0 h1 h2 h3;have hk3:=(World.cell?_alloc_lt wr (.cells #[.int .u64 (DS.fld b 32 0:Int),.int .u64 (DS.fld b 32 1:Int),.int .u64 (DS.fld b 32 2:Int)] 309) ⟨w.heap.size+1,3,none⟩ (Array.getElem?_eq_some_iff.1 hblk).1).trans h3;have e0:(wr.alloc (.cells #[.int .u64 (DS.fld b 32 0:Int),.int .u64 (DS.fld b 32 1:Int),.int .u64 (DS.fld b 32 2:Int)] 309)).cell? ⟨wr.heap.size,0,none⟩=some (.int .u64 (DS.fld b 32 0:Int)):=by rw[World.cell?_alloc_at _ _ _ _ rfl];rfl
   have e1:(wr.alloc (.cells #[.int .u64 (DS.fld b 32 0:Int),.int .u64 (DS.fld b 32 1:Int),.int .u64 (DS.fld b 32 2:Int)] 309)).cell? ⟨wr.heap.size,1,none⟩=some (.int .u64 (DS.fld b 32 1:Int)):=by rw[World.cell?_alloc_at _ _ _ _ rfl];rfl
   have e2:(wr.alloc (.cells #[.int .u64 (DS.fld b 32 0:Int),.int .u64 (DS.fld b 32 1:Int),.int .u64 (DS.fld b 32 2:Int)] 309)).cell? ⟨wr.heap.size,2,none⟩=some (.int .u64 (DS.fld b 32 2:Int)):=by rw[World.cell?_alloc_at _ _ _ _ rfl];rfl
   have hbx:Below (w.heap.size+1) (w.alloc (.cells #[.int .u64 0,.int .u64 0,.int .u64 0] 309)) (wr.alloc (.cells #[.int .u64 (DS.fld b 32 0:Int),.int .u64 (DS.fld b 32 1:Int),.int .u64 (DS.fld b 32 2:Int)] 309)):=hbel.alloc (by have:=hbel.size;simp at this;omega) _;have hltw:w.heap.size+1<wr.heap.size:=(Array.getElem?_eq_some_iff.1 hblk).1;clear hblk;go_wp2;clear h0 h1 h2 h3;have hd0:=(hbx.cell (p:=⟨w.heap.size,0,none⟩) (Nat.lt_succ_self _)).trans (World.cell?_alloc_at _ _ _ _ rfl);have hd1:=(hbx.cell (p:=⟨w.heap.size,1,none⟩) (Nat.lt_succ_self _)).trans (World.cell?_alloc_at _ _ _ _ rfl);have hd2:=(hbx.cell (p:=⟨w.heap.size,2,none⟩) (Nat.lt_succ_self _)).trans (World.cell?_alloc_at _ _ _ _ rfl);have hdz:∀ o,(wr.alloc (.cells #[.int .u64 (DS.fld b 32 0:Int),.int .u64 (DS.fld b 32 1:Int),.int .u64 (DS.fld b 32 2:Int)] 309)).frozen? ⟨w.heap.size,o,none⟩=false:=fun o=>by
    have:=hbx.block w.heap.size (Nat.lt_succ_self _);rw[heap_alloc_new] at this;simp only[World.frozen?,this];rfl
   simp only[List.getElem?_toArray,List.getElem?_cons_zero,List.getElem?_cons_succ] at hd0 hd1 hd2;generalize (wr.alloc (.cells #[.int .u64 (DS.fld b 32 0:Int),.int .u64 (DS.fld b 32 1:Int),.int .u64 (DS.fld b 32 2:Int)] 309))=x0 at *;obtain⟨bb,off,rfl,hbS,_⟩:=HG.out 0 (by omega);have hb24:BytesOn S x0.drew (.slice (some ⟨bb,off,none⟩) 24 cap) (b.take 24):=by
    have hx:∀ x,S x->x0.drew.heap[x]? = w.heap[x]?:=fun x hx=>(hbx.block x (by have:=HS.out x hx;omega)).trans (Below.heap_alloc _ _ _ (HS.out x hx))
    have:=((HV.out.keep (S':=S) hx fun _ h=>h).cut 0 24 cap (by omega) (by omega) (by omega))
    simpa using this
   have HB24:=hid hb24;clear hb24;have hhd:Sp.headOf b={ number:=DS.fld b 32 0,size:=DS.fld b 32 1,sum:=DS.fld b 32 2,ok:=decide (0<DS.fld b 32 0) && decide (DS.fld b 32 3=Sp.sum (b.take 24)) }:=rfl;have HHD:=hid hhd;clear hhd;have h24:(24:Int)<=(cap:Int):=by omega
   have hsh:DS.SH S (DS.fld b 32 0) (DS.fld b 32 1) (DS.fld b 32 2) (DS.fld b 32 3) (b.take 24) (.slice (some ⟨bb,off,none⟩) 24 cap) w.heap.size (w.heap.size+1) wr.heap.size x0.drew:=
    ⟨e0,e1,e2,hk3,DS.cellD_of hd0,DS.cellD_of hd1,DS.cellD_of hd2,hdz 0,hdz 1,hdz 2,HB24.out⟩
   have HSH:=hid hsh;have hkeep:∀ x v0 v1 v2,DS.SH S (DS.fld b 32 0) (DS.fld b 32 1) (DS.fld b 32 2) (DS.fld b 32 3) (b.take 24) (.slice (some ⟨bb,off,none⟩) 24 cap) w.heap.size (w.heap.size+1) wr.heap.size x ->
     DS.SH S (DS.fld b 32 0) (DS.fld b 32 1) (DS.fld b 32 2) (DS.fld b 32 3) (b.take 24) (.slice (some ⟨bb,off,none⟩) 24 cap) w.heap.size (w.heap.size+1) wr.heap.size (((x.setCell ⟨w.heap.size,0,none⟩ v0).setCell ⟨w.heap.size,1,none⟩ v1).setCell ⟨w.heap.size,2,none⟩ v2):=fun x v0 v1 v2 h =>
    ((h.set (by omega) (by omega) (fun k hk=>by have:=HS.out k hk;omega) 0 v0).set (by omega) (by omega) (fun k hk=>by have:=HS.out k hk;omega) 1 v1).set (by omega) (by omega) (fun k hk=>by have:=HS.out k hk;omega) 2 v2
   have HKEEP:=hid hkeep;have hcall:∀ x,BytesOn S x (.slice (some ⟨bb,off,none⟩) 24 cap) (b.take 24)->Calls Tryz.prog 215 #[.slice (some ⟨bb,off,none⟩) 24 cap] x fun e w'=>e=.returned (.int .u64 (Sp.sum (b.take 24):Int))/\w'=x:=fun x hx=>sum_any _ _ x hx (by rw[List.length_take];omega)
   have HCALL:=hid hcall;clear hsh hkeep hcall
   cases hd:decide (0<DS.fld b 32 0) with
   | true =>
    go_region_held3 (fun x=>x.cell? ⟨wr.heap.size,0,none⟩=some (.int .u64 (DS.fld b 32 0:Int))/\x.cell? ⟨wr.heap.size,1,none⟩=some (.int .u64 (DS.fld b 32 1:Int))/\x.cell? ⟨wr.heap.size,2,none⟩=some (.int .u64 (DS.fld b 32 2:Int))/\x.cell? ⟨w.heap.size+1,3,none⟩=some (.int .u64 (DS.fld b 32 3:Int)) /\
      x.cell? ⟨w.heap.size,0,none⟩=some (DS.cellD x ⟨w.heap.size,0,none⟩)/\x.cell? ⟨w.heap.size,1,none⟩=some (DS.cellD x ⟨w.heap.size,1,none⟩)/\x.cell? ⟨w.heap.size,2,none⟩=some (DS.cellD x ⟨w.heap.size,2,none⟩) /\
      x.frozen? ⟨w.heap.size,0,none⟩=false/\x.frozen? ⟨w.heap.size,1,none⟩=false/\x.frozen? ⟨w.heap.size,2,none⟩=false/\BytesOn S x (.slice (some ⟨bb,off,none⟩) 24 cap) (b.take 24))
     (first|exact HSH.out|(refine HKEEP.out _ _ _ _ ?_;assumption))
     (first|(go_at_call 215;refine(HCALL.out _ ?_).mono ?_;(simp only[*]);rintro e w' ⟨rfl,rfl⟩))
    go_wp2;refine bodyPost_ret (v:=.tuple #[.agg #[.int .u64 (DS.fld b 32 0:Int),.int .u64 (DS.fld b 32 1:Int),.int .u64 (DS.fld b 32 2:Int)],.bool ((DS.fld b 32 3:Int) == (Sp.sum (b.take 24):Int))]) (by simp[results,Tryz.results213,go_sem,hd0,hd1,hd2]) rfl ⟨?_,?_⟩
    ·rw[HHD.out,hd,DS.beq_nat];rfl
    ·exact(((DS.below_first hbx).setCell (Nat.le_refl _) _).setCell (Nat.le_refl _) _ |>.setCell (Nat.le_refl _) _).drew
   | false =>
    go_region;go_wp2;refine bodyPost_ret (v:=.tuple #[.agg #[.int .u64 (DS.fld b 32 0:Int),.int .u64 (DS.fld b 32 1:Int),.int .u64 (DS.fld b 32 2:Int)],.bool false]) (by simp[results,Tryz.results213,go_sem,hd0,hd1,hd2]) rfl ⟨?_,?_⟩
    ·rw[HHD.out,hd];rfl
    ·exact(((DS.below_first hbx).setCell (Nat.le_refl _) _).setCell (Nat.le_refl _) _ |>.setCell (Nat.le_refl _) _).drew
end
section
open Go.RowKit Go.Maps
structure Chg(M:Nat->Prop)(w w':World):Prop where
 os:w'.os=w.os
 tape:w'.tape=w.tape
 output:w'.output=w.output
 size:w.heap.size<=w'.heap.size
 block:∀ k,k<w.heap.size->¬M k->w'.heap[k]? = w.heap[k]?
namespace Chg
theorem refl(M:Nat->Prop)(w:World):Chg M w w:=⟨rfl,rfl,rfl,Nat.le_refl _,fun _ _ _=>rfl⟩
theorem trans{M:Nat->Prop}{a b c:World}(h:Chg M a b)(k:Chg M b c):Chg M a c:=
 ⟨k.os.trans h.os,k.tape.trans h.tape,k.output.trans h.output,Nat.le_trans h.size k.size,fun i hi hm=>(k.block i (Nat.lt_of_lt_of_le hi h.size) hm).trans (h.block i hi hm)⟩
theorem trans'{M N:Nat->Prop}{a b c:World}(h:Chg M a b)(k:Chg N b c)(hn:∀ x,N x->M x\/a.heap.size<=x):Chg M a c:=
 ⟨k.os.trans h.os,k.tape.trans h.tape,k.output.trans h.output,Nat.le_trans h.size k.size,fun i hi hm=>(k.block i (Nat.lt_of_lt_of_le hi h.size) fun hx=>by
  rcases hn i hx with h1|h1
  ·exact hm h1
  ·omega).trans (h.block i hi hm)⟩
theorem mono{M N:Nat->Prop}{a b:World}(h:Chg M a b)(hm:∀ x,M x->N x):Chg N a b:=⟨h.os,h.tape,h.output,h.size,fun i hi hn=>h.block i hi fun hx=>hn (hm i hx)⟩
theorem of_below{M:Nat->Prop}{a b:World}(h:Below a.heap.size a b):Chg M a b:=⟨h.os,h.tape,h.output,h.size,fun i hi _=>h.block i hi⟩
theorem setCell{M:Nat->Prop}{a b:World}(h:Chg M a b){p:Addr}(hp:M p.block)(u:Value):Chg M a (b.setCell p u):=
 h.trans ⟨rfl,rfl,rfl,by simp[World.setCell],fun i _ hm=>Below.heap_setCell _ _ _ _ fun e=>hm (by rw[e];exact hp)⟩
theorem drew{M:Nat->Prop}{a b:World}(h:Chg M a b):Chg M a b.drew:=⟨h.os,h.tape,h.output,h.size,h.block⟩
theorem alloc{M:Nat->Prop}{a b:World}(h:Chg M a b)(o:Obj):Chg M a (b.alloc o):=h.trans ⟨rfl,rfl,rfl,by simp,fun i hi _=>Below.heap_alloc _ _ _ hi⟩
theorem below{M:Nat->Prop}{a b:World}{B:Nat}(h:Chg M a b)(hB:B<=a.heap.size)(hm:∀ x,M x->B<=x):Below B a b:=
 ⟨h.os,h.tape,h.output,h.size,fun k hk=>h.block k (by omega) fun hx=>by have:=hm k hx;omega⟩
end Chg
theorem own_keep{w w':World}{B:Nat}{e:TypeId}{size n:Nat}{v:Value}{xs:List Value}(h:w.ownsRow B e size v n xs)(hb:∀ g,v.ownBlock=some g->w'.heap[g]? = w.heap[g]?):w'.ownsRow B e size v n xs:=by
 obtain⟨h1,h2⟩:=h;refine⟨h1,?_⟩
 rcases h2 with h2|⟨g,cap,cur,hv,hg,hh,r⟩
 ·exact .inl h2
 ·refine .inr ⟨g,cap,cur,hv,hg,?_,r⟩
  rw[hb g (by rw[hv];rfl)];exact hh
def Secs(I:Nat->Prop)(w:World)(vs:List Value)(ss:List Sp.Str):Prop:=
 vs.length=ss.length/\∀ (k:Nat) v s,vs[k]? = some v->ss[k]? = some s->BytesOn I w v s/\s.length=64
theorem Secs.keep{I J:Nat->Prop}{w w':World}{vs:List Value}{ss:List Sp.Str}(h:Secs I w vs ss)(hb:∀ x,I x->w'.heap[x]? = w.heap[x]?)(hs:∀ x,I x->J x):Secs J w' vs ss:=
 ⟨h.1,fun k v s hv hs'=>⟨(h.2 k v s hv hs').1.keep hb hs,(h.2 k v s hv hs').2⟩⟩
theorem Secs.set{I:Nat->Prop}{w:World}{vs:List Value}{ss:List Sp.Str}(h:Secs I w vs ss){v:Value}{s:Sp.Str}(hv:BytesOn I w v s)(hl:s.length=64)(n:Nat):Secs I w (vs.set n v) (ss.set n s):=by
 refine⟨by rw[List.length_set,List.length_set];exact h.1,fun k x y hx hy=>?_⟩;rw[List.getElem?_set] at hx hy
 by_cases e:n=k
 ·rw[if_pos e] at hx hy
  split at hx
  ·split at hy
   ·cases hx;cases hy;exact⟨hv,hl⟩
   ·cases hy
  ·cases hx
 ·rw[if_neg e] at hx hy
  exact h.2 k x y hx hy
theorem Secs.snoc{I:Nat->Prop}{w:World}{vs:List Value}{ss:List Sp.Str}(h:Secs I w vs ss){v:Value}{s:Sp.Str}(hv:BytesOn I w v s)(hl:s.length=64):Secs I w (vs ++ [v]) (ss ++ [s]):=by
 refine⟨by rw[List.length_append,List.length_append,h.1];rfl,fun k x y hx hy=>?_⟩;rw[List.getElem?_append] at hx hy;rw[<-h.1] at hy
 split at hx
 ·rename_i hlt
  rw[if_pos hlt] at hy;exact h.2 k x y hx hy
 ·rename_i hlt
  rw[if_neg hlt] at hy
  cases hk:k-vs.length with
  | zero=>rw[hk] at hx hy;cases hx;cases hy;exact⟨hv,hl⟩
  | succ n=>rw[hk] at hx;cases hx
theorem Secs.nil(I:Nat->Prop)(w:World):Secs I w [] []:=⟨rfl,fun k v s h=>by simp at h⟩
def lateVs(lt:List (Nat × Value)):List Value:=lt.flatMap fun q=>[.int .i64 (q.1:Int),q.2]
structure DkAt(I:Nat->Prop)(w:World)(b hb sb hc sc:Nat)(lv:Value)(hv sv:List Value)(lt:List (Nat × Value))(d:Sp.Dk):Prop where
 blk:w.heap[b]? = some (.cells #[.slice (some ⟨hb,0,none⟩) d.held.length hc,.slice (some ⟨sb,0,none⟩) d.seen.length sc,lv,.int .i64 d.left,.bool d.dead] 106 (0,0))
 held:w.ownsRow 0 136 1 (.slice (some ⟨hb,0,none⟩) d.held.length hc) d.held.length hv
 seen:w.ownsRow 0 136 1 (.slice (some ⟨sb,0,none⟩) d.seen.length sc) d.seen.length sv
 late:w.ownsRow 0 154 2 lv d.late.length (lateVs lt)
 hsec:Secs I w hv d.held
 ssec:Secs I w sv d.seen
 lsec:Secs I w (lt.map (·.2)) (d.late.map (·.2))
 lnum:lt.map (·.1)=d.late.map (·.1)
 apart:hb≠sb
 imm:∀ k,I k->k<w.heap.size/\k≠b/\k≠hb/\k≠sb/\lv.ownBlock≠some k
 lens:d.held.length=d.seen.length/\2<=d.seen.length/\d.seen.length<=256
 lats:∀ q∈d.late,q.1<d.seen.length
 left:-1<=d.left/\d.left<=9223372036854775807
namespace DkAt
variable {I:Nat->Prop} {w w':World} {b hb sb hc sc:Nat} {lv:Value} {hv sv:List Value} {lt:List (Nat × Value)} {d:Sp.Dk}
theorem lt_b(h:DkAt I w b hb sb hc sc lv hv sv lt d):b<w.heap.size:=(Array.getElem?_eq_some_iff.1 h.blk).1
theorem row{w:World}{g n c:Nat}{e:TypeId}{size:Nat}{xs:List Value}(h:w.ownsRow 0 e size (.slice (some ⟨g,0,none⟩) n c) n xs):∃ cur,w.heap[g]? = some (.cells cur e (0,0))/\n<=c/\cur.size=c*size/\cur.toList.take (n*size)=xs:=by
 rcases h.2 with⟨h1,_⟩|⟨g',cap,cur,hv,_,hh,h3,_,h4,h5⟩
 ·cases h1
 ·injection hv with h1 h2 h3'
  injection h1 with h1
  injection h1 with h1 _ _
  subst h1 h3';exact⟨cur,hh,h3,h4,h5⟩
theorem ne_type{w:World}{g g':Nat}{c c':Array Value}{t t':TypeId}(h:w.heap[g]? = some (.cells c t (0,0)))(h':w.heap[g']? = some (.cells c' t' (0,0)))(hne:t≠t'):g≠g':=by
 rintro rfl;rw[h] at h';injection h' with h'
 injection h' with _ ht
 exact hne ht
theorem own_block{w:World}{B:Nat}{e:TypeId}{size n:Nat}{v:Value}{xs:List Value}{g:Nat}(h:w.ownsRow B e size v n xs)(hg:v.ownBlock=some g):∃ cur,w.heap[g]? = some (.cells cur e (0,0)):=by
 rcases h.2 with⟨h1,_⟩|⟨g',cap,cur,hv,_,hh,_⟩
 ·rw[h1] at hg;cases hg
 ·rw[hv] at hg
  injection hg with hg
  have hg:g'=g:=hg;subst hg;exact⟨cur,hh⟩
theorem b_ne_hb(h:DkAt I w b hb sb hc sc lv hv sv lt d):b≠hb:=by obtain⟨c,hc,_⟩:=row h.held;exact ne_type h.blk hc (by decide)
theorem b_ne_sb(h:DkAt I w b hb sb hc sc lv hv sv lt d):b≠sb:=by obtain⟨c,hc,_⟩:=row h.seen;exact ne_type h.blk hc (by decide)
theorem b_ne_late(h:DkAt I w b hb sb hc sc lv hv sv lt d):lv.ownBlock≠some b:=fun e=>by obtain⟨c,hc⟩:=own_block h.late e;exact ne_type h.blk hc (by decide) rfl
theorem hb_ne_late(h:DkAt I w b hb sb hc sc lv hv sv lt d):lv.ownBlock≠some hb:=fun e=>by
 obtain⟨c,hc⟩:=own_block h.late e;obtain⟨c',hc',_⟩:=row h.held;exact ne_type hc' hc (by decide) rfl
theorem sb_ne_late(h:DkAt I w b hb sb hc sc lv hv sv lt d):lv.ownBlock≠some sb:=fun e=>by
 obtain⟨c,hc⟩:=own_block h.late e;obtain⟨c',hc',_⟩:=row h.seen;exact ne_type hc' hc (by decide) rfl
theorem lt_hb(h:DkAt I w b hb sb hc sc lv hv sv lt d):hb<w.heap.size:=by obtain⟨c,hc,_⟩:=row h.held;exact(Array.getElem?_eq_some_iff.1 hc).1
theorem lt_sb(h:DkAt I w b hb sb hc sc lv hv sv lt d):sb<w.heap.size:=by obtain⟨c,hc,_⟩:=row h.seen;exact(Array.getElem?_eq_some_iff.1 hc).1
theorem lt_late(h:DkAt I w b hb sb hc sc lv hv sv lt d){g:Nat}(hg:lv.ownBlock=some g):g<w.heap.size:=by obtain⟨c,hc⟩:=own_block h.late hg;exact(Array.getElem?_eq_some_iff.1 hc).1
def muts(b hb sb:Nat)(lv:Value)(k:Nat):Prop:=k=b\/k=hb\/k=sb\/lv.ownBlock=some k
theorem keep(h:DkAt I w b hb sb hc sc lv hv sv lt d)(hk:∀ k,muts b hb sb lv k\/I k->w'.heap[k]? = w.heap[k]?)(hs:w.heap.size<=w'.heap.size):DkAt I w' b hb sb hc sc lv hv sv lt d:=
 {
  blk:=(hk b (.inl (.inl rfl))).trans h.blk
  held:=own_keep h.held fun g hg=>by injection hg with hg;have hg:hb=g:=hg;subst hg;exact hk _ (.inl (.inr (.inl rfl)))
  seen:=own_keep h.seen fun g hg=>by injection hg with hg;have hg:sb=g:=hg;subst hg;exact hk _ (.inl (.inr (.inr (.inl rfl))))
  late:=own_keep h.late fun g hg=>hk _ (.inl (.inr (.inr (.inr hg))))
  hsec:=h.hsec.keep (fun x hx=>hk x (.inr hx)) fun _ h=>h
  ssec:=h.ssec.keep (fun x hx=>hk x (.inr hx)) fun _ h=>h
  lsec:=h.lsec.keep (fun x hx=>hk x (.inr hx)) fun _ h=>h
  lnum:=h.lnum,apart:=h.apart
  imm:=fun k hk'=>⟨by have:=(h.imm k hk').1;omega,(h.imm k hk').2⟩
  lens:=h.lens,lats:=h.lats,left:=h.left }
theorem below(h:DkAt I w b hb sb hc sc lv hv sv lt d)(hb':Below w.heap.size w w'):DkAt I w' b hb sb hc sc lv hv sv lt d:=
 h.keep (fun k hk=>hb'.block k (by
  rcases hk with(rfl|rfl|rfl|hk)|hk
  ·exact h.lt_b
  ·exact h.lt_hb
  ·exact h.lt_sb
  ·exact h.lt_late hk
  ·exact(h.imm k hk).1)) hb'.size
theorem flags(h:DkAt I w b hb sb hc sc lv hv sv lt d){l:Int}{dead:Bool}(hblk:w'.heap[b]? = some (.cells #[.slice (some ⟨hb,0,none⟩) d.held.length hc,.slice (some ⟨sb,0,none⟩) d.seen.length sc,lv,.int .i64 l,.bool dead] 106 (0,0)))
  (hk:∀ k,k≠b->k<w.heap.size->w'.heap[k]? = w.heap[k]?)(hs:w.heap.size<=w'.heap.size)(hl:-1<=l/\l<=9223372036854775807):DkAt I w' b hb sb hc sc lv hv sv lt { d with left:=l,dead:=dead }:=
 {
  blk:=hblk
  held:=own_keep h.held fun g hg=>by injection hg with hg;have hg:hb=g:=hg;subst hg;exact hk _ (fun e=>h.b_ne_hb e.symm) h.lt_hb
  seen:=own_keep h.seen fun g hg=>by injection hg with hg;have hg:sb=g:=hg;subst hg;exact hk _ (fun e=>h.b_ne_sb e.symm) h.lt_sb
  late:=own_keep h.late fun g hg=>hk _ (fun e=>h.b_ne_late (e ▸ hg)) (h.lt_late hg)
  hsec:=h.hsec.keep (fun x hx=>hk x (h.imm x hx).2.1 (h.imm x hx).1) fun _ h=>h
  ssec:=h.ssec.keep (fun x hx=>hk x (h.imm x hx).2.1 (h.imm x hx).1) fun _ h=>h
  lsec:=h.lsec.keep (fun x hx=>hk x (h.imm x hx).2.1 (h.imm x hx).1) fun _ h=>h
  lnum:=h.lnum,apart:=h.apart
  imm:=fun k hk'=>⟨by have:=(h.imm k hk').1;omega,(h.imm k hk').2⟩
  lens:=h.lens,lats:=h.lats,left:=hl }
theorem cells(h:DkAt I w b hb sb hc sc lv hv sv lt d):w.cell? ⟨b,0,none⟩=some (.slice (some ⟨hb,0,none⟩) d.held.length hc)/\w.cell? ⟨b,1,none⟩=some (.slice (some ⟨sb,0,none⟩) d.seen.length sc)/\w.cell? ⟨b,2,none⟩=some lv/\w.cell? ⟨b,3,none⟩=some (.int .i64 d.left)/\w.cell? ⟨b,4,none⟩=some (.bool d.dead)/\∀ o,w.frozen? ⟨b,o,none⟩=false:=by
 refine⟨?_,?_,?_,?_,?_,fun o=>?_⟩
 ·rw[cell_of_row _ _ _ _ _ _ h.blk];rfl
 ·rw[cell_of_row _ _ _ _ _ _ h.blk];rfl
 ·rw[cell_of_row _ _ _ _ _ _ h.blk];rfl
 ·rw[cell_of_row _ _ _ _ _ _ h.blk];rfl
 ·rw[cell_of_row _ _ _ _ _ _ h.blk];rfl
 ·have:=h.blk
  simp[World.frozen?,this]
end DkAt
theorem lost_any{I:Nat->Prop}{w:World}{b hb sb hc sc:Nat}{lv:Value}{hv sv:List Value}{lt:List (Nat × Value)}{d:Sp.Dk}(h:DkAt I w b hb sb hc sc lv hv sv lt d):
  Calls Tryz.prog 300 #[.pointer (some ⟨b,0,none⟩)] w fun e w'=>e=.returned (.bool (d.dead || decide (d.left=0)))/\Chg (·=b) w w'/\DkAt I w' b hb sb hc sc lv hv sv lt d.lost:=by
 obtain⟨c0,c1,c2,c3,c4,hz⟩:=h.cells;have hlb:=h.lt_b;have hl1:=h.left.1;have hl2:=h.left.2;have H:=hid h;clear h;obtain⟨held,seen,late,left,dead⟩:=d;simp only at c0 c1 c2 c3 c4 hl1 hl2;have hone:∀ (v4:Bool),DkAt I (w.setCell ⟨b,4,none⟩ (.bool v4)) b hb sb hc sc lv hv sv lt { held:=held,seen:=seen,late:=late,left:=left,dead:=v4 }:=fun v4 =>
  H.out.flags (DS.set_blk H.out.blk 4 _) (fun k hk _=>Below.heap_setCell _ _ _ _ hk) (by simp[World.setCell]) H.out.left
 have htwo:∀ (v4:Bool),0<left->DkAt I ((w.setCell ⟨b,4,none⟩ (.bool v4)).setCell ⟨b,3,none⟩ (.int .i64 (left-1))) b hb sb hc sc lv hv sv lt { held:=held,seen:=seen,late:=late,left:=left-1,dead:=v4 }:=fun v4 hp =>
  (hone v4).flags (DS.set_blk (hone v4).blk 3 _) (fun k hk _=>Below.heap_setCell _ _ _ _ hk) (by simp[World.setCell]) ⟨by omega,by omega⟩
 have HONE:=hid hone;have HTWO:=hid htwo;have hc1:∀ v,Chg (·=b) w (w.setCell ⟨b,4,none⟩ v):=fun v=>(Chg.refl (·=b) w).setCell (p:=⟨b,4,none⟩) rfl v
 have hc2:∀ v u,Chg (·=b) w ((w.setCell ⟨b,4,none⟩ v).setCell ⟨b,3,none⟩ u):=fun v u=>(hc1 v).setCell (p:=⟨b,3,none⟩) rfl u
 have HC1:=hid hc1;have HC2:=hid hc2;clear hone htwo hc1 hc2
 by_cases hp:0<left
 ·have hn0:¬left=0:=by omega
  have hb0:(left == 0)=false:=by rw[beq_eq_false_iff_ne];exact hn0
  have e:∀ dead,({ held:=held,seen:=seen,late:=late,left:=left,dead:=dead }:Sp.Dk).lost={ held:=held,seen:=seen,late:=late,left:=left-1,dead:=dead }:=fun dead=>by unfold Sp.Dk.lost;simp[hp,hn0]
  have E:=hid e;clear e
  cases dead with
  | true =>
   go_enter Tryz.func300,Tryz.ntmps300;go_wp2;go_ret;exact⟨rfl,HC2.out _ _,by rw[E.out];exact HTWO.out _ hp⟩
  | false =>
   go_enter Tryz.func300,Tryz.ntmps300;go_wp2;go_ret;exact⟨by simp[hn0],HC2.out _ _,by rw[E.out];exact HTWO.out _ hp⟩
 ·by_cases h0:left=0
  ·have e:∀ dead,({ held:=held,seen:=seen,late:=late,left:=left,dead:=dead }:Sp.Dk).lost={ held:=held,seen:=seen,late:=late,left:=left,dead:=true }:=fun dead=>by unfold Sp.Dk.lost;simp[h0]
   have E:=hid e;clear e;subst h0
   cases dead with
   | true =>
    go_enter Tryz.func300,Tryz.ntmps300;go_wp2;go_ret;exact⟨rfl,HC1.out _,by rw[E.out];exact HONE.out _⟩
   | false =>
    go_enter Tryz.func300,Tryz.ntmps300;go_wp2;go_ret;exact⟨by simp,HC1.out _,by rw[E.out];exact HONE.out _⟩
  ·have hb0:(left == 0)=false:=by rw[beq_eq_false_iff_ne];exact h0
   have e:∀ dead,({ held:=held,seen:=seen,late:=late,left:=left,dead:=dead }:Sp.Dk).lost={ held:=held,seen:=seen,late:=late,left:=left,dead:=dead }:=fun dead=>by unfold Sp.Dk.lost;simp[h0,hp]
   have E:=hid e;clear e
   cases dead with
   | true =>
    go_enter Tryz.func300,Tryz.ntmps300;go_wp2;go_ret;exact⟨rfl,HC1.out _,by rw[E.out];exact HONE.out _⟩
   | false =>
    go_enter Tryz.func300,Tryz.ntmps300;go_wp2;go_ret;exact⟨by simp,HC1.out _,by rw[E.out];exact HONE.out _⟩
theorem sectors_any{I:Nat->Prop}{w:World}{b hb sb hc sc:Nat}{lv:Value}{hv sv:List Value}{lt:List (Nat × Value)}{d:Sp.Dk}(h:DkAt I w b hb sb hc sc lv hv sv lt d):
  Calls Tryz.prog 297 #[.pointer (some ⟨b,0,none⟩)] w fun e w'=>e=.returned (.int .i64 (d.seen.length:Int))/\w'=w:=by
 obtain⟨c0,c1,c2,c3,c4,hz⟩:=h.cells;have hlb:=h.lt_b;clear h;go_enter Tryz.func297,Tryz.ntmps297;go_wp2;go_ret;exact⟨rfl,rfl⟩
theorem DkAt.sec{I:Nat->Prop}{w:World}{b hb sb hc sc:Nat}{lv:Value}{hv sv:List Value}{lt:List (Nat × Value)}{d:Sp.Dk}(h:DkAt I w b hb sb hc sc lv hv sv lt d)(n:Nat)(hn:n<d.seen.length):
  ∃ v,sv[n]? = some v/\w.cell? ⟨sb,n,none⟩=some v/\BytesOn I w v (d.seen.getD n [])/\(d.seen.getD n []).length=64:=by
 have hl:=h.ssec.1;obtain⟨cur,hcur,_,_,ht⟩:=DkAt.row h.seen;have hv':sv[n]? = some (sv[n]'(by omega)):=List.getElem?_eq_getElem (by omega);have hs':d.seen[n]? = some d.seen[n]:=List.getElem?_eq_getElem hn;obtain⟨h1,h2⟩:=h.ssec.2 n _ _ hv' hs';have hg:d.seen.getD n []=d.seen[n]:=by rw[List.getD_eq_getElem?_getD,hs'];rfl
 refine⟨_,hv',?_,by rw[hg];exact h1,by rw[hg];exact h2⟩;rw[cell_of_row _ _ _ _ _ _ hcur,<-hv',<-ht,List.getElem?_take,if_pos (by omega)];simp
end
section
open Go.RowKit Go.Maps
theorem bvs_len(s:Sp.Str):(bvs s).length=s.length:=by unfold bvs;rw[List.length_map]
theorem BytesOn.src{S:Nat->Prop}{w:World}{a:Option Addr}{n cap:Nat}{s:Sp.Str}(h:BytesOn S w (.slice a n cap) s)(hpos:0<s.length):∃ bb off,a=some ⟨bb,off,none⟩/\S bb/\∀ j v,(bvs s)[j]? = some v->w.cell? ⟨bb,off+j,none⟩=some v:=by
 obtain⟨a',cap',hv,_,hg⟩:=h.get;injection hv with h1 h2 h3
 subst h1;obtain⟨bb,off,rfl,hS,_⟩:=hg 0 hpos;refine⟨bb,off,rfl,hS,fun j v hj=>?_⟩;unfold bvs at hj;rw[List.getElem?_map] at hj
 by_cases hjl:j<s.length
 ·rw[List.getElem?_eq_getElem hjl] at hj
  obtain⟨bb',off',e,_,hc⟩:=hg j hjl;injection e with e
  injection e with e1 e2 _
  subst e1 e2
  cases hj
  exact hc
 ·rw[List.getElem?_eq_none (by omega)] at hj;cases hj
namespace DK
def Zr:Array Value:=madeCells #[.int .u8 0] 64
def zrow:List Value:=bvs (List.replicate 64 0)
theorem zr_eq:Zr=zrow.toArray:=by kernel_rfl
theorem mk64(w:World):(Instr.makeSlice 136 (.int .i64 64) (.int .i64 64)).run Tryz.prog w=.ok (.slice (some ⟨w.heap.size,0,none⟩) 64 64) (w.alloc (.cells Zr 5)):=
 run_make_row' (P:=Tryz.prog) 136 5 (.int .u8 0) 1 Tryz.underlying136 info5 rfl .i64 .i64 64 (by decide) (by decide) w
theorem zrow_len:zrow.length=64:=by rw[zrow,bvs_len,List.length_replicate]
theorem splice_pad(s:Sp.Str)(h:s.length<=64):splice zrow 0 (bvs s)=bvs (Sp.pad s):=by
 have e:Sp.pad s=s ++ (List.replicate 64 (0:UInt8)).drop s.length:=by
  unfold Sp.pad;rw[List.take_append,List.take_of_length_le h,List.take_replicate,List.drop_replicate]
  congr 2;omega
 rw[e];unfold splice zrow;rw[List.take_zero,List.nil_append,Nat.zero_add,bvs_len];unfold bvs;rw[List.map_append,List.map_drop]
theorem one_cell(s:Sp.Str):∀ v∈bvs s,v.oneCell'=true:=fun v hv=>by
 unfold bvs at hv;obtain⟨c,_,rfl⟩:=List.mem_map.1 hv
 rfl
theorem pad_len(s:Sp.Str):(Sp.pad s).length=64:=by unfold Sp.pad;rw[List.length_take,List.length_append,List.length_replicate];omega
theorem pad_full(s:Sp.Str)(h:s.length=64):Sp.pad s=s:=by unfold Sp.pad;rw[List.take_append_of_le_length (by omega),List.take_of_length_le (by omega)]
theorem bytes_of{S:Nat->Prop}{w:World}{g cap:Nat}{s:Sp.Str}(h:w.heap[g]? = some (.cells (bvs s).toArray 5 (0,0)))(hS:S g)(hc:s.length<=cap):BytesOn S w (.slice (some ⟨g,0,none⟩) s.length cap) s:=by
 refine⟨_,cap,by rw[List.length_map],by rw[List.length_map];exact hc,fun k x hx=>⟨g,0,rfl,hS,fun j u hu=>?_⟩⟩;rw[List.getElem?_map] at hx
 cases hk:s[k]? with
 | none=>rw[hk] at hx;cases hx
 | some c =>
  rw[hk] at hx
  cases hx
  cases j with
  | zero =>
   cases hu
   rw[cell_of_row _ _ _ _ _ _ h];simp[bvs,hk]
  | succ j=>cases hu
end DK
theorem dread_any{I:Nat->Prop}{w:World}{b hb sb hc sc:Nat}{lv:Value}{hv sv:List Value}{lt:List (Nat × Value)}{d:Sp.Dk}(h:DkAt I w b hb sb hc sc lv hv sv lt d)(n:Nat)(hn:n<d.seen.length):
  Calls Tryz.prog 296 #[.pointer (some ⟨b,0,none⟩),.int .i64 (n:Int)] w fun e w'=>∃ g,e=.returned (.slice (some ⟨g,0,none⟩) 64 64)/\Below w.heap.size w w'/\BytesOn (fun x=>w.heap.size<=x/\x<w'.heap.size) w' (.slice (some ⟨g,0,none⟩) 64 64) (d.seen.getD n []):=by
 obtain⟨c0,c1,c2,c3,c4,hz⟩:=h.cells;obtain⟨v,_,hv1,hv2,hv3⟩:=h.sec n hn;have hlb:=h.lt_b;have hlsb:=h.lt_sb;have hnI:(n:Int)<(d.seen.length:Int):=by omega
 have hmk:=DK.mk64;obtain⟨va,vcap,hve,_,_⟩:=hv2.get;rw[hv3] at hve;subst hve;obtain⟨bb,off,rfl,hbI,hsrc⟩:=hv2.src (by omega);have hbl:=(h.imm bb hbI).1;have HSRC:=hid hsrc;have HV3:=hid hv3;clear h hv2 hsrc;generalize d.seen.getD n []=s at *;clear hv3;go_enter Tryz.func296,Tryz.ntmps296;go_wp2_with (with_reducible refine wpList_copy_splice rfl _ _ _ _ rfl 5 Tryz.underlying136 rfl _ _ _ _ _ _ rfl rfl w.heap.size 0 DK.zrow 5 ?_ (bvs s) ?_ ?_ ?_ ?_ w.heap.size w ?_ (Nat.le_refl _) ?_)
 case refine_1=>rw[heap_alloc_new,DK.zr_eq]
 case refine_2=>rw[bvs_len,HV3.out];rfl
 case refine_3=>exact fun _=>HSRC.out
 case refine_4=>rw[bvs_len,HV3.out,DK.zrow_len];omega
 case refine_5=>exact DK.one_cell s
 case refine_6=>exact(Below.refl _ _).alloc (Nat.le_refl _) _
 case refine_7 =>
  intro w2 hblk hb2;have hblk:=hblk.out;rw[DK.splice_pad s (by have:=HV3.out;omega),DK.pad_full s HV3.out] at hblk;have HB:=hid hblk;clear hblk;go_wp2;go_ret;refine⟨_,rfl,hb2,?_⟩;have:=DK.bytes_of (S:=fun x=>w.heap.size<=x/\x<w2.heap.size) HB.out ⟨Nat.le_refl _,(Array.getElem?_eq_some_iff.1 HB.out).1⟩ (cap:=64) (by have:=HV3.out;omega);rw[HV3.out] at this;exact this
end
section
open Go.RowKit Go.Maps
theorem info154:(Tryz.prog.info? 154).map (fun i=>(i.zero,i.size,i.bytes))=some (some (.agg #[.int .i64 0,.slice none 0 0]),2,32):=by kernel_rfl
theorem app104:AppTy 104 154 2 32:=AppTy.of Tryz.underlying104 info154 rfl (by decide) (by decide)
theorem DK.addr_add(b o j:Nat):(⟨b,o,none⟩:Addr).add j=⟨b,o+j,none⟩:=by unfold Addr.add;split <;> simp_all
theorem Chg.grown{M:Nat->Prop}{a b c:World}{row:Option Nat}(h:Chg M a b)(hg:b.grownBy c row)(hr:∀ g,row=some g->M g\/a.heap.size<=g):Chg M a c:=
 ⟨hg.os.trans h.os,hg.tape.trans h.tape,hg.output.trans h.output,Nat.le_trans h.size hg.size,fun k hk hm=>(hg.block k (by have:=h.size;omega) fun e=>by
  rcases hr k e.symm with h1|h1
  ·exact hm h1
  ·omega).trans (h.block k hk hm)⟩
theorem own_set{w:World}{g n c i:Nat}{e:TypeId}{xs:List Value}(h:w.ownsRow 0 e 1 (.slice (some ⟨g,0,none⟩) n c) n xs)(V:Value):(w.setCell ⟨g,i,none⟩ V).ownsRow 0 e 1 (.slice (some ⟨g,0,none⟩) n c) n (xs.set i V):=by
 obtain⟨h1,h2⟩:=h;refine⟨by rw[List.length_set];exact h1,?_⟩
 rcases h2 with⟨h2,_⟩|⟨g',cap,cur,hv,hg,hh,h3,h4,h5,h6⟩
 ·cases h2
 ·injection hv with e1 e2 e3
  injection e1 with e1
  injection e1 with e1 _ _
  subst e1 e3;refine .inr ⟨_,_,_,rfl,hg,DS.set_blk hh i V,h3,h4,by simpa using h5,?_⟩;rw[Array.toList_setIfInBounds,<-h6,Nat.mul_one,List.take_set]
namespace DkAt
variable {I:Nat->Prop} {w w':World} {b hb sb hc sc:Nat} {lv:Value} {hv sv:List Value} {lt:List (Nat × Value)} {d:Sp.Dk}
theorem setSeen(h:DkAt I w b hb sb hc sc lv hv sv lt d){n g c:Nat}{s:Sp.Str}(hV:BytesOn (·=g) w (.slice (some ⟨g,0,none⟩) 64 c) s)(hs:s.length=64)(hg:g<w.heap.size/\g≠b/\g≠hb/\g≠sb/\lv.ownBlock≠some g):
  DkAt (fun k=>I k\/k=g) (w.setCell ⟨sb,n,none⟩ (.slice (some ⟨g,0,none⟩) 64 c)) b hb sb hc sc lv hv (sv.set n (.slice (some ⟨g,0,none⟩) 64 c)) lt { d with seen:=d.seen.set n s }:=by
 have far:∀ k,k≠sb->(w.setCell ⟨sb,n,none⟩ (.slice (some ⟨g,0,none⟩) 64 c)).heap[k]? = w.heap[k]?:=fun k hk=>Below.heap_setCell _ _ _ _ hk
 have hI:∀ x,I x->(w.setCell ⟨sb,n,none⟩ (.slice (some ⟨g,0,none⟩) 64 c)).heap[x]? = w.heap[x]?:=fun x hx=>far x (h.imm x hx).2.2.2.1
 exact {
  blk:=by simp only[List.length_set];exact(far b h.b_ne_sb).trans h.blk
  held:=own_keep h.held fun k hk=>by injection hk with hk;have hk:hb=k:=hk;subst hk;exact far _ h.apart
  seen:=by simp only[List.length_set];exact own_set h.seen _
  late:=own_keep h.late fun k hk=>far k fun e=>h.sb_ne_late (e ▸ hk)
  hsec:=h.hsec.keep hI fun _ h=>.inl h
  ssec:=(h.ssec.keep hI fun _ h=>.inl h).set (hV.keep (fun x hx=>far x (by rw[hx];exact hg.2.2.2.1)) fun x hx=>.inr hx) hs n
  lsec:=h.lsec.keep hI fun _ h=>.inl h
  lnum:=h.lnum,apart:=h.apart
  imm:=fun k hk=>by
   have hsz:(w.setCell ⟨sb,n,none⟩ (.slice (some ⟨g,0,none⟩) 64 c)).heap.size=w.heap.size:=by simp[World.setCell]
   rw[hsz]
   rcases hk with hk|rfl
   ·exact h.imm k hk
   ·exact hg
  lens:=by simp only[List.length_set];exact h.lens
  lats:=by simp only[List.length_set];exact h.lats
  left:=h.left }
theorem frozen_sb(h:DkAt I w b hb sb hc sc lv hv sv lt d)(n:Nat):w.frozen? ⟨sb,n,none⟩=false:=by
 obtain⟨c,hc,_⟩:=row h.seen;simp[World.frozen?,hc]
theorem frozen_hb(h:DkAt I w b hb sb hc sc lv hv sv lt d)(n:Nat):w.frozen? ⟨hb,n,none⟩=false:=by
 obtain⟨c,hc,_⟩:=row h.held;simp[World.frozen?,hc]
theorem addLate(h:DkAt I w b hb sb hc sc lv hv sv lt d){n:Nat}{v lv':Value}{s:Sp.Str}(hn:n<d.seen.length)(hV:BytesOn I w v s)(hs:s.length=64)
  (hown:w'.ownsRow 0 154 2 lv' (d.late.length+1) (lateVs lt ++ [.int .i64 (n:Int),v]))(hg:w.grownBy w' lv.ownBlock)(hloc:lv'.ownBlock=lv.ownBlock\/∃ g,lv'.ownBlock=some g/\w.heap.size<=g):
  DkAt I (w'.setCell ⟨b,2,none⟩ lv') b hb sb hc sc lv' hv sv (lt ++ [(n,v)]) { d with late:=d.late ++ [(n,s)] }:=by
 have hblk:w'.heap[b]? = w.heap[b]?:=hg.block b h.lt_b fun e=>h.b_ne_late e.symm
 have far:∀ k,k≠b->k<w.heap.size->lv.ownBlock≠some k->(w'.setCell ⟨b,2,none⟩ lv').heap[k]? = w.heap[k]?:=fun k hk hlt hl=>(Below.heap_setCell _ _ _ _ hk).trans (hg.block k hlt fun e=>hl e.symm)
 have hI:∀ x,I x->(w'.setCell ⟨b,2,none⟩ lv').heap[x]? = w.heap[x]?:=fun x hx=>far x (h.imm x hx).2.1 (h.imm x hx).1 (h.imm x hx).2.2.2.2
 have hbl':lv'.ownBlock≠some b:=by
  rcases hloc with e|⟨g,e,hge⟩
  ·rw[e];exact h.b_ne_late
  ·rw[e];intro e2;injection e2 with e2;have:=h.lt_b;omega
 exact {
  blk:=DS.set_blk (hblk.trans h.blk) 2 lv'
  held:=own_keep h.held fun k hk=>by injection hk with hk;have hk:hb=k:=hk;subst hk;exact far _ (fun e=>h.b_ne_hb e.symm) h.lt_hb h.hb_ne_late
  seen:=own_keep h.seen fun k hk=>by injection hk with hk;have hk:sb=k:=hk;subst hk;exact far _ (fun e=>h.b_ne_sb e.symm) h.lt_sb h.sb_ne_late
  late:=by
   have:=own_keep (w':=w'.setCell ⟨b,2,none⟩ lv') hown fun k hk=>Below.heap_setCell _ _ _ _ fun e=>hbl' (by rw[hk];exact congrArg some e)
   have e1:lateVs (lt ++ [(n,v)])=lateVs lt ++ [.int .i64 (n:Int),v]:=by unfold lateVs;rw[List.flatMap_append];rfl
   have e2:(d.late ++ [(n,s)]).length=d.late.length+1:=by rw[List.length_append];rfl
   rw[e1,e2];exact this
  hsec:=h.hsec.keep hI fun _ h=>h
  ssec:=h.ssec.keep hI fun _ h=>h
  lsec:=by
   have:=(h.lsec.keep hI fun _ h=>h).snoc (hV.keep hI fun _ h=>h) hs
   simpa using this
  lnum:=by simp[h.lnum]
  apart:=h.apart
  imm:=fun k hk=>by
   have hsz:w.heap.size<=(w'.setCell ⟨b,2,none⟩ lv').heap.size:=by have:=hg.size;simp[World.setCell];omega
   obtain⟨h1,h2,h3,h4,h5⟩:=h.imm k hk;refine⟨by omega,h2,h3,h4,?_⟩
   rcases hloc with e|⟨g,e,hge⟩
   ·rw[e];exact h5
   ·rw[e];intro e2;injection e2 with e2;omega
  lens:=h.lens
  lats:=fun q hq=>by
   rcases List.mem_append.1 hq with hq|hq
   ·exact h.lats q hq
   ·cases List.mem_singleton.1 hq;exact hn
  left:=h.left }
end DkAt
def DkE(O:Nat->Prop)(w:World)(b:Nat)(d:Sp.Dk):Prop:=
 ∃ I hb sb hc sc lv hv sv lt,DkAt I w b hb sb hc sc lv hv sv lt d/\∀ k,DkAt.muts b hb sb lv k\/I k->O k
def DkStep(O:Nat->Prop)(w:World)(b:Nat)(d:Sp.Dk)(w':World):Prop:=
 Chg O w w'/\DkE (fun k=>O k\/w.heap.size<=k) w' b d
theorem dwrite_any{O S:Nat->Prop}{w:World}{b:Nat}{d:Sp.Dk}(h:DkE O w b d)(n:Nat)(hn:n<d.seen.length)(dv:Value)(s:Sp.Str)(hs:s.length<=64)(hdv:BytesOn S w dv s)(hS:∀ x,S x->x<w.heap.size)(hlate:d.late.length<1000000):
  Calls Tryz.prog 299 #[.pointer (some ⟨b,0,none⟩),.int .i64 (n:Int),dv] w fun e w'=>e=.returned (.tuple #[])/\DkStep O w b (d.write n s) w':=by
 obtain⟨I,hb,sb,hc,sc,lv,hv,sv,lt,h,hO⟩:=h;obtain⟨c0,c1,c2,c3,c4,hz⟩:=h.cells;have hlb:=h.lt_b;have hlsb:=h.lt_sb;have hnI:(n:Int)<(d.seen.length:Int):=by omega
 have hmk:=DK.mk64;obtain⟨va,vcap,rfl,hcap,_⟩:=hdv.get;have H:=hid h;have HDV:=hid hdv;have HS:=hid hS;have HO:=hid hO;clear h hdv hS hO;go_enter Tryz.func299,Tryz.ntmps299;go_wp2_with (with_reducible refine wpList_copy_splice rfl _ _ _ _ rfl 5 Tryz.underlying136 rfl _ _ _ _ _ _ rfl rfl w.heap.size 0 DK.zrow 5 ?_ (bvs s) ?_ ?_ ?_ ?_ w.heap.size w ?_ (Nat.le_refl _) ?_)
 case refine_1=>rw[heap_alloc_new,DK.zr_eq]
 case refine_2=>rw[bvs_len];exact(Nat.min_eq_left hs).symm
 case refine_3 =>
  intro hp;rw[bvs_len] at hp;obtain⟨bb,off,e,hSb,hsrc⟩:=HDV.out.src hp;refine⟨_,e,fun j v hj=>?_⟩;rw[DK.addr_add];exact(World.cell?_alloc_lt _ _ _ (HS.out bb hSb)).trans (hsrc j v hj)
 case refine_4=>rw[bvs_len,DK.zrow_len];omega
 case refine_5=>exact DK.one_cell s
 case refine_6=>exact(Below.refl _ _).alloc (Nat.le_refl _) _
 case refine_7 =>
  intro w2 hblk hb2;have hblk:=hblk.out;rw[DK.splice_pad s hs] at hblk;have HB:=hid hblk;have H2:=hid (H.out.below hb2);have hg2:w.heap.size<w2.heap.size:=(Array.getElem?_eq_some_iff.1 hblk).1;clear hblk;obtain⟨a0,a1,a2,a3,a4,az⟩:=H2.out.cells;obtain⟨_,_,hsn,_,_⟩:=H2.out.sec n hn;have hfz:=H2.out.frozen_sb n;have hpl:=DK.pad_len s;have hVb:BytesOn (·=w.heap.size) w2 (.slice (some ⟨w.heap.size,0,none⟩) 64 64) (Sp.pad s):=by
   have:=DK.bytes_of (S:=(·=w.heap.size)) HB.out rfl (cap:=64) (by omega);rw[hpl] at this;exact this
  have h3:=H2.out.setSeen (n:=n) hVb hpl ⟨hg2,by omega,by have:=H.out.lt_hb;omega,by omega,fun e=>by have:=H.out.lt_late e;omega⟩;have hL:=lost_any h3;have HL:=hid hL;have HVB:=hid hVb;clear h3 hL hVb hpl;have hch3:Chg (DkAt.muts b hb sb lv) w (w2.setCell ⟨sb,n,none⟩ (.slice (some ⟨w.heap.size,0,none⟩) 64 64)):=(Chg.of_below hb2).setCell (p:=⟨sb,n,none⟩) (.inr (.inr (.inl rfl))) _;go_wp2_with fail;refine HL.out.mono ?_;rintro e w4 ⟨rfl,hch4,h4⟩;have hch:Chg (DkAt.muts b hb sb lv) w w4:=hch3.trans (hch4.mono fun x hx=>.inl hx);have hV4:BytesOn (·=w.heap.size) w4 (.slice (some ⟨w.heap.size,0,none⟩) 64 64) (Sp.pad s):=HVB.out.keep (fun x hx=>by
   subst hx;exact(hch4.block _ (by simpa[World.setCell] using hg2) (show ¬w.heap.size=b by omega)).trans (Below.heap_setCell _ _ _ _ (show w.heap.size≠sb by omega))) fun _ h=>h
  have HV4:=hid hV4;clear hV4;have HCH:=hid hch;have h4':DkAt (fun k=>I k\/k=w.heap.size) w4 b hb sb hc sc lv hv (sv.set n (.slice (some ⟨w.heap.size,0,none⟩) 64 64)) lt { held:=d.held,seen:=d.seen.set n (Sp.pad s),late:=d.late,left:=if 0<d.left then d.left-1 else d.left,dead:=d.dead || decide (d.left=0) }:=h4;have H4:=hid h4';clear h4' h4 hch3 hch4 hch
  cases hdead:(d.dead || decide (d.left=0)) with
  | true =>
   go_wp2
   go_end0
   have hw:d.write n s={ held:=d.held,seen:=d.seen.set n (Sp.pad s),late:=d.late,left:=if 0<d.left then d.left-1 else d.left,dead:=d.dead || decide (d.left=0) }:=by
    unfold Sp.Dk.write;rw[if_pos hn,hdead];rfl
   refine⟨rfl,HCH.out.mono fun k hk=>HO.out k (.inl hk),_,hb,sb,hc,sc,lv,hv,_,lt,by rw[hw];exact H4.out,fun k hk=>?_⟩
   rcases hk with hk|hk|hk
   ·exact .inl (HO.out k (.inl hk))
   ·exact .inl (HO.out k (.inr hk))
   ·exact .inr (by omega)
  | false =>
   obtain⟨k0,k1,k2,k3,k4,kz⟩:=H4.out.cells;have hlr:w4.ownsRow 0 154 2 lv d.late.length (lateVs lt):=H4.out.late;have HLR:=hid hlr;have hlb4:=H4.out.lt_b;have hbl4:=H4.out.b_ne_late;have HBL:=hid hbl4;clear hlr hbl4;obtain⟨la,lc,rfl⟩:=W3.row_slice HLR.out;go_wp2_with (at_builtin;refine wp_app_at app104 w4 [.int .i64 (n:Int),.slice (some ⟨w.heap.size,0,none⟩) 64 64] rfl (by simp[Value.oneCell']) rfl _ _ rfl 0 _ _ _ rfl HLR.out rfl ?_ (Nat.zero_le _) ?_)
   ·omega
   ·intro v' w5 hrow5 hg5 gg gc hv' hloc
    have hb5:w5.heap[b]? = w4.heap[b]?:=hg5.block b hlb4 fun e=>HBL.out e.symm
    have m2:=(World.cell?_of_block (w:=w4) (a:=⟨b,2,none⟩) hb5).trans k2;have mz:w5.frozen? ⟨b,2,none⟩=false:=by
     have:=kz 2;simp only[World.frozen?,hb5] at this ⊢;exact this
    have HR5:=hid hrow5;have HG5:=hid hg5;have HLO:=hid hloc;have HV:=hid hv';subst hv';clear hrow5 hg5 hloc hb5;go_wp2
    go_end0
    have hw:d.write n s={ held:=d.held,seen:=d.seen.set n (Sp.pad s),late:=d.late ++ [(n,Sp.pad s)],left:=if 0<d.left then d.left-1 else d.left,dead:=d.dead || decide (d.left=0) }:=by
     unfold Sp.Dk.write;rw[if_pos hn,hdead];rfl
    have h5:=H4.out.addLate (n:=n) (by simpa using hn) (HV4.out.mono fun x hx=>.inr hx) (DK.pad_len s) HR5.out HG5.out HLO.out;refine⟨rfl,((HCH.out.grown HG5.out fun g hg=>.inl (.inr (.inr (.inr hg)))).setCell (p:=⟨b,2,none⟩) (.inl rfl) _).mono fun k hk=>HO.out k (.inl hk),_,hb,sb,hc,sc,_,hv,_,_,by rw[hw];exact h5,fun k hk=>?_⟩
    rcases hk with(hk|hk|hk|hk)|hk|hk
    ·exact .inl (HO.out k (.inl (.inl hk)))
    ·exact .inl (HO.out k (.inl (.inr (.inl hk))))
    ·exact .inl (HO.out k (.inl (.inr (.inr (.inl hk)))))
    ·rcases HLO.out with e|⟨g,e,hge⟩
     ·rw[e] at hk;exact .inl (HO.out k (.inl (.inr (.inr (.inr hk)))))
     ·rw[e] at hk;injection hk with hk;have:=HCH.out.size;exact .inr (by omega)
    ·exact .inl (HO.out k (.inr hk))
    ·exact .inr (by omega)
end
section
open Go.RowKit Go.Maps
namespace DkAt
variable {I:Nat->Prop} {w w':World} {b hb sb hc sc:Nat} {lv:Value} {hv sv:List Value} {lt:List (Nat × Value)} {d:Sp.Dk}
theorem drew(h:DkAt I w b hb sb hc sc lv hv sv lt d):DkAt I w.drew b hb sb hc sc lv hv sv lt d:=h.keep (fun _ _=>rfl) (Nat.le_refl _)
theorem setHeld(h:DkAt I w b hb sb hc sc lv hv sv lt d){n:Nat}{V:Value}{s:Sp.Str}(hV:BytesOn I w V s)(hs:s.length=64):
  DkAt I (w.setCell ⟨hb,n,none⟩ V) b hb sb hc sc lv (hv.set n V) sv lt { d with held:=d.held.set n s }:=by
 have far:∀ k,k≠hb->(w.setCell ⟨hb,n,none⟩ V).heap[k]? = w.heap[k]?:=fun k hk=>Below.heap_setCell _ _ _ _ hk
 have hI:∀ x,I x->(w.setCell ⟨hb,n,none⟩ V).heap[x]? = w.heap[x]?:=fun x hx=>far x (h.imm x hx).2.2.1
 exact {
  blk:=by simp only[List.length_set];exact(far b h.b_ne_hb).trans h.blk
  seen:=own_keep h.seen fun k hk=>by injection hk with hk;have hk:sb=k:=hk;subst hk;exact far _ (fun e=>h.apart e.symm)
  held:=by simp only[List.length_set];exact own_set h.held _
  late:=own_keep h.late fun k hk=>far k fun e=>h.hb_ne_late (e ▸ hk)
  ssec:=h.ssec.keep hI fun _ h=>h
  hsec:=(h.hsec.keep hI fun _ h=>h).set (hV.keep hI fun _ h=>h) hs n
  lsec:=h.lsec.keep hI fun _ h=>h
  lnum:=h.lnum,apart:=h.apart
  imm:=fun k hk=>by
   have hsz:(w.setCell ⟨hb,n,none⟩ V).heap.size=w.heap.size:=by simp[World.setCell]
   rw[hsz];exact h.imm k hk
  lens:=by simp only[List.length_set];exact h.lens
  lats:=h.lats
  left:=h.left }
theorem noLate(h:DkAt I w b hb sb hc sc lv hv sv lt d):DkAt I (w.setCell ⟨b,2,none⟩ (.slice none 0 0)) b hb sb hc sc (.slice none 0 0) hv sv [] { d with late:=[] }:=by
 have far:∀ k,k≠b->(w.setCell ⟨b,2,none⟩ (.slice none 0 0)).heap[k]? = w.heap[k]?:=fun k hk=>Below.heap_setCell _ _ _ _ hk
 have hI:∀ x,I x->(w.setCell ⟨b,2,none⟩ (.slice none 0 0)).heap[x]? = w.heap[x]?:=fun x hx=>far x (h.imm x hx).2.1
 exact {
  blk:=DS.set_blk h.blk 2 _
  seen:=own_keep h.seen fun k hk=>by injection hk with hk;have hk:sb=k:=hk;subst hk;exact far _ (fun e=>h.b_ne_sb e.symm)
  held:=own_keep h.held fun k hk=>by injection hk with hk;have hk:hb=k:=hk;subst hk;exact far _ (fun e=>h.b_ne_hb e.symm)
  late:=World.ownsRow_nil _ _ _ _
  ssec:=h.ssec.keep hI fun _ h=>h
  hsec:=h.hsec.keep hI fun _ h=>h
  lsec:=Secs.nil _ _
  lnum:=rfl,apart:=h.apart
  imm:=fun k hk=>by
   have hsz:(w.setCell ⟨b,2,none⟩ (.slice none 0 0)).heap.size=w.heap.size:=by simp[World.setCell]
   rw[hsz];obtain⟨h1,h2,h3,h4,_⟩:=h.imm k hk;exact⟨h1,h2,h3,h4,fun e=>by cases e⟩
  lens:=h.lens
  lats:=fun q hq=>by cases hq
  left:=h.left }
theorem cell_hb(h:DkAt I w b hb sb hc sc lv hv sv lt d)(n:Nat)(hn:n<d.held.length):∃ u,w.cell? ⟨hb,n,none⟩=some u:=by
 obtain⟨cur,hcur,h1,h2,_⟩:=row h.held;exact⟨cur[n]'(by omega),by rw[cell_of_row _ _ _ _ _ _ hcur];exact Array.getElem?_eq_getElem _⟩
theorem cell_sb(h:DkAt I w b hb sb hc sc lv hv sv lt d)(n:Nat)(hn:n<d.seen.length):∃ u,w.cell? ⟨sb,n,none⟩=some u:=by
 obtain⟨cur,hcur,h1,h2,_⟩:=row h.seen;exact⟨cur[n]'(by omega),by rw[cell_of_row _ _ _ _ _ _ hcur];exact Array.getElem?_eq_getElem _⟩
theorem late_get:∀ (lt:List (Nat × Value)) (k:Nat) (q:Nat × Value),lt[k]? = some q->(lateVs lt)[k*2]? = some (.int .i64 (q.1:Int))/\(lateVs lt)[k*2+1]? = some q.2
 | [],k,q,h=>by simp at h
 | p :: r,0,q,h=>by cases h;exact⟨rfl,rfl⟩
 | p :: r,k+1,q,h=>by
  have:=late_get r k q h;have e:lateVs (p :: r)=.int .i64 (p.1:Int) :: p.2 :: lateVs r:=rfl;rw[e,show(k+1)*2=k*2+1+1 from by omega];exact this
theorem lateAt(h:DkAt I w b hb sb hc sc lv hv sv lt d)(k:Nat)(hk:k<d.late.length):
  ∃ lb cap n v s,lv=.slice (some ⟨lb,0,none⟩) d.late.length cap/\lb<w.heap.size/\d.late[k]? = some (n,s)/\w.cell? ⟨lb,k*2,none⟩=some (.int .i64 (n:Int))/\w.cell? ⟨lb,k*2+1,none⟩=some v/\BytesOn I w v s/\s.length=64/\n<d.seen.length/\∃ c cap,v=.slice c 64 cap:=by
 have hll:lt.length=d.late.length:=by have:=congrArg List.length h.lnum;simpa using this
 obtain⟨la,lc,hlv⟩:=W3.row_slice h.late
 rcases h.late.2 with⟨_,h0⟩|⟨g,cap,cur,hv',_,hh,h3,_,h5,h6⟩
 ·omega
 ·obtain⟨q,hq⟩:∃ q,lt[k]? = some q:=⟨_,List.getElem?_eq_getElem (by omega)⟩
  obtain⟨p,hp⟩:∃ p,d.late[k]? = some p:=⟨_,List.getElem?_eq_getElem hk⟩
  have hnum:q.1=p.1:=by
   have:=congrArg (fun l=>l[k]?) h.lnum;simp only[List.getElem?_map,hq,hp,Option.map_some,Option.some.injEq] at this;exact this
  obtain⟨hB,hL⟩:=h.lsec.2 k q.2 p.2 (by rw[List.getElem?_map,hq];rfl) (by rw[List.getElem?_map,hp];rfl);have hcur:∀ j,j<2->cur[k*2+j]? = (lateVs lt)[k*2+j]?:=fun j hj=>by
   rw[<-h6,List.getElem?_take,if_pos (by omega)];simp
  have hrow:(lateVs lt)[k*2]? = some (.int .i64 (q.1:Int))/\(lateVs lt)[k*2+1]? = some q.2:=late_get lt k q hq;refine⟨g,cap,p.1,q.2,p.2,hv',(Array.getElem?_eq_some_iff.1 hh).1,by rw[hp],?_,?_,hB,hL,h.lats p (List.mem_of_getElem? hp),?_⟩
  ·rw[cell_of_row _ _ _ _ _ _ hh,show cur[k*2]? = (lateVs lt)[k*2]? from hcur 0 (by omega),<-hnum];exact hrow.1
  ·rw[cell_of_row _ _ _ _ _ _ hh,hcur 1 (by omega)];exact hrow.2
  ·obtain⟨a',cap',e,_,_⟩:=hB.get
   exact⟨a',cap',by rw[e,hL]⟩
end DkAt
theorem hold_snoc(h:List Sp.Str)(l:List (Nat × Sp.Str))(q:Nat × Sp.Str):Sp.Dk.hold h (l ++ [q])=(Sp.Dk.hold h l).set q.1 q.2:=by
 unfold Sp.Dk.hold;simp only[List.foldl_append,List.foldl_cons,List.foldl_nil]
theorem hold_len:∀ (l:List (Nat × Sp.Str)) (h:List Sp.Str),(Sp.Dk.hold h l).length=h.length
 | [],h=>rfl
 | q :: r,h=>by
  have:Sp.Dk.hold h (q :: r)=Sp.Dk.hold (h.set q.1 q.2) r:=rfl;rw[this,hold_len r,List.length_set]
theorem dsync_any{O:Nat->Prop}{w:World}{b:Nat}{d:Sp.Dk}(h:DkE O w b d)(hlate:d.late.length<1000000):
  Calls Tryz.prog 298 #[.pointer (some ⟨b,0,none⟩)] w fun e w'=>e=.returned (.tuple #[])/\DkStep O w b d.sync w':=by
 obtain⟨I,hb,sb,hc,sc,lv,hv,sv,lt,h,hO⟩:=h;have hL:=lost_any h;have HL:=hid hL;have hlen:=h.lens.1;have HO:=hid hO;clear h hL hO;go_enter Tryz.func298,Tryz.ntmps298;go_wp2_with fail;refine HL.out.mono ?_;rintro e w1 ⟨rfl,hch1,h1⟩;have hch1':Chg (DkAt.muts b hb sb lv) w w1:=hch1.mono fun x hx=>.inl hx
 have HCH1:=hid hch1'
 cases hdead:(d.dead || decide (d.left=0)) with
 | true =>
  have hd:d.sync=d.lost:=by unfold Sp.Dk.sync;rw[if_pos hdead]
  have H1:=hid h1;clear h1 hch1 hch1';go_wp2;refine bodyPost_ret (results_none rfl _ _ _) rfl ?_;refine⟨rfl,HCH1.out.mono fun k hk=>HO.out k (.inl hk),I,hb,sb,hc,sc,lv,hv,sv,lt,by rw[hd];exact H1.out,fun k hk=>.inl (HO.out k hk)⟩
 | false =>
  have hd:d.sync={ d.lost with held:=Sp.Dk.hold d.held d.late,late:=[] }:=by unfold Sp.Dk.sync;rw[hdead];rfl
  have h1':DkAt I w1 b hb sb hc sc lv hv sv lt { d.lost with held:=d.held }:=h1;have h10:=h1;clear h1 hch1 hch1';obtain⟨a0,a1,a2,a3,a4,az⟩:=h10.cells;have H1:=hid h1';have hlb:=h10.lt_b;have hlr:w1.ownsRow 0 154 2 lv d.late.length (lateVs lt):=h10.late;obtain⟨la,lc,rfl⟩:=W3.row_slice hlr;have a2':w1.cell? ⟨b,2,none⟩=some (.slice la d.late.length lc):=a2;clear h10 a2 h1' hlr;have HD:=hid hd;clear hd;go_wp2
  go_loopw [11] (fun i wr=>∃ (k:Nat) (hv':List Value),k<=d.late.length/\i=.int .i64 k/\DkAt I wr b hb sb hc sc (.slice la d.late.length lc) hv' sv lt { d.lost with held:=Sp.Dk.hold d.held (d.late.take k) }/\Chg (DkAt.muts b hb sb (.slice la d.late.length lc)) w wr) (fun i _=>d.late.length+1-(intOf i).toNat)
  case atStart=>exact⟨0,hv,Nat.zero_le _,rfl,H1.out,HCH1.out⟩
  case round =>
   obtain⟨k,hv',hk,rfl,hwr,hch⟩:=hrel;have hlbw:=hwr.lt_b;have hlhb:=hwr.lt_hb;obtain⟨q0,q1,q2,q3,q4,qz⟩:=hwr.cells;have HW:=hid hwr;have HCH:=hid hch
   by_cases hlt:k<d.late.length
   ·obtain⟨lb,cap,n,v,s,hlv,hlbs,hls,hc0,hc1,hvb,hvs,hn,vc,vcap,rfl⟩:=hwr.lateAt k hlt
    injection hlv with e1 e2 e3
    subst e1 e3;clear e2;have hls':d.late[k]? = some (n,s):=hls;have htk:d.late.take (k+1)=d.late.take k ++ [(n,s)]:=by
     rw[List.take_succ_eq_append_getElem hlt];rw[List.getElem?_eq_getElem hlt] at hls';injection hls' with hls'
     rw[hls']
    have hnh:n<(Sp.Dk.hold d.held (d.late.take k)).length:=by rw[hold_len,hlen];exact hn
    obtain⟨u,hu⟩:=hwr.cell_hb n hnh;have hfz:=hwr.frozen_hb n;have HTK:=hid htk;have HVB:=hid hvb;have HVS:=hid hvs;have hnI:(n:Int)<((Sp.Dk.hold d.held (d.late.take k)).length:Int):=by omega
    clear hwr hch hls hls' htk hvb hvs hn hnh;go_wp2;go_region;go_wp2;go_roundw
    case rel =>
     have h6:=HW.out.setHeld (n:=n) HVB.out HVS.out;refine⟨k+1,_,hlt,by go_num,by rw[HTK.out,hold_snoc];exact(h6.below ((Below.refl _ _).alloc (Nat.le_refl _) _)).drew,((HCH.out.setCell (p:=⟨hb,n,none⟩) (.inr (.inl rfl)) _).alloc _).drew⟩
    case measure=>simp[intOf];omega
   ·have hke:k=d.late.length:=by omega
    subst hke;clear hwr hch;go_wp2
    go_end0
    have h6:=HW.out.noLate;rw[List.take_length] at h6;refine⟨rfl,(HCH.out.setCell (p:=⟨b,2,none⟩) (.inl rfl) _).mono fun x hx=>HO.out x (.inl hx),I,hb,sb,hc,sc,_,hv',sv,[],by rw[HD.out];exact h6,fun x hx=>?_⟩
    rcases hx with(hx|hx|hx|hx)|hx
    ·exact .inl (HO.out x (.inl (.inl hx)))
    ·exact .inl (HO.out x (.inl (.inr (.inl hx))))
    ·exact .inl (HO.out x (.inl (.inr (.inr (.inl hx)))))
    ·cases hx
    ·exact .inl (HO.out x (.inr hx))
end
section
open Go.RowKit Go.Maps
namespace DK
theorem some_snoc(dead:Bool)(mask:Int):∀ (l:List (Nat × Sp.Str)) (i:Nat) (q:Nat × Sp.Str),Sp.Dk.some dead mask i (l ++ [q])=Sp.Dk.some dead mask i l ++ (if (!dead || Sp.Dk.bit mask (i+l.length))=true then [q] else [])
 | [],i,q=>by simp only[List.nil_append,Sp.Dk.some,List.length_nil,Nat.add_zero]
 | p :: r,i,q=>by
  rw[List.cons_append,Sp.Dk.some,Sp.Dk.some,some_snoc dead mask r (i+1) q,List.length_cons,show i+1+r.length=i+(r.length+1) from by omega]
  split <;> rfl
theorem keep7{w:World}{b hb sb k:Nat}{u v z:Value}(h:w.cell? ⟨b,0,none⟩=some u/\w.cell? ⟨b,1,none⟩=some v/\w.cell? ⟨hb,k,none⟩=some z/\w.cell? ⟨sb,k,none⟩=some (DS.cellD w ⟨sb,k,none⟩)/\w.frozen? ⟨sb,k,none⟩=false)(h1:sb≠b)(h2:sb≠hb)(V:Value):
  (w.setCell ⟨sb,k,none⟩ V).cell? ⟨b,0,none⟩=some u/\(w.setCell ⟨sb,k,none⟩ V).cell? ⟨b,1,none⟩=some v/\(w.setCell ⟨sb,k,none⟩ V).cell? ⟨hb,k,none⟩=some z/\(w.setCell ⟨sb,k,none⟩ V).cell? ⟨sb,k,none⟩=some (DS.cellD (w.setCell ⟨sb,k,none⟩ V) ⟨sb,k,none⟩)/\(w.setCell ⟨sb,k,none⟩ V).frozen? ⟨sb,k,none⟩=false:=
 ⟨(World.cell?_setCell_far _ ⟨sb,k,none⟩ ⟨b,0,none⟩ _ h1).trans h.1,(World.cell?_setCell_far _ ⟨sb,k,none⟩ ⟨b,1,none⟩ _ h1).trans h.2.1,(World.cell?_setCell_far _ ⟨sb,k,none⟩ ⟨hb,k,none⟩ _ h2).trans h.2.2.1,DS.cellD_of (World.cell?_setCell_same _ _ _ h.2.2.2.1),by rw[World.frozen?_setCell];exact h.2.2.2.2⟩
theorem set_mid{α:Type}(h s:List α)(k:Nat)(hl:h.length=s.length)(hk:k<h.length):(h.take k ++ s.drop k).set k h[k]=h.take (k+1) ++ s.drop (k+1):=by
 have h1:(h.take k).length=k:=by rw[List.length_take];omega
 rw[List.set_append_right _ _ (by omega),h1,Nat.sub_self,List.drop_eq_getElem_cons (by omega),List.set_cons_zero,List.take_succ_eq_append_getElem hk,List.append_assoc]
 rfl
theorem bit_eq(mask:Int)(k:Nat):(bits .and .i64 (mask / 2 ^ (k % 60)) 1 == 1)=Sp.Dk.bit mask k:=by
 unfold Sp.Dk.bit;generalize mask / 2 ^ (k % 60)=x
 show((IntKind.i64.wrap (((BitVec.ofInt 64 x &&& BitVec.ofInt 64 1).toNat:Nat):Int)) == 1)=_
 have e:(BitVec.ofInt 64 x &&& BitVec.ofInt 64 1).toNat=(x % 2).toNat:=by
  rw[BitVec.toNat_and,show(BitVec.ofInt 64 1).toNat=1 from rfl,Nat.and_one_is_mod,BitVec.toNat_ofInt];omega
 rw[e];have h2:(x % 2).toNat=0\/(x % 2).toNat=1:=by omega
 rcases h2 with h2|h2
 ·rw[h2]
  have:¬x % 2=1:=by omega
  simp only[this,decide_false]
  rfl
 ·rw[h2]
  have:x % 2=1:=by omega
  simp only[this,decide_true]
  rfl
end DK
theorem DkAt.secH{I:Nat->Prop}{w:World}{b hb sb hc sc:Nat}{lv:Value}{hv sv:List Value}{lt:List (Nat × Value)}{d:Sp.Dk}(h:DkAt I w b hb sb hc sc lv hv sv lt d)(n:Nat)(hn:n<d.held.length):
  ∃ v,w.cell? ⟨hb,n,none⟩=some v/\BytesOn I w v d.held[n]/\d.held[n].length=64:=by
 have hl:=h.hsec.1;obtain⟨cur,hcur,_,_,ht⟩:=DkAt.row h.held;have hv':hv[n]? = some (hv[n]'(by omega)):=List.getElem?_eq_getElem (by omega);have hs':d.held[n]? = some d.held[n]:=List.getElem?_eq_getElem hn;obtain⟨h1,h2⟩:=h.hsec.2 n _ _ hv' hs';refine⟨_,?_,h1,h2⟩;rw[cell_of_row _ _ _ _ _ _ hcur,<-hv',<-ht,List.getElem?_take,if_pos (by omega)];simp
theorem back_any{O:Nat->Prop}{w:World}{b:Nat}{d:Sp.Dk}(h:DkE O w b d)(mask:Int)(_hm1:-9223372036854775808<=mask)(_hm2:mask<=9223372036854775807)(hlate:d.late.length<1000000):
  Calls Tryz.prog 52 #[.pointer (some ⟨b,0,none⟩),.int .i64 mask] w fun e w'=>e=.returned (.tuple #[])/\DkStep O w b (d.back mask) w':=by
 obtain⟨I,hb,sb,hc,sc,lv,hv,sv,lt,h,hO⟩:=h;have hlen:=h.lens.1;have HO:=hid hO;have H:=hid h;obtain⟨a0,a1,a2,a3,a4,az⟩:=h.cells;have hlb:=h.lt_b;obtain⟨la,lc,rfl⟩:=W3.row_slice h.late;clear h hO;go_enter Tryz.func52,Tryz.ntmps52;go_wp2
 go_loopw [12] (fun i wr=>∃ (k:Nat) (hv':List Value),k<=d.late.length/\i=.int .i64 k/\DkAt I wr b hb sb hc sc (.slice la d.late.length lc) hv' sv lt { d with held:=Sp.Dk.hold d.held (Sp.Dk.some d.dead mask 0 (d.late.take k)) }/\Chg (DkAt.muts b hb sb (.slice la d.late.length lc)) w wr) (fun i _=>d.late.length+1-(intOf i).toNat)
 case atStart=>exact⟨0,hv,Nat.zero_le _,rfl,H.out,Chg.refl _ _⟩
 case round =>
  obtain⟨k,hv',hk,rfl,hwr,hch⟩:=hrel;have hlbw:=hwr.lt_b;have hlhb:=hwr.lt_hb;obtain⟨q0,q1,q2,q3,q4,qz⟩:=hwr.cells;have HW:=hid hwr;have HCH:=hid hch
  by_cases hlt:k<d.late.length
  ·obtain⟨lb,cap,n,v,s,hlv,hlbs,hls,hc0,hc1,hvb,hvs,hn,vc,vcap,rfl⟩:=hwr.lateAt k hlt
   injection hlv with e1 e2 e3
   subst e1 e3;clear e2;have hls':d.late[k]? = some (n,s):=hls;have htk:d.late.take (k+1)=d.late.take k ++ [(n,s)]:=by
    rw[List.take_succ_eq_append_getElem hlt];rw[List.getElem?_eq_getElem hlt] at hls';injection hls' with hls'
    rw[hls']
   have hlk:(d.late.take k).length=k:=by rw[List.length_take];omega
   have hsn:=DK.some_snoc d.dead mask (d.late.take k) 0 (n,s);rw[<-htk,hlk,Nat.zero_add] at hsn;have hnh:n<(Sp.Dk.hold d.held (Sp.Dk.some d.dead mask 0 (d.late.take k))).length:=by rw[hold_len,hlen];exact hn
   obtain⟨u,hu⟩:=hwr.cell_hb n hnh;have hfz:=hwr.frozen_hb n;have HSN:=hid hsn;have HVB:=hid hvb;have HVS:=hid hvs;have hnI:(n:Int)<((Sp.Dk.hold d.held (Sp.Dk.some d.dead mask 0 (d.late.take k))).length:Int):=by omega
   clear hwr hch hls hls' htk hvb hvs hn hnh hlk hsn;have hyes:(!d.dead || Sp.Dk.bit mask k)=true->DkAt I ((wr.setCell ⟨hb,n,none⟩ (.slice vc 64 vcap)).alloc (.cells #[.int .i64 (n:Int),.slice vc 64 vcap] 154)) b hb sb hc sc (.slice (some ⟨lb,0,none⟩) d.late.length lc) (hv'.set n (.slice vc 64 vcap)) sv lt { d with held:=Sp.Dk.hold d.held (Sp.Dk.some d.dead mask 0 (d.late.take (k+1))) }:=fun hc=>by
    rw[HSN.out,if_pos hc,hold_snoc];exact(HW.out.setHeld (n:=n) HVB.out HVS.out).below ((Below.refl _ _).alloc (Nat.le_refl _) _)
   have hno:(!d.dead || Sp.Dk.bit mask k)=false->DkAt I (wr.alloc (.cells #[.int .i64 (n:Int),.slice vc 64 vcap] 154)) b hb sb hc sc (.slice (some ⟨lb,0,none⟩) d.late.length lc) hv' sv lt { d with held:=Sp.Dk.hold d.held (Sp.Dk.some d.dead mask 0 (d.late.take (k+1))) }:=fun hc=>by
    rw[HSN.out,if_neg (by rw[hc];exact Bool.false_ne_true),List.append_nil];exact HW.out.below ((Below.refl _ _).alloc (Nat.le_refl _) _)
   have hch1:Chg (DkAt.muts b hb sb (.slice (some ⟨lb,0,none⟩) d.late.length lc)) w ((wr.setCell ⟨hb,n,none⟩ (.slice vc 64 vcap)).alloc (.cells #[.int .i64 (n:Int),.slice vc 64 vcap] 154)).drew:=((HCH.out.setCell (p:=⟨hb,n,none⟩) (.inr (.inl rfl)) _).alloc _).drew;have hch2:Chg (DkAt.muts b hb sb (.slice (some ⟨lb,0,none⟩) d.late.length lc)) w (wr.alloc (.cells #[.int .i64 (n:Int),.slice vc 64 vcap] 154)):=HCH.out.alloc _;have hbe:=DK.bit_eq mask k;have HYES:=hid hyes;have HNO:=hid hno;have HC1:=hid hch1;have HC2:=hid hch2;clear hyes hno hch1 hch2
   rcases Bool.eq_false_or_eq_true d.dead with hdd|hdd
   ·rw[hdd] at q4
    have HDD:=hid hdd;clear hdd
    rcases Bool.eq_false_or_eq_true (Sp.Dk.bit mask k) with hbb|hbb
    ·rw[hbb] at hbe
     go_wp2;go_region;go_wp2;go_roundw
     case rel=>exact⟨k+1,_,hlt,by go_num,(HYES.out (by rw[HDD.out,hbb];rfl)).drew,HC1.out⟩
     case measure=>simp[intOf];omega
    ·rw[hbb] at hbe
     go_wp2
     case roundEnd=>exact⟨⟨k+1,_,hlt,by go_num,HNO.out (by rw[HDD.out,hbb];rfl),HC2.out⟩,by simp[intOf];omega⟩
   ·rw[hdd] at q4
    have HDD:=hid hdd;clear hdd;go_wp2;go_region;go_wp2;go_roundw
    case rel=>exact⟨k+1,_,hlt,by go_num,(HYES.out (by rw[HDD.out];rfl)).drew,HC1.out⟩
    case measure=>simp[intOf];omega
  ·have hke:k=d.late.length:=by omega
   subst hke;clear hwr hch;have hA:=HW.out.noLate;rw[List.take_length] at hA;have hbk:∃ X:List Sp.Str,X=Sp.Dk.hold d.held (Sp.Dk.some d.dead mask 0 d.late):=⟨_,rfl⟩
   obtain⟨X,hX⟩:=hbk;have hXl:X.length=d.held.length:=by rw[hX,hold_len]
   have hQl:(Sp.Dk.hold d.held (Sp.Dk.some d.dead mask 0 (d.late.take d.late.length))).length=X.length:=by rw[List.take_length,hX]
   have hQl2:(Sp.Dk.hold d.held (Sp.Dk.some d.dead mask 0 d.late)).length=X.length:=by rw[hX]
   have hB:DkAt I (((wr.setCell ⟨b,2,none⟩ (.slice none 0 0)).setCell ⟨b,3,none⟩ (.int .i64 (-1))).setCell ⟨b,4,none⟩ (.bool false)) b hb sb hc sc (.slice none 0 0) hv' sv [] { held:=X,seen:=d.seen,late:=[],left:=-1,dead:=false }:=by
    rw[<-hX] at hA;have h1:=hA.flags (l:=-1) (dead:=d.dead) (DS.set_blk hA.blk 3 _) (fun k hk _=>Below.heap_setCell _ _ _ _ hk) (by simp[World.setCell]) ⟨by decide,by decide⟩;exact h1.flags (l:=-1) (dead:=false) (DS.set_blk h1.blk 4 _) (fun k hk _=>Below.heap_setCell _ _ _ _ hk) (by simp[World.setCell]) ⟨by decide,by decide⟩
   have hC:=((HCH.out.setCell (p:=⟨b,2,none⟩) (.inl rfl) (.slice none 0 0)).setCell (p:=⟨b,3,none⟩) (.inl rfl) (.int .i64 (-1))).setCell (p:=⟨b,4,none⟩) (.inl rfl) (.bool false);have HB:=hid hB;have HC:=hid hC;have HX:=hid hX;have HXL:=hid hXl;have hXb:X.length<=256:=by have:=H.out.lens;omega
   clear hA hB hC hX hXl;go_wp2;generalize (((wr.setCell ⟨b,2,none⟩ (.slice none 0 0)).setCell ⟨b,3,none⟩ (.int .i64 (-1))).setCell ⟨b,4,none⟩ (.bool false))=w2 at *;have hbl2:=HB.out.lt_b;obtain⟨p0,p1,p2,p3,p4,pz⟩:=HB.out.cells;go_wp2
   go_loopw [54] (fun i wx=>∃ (k:Nat) (I':Nat->Prop) (sv':List Value),k<=X.length/\i=.int .i64 k/\DkAt I' wx b hb sb hc sc (.slice none 0 0) hv' sv' [] { held:=X,seen:=X.take k ++ d.seen.drop k,late:=[],left:=-1,dead:=false }/\(∀ x,I' x->I x\/w.heap.size<=x)/\Chg (DkAt.muts b hb sb (.slice la d.late.length lc)) w wx) (fun i _=>X.length+1-(intOf i).toNat)
   case atStart=>exact⟨0,I,sv,Nat.zero_le _,rfl,by simpa using HB.out,fun x hx=>.inl hx,HC.out⟩
   case round =>
    obtain⟨k2,I',sv',hk2,rfl,hwx,hI',hch⟩:=hrel;have HWX:=hid hwx;have HI':=hid hI';have HCX:=hid hch
    by_cases hlt:k2<X.length
    ·obtain⟨v,hvc,hvb,hvl⟩:=hwx.secH k2 hlt
     have hvb':BytesOn I' wr v X[k2]:=hvb;have hvl':X[k2].length=64:=hvl;obtain⟨va,vcap,hve,_,_⟩:=hvb'.get;rw[hvl'] at hve;subst hve;obtain⟨bb,off,rfl,hbI,hsrc⟩:=hvb'.src (by omega);have hbbl:=(hwx.imm bb hbI).1;obtain⟨r0,r1,r2,r3,r4,rz⟩:=hwx.cells;have r0':wr.cell? ⟨b,0,none⟩=some (.slice (some ⟨hb,0,none⟩) X.length hc):=r0;have hsl:(X.take k2 ++ d.seen.drop k2).length=X.length:=by rw[List.length_append,List.length_take,List.length_drop];have:=HXL.out;omega
     have r1':wr.cell? ⟨b,1,none⟩=some (.slice (some ⟨sb,0,none⟩) X.length sc):=by rw[<-hsl];exact r1
     obtain⟨u,hu⟩:=hwx.cell_sb k2 (by simp only;omega);have hfz:=hwx.frozen_sb k2;have hlb2:=hwx.lt_b;have hlh2:=hwx.lt_hb;have hls2:=hwx.lt_sb;have hne:sb≠b/\sb≠hb:=⟨fun e=>hwx.b_ne_sb e.symm,fun e=>hwx.apart e.symm⟩
     have HNE:=hid hne;have hkI:(k2:Int)<(X.length:Int):=by omega
     obtain⟨i0,hi0,hz0,hz1,hz2⟩:=info_parts info5;have HSRC:=hid hsrc;have HVL:=hid hvl';have HI0:=hid hi0;have HZ0:=hid hz0;have HZ1:=hid hz1;have HZ2:=hid hz2;clear r0 r1 r2 r3 r4 hwx hvb hvb' hvl hvl' hsrc hI' hch hi0 hz0 hz1 hz2 hsl hne;go_wp2;have hsl2:(bvs X[k2]).length=64*1:=by rw[bvs_len,HVL.out]
     have hsr2:∀ j u,(bvs X[k2])[j]? = some u->wr.cell? ((⟨bb,off,none⟩:Addr).add j)=some u:=fun j u hj=>by rw[DK.addr_add];exact HSRC.out j u hj
     have HSL2:=hid hsl2;have HSR2:=hid hsr2;clear hsl2 hsr2;have hs0:wr.drew.cell? ⟨b,0,none⟩=some (.slice (some ⟨hb,0,none⟩) X.length hc)/\wr.drew.cell? ⟨b,1,none⟩=some (.slice (some ⟨sb,0,none⟩) X.length sc)/\wr.drew.cell? ⟨hb,k2,none⟩=some (.slice (some ⟨bb,off,none⟩) 64 vcap)/\wr.drew.cell? ⟨sb,k2,none⟩=some (DS.cellD wr.drew ⟨sb,k2,none⟩)/\wr.drew.frozen? ⟨sb,k2,none⟩=false:=⟨r0',r1',hvc,DS.cellD_of hu,hfz⟩
     have HS0:=hid hs0;clear hs0
     go_region_held3 (fun x=>x.cell? ⟨b,0,none⟩=some (.slice (some ⟨hb,0,none⟩) X.length hc)/\x.cell? ⟨b,1,none⟩=some (.slice (some ⟨sb,0,none⟩) X.length sc)/\x.cell? ⟨hb,k2,none⟩=some (.slice (some ⟨bb,off,none⟩) 64 vcap)/\x.cell? ⟨sb,k2,none⟩=some (DS.cellD x ⟨sb,k2,none⟩)/\x.frozen? ⟨sb,k2,none⟩=false)
      (first|(with_reducible exact HS0.out)|(with_reducible exact HS6.out)|(with_reducible exact HS7.out _))
      (first
      | (
        refine step_append_lies _ rfl _ _ 136 rfl wr.heap.size 5 i0 (.int .u8 0) 1 1 Tryz.underlying136 HI0.out HZ0.out HZ1.out HZ2.out rfl (by decide) (.slice none 0 0) 0 [] rfl (World.ownsRow_nil _ _ _ _) ⟨bb,off,none⟩ 64 vcap (bvs X[k2]) rfl HSL2.out HSR2.out (DK.one_cell _) (by decide) (by decide) (by decide) (Nat.le_refl _) _ rfl ?_;intro g6 cap6 w6 hown6 hg6 hloc6 hlt6;have hb6:Below wr.heap.size wr w6:=⟨hg6.os,hg6.tape,hg6.output,hg6.size,fun k hk=>hg6.block k hk (by intro e;cases e)⟩
        have HS6:=hid (And.intro ((hb6.cell (p:=⟨b,0,none⟩) hlb2).trans r0') (And.intro ((hb6.cell (p:=⟨b,1,none⟩) hlb2).trans r1') (And.intro ((hb6.cell (p:=⟨hb,k2,none⟩) hlh2).trans hvc) (And.intro (DS.cellD_of ((hb6.cell (p:=⟨sb,k2,none⟩) hls2).trans hu)) ((hb6.frozen (p:=⟨sb,k2,none⟩) hls2).trans hfz)))));have hs7:=fun V=>DK.keep7 HS6.out HNE.out.1 HNE.out.2 V
        have HS7:=hid hs7;have HLOC6:=hid hloc6;have HOWN0:=hid hown6;have HLT6:=hid hlt6;have HB6:=hid hb6;clear hown6 hg6 hloc6 hlt6 hb6 hs7))
     go_wp2;go_roundw
     case rel =>
      have hge6:g6=wr.heap.size:=HLOC6.out.resolve_left (by intro e;cases e);have HGE6:=hid hge6;have hown7:w6.ownsRow wr.heap.size 5 1 (.slice (some ⟨g6,0,none⟩) 64 cap6) X[k2].length (bvs X[k2]):=by rw[HVL.out];simpa using HOWN0.out
      have HOWN6:=hid hown7;have hV:=(BytesOn.of_row HOWN6.out).mono (S':=(·=g6)) fun x hx=>by
       have:=hx.2.2;injection this with this
       exact this.symm
      have h6:=(HWX.out.keep (fun k hk=>HB6.out.block k (by
       rcases hk with(rfl|rfl|rfl|hk)|hk
       ·exact hlb2
       ·exact hlh2
       ·exact hls2
       ·cases hk
       ·exact(HWX.out.imm k hk).1)) HB6.out.size).setSeen (n:=k2) hV HVL.out ⟨HLT6.out,by have:=HGE6.out;omega,by have:=HGE6.out;omega,by have:=HGE6.out;omega,fun e=>by cases e⟩
      refine⟨k2+1,_,_,hlt,by go_num,by have:=DK.set_mid X d.seen k2 (by have:=HXL.out;omega) hlt;rw[<-this];exact h6,fun x hx=>?_,(HCX.out.trans ⟨HB6.out.os,HB6.out.tape,HB6.out.output,HB6.out.size,fun k hk _=>HB6.out.block k hk⟩).setCell (p:=⟨sb,k2,none⟩) (.inr (.inr (.inl rfl))) _⟩
      rcases hx with hx|hx
      ·exact HI'.out x hx
      ·have:=HGE6.out;have:=HCX.out.size;exact .inr (by omega)
     case measure=>simp[intOf];omega
    ·have hke2:k2=X.length:=by omega
     subst hke2;clear hwx hI' hch;go_wp2
     go_end0
     have h6:=HWX.out;rw[List.take_length,List.drop_eq_nil_of_le (by have:=HXL.out;omega),List.append_nil] at h6;refine⟨rfl,HCX.out.mono fun x hx=>HO.out x (.inl hx),I',hb,sb,hc,sc,_,hv',sv',[],by unfold Sp.Dk.back;rw[<-HX.out];exact h6,fun x hx=>?_⟩
     rcases hx with(hx|hx|hx|hx)|hx
     ·exact .inl (HO.out x (.inl (.inl hx)))
     ·exact .inl (HO.out x (.inl (.inr (.inl hx))))
     ·exact .inl (HO.out x (.inl (.inr (.inr (.inl hx)))))
     ·cases hx
     ·rcases HI'.out x hx with hx|hx
      ·exact .inl (HO.out x (.inr hx))
      ·exact .inr hx
end
end Go.Proofs.YtfphcecjhdkcoaaGreatDoor

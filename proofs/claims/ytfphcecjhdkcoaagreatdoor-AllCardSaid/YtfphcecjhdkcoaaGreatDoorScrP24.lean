/-
The walk of the statement's changes: a removal.
-/
import Derived.Test.YtfphcecjhdkcoaaGreatDoorScrP19
import Derived.Test.YtfphcecjhdkcoaaGreatDoorScrP22
import Derived.Test.YtfphcecjhdkcoaaGreatDoorScrP23
import Ieee.Arith
import Derived.Lib.Strings
import Derived.Laws.FloatArith
set_option maxRecDepth 100000
set_option maxHeartbeats 8000000
namespace Go.Proofs.YtfphcecjhdkcoaaGreatDoor
open Go.Lib (hid)
section
namespace V16
open Ieee
theorem read_rung(A:Nat)(k:Nat)(h1:4503599627370496<=A)(h2:A<9007199254740992)(hk:k<=2045):double.read (k*4503599627370496+A)=.number false A (-1074+(k:Int)):=by
 have e1:double.signWeight=9223372036854775808:=by decide +kernel
 have e2:double.binade=4503599627370496:=by decide +kernel
 have e3:double.infRung=9218868437227405312:=by decide +kernel
 have e4:double.leastPlace=-1074:=by decide +kernel
 unfold Format.read;simp only[e1,e2,e3,e4];have q1:(k*4503599627370496+A) / 9223372036854775808=0:=by omega
 have q2:(k*4503599627370496+A) % 9223372036854775808=k*4503599627370496+A:=by omega
 have q3:(k*4503599627370496+A) % 4503599627370496=A-4503599627370496:=by omega
 have q4:(k*4503599627370496+A) / 4503599627370496=k+1:=by omega
 rw[q1,q2,q3,q4,if_neg (by omega),if_pos (by omega)];have e5:4503599627370496+(A-4503599627370496)=A:=by omega
 have e6:(-1074:Int)+((k+1-1:Nat):Int)=-1074+(k:Int):=by omega
 rw[e5,e6]
 rfl
theorem cut_zero(x:Nat):Toward.even.cut false x 0=x:=by
 unfold Toward.cut;have:(1 <<< min 0 (x.log2+2))=1:=by rw[Nat.zero_min];rfl
 simp only[this,Nat.div_one,Nat.mod_one]
 rfl
theorem log2_bounds{n:Nat}(h:n≠0):2 ^ n.log2<=n/\n<2 ^ (n.log2+1):=⟨Nat.log2_self_le h,Nat.lt_log2_self⟩
theorem log2_eq{n k:Nat}(h1:2 ^ k<=n)(h2:n<2 ^ (k+1)):n.log2=k:=by
 have h0:n≠0:=by have:=Nat.two_pow_pos k;omega
 have a:=(Nat.le_log2 h0).2 h1;have b:=(Nat.log2_lt h0).2 h2;omega
theorem small(n:Nat)(h0:n≠0)(h:n<8192):∃ A l,n.log2=l/\l<=12/\A=n*2 ^ (52-l)/\4503599627370496<=A/\A<9007199254740992/\double.read (double.nearest false n 0)=.number false A ((l:Int)-52):=by
 obtain⟨b1,b2⟩:=log2_bounds h0;have hl:n.log2<=12:=by
  have:=(Nat.log2_lt h0).2 (show n<2 ^ 13 from h);omega
 generalize hle:n.log2=l at b1 b2 hl;have hp:(2:Nat) ^ 52=2 ^ l*2 ^ (52-l):=by rw[<-Nat.pow_add];congr 1;omega
 have hpos:=Nat.two_pow_pos (52-l);have hA1:4503599627370496<=n*2 ^ (52-l):=by
  have h4:2 ^ l*2 ^ (52-l)<=n*2 ^ (52-l):=Nat.mul_le_mul_right _ b1;rw[<-hp] at h4;exact h4
 have hA2:n*2 ^ (52-l)<9007199254740992:=by
  have h4:n*2 ^ (52-l)<2 ^ (l+1)*2 ^ (52-l):=(Nat.mul_lt_mul_right hpos).2 b2;rw[Nat.pow_succ,Nat.mul_assoc,Nat.mul_comm 2,<-Nat.mul_assoc,<-hp] at h4;exact h4
 refine⟨_,l,rfl,hl,rfl,hA1,hA2,?_⟩;have e2:double.binade=4503599627370496:=by decide +kernel
 have e3:double.infRung=9218868437227405312:=by decide +kernel
 have e4:double.leastPlace=-1074:=by decide +kernel
 have e5:double.fractionBits=52:=rfl;unfold Format.nearest;rw[if_neg h0];simp only[e2,e3,e4,e5,hle];have m1:max ((0:Int)+(l:Nat)-(52:Nat)) (-1074)=(l:Int)-52:=by omega
 rw[m1];have m2:((0:Int)-((l:Int)-52)).toNat=52-l:=by omega
 have m3:(((l:Int)-52)-0).toNat=0:=by omega
 have m4:(((l:Int)-52)-(-1074)).toNat=1022+l:=by omega
 rw[m2,m3,m4,cut_zero,Nat.shiftLeft_eq];unfold Format.word;rw[if_neg (by decide),Nat.min_eq_left (by omega),read_rung _ _ hA1 hA2 (by omega)]
 congr 1
 omega
theorem nearest_le(q:Nat)(p:Int)(hp1:-70<=p)(L:Nat)(hL:L=54\/L=55)(h1:2 ^ L<=q)(h2:q<2 ^ (L+1))(hv:p+L<=-1\/(q=2 ^ L/\p+L=0)):
  ∃ M t,double.read (double.nearest false q p)=.number false M t/\M<9007199254740992/\(t<=-53\/(t=-52/\M=4503599627370496)):=by
 have h0:q≠0:=by have:=Nat.two_pow_pos L;omega
 have hlog:=log2_eq h1 h2;have e2:double.binade=4503599627370496:=by decide +kernel
 have e3:double.infRung=9218868437227405312:=by decide +kernel
 have e4:double.leastPlace=-1074:=by decide +kernel
 have e5:double.fractionBits=52:=rfl;unfold Format.nearest;rw[if_neg h0];simp only[e2,e3,e4,e5,hlog];have m1:max (p+(L:Nat)-(52:Nat)) (-1074)=p+L-52:=by omega
 rw[m1];have m2:(p-(p+(L:Int)-52)).toNat=0:=by omega
 have m3:((p+(L:Int)-52)-p).toNat=L-52:=by omega
 rw[m2,m3,Nat.shiftLeft_zero];obtain⟨k,hk⟩:∃ k:Nat,(k:Int)=p+L-52+1074:=⟨(p+L-52+1074).toNat,by omega⟩
 have m4:((p+(L:Int)-52)-(-1074)).toNat=k:=by omega
 rw[m4];obtain⟨kept,hkept⟩:∃ kept,kept=Toward.even.cut false q (L-52):=⟨_,rfl⟩
 have hb:4503599627370496<=kept/\kept<=9007199254740992/\(q=2 ^ L->kept=4503599627370496):=by
  rw[hkept];unfold Toward.cut;simp only[hlog]
  rcases hL with rfl|rfl
  ·have g:(1 <<< min (54-52) (54+2):Nat)=4:=by decide
   rw[g];generalize hmo:(decide (4<2*(q % 4)) || (4 == 2*(q % 4) && q / 4 % 2 == 1))=mo;have hm:mo.toNat<=1:=by cases mo <;> decide
   have hm2:q % 4=0->mo.toNat=0:=fun e=>by rw[<-hmo,e];rfl
   have p1:(2:Nat) ^ 54=18014398509481984:=by decide
   have p2:(2:Nat) ^ (54+1)=36028797018963968:=by decide
   rw[p1] at h1;rw[p2] at h2;rw[p1];refine⟨by omega,by omega,fun e=>?_⟩;have:=hm2 (by omega);omega
  ·have g:(1 <<< min (55-52) (55+2):Nat)=8:=by decide
   rw[g];generalize hmo:(decide (8<2*(q % 8)) || (8 == 2*(q % 8) && q / 8 % 2 == 1))=mo;have hm:mo.toNat<=1:=by cases mo <;> decide
   have hm2:q % 8=0->mo.toNat=0:=fun e=>by rw[<-hmo,e];rfl
   have p1:(2:Nat) ^ 55=36028797018963968:=by decide
   have p2:(2:Nat) ^ (55+1)=72057594037927936:=by decide
   rw[p1] at h1;rw[p2] at h2;rw[p1];refine⟨by omega,by omega,fun e=>?_⟩;have:=hm2 (by omega);omega
 rw[<-hkept];clear hkept;obtain⟨b1,b2,b3⟩:=hb;unfold Format.word;rw[if_neg (by decide),Nat.min_eq_left (by omega)]
 by_cases hlt:kept<9007199254740992
 ·rw[read_rung _ _ b1 hlt (by omega)]
  refine⟨kept,_,rfl,hlt,?_⟩
  rcases hv with hv|⟨hq,hv⟩
  ·left;omega
  ·right;exact⟨by omega,b3 hq⟩
 ·have e:k*4503599627370496+kept=(k+1)*4503599627370496+4503599627370496:=by omega
  rw[e,read_rung _ _ (Nat.le_refl _) (by decide) (by omega)];refine⟨4503599627370496,_,rfl,by decide,?_⟩
  rcases hv with hv|⟨hq,hv⟩
  ·by_cases h5:(-1074+((k+1:Nat):Int))<=-53
   ·exact .inl h5
   ·right;exact⟨by omega,rfl⟩
  ·have:=b3 hq;omega
structure Unit(b:Nat):Prop where
 self:double.order b b=some .eq
 one:double.order b 4607182418800017408≠some .gt
 zero:double.order b 0≠some .lt
theorem unit_of{b M:Nat}{t:Int}(h:double.read b=.number false M t)(hM:M<9007199254740992)(ht:t<=-53\/(t=-52/\M=4503599627370496)):Unit b:=by
 have r1:double.read 4607182418800017408=.number false 4503599627370496 (-52):=by decide +kernel
 have r0:double.read 0=.number false 0 (-1074):=by decide +kernel
 refine⟨?_,?_,?_⟩
 ·unfold Format.order
  rw[h]
  show some (compare _ _)=_
  rw[Int.compare_eq_eq.2 rfl]
 ·unfold Format.order
  rw[h,r1];simp only[Datum.order,signed,Bool.false_eq_true,if_false];intro he;injection he with he
  rw[Int.compare_eq_gt] at he
  rcases ht with ht|⟨rfl,rfl⟩
  ·have e1:(t-min t (-52)).toNat=0:=by omega
   obtain⟨d,hd⟩:∃ d:Nat,d=(-52-min t (-52)).toNat:=⟨_,rfl⟩
   have hd1:1<=d:=by omega
   rw[e1,<-hd,Nat.shiftLeft_zero,Nat.shiftLeft_eq] at he;have:2 ^ 1<=2 ^ d:=Nat.pow_le_pow_right (by decide) hd1;have h3:4503599627370496*2 ^ 1<=4503599627370496*2 ^ d:=Nat.mul_le_mul_left _ this;omega
  ·simp at he
 ·unfold Format.order
  rw[h,r0];simp only[Datum.order,signed,Bool.false_eq_true,if_false];intro he;injection he with he
  rw[Int.compare_eq_lt,Nat.zero_shiftLeft] at he;exact absurd he (Int.not_lt.2 (Int.natCast_nonneg _))
theorem fill(n r:Nat)(h:n<=r)(h0:0<r)(h2:r<8192):∃ b,double.div (double.nearest false n 0) (double.nearest false r 0)=some b/\Unit b:=by
 obtain⟨B,lr,hlr,hlr2,hB,B1,B2,hrB⟩:=small r (by omega) h2;have e5:double.fractionBits=52:=rfl;have logB:B.log2=52:=log2_eq (by exact B1) (by exact B2)
 by_cases hn:n=0
 ·subst hn
  have r0:double.read (double.nearest false 0 0)=.number false 0 (-1074):=by decide +kernel
  unfold Format.div;rw[r0,hrB];simp only[Datum.quotient,if_neg (show ¬B=0 by omega),Option.map_some];refine⟨_,rfl,?_⟩;have e:(double.write (.number (false ^^ false) (2*(0 <<< (double.fractionBits+2+B.log2-Nat.log2 0) / B)+(0 <<< (double.fractionBits+2+B.log2-Nat.log2 0) % B != 0).toNat) (-1074-((lr:Int)-52)-((double.fractionBits+2+B.log2-Nat.log2 0:Nat):Int)-1)))=0:=by
   rw[Nat.zero_shiftLeft,Nat.zero_div,Nat.zero_mod]
   show double.nearest false 0 _=0
   unfold Format.nearest;rw[if_pos rfl];decide +kernel
  rw[e];exact unit_of (M:=0) (t:=-1074) (by decide +kernel) (by decide) (.inl (by decide))
 ·obtain⟨A,ln,hln,hln2,hA,A1,A2,hnA⟩:=small n hn (by omega)
  have logA:A.log2=52:=log2_eq (by exact A1) (by exact A2);have hle:ln<=lr:=by
   rw[<-hln,<-hlr];exact(Nat.le_log2 (by omega)).2 (Nat.le_trans (Nat.log2_self_le hn) h)
  unfold Format.div;rw[hnA,hrB];simp only[Datum.quotient,if_neg (show ¬B=0 by omega),Option.map_some,e5,logA,logB];refine⟨_,rfl,?_⟩;have sh:A <<< (52+2+52-52)=A*18014398509481984:=by rw[Nat.shiftLeft_eq]
  rw[sh];obtain⟨Q,hQ⟩:∃ Q,Q=A*18014398509481984 / B:=⟨_,rfl⟩
  obtain⟨R,hR⟩:∃ R,R=A*18014398509481984 % B:=⟨_,rfl⟩
  have hdm:=Nat.div_add_mod (A*18014398509481984) B;have hlt:=Nat.mod_lt (A*18014398509481984) (show 0<B by omega);rw[<-hQ,<-hR] at hdm ⊢;rw[<-hR] at hlt;obtain⟨s,hs⟩:∃ s,s=(R != 0).toNat:=⟨_,rfl⟩
  have hs1:s<=1:=by rw[hs];cases (R != 0) <;> decide
  have hs0:R=0->s=0:=fun e=>by rw[hs,e];rfl
  rw[<-hs];have Q1:9007199254740992<=Q:=by
   rw[hQ,Nat.le_div_iff_mul_le (by omega)];omega
  have key:(ln<lr/\Q<36028797018963968)\/(ln=lr/\(Q<18014398509481984\/(Q=18014398509481984/\R=0))):=by
   rcases Nat.lt_or_ge ln lr with hlt2|hge
   ·left
    refine⟨hlt2,?_⟩;rw[hQ,Nat.div_lt_iff_lt_mul (by omega)];omega
   ·obtain rfl:ln=lr:=by omega
    right;refine⟨rfl,?_⟩;have hAB:A<=B:=by rw[hA,hB];exact Nat.mul_le_mul_right _ h
    rcases Nat.lt_or_ge A B with h3|h3
    ·left
     rw[hQ,Nat.div_lt_iff_lt_mul (by omega)];omega
    ·obtain rfl:A=B:=by omega
     right;refine⟨by rw[hQ,Nat.mul_div_cancel_left _ (by omega)],by rw[hR,Nat.mul_mod_right]⟩
  show Unit (double.nearest false (2*Q+s) ((ln:Int)-52-((lr:Int)-52)-((52+2+52-52:Nat):Int)-1))
  have hp:((ln:Int)-52-((lr:Int)-52)-((52+2+52-52:Nat):Int)-1)=(ln:Int)-lr-55:=by omega
  rw[hp]
  rcases Nat.lt_or_ge Q 18014398509481984 with hq|hq
  ·obtain⟨M,t,hr,hM,ht⟩:=nearest_le (2*Q+s) ((ln:Int)-lr-55) (by omega) 54 (.inl rfl) (by show 18014398509481984<=_;omega) (by show _<36028797018963968;omega) (.inl (by omega))
   exact unit_of hr hM ht
  ·obtain⟨M,t,hr,hM,ht⟩:=nearest_le (2*Q+s) ((ln:Int)-lr-55) (by omega) 55 (.inr rfl) (by show 36028797018963968<=_;omega) (by
    show _<72057594037927936
    rcases key with⟨_,k2⟩|⟨_,k2⟩
    ·omega
    ·rcases k2 with k2|⟨k2,k3⟩
     ·omega
     ·have:=hs0 k3;omega) (by
    rcases key with⟨k1,k2⟩|⟨k1,k2⟩
    ·left;omega
    ·right
     rcases k2 with k2|⟨k2,k3⟩
     ·omega
     ·have:=hs0 k3
      exact⟨by show _=36028797018963968;omega,by omega⟩)
   exact unit_of hr hM ht
end V16
end
section
open Go.RowKit Go.Maps
theorem zero9(w:World):(zeroValue 9).run Tryz.prog w=.ok (.string ⟨#[]⟩) w:=by kernel_rfl
namespace KW
theorem own_has{L:List Sp.Pk}(h:Sp.Ok L)(x:Sp.Str):hasKV (ownKV L) x=!(Sp.owner L x).isEmpty/\getKV (ownKV L) x (sv [])=sv (Sp.owner L x):=by
 by_cases hx:∃ p∈L,x∈p.files.map (·.path)
 ·obtain⟨p,hp,hx⟩:=hx
  have ho:=V15.owner_of h hp hx;obtain⟨f,hf0,rfl⟩:=List.mem_map.1 hx;have hm:(f.path,sv p.name)∈ownKV L:=List.mem_flatMap.2 ⟨p,hp,List.mem_map.2 ⟨f,hf0,rfl⟩⟩;have ha:(ownKV L).Pairwise fun p q=>p.1≠q.1:=by
   have hn:=V9.paths_nodup h;rw[<-ST.own_keys] at hn;exact(List.pairwise_map.1 hn)
  have hne:=V1.name_ne (h.set.good p hp).wf.name;refine⟨?_,?_⟩
  ·rw[ho,MP.has_iff.2 ⟨_,hm,rfl⟩]
   cases hn:p.name with
   | nil=>exact absurd hn hne
   | cons a r=>rfl
  ·rw[ho];exact MP.get_mem ha hm _
 ·have hx':∀ p∈L,x ∉ p.files.map (·.path):=fun p hp hm=>hx ⟨p,hp,hm⟩
  have ho:=V15.owner_none hx';have hh:hasKV (ownKV L) x=false:=by
   rw[<-Bool.not_eq_true,MP.has_iff];rintro ⟨q,hq,he⟩;obtain⟨p,hp,hf⟩:=List.mem_flatMap.1 hq;obtain⟨f,hf2,rfl⟩:=List.mem_map.1 hf;exact hx' p hp (List.mem_map.2 ⟨f,hf2,he⟩)
  rw[ho,hh];exact⟨rfl,MP.get_none hh _⟩
end KW
theorem storeOwner_any{w:World}{s D last ob:Nat}{mv:Value}{kv:KV}(hs:StBlk w s D last mv (.map (some ob)))(hm:MapAt w ob kv)(x:Sp.Str)(hx:x.length<=4611686018427387904):
  Calls Tryz.prog 83 #[.pointer (some ⟨s,0,none⟩),.string ⟨x.toArray⟩] w fun e w'=>e=.returned (.tuple #[getKV kv x (sv []),.bool (hasKV kv x)])/\w'=w:=by
 obtain⟨_,_,_,c3,_⟩:=hs.cells;have hlt:=hs.lt;have hlk:=hm.look_ok Tryz.underlying148 zero9 x (by unfold maxLen;omega);obtain⟨v,hv⟩:∃ v,v=getKV kv x (sv []):=⟨_,rfl⟩
 obtain⟨b,hb⟩:∃ b,b=hasKV kv x:=⟨_,rfl⟩
 rw[show getKV kv x (Value.string ⟨#[]⟩)=v from hv.symm,<-hb] at hlk;rw[<-hv,<-hb];clear hs hm hv hb;go_enter Tryz.func83,Tryz.ntmps83;go_wp2
 go_ret2
 exact⟨rfl,rfl⟩
theorem sesOwner_any{O:Nat->Prop}{w:World}{x:Nat}{st:Sp.St}(h:Ses O w x st)(hok:Sp.Ok st.L)(p:Sp.Str)(hp:p.length<=4611686018427387904):
  Calls Tryz.prog 56 #[.pointer (some ⟨x,0,none⟩),.string ⟨p.toArray⟩] w fun e w'=>e=.returned (.tuple #[sv (Sp.owner st.L p),.bool (!(Sp.owner st.L p).isEmpty)])/\w'=w:=by
 obtain⟨D,s,O1,h1,⟨mb,ob,OD,S,L,s1,s2,s3,s4,s5,s6,s7,s8⟩,h3,h4⟩:=h;obtain⟨_,c1⟩:=Ses.cells h1;obtain⟨o1,o2⟩:=KW.own_has hok p;rw[<-s5] at o1 o2;have how:=storeOwner_any s1 s4 p hp;rw[o1,o2,s5] at how;have hxl:=(Array.getElem?_eq_some_iff.1 h1).1;have HOW:=hid how;clear h1 s1 s2 s3 s4 s5 s6 s7 s8 h3 h4 o1 o2 how;obtain⟨o,ho⟩:∃ o,o=Sp.owner st.L p:=⟨_,rfl⟩
 rw[<-ho] at HOW ⊢;clear ho;go_enter Tryz.func56,Tryz.ntmps56;go_wp2_with fail;refine HOW.out.mono ?_;rintro e w1 ⟨rfl,rfl⟩;unfold sv;go_wp2
 go_ret2
 exact⟨rfl,rfl⟩
def fillB(n r:Nat):Nat:=(Ieee.double.div (Ieee.double.nearest false n 0) (Ieee.double.nearest false r 0)).getD 0
namespace KW
theorem fill_unit(n r:Nat)(h:n<=r)(h0:0<r)(h2:r<8192):V16.Unit (fillB n r):=by
 obtain⟨b,h1,h3⟩:=V16.fill n r h h0 h2;unfold fillB;rw[h1];exact h3
theorem float_of(n:Nat):floatOfInt .f64 (n:Int)=Ieee.double.nearest false n 0:=by
 show Ieee.double.write (.number (decide ((n:Int)<0)) (n:Int).natAbs 0)=_
 rw[decide_eq_false (by omega)];rfl
theorem run_fill(n r:Nat)(h:n<=r)(h0:0<r)(h2:r<8192)(w:World):
  (binOp .quo 57 (.float .f64 (floatOfInt .f64 (n:Int))) (.float .f64 (floatOfInt .f64 (r:Int)))).run Tryz.prog w=.ok (.float .f64 (fillB n r)) w:=by
 obtain⟨b,h1,h3⟩:=V16.fill n r h h0 h2;refine run_float_arith w .quo 57 .f64 _ _ _ ?_
 show Ieee.double.div _ _=_
 rw[float_of,float_of];unfold fillB;rw[h1];rfl
end KW
end
section
open Go.RowKit Go.Maps
theorem sesFill_any{O:Nat->Prop}{w:World}{x S:Nat}{st:Sp.St}(h:Ses O w x st)(hl:V10.Live S st):
  Calls Tryz.prog 33 #[.pointer (some ⟨x,0,none⟩)] w fun e w'=>e=.returned (.float .f64 (fillB (Sp.size st.L) (Sp.room S)))/\Below w.heap.size w w':=by
 obtain⟨D,s,O1,h1,⟨mb,ob,OD,S1,L,s1,s2,s3,s4,s5,s6,s7,s8⟩,h3,h4⟩:=h;obtain⟨_,c1⟩:=Ses.cells h1;obtain⟨_,_,c2,_,_⟩:=s1.cells;have hxl:=(Array.getElem?_eq_some_iff.1 h1).1;have hsl:=s1.lt;have hbig:=hl.big;have hroom:=hl.room;have hseen:=hl.seen;have hrn:Sp.room S=24*(S-8):=rfl;have hset:SetOn (fun b=>b<w.heap.size) w mb L:=s3.mono fun b hb=>(s8 b (.inl hb)).1
 have hsz:=size_any mb L w hset (by rw[s5];omega);rw[s5] at hsz;have hq:=fun w=>KW.run_fill (Sp.size st.L) (Sp.room S) hroom (by omega) (by omega) w
 have hcv:∀ (n:Int) (w:World),(convert 3 57 (.int .i64 n)).run Tryz.prog w=.ok (.float .f64 (floatOfInt .f64 n)) w:=fun n w=>run_convert_int_float w 3 57 .i64 .f64 n (by rw[Tryz.underlying3];rfl) (by kernel_rfl)
 have S1':=hid s1;have S2':=hid s2;have HSZ:=hid hsz;have hrv:∀ (w':World),StBlk w' s D st.last (.map (some mb)) (.map (some ob))->DkE OD w' D st.d->Calls Tryz.prog 82 #[.pointer (some ⟨s,0,none⟩)] w' fun e w''=>e=.returned (.int .i64 ((Sp.room S:Nat):Int))/\w''=w':=fun w' a b=>by
  have:=room_any a b;rw[hseen,show(24*((S:Int)-8))=((Sp.room S:Nat):Int) from by omega] at this;exact this
 have HRV:=hid hrv;have HOD:=hid s7;clear h1 s1 s2 s3 s4 s5 s6 s7 s8 h3 h4 hset hsz hrv hl hroom hseen hrn;obtain⟨n,hn⟩:∃ n,n=Sp.size st.L:=⟨_,rfl⟩
 obtain⟨r,hr⟩:∃ r,r=Sp.room S:=⟨_,rfl⟩
 rw[<-hn,<-hr] at hq ⊢;rw[<-hn] at HSZ;rw[<-hr] at HRV;clear hn hr;have hst:Calls Tryz.prog 54 #[.pointer (some ⟨s,0,none⟩)] w fun e w'=>e=.returned (.float .f64 (fillB n r))/\Below w.heap.size w w':=by
  go_enter Tryz.func54,Tryz.ntmps54;go_wp2_with fail;refine HSZ.out.mono ?_;rintro e w1 ⟨rfl,hb1⟩;have hz1:=hb1.size;have hr1:=HRV.out w1 (S1'.out.keep (hb1.block s hsl)) (S2'.out.keep (fun k hk hl=>hb1.block k hl) hz1);have HR1:=hid hr1;have HB1:=hid hb1;have hsl1:s<w1.heap.size:=by omega
  have c2':=(hb1.cell (p:=⟨s,2,none⟩) hsl).trans c2;clear hr1 hb1 hz1;go_wp2_with fail;refine HR1.out.mono ?_;rintro e w2 ⟨rfl,hw2⟩;have hw2':=hw2.symm;subst hw2';clear hw2;go_wp2;go_ret;exact⟨rfl,HB1.out⟩
 have HST:=hid hst;clear hst hq hcv;go_enter Tryz.func33,Tryz.ntmps33;go_wp2_with fail;refine HST.out.mono ?_;rintro e w1 ⟨rfl,hb1⟩;have HB1:=hid hb1;clear hb1;go_wp2;go_ret;exact⟨rfl,HB1.out⟩
end
section
open Go.RowKit Go.Maps
theorem row_cells{B:Nat}{w:World}{v:Value}{l:List Sp.Str}(h:w.ownsRow B 9 1 v l.length (l.map sv))(hne:l≠[]):
  ∃ b off cap,v=.slice (some ⟨b,off,none⟩) l.length cap/\l.length<=cap/\∀ (j:Nat) u,(l.map sv)[j]? = some u->w.cell? ((⟨b,off,none⟩:Addr).add j)=some u:=by
 obtain⟨a,cap,hv,hc,hx⟩:=(StrsAt.of_row h).get;obtain⟨b,off,ha,_,_⟩:=hx 0 (List.length_pos_iff.2 hne);refine⟨b,off,cap,by rw[hv,ha],hc,fun j u hj=>?_⟩;have hj':j<l.length:=by
  rcases Nat.lt_or_ge j l.length with h|h
  ·exact h
  ·rw[List.getElem?_eq_none (by rw[List.length_map];exact h)] at hj;cases hj
 obtain⟨b',off',ha',_,hx'⟩:=hx j hj';rw[ha] at ha';injection ha' with ha'
 injection ha' with e1 e2 _
 subst e1 e2;rw[List.getElem?_map,List.getElem?_eq_getElem hj'] at hj;have hu:sv l[j]=u:=by simpa using hj
 rw[DK.addr_add,<-hu];exact hx'
theorem step_show{G B S k:Nat}{nc:Bool}{w:World}{q x:Nat}(h:Ask G B S k nc w q x)(oa ob:Int)(os:Sp.Str):
  Calls Tryz.prog 60 #[.pointer (some ⟨q,0,none⟩),(OpV.agg ⟨6,oa,ob,os⟩)] w (Went B S k nc w q x):=by
 obtain⟨hw,⟨O,tv,ov,hv,X,Y,s,hand,hW,hi,hO,hOl,hhl,hht,hnil⟩,hG,hB,hqB,hk⟩:=h;obtain⟨wb,hwb⟩:∃ wb,wb=w.alloc (.cells #[.int .i64 6,.int .i64 oa,.int .i64 ob,.string ⟨os.toArray⟩] 115):=⟨_,rfl⟩
 have hbb:Below w.heap.size w wb:=by rw[hwb];exact(Below.refl _ _).alloc (Nat.le_refl _) _
 have hzb:wb.heap.size=w.heap.size+1:=by rw[hwb];simp
 have p0:wb.cell? ⟨w.heap.size,0,none⟩=some (.int .i64 6):=by rw[hwb,World.cell?_alloc_at _ _ _ _ rfl];rfl
 have p1:wb.cell? ⟨w.heap.size,1,none⟩=some (.int .i64 oa):=by rw[hwb,World.cell?_alloc_at _ _ _ _ rfl];rfl
 have p2:wb.cell? ⟨w.heap.size,2,none⟩=some (.int .i64 ob):=by rw[hwb,World.cell?_alloc_at _ _ _ _ rfl];rfl
 have p3:wb.cell? ⟨w.heap.size,3,none⟩=some (.string ⟨os.toArray⟩):=by rw[hwb,World.cell?_alloc_at _ _ _ _ rfl];rfl
 have h1:=hW.below hbb;have hlo:=h1.ses.lost;have cw0:=hW.c0;have qw:=hW.lt;have c0:=h1.c0;have c1:=h1.c1;have c2:=h1.c2;have c5:=h1.c5;have z5:=h1.z 5;have hq:=h1.lt;have hqr:¬q=w.heap.size:=by have:=hW.lt;omega
 have hrb:w.heap.size<wb.heap.size:=by omega
 have hBb:B<=wb.heap.size:=by omega
 clear hzb;obtain⟨hT,hXl,hYl⟩:=h1.few hi hOl;have HW1:=hid h1;have HLO:=hid hlo;have HBB:=hid (hbb.mono hB);have HI:=hid hi;have HHT:=hid hht;have HO:=hid hO;have HT:=hid hT;have HNIL:=hid hnil;have HWD:=hid (hw.keep hbb);have hic:=V20.inv_cases hi;have HF0:=hid (⟨hbb.mono hB,O,tv,ov,hv,X,Y,s,hand,h1,hi.mono (Nat.le_succ k),hO,hOl,by omega,hht,hnil⟩:Below B w wb/\PlayAt B S (k+1) nc wb q x);clear h1 hlo hbb hi hht hO hW hw hT hnil
 rcases hic with⟨hd,hal⟩|⟨hd,_,_⟩
 ·rw[hd] at HLO
  have HAL:=hid hal;clear hal hd HF0;unfold OpV.agg sv;go_enter Tryz.func60,Tryz.ntmps60;go_wp2_with fail;rw[<-hwb];clear hwb cw0 qw;refine HLO.out.mono ?_;rintro e wq ⟨rfl,hwq⟩;have hwq':=hwq.symm;subst hwq';clear hwq;obtain⟨ti,hi0,hz0,hz1,hz2⟩:=info_parts infoStr;have HI0:=hid hi0;have HZ0:=hid hz0;have HZ1:=hid hz1;have HZ2:=hid hz2;clear hi0 hz0 hz1 hz2;obtain⟨ra,rc,hvr⟩:=W3.row_slice HW1.out.row;go_upto_region 16 with(fail)
  go_cut [6] from 63 to 67 (fun hh wx=>Below wb.heap.size wb wx/\wx.ownsRow wb.heap.size 9 1 hh hand.length (hand.map sv))
  case first =>
   by_cases hne:hand=[]
   ·have hv0:=HNIL.out hne
    subst hne;subst hv0;clear hvr;go_wp2_with (at_builtin;refine wpList_append_own_none rfl (.const (.slice none 0 0)) (.tmp 66) 38 rfl wb.heap.size 9 ti 1 Tryz.underlying38 HI0.out _ 0 [] rfl (World.ownsRow_nil _ _ _ _) rfl ?_);go_meet
    case rel=>exact⟨Below.refl _ _,World.ownsRow_nil _ _ _ _⟩
   ·obtain⟨b,off,cap,hv',hl',hc'⟩:=row_cells HW1.out.row hne
    have HC:=hid hc';have hon:∀ u∈hand.map sv,u.oneCell'=true:=fun u hu=>by
     obtain⟨s,_,rfl⟩:=List.mem_map.1 hu
     rfl
    have HON:=hid hon;clear hon hc' hvr;subst hv';go_wp2_with (at_builtin;refine wpList_append_own wb rfl (.const (.slice none 0 0)) (.tmp 66) 38 rfl wb.heap.size 9 ti (.string ⟨#[]⟩) 1 16 Tryz.underlying38 HI0.out HZ0.out HZ1.out HZ2.out rfl (by decide) _ 0 [] rfl (World.ownsRow_nil _ _ _ _) ⟨b,off,none⟩ hand.length cap (hand.map sv) rfl (by rw[List.length_map,Nat.mul_one]) HC.out HON.out (by unfold maxLen;omega) (by omega) (Nat.le_refl _) ?_;intro v7 w7 hown7 hgrow7 _);have hb7:Below wb.heap.size wb w7:=(Below.refl _ _).grown hgrow7 (Nat.le_refl _) fun g hg=>by cases hg
    simp only[Nat.zero_add,List.nil_append] at hown7;go_meet
    case rel=>exact⟨hb7,hown7⟩
  case rest =>
   obtain⟨hbc,hrow6⟩:=hcut;have h6:=HW1.out.below hbc;have hsa:=StrsAt.of_row hrow6;obtain⟨fa,fc,rfl⟩:=W3.row_slice hrow6;have c0':=h6.c0;have c1':=h6.c1;have c2':=h6.c2;have c5':=h6.c5;have q6:=h6.lt;have hz6:=hbc.size;have p0':=(hbc.cell (p:=⟨w.heap.size,0,none⟩) hrb).trans p0;have p3':=(hbc.cell (p:=⟨w.heap.size,3,none⟩) hrb).trans p3;have hr6:w.heap.size<wc.heap.size:=by omega
   have H6:=hid h6;have HSA:=hid hsa;have HR6:=hid hrow6;have HBC:=hid (HBB.out.trans (hbc.mono (by omega)));have hBc:B<=wc.heap.size:=by omega
   have HWC:=hid (HWD.out.keep hbc);obtain⟨xa,xc,htv,_⟩:=h6.there.get;subst htv;clear h6 hsa hrow6 hbc p0 p1 p2 p3 c0 c1 c2 c5 z5 hvr HI0 HZ0 HZ1 HZ2;have hsh:=shown_any H6.out HAL.out.live HT.out (by omega);rw[decide_eq_true (V19.texts_ok HAL.out).symm] at hsh;have HSH:=hid hsh;clear hsh;go_wp2_with fail;refine HSH.out.mono ?_;rintro e w7 ⟨rfl,hb7⟩;have HF:=hid (⟨HBC.out.trans (hb7.mono hBc),O,_,ov,hv,X,Y,s,hand,H6.out.below hb7,HI.out.mono (Nat.le_succ k),HO.out,hOl,by omega,HHT.out,HNIL.out⟩:Below B w w7/\PlayAt B S (k+1) nc w7 q x);clear hb7;go_wp2;go_ret;exact⟨rfl,HF.out⟩
 ·rw[hd] at HLO
  unfold OpV.agg sv;go_enter Tryz.func60,Tryz.ntmps60;go_wp2_with fail;rw[<-hwb];clear hwb cw0 qw;refine HLO.out.mono ?_;rintro e wq ⟨rfl,hwq⟩;have hwq':=hwq.symm;subst hwq';clear hwq;go_wp2;go_ret;exact⟨rfl,HF0.out⟩
theorem step_owner{G B S k:Nat}{nc:Bool}{w:World}{q x:Nat}(h:Ask G B S k nc w q x)(oa ob:Int)(os:Sp.Str)(hs:os.length<=8192):
  Calls Tryz.prog 60 #[.pointer (some ⟨q,0,none⟩),(OpV.agg ⟨7,oa,ob,os⟩)] w (Went B S k nc w q x):=by
 obtain⟨hw,⟨O,tv,ov,hv,X,Y,s,hand,hW,hi,hO,hOl,hhl,hht,hnil⟩,hG,hB,hqB,hk⟩:=h;obtain⟨wb,hwb⟩:∃ wb,wb=w.alloc (.cells #[.int .i64 7,.int .i64 oa,.int .i64 ob,.string ⟨os.toArray⟩] 115):=⟨_,rfl⟩
 have hbb:Below w.heap.size w wb:=by rw[hwb];exact(Below.refl _ _).alloc (Nat.le_refl _) _
 have hzb:wb.heap.size=w.heap.size+1:=by rw[hwb];simp
 have p0:wb.cell? ⟨w.heap.size,0,none⟩=some (.int .i64 7):=by rw[hwb,World.cell?_alloc_at _ _ _ _ rfl];rfl
 have p1:wb.cell? ⟨w.heap.size,1,none⟩=some (.int .i64 oa):=by rw[hwb,World.cell?_alloc_at _ _ _ _ rfl];rfl
 have p2:wb.cell? ⟨w.heap.size,2,none⟩=some (.int .i64 ob):=by rw[hwb,World.cell?_alloc_at _ _ _ _ rfl];rfl
 have p3:wb.cell? ⟨w.heap.size,3,none⟩=some (.string ⟨os.toArray⟩):=by rw[hwb,World.cell?_alloc_at _ _ _ _ rfl];rfl
 have h1:=hW.below hbb;have hlo:=h1.ses.lost;have cw0:=hW.c0;have qw:=hW.lt;have c0:=h1.c0;have c1:=h1.c1;have c2:=h1.c2;have c5:=h1.c5;have z5:=h1.z 5;have hq:=h1.lt;have hqr:¬q=w.heap.size:=by have:=hW.lt;omega
 have hrb:w.heap.size<wb.heap.size:=by omega
 have hBb:B<=wb.heap.size:=by omega
 clear hzb;obtain⟨hT,hXl,hYl⟩:=h1.few hi hOl;have HW1:=hid h1;have HLO:=hid hlo;have HBB:=hid (hbb.mono hB);have HI:=hid hi;have HHT:=hid hht;have HO:=hid hO;have HT:=hid hT;have HNIL:=hid hnil;have HWD:=hid (hw.keep hbb);have hic:=V20.inv_cases hi;have HF0:=hid (⟨hbb.mono hB,O,tv,ov,hv,X,Y,s,hand,h1,hi.mono (Nat.le_succ k),hO,hOl,by omega,hht,hnil⟩:Below B w wb/\PlayAt B S (k+1) nc wb q x);clear h1 hlo hbb hi hht hO hW hw hT hnil
 rcases hic with⟨hd,hal⟩|⟨hd,_,_⟩
 ·rw[hd] at HLO
  have HAL:=hid hal;clear hal hd HF0;unfold OpV.agg sv;go_enter Tryz.func60,Tryz.ntmps60;go_wp2_with fail;rw[<-hwb];clear hwb cw0 qw;refine HLO.out.mono ?_;rintro e wq ⟨rfl,hwq⟩;have hwq':=hwq.symm;subst hwq';clear hwq;obtain⟨ti,hi0,hz0,hz1,hz2⟩:=info_parts infoStr;have HI0:=hid hi0;have HZ0:=hid hz0;have HZ1:=hid hz1;have HZ2:=hid hz2;clear hi0 hz0 hz1 hz2;obtain⟨ra,rc,hvr⟩:=W3.row_slice HW1.out.row;go_upto_region 16 with(fail)
  go_cut [6] from 63 to 67 (fun hh wx=>Below wb.heap.size wb wx/\wx.ownsRow wb.heap.size 9 1 hh hand.length (hand.map sv))
  case first =>
   by_cases hne:hand=[]
   ·have hv0:=HNIL.out hne
    subst hne;subst hv0;clear hvr;go_wp2_with (at_builtin;refine wpList_append_own_none rfl (.const (.slice none 0 0)) (.tmp 66) 38 rfl wb.heap.size 9 ti 1 Tryz.underlying38 HI0.out _ 0 [] rfl (World.ownsRow_nil _ _ _ _) rfl ?_);go_meet
    case rel=>exact⟨Below.refl _ _,World.ownsRow_nil _ _ _ _⟩
   ·obtain⟨b,off,cap,hv',hl',hc'⟩:=row_cells HW1.out.row hne
    have HC:=hid hc';have hon:∀ u∈hand.map sv,u.oneCell'=true:=fun u hu=>by
     obtain⟨s,_,rfl⟩:=List.mem_map.1 hu
     rfl
    have HON:=hid hon;clear hon hc' hvr;subst hv';go_wp2_with (at_builtin;refine wpList_append_own wb rfl (.const (.slice none 0 0)) (.tmp 66) 38 rfl wb.heap.size 9 ti (.string ⟨#[]⟩) 1 16 Tryz.underlying38 HI0.out HZ0.out HZ1.out HZ2.out rfl (by decide) _ 0 [] rfl (World.ownsRow_nil _ _ _ _) ⟨b,off,none⟩ hand.length cap (hand.map sv) rfl (by rw[List.length_map,Nat.mul_one]) HC.out HON.out (by unfold maxLen;omega) (by omega) (Nat.le_refl _) ?_;intro v7 w7 hown7 hgrow7 _);have hb7:Below wb.heap.size wb w7:=(Below.refl _ _).grown hgrow7 (Nat.le_refl _) fun g hg=>by cases hg
    simp only[Nat.zero_add,List.nil_append] at hown7;go_meet
    case rel=>exact⟨hb7,hown7⟩
  case rest =>
   obtain⟨hbc,hrow6⟩:=hcut;have h6:=HW1.out.below hbc;have hsa:=StrsAt.of_row hrow6;obtain⟨fa,fc,rfl⟩:=W3.row_slice hrow6;have c0':=h6.c0;have c1':=h6.c1;have c2':=h6.c2;have c5':=h6.c5;have q6:=h6.lt;have hz6:=hbc.size;have p0':=(hbc.cell (p:=⟨w.heap.size,0,none⟩) hrb).trans p0;have p3':=(hbc.cell (p:=⟨w.heap.size,3,none⟩) hrb).trans p3;have hr6:w.heap.size<wc.heap.size:=by omega
   have H6:=hid h6;have HSA:=hid hsa;have HR6:=hid hrow6;have HBC:=hid (HBB.out.trans (hbc.mono (by omega)));have hBc:B<=wc.heap.size:=by omega
   have HWC:=hid (HWD.out.keep hbc);obtain⟨xa,xc,htv,_⟩:=h6.there.get;subst htv;clear h6 hsa hrow6 hbc p0 p1 p2 p3 c0 c1 c2 c5 z5 hvr HI0 HZ0 HZ1 HZ2;have how:=fun W (hW:Below wc.heap.size wc W)=>sesOwner_any (H6.out.ses.below hW).ses HAL.out.live.ok os (by omega)
   have hor:=fun W (hW:Below wc.heap.size wc W)=>ownerR_any _ os X W (H6.out.below hW).there (fun b hb=>hb.1) (by omega)
   rw[H6.out.thereP,V20.alive_owner HAL.out os] at hor;have HOW:=hid how;have HOR:=hid hor;clear how hor;obtain⟨on,hon⟩:∃ on,on=Sp.owner s.x.L os:=⟨_,rfl⟩
   rw[<-hon] at HOW HOR;clear hon;unfold sv at HOW HOR;go_upto_region 30 with(fail)
   go_quiet (first|(go_at_call 56;exact(HOW.out _ (below_drawn _ _)).mono fun e w' h=>⟨h.1,_,h.2⟩));go_wp2_with fail;have hb6:=below_drawn wc nq;generalize wc.drewN nq=w6 at *;have h66:=H6.out.below hb6;have d0:=h66.c0;have d2:=h66.c2;have qd:=h66.lt;have pd:=(hb6.cell (p:=⟨w.heap.size,3,none⟩) hr6).trans p3';have hrd:w.heap.size<w6.heap.size:=Nat.lt_of_lt_of_le hr6 hb6.size;have HB6:=hid hb6;clear hb6 h66 c0' c1' c2' c5' p0' p3' q6 hr6;go_quiet (first|(go_at_call 96;exact(HOR.out _ (below_drewN HB6.out _)).mono fun e w' h=>⟨h.1,_,h.2⟩));have HF:=hid (fun W (hb7:Below wc.heap.size wc W)=>(⟨HBC.out.trans (hb7.mono hBc),O,_,ov,hv,X,Y,s,hand,H6.out.below hb7,HI.out.mono (Nat.le_succ k),HO.out,hOl,by omega,HHT.out,HNIL.out⟩:Below B w W/\PlayAt B S (k+1) nc W q x))
   cases on with
   | nil =>
    go_wp2;go_ret;exact⟨rfl,HF.out _ (below_drewN HB6.out _)⟩
   | cons c r =>
    have hne:(((⟨(c :: r).toArray⟩:ByteArray).toList == []):Bool)=false:=by rw[toList_bl];rfl
    go_wp2;go_ret;exact⟨rfl,HF.out _ (below_drewN HB6.out _)⟩
 ·rw[hd] at HLO
  unfold OpV.agg sv;go_enter Tryz.func60,Tryz.ntmps60;go_wp2_with fail;rw[<-hwb];clear hwb cw0 qw;refine HLO.out.mono ?_;rintro e wq ⟨rfl,hwq⟩;have hwq':=hwq.symm;subst hwq';clear hwq;go_wp2;go_ret;exact⟨rfl,HF0.out⟩
theorem step_fill{G B S k:Nat}{nc:Bool}{w:World}{q x:Nat}(h:Ask G B S k nc w q x)(oa ob:Int)(os:Sp.Str):
  Calls Tryz.prog 60 #[.pointer (some ⟨q,0,none⟩),(OpV.agg ⟨8,oa,ob,os⟩)] w (Went B S k nc w q x):=by
 obtain⟨hw,⟨O,tv,ov,hv,X,Y,s,hand,hW,hi,hO,hOl,hhl,hht,hnil⟩,hG,hB,hqB,hk⟩:=h;obtain⟨wb,hwb⟩:∃ wb,wb=w.alloc (.cells #[.int .i64 8,.int .i64 oa,.int .i64 ob,.string ⟨os.toArray⟩] 115):=⟨_,rfl⟩
 have hbb:Below w.heap.size w wb:=by rw[hwb];exact(Below.refl _ _).alloc (Nat.le_refl _) _
 have hzb:wb.heap.size=w.heap.size+1:=by rw[hwb];simp
 have p0:wb.cell? ⟨w.heap.size,0,none⟩=some (.int .i64 8):=by rw[hwb,World.cell?_alloc_at _ _ _ _ rfl];rfl
 have p1:wb.cell? ⟨w.heap.size,1,none⟩=some (.int .i64 oa):=by rw[hwb,World.cell?_alloc_at _ _ _ _ rfl];rfl
 have p2:wb.cell? ⟨w.heap.size,2,none⟩=some (.int .i64 ob):=by rw[hwb,World.cell?_alloc_at _ _ _ _ rfl];rfl
 have p3:wb.cell? ⟨w.heap.size,3,none⟩=some (.string ⟨os.toArray⟩):=by rw[hwb,World.cell?_alloc_at _ _ _ _ rfl];rfl
 have h1:=hW.below hbb;have hlo:=h1.ses.lost;have cw0:=hW.c0;have qw:=hW.lt;have c0:=h1.c0;have c1:=h1.c1;have c2:=h1.c2;have c5:=h1.c5;have z5:=h1.z 5;have hq:=h1.lt;have hqr:¬q=w.heap.size:=by have:=hW.lt;omega
 have hrb:w.heap.size<wb.heap.size:=by omega
 have hBb:B<=wb.heap.size:=by omega
 clear hzb;obtain⟨hT,hXl,hYl⟩:=h1.few hi hOl;have HW1:=hid h1;have HLO:=hid hlo;have HBB:=hid (hbb.mono hB);have HI:=hid hi;have HHT:=hid hht;have HO:=hid hO;have HT:=hid hT;have HNIL:=hid hnil;have HWD:=hid (hw.keep hbb);have hic:=V20.inv_cases hi;have HF0:=hid (⟨hbb.mono hB,O,tv,ov,hv,X,Y,s,hand,h1,hi.mono (Nat.le_succ k),hO,hOl,by omega,hht,hnil⟩:Below B w wb/\PlayAt B S (k+1) nc wb q x);clear h1 hlo hbb hi hht hO hW hw hT hnil
 rcases hic with⟨hd,hal⟩|⟨hd,_,_⟩
 ·rw[hd] at HLO
  have HAL:=hid hal;clear hal hd HF0;unfold OpV.agg sv;go_enter Tryz.func60,Tryz.ntmps60;go_wp2_with fail;rw[<-hwb];clear hwb cw0 qw;refine HLO.out.mono ?_;rintro e wq ⟨rfl,hwq⟩;have hwq':=hwq.symm;subst hwq';clear hwq;obtain⟨ti,hi0,hz0,hz1,hz2⟩:=info_parts infoStr;have HI0:=hid hi0;have HZ0:=hid hz0;have HZ1:=hid hz1;have HZ2:=hid hz2;clear hi0 hz0 hz1 hz2;obtain⟨ra,rc,hvr⟩:=W3.row_slice HW1.out.row;go_upto_region 16 with(fail)
  go_cut [6] from 63 to 67 (fun hh wx=>Below wb.heap.size wb wx/\wx.ownsRow wb.heap.size 9 1 hh hand.length (hand.map sv))
  case first =>
   by_cases hne:hand=[]
   ·have hv0:=HNIL.out hne
    subst hne;subst hv0;clear hvr;go_wp2_with (at_builtin;refine wpList_append_own_none rfl (.const (.slice none 0 0)) (.tmp 66) 38 rfl wb.heap.size 9 ti 1 Tryz.underlying38 HI0.out _ 0 [] rfl (World.ownsRow_nil _ _ _ _) rfl ?_);go_meet
    case rel=>exact⟨Below.refl _ _,World.ownsRow_nil _ _ _ _⟩
   ·obtain⟨b,off,cap,hv',hl',hc'⟩:=row_cells HW1.out.row hne
    have HC:=hid hc';have hon:∀ u∈hand.map sv,u.oneCell'=true:=fun u hu=>by
     obtain⟨s,_,rfl⟩:=List.mem_map.1 hu
     rfl
    have HON:=hid hon;clear hon hc' hvr;subst hv';go_wp2_with (at_builtin;refine wpList_append_own wb rfl (.const (.slice none 0 0)) (.tmp 66) 38 rfl wb.heap.size 9 ti (.string ⟨#[]⟩) 1 16 Tryz.underlying38 HI0.out HZ0.out HZ1.out HZ2.out rfl (by decide) _ 0 [] rfl (World.ownsRow_nil _ _ _ _) ⟨b,off,none⟩ hand.length cap (hand.map sv) rfl (by rw[List.length_map,Nat.mul_one]) HC.out HON.out (by unfold maxLen;omega) (by omega) (Nat.le_refl _) ?_;intro v7 w7 hown7 hgrow7 _);have hb7:Below wb.heap.size wb w7:=(Below.refl _ _).grown hgrow7 (Nat.le_refl _) fun g hg=>by cases hg
    simp only[Nat.zero_add,List.nil_append] at hown7;go_meet
    case rel=>exact⟨hb7,hown7⟩
  case rest =>
   obtain⟨hbc,hrow6⟩:=hcut;have h6:=HW1.out.below hbc;have hsa:=StrsAt.of_row hrow6;obtain⟨fa,fc,rfl⟩:=W3.row_slice hrow6;have c0':=h6.c0;have c1':=h6.c1;have c2':=h6.c2;have c5':=h6.c5;have q6:=h6.lt;have hz6:=hbc.size;have p0':=(hbc.cell (p:=⟨w.heap.size,0,none⟩) hrb).trans p0;have p3':=(hbc.cell (p:=⟨w.heap.size,3,none⟩) hrb).trans p3;have hr6:w.heap.size<wc.heap.size:=by omega
   have H6:=hid h6;have HSA:=hid hsa;have HR6:=hid hrow6;have HBC:=hid (HBB.out.trans (hbc.mono (by omega)));have hBc:B<=wc.heap.size:=by omega
   have HWC:=hid (HWD.out.keep hbc);obtain⟨xa,xc,htv,_⟩:=h6.there.get;subst htv;clear h6 hsa hrow6 hbc p0 p1 p2 p3 c0 c1 c2 c5 z5 hvr HI0 HZ0 HZ1 HZ2;have hgood:∀ p∈pk X,V3.Good p:=by rw[H6.out.thereP];exact HT.out.good
   have hsz:=sizeR_any _ X wc H6.out.there (fun b hb=>hb.1) (by omega) hgood;rw[H6.out.thereP,V20.alive_size HAL.out] at hsz;have hroom:=HAL.out.live.room;have hbig:=HAL.out.live.big;have hrn:Sp.room S=24*(S-8):=rfl;have hrm:=fun W=>roomR_any (S:Int) W (by omega)
   have hre:(24*((S:Int)-8))=((Sp.room S:Nat):Int):=by omega
   simp only[hre] at hrm;have hfi:=fun W (hW:Below wc.heap.size wc W)=>sesFill_any (H6.out.ses.below hW).ses HAL.out.live
   obtain⟨n,hn⟩:∃ n,n=Sp.size s.x.L:=⟨_,rfl⟩
   obtain⟨r,hr⟩:∃ r,r=Sp.room S:=⟨_,rfl⟩
   rw[<-hn] at hsz hroom hfi;rw[<-hr] at hrm hroom hfi;have hq:=fun w=>KW.run_fill n r hroom (by omega) (by omega) w
   have hself:=(KW.fill_unit n r hroom (by omega) (by omega)).self;obtain⟨fb,hfb⟩:∃ fb,fb=fillB n r:=⟨_,rfl⟩
   rw[<-hfb] at hq hself hfi;have hord:(FloatKind.f64.format.order fb fb == some .eq)=true:=by rw[beq_iff_eq];exact hself
   have hcv:∀ (n:Int) (w:World),(convert 3 57 (.int .i64 n)).run Tryz.prog w=.ok (.float .f64 (floatOfInt .f64 n)) w:=fun n w=>run_convert_int_float w 3 57 .i64 .f64 n (by rw[Tryz.underlying3];rfl) (by kernel_rfl)
   have HSZ:=hid hsz;have HRM:=hid hrm;have HFI:=hid hfi;clear hsz hrm hfi hself hfb hroom hbig hrn hre hgood hn hr;go_wp2_with fail;refine HSZ.out.mono ?_;rintro e w7 ⟨rfl,hb7⟩;have h7:=H6.out.below hb7;have d0:=h7.c0;have d1:=h7.c1;have q7:=h7.lt;have HB7:=hid hb7;have HFI7:=hid (HFI.out w7 hb7);clear h7 hb7 c0' c1' c2' c5';go_wp2_with fail;refine(HRM.out _).mono ?_;rintro e w8 ⟨rfl,hw8⟩;have hw8':=hw8.symm;subst hw8';clear hw8;go_wp2_with fail;refine HFI7.out.mono ?_;rintro e w9 ⟨rfl,hb9⟩;have HB9:=hid (HB7.out.trans (hb9.mono HB7.out.size));have HF:=hid (⟨HBC.out.trans (HB9.out.mono hBc),O,_,ov,hv,X,Y,s,hand,H6.out.below HB9.out,HI.out.mono (Nat.le_succ k),HO.out,hOl,by omega,HHT.out,HNIL.out⟩:Below B w w9/\PlayAt B S (k+1) nc w9 q x);clear hb9;go_wp2;go_ret;exact⟨rfl,HF.out⟩
 ·rw[hd] at HLO
  unfold OpV.agg sv;go_enter Tryz.func60,Tryz.ntmps60;go_wp2_with fail;rw[<-hwb];clear hwb cw0 qw;refine HLO.out.mono ?_;rintro e wq ⟨rfl,hwq⟩;have hwq':=hwq.symm;subst hwq';clear hwq;go_wp2;go_ret;exact⟨rfl,HF0.out⟩
theorem step_none{G B S k:Nat}{nc:Bool}{w:World}{q x:Nat}(h:Ask G B S k nc w q x)(oa ob:Int)(os:Sp.Str)(kd:Int)(n1:(kd == 1)=false)(n2:(kd == 2)=false)(n9:(kd == 9)=false)(n10:(kd == 10)=false)(n3:(kd == 3)=false)(n4:(kd == 4)=false)(n5:(kd == 5)=false)(n6:(kd == 6)=false)(n7:(kd == 7)=false)(n8:(kd == 8)=false):
  Calls Tryz.prog 60 #[.pointer (some ⟨q,0,none⟩),(OpV.agg ⟨kd,oa,ob,os⟩)] w (Went B S k nc w q x):=by
 obtain⟨hw,⟨O,tv,ov,hv,X,Y,s,hand,hW,hi,hO,hOl,hhl,hht,hnil⟩,hG,hB,hqB,hk⟩:=h;obtain⟨wb,hwb⟩:∃ wb,wb=w.alloc (.cells #[.int .i64 kd,.int .i64 oa,.int .i64 ob,.string ⟨os.toArray⟩] 115):=⟨_,rfl⟩
 have hbb:Below w.heap.size w wb:=by rw[hwb];exact(Below.refl _ _).alloc (Nat.le_refl _) _
 have hzb:wb.heap.size=w.heap.size+1:=by rw[hwb];simp
 have p0:wb.cell? ⟨w.heap.size,0,none⟩=some (.int .i64 kd):=by rw[hwb,World.cell?_alloc_at _ _ _ _ rfl];rfl
 have p1:wb.cell? ⟨w.heap.size,1,none⟩=some (.int .i64 oa):=by rw[hwb,World.cell?_alloc_at _ _ _ _ rfl];rfl
 have p2:wb.cell? ⟨w.heap.size,2,none⟩=some (.int .i64 ob):=by rw[hwb,World.cell?_alloc_at _ _ _ _ rfl];rfl
 have p3:wb.cell? ⟨w.heap.size,3,none⟩=some (.string ⟨os.toArray⟩):=by rw[hwb,World.cell?_alloc_at _ _ _ _ rfl];rfl
 have h1:=hW.below hbb;have hlo:=h1.ses.lost;have cw0:=hW.c0;have qw:=hW.lt;have c0:=h1.c0;have c1:=h1.c1;have c2:=h1.c2;have c5:=h1.c5;have z5:=h1.z 5;have hq:=h1.lt;have hqr:¬q=w.heap.size:=by have:=hW.lt;omega
 have hrb:w.heap.size<wb.heap.size:=by omega
 have hBb:B<=wb.heap.size:=by omega
 clear hzb;obtain⟨hT,hXl,hYl⟩:=h1.few hi hOl;have HW1:=hid h1;have HLO:=hid hlo;have HBB:=hid (hbb.mono hB);have HI:=hid hi;have HHT:=hid hht;have HO:=hid hO;have HT:=hid hT;have HNIL:=hid hnil;have HWD:=hid (hw.keep hbb);have hic:=V20.inv_cases hi;have HF0:=hid (⟨hbb.mono hB,O,tv,ov,hv,X,Y,s,hand,h1,hi.mono (Nat.le_succ k),hO,hOl,by omega,hht,hnil⟩:Below B w wb/\PlayAt B S (k+1) nc wb q x);clear h1 hlo hbb hi hht hO hW hw hT hnil
 rcases hic with⟨hd,hal⟩|⟨hd,_,_⟩
 ·rw[hd] at HLO
  have HAL:=hid hal;clear hal hd HF0;unfold OpV.agg sv;go_enter Tryz.func60,Tryz.ntmps60;go_wp2_with fail;rw[<-hwb];clear hwb cw0 qw;refine HLO.out.mono ?_;rintro e wq ⟨rfl,hwq⟩;have hwq':=hwq.symm;subst hwq';clear hwq;obtain⟨ti,hi0,hz0,hz1,hz2⟩:=info_parts infoStr;have HI0:=hid hi0;have HZ0:=hid hz0;have HZ1:=hid hz1;have HZ2:=hid hz2;clear hi0 hz0 hz1 hz2;obtain⟨ra,rc,hvr⟩:=W3.row_slice HW1.out.row;go_upto_region 16 with(fail)
  go_cut [6] from 63 to 67 (fun hh wx=>Below wb.heap.size wb wx/\wx.ownsRow wb.heap.size 9 1 hh hand.length (hand.map sv))
  case first =>
   by_cases hne:hand=[]
   ·have hv0:=HNIL.out hne
    subst hne;subst hv0;clear hvr;go_wp2_with (at_builtin;refine wpList_append_own_none rfl (.const (.slice none 0 0)) (.tmp 66) 38 rfl wb.heap.size 9 ti 1 Tryz.underlying38 HI0.out _ 0 [] rfl (World.ownsRow_nil _ _ _ _) rfl ?_);go_meet
    case rel=>exact⟨Below.refl _ _,World.ownsRow_nil _ _ _ _⟩
   ·obtain⟨b,off,cap,hv',hl',hc'⟩:=row_cells HW1.out.row hne
    have HC:=hid hc';have hon:∀ u∈hand.map sv,u.oneCell'=true:=fun u hu=>by
     obtain⟨s,_,rfl⟩:=List.mem_map.1 hu
     rfl
    have HON:=hid hon;clear hon hc' hvr;subst hv';go_wp2_with (at_builtin;refine wpList_append_own wb rfl (.const (.slice none 0 0)) (.tmp 66) 38 rfl wb.heap.size 9 ti (.string ⟨#[]⟩) 1 16 Tryz.underlying38 HI0.out HZ0.out HZ1.out HZ2.out rfl (by decide) _ 0 [] rfl (World.ownsRow_nil _ _ _ _) ⟨b,off,none⟩ hand.length cap (hand.map sv) rfl (by rw[List.length_map,Nat.mul_one]) HC.out HON.out (by unfold maxLen;omega) (by omega) (Nat.le_refl _) ?_;intro v7 w7 hown7 hgrow7 _);have hb7:Below wb.heap.size wb w7:=(Below.refl _ _).grown hgrow7 (Nat.le_refl _) fun g hg=>by cases hg
    simp only[Nat.zero_add,List.nil_append] at hown7;go_meet
    case rel=>exact⟨hb7,hown7⟩
  case rest =>
   obtain⟨hbc,hrow6⟩:=hcut;have h6:=HW1.out.below hbc;have hsa:=StrsAt.of_row hrow6;obtain⟨fa,fc,rfl⟩:=W3.row_slice hrow6;have c0':=h6.c0;have c1':=h6.c1;have c2':=h6.c2;have c5':=h6.c5;have q6:=h6.lt;have hz6:=hbc.size;have p0':=(hbc.cell (p:=⟨w.heap.size,0,none⟩) hrb).trans p0;have p3':=(hbc.cell (p:=⟨w.heap.size,3,none⟩) hrb).trans p3;have hr6:w.heap.size<wc.heap.size:=by omega
   have H6:=hid h6;have HSA:=hid hsa;have HR6:=hid hrow6;have HBC:=hid (HBB.out.trans (hbc.mono (by omega)));have hBc:B<=wc.heap.size:=by omega
   have HWC:=hid (HWD.out.keep hbc);obtain⟨xa,xc,htv,_⟩:=h6.there.get;subst htv;clear h6 hsa hrow6 hbc p0 p1 p2 p3 c0 c1 c2 c5 z5 hvr HI0 HZ0 HZ1 HZ2;have HF:=hid (⟨HBC.out,O,_,ov,hv,X,Y,s,hand,H6.out,HI.out.mono (Nat.le_succ k),HO.out,hOl,by omega,HHT.out,HNIL.out⟩:Below B w wc/\PlayAt B S (k+1) nc wc q x);go_wp2;go_ret;exact⟨rfl,HF.out⟩
 ·rw[hd] at HLO
  unfold OpV.agg sv;go_enter Tryz.func60,Tryz.ntmps60;go_wp2_with fail;rw[<-hwb];clear hwb cw0 qw;refine HLO.out.mono ?_;rintro e wq ⟨rfl,hwq⟩;have hwq':=hwq.symm;subst hwq';clear hwq;go_wp2;go_ret;exact⟨rfl,HF0.out⟩
end
section
open Go.RowKit Go.Maps
structure RF(w:World)(b:Nat)(f:Sp.Fault):Prop where
 lt:b<w.heap.size
 c0:w.cell? ⟨b,0,none⟩=some (.int .i64 (f.kind:Int))
 c1:w.cell? ⟨b,1,none⟩=some (.int .i64 (f.which:Int))
 c2:w.cell? ⟨b,2,none⟩=some (.int .i64 (f.line:Int))
 c3:w.cell? ⟨b,3,none⟩=some (.string ⟨f.name.toArray⟩)
 z:∀ o,w.frozen? ⟨b,o,none⟩=false
namespace RF
variable {w w':World} {b:Nat} {f:Sp.Fault}
theorem blk(h:RF w b f)(he:w'.heap[b]? = w.heap[b]?)(hs:w.heap.size<=w'.heap.size):RF w' b f:=by
 have e1:=fun o=>World.cell?_of_block (w:=w) (a:=⟨b,o,none⟩) he
 have e2:=fun o=>World.frozen?_of_block (w:=w) (a:=⟨b,o,none⟩) he
 exact⟨Nat.lt_of_lt_of_le h.lt hs,(e1 0).trans h.c0,(e1 1).trans h.c1,(e1 2).trans h.c2,(e1 3).trans h.c3,fun o=>(e2 o).trans (h.z o)⟩
theorem below(h:RF w b f)(hb:Below w.heap.size w w'):RF w' b f:=h.blk (hb.block b h.lt) hb.size
theorem chg{M:Nat->Prop}(h:RF w b f)(hc:Chg M w w')(hm:¬M b):RF w' b f:=h.blk (hc.block b h.lt hm) hc.size
theorem new(w:World)(f:Sp.Fault)(t:TypeId):RF (w.alloc (.cells #[.int .i64 (f.kind:Int),.int .i64 (f.which:Int),.int .i64 (f.line:Int),.string ⟨f.name.toArray⟩] t)) w.heap.size f:=by
 have h':=heap_alloc_new w (.cells #[.int .i64 (f.kind:Int),.int .i64 (f.which:Int),.int .i64 (f.line:Int),.string ⟨f.name.toArray⟩] t);refine⟨by simp,?_,?_,?_,?_,fun o=>by simp⟩
 ·rw[cell_of_row _ _ _ _ _ _ h'];rfl
 ·rw[cell_of_row _ _ _ _ _ _ h'];rfl
 ·rw[cell_of_row _ _ _ _ _ _ h'];rfl
 ·rw[cell_of_row _ _ _ _ _ _ h'];rfl
theorem put(h:RF w b f)(f':Sp.Fault):RF (putF w b f') b f'/\Chg (fun k=>k=b) w (putF w b f'):=by
 obtain⟨a1,a2,_,a4,_⟩:=set_facts w b 0 (.int .i64 (f'.kind:Int)) _ h.c0 h.z;obtain⟨b1,b2,_,b4,_⟩:=set_facts _ b 1 (.int .i64 (f'.which:Int)) _ ((a2 1 (by omega)).trans h.c1) a4;obtain⟨c1,c2,_,c4,_⟩:=set_facts _ b 2 (.int .i64 (f'.line:Int)) _ ((b2 2 (by omega)).trans ((a2 2 (by omega)).trans h.c2)) b4;obtain⟨d1,d2,_,d4,_⟩:=set_facts _ b 3 (.string ⟨f'.name.toArray⟩) _ ((c2 3 (by omega)).trans ((b2 3 (by omega)).trans ((a2 3 (by omega)).trans h.c3))) c4;exact⟨⟨by rw[putF_size];exact h.lt,(d2 0 (by omega)).trans ((c2 0 (by omega)).trans ((b2 0 (by omega)).trans a1)),(d2 1 (by omega)).trans ((c2 1 (by omega)).trans b1),(d2 2 (by omega)).trans c1,d1,d4⟩,
  ⟨rfl,rfl,rfl,Nat.le_of_eq (putF_size w b f').symm,fun i _ hm=>putF_other w b f' hm⟩⟩
end RF
theorem row_chg{B:Nat}{M:Nat->Prop}{w w':World}{e:TypeId}{size n:Nat}{v:Value}{xs:List Value}(h:w.ownsRow B e size v n xs)(hc:Chg M w w')(hm:∀ g,v.ownBlock=some g->¬M g):w'.ownsRow B e size v n xs:=by
 obtain⟨h1,h2⟩:=h;refine⟨h1,?_⟩
 rcases h2 with h2|⟨g,cap,cur,hv,hg,hh,r⟩
 ·exact .inl h2
 ·exact .inr ⟨g,cap,cur,hv,hg,(hc.block g (Array.getElem?_eq_some_iff.1 hh).1 (hm g (by rw[hv];rfl))).trans hh,r⟩
namespace Z24
def One(S:Nat->Prop)(res:Sp.Fault ⊕ List Sp.Pk)(w:World)(e:Ending)(w':World):Prop:=
 ∃ (f:Sp.Fault) (a:Option Addr) (m c:Nat),e=.returned (.tuple #[.slice a m c,.agg #[.int .i64 (f.kind:Int),.int .i64 (f.which:Int),.int .i64 (f.line:Int),.string ⟨f.name.toArray⟩]])/\Below w.heap.size w w' /\
  ((res=.inl f/\1<=f.kind/\f.kind<=8/\Value.slice a m c=.slice none 0 0)\/(f=Sp.okF/\∃ A,res=.inr (pk A)/\PksOn (fun c=>S c\/(w.heap.size<=c/\c<w'.heap.size)) w' (.slice a m c) A/\Z11.Shape (.slice a m c) A.length))
theorem one{S:Nat->Prop}{res:Sp.Fault ⊕ List Sp.Pk}{w:World}{e:Ending}{w':World}(h:Z17.SetR S res w e w'):One S res w e w':=by
 obtain⟨hb,⟨f,h1,h2,h3,rfl⟩|⟨A,v1,h1,rfl,h2,h3⟩⟩:=h
 ·exact⟨f,none,0,0,rfl,hb,.inl ⟨h1,h2,h3,rfl⟩⟩
 ·obtain⟨a,c,rfl,_⟩:=h2.get
  exact⟨Sp.okF,a,_,c,rfl,hb,.inr ⟨rfl,A,h1,h2,h3⟩⟩
def Vars(S:Nat->Prop)(res:Sp.Fault ⊕ List Sp.Pk)(w:World)(v7 v8:Value)(wx:World):Prop:=
 Below w.heap.size w wx/\∃ b f,v8=.pointer (some ⟨b,0,none⟩)/\w.heap.size<=b/\RF wx b f /\
  ((res=.inl f/\1<=f.kind/\f.kind<=8/\v7=.slice none 0 0)\/(f=Sp.okF/\∃ A,res=.inr (pk A)/\PksOn (fun c=>S c\/(w.heap.size<=c/\c<wx.heap.size/\c≠b)) wx v7 A/\Z11.Shape v7 A.length))
theorem after{w w':World}{r:Nat}(hr:w.heap.size=r)(hb:Below (w.alloc (.cells #[.int .i64 0,.int .i64 0,.int .i64 0,.string ⟨#[]⟩] 34)).heap.size (w.alloc (.cells #[.int .i64 0,.int .i64 0,.int .i64 0,.string ⟨#[]⟩] 34)) w'):
  w'.cell? ⟨r,0,none⟩=some (.int .i64 0)/\w'.cell? ⟨r,1,none⟩=some (.int .i64 0)/\w'.cell? ⟨r,2,none⟩=some (.int .i64 0)/\w'.cell? ⟨r,3,none⟩=some (.string ⟨#[]⟩) /\
   w'.frozen? ⟨r,0,none⟩=false/\w'.frozen? ⟨r,1,none⟩=false/\w'.frozen? ⟨r,2,none⟩=false/\w'.frozen? ⟨r,3,none⟩=false/\r<w'.heap.size:=by
 subst hr;have h:=(RF.new w ⟨0,0,0,[]⟩ 34).below hb;exact⟨h.c0,h.c1,h.c2,h.c3,h.z 0,h.z 1,h.z 2,h.z 3,h.lt⟩
variable {S:Nat->Prop} {res res':Sp.Fault ⊕ List Sp.Pk} {w w' wx:World} {f:Sp.Fault} {a:Option Addr} {m c:Nat} {v7 v8:Value}
theorem behind(hS:∀ b,S b->b<w.heap.size)(hb:Below w.drew.heap.size w.drew w')
  (h:(res=.inl f/\1<=f.kind/\f.kind<=8/\Value.slice a m c=.slice none 0 0)\/(f=Sp.okF/\∃ A,res=.inr (pk A)/\PksOn (fun c=>S c\/(w.drew.heap.size<=c/\c<w'.heap.size)) w' (.slice a m c) A/\Z11.Shape (.slice a m c) A.length)):
  Vars S res w (.slice a m c) (.pointer (some ⟨w'.heap.size,0,none⟩)) (w'.alloc (.cells #[.int .i64 (f.kind:Int),.int .i64 (f.which:Int),.int .i64 (f.line:Int),.string ⟨f.name.toArray⟩] 34)):=by
 have hb':Below w.heap.size w w':=⟨hb.os,hb.tape,hb.output,hb.size,hb.block⟩
 have hz:=hb'.size;refine⟨hb'.alloc hb'.size _,w'.heap.size,f,rfl,hz,RF.new w' f 34,?_⟩
 rcases h with h|⟨h1,A,h2,h3,h4⟩
 ·exact .inl h
 ·refine .inr ⟨h1,A,h2,(h3.keep fun b hb1=>Below.heap_alloc _ _ _ ?_).mono fun b hb1=>?_,h4⟩
  ·rcases hb1 with hb1|hb1
   ·have:=hS b hb1;omega
   ·exact hb1.2
  ·rcases hb1 with hb1|hb1
   ·exact .inl hb1
   ·have h5:w.heap.size<=b:=hb1.1
    exact .inr ⟨h5,by simp;omega,by omega⟩
theorem ahead(hS:∀ b,S b->b<w.heap.size)(hb:Below (w.drew.alloc (.cells #[.int .i64 0,.int .i64 0,.int .i64 0,.string ⟨#[]⟩] 34)).heap.size (w.drew.alloc (.cells #[.int .i64 0,.int .i64 0,.int .i64 0,.string ⟨#[]⟩] 34)) w')
  (h:(res=.inl f/\1<=f.kind/\f.kind<=8/\Value.slice a m c=.slice none 0 0)\/(f=Sp.okF/\∃ A,res=.inr (pk A)/\PksOn (fun c=>S c\/((w.drew.alloc (.cells #[.int .i64 0,.int .i64 0,.int .i64 0,.string ⟨#[]⟩] 34)).heap.size<=c/\c<w'.heap.size)) w' (.slice a m c) A/\Z11.Shape (.slice a m c) A.length)):
  Vars S res w (.slice a m c) (.pointer (some ⟨w.heap.size,0,none⟩)) (putF w' w.heap.size f):=by
 have hz:w.heap.size+1<=w'.heap.size:=by have:=hb.size;simpa using this
 have hb':Below w.heap.size w w':=⟨hb.os,hb.tape,hb.output,by omega,fun k hk=>(hb.block k (by simp;omega)).trans (Below.heap_alloc _ _ _ hk)⟩
 have hr:RF w' w.heap.size ⟨0,0,0,[]⟩:=(RF.new w.drew ⟨0,0,0,[]⟩ 34).below hb;obtain⟨r1,r2⟩:=hr.put f;refine⟨hb'.trans ((putF_below w' w.heap.size f (Nat.le_refl _))),w.heap.size,f,rfl,Nat.le_refl _,r1,?_⟩
 rcases h with h|⟨h1,A,h2,h3,h4⟩
 ·exact .inl h
 ·refine .inr ⟨h1,A,h2,(h3.keep fun b hb1=>putF_other _ _ _ ?_).mono fun b hb1=>?_,h4⟩
  ·rcases hb1 with hb1|hb1
   ·have:=hS b hb1;omega
   ·have:w.heap.size+1<=b:=by have:=hb1.1;simpa using this
    omega
  ·rcases hb1 with hb1|hb1
   ·exact .inl hb1
   ·have:w.heap.size+1<=b:=by have:=hb1.1;simpa using this
    exact .inr ⟨by omega,by rw[putF_size];exact hb1.2,by omega⟩
theorem again(hS:∀ b,S b->b<w.heap.size)(h0:Below w.heap.size w wx){b:Nat}{f0:Sp.Fault}(hbw:w.heap.size<=b)(hr:RF wx b f0)(hb:Below wx.heap.size wx w')
  (h:(res=.inl f/\1<=f.kind/\f.kind<=8/\Value.slice a m c=.slice none 0 0)\/(f=Sp.okF/\∃ A,res=.inr (pk A)/\PksOn (fun c=>S c\/(wx.heap.size<=c/\c<w'.heap.size)) w' (.slice a m c) A/\Z11.Shape (.slice a m c) A.length)):
  Vars S res w (.slice a m c) (.pointer (some ⟨b,0,none⟩)) (putF w' b f):=by
 obtain⟨r1,r2⟩:=(hr.below hb).put f;have hz:=h0.size;have hl:=hr.lt;refine⟨(h0.trans (hb.mono hz)).trans (putF_below w' b f hbw),b,f,rfl,hbw,r1,?_⟩
 rcases h with h|⟨h1,A,h2,h3,h4⟩
 ·exact .inl h
 ·refine .inr ⟨h1,A,h2,(h3.keep fun d hd=>putF_other _ _ _ ?_).mono fun d hd=>?_,h4⟩
  ·rcases hd with hd|hd
   ·have:=hS d hd;omega
   ·have:=hd.1;omega
  ·rcases hd with hd|hd
   ·exact .inl hd
   ·exact .inr ⟨by omega,by rw[putF_size];exact hd.2,by omega⟩
end Z24
end
section
open Go.RowKit Go.Maps
theorem changes3_any{G B S k:Nat}{nc:Bool}{O:Nat->Prop}{w:World}{q x:Nat}{tv ov hv:Value}{X Y:List PV}{s:V19.PW}{hand:List Sp.Str}(hw:Wd G w)(h:WorldAt B O w q x S tv ov hv X Y s hand)(hi:V19.Alive S k nc s)(hk:k<9000)(hG:G<=B)(hB:B<=w.heap.size)(hqB:B<=q)(hO:Sp.Set s.O)(hOl:s.O.length<=600)
  (hhl:hand.length<=k)(hht:∀ t∈hand,t.length<=8192)(hnil:hand=[]->hv=.slice none 0 0)(v:Value)(C:Nat)(hv2:w.ownsRow C 9 1 v hand.length (hand.map sv))(hC:∀ g,O g->g<C)(hqC:q<C):
  Calls Tryz.prog 93 #[.pointer (some ⟨q,0,none⟩),.int .i64 3,v] w (Went B S k nc w q x):=by
 obtain⟨hT,hTl⟩:=V20.alive_few hi;have hXl:X.length<=600:=by
  have h1:(pk X).length=X.length:=pk_len X;rw[h.thereP] at h1;omega
 have hS:∀ b,(b<w.heap.size/\¬O b/\b≠q/\hv.ownBlock≠some b)->b<w.heap.size:=fun b hb=>hb.1
 have hbig:=hi.live.big;have hins:=fun W (hW:Below w.heap.size w W)=>installedR_any tv v hand X S W (h.there.keep fun b hb=>hW.block b hb.1) (fun b hb=>Nat.lt_of_lt_of_le hb.1 hW.size) ((StrsAt.of_row hv2).below hW) (by omega) (by omega) h.thereS (by rw[h.thereP];exact hT) hbig
 have HINS:=hid (fun W hW=>(hins W hW).mono fun e w'=>Z24.one);have hlaw:=V19.install hi (by omega) hand;rw[<-h.thereP,show Sp.room S=24*(S-8) from rfl] at hlaw;have c0:=h.c0;have c1:=h.c1;have c2:=h.c2;have hq:=h.lt;have HW0:=hid hw;have HH:=hid h;have HT:=hid hT;have HO:=hid hO;have HI:=hid hi;have HHT:=hid hht;have HNIL:=hid hnil;have HV2:=hid hv2;have HC:=hid hC;have HS:=hid hS;have HLAW:=hid hlaw;obtain⟨va,vc,rfl⟩:=W3.row_slice hv2;obtain⟨ta,tc,htv,_⟩:=h.there.get;subst htv;clear hins h hw hi hht hnil hv2 hC hS hT hlaw hO;go_enter Tryz.func93,Tryz.ntmps93;go_upto_region 1 with(fail)
 go_cut [7,8] from 13 to 25 (Z24.Vars (fun b=>b<w.heap.size/\¬O b/\b≠q/\hv.ownBlock≠some b) (Sp.installed (pk X) hand (24*(S-8))) w)
 case first =>
  go_region_with (first
   | (go_at_call 140;refine(HINS.out _ (((Below.refl w.heap.size w).drew).alloc (Nat.le_refl _) _)).mono ?_;rintro e w' ⟨f,a,m,c,rfl,hb',hres⟩;obtain⟨g0,g1,g2,g3,y0,y1,y2,y3,hr⟩:=Z24.after (w:=w.drew) (r:=w.heap.size) rfl hb')
   | (go_at_call 140;refine(HINS.out _ ((Below.refl w.heap.size w).drew)).mono ?_;rintro e w' ⟨f,a,m,c,rfl,hb',hres⟩))
  all_goals (go_wp2_with fail;go_meet)
  all_goals first|exact Z24.behind HS.out hb' hres|exact Z24.ahead HS.out hb' hres
 case rest =>
  obtain⟨hbx,b,f,rfl,hwb,hrf,hres⟩:=hcut;obtain⟨wx,hwx⟩:∃ wx,wx=wc:=⟨_,rfl⟩
  rw[<-hwx];rw[<-hwx] at hbx hrf hres;clear hwx;have HRES:=hid hres;have HBX:=hid hbx;have hzx:=hbx.size;have hbl:=hrf.lt;have hbA:Below wx.heap.size wx (wx.alloc (.cells #[.int .i64 0,.int .i64 0,.int .i64 0,.string ⟨#[]⟩] 23)):=(Below.refl _ _).alloc (Nat.le_refl _) _;obtain⟨wA,hwA⟩:∃ wA,wA=wx.alloc (.cells #[.int .i64 0,.int .i64 0,.int .i64 0,.string ⟨#[]⟩] 23):=⟨_,rfl⟩
  have hrA:RF wA wx.heap.size ⟨0,0,0,[]⟩:=by rw[hwA];exact RF.new wx ⟨0,0,0,[]⟩ 23
  rw[<-hwA] at hbA;have hb0A:=hbx.trans (hbA.mono hzx);have hcon:=(HH.out.ses.below hb0A).install (HW0.out.keep hb0A) hG (Nat.le_trans hB hb0A.size) (fit_live HI.out.live (by have:=HI.out.last;omega)) _ hand ((StrsAt.of_row HV2.out).below hb0A) (by omega);have HCON:=hid hcon;have HBA:=hid hbA;have HB0A:=hid hb0A;have HRA:=hid hrA;have HRFA:=hid (hrf.below hbA);have hzA:=hrA.lt;have cx0:=(HH.out.below hbx).c0;have qx:=(HH.out.below hbx).lt;clear hcon hbA hb0A hrA hres hbx hrf c0 c1 c2 HINS;go_wp2_with fail;rw[<-hwA];clear hwA cx0 qx;refine HCON.out.mono ?_;rintro e w5 ⟨rfl,hc5,hs5⟩;have hz5:=hc5.size;have hOlt:∀ j,O j->j<w.heap.size:=fun j hj=>(HH.out.ses.low j hj).2
  have hrA5:=HRA.out.chg hc5 fun e=>by have:=hOlt _ e;omega
  have hrF5:=HRFA.out.chg hc5 fun e=>by have:=hOlt _ e;omega
  have hc05:Chg O w w5:=(Chg.of_below HB0A.out).trans hc5;obtain⟨g,hg⟩:∃ g,g=(s.x.install hand).1:=⟨_,rfl⟩
  rw[<-hg];have k0:=hrA5.c0;have k1:=hrA5.c1;have k2:=hrA5.c2;have k3:=hrA5.c3;have y0:=hrA5.z 0;have y1:=hrA5.z 1;have y2:=hrA5.z 2;have y3:=hrA5.z 3;have hl5:=hrA5.lt;have HG:=hid hg;have HRA5:=hid hrA5;have HRF5:=hid hrF5;have HC05:=hid hc05;have HC5:=hid hc5;have HS5:=hid hs5;have HOLT:=hid hOlt;clear hg hrA5 hrF5 hc05 hc5 hs5 hOlt HCON;unfold faultV sv;go_upto_region 8 with(fail)
  obtain⟨w6,hw6⟩:∃ w6,w6=putF w5 wx.heap.size g:=⟨_,rfl⟩
  obtain⟨hp1,hp2⟩:=HRA5.out.put g;rw[<-hw6] at hp1 hp2;unfold putF at hw6;rw[<-hw6];clear hw6 k0 k1 k2 k3 y0 y1 y2 y3 hl5;have hz6:=hp2.size;have hrF6:=HRF5.out.chg hp2 fun e=>by have h1:b=wx.heap.size:=e;omega
  have hc06:Chg O w w6:=HC05.out.trans' hp2 fun j hj=>.inr (by have h1:j=wx.heap.size:=hj;omega)
  have hs6:=HS5.out.chg hp2 fun j hj e=>by
   have h1:j=wx.heap.size:=e
   rcases hj with hj|hj
   ·have:=HOLT.out _ hj;omega
   ·omega
  have h6:=HH.out.step hc06 hs6 fun j hj=>by
   rcases hj with hj|hj
   ·exact .inl hj
   ·right;omega
  have HV6:=hid (row_chg HV2.out hc06 fun g hg e=>by have:=HC.out g e;have:=(HV2.out.lt g hg).1;omega);have hq6:=h6.lt;have d0:=h6.c0;have f0:=hrF6.c0;have fl:=hrF6.lt;have HRG:=hid hp1;have HRF6:=hid hrF6;have H6:=hid h6;have HB6:=hid (hc06.lowB (fun j hj=>(HH.out.ses.low j hj).1) hB);have hkeep:∀ c,(c<w.heap.size/\¬O c/\c≠q/\hv.ownBlock≠some c)\/(w.heap.size<=c/\c<wx.heap.size/\c≠b)->w6.heap[c]? = wx.heap[c]?/\c<w6.heap.size/\¬(O c\/wA.heap.size<=c/\c<w5.heap.size)/\c≠q/\hv.ownBlock≠some c:=fun c hc=>by
   have hcl:c<wx.heap.size:=by rcases hc with hc|hc <;> omega
   have hnO:¬O c:=by
    rcases hc with hc|hc
    ·exact hc.2.1
    ·intro e;have:=HOLT.out _ e;omega
   have hqw:=HH.out.lt;refine⟨(hp2.block c (by omega) fun e=>by have h1:c=wx.heap.size:=e;omega).trans ((HC5.out.block c (by omega) hnO).trans (HBA.out.block c hcl)),by omega,fun e=>?_,?_,fun e=>?_⟩
   ·rcases e with e|e
    ·exact hnO e
    ·omega
   ·rcases hc with hc|hc
    ·exact hc.2.2.1
    ·omega
   ·rcases hc with hc|hc
    ·exact hc.2.2.2 e
    ·have:=(HH.out.row.lt c e).2;omega
  have HKEEP:=hid hkeep;clear hp1 hp2 hrF6 hc06 hs6 h6 hkeep
  rcases HLAW.out with⟨f1,l1,l2,l3⟩|⟨A,Bn,l2,l3,l4,l5⟩
  ·rcases HRES.out with⟨m1,m2,m3,rfl⟩|⟨_,A',m1,_⟩
   ·rw[l2] at m1
    injection m1 with m1
    subst m1;have hgf:g=f1:=by rw[HG.out,l3]
    subst hgf;have hx6:(s.x.install hand).2=s.x:=by rw[l3]
    rw[hx6] at H6;have hne:(((g.kind:Int)) == 0)=false:=by rw[beq_eq_false_iff_ne];omega
    have hlo:=H6.out.ses.lost;have HLO:=hid hlo;clear hlo l1 l2 l3 m2 m3 HLAW HRES;go_wp2_with fail;refine HLO.out.mono ?_;rintro e wq ⟨rfl,hwq⟩;have hwq':=hwq.symm;subst hwq';clear hwq;have hT1:=HT.out;obtain⟨hva,hvc,hhv⟩:=W3.row_slice H6.out.row;have e5:=H6.out.c5;have e9:=H6.out.lt;rw[hhv] at e5;have hsm:=sameL_any _ _ hand hand w6 (StrsAt.of_row HV6.out) (hhv ▸ StrsAt.of_row H6.out.row) (by omega);rw[decide_eq_true rfl] at hsm;have HSM:=hid hsm;clear hsm;go_wp2_with fail;refine HSM.out.mono ?_;rintro e w8 ⟨rfl,hb8⟩;have hz8:=hb8.size;have hrg8:=HRG.out.below hb8;have hrf8:=HRF6.out.below hb8;have i0:=hrg8.c0;have i1:=hrg8.c1;have i2:=hrg8.c2;have i3:=hrg8.c3;have il:=hrg8.lt;have j0:=hrf8.c0;have j1:=hrf8.c1;have j2:=hrf8.c2;have j3:=hrf8.c3;have jl:=hrf8.lt;have HB8:=hid (HB6.out.trans (hb8.mono (Nat.le_trans hB HB6.out.size)));have H8:=hid (H6.out.below hb8);clear hb8 hrg8 hrf8;have hsf:=fun W=>sameFaultN_any (g.kind:Int) (g.which:Int) (g.line:Int) g.name W
    have HSF:=hid hsf;clear hsf;go_wp2_with fail;refine(HSF.out _).mono ?_;rintro e w9 ⟨rfl,hb9⟩;have HB9:=hid (HB8.out.trans (hb9.mono (Nat.le_trans hB HB8.out.size)));have H9:=hid (H8.out.below hb9);clear hb9;have HF:=hid (⟨HB9.out,_,_,_,_,_,_,_,hand,H9.out,.inl (HI.out.mono (Nat.le_succ k)),HO.out,hOl,by omega,HHT.out,HNIL.out⟩:Below B w w9/\PlayAt B S (k+1) nc w9 q x)
    cases hdd:s.x.d.dead with
    | true =>
     go_wp2;go_ret;exact⟨rfl,HF.out⟩
    | false =>
     go_wp2;go_ret;exact⟨rfl,HF.out⟩
   ·rw[l2] at m1;cases m1
  ·rcases HRES.out with⟨m1,_⟩|⟨rfl,A',m1,m2,m3⟩
   ·rw[l2] at m1;cases m1
   ·rw[l2] at m1
    injection m1 with m1
    subst m1;have hgf:g=Sp.okF:=by rw[HG.out,l3]
    subst hgf;have hx6:(s.x.install hand).2=s.x.become Bn:=by rw[l3]
    rw[hx6] at H6;have hZ:=(m2.keep fun c hc=>(HKEEP.out c hc).1).mono fun c hc=>(HKEEP.out c hc).2
    obtain⟨aa,ac,rfl,_⟩:=m2.get;have hbec:=becomes_any H6.out _ A' hZ m3;have HBEC:=hid hbec;rw[HH.out.thereP] at l5;have HL5:=hid l5;clear hbec hZ m2 m3 l2 l3 l4 l5 HLAW HRES;unfold Sp.okF at f0;go_wp2_with fail;refine HBEC.out.mono ?_;rintro e w7 ⟨rfl,hc7,h7⟩;have hz7:=hc7.size;have HRG7:=hid (HRG.out.chg hc7 fun e=>by have h1:wx.heap.size=q:=e;have:=HH.out.lt;omega);have HRF7:=hid (HRF6.out.chg hc7 fun e=>by have h1:b=q:=e;have:=HH.out.lt;omega);have HV7:=hid (row_chg HV6.out hc7 fun g hg e=>by have h1:g=q:=e;have:=(HV6.out.lt g hg).1;omega);have HB7:=hid (HB6.out.trans (hc7.lowB (fun j hj=>by have h1:j=q:=hj;omega) (by omega)));have H7:=hid h7;have q7:=h7.lt;have e0:=h7.c0;have hlo:=h7.ses.lost;have HLO:=hid hlo;clear hlo hc7 h7 d0 f0 hq6 fl;go_wp2_with fail;refine HLO.out.mono ?_;rintro e wq ⟨rfl,hwq⟩;have hwq':=hwq.symm;subst hwq';clear hwq;obtain⟨hva,hvc,hhv⟩:=W3.row_slice H7.out.row;have e5:=H7.out.c5;have e9:=H7.out.lt;rw[hhv] at e5;have hsm:=sameL_any _ _ hand hand w7 (StrsAt.of_row HV7.out) (hhv ▸ StrsAt.of_row H7.out.row) (by omega);rw[decide_eq_true rfl] at hsm;have HSM:=hid hsm;clear hsm;go_wp2_with fail;refine HSM.out.mono ?_;rintro e w8 ⟨rfl,hb8⟩;have hz8:=hb8.size;have hrg8:=HRG7.out.below hb8;have hrf8:=HRF7.out.below hb8;have i0:=hrg8.c0;have i1:=hrg8.c1;have i2:=hrg8.c2;have i3:=hrg8.c3;have il:=hrg8.lt;have j0:=hrf8.c0;have j1:=hrf8.c1;have j2:=hrf8.c2;have j3:=hrf8.c3;have jl:=hrf8.lt;have HB8:=hid (HB7.out.trans (hb8.mono (Nat.le_trans hB HB7.out.size)));have H8:=hid (H7.out.below hb8);clear hb8 hrg8 hrf8;have hsf:=fun W=>sameFaultN_any (Sp.okF.kind:Int) (Sp.okF.which:Int) (Sp.okF.line:Int) Sp.okF.name W
    have HSF:=hid hsf;clear hsf;go_wp2_with fail;refine(HSF.out _).mono ?_;rintro e w9 ⟨rfl,hb9⟩;have HB9:=hid (HB8.out.trans (hb9.mono (Nat.le_trans hB HB8.out.size)));have H9:=hid (H8.out.below hb9);clear hb9;have HF:=hid (⟨HB9.out,_,_,_,_,_,_,_,hand,H9.out,HL5.out,HT.out,hTl,by omega,HHT.out,HNIL.out⟩:Below B w w9/\PlayAt B S (k+1) nc w9 q x)
    cases hdd:(s.x.become Bn).d.dead with
    | true =>
     go_wp2;go_ret;exact⟨rfl,HF.out⟩
    | false =>
     go_wp2;go_ret;exact⟨rfl,HF.out⟩
end
section
open Go.RowKit Go.Maps
theorem changes4_any{G B S k:Nat}{nc:Bool}{O:Nat->Prop}{w:World}{q x:Nat}{tv ov hv:Value}{X Y:List PV}{s:V19.PW}{hand:List Sp.Str}(hw:Wd G w)(h:WorldAt B O w q x S tv ov hv X Y s hand)(hi:V19.Alive S k nc s)(hk:k<9000)(hG:G<=B)(hB:B<=w.heap.size)(hqB:B<=q)(hO:Sp.Set s.O)(hOl:s.O.length<=600)
  (hhl:hand.length<=k)(hht:∀ t∈hand,t.length<=8192)(hnil:hand=[]->hv=.slice none 0 0)(v:Value)(C:Nat)(hv2:w.ownsRow C 9 1 v hand.length (hand.map sv))(hC:∀ g,O g->g<C)(hqC:q<C):
  Calls Tryz.prog 93 #[.pointer (some ⟨q,0,none⟩),.int .i64 4,v] w (Went B S k nc w q x):=by
 obtain⟨hT,hTl⟩:=V20.alive_few hi;have hXl:X.length<=600:=by
  have h1:(pk X).length=X.length:=pk_len X;rw[h.thereP] at h1;omega
 have hS:∀ b,(b<w.heap.size/\¬O b/\b≠q/\hv.ownBlock≠some b)->b<w.heap.size:=fun b hb=>hb.1
 have hbig:=hi.live.big;have hins:=fun W (hW:Below w.heap.size w W)=>installedR_any tv v hand X S W (h.there.keep fun b hb=>hW.block b hb.1) (fun b hb=>Nat.lt_of_lt_of_le hb.1 hW.size) ((StrsAt.of_row hv2).below hW) (by omega) (by omega) h.thereS (by rw[h.thereP];exact hT) hbig
 have HINS:=hid (fun W hW=>(hins W hW).mono fun e w'=>Z24.one);have hrem:=fun W (hW:Below w.heap.size w W)=>removedR_any tv v hand X W (h.there.keep fun b hb=>hW.block b hb.1) (fun b hb=>Nat.lt_of_lt_of_le hb.1 hW.size) ((StrsAt.of_row hv2).below hW) (by omega) (by omega) h.thereS (by rw[h.thereP];exact hT)
 have HREM:=hid (fun W hW=>(hrem W hW).mono fun e w'=>Z24.one);have hlaw:=V19.remove hi (by omega) hand;rw[<-h.thereP] at hlaw;have c0:=h.c0;have c1:=h.c1;have c2:=h.c2;have hq:=h.lt;have HW0:=hid hw;have HH:=hid h;have HT:=hid hT;have HO:=hid hO;have HI:=hid hi;have HHT:=hid hht;have HNIL:=hid hnil;have HV2:=hid hv2;have HC:=hid hC;have HS:=hid hS;have HLAW:=hid hlaw;obtain⟨va,vc,rfl⟩:=W3.row_slice hv2;obtain⟨ta,tc,htv,_⟩:=h.there.get;subst htv;clear hins hrem h hw hi hht hnil hv2 hC hS hT hlaw hO;go_enter Tryz.func93,Tryz.ntmps93;go_upto_region 1 with(fail)
 go_cut [7,8] from 13 to 25 (Z24.Vars (fun b=>b<w.heap.size/\¬O b/\b≠q/\hv.ownBlock≠some b) (Sp.installed (pk X) hand (24*(S-8))) w)
 case first =>
  go_region_with (first
   | (go_at_call 140;refine(HINS.out _ (((Below.refl w.heap.size w).drew).alloc (Nat.le_refl _) _)).mono ?_;rintro e w' ⟨f,a,m,c,rfl,hb',hres⟩;obtain⟨g0,g1,g2,g3,y0,y1,y2,y3,hr⟩:=Z24.after (w:=w.drew) (r:=w.heap.size) rfl hb')
   | (go_at_call 140;refine(HINS.out _ ((Below.refl w.heap.size w).drew)).mono ?_;rintro e w' ⟨f,a,m,c,rfl,hb',hres⟩))
  all_goals (go_wp2_with fail;go_meet)
  all_goals first|exact Z24.behind HS.out hb' hres|exact Z24.ahead HS.out hb' hres
 case rest =>
  obtain⟨hbx,b,f,rfl,hwb,hrf,hres⟩:=hcut;have hx:=HH.out.below hbx;have d2:=hx.c2;have qd:=hx.lt;have hblt:=hrf.lt;have r0:=hrf.c0;have r1:=hrf.c1;have r2:=hrf.c2;have r3:=hrf.c3;have HRF:=hid hrf;have HBX:=hid hbx;have HREM1:=hid (HREM.out wc hbx);clear hres hx hrf hbx HINS HREM c0 c1 c2;go_wp2_with fail;refine HREM1.out.mono ?_;rintro e w3 ⟨f3,a3,n3,c3,rfl,hb3,hres3⟩;have hrf3:=HRF.out.below hb3;have k0:=hrf3.c0;have k1:=hrf3.c1;have k2:=hrf3.c2;have k3:=hrf3.c3;have y0:=hrf3.z 0;have y1:=hrf3.z 1;have y2:=hrf3.z 2;have y3:=hrf3.z 3;have hl3:=hrf3.lt;have HAG:=hid (Z24.again HS.out HBX.out hwb HRF.out hb3 hres3);clear hb3 hres3 hrf3 r0 r1 r2 r3 d2 qd;go_upto_region 4 with(fail)
  obtain⟨wx,hwx⟩:∃ wx,wx=putF w3 b f3:=⟨_,rfl⟩
  rw[<-hwx] at HAG;unfold putF at hwx;rw[<-hwx];clear hwx k0 k1 k2 k3 y0 y1 y2 y3 hl3 hblt;obtain⟨hbx,b',f',hpb,_,hrf,hres⟩:=HAG.out;injection hpb with hpb
  injection hpb with hpb
  injection hpb with hpb1 _
  subst hpb1;clear HAG HREM1 HBX HRF f;rename_i f;have HRES:=hid hres;have HBX:=hid hbx;have hzx:=hbx.size;have hbl:=hrf.lt;have hbA:Below wx.heap.size wx (wx.alloc (.cells #[.int .i64 0,.int .i64 0,.int .i64 0,.string ⟨#[]⟩] 23)):=(Below.refl _ _).alloc (Nat.le_refl _) _;obtain⟨wA,hwA⟩:∃ wA,wA=wx.alloc (.cells #[.int .i64 0,.int .i64 0,.int .i64 0,.string ⟨#[]⟩] 23):=⟨_,rfl⟩
  have hrA:RF wA wx.heap.size ⟨0,0,0,[]⟩:=by rw[hwA];exact RF.new wx ⟨0,0,0,[]⟩ 23
  rw[<-hwA] at hbA;have hb0A:=hbx.trans (hbA.mono hzx);have hcon:=(HH.out.ses.below hb0A).remove (HW0.out.keep hb0A) hG (Nat.le_trans hB hb0A.size) (fit_live HI.out.live (by have:=HI.out.last;omega)) _ hand ((StrsAt.of_row HV2.out).below hb0A) (by omega) (fun n hn=>by have:=HHT.out n hn;omega);have HCON:=hid hcon;have HBA:=hid hbA;have HB0A:=hid hb0A;have HRA:=hid hrA;have HRFA:=hid (hrf.below hbA);have hzA:=hrA.lt;have cx0:=(HH.out.below hbx).c0;have qx:=(HH.out.below hbx).lt;clear hcon hbA hb0A hrA hres hbx hrf;go_wp2_with fail;rw[<-hwA];clear hwA cx0 qx;refine HCON.out.mono ?_;rintro e w5 ⟨rfl,hc5,hs5⟩;have hz5:=hc5.size;have hOlt:∀ j,O j->j<w.heap.size:=fun j hj=>(HH.out.ses.low j hj).2
  have hrA5:=HRA.out.chg hc5 fun e=>by have:=hOlt _ e;omega
  have hrF5:=HRFA.out.chg hc5 fun e=>by have:=hOlt _ e;omega
  have hc05:Chg O w w5:=(Chg.of_below HB0A.out).trans hc5;obtain⟨g,hg⟩:∃ g,g=(s.x.remove hand).1:=⟨_,rfl⟩
  rw[<-hg];have k0:=hrA5.c0;have k1:=hrA5.c1;have k2:=hrA5.c2;have k3:=hrA5.c3;have y0:=hrA5.z 0;have y1:=hrA5.z 1;have y2:=hrA5.z 2;have y3:=hrA5.z 3;have hl5:=hrA5.lt;have HG:=hid hg;have HRA5:=hid hrA5;have HRF5:=hid hrF5;have HC05:=hid hc05;have HC5:=hid hc5;have HS5:=hid hs5;have HOLT:=hid hOlt;clear hg hrA5 hrF5 hc05 hc5 hs5 hOlt HCON;unfold faultV sv;go_upto_region 8 with(fail)
  obtain⟨w6,hw6⟩:∃ w6,w6=putF w5 wx.heap.size g:=⟨_,rfl⟩
  obtain⟨hp1,hp2⟩:=HRA5.out.put g;rw[<-hw6] at hp1 hp2;unfold putF at hw6;rw[<-hw6];clear hw6 k0 k1 k2 k3 y0 y1 y2 y3 hl5;have hz6:=hp2.size;have hrF6:=HRF5.out.chg hp2 fun e=>by have h1:b=wx.heap.size:=e;omega
  have hc06:Chg O w w6:=HC05.out.trans' hp2 fun j hj=>.inr (by have h1:j=wx.heap.size:=hj;omega)
  have hs6:=HS5.out.chg hp2 fun j hj e=>by
   have h1:j=wx.heap.size:=e
   rcases hj with hj|hj
   ·have:=HOLT.out _ hj;omega
   ·omega
  have h6:=HH.out.step hc06 hs6 fun j hj=>by
   rcases hj with hj|hj
   ·exact .inl hj
   ·right;omega
  have HV6:=hid (row_chg HV2.out hc06 fun g hg e=>by have:=HC.out g e;have:=(HV2.out.lt g hg).1;omega);have hq6:=h6.lt;have d0:=h6.c0;have f0:=hrF6.c0;have fl:=hrF6.lt;have HRG:=hid hp1;have HRF6:=hid hrF6;have H6:=hid h6;have HB6:=hid (hc06.lowB (fun j hj=>(HH.out.ses.low j hj).1) hB);have hkeep:∀ c,(c<w.heap.size/\¬O c/\c≠q/\hv.ownBlock≠some c)\/(w.heap.size<=c/\c<wx.heap.size/\c≠b)->w6.heap[c]? = wx.heap[c]?/\c<w6.heap.size/\¬(O c\/wA.heap.size<=c/\c<w5.heap.size)/\c≠q/\hv.ownBlock≠some c:=fun c hc=>by
   have hcl:c<wx.heap.size:=by rcases hc with hc|hc <;> omega
   have hnO:¬O c:=by
    rcases hc with hc|hc
    ·exact hc.2.1
    ·intro e;have:=HOLT.out _ e;omega
   have hqw:=HH.out.lt;refine⟨(hp2.block c (by omega) fun e=>by have h1:c=wx.heap.size:=e;omega).trans ((HC5.out.block c (by omega) hnO).trans (HBA.out.block c hcl)),by omega,fun e=>?_,?_,fun e=>?_⟩
   ·rcases e with e|e
    ·exact hnO e
    ·omega
   ·rcases hc with hc|hc
    ·exact hc.2.2.1
    ·omega
   ·rcases hc with hc|hc
    ·exact hc.2.2.2 e
    ·have:=(HH.out.row.lt c e).2;omega
  have HKEEP:=hid hkeep;clear hp1 hp2 hrF6 hc06 hs6 h6 hkeep
  rcases HLAW.out with⟨f1,l1,l2,l3⟩|⟨A,Bn,l2,l3,l4,l5⟩
  ·rcases HRES.out with⟨m1,m2,m3,_⟩|⟨_,A',m1,_⟩
   ·rw[l2] at m1
    injection m1 with m1
    subst m1;have hgf:g=f1:=by rw[HG.out,l3]
    subst hgf;have hx6:(s.x.remove hand).2=s.x:=by rw[l3]
    rw[hx6] at H6;have hne:(((g.kind:Int)) == 0)=false:=by rw[beq_eq_false_iff_ne];omega
    have hlo:=H6.out.ses.lost;have HLO:=hid hlo;clear hlo l1 l2 l3 m2 m3 HLAW HRES;go_wp2_with fail;refine HLO.out.mono ?_;rintro e wq ⟨rfl,hwq⟩;have hwq':=hwq.symm;subst hwq';clear hwq;have hT1:=HT.out;obtain⟨hva,hvc,hhv⟩:=W3.row_slice H6.out.row;have e5:=H6.out.c5;have e9:=H6.out.lt;rw[hhv] at e5;have hsm:=sameL_any _ _ hand hand w6 (StrsAt.of_row HV6.out) (hhv ▸ StrsAt.of_row H6.out.row) (by omega);rw[decide_eq_true rfl] at hsm;have HSM:=hid hsm;clear hsm;go_wp2_with fail;refine HSM.out.mono ?_;rintro e w8 ⟨rfl,hb8⟩;have hz8:=hb8.size;have hrg8:=HRG.out.below hb8;have hrf8:=HRF6.out.below hb8;have i0:=hrg8.c0;have i1:=hrg8.c1;have i2:=hrg8.c2;have i3:=hrg8.c3;have il:=hrg8.lt;have j0:=hrf8.c0;have j1:=hrf8.c1;have j2:=hrf8.c2;have j3:=hrf8.c3;have jl:=hrf8.lt;have HB8:=hid (HB6.out.trans (hb8.mono (Nat.le_trans hB HB6.out.size)));have H8:=hid (H6.out.below hb8);clear hb8 hrg8 hrf8;have hsf:=fun W=>sameFaultN_any (g.kind:Int) (g.which:Int) (g.line:Int) g.name W
    have HSF:=hid hsf;clear hsf;go_wp2_with fail;refine(HSF.out _).mono ?_;rintro e w9 ⟨rfl,hb9⟩;have HB9:=hid (HB8.out.trans (hb9.mono (Nat.le_trans hB HB8.out.size)));have H9:=hid (H8.out.below hb9);clear hb9;have HF:=hid (⟨HB9.out,_,_,_,_,_,_,_,hand,H9.out,.inl (HI.out.mono (Nat.le_succ k)),HO.out,hOl,by omega,HHT.out,HNIL.out⟩:Below B w w9/\PlayAt B S (k+1) nc w9 q x)
    cases hdd:s.x.d.dead with
    | true =>
     go_wp2;go_ret;exact⟨rfl,HF.out⟩
    | false =>
     go_wp2;go_ret;exact⟨rfl,HF.out⟩
   ·rw[l2] at m1;cases m1
  ·rcases HRES.out with⟨m1,_⟩|⟨rfl,A',m1,m2,m3⟩
   ·rw[l2] at m1;cases m1
   ·rw[l2] at m1
    injection m1 with m1
    subst m1;have hgf:g=Sp.okF:=by rw[HG.out,l3]
    subst hgf;have hx6:(s.x.remove hand).2=s.x.become Bn:=by rw[l3]
    rw[hx6] at H6;have hZ:=(m2.keep fun c hc=>(HKEEP.out c hc).1).mono fun c hc=>(HKEEP.out c hc).2
    have hbec:=becomes_any H6.out _ A' hZ m3;have HBEC:=hid hbec;rw[HH.out.thereP] at l5;have HL5:=hid l5;clear hbec hZ m2 m3 l2 l3 l4 l5 HLAW HRES;unfold Sp.okF at f0;go_wp2_with fail;refine HBEC.out.mono ?_;rintro e w7 ⟨rfl,hc7,h7⟩;have hz7:=hc7.size;have HRG7:=hid (HRG.out.chg hc7 fun e=>by have h1:wx.heap.size=q:=e;have:=HH.out.lt;omega);have HRF7:=hid (HRF6.out.chg hc7 fun e=>by have h1:b=q:=e;have:=HH.out.lt;omega);have HV7:=hid (row_chg HV6.out hc7 fun g hg e=>by have h1:g=q:=e;have:=(HV6.out.lt g hg).1;omega);have HB7:=hid (HB6.out.trans (hc7.lowB (fun j hj=>by have h1:j=q:=hj;omega) (by omega)));have H7:=hid h7;have q7:=h7.lt;have e0:=h7.c0;have hlo:=h7.ses.lost;have HLO:=hid hlo;clear hlo hc7 h7 d0 f0 hq6 fl;go_wp2_with fail;refine HLO.out.mono ?_;rintro e wq ⟨rfl,hwq⟩;have hwq':=hwq.symm;subst hwq';clear hwq;obtain⟨hva,hvc,hhv⟩:=W3.row_slice H7.out.row;have e5:=H7.out.c5;have e9:=H7.out.lt;rw[hhv] at e5;have hsm:=sameL_any _ _ hand hand w7 (StrsAt.of_row HV7.out) (hhv ▸ StrsAt.of_row H7.out.row) (by omega);rw[decide_eq_true rfl] at hsm;have HSM:=hid hsm;clear hsm;go_wp2_with fail;refine HSM.out.mono ?_;rintro e w8 ⟨rfl,hb8⟩;have hz8:=hb8.size;have hrg8:=HRG7.out.below hb8;have hrf8:=HRF7.out.below hb8;have i0:=hrg8.c0;have i1:=hrg8.c1;have i2:=hrg8.c2;have i3:=hrg8.c3;have il:=hrg8.lt;have j0:=hrf8.c0;have j1:=hrf8.c1;have j2:=hrf8.c2;have j3:=hrf8.c3;have jl:=hrf8.lt;have HB8:=hid (HB7.out.trans (hb8.mono (Nat.le_trans hB HB7.out.size)));have H8:=hid (H7.out.below hb8);clear hb8 hrg8 hrf8;have hsf:=fun W=>sameFaultN_any (Sp.okF.kind:Int) (Sp.okF.which:Int) (Sp.okF.line:Int) Sp.okF.name W
    have HSF:=hid hsf;clear hsf;go_wp2_with fail;refine(HSF.out _).mono ?_;rintro e w9 ⟨rfl,hb9⟩;have HB9:=hid (HB8.out.trans (hb9.mono (Nat.le_trans hB HB8.out.size)));have H9:=hid (H8.out.below hb9);clear hb9;have HF:=hid (⟨HB9.out,_,_,_,_,_,_,_,hand,H9.out,HL5.out,HT.out,hTl,by omega,HHT.out,HNIL.out⟩:Below B w w9/\PlayAt B S (k+1) nc w9 q x)
    cases hdd:(s.x.become Bn).d.dead with
    | true =>
     go_wp2;go_ret;exact⟨rfl,HF.out⟩
    | false =>
     go_wp2;go_ret;exact⟨rfl,HF.out⟩
end
end Go.Proofs.YtfphcecjhdkcoaaGreatDoor

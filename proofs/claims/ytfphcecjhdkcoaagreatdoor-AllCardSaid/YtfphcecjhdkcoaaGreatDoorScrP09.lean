/-
The program's parsed, whatever text comes; its Read.
-/
import Derived.Test.YtfphcecjhdkcoaaGreatDoorScrP01
import Derived.Test.YtfphcecjhdkcoaaGreatDoorScrP08
import Derived.Deep.QuietTactic
import Derived.StillTailTactics
import Derived.IntWalk
import Derived.BigQuiet
import Derived.Deep.DeepCutAuto
import Derived.Deep.RegionWith
import Derived.Recover
import Derived.Defers
set_option maxRecDepth 100000
set_option maxHeartbeats 8000000
namespace Go.Proofs.YtfphcecjhdkcoaaGreatDoor
open Go.Lib (hid)
section
namespace P2
theorem among_len{s set:Sp.Str}{a b:Nat}(h:Sp.among s set a b=true):s.length<=b:=by
 unfold Sp.among at h;simp at h;exact h.2
theorem name_len{s:Sp.Str}(h:Sp.isName s=true):s.length<=12:=by
 unfold Sp.isName at h;simp at h;exact among_len h.1
theorem ver_len{s:Sp.Str}(h:Sp.isVer s=true):s.length<=16:=by
 unfold Sp.isVer at h;simp at h;exact among_len h.1
theorem sign_len{s:Sp.Str}(h:Sp.signs.contains s=true):s.length<=2:=by
 rw[List.contains_iff_mem] at h;have:∀ x∈Sp.signs,x.length<=2:=by decide
 exact this s h
theorem choose_ok{s:Sp.Str}{c:Sp.Ch}(h:Sp.choose s=some c):ChOk c:=by
 unfold ChOk;unfold Sp.choose at h
 split at h
 ·rename_i hn
  split at h
  ·split at h
   ·rename_i hm
    simp only[Bool.and_eq_true] at hm
    cases h
    have h1:=name_len hn;have h2:=sign_len hm.1.1.2;have h3:=ver_len hm.2
    show _+_+_<1000
    simp only;omega
   ·cases h
  ·cases h
   have h1:=name_len hn
   show _+_+_<1000
   simp only[List.length_nil];omega
 ·cases h
theorem mapO_mem{α β:Type}{f:α->Option β}:∀ {l:List α} {r:List β},Sp.mapO f l=some r->∀ y∈r,∃ x∈l,f x=some y
 | [],r,h,y,hy=>by cases h;cases hy
 | x :: l,r,h,y,hy=>by
  unfold Sp.mapO at h
  split at h
  ·rename_i z zs h1 h2
   cases h
   rcases List.mem_cons.1 hy with rfl|hy
   ·exact⟨x,by simp,h1⟩
   ·obtain⟨x',hx',hf⟩:=mapO_mem h2 y hy
    exact⟨x',by simp[hx'],hf⟩
  ·cases h
theorem each_ok{α:Type}{s sep:Sp.Str}{most:Nat}{one:Sp.Str->Option α}{l:List α}(h:Sp.each s sep most one=some l):l.length<=most/\∀ y∈l,∃ x,one x=some y:=by
 unfold Sp.each at h
 split at h
 ·rename_i l' hl
  split at h
  ·rename_i hle
   cases h
   exact⟨hle,fun y hy=>by obtain⟨x,_,hx⟩:=mapO_mem hl y hy;exact⟨x,hx⟩⟩
  ·cases h
 ·cases h
theorem group_ok{s:Sp.Str}{g:List Sp.Ch}(h:groupO s=some g):g.length<=3/\∀ c∈g,ChOk c:=by
 obtain⟨h1,h2⟩:=each_ok h;exact⟨h1,fun c hc=>by obtain⟨x,hx⟩:=h2 c hc;exact choose_ok hx⟩
theorem file_ok{p:Sp.Pk}{a b:Sp.Str}(hp:PkOk p)(ha:a.length<=300)(hb:b.length<=24)(hf:p.files.length<4):PkOk { p with files:=p.files ++ [⟨a,b⟩] }:=
 ⟨hp.name,hp.ver,hp.needs,hp.groups,hp.bars,hp.barred,by simp;omega,fun f hf'=>by
  rcases List.mem_append.1 hf' with h|h
  ·exact hp.paths f h
  ·rw[List.mem_singleton] at h;subst h;show _+_<_;simp only;omega⟩
theorem line_ok{p p':Sp.Pk}{first:Bool}{s:Sp.Str}(hp:PkOk p)(hs:s.length<=300)(h:Sp.line p first s=some p'):PkOk p':=by
 have hl1:=W2.cut_snd s [32];have hl2:=cut_fst (Lib.cut s [32]).2.1 [61];unfold Sp.line at h
 split at h
 ·cases h
 ·split at h
  ·split at h
   ·rename_i hc
    simp only[Bool.and_eq_true] at hc
    cases h
    exact⟨by show _<_;have:=name_len hc.1.2;simp only;omega,by show _<_;have:=ver_len hc.2;simp only;omega,hp.needs,hp.groups,hp.bars,hp.barred,hp.files,hp.paths⟩
   ·cases h
  ·split at h
   ·split at h
    ·obtain⟨g,hg,rfl⟩:=Option.map_eq_some_iff.1 h
     obtain⟨h1,h2⟩:=each_ok hg;exact⟨hp.name,hp.ver,h1,fun x hx=>by obtain⟨y,hy⟩:=h2 x hx;exact group_ok hy,hp.bars,hp.barred,hp.files,hp.paths⟩
    ·cases h
   ·split at h
    ·split at h
     ·obtain⟨g,hg,rfl⟩:=Option.map_eq_some_iff.1 h
      obtain⟨h1,h2⟩:=each_ok hg;exact⟨hp.name,hp.ver,hp.needs,hp.groups,h1,fun x hx=>by obtain⟨y,hy⟩:=h2 x hx;exact choose_ok hy,hp.files,hp.paths⟩
     ·cases h
    ·split at h
     ·split at h
      ·rename_i hc
       simp only[Bool.and_eq_true,decide_eq_true_eq] at hc
       cases h
       exact file_ok hp (by omega) hc.1.1.1.2 hc.1.1.2
      ·cases h
     ·cases h
end P2
end
section
open Go.RowKit
def LineRes(m b:Nat)(p:Sp.Pk)(first:Bool)(s:Sp.Str)(w:World)(e:Ending)(w':World):Prop:=
 FrN m b w w'/\((∃ p',Sp.line p first s=some p'/\e=.returned (.tuple #[])/\∃ m',m<=m'/\PackAt w' m' b p')\/(Sp.line p first s=none/\e=.panicked [{v:=.iface 177 (.agg #[]),recovered:=false}]))
theorem line_any{G:Nat}(m b i:Nat)(p:Sp.Pk)(s:ByteArray)(w:World)(hG:Glob G w)(hP:PackAt w m b p)(hok:PkOk p)(hs:(bl s).length<=300):
  Calls Tryz.prog 103 #[.pointer (some ⟨b,0,none⟩),.int .i64 (i:Int),.string s] w (LineRes m b p (i == 0) (bl s) w):=by
 have hs':s.size<1000000:=by rw[bl_len] at hs;omega
 have no:Sp.line p (i == 0) (bl s)=none->∀ e w',e=.panicked [{v:=.iface 177 (.agg #[]),recovered:=false}]/\FrN m b w w'->LineRes m b p (i == 0) (bl s) w e w':=fun h e w' h'=>⟨h'.2,.inr ⟨h,h'.1⟩⟩
 have yes:∀ p',Sp.line p (i == 0) (bl s)=some p'->∀ e w',(e=.returned (.tuple #[])/\∃ m',m<=m'/\PackAt w' m' b p'/\FrN m b w w')->LineRes m b p (i == 0) (bl s) w e w':=
  fun p' h e w' ⟨h1,m',h2,h3,h4⟩=>⟨h4,.inl ⟨p',h,h1,m',h2,h3⟩⟩
 have hi0:(((i:Nat):Int) == 0)=(i == 0):=by rw[Bool.eq_iff_iff,beq_iff_eq,beq_iff_eq];omega
 rcases hA:Lib.cut (bl s) [32] with⟨a1,a2,ok⟩
 unfold Sp.line at no yes;simp only[hA] at no yes
 cases hc:(ok && ((i == 0) == (a1 == Sp.packageW))) with
 | false =>
  rw[hc] at no;exact(line_no0 m b p s w hG hP hs' i a1 a2 ok _ _ hA rfl rfl (by rw[hi0];exact hc)).mono (no rfl)
 | true =>
  rw[hc] at no yes;simp only[Bool.not_true,Bool.false_eq_true,if_false] at no yes;obtain⟨hok1,hc2⟩:=Bool.and_eq_true_iff.1 hc;subst hok1;have hc3:(i == 0)=(a1 == Sp.packageW):=by simpa using hc2
  cases hw0:(a1 == Sp.packageW) with
  | true =>
   rw[hw0] at no yes hc3;have hi:i=0:=by simpa using hc3
   simp only[if_true] at no yes
   rcases hB:Lib.cut a2 [32] with⟨b1,b2,two⟩
   simp only[hB] at no yes
   cases two with
   | false=>exact(line_package_no1 m b p s w hG hP hs' i a1 a2 b1 b2 hA hi hw0 hB).mono (no (by simp))
   | true =>
    cases hn:Sp.isName b1 with
    | false=>exact(line_package_no2 m b p s w hG hP hs' i a1 a2 b1 b2 hA hi hw0 hB hn).mono (no (by simp[hn]))
    | true =>
     cases hv:Sp.isVer b2 with
     | false=>exact(line_package_no3 m b p s w hG hP hs' i a1 a2 b1 b2 hA hi hw0 hB hn hv).mono (no (by simp[hv]))
     | true =>
      subst hi;exact(line_package m b p s w hG hP hs' a1 a2 b1 b2 hA hw0 hB hn hv).mono (yes _ (by simp[hn,hv]))
  | false =>
   rw[hw0] at no yes hc3;have hi:((i:Int) == 0)=false:=by rw[hi0];exact hc3
   simp only[Bool.false_eq_true,if_false] at no yes
   cases hw1:(a1 == Sp.needsW) with
   | true =>
    rw[hw1] at no yes;simp only[if_true] at no yes
    by_cases hne:p.needs=[]
    ·by_cases hbe:p.bars=[]
     ·by_cases hfe:p.files=[]
      ·rw[hne,hbe,hfe] at no yes
       simp only[List.isEmpty_nil,Bool.and_self,if_true] at no yes
       cases hE:Sp.each a2 [44,32] 3 groupO with
       | none =>
        exact(line_needs_no4 m b p s w hG hP hs' i a1 a2 hA hi hw0 hw1 hne hbe hfe hE).mono (no (by
         have:Sp.each a2 [44,32] 3 (fun g=>Sp.each g [32,124,32] 3 Sp.choose)=none:=hE;rw[this];rfl))
       | some gs =>
        refine(line_needs_yes m b p s w hG hP hs' i a1 a2 hA hi hw0 hw1 hne hbe hfe gs hE).mono (yes _ ?_);have:Sp.each a2 [44,32] 3 (fun g=>Sp.each g [32,124,32] 3 Sp.choose)=some gs:=hE;rw[this,<-hbe,<-hfe];rfl
      ·exact(line_needs_no3 m b p s w hG hP hs' i a1 a2 hA hi hw0 hw1 hne hbe hfe).mono (no (by simp[hfe]))
     ·exact(line_needs_no2 m b p s w hG hP hs' i a1 a2 hA hi hw0 hw1 hne hbe).mono (no (by simp[hbe]))
    ·exact(line_needs_no1 m b p s w hG hP hs' i a1 a2 hA hi hw0 hw1 hne).mono (no (by simp[hne]))
   | false =>
    rw[hw1] at no yes;simp only[Bool.false_eq_true,if_false] at no yes
    cases hw2:(a1 == Sp.barsW) with
    | true =>
     rw[hw2] at no yes;simp only[if_true] at no yes
     by_cases hbe:p.bars=[]
     ·by_cases hfe:p.files=[]
      ·rw[hbe,hfe] at no yes
       simp only[List.isEmpty_nil,Bool.and_self,if_true] at no yes
       cases hE:Sp.each a2 [44,32] 3 Sp.choose with
       | none=>exact(line_bars_no3 m b p s w hG hP hs' i a1 a2 hA hi hw0 hw1 hw2 hbe hfe hE).mono (no (by rw[hE];rfl))
       | some cs=>exact(line_bars_yes m b p s w hG hP hs' i a1 a2 hA hi hw0 hw1 hw2 hbe hfe cs hE).mono (yes _ (by rw[hE,<-hfe];rfl))
      ·exact(line_bars_no2 m b p s w hG hP hs' i a1 a2 hA hi hw0 hw1 hw2 hbe hfe).mono (no (by simp[hfe]))
     ·exact(line_bars_no1 m b p s w hG hP hs' i a1 a2 hA hi hw0 hw1 hw2 hbe).mono (no (by simp[hbe]))
    | false =>
     rw[hw2] at no yes;simp only[Bool.false_eq_true,if_false] at no yes
     cases hw3:(a1 == Sp.fileW) with
     | false =>
      rw[hw3] at no;exact(line_other m b p s w hG hP hs' i a1 a2 hA hi hw0 hw1 hw2 hw3).mono (no (by simp))
     | true =>
      rw[hw3] at no yes;simp only[if_true] at no yes
      rcases hB:Lib.cut a2 [61] with⟨b1,b2,two⟩
      simp only[hB] at no yes
      cases two with
      | false=>exact(line_file_no1 m b p s w hG hP hs' i a1 a2 b1 b2 hA hi hw0 hw1 hw2 hw3 hB).mono (no (by simp))
      | true =>
       by_cases hc:b2.length<=24
       ·by_cases hfl:p.files.length<4
        ·cases hp:Sp.isPath b1 with
         | false=>exact(line_file_no4 m b p s w hG hP hs' i a1 a2 b1 b2 hA hi hw0 hw1 hw2 hw3 hB hc hfl hp).mono (no (by simp[hp]))
         | true =>
          have hb1:b1.length<=300:=by
           have h1:=W2.cut_snd (bl s) [32];have h2:=cut_fst a2 [61];rw[hA] at h1;rw[hB] at h2;simp only at h1 h2;omega
          refine(line_file_yes0 m b p s w hG hP hs' i a1 a2 b1 b2 hA hi hw0 hw1 hw2 hw3 hB hc hfl hp (P2.file_ok hok hb1 hc hfl)).mono ?_;rintro e w' ⟨hF,(⟨hcl,rfl,hP'⟩|⟨hcl,rfl⟩)⟩
          ·exact yes _ (by simp[hc,hfl,hp,hcl]) _ _ ⟨rfl,m,Nat.le_refl _,hP',hF⟩
          ·exact no (by simp[hcl]) _ _ ⟨rfl,hF⟩
        ·exact(line_file_no3 m b p s w hG hP hs' i a1 a2 b1 b2 hA hi hw0 hw1 hw2 hw3 hB hc (by omega)).mono (no (by simp[hfl]))
       ·exact(line_file_no2 m b p s w hG hP hs' i a1 a2 b1 b2 hA hi hw0 hw1 hw2 hw3 hB (by omega)).mono (no (by simp[hc]))
end
section
open Go.RowKit
theorem less_any(a b:Sp.Fl)(w:World):
  Calls Tryz.prog 105 #[.agg #[sv a.path,sv a.content],.agg #[sv b.path,sv b.content]] w fun e w'=>e=.returned (.int .i64 (Lib.compareBytes a.path b.path))/\Below w.heap.size w w':=by
 unfold sv;go_enter Tryz.func105,Tryz.ntmps105;go_wp2_with fail;refine(compare_any _ _ _).mono ?_;rintro e w1 ⟨rfl,rfl⟩;rw[bl_mk,bl_mk];go_wp2_with fail;go_ret;exact⟨rfl,((Below.refl _ _).alloc (Nat.le_refl _) _).alloc (by simp) _⟩
theorem insertion_any(g cap:Nat)(l0:List Sp.Fl)(w:World)(h:FilesAt w g l0)(hn:l0.length<=4):
  Calls Tryz.prog 199 #[.slice (some ⟨g,0,none⟩) l0.length cap,.int .i64 0,.int .i64 (l0.length:Int),.func (.func 105) #[] #[]] w fun e w'=>e=.returned (.tuple #[])/\FilesAt w' g (Sp.sortF l0)/\FrN w.heap.size g w w':=by
 go_enter Tryz.func199,Tryz.ntmps199;go_wp2_with fail;refine wp_loop_down (fun n a W=>∃ (x9 x12 x13 x14 x15 x16 x17 x18 x19 x20 x21 x22 x23 x24 x25 x26 x27 x28 x29 x30 x31 x32 x33 x34 x35 x36 x37 x38 x39 x40 x41 x42 x43 x44 x45 x46 x47 x48 x49 x50 x51 x52:Value) (i:Nat) (l:List Sp.Fl),a={ tmps:=#[Value.slice (some ⟨g,0,none⟩) l0.length cap,Value.int .i64 0,Value.int .i64 (l0.length:Int),Value.func (.func 105) #[] #[],undef,undef,undef,undef,Value.int .i64 (i:Int),x9,Value.int .i64 0,Value.int .i64 1,x12,x13,x14,x15,x16,x17,x18,x19,x20,x21,x22,x23,x24,x25,x26,x27,x28,x29,x30,x31,x32,x33,x34,x35,x36,x37,x38,x39,x40,x41,x42,x43,x44,x45,x46,x47,x48,x49,x50,x51,x52],defers:=[] }/\1<=i/\i<=4/\n=l0.length-i/\l=Sp.sortF (l0.take i) ++ l0.drop i/\l.length=l0.length/\FilesAt W g l/\FrN w.heap.size g w W) (l0.length-1) ?_ ?_
 ·exact⟨_,_,_,_,_,_,_,_,_,_,_,_,_,_,_,_,_,_,_,_,_,_,_,_,_,_,_,_,_,_,_,_,_,_,_,_,_,_,_,_,_,_,1,l0,rfl,by omega,by omega,rfl,sort_start l0,rfl,h,FrN.refl _ _ _⟩
 ·rintro n a W ⟨x9,x12,x13,x14,x15,x16,x17,x18,x19,x20,x21,x22,x23,x24,x25,x26,x27,x28,x29,x30,x31,x32,x33,x34,x35,x36,x37,x38,x39,x40,x41,x42,x43,x44,x45,x46,x47,x48,x49,x50,x51,x52,i,l,rfl,hi1,hi4,rfl,hl,hlen,hF,hfr⟩
  by_cases hlt:i<l0.length
  ·go_wp2_with fail
   have hS:=P3.sortF_ord (l0.take i);have hSl:(Sp.sortF (l0.take i)).length=i:=by rw[P3.sortF_len,List.length_take];omega
   have hdrop:l0.drop i=l0[i] :: l0.drop (i+1):=List.drop_eq_getElem_cons hlt;have htake:l0.take (i+1)=l0.take i ++ [l0[i]]:=by rw[List.take_add_one,List.getElem?_eq_getElem hlt];rfl
   generalize hf:l0[i]=f at hdrop htake;generalize hr:l0.drop (i+1)=rest at hdrop;generalize hSe:Sp.sortF (l0.take i)=S at hS hSl hl;have HT:=hid htake;have HR:=hid hr;have HS:=hid hS;have HSe:=hid hSe;rw[hdrop] at hl;subst hl;clear htake hr hS hSe hdrop hf;refine wp_loop_down (fun m a W=>∃ (x18 x19 x20 x21 x22 x23 x24 x25 x26 x27 x28 x29 x30 x31 x32 x33 x34 x35 x36 x37 x38 x39 x40 x41 x42 x43 x44 x45 x46 x47 x48 x49 x50 x51 x52:Value) (j:Nat) (pre moved:List Sp.Fl),a={ tmps:=#[Value.slice (some ⟨g,0,none⟩) l0.length cap,Value.int .i64 0,Value.int .i64 (l0.length:Int),Value.func (.func 105) #[] #[],undef,undef,undef,undef,Value.int .i64 (i:Int),Value.int .i64 (j:Int),Value.int .i64 0,Value.int .i64 1,Value.int .i64 (i:Int),Value.int .i64 (l0.length:Int),Value.bool true,x15,x16,Value.int .i64 (i:Int),x18,x19,x20,x21,x22,x23,x24,x25,x26,x27,x28,x29,x30,x31,x32,x33,x34,x35,x36,x37,x38,x39,x40,x41,x42,x43,x44,x45,x46,x47,x48,x49,x50,x51,x52],defers:=[] }/\m=j/\pre.length=j/\j<=i/\pre ++ moved=S/\(∀ y r,moved=y :: r->Sp.strLt f.path y.path=true)/\FilesAt W g (pre ++ f :: (moved ++ rest))/\FrN w.heap.size g w W) i ?_ ?_
   ·exact⟨_,_,_,_,_,_,_,_,_,_,_,_,_,_,_,_,_,_,_,_,_,_,_,_,_,_,_,_,_,_,_,_,_,_,_,i,S,[],rfl,rfl,hSl,Nat.le_refl _,List.append_nil _,(fun y r e=>by cases e),hF,hfr⟩
   ·clear hF hfr
    rintro m a W2 ⟨x18,x19,x20,x21,x22,x23,x24,x25,x26,x27,x28,x29,x30,x31,x32,x33,x34,x35,x36,x37,x38,x39,x40,x41,x42,x43,x44,x45,x46,x47,x48,x49,x50,x51,x52,j,pre,moved,rfl,hmj,hpl,hji,hpm,hmv,hF2,hfr2⟩;subst hmj
    dsimp only
    cases m with
    | zero =>
     obtain rfl:=List.length_eq_zero_iff.1 hpl;rw[show((0:Nat):Int)=0 from rfl];have hend:Sp.sortF (l0.take (i+1)) ++ l0.drop (i+1)=f :: (moved ++ rest):=by
      rw[HT.out,P3.sortF_snoc,HSe.out,<-hpm,P3.ins_stop (by rw[hpm];exact HS.out) hmv (.inl rfl),HR.out];simp
     have HE:=hid hend;have HF2:=hid hF2;clear hmv hend hF2 hpm hlen;go_wp2_with fail;go_quiet (fail);go_wp2_with fail;have hbq:Below W2.heap.size W2 (W2.drewN nq):=below_drawn W2 nq;exact⟨l0.length-(i+1),by omega,_,_,_,_,_,_,_,_,_,_,_,_,_,_,_,_,_,_,_,_,_,_,_,_,_,_,_,_,_,_,_,_,_,_,_,_,_,_,_,_,_,_,i+1,_,rfl,by omega,by omega,rfl,rfl,by simp[P3.sortF_len];omega,(by rw[HE.out];exact HF2.out.below hbq),hfr2.trans (FrN.of_below hbq hfr2.size)⟩
    | succ m =>
     obtain⟨pre',x,rfl⟩:∃ p x,pre=p ++ [x]:=⟨pre.dropLast,pre.getLast (by intro e;rw[e] at hpl;cases hpl),(List.dropLast_concat_getLast _).symm⟩
     have hpl':pre'.length=m:=by simpa using hpl
     have hLL:(pre' ++ [x]) ++ f :: (moved ++ rest)=pre' ++ x :: f :: (moved ++ rest):=by simp
     rw[hLL] at hF2;have gx:=hF2.1 m (by simp;omega);have gf:=hF2.1 (m+1) (by simp;omega);have ex:(pre' ++ x :: f :: (moved ++ rest))[m]'(by simp;omega)=x:=by simp[<-hpl']
     have ef:(pre' ++ x :: f :: (moved ++ rest))[m+1]'(by simp;omega)=f:=by simp[<-hpl']
     rw[ex] at gx;rw[ef] at gf;obtain⟨gx0,gx1⟩:=gx;obtain⟨gf0,gf1⟩:=gf;have hml:m+1<l0.length:=by omega
     rw[show(((m+1:Nat)):Int)=(m:Int)+1 from by omega];have q1:decide ((0:Int)<(m:Int)+1)=true:=decide_eq_true (by omega);have q2:(m:Int)+1-1=m:=by omega
     have q3:IntKind.i64.wrap ((m:Int))=(m:Int):=IntWalk.i64_in _ ⟨by omega,by omega⟩;have q4:((m:Int)+1).toNat=m+1:=by omega
     have q5:(0:Int)<=(m:Int)+1:=by omega
     have q6:(m:Int)+1<(l0.length:Int):=by omega
     have q7:(m:Int)<(l0.length:Int):=by omega
     go_wp2_with fail
     go_cut [34] from 18 to 52 (fun t wx=>t=.bool (decide (Lib.compareBytes f.path x.path<0))/\Below W2.heap.size W2 wx)
     case first =>
      unfold sv at gx0 gx1 gf0 gf1;have hla:=less_any f x;unfold sv at hla;go_still_tail 14,(by kernel_rfl)
      change wpList _ _ _ _ _ (World.drew W2);go_wp2_with (go_at_call 105;refine(hla _).mono ?_;rintro e w3 ⟨rfl,hb3⟩);go_meet;exact⟨by simp,⟨hb3.os,hb3.tape,hb3.output,hb3.size,hb3.block⟩⟩
     case rest =>
      obtain⟨rfl,hb3⟩:=hcut;have hF3:=hF2.below hb3;have hg3:g<wc.heap.size:=hF3.2.2;have hx0:=((bcell hb3).1 g (m*2) hF2.2.2).trans gx0;have hx1:=((bcell hb3).1 g (m*2+1) hF2.2.2).trans gx1;have hf0:=((bcell hb3).1 g ((m+1)*2) hF2.2.2).trans gf0;have hf1:=((bcell hb3).1 g ((m+1)*2+1) hF2.2.2).trans gf1;have hz0:=hF3.2.1 (m*2);have hz1:=hF3.2.1 (m*2+1);have hz2:=hF3.2.1 ((m+1)*2);have hz3:=hF3.2.1 ((m+1)*2+1);have hfr3:=hfr2.trans (FrN.of_below (n:=w.heap.size) (b:=g) hb3 hfr2.size);unfold sv at hx0 hx1 hf0 hf1;clear gx0 gx1 gf0 gf1
      cases hlt2:Sp.strLt f.path x.path with
      | false =>
       rw[show decide (Lib.compareBytes f.path x.path<0)=false from decide_eq_false (by rw[P3.cmp_lt,hlt2];simp)];have hend:Sp.sortF (l0.take (i+1)) ++ l0.drop (i+1)=(pre' ++ [x]) ++ f :: (moved ++ rest):=by
        rw[HT.out,P3.sortF_snoc,HSe.out,<-hpm,P3.ins_stop (by rw[hpm];exact HS.out) hmv (.inr ⟨pre',x,rfl,hlt2⟩),HR.out];simp
       have HE:=hid hend;have HF3:=hid hF3;clear hmv hend hF2 hF3 hpm hlen;go_wp2_with fail;exact⟨l0.length-(i+1),by omega,_,_,_,_,_,_,_,_,_,_,_,_,_,_,_,_,_,_,_,_,_,_,_,_,_,_,_,_,_,_,_,_,_,_,_,_,_,_,_,_,_,_,i+1,_,rfl,by omega,by omega,rfl,rfl,by simp[P3.sortF_len];omega,(by rw[HE.out,hLL];exact HF3.out),hfr3⟩
      | true =>
       rw[show decide (Lib.compareBytes f.path x.path<0)=true from decide_eq_true (by rw[P3.cmp_lt,hlt2])];have HF3:=hid hF3;have HMV:=hid hmv;clear hF2 hF3 hmv;go_wp2_with fail;have hsw:=files_swap (A:=pre') (x:=x) (f:=f) (B:=moved ++ rest) HF3.out hpl';have hsw2:=hsw.1.below (below_drawn _ 1);have hfr4:=hfr3.trans (hsw.2 w.heap.size);have HS1:=hid hsw2;have HS2:=hid hfr4;have hmv':∀ (y:Sp.Fl) (r:List Sp.Fl),x :: moved=y :: r->Sp.strLt f.path y.path=true:=by
        intro y r e;cases e;exact hlt2
       have HMV':=hid hmv';clear hsw hsw2 hfr4 hmv';go_region;go_wp2_with fail;exact⟨m,by omega,_,_,_,_,_,_,_,_,_,_,_,_,_,_,_,_,_,_,_,_,_,_,_,_,_,_,_,_,_,_,_,_,_,_,_,m,pre',x :: moved,rfl,rfl,hpl',by omega,by rw[<-hpm];simp,HMV'.out,HS1.out,FrN.trans HS2.out ⟨rfl,rfl,rfl,Nat.le_refl _,fun _ _ _=>rfl⟩⟩
  ·have hdone:Sp.sortF (l0.take i) ++ l0.drop i=Sp.sortF l0:=by
    rw[List.take_of_length_le (by omega),List.drop_eq_nil_of_le (by omega),List.append_nil]
   rw[hl,hdone] at hF;clear hl;go_wp2_with fail
   go_end0
   exact⟨rfl,hF,hfr⟩
end
section
open Go.RowKit
theorem pdq_any(g cap:Nat)(x:Int)(l0:List Sp.Fl)(w:World)(h:FilesAt w g l0)(hn:l0.length<=4):
  Calls Tryz.prog 160 #[.slice (some ⟨g,0,none⟩) l0.length cap,.int .i64 0,.int .i64 (l0.length:Int),.int .i64 x,.func (.func 105) #[] #[]] w fun e w'=>e=.returned (.tuple #[])/\FilesAt w' g (Sp.sortF l0)/\FrN w.heap.size g w w':=by
 have hc:=insertion_any g cap l0 w h hn;go_enter Tryz.func160,Tryz.ntmps160;go_wp2_with fail;refine wp_loop_rounds 1 ?_;rw[rounds_succ];go_wp2_with (go_at_call 199;refine hc.mono ?_;rintro e w1 ⟨rfl,h1,h2⟩)
 first
  | go_end0
  | refine bodyPost_ret (results_none rfl _ _ _) rfl ?_
 exact⟨rfl,h1,h2⟩
theorem sort_any(g cap:Nat)(l0:List Sp.Fl)(w:World)(h:FilesAt w g l0)(hn:l0.length<=4):
  Calls Tryz.prog 104 #[.slice (some ⟨g,0,none⟩) l0.length cap,.func (.func 105) #[] #[]] w fun e w'=>e=.returned (.tuple #[])/\FilesAt w' g (Sp.sortF l0)/\FrN w.heap.size g w w':=by
 have hc:=fun x=>pdq_any g cap x l0 w h hn
 have hb:=Tryz.bits_Len (l0.length:Int) w (by omega) (by omega);go_enter Tryz.func104,Tryz.ntmps104;go_wp2_with (first
  | (go_at_call 161;refine hb.mono ?_;rintro e w1 ⟨rfl,rfl⟩)
  | (go_at_call 160;refine(hc _).mono ?_;rintro e w1 ⟨rfl,h1,h2⟩))
 go_end0
 exact⟨rfl,h1,h2⟩
end
section
open Go.RowKit
theorem as177(v:Value)(w:World):(Instr.typeAssert (.iface 177 v) 20 177 true).run Tryz.prog w=.ok (.tuple #[v,.bool true]) w:=by kernel_rfl
theorem catch_bad(ab pb bb:Nat)(a:Int)(vp vb:Value)(w:World)(ha:w.cell? ⟨ab,0,none⟩=some (.int .i64 a))(hp:w.cell? ⟨pb,0,none⟩=some vp)(hb:w.cell? ⟨bb,0,none⟩=some vb)
  (zp:w.frozen? ⟨pb,0,none⟩=false)(zb:w.frozen? ⟨bb,0,none⟩=false)(h1:ab<w.heap.size)(h2:pb<w.heap.size)(h3:bb<w.heap.size)(hne2:bb≠pb):
  CallsD Tryz.prog 100 #[.pointer (some ⟨ab,0,none⟩),.pointer (some ⟨pb,0,none⟩),.pointer (some ⟨bb,0,none⟩)] (.panicking ([{ v:=.iface 177 (.agg #[]),recovered:=false }])) w fun e u' w' =>
   e=.returned (.tuple #[])/\u'=.panicking ([{ v:=.iface 177 (.agg #[]),recovered:=true }])/\w'=((w.setCell ⟨pb,0,none⟩ (.pointer none)).setCell ⟨bb,0,none⟩ (.int .i64 a)).alloc (.cells #[] 177):=by
 refine callsD_of_wpS Tryz.func100 rfl fun c₀ cs hu=>?_
 apply wpS_seq
 apply wpS_region
 simp[wpOpsS,go_sem,recoverD,hu,Tryz.ntmps100,Exit.thenS];refine wpS_of_wp ?_;simp only[Array.replicate_succ,Array.replicate_zero,List.push_toArray,List.append_toArray,List.nil_append,List.cons_append,List.setIfInBounds_toArray,List.set_cons_zero,List.set_cons_succ];have has:=as177 (.agg #[]) w;go_wp2;simp[bodyPostS,results,Tryz.results100]
theorem catch_idle(ab pb bb:Nat)(w:World):
  CallsD Tryz.prog 100 #[.pointer (some ⟨ab,0,none⟩),.pointer (some ⟨pb,0,none⟩),.pointer (some ⟨bb,0,none⟩)] .returning w fun e u' w'=>e=.returned (.tuple #[])/\u'=.returning/\w'=w:=by
 refine callsD_of_wpS Tryz.func100 rfl fun c₀ cs hu=>?_
 apply wpS_seq
 apply wpS_region
 simp[wpOpsS,go_sem,recoverD,hu,Tryz.ntmps100,Exit.thenS];refine wpS_of_wp ?_;simp only[Array.replicate_succ,Array.replicate_zero,List.push_toArray,List.append_toArray,List.nil_append,List.cons_append,List.setIfInBounds_toArray,List.set_cons_zero,List.set_cons_succ];go_wp2
 cases c₀
 simp_all [bodyPostS,results,Tryz.results100]
end
section
open Go.RowKit
theorem splitS_at{G:Nat}(s p:ByteArray)(w:World)(hG:Glob G w)(hs:s.size<4294967281)(hp:0<p.size):
  Calls Tryz.prog 101 #[.string s,.string p] w fun e w'=>(∃ cap,e=.returned (.slice (some ⟨w.heap.size,0,none⟩) (Lib.split (bl s) (bl p)).length cap)) /\
   (∀ k,(hk:k<(Lib.split (bl s) (bl p)).length)->w'.cell? ⟨w.heap.size,k,none⟩=some (.string ⟨((Lib.split (bl s) (bl p))[k]).toArray⟩))/\Below w.heap.size w w'/\w'.heap.size=w.heap.size+1:=by
 obtain⟨m,hm⟩:=hG.maxlen;refine(Tryz.strings_Split s p m w hs hm hp).mono fun e w' ⟨h1,h2⟩=>?_
 subst h1;subst h2;have hlen:(Lib.splitB p 0 (Lib.countB s p) s).length=Lib.countB s p+1:=Lib.splitB_all p hp 0 _ s rfl;have hdat:(Lib.splitB p 0 (Lib.countB s p) s).map bl=Lib.split (bl s) (bl p):=Lib.splitB_data p 0 (Lib.countB s p) s;have hl2:(Lib.split (bl s) (bl p)).length=Lib.countB s p+1:=by rw[<-hdat,List.length_map,hlen]
 refine⟨⟨_,by rw[hl2]⟩,fun k hk=>?_,(Below.refl _ _).alloc (Nat.le_refl _) _,by simp⟩;have hq:(Lib.split (bl s) (bl p))[k]? = some (Lib.split (bl s) (bl p))[k]:=List.getElem?_eq_getElem hk;generalize (Lib.split (bl s) (bl p))[k]=q at hq;rw[<-hdat,List.getElem?_map,Option.map_eq_some_iff] at hq;obtain⟨y,hy,rfl⟩:=hq;rw[World.cell?_alloc_at _ _ _ _ rfl];simp only[List.getElem?_toArray,List.getElem?_map,hy,Option.map_some];rw[mk_bl]
theorem PackAt.beside{w w':World}{m b:Nat}{p:Sp.Pk}(h:PackAt w m b p)(hb:∀ k,k≠b+1->w'.heap[k]? = w.heap[k]?)(hs:w'.heap.size=w.heap.size):PackAt w' m b p:=by
 obtain⟨nv,bv,fv,hm,hbm,h0,h1,h2,h3,h4,g0,g1,g2,n0,n1,n2,hz⟩:=h;have hc:∀ o,w'.cell? ⟨b,o,none⟩=w.cell? ⟨b,o,none⟩:=fun o=>World.cell?_of_block (w:=w) (hb b (by omega))
 have hf:∀ o,w'.frozen? ⟨b,o,none⟩=w.frozen? ⟨b,o,none⟩:=fun o=>by unfold World.frozen?;rw[hb b (by omega)]
 exact⟨nv,bv,fv,by omega,hbm,(hc 0).trans h0,(hc 1).trans h1,(hc 2).trans h2,(hc 3).trans h3,(hc 4).trans h4,g0.keep fun x hx=>hb x (by omega),SlOn.keep g1 fun x hx=>hb x (by omega),
  row_block g2 fun k hk=>hb k (by omega),n0,n1,n2,fun o=>(hf o).trans (hz o)⟩
theorem FrN.froz{n b:Nat}{A B:World}(h:FrN n b A B){p:Addr}(hp:p.block<n)(hb:p.block≠b):B.frozen? p=A.frozen? p:=by
 unfold World.frozen?;rw[h.block p.block hp hb]
structure PSt(w0:World)(LS:List Sp.Str)(a:Int)(m:Nat)(p:Sp.Pk)(W:World):Prop where
 big:w0.heap.size+5<=m
 pack:PackAt W m (w0.heap.size+2) p
 c0:W.cell? ⟨w0.heap.size,0,none⟩=some (.pointer (some ⟨w0.heap.size+2,0,none⟩))
 c1:W.cell? ⟨w0.heap.size+1,0,none⟩=some (.int .i64 0)
 c3:W.cell? ⟨w0.heap.size+3,0,none⟩=some (.int .i64 a)
 z0:W.frozen? ⟨w0.heap.size,0,none⟩=false
 z1:W.frozen? ⟨w0.heap.size+1,0,none⟩=false
 z3:W.frozen? ⟨w0.heap.size+3,0,none⟩=false
 arr:∀ k,(hk:k<LS.length)->W.cell? ⟨w0.heap.size+4,k,none⟩=some (.string ⟨(LS[k]).toArray⟩)
 below:Below w0.heap.size w0 W
theorem PSt.setAt{w0 W:World}{LS:List Sp.Str}{a:Int}{m:Nat}{p:Sp.Pk}(h:PSt w0 LS a m p W)(a':Int):PSt w0 LS a' m p (W.setCell ⟨w0.heap.size+3,0,none⟩ (.int .i64 a')):=by
 have hb:∀ k,k≠w0.heap.size+3->(W.setCell ⟨w0.heap.size+3,0,none⟩ (.int .i64 a')).heap[k]? = W.heap[k]?:=fun k hk=>Below.heap_setCell _ _ _ _ hk
 have hc:∀ (x o:Nat),x≠w0.heap.size+3->(W.setCell ⟨w0.heap.size+3,0,none⟩ (.int .i64 a')).cell? ⟨x,o,none⟩=W.cell? ⟨x,o,none⟩:=fun x o hx=>World.cell?_of_block (w:=W) (hb x hx)
 exact⟨h.big,h.pack.beside (fun k hk=>hb k hk) (by simp),(hc _ _ (by omega)).trans h.c0,(hc _ _ (by omega)).trans h.c1,World.cell?_setCell_same _ _ _ h.c3,by simp[h.z0],by simp[h.z1],by simp[h.z3],
  fun k hk=>(hc _ _ (by omega)).trans (h.arr k hk),⟨h.below.os,h.below.tape,h.below.output,by simpa using h.below.size,fun k hk=>(hb k (by omega)).trans (h.below.block k hk)⟩⟩
theorem PSt.frn{w0 W W':World}{LS:List Sp.Str}{a:Int}{m m':Nat}{p p':Sp.Pk}(h:PSt w0 LS a m p W)(hf:FrN m (w0.heap.size+2) W W')(hm:m<=m')(hp:PackAt W' m' (w0.heap.size+2) p'):PSt w0 LS a m' p' W':=by
 have hbig:=h.big;have hb:∀ k,k<m->k≠w0.heap.size+2->W'.heap[k]? = W.heap[k]?:=hf.block;have hc:∀ (x o:Nat),x<m->x≠w0.heap.size+2->W'.cell? ⟨x,o,none⟩=W.cell? ⟨x,o,none⟩:=fun x o h1 h2=>World.cell?_of_block (w:=W) (hb x h1 h2)
 have hz:∀ (x o:Nat),x<m->x≠w0.heap.size+2->W'.frozen? ⟨x,o,none⟩=W.frozen? ⟨x,o,none⟩:=fun x o h1 h2=>by unfold World.frozen?;rw[hb x h1 h2]
 exact⟨by omega,hp,(hc _ _ (by omega) (by omega)).trans h.c0,(hc _ _ (by omega) (by omega)).trans h.c1,(hc _ _ (by omega) (by omega)).trans h.c3,
  (hz _ _ (by omega) (by omega)).trans h.z0,(hz _ _ (by omega) (by omega)).trans h.z1,(hz _ _ (by omega) (by omega)).trans h.z3,fun k hk=>(hc _ _ (by omega) (by omega)).trans (h.arr k hk),
  ⟨hf.os.trans h.below.os,hf.tape.trans h.below.tape,hf.output.trans h.below.output,Nat.le_trans h.below.size hf.size,fun k hk=>(hb k (by omega) (by omega)).trans (h.below.block k hk)⟩⟩
theorem sort_none(w:World):Calls Tryz.prog 104 #[.slice none 0 0,.func (.func 105) #[] #[]] w fun e w'=>e=.returned (.tuple #[])/\w=w':=by
 have hi:Calls Tryz.prog 199 #[.slice none 0 0,.int .i64 0,.int .i64 0,.func (.func 105) #[] #[]] w fun e w'=>e=.returned (.tuple #[])/\w=w':=by
  go_enter Tryz.func199,Tryz.ntmps199;go_wp2_with fail;refine wp_loop_rounds 1 ?_;rw[rounds_succ];go_wp2_with fail
  go_end0
  exact⟨rfl,rfl⟩
 have hp:∀ x,Calls Tryz.prog 160 #[.slice none 0 0,.int .i64 0,.int .i64 0,.int .i64 x,.func (.func 105) #[] #[]] w fun e w'=>e=.returned (.tuple #[])/\w=w':=by
  intro x;go_enter Tryz.func160,Tryz.ntmps160;go_wp2_with fail;refine wp_loop_rounds 1 ?_;rw[rounds_succ];go_wp2_with (go_at_call 199;refine hi.mono ?_;rintro e w1 ⟨rfl,rfl⟩)
  first
   | go_end0
   | refine bodyPost_ret (results_none rfl _ _ _) rfl ?_
  exact⟨rfl,rfl⟩
 have hb:=Tryz.bits_Len 0 w (by omega) (by omega);go_enter Tryz.func104,Tryz.ntmps104;go_wp2_with (first
  | (go_at_call 161;refine hb.mono ?_;rintro e w1 ⟨rfl,rfl⟩)
  | (go_at_call 160;refine(hp _).mono ?_;rintro e w1 ⟨rfl,rfl⟩))
 go_end0
 exact⟨rfl,rfl⟩
theorem files_of_row{w:World}{e:TypeId}{m g n cap:Nat}{fs:List Sp.Fl}(h:w.ownsRow m e 2 (.slice (some ⟨g,0,none⟩) n cap) fs.length (fs.flatMap flCells)):FilesAt w g fs/\m<=g/\n=fs.length:=by
 have hsl:=sl_of_row (w:=w) (B:=m) (sz:=2) (e:=e) (v:=.slice (some ⟨g,0,none⟩) n cap) (xs:=fs.map flCells) (fun x hx=>by obtain⟨f,_,rfl⟩:=List.mem_map.1 hx;rfl) (by
  rw[List.length_map];have:(fs.map flCells).flatten=fs.flatMap flCells:=by simp[List.flatMap]
  rw[this];exact h)
 obtain⟨a,cap',hv,_,hx⟩:=hsl
 rcases h.2 with⟨hv2,_⟩|⟨g',cap2,cur,hv2,hg,hh,_⟩
 ·cases hv2
 ·injection hv2 with e1 e2 e3
  injection e1 with e1
  injection e1 with e1
  subst e1;injection hv with f1 f2 f3
  refine⟨⟨fun k hk=>?_,fun o=>?_,(Array.getElem?_eq_some_iff.1 hh).1⟩,hg,e2⟩
  ·obtain⟨b,off,ha,_,hc⟩:=hx k (flCells fs[k]) (by rw[List.getElem?_map,List.getElem?_eq_getElem hk];rfl)
   rw[<-f1] at ha;injection ha with ha
   injection ha with ha1 ha2
   subst ha1;subst ha2;have h0:=hc 0 _ rfl;have h1:=hc 1 _ rfl;simp only[Nat.zero_add,Nat.add_zero] at h0 h1;exact⟨h0,h1⟩
  ·unfold World.frozen?;rw[hh];simp
theorem FilesAt.flOn{w:World}{m g cap:Nat}{fs:List Sp.Fl}(h:FilesAt w g fs)(hg:m<=g)(hc:fs.length<=cap):FlOn (fun x=>m<=x/\x<w.heap.size) w (.slice (some ⟨g,0,none⟩) fs.length cap) fs:=by
 refine⟨some ⟨g,0,none⟩,cap,by rw[List.length_map],by rw[List.length_map];exact hc,fun k x hk=>?_⟩;rw[List.getElem?_map,Option.map_eq_some_iff] at hk;obtain⟨f,hf,rfl⟩:=hk;obtain⟨hk',rfl⟩:=List.getElem?_eq_some_iff.1 hf;obtain⟨c0,c1⟩:=h.1 k hk';refine⟨g,0,rfl,⟨hg,h.2.2⟩,fun j u hj=>?_⟩
 match j,hj with
 | 0,hj =>
       have e:sv fs[k].path=u:=by simpa[flCells] using hj
       subst e;simpa using c0
 | 1,hj =>
       have e:sv fs[k].content=u:=by simpa[flCells] using hj
       subst e;simpa using c1
theorem sort_pack{W:World}{m b:Nat}{p:Sp.Pk}(h:PackAt W m b p)(hn:p.files.length<=4){fv:Value}(hfv:W.cell? ⟨b,4,none⟩=some fv):
  (∃ a n c,fv=.slice a n c)/\Calls Tryz.prog 104 #[fv,.func (.func 105) #[] #[]] W fun e w2=>e=.returned (.tuple #[])/\Below m W w2/\FlOn (fun x=>m<=x/\x<w2.heap.size) w2 fv (Sp.sortF p.files):=by
 obtain⟨nv,bv,fv',hm,hbm,h0,h1,h2,h3,h4,g0,g1,g2,n0,n1,n2,hz⟩:=h;obtain rfl:fv'=fv:=Option.some.inj (h4.symm.trans hfv)
 by_cases hf:p.files=[]
 ·obtain rfl:=n2 hf
  refine⟨⟨_,_,_,rfl⟩,(sort_none W).mono ?_⟩;rintro e w2 ⟨rfl,rfl⟩;rw[hf];exact⟨rfl,Below.refl _ _,SlOn.nil _ _ _⟩
 ·obtain⟨g,cap,rfl⟩:=row_some g2 hf
  obtain⟨hfl,hg,_⟩:=files_of_row g2;have hcap:p.files.length<=cap:=by
   rcases g2.2 with⟨hv2,_⟩|⟨g',cap2,cur,hv2,_,_,hle,_⟩
   ·cases hv2
   ·injection hv2 with e1 e2 e3;omega
  refine⟨⟨_,_,_,rfl⟩,(sort_any g cap p.files W hfl hn).mono ?_⟩;rintro e w2 ⟨rfl,h5,h6⟩;refine⟨rfl,⟨h6.os,h6.tape,h6.output,h6.size,fun k hk=>h6.block k (by omega) (by omega)⟩,?_⟩;have:=h5.flOn hg (cap:=cap) (by rw[P3.sortF_len];exact hcap);rw[P3.sortF_len] at this;exact this
theorem PackAt.sorted{w w':World}{m b:Nat}{p:Sp.Pk}(h:PackAt w m b p)(hb:∀ x,x<m->(x=b\/b+1<x)->w'.heap[x]? = w.heap[x]?)(hs:w.heap.size<=w'.heap.size){fv:Value}(hfv:w.cell? ⟨b,4,none⟩=some fv)
  (hfl:FlOn (fun x=>b<=x/\x<w'.heap.size) w' fv (Sp.sortF p.files)):IsPack (fun x=>b<=x/\x<w'.heap.size) w' b { p with files:=Sp.sortF p.files }:=by
 obtain⟨nv,bv,fv',hm,hbm,h0,h1,h2,h3,h4,g0,g1,g2,n0,n1,n2,hz⟩:=h;obtain rfl:fv'=fv:=Option.some.inj (h4.symm.trans hfv);have hc:∀ o,w'.cell? ⟨b,o,none⟩=w.cell? ⟨b,o,none⟩:=fun o=>World.cell?_of_block (w:=w) (hb b (by omega) (.inl rfl))
 exact⟨nv,bv,fv',by omega,(hc 0).trans h0,(hc 1).trans h1,(hc 2).trans h2,(hc 3).trans h3,(hc 4).trans h4,
  (g0.keep fun x hx=>hb x hx.1 (.inr hx.2)).mono fun x hx=>by omega,SlOn.mono (SlOn.keep g1 fun x hx=>hb x hx.1 (.inr hx.2)) fun x hx=>by omega,hfl,n0,n1⟩
theorem sorted_ok{p:Sp.Pk}(h:PkOk p):PkOk { p with files:=Sp.sortF p.files }:=
 ⟨h.name,h.ver,h.needs,h.groups,h.bars,h.barred,by show(Sp.sortF p.files).length<=4;rw[P3.sortF_len];exact h.files,fun f hf=>h.paths f ((P3.sortF_mem _ _).1 hf)⟩
theorem parsed_long(s:ByteArray)(w:World)(h:300<s.size):
  Calls Tryz.prog 63 #[.string s] w fun e w'=>e=.returned (.tuple #[.pointer none,.int .i64 0])/\Below w.heap.size w w':=by
 have hmf:∀ (fn:Fn) (first cap:Array Value) (w:World),(Instr.makeFunc fn first cap).run Tryz.prog w=.ok (.func fn first cap) w:=fun _ _ _ _=>rfl
 have hd:decide ((300:Int)<(s.size:Int))=true:=decide_eq_true (by omega)
 go_enter_defers Tryz.func63,Tryz.ntmps63
 go_wp2_with fail;simp[bodyPostD,Leaves,results,Tryz.results63,go_sem];exact((Below.refl _ _).alloc (Nat.le_refl _) _).alloc (by simp) _
def ParseRes(s:Sp.Str)(w:World)(e:Ending)(w':World):Prop:=
 Below w.heap.size w w'/\((∃ n,Sp.parse s=.inl n/\e=.returned (.tuple #[.pointer none,.int .i64 (n:Int)])) \/
  (∃ p b,Sp.parse s=.inr p/\e=.returned (.tuple #[.pointer (some ⟨b,0,none⟩),.int .i64 (-1)])/\IsPack (fun x=>w.heap.size<=x/\x<w'.heap.size) w' b p/\PkOk p))
theorem parsed_short{G:Nat}(s:ByteArray)(w:World)(hG:Glob G w)(h:s.size<=300):
  Calls Tryz.prog 63 #[.string s] w (ParseRes (bl s) w):=by
 have hmf:∀ (fn:Fn) (first cap:Array Value) (w:World),(Instr.makeFunc fn first cap).run Tryz.prog w=.ok (.func fn first cap) w:=fun _ _ _ _=>rfl
 have hd:decide ((300:Int)<(s.size:Int))=false:=decide_eq_false (by omega);have htl:(Lib.trimSuffix (bl s) [10]).length<=300:=by
  rw[<-bl_len] at h;unfold Lib.trimSuffix;split
  ·rw[List.length_take];omega
  ·exact h
 generalize hLS:Lib.split (Lib.trimSuffix (bl s) [10]) [10]=LS;have hlens:∀ x∈LS,x.length<=300:=fun x hx=>by
  rw[<-hLS] at hx;exact Nat.le_trans (Sp.split_mem _ _ x (by simp) hx) htl
 have hcount:LS.length<=301:=by
  rw[<-hLS];exact Nat.le_trans (Sp.split_length _ _ (by simp)) (by omega)
 have HLS:=hid hLS;have HLE:=hid hlens;clear hLS hlens
 go_enter_defers Tryz.func63,Tryz.ntmps63
 go_wp2_with fail;refine(trim_any s _ _ (by omega)).mono ?_;rintro e w1 ⟨rfl,rfl⟩;rw[show bl ⟨#[10]⟩=[10] from rfl];go_wp2_with fail;have hb4:Below w.heap.size w ((((w.alloc (Obj.cells #[Value.pointer (some { block:=w.heap.size+1+1,off:=0 })] 118)).alloc (Obj.cells #[Value.int IntKind.i64 0] 3)).alloc
  (Obj.cells #[Value.slice none 0 0,Value.slice none 0 0,Value.string { data:=#[] },Value.string { data:=#[] },Value.slice none 0 0] 175)).alloc (Obj.cells #[Value.int IntKind.i64 0] 3)):=
  ((((Below.refl _ w).alloc (Nat.le_refl _) _).alloc (by simp) _).alloc (by simp;omega) _).alloc (by simp;omega) _
 refine(splitS_at _ _ _ (hG.keep hb4) (by rw[<-bl_len,bl_mk];omega) (by decide)).mono ?_;rintro e w6 ⟨⟨cap,rfl⟩,harr,hb6,hs6⟩;rw[show bl ⟨#[10]⟩=[10] from rfl,bl_mk,HLS.out] at harr ⊢;have c6:=(bcell hb6).1;have z6:=(bcell hb6).2;simp only[World.size_alloc] at harr hs6 c6 z6;have hP0:PSt w LS 0 (w.heap.size+5) Sp.nothing w6:=by
  refine⟨Nat.le_refl _,⟨.slice none 0 0,.slice none 0 0,.slice none 0 0,by omega,by omega,(c6 _ _ (by omega)).trans ?_,(c6 _ _ (by omega)).trans ?_,(c6 _ _ (by omega)).trans ?_,(c6 _ _ (by omega)).trans ?_,(c6 _ _ (by omega)).trans ?_,
   ⟨[],SlOn.nil _ _ _,GrpsOn.nil _ _⟩,SlOn.nil _ _ _,⟨rfl,.inl ⟨rfl,rfl⟩⟩,fun _=>rfl,fun _=>rfl,fun _=>rfl,fun o=>(z6 _ _ (by omega)).trans ?_⟩,
   (c6 _ _ (by omega)).trans ?_,(c6 _ _ (by omega)).trans ?_,(c6 _ _ (by omega)).trans ?_,(z6 _ _ (by omega)).trans ?_,(z6 _ _ (by omega)).trans ?_,(z6 _ _ (by omega)).trans ?_,harr,hb4.trans (hb6.mono hb4.size)⟩
  all_goals simp[go_sem,sv,Sp.nothing]
 have HC:=hid hP0;clear hP0 harr c6 z6;go_wp2_with fail;refine wp_loop_down (fun n a W=>∃ (x5 x6 x18 x19 x20 x21 x22 x23 x24 x25 x26 x27 x28:Value) (k m:Nat) (p:Sp.Pk) (q:Int),a={ tmps:=#[Value.string s,undef,Value.pointer (some ⟨w.heap.size,0,none⟩),Value.pointer (some ⟨w.heap.size+1,0,none⟩),Value.pointer (some ⟨w.heap.size+3,0,none⟩),x5,x6,Value.string s,Value.int .i64 (s.size:Int),Value.bool false,Value.agg #[.slice none 0 0,.slice none 0 0,.string ⟨#[]⟩,.string ⟨#[]⟩,.slice none 0 0],Value.pointer (some ⟨w.heap.size+2,0,none⟩),Value.func (.func 100) #[] #[.pointer (some ⟨w.heap.size+3,0,none⟩),.pointer (some ⟨w.heap.size,0,none⟩),.pointer (some ⟨w.heap.size+1,0,none⟩)],Value.string s,Value.string ⟨(Lib.trimSuffix (bl s) [10]).toArray⟩,Value.slice (some ⟨w.heap.size+4,0,none⟩) LS.length cap,Value.int .i64 (LS.length:Int),Value.int .i64 (k:Int),x18,x19,x20,x21,x22,x23,x24,x25,x26,x27,x28,undef,undef,undef,undef,undef,undef],defers:=[{ target:=Target.fn (.func 100) #[.pointer (some ⟨w.heap.size+3,0,none⟩),.pointer (some ⟨w.heap.size,0,none⟩),.pointer (some ⟨w.heap.size+1,0,none⟩)],args:=#[] }] } /\
  k<=LS.length/\n=LS.length-k/\PSt w LS q m p W/\PkOk p/\Sp.lines Sp.nothing 0 LS=Sp.lines p k (LS.drop k)) LS.length ?_ ?_
 ·exact⟨_,_,_,_,_,_,_,_,_,_,_,_,_,0,w.heap.size+5,Sp.nothing,0,rfl,by omega,rfl,HC.out,⟨by decide,by decide,by decide,(fun g hg=>by cases hg),by decide,(fun g hg=>by cases hg),by decide,(fun g hg=>by cases hg)⟩,rfl⟩
 ·rintro n a W ⟨x5,x6,x18,x19,x20,x21,x22,x23,x24,x25,x26,x27,x28,k,m,p,q,rfl,hk,rfl,hS,hok,hlin⟩
  dsimp only
  have hp:=hS.pack;have c0:=hS.c0;have c1:=hS.c1;have z0:=hS.z0;have z1:=hS.z1;have c3:=hS.c3;have z3:=hS.z3;have hbel:=hS.below
  by_cases hk2:k<LS.length
  ·have harr:=hS.arr k hk2
   have hln:LS.drop k=LS[k] :: LS.drop (k+1):=List.drop_eq_getElem_cons hk2;have hxl:=HLE.out _ (List.getElem_mem hk2);rw[hln] at hlin;have HLN:=hid hlin;clear hlin hln;generalize LS[k]=x at harr hxl HLN;have hS2:=hS.setAt ((k:Int)+1);have hline:=line_any m (w.heap.size+2) k p ⟨x.toArray⟩ _ (hG.keep hS2.below) hS2.pack hok (by rw[bl_mk];exact hxl);have HS2:=hid hS2;clear hS2 hS hp hbel;go_wp2_with fail;refine hline.mono ?_;rintro e w8 ⟨hF8,hres⟩;rw[bl_mk] at hres
   rcases hres with⟨p',hl',rfl,m',hm',hP'⟩|⟨hl',rfl⟩
   ·have hS8:=HS2.out.frn hF8 hm' hP'
    have hok':=P2.line_ok hok hxl hl';have hlin':Sp.lines Sp.nothing 0 LS=Sp.lines p' (k+1) (LS.drop (k+1)):=by
     rw[HLN.out];show(match Sp.line p (k == 0) x with|some p'=>Sp.lines p' (k+1) (LS.drop (k+1))|none=>.inl (k+1))=_
     rw[hl']
    have HL':=hid hlin';have HS8:=hid hS8;clear hlin' hS8 hl' hP' hF8 hline c0 c1 c3 z0 z1 z3 harr;go_wp2_with fail;exact⟨LS.length-(k+1),by omega,_,_,_,_,_,_,_,_,_,_,_,_,_,k+1,m',p',(k:Int)+1,rfl,by omega,rfl,HS8.out,hok',HL'.out⟩
   ·have hlin':Sp.lines Sp.nothing 0 LS=.inl (k+1):=by
     rw[HLN.out];show(match Sp.line p (k == 0) x with|some p'=>Sp.lines p' (k+1) (LS.drop (k+1))|none=>.inl (k+1))=_
     rw[hl']
    have hpar:Sp.parse (bl s)=.inl (k+1):=by
     unfold Sp.parse;rw[if_neg (by rw[bl_len];omega),HLS.out,hlin']
    have HPAR:=hid hpar;have hbig:=HS2.out.big;have hsz8:w.heap.size+5<=w8.heap.size:=by
     obtain⟨_,_,_,hm8,_⟩:=HS2.out.pack;have:=hF8.size;omega
    have d0:=(hF8.cell (p:=⟨w.heap.size,0,none⟩) (by show w.heap.size<m;omega) (by show w.heap.size≠w.heap.size+2;omega)).trans HS2.out.c0;have d1:=(hF8.cell (p:=⟨w.heap.size+1,0,none⟩) (by show w.heap.size+1<m;omega) (by show w.heap.size+1≠w.heap.size+2;omega)).trans HS2.out.c1;have d3:=(hF8.cell (p:=⟨w.heap.size+3,0,none⟩) (by show w.heap.size+3<m;omega) (by show w.heap.size+3≠w.heap.size+2;omega)).trans HS2.out.c3;have y0:=(hF8.froz (p:=⟨w.heap.size,0,none⟩) (by show w.heap.size<m;omega) (by show w.heap.size≠w.heap.size+2;omega)).trans HS2.out.z0;have y1:=(hF8.froz (p:=⟨w.heap.size+1,0,none⟩) (by show w.heap.size+1<m;omega) (by show w.heap.size+1≠w.heap.size+2;omega)).trans HS2.out.z1;have hb8:Below w.heap.size w w8:=⟨hF8.os.trans HS2.out.below.os,hF8.tape.trans HS2.out.below.tape,hF8.output.trans HS2.out.below.output,Nat.le_trans HS2.out.below.size hF8.size,fun j hj=>(hF8.block j (by omega) (by omega)).trans (HS2.out.below.block j hj)⟩
    clear hlin' hpar hl' hline c0 c1 c3 z0 z1 z3 harr;go_wp2_with fail;refine leaves_cons (f:=100) (args:=#[.pointer (some ⟨w.heap.size+3,0,none⟩),.pointer (some ⟨w.heap.size,0,none⟩),.pointer (some ⟨w.heap.size+1,0,none⟩)]) (by simp) (by simp[go_sem]) ?_;refine(catch_bad (w.heap.size+3) w.heap.size (w.heap.size+1) ((k:Int)+1) _ _ w8 d3 d0 d1 y0 y1 (by omega) (by omega) (by omega) (by omega)).mono ?_;rintro e u' w9 ⟨rfl,rfl,rfl⟩;have r0:(((w8.setCell ⟨w.heap.size,0,none⟩ (.pointer none)).setCell ⟨w.heap.size+1,0,none⟩ (.int .i64 ((k:Int)+1))).alloc (.cells #[] 177)).cell? ⟨w.heap.size,0,none⟩=some (.pointer none):=by
     rw[World.cell?_alloc_lt _ _ _ (by show w.heap.size<_;simp;omega),World.cell?_setCell_other _ _ _ _ (by simp),World.cell?_setCell_same _ _ _ d0]
    have r1:(((w8.setCell ⟨w.heap.size,0,none⟩ (.pointer none)).setCell ⟨w.heap.size+1,0,none⟩ (.int .i64 ((k:Int)+1))).alloc (.cells #[] 177)).cell? ⟨w.heap.size+1,0,none⟩=some (.int .i64 ((k:Int)+1)):=by
     rw[World.cell?_alloc_lt _ _ _ (by show w.heap.size+1<_;simp;omega),World.cell?_setCell_same _ _ _ ((World.cell?_setCell_other _ _ _ _ (by simp)).trans d1)]
    have hb9:Below w.heap.size w (((w8.setCell ⟨w.heap.size,0,none⟩ (.pointer none)).setCell ⟨w.heap.size+1,0,none⟩ (.int .i64 ((k:Int)+1))).alloc (.cells #[] 177)):=by
     refine⟨hb8.os,hb8.tape,hb8.output,by simp;omega,fun j hj=>?_⟩;rw[Below.heap_alloc _ _ _ (by simp;omega),Below.heap_setCell _ _ _ _ (by show j≠w.heap.size+1;omega),Below.heap_setCell _ _ _ _ (by show j≠w.heap.size;omega)];exact hb8.block j hj
    generalize (((w8.setCell ⟨w.heap.size,0,none⟩ (.pointer none)).setCell ⟨w.heap.size+1,0,none⟩ (.int .i64 ((k:Int)+1))).alloc (.cells #[] 177))=w9 at r0 r1 hb9;simp[Leaves,settle,results,Tryz.results63,go_sem,r0,r1];exact⟨hb9,.inl ⟨k+1,HPAR.out,rfl⟩⟩
  ·obtain rfl:k=LS.length:=by omega
   rw[List.drop_eq_nil_of_le (Nat.le_refl _)] at hlin;have hpar:Sp.parse (bl s)=.inr { p with files:=Sp.sortF p.files }:=by
    unfold Sp.parse;rw[if_neg (by rw[bl_len];omega),HLS.out,hlin];rfl
   have HPAR:=hid hpar;have hbig:=hS.big;obtain⟨_,_,fv,hmW,_,_,_,_,_,h4,_⟩:=hS.pack;obtain⟨⟨fa,fn,fc,rfl⟩,hsort⟩:=sort_pack hp hok.files h4;have HP:=hid hp;clear hpar hlin hp hS hk hk2;go_wp2_with fail;refine hsort.mono ?_;rintro e w2 ⟨rfl,hb2,hfl2⟩;have d0:=(hb2.cell (p:=⟨w.heap.size,0,none⟩) (by show w.heap.size<m;omega)).trans c0;have d1:=(hb2.cell (p:=⟨w.heap.size+1,0,none⟩) (by show w.heap.size+1<m;omega)).trans c1;have y0:=(hb2.frozen (p:=⟨w.heap.size,0,none⟩) (by show w.heap.size<m;omega)).trans z0;have y1:=(hb2.frozen (p:=⟨w.heap.size+1,0,none⟩) (by show w.heap.size+1<m;omega)).trans z1;have hs2:=hb2.size;have HFL:=hid hfl2;clear hfl2 hsort c0 c1 c3 z0 z1 z3;go_wp2_with fail;refine leaves_cons (f:=100) (args:=#[.pointer (some ⟨w.heap.size+3,0,none⟩),.pointer (some ⟨w.heap.size,0,none⟩),.pointer (some ⟨w.heap.size+1,0,none⟩)]) (by simp) (by simp[go_sem]) ?_;refine(catch_idle _ _ _ _).mono ?_;rintro e u' w9 ⟨rfl,rfl,rfl⟩;have hwb:∀ x,x≠w.heap.size->x≠w.heap.size+1->((w2.setCell ⟨w.heap.size,0,none⟩ (.pointer (some ⟨w.heap.size+2,0,none⟩))).setCell ⟨w.heap.size+1,0,none⟩ (.int .i64 (-1))).heap[x]? = w2.heap[x]?:=fun x h1 h2=>by
    rw[Below.heap_setCell _ _ _ _ h2,Below.heap_setCell _ _ _ _ h1]
   have hws:((w2.setCell ⟨w.heap.size,0,none⟩ (.pointer (some ⟨w.heap.size+2,0,none⟩))).setCell ⟨w.heap.size+1,0,none⟩ (.int .i64 (-1))).heap.size=w2.heap.size:=by simp
   have hwo:((w2.setCell ⟨w.heap.size,0,none⟩ (.pointer (some ⟨w.heap.size+2,0,none⟩))).setCell ⟨w.heap.size+1,0,none⟩ (.int .i64 (-1))).os=w2.os/\((w2.setCell ⟨w.heap.size,0,none⟩ (.pointer (some ⟨w.heap.size+2,0,none⟩))).setCell ⟨w.heap.size+1,0,none⟩ (.int .i64 (-1))).tape=w2.tape /\
    ((w2.setCell ⟨w.heap.size,0,none⟩ (.pointer (some ⟨w.heap.size+2,0,none⟩))).setCell ⟨w.heap.size+1,0,none⟩ (.int .i64 (-1))).output=w2.output:=⟨rfl,rfl,rfl⟩
   have r0:((w2.setCell ⟨w.heap.size,0,none⟩ (.pointer (some ⟨w.heap.size+2,0,none⟩))).setCell ⟨w.heap.size+1,0,none⟩ (.int .i64 (-1))).cell? ⟨w.heap.size,0,none⟩=some (.pointer (some ⟨w.heap.size+2,0,none⟩)):=by
    rw[World.cell?_setCell_other _ _ _ _ (by simp),World.cell?_setCell_same _ _ _ d0]
   have r1:((w2.setCell ⟨w.heap.size,0,none⟩ (.pointer (some ⟨w.heap.size+2,0,none⟩))).setCell ⟨w.heap.size+1,0,none⟩ (.int .i64 (-1))).cell? ⟨w.heap.size+1,0,none⟩=some (.int .i64 (-1)):=
    World.cell?_setCell_same _ _ _ ((World.cell?_setCell_other _ _ _ _ (by simp)).trans d1)
   generalize ((w2.setCell ⟨w.heap.size,0,none⟩ (.pointer (some ⟨w.heap.size+2,0,none⟩))).setCell ⟨w.heap.size+1,0,none⟩ (.int .i64 (-1)))=w9 at hwb hws hwo r0 r1;have hb9:Below w.heap.size w w9:=by
    refine⟨hwo.1.trans (hb2.os.trans hbel.os),hwo.2.1.trans (hb2.tape.trans hbel.tape),hwo.2.2.trans (hb2.output.trans hbel.output),by have:=hbel.size;omega,fun j hj=>?_⟩;rw[hwb j (by omega) (by omega),hb2.block j (by omega)];exact hbel.block j hj
   have hfl9:FlOn (fun x=>w.heap.size+2<=x/\x<w9.heap.size) w9 (.slice fa fn fc) (Sp.sortF p.files):=SlOn.mono (SlOn.keep HFL.out fun x hx=>hwb x (by omega) (by omega)) fun x hx=>by omega
   have hpk:=HP.out.sorted (w':=w9) (fun x hx hor=>(hwb x (by omega) (by omega)).trans (hb2.block x hx)) (by omega) h4 hfl9;simp[Leaves,settle,results,Tryz.results63,go_sem,r0,r1];exact⟨hb9,.inr ⟨_,_,HPAR.out,rfl,hpk.mono fun x hx=>by omega,sorted_ok hok⟩⟩
end
section
open Go.RowKit
theorem parsed_any{G:Nat}(s:ByteArray)(w:World)(hG:Glob G w):Calls Tryz.prog 63 #[.string s] w (ParseRes (bl s) w):=by
 by_cases h:s.size<=300
 ·exact parsed_short s w hG h
 ·refine(parsed_long s w (by omega)).mono ?_
  rintro e w' ⟨rfl,hb⟩;refine⟨hb,.inl ⟨0,?_,rfl⟩⟩;unfold Sp.parse;rw[if_pos (by rw[bl_len];omega)]
end
end Go.Proofs.YtfphcecjhdkcoaaGreatDoor

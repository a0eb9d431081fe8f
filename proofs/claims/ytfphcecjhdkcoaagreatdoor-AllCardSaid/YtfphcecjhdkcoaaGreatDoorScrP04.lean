/-
Plain laws: the reference's line is Sp's, where no two files clash yet; and the files of what was read never do.
-/
import Derived.Test.YtfphcecjhdkcoaaGreatDoorScrP01
import Derived.Test.YtfphcecjhdkcoaaGreatDoorScrP02
import Derived.Test.YtfphcecjhdkcoaaGreatDoorScrP03
import Derived.LoopN
import Derived.Maps.OwnSet
set_option maxRecDepth 100000
set_option maxHeartbeats 8000000
namespace Go.Proofs.YtfphcecjhdkcoaaGreatDoor
open Go.Lib (hid)
section
open Go.RowKit Go.Shelf Go.Maps
theorem rounds_of{P:Program}{c:Code}{Q:Exit->Act->World->Prop}(I:Nat->Act->World->Prop)
  (round:∀ n a w,I n a w->c.wp P (Exit.then (fun a' w'=>∃ m,m<n/\I m a' w') Q) a w):∀ (N n:Nat) (a:Act) (w:World),n<N->I n a w->Code.rounds P c Q N a w:=by
 intro N
 induction N with
 | zero=>intro n a w h;omega
 | succ N ih =>
  intro n a w h hI;rw[rounds_succ];refine Code.wp_mono (fun e a' w' q=>?_) (round n a w hI)
  cases e with
  | normal=>obtain⟨m,hm,hq⟩:=q;exact ih m a' w' (by omega) hq
  | _=>exact q
theorem wp_loop_down{P:Program}{c:Code}{Q:Exit->Act->World->Prop}{a:Act}{w:World}(I:Nat->Act->World->Prop)(n:Nat)(h0:I n a w)
  (round:∀ n a w,I n a w->c.wp P (Exit.then (fun a' w'=>∃ m,m<n/\I m a' w') Q) a w):(Code.loop c).wp P Q a w:=
 wp_loop_rounds (n+1) (rounds_of I round (n+1) n a w (by omega) h0)
def markOf(k:Nat):Deferred:={ target:=.collected k,args:=#[] }
def Marks(B:Nat)(w:World)(ks:List Nat):Prop:=ks.Nodup/\∀ k∈ks,B<=k/\w.heap[k]? = some (.deferred (some []))
theorem Marks.keep{B:Nat}{w w':World}{ks:List Nat}(h:Marks B w ks)(hk:∀ k∈ks,w'.heap[k]? = w.heap[k]?):Marks B w' ks:=
 ⟨h.1,fun k hm=>⟨(h.2 k hm).1,(hk k hm).trans (h.2 k hm).2⟩⟩
theorem Marks.lt{B:Nat}{w:World}{ks:List Nat}(h:Marks B w ks):∀ k∈ks,k<w.heap.size:=fun k hm =>
 (Array.getElem?_eq_some_iff.1 (h.2 k hm).2).1
theorem leaves_marks{F:Fence}{n:Nat}{P:Program}{fn:Func}{tmps:Array Value}{R:Ending->World->Prop}{B:Nat}{a0:World}:∀ (ks:List Nat) (w:World),Marks B w ks->Below B a0 w ->
  (∀ w',Below B a0 w'->(∀ b,b ∉ ks->w'.heap[b]? = w.heap[b]?)->LeavesInM F n P fn tmps R [] .returning w')->LeavesInM F n P fn tmps R (ks.map markOf) .returning w
 | [],w,_,hb,h=>h w hb (fun _ _=>rfl)
 | k :: ks,w,hm,hb,h=>by
  refine⟨by simp,.inl ⟨k,w.putObj k (.deferred none),rfl,run_takeDeferred (hm.2 k (by simp)).2,?_⟩⟩;have hlt:=hm.lt k (by simp);have hnd:=List.nodup_cons.1 hm.1;have hoth:∀ b,b≠k->(w.putObj k (.deferred none)).heap[b]? = w.heap[b]?:=fun b hb=>World.putObj_heap_other hb
  refine leaves_marks ks _ ⟨hnd.2,fun b hbm=>⟨(hm.2 b (by simp[hbm])).1,(hoth b (fun e=>hnd.1 (e ▸ hbm))).trans (hm.2 b (by simp[hbm])).2⟩⟩ ?_ (fun w' hb' hw'=>h w' hb' fun b hbk=>?_)
  ·have hge:=(hm.2 k (by simp)).1
   exact⟨hb.os,hb.tape,hb.output,by simpa[World.putObj] using hb.size,fun i hi=>(hoth i (by omega)).trans (hb.block i hi)⟩
  ·simp only[List.mem_cons,not_or] at hbk
   exact(hw' b hbk.2).trans (hoth b hbk.1)
end
section
open Go.RowKit Go.Shelf Go.Maps
def pathsOf(p:Sp.Pk):List Sp.Str:=p.files.map (·.path)
def Rv(v:Value):Option (DataW Value × List MemPlace):=some (.held v,[])
theorem ranges_block{P:Program}{k:TypeId}{R:Value->Option (DataW Value × List MemPlace)}{w w':World}{b r n:Nat}{D:DataW Value}{left:Lit->Bool}{cnt:Nat}(h:w.ranges P k R b r n D left cnt)
  (hb:w'.heap[b]? = w.heap[b]?)(hr:w'.heap[r]? = w.heap[r]?):w'.ranges P k R b r n D left cnt:=by
 obtain⟨es,clock,since,seen,c0,h1,h2,h3,h4,h5,h6⟩:=h;exact⟨es,clock,since,seen,c0,hb.trans h1,h2,h3,h4,hr.trans h5,h6⟩
structure Rest(w0:World)(mb:Nat)(L:List (Nat × Sp.Pk))(D:DataW Value)(own:List Sp.Str)(left:Lit->Bool)(cnt:Nat)(ks:List Nat)(W:World):Prop where
 ranges:W.ranges Tryz.prog 9 Rv mb (w0.heap.size+3) L.length D left cnt
 own:CountAt W w0.heap.size own
 box:W.cell? ⟨w0.heap.size+2,0,none⟩=some (.map (some (w0.heap.size+1)))
 marks:Marks (w0.heap.size+4) W ks
 below:Below w0.heap.size w0 W
 size:w0.heap.size+4<=W.heap.size
 low:mb<w0.heap.size
variable {w0:World} {mb:Nat} {L:List (Nat × Sp.Pk)} {D:DataW Value} {own:List Sp.Str} {left:Lit->Bool} {cnt:Nat} {ks:List Nat} {W W':World}
theorem Rest.turn(h:Rest w0 mb L D own left cnt ks W)(ho:W'.os=W.os)(ht:W'.tape=W.tape)(hp:W'.output=W.output)(hs:W.heap.size<=W'.heap.size)
  (hb:∀ k,k<W.heap.size->k≠w0.heap.size+1->W'.heap[k]? = W.heap[k]?):Rest w0 mb L D own left cnt ks W':=by
 have hsz:=h.size;have hlo:=h.low;exact⟨ranges_block h.ranges (hb _ (by omega) (by omega)) (hb _ (by omega) (by omega)),h.own.block (hb _ (by omega) (by omega)),
  (World.cell?_of_block (w:=W) (hb (w0.heap.size+2) (by omega) (by omega))).trans h.box,h.marks.keep fun k hk=>hb k (h.marks.lt k hk) (by have:=(h.marks.2 k hk).1;omega),
  ⟨ho.trans h.below.os,ht.trans h.below.tape,hp.trans h.below.output,Nat.le_trans h.below.size hs,fun k hk=>(hb k (by omega) (by omega)).trans (h.below.block k hk)⟩,by omega,hlo⟩
theorem Rest.alloc(h:Rest w0 mb L D own left cnt ks W)(o:Obj):Rest w0 mb L D own left cnt ks (W.alloc o):=
 h.turn rfl rfl rfl (by simp) fun k hk _=>Below.heap_alloc _ _ _ hk
theorem Rest.frn{n:Nat}(h:Rest w0 mb L D own left cnt ks W)(hf:FrN n (w0.heap.size+1) W W')(hn:W.heap.size<=n):Rest w0 mb L D own left cnt ks W':=
 h.turn hf.os hf.tape hf.output hf.size fun k hk hne=>hf.block k (by omega) hne
theorem Rest.put{own':List Sp.Str}(h:Rest w0 mb L D own left cnt ks W)(hg:W.grownBy W' (some w0.heap.size))(ho:CountAt W' w0.heap.size own'):Rest w0 mb L D own' left cnt ks W':=by
 have hsz:=h.size;have hlo:=h.low;have hb:∀ k,k<W.heap.size->k≠w0.heap.size->W'.heap[k]? = W.heap[k]?:=fun k hk hne=>hg.block k hk (by simpa using hne)
 have hgs:=hg.size;exact⟨ranges_block h.ranges (hb _ (by omega) (by omega)) (hb _ (by omega) (by omega)),ho,
  (World.cell?_of_block (w:=W) (hb (w0.heap.size+2) (by omega) (by omega))).trans h.box,h.marks.keep fun k hk=>hb k (h.marks.lt k hk) (by have:=(h.marks.2 k hk).1;omega),
  ⟨hg.os.trans h.below.os,hg.tape.trans h.below.tape,hg.output.trans h.below.output,Nat.le_trans h.below.size hgs,fun k hk=>(hb k (by omega) (by omega)).trans (h.below.block k hk)⟩,by omega,hlo⟩
theorem Rest.next{left':Lit->Bool}{cnt':Nat}(h:Rest w0 mb L D own left cnt ks W)(hg:W.grownBy W' (some (w0.heap.size+3)))(hr:W'.ranges Tryz.prog 9 Rv mb (w0.heap.size+3) L.length D left' cnt'):Rest w0 mb L D own left' cnt' ks W':=by
 have hsz:=h.size;have hlo:=h.low;have hb:∀ k,k<W.heap.size->k≠w0.heap.size+3->W'.heap[k]? = W.heap[k]?:=fun k hk hne=>hg.block k hk (by simpa using hne)
 have hgs:=hg.size;exact⟨hr,h.own.block (hb _ (by omega) (by omega)),
  (World.cell?_of_block (w:=W) (hb (w0.heap.size+2) (by omega) (by omega))).trans h.box,h.marks.keep fun k hk=>hb k (h.marks.lt k hk) (by have:=(h.marks.2 k hk).1;omega),
  ⟨hg.os.trans h.below.os,hg.tape.trans h.below.tape,hg.output.trans h.below.output,Nat.le_trans h.below.size hgs,fun k hk=>(hb k (by omega) (by omega)).trans (h.below.block k hk)⟩,by omega,hlo⟩
theorem Rest.mark(h:Rest w0 mb L D own left cnt ks W){k:Nat}(hk:W.heap[k]? = some (.deferred (some [])))(hn:k ∉ ks)(hge:w0.heap.size+4<=k):Rest w0 mb L D own left cnt (k :: ks) W:=
 ⟨h.ranges,h.own,h.box,⟨List.nodup_cons.2 ⟨hn,h.marks.1⟩,fun j hj=>by
  rcases List.mem_cons.1 hj with rfl|hj
  ·exact⟨hge,hk⟩
  ·exact h.marks.2 j hj⟩,h.below,h.size,h.low⟩
end
section
open Go.RowKit Go.Shelf Go.Maps Go.Sort
theorem keys_left{w:World}{b n:Nat}{D:CntD}{own:List Sp.Str}(hown:w.ownsMap Tryz.prog 9 (plainElem Tryz.prog 3) b n D)(hC:Counts D own)(fol:List Sp.Str)(x:Sp.Str):
  x∈strKeys (Lib.deleteFuncD (struck fol) D)↔x∈own/\(2<=own.count x\/x∈fol):=by
 obtain⟨es,hD,hpw,hkl⟩:=hown.entries keyed9;obtain⟨es',hD',hko⟩:=hown.keysOf;obtain rfl:es=es':=by rw[hD] at hD';simpa using hD'
 subst hD;have hstr:∀ p∈es,∃ s,p.1=.string s/\s∈own/\p.2=.lit (.int .i64 (own.count s)):=by
  intro p hp;obtain⟨v,hv⟩:=hko p hp;obtain⟨s,_,hs,_⟩:=Maps.keyOf_str Tryz.underlying9 hv;have h1:Maps.has (.map es:CntD) (.string s)=true:=by
   rw[has_eq,List.any_eq_true];exact⟨p,hp,by rw[hs];exact WideAt.sameKey_self (hs ▸ hkl p hp)⟩
  refine⟨s,hs,?_,?_⟩
  ·rw[hC.2.2 s] at h1;simpa using h1
  ·have hm:(.string s,p.2)∈es:=by rw[<-hs];exact hp
   exact(WideAt.atKey_mem (.lit (.int .i64 0)) (hs ▸ hkl p hp) hpw hm).symm.trans (hC.2.1 s)
 show x∈(es.filter fun p=>!struck fol p.1 p.2).map (fun p=>strOf p.1)↔_
 rw[List.mem_map];constructor
 ·rintro ⟨p,hp,rfl⟩
  obtain⟨hp1,hp2⟩:=List.mem_filter.1 hp;obtain⟨s,hs,ho,hv⟩:=hstr p hp1;rw[hs,hv,struck_eq] at hp2;rw[hs];refine⟨ho,?_⟩;simp only[Bool.not_and,Bool.or_eq_true,Bool.not_eq_true',decide_eq_false_iff_not,beq_eq_false_iff_ne] at hp2
  rcases hp2 with h|h
  ·left;show 2<=own.count s;omega
  ·right;show s∈fol;exact List.count_pos_iff.1 (by omega)
 ·rintro ⟨ho,hc⟩
  have h1:=hC.2.2 x;rw[List.contains_iff_mem.2 ho,has_eq,List.any_eq_true] at h1;obtain⟨p,hp,hpx⟩:=h1;obtain⟨s,hs,ho',hv⟩:=hstr p hp;have e:=WideAt.sameKey_eq hpx;rw[hs] at e;obtain rfl:s=x:=by injection e
  refine⟨p,List.mem_filter.2 ⟨hp,?_⟩,by rw[hs];rfl⟩;rw[hs,hv,struck_eq];simp only[Bool.not_and,Bool.or_eq_true,Bool.not_eq_true',decide_eq_false_iff_not,beq_eq_false_iff_ne]
  rcases hc with h|h
  ·left;omega
  ·right;have:=List.count_pos_iff.2 h;omega
end
section
open Go.RowKit Go.Shelf Go.Maps
attribute [local go_sem] Oper.semAt_some
def SetOn(S:Nat->Prop)(w:World)(mb:Nat)(L:List (Nat × Sp.Pk)):Prop:=
 (∃ D:DataW Value,w.ownsMap Tryz.prog 9 Rv mb L.length D/\Maps.size D=L.length /\
  (∀ q∈L,∀ z,D.atKey (.string q.2.name) z=.held (.pointer (some ⟨q.1,0,none⟩))) /\
  (∀ k,Maps.has D k=true->∃ q∈L,k=.string q.2.name)) /\
 L.Pairwise (fun q r=>q.2.name≠r.2.name)/\∀ q∈L,IsPack S w q.1 q.2/\PkOk q.2
theorem flat_len{α β:Type}(f:α->List β)(c:Nat):∀ l:List α,(∀ x∈l,(f x).length<=c)->(l.flatMap f).length<=l.length*c
 | [],_=>by simp
 | x :: r,h=>by
  rw[List.flatMap_cons,List.length_append,List.length_cons,Nat.add_mul,Nat.one_mul];have h1:=h x (by simp);have h2:=flat_len f c r (fun y hy=>h y (by simp[hy]));omega
theorem names_one{L:List (Nat × Sp.Pk)}(h:L.Pairwise (fun q r=>q.2.name≠r.2.name)):∀ q∈L,∀ r∈L,q.2.name=r.2.name->q=r:=by
 induction h with
 | nil=>intro q hq;cases hq
 | cons h1 h2 ih =>
  intro q hq r hr e
  rcases List.mem_cons.1 hq with e1|hq' <;> rcases List.mem_cons.1 hr with e2|hr'
  ·rw[e1,e2]
  ·subst e1;exact absurd e (h1 r hr')
  ·subst e2;exact absurd e.symm (h1 q hq')
  ·exact ih q hq' r hr' e
theorem str_of_key{key:Value}{kl:Lit}(h:keyOf Tryz.prog 9 key=some kl):∃ x:ByteArray,key=.string x:=by
 obtain⟨x,rfl,_⟩:=Maps.keyOf_string_inv Tryz.underlying9 h;exact⟨x,rfl⟩
theorem clashes_any(mb:Nat)(L:List (Nat × Sp.Pk))(w:World)(h:SetOn (fun b=>b<w.heap.size) w mb L)(hL:L.length<=100000):
  Calls Tryz.prog 125 #[.map (some mb)] w fun e w'=>∃ v l,e=.returned v/\Below w.heap.size w w'/\StrsAt w' v l/\l.Pairwise (·<=·) /\
   ∀ x:Sp.Str,x∈l↔x∈L.flatMap (fun q=>pathsOf q.2)/\(2<=(L.flatMap fun q=>pathsOf q.2).count x\/x∈(L.flatMap fun q=>pathsOf q.2).flatMap Sp.folders):=by
 have hmm:=@run_makeMap Tryz.prog;refine callsIn_wide.1 (callsIn_of_wp_marks (F:=Fence.wide) (n:=6) Tryz.func125 rfl trivial (wpIn_wide.2 ?_) rfl);simp only[Tryz.ntmps125,List.size_toArray,List.length_cons,List.length_nil,Nat.reduceAdd,Nat.reduceSub,Array.replicate_succ,Array.replicate_zero,List.push_toArray,List.append_toArray,List.nil_append,List.cons_append];obtain⟨⟨D,hown,hsz,hat,hhas⟩,hap,hpk⟩:=h;go_wp2_with (at_range;refine wpList_range_own _ rfl _ 139 rfl 9 118 keyed9 Tryz.underlying139 Rv mb L.length D rfl (((hown.alloc _).alloc _).alloc _) ?_;intro w1 hr1 hg1 hs1);refine wp_loop_down (fun n a W=>∃ (x6 x8 x9 x14 x15 x16 x17 x18 x19 x20 x21 x22 x23 x24 x25 x26 x27 x28 x29 x30 x31 x32 x33 x34 x35 x36 x37 x38 x39 x40:Value) (ks:List Nat) (done:List (Nat × Sp.Pk)) (left:Lit->Bool),
  a={ tmps:=#[Value.map (some mb),undef,Value.slice none 0 0,Value.map (some w.heap.size),Value.pointer (some { block:=w.heap.size+2,off:=0 }),undef,x6,undef,x8,x9,
       Value.map (some w.heap.size),Value.map (some (w.heap.size+1)),Value.map (some mb),.pointer (some ⟨w.heap.size+3,0,none⟩),x14,x15,x16,x17,x18,x19,x20,x21,x22,x23,x24,x25,x26,x27,x28,x29,
       x30,x31,x32,x33,x34,x35,x36,x37,x38,x39,x40,undef,undef,undef,undef,undef,undef],defers:=ks.map markOf } /\
   Rest w mb L D (done.flatMap fun q=>pathsOf q.2) left n ks W/\CountAt W (w.heap.size+1) ((done.flatMap fun q=>pathsOf q.2).flatMap Sp.folders)/\done.Nodup/\(∀ q∈done,q∈L)/\(∀ q∈L,(left (.string q.2.name)=true↔q ∉ done))/\n+done.length<=L.length) (Maps.size D) ?_ ?_
 ·simp only[World.size_alloc] at hr1 hs1
  have hg3:∀ b,b<w.heap.size+3->w1.heap[b]? = (((w.alloc (.map #[] 0)).alloc (.map #[] 0)).alloc (.cells #[.map (some (w.heap.size+1))] 269)).heap[b]?:=fun b hb=>hg1.block b (by simpa using hb) (by simp)
  have hlt:=hown.lt;have hRi:Rest w mb L D [] (Maps.has D) (Maps.size D) [] w1:=by
   refine⟨hr1,?_,?_,⟨List.nodup_nil,fun k hk=>by cases hk⟩,⟨hg1.os,hg1.tape,hg1.output,by omega,fun k hk=>?_⟩,by omega,hlt⟩
   ·refine(CountAt.made w).block ((hg3 _ (by omega)).trans ?_)
    rw[Below.heap_alloc _ _ _ (by simp;omega),Below.heap_alloc _ _ _ (by simp)]
   ·refine(World.cell?_of_block (hg3 _ (by show w.heap.size+2<_;omega))).trans ?_
    rw[World.cell?_alloc_at _ _ _ _ (by simp)];rfl
   ·rw[hg3 k (by omega),Below.heap_alloc _ _ _ (by simp;omega),Below.heap_alloc _ _ _ (by simp;omega),Below.heap_alloc _ _ _ hk]
  have hCi:CountAt w1 (w.heap.size+1) []:=by
   have h1:=CountAt.made (w.alloc (.map #[] 0));rw[World.size_alloc] at h1;refine h1.block ((hg3 _ (by omega)).trans ?_);rw[Below.heap_alloc _ _ _ (by simp)]
  exact⟨undef,undef,undef,undef,undef,undef,undef,undef,undef,undef,undef,undef,undef,undef,undef,undef,undef,undef,undef,undef,undef,undef,undef,undef,undef,undef,undef,undef,undef,undef,[],[],Maps.has D,by simp[Act.put],hRi,hCi,List.nodup_nil,(fun q hq=>by cases hq),
   (fun q hq=>⟨fun _ h=>by(cases h),fun _=>has_true_of_atKey (hat q hq)⟩),by simp;omega⟩
 ·rintro n a W ⟨x6,x8,x9,x14,x15,x16,x17,x18,x19,x20,x21,x22,x23,x24,x25,x26,x27,x28,x29,x30,x31,x32,x33,x34,x35,x36,x37,x38,x39,x40,ks,done,left,rfl,hR,hC,hnd,hsub,hleft,hcnt⟩
  go_wp2_with (at_next;refine wpList_next_ranges _ rfl _ rfl 9 keyed9 Rv Value.string id (fun key kl hk=>str_of_key hk) (fun v _ _=>⟨v,rfl⟩) mb (w.heap.size+3) L.length D left n rfl hR.ranges ?_ ?_)
  ·intro hn0 hl0
   have hall:∀ q∈L,q∈done:=fun q hq=>Classical.byContradiction fun h=>by
    have:=(hleft q hq).2 h;rw[hl0] at this;cases this
   have hnd2:L.Nodup:=hap.imp fun {q r} h e=>h (by rw[e])
   have hperm:done.Perm L:=(List.perm_ext_iff_of_nodup hnd hnd2).2 fun q=>⟨hsub q,hall q⟩
   have hpo:=hperm.flatMap_right (fun q:Nat × Sp.Pk=>pathsOf q.2);have hpf:=hpo.flatMap_right Sp.folders;have hol:(done.flatMap fun q=>pathsOf q.2).length<1000000:=by
    have h1:=flat_len (fun q:Nat × Sp.Pk=>pathsOf q.2) 4 done (fun q hq=>by unfold pathsOf;rw[List.length_map];exact(hpk q (hsub q hq)).2.files);omega
   generalize ho:(done.flatMap fun q=>pathsOf q.2)=own at hR hC hpo hpf hol;generalize hf:own.flatMap Sp.folders=fol at hC hpf;obtain⟨Dc,hDo,hDc⟩:=hR.own;have hdel:=AnyDf.maps_DeleteFunc Tryz.delI keyed9 (plainElem Tryz.prog 3) (struck fol) 170 #[.pointer (some ⟨w.heap.size+2,0,none⟩)] w.heap.size own.length Dc W (enters_of Tryz.func170 (by kernel_rfl) rfl) hDo (by
    intro W' key val kl yd yp hgW hk hv;obtain⟨x,rfl,rfl,hxm⟩:=Maps.keyOf_str Tryz.underlying9 hk;obtain⟨c,rfl,hy,_⟩:=plainElem_int_inv Tryz.underlying3 hv;obtain rfl:yd=.lit (.int .i64 c):=by simpa using (congrArg Prod.fst hy)
    have hcl:=closure_any x c (w.heap.size+2) (w.heap.size+1) fol W' hxm (hgW.cell hR.box (by simp)) (hC.kept hgW (by simp));refine hcl.mono ?_;rintro e w9 ⟨rfl,rfl⟩;exact⟨rfl,World.grownBy.refl _ _⟩)
   go_wp2_with (first
    | (go_at_call 169;refine hdel.mono ?_;rintro e w8 ⟨rfl,hD8,hg8⟩)
    | (go_at_call 171;refine(keysI_any _ _).mono ?_;rintro e w9 ⟨rfl,rfl⟩)
    | (go_at_call 129;refine(sortedI_any w.heap.size own.length _ _ w8 hD8 (Nat.lt_of_le_of_lt hD8.size_le (by omega))).mono ?_;rintro e w10 ⟨v,ss,rfl,hperm2,hrow,hnil2,hb10⟩))
   have hsz8:=hg8.size;have hszR:=hR.size;have hbW8:Below w.heap.size w w8:=⟨hg8.os.trans hR.below.os,hg8.tape.trans hR.below.tape,hg8.output.trans hR.below.output,Nat.le_trans hR.below.size hsz8,
    fun k hk=>(hg8.block k (by omega) (by simp;omega)).trans (hR.below.block k hk)⟩
   have hb10':Below w.heap.size w w10:=hbW8.trans (hb10.mono hbW8.size);have hm10:Marks w.heap.size w10 ks:=⟨hR.marks.1,fun k hk=>by
    have h1:=hR.marks.lt k hk;have h2:=(hR.marks.2 k hk).1;refine⟨by omega,?_⟩;rw[hb10.block k (by omega),hg8.block k h1 (by simp;omega)];exact(hR.marks.2 k hk).2⟩
   refine leaves_marks (B:=w.heap.size) (a0:=w) ks w10 hm10 hb10' fun w' hb' hk'=>?_
   refine⟨v,(by have:=results_tmp (fn:=Tryz.f125) rfl;exact this _ _ _),v,ss.mergeSort (fun x y=>decide (x<=y)),rfl,hb',?_,?_,?_⟩
   ·refine StrsAt.of_row (B:=(w8.alloc (.cells #[.map (some w.heap.size)] 269)).heap.size) (e:=9) ?_
    obtain⟨r1,r2⟩:=hrow;rw[(List.mergeSort_perm ss _).length_eq];refine⟨r1,r2.imp id ?_⟩;rintro ⟨g,cap,cur,rfl,r3,r4,r5⟩;refine⟨g,cap,cur,rfl,r3,(hk' g fun hg=>?_).trans r4,r5⟩;have h1:=hR.marks.lt g hg;simp at r3;omega
   ·refine(List.pairwise_mergeSort (le:=fun x y=>decide (x<=y)) (fun a b c h1 h2=>?_) (fun a b=>?_) ss).imp fun h=>of_decide_eq_true h
    ·simp only[decide_eq_true_eq] at h1 h2 ⊢;exact List.le_trans h1 h2
    ·simp only[Bool.or_eq_true,decide_eq_true_eq];exact List.le_total a b
   ·intro x
    rw[(List.mergeSort_perm ss _).mem_iff,hperm2.mem_iff];refine(keys_left hDo hDc fol x).trans ?_;rw[hpo.mem_iff,hpo.count_eq,hpf.mem_iff]
  ·intro x c kl yd yp w2 cnt2 hkl hlk hRv hat2 hr2 hlt2 hg2 hs2 hen2
   have hR2:=hR.next hg2 hr2;obtain⟨q,hq,rfl⟩:=hhas kl (has_true_of_atKey hat2);obtain⟨x',e1,e2⟩:=Maps.keyOf_string_inv Tryz.underlying9 hkl;obtain rfl:yd=.held c:=(congrArg Prod.fst (Option.some.inj hRv)).symm;have hc:=(hat2 .nil).symm.trans (hat q hq .nil);obtain rfl:c=.pointer (some ⟨q.1,0,none⟩):=by injection hc
   obtain⟨hip,hok⟩:=hpk q hq;obtain⟨nv,bv,fv,hS,h0,h1,h2,h3,h4,g0,g1,g2,n0,n1⟩:=hip;have h4b:=(World.cell?_of_block (a:=⟨q.1,4,none⟩) (w:=w) (hR2.below.block q.1 hS)).trans h4;obtain⟨a,cap,rfl,hcap,hfl⟩:=FlOn.get g2;have HF:=hid hfl;clear hfl hcap g0 g1 g2 n0 n1 h0 h1 h2 h3;have hC2:CountAt w2 (w.heap.size+1) ((done.flatMap fun q=>pathsOf q.2).flatMap Sp.folders):=hC.block (hg2.block _ (by have:=hR.size;omega) (by simp));have hfew:=hok.files;have hdl:=flat_len (fun q:Nat × Sp.Pk=>pathsOf q.2) 4 done (fun q hq=>by unfold pathsOf;rw[List.length_map];exact(hpk q (hsub q hq)).2.files);go_wp2;refine wp_loop_down (fun m a' W=>∃ (x8 x9 x24 x25 x26 x27 x28 x29 x30 x31 x32 x33 x34 x35 x36 x37 x38 x39 x40:Value) (ks:List Nat) (k:Nat),
    a'={ tmps:=#[Value.map (some mb),undef,Value.slice none 0 0,Value.map (some w.heap.size),
     Value.pointer (some { block:=w.heap.size+2,off:=0 }),undef,
     Value.pointer (some { block:=q.fst,off:=0 }),undef,x8,x9,Value.map (some w.heap.size),
     Value.map (some (w.heap.size+1)),Value.map (some mb),
     Value.pointer (some { block:=w.heap.size+3,off:=0 }),
     Value.tuple #[Value.bool true,Value.string x,Value.pointer (some { block:=q.fst,off:=0 })],
     Value.bool true,Value.tuple #[Value.string x,Value.pointer (some { block:=q.fst,off:=0 })],
     Value.pointer (some { block:=q.fst,off:=0 }),Value.pointer (some { block:=q.fst,off:=0 }),
     Value.pointer (some { block:=q.fst,off:=0 }),Value.pointer (some { block:=q.fst,off:=4 }),
     Value.slice a q.snd.files.length cap,Value.int IntKind.i64 (q.snd.files.length:Int),Value.int IntKind.i64 (k:Int),x24,
     x25,x26,x27,x28,x29,x30,x31,x32,x33,x34,x35,x36,x37,x38,x39,x40,undef,undef,undef,undef,
     undef,undef],defers:=ks.map markOf }/\k<=q.2.files.length/\m=q.2.files.length-k /\
    Rest w mb L D ((done.flatMap fun q=>pathsOf q.2) ++ (pathsOf q.2).take k) (fun z=>left z && !z.sameKey (.string q.2.name)) cnt2 ks W /\
    CountAt W (w.heap.size+1) (((done.flatMap fun q=>pathsOf q.2) ++ (pathsOf q.2).take k).flatMap Sp.folders)) q.2.files.length ?_ ?_
   ·exact⟨_,_,_,_,_,_,_,_,_,_,_,_,_,_,_,_,_,_,_,ks,0,rfl,by omega,rfl,by simpa using hR2,by simpa using hC2⟩
   ·clear hR hR2 hC hC2 h4b
    rintro m a' W2 ⟨x8,x9,x24,x25,x26,x27,x28,x29,x30,x31,x32,x33,x34,x35,x36,x37,x38,x39,x40,ks2,k,rfl,hk,rfl,hR3,hC3⟩
    by_cases hk2:k<q.2.files.length
    ·obtain⟨b,off,rfl,hbl,hc0,hc1⟩:=HF.out k hk2
     have hd0:=(World.cell?_of_block (w:=w) (a:=⟨b,off+k*2,none⟩) (hR3.below.block b hbl)).trans hc0;have hd1:=(World.cell?_of_block (w:=w) (a:=⟨b,off+k*2+1,none⟩) (hR3.below.block b hbl)).trans hc1;generalize hpath:q.2.files[k].path=path at hd0;unfold sv at hd0 hd1;clear hc0 hc1;have hpl:path.length<=maxLen:=by
      have:=hok.paths _ (List.getElem_mem hk2);rw[hpath] at this;unfold maxLen;omega
     have hol:((done.flatMap fun q=>pathsOf q.2) ++ (pathsOf q.2).take k).length<800000:=by
      rw[List.length_append,List.length_take];unfold pathsOf at hdl ⊢;rw[List.length_map];omega
     have hR4:=hR3.alloc (.cells #[Value.string { data:=List.toArray path },Value.string { data:=List.toArray q.snd.files[k].content }] 182);have hokp:=hok;have hpk1:(pathsOf q.2).take (k+1)=(pathsOf q.2).take k ++ [path]:=by
      unfold pathsOf;rw[List.take_add_one,List.getElem?_map,List.getElem?_eq_getElem hk2,<-hpath];rfl
     generalize hok:(done.flatMap fun q=>pathsOf q.2) ++ (pathsOf q.2).take k=ownk at hR4 hC3 hol;have hcc:ownk.count path<1000000000:=Nat.lt_of_le_of_lt List.count_le_length (by omega);have HPK:=hid hpk1;have HOK:=hid hok;have hcell:(W2.alloc (.cells #[Value.string { data:=List.toArray path },Value.string { data:=List.toArray q.snd.files[k].content }] 182)).cell? ⟨W2.heap.size,0,none⟩=some (.string ⟨path.toArray⟩):=by
      rw[World.cell?_alloc_at _ _ _ _ rfl];rfl
     have hbne:some W2.heap.size≠some w.heap.size:=by have:=hR3.size;simp;omega
     have hk4:k<4:=by omega
     clear hfew hpk1 hok hR3;go_wp2_with (first
      | (at_lookup;refine wp_cnt_get _ rfl _ _ rfl w.heap.size _ rfl hR4.own path hpl rfl ?_)
      | (at_mapUpdate;refine wp_cnt_put _ rfl _ _ _ rfl w.heap.size _ rfl hR4.own (by omega) path hpl rfl rfl ?_;intro W5 hc5 hg5;have hb5:=hg5.cell hcell hbne;have hR5:=hR4.put hg5 hc5)
      | (go_at_call 168;refine(folders_any _ _).mono ?_;rintro e W6 ⟨rfl,rfl⟩))
     have hwb:w.heap.size+1<W5.heap.size:=by have:=hR5.size;omega
     have hC5:CountAt W5 (w.heap.size+1) (ownk.flatMap Sp.folders):=(hC3.block (w':=W2.alloc _) (Below.heap_alloc _ _ _ hC3.lt)).kept hg5 (by simp);have hpath1000:path.length<1000:=by
      have:=hokp.paths _ (List.getElem_mem hk2);rw[hpath] at this;omega
     have hfl5:(ownk.flatMap Sp.folders).length<900000000:=by
      have h1:=flat_len Sp.folders 1000 ownk (fun s hs=>by
       rw[<-HOK.out] at hs;have hfs:(Sp.folders s).length<=s.length:=by
        unfold Sp.folders;rw[List.length_map];exact Nat.le_trans (List.length_filter_le _ _) (by simp)
       have hs2:∃ p:Sp.Pk,PkOk p/\s∈pathsOf p:=by
        rcases List.mem_append.1 hs with hs|hs
        ·obtain⟨q',hq',hs⟩:=List.mem_flatMap.1 hs
         exact⟨q'.2,(hpk q' (hsub q' hq')).2,hs⟩
        ·exact⟨q.2,hokp,List.mem_of_mem_take hs⟩
       obtain⟨p',hp',hs3⟩:=hs2;obtain⟨f,hf,rfl⟩:=List.mem_map.1 hs3;have:=hp'.paths f hf;omega)
      omega
     refine wpIn_wide.1 (wpIn_rangeFunc_ownG (F:=Fence.wide) (n:=6) rfl (by omega) (gf:=216) (lb:=#[.pointer (some ⟨W5.heap.size,0,none⟩)]) rfl trivial (enters_of Tryz.func216 (by kernel_rfl) rfl)
      (folders_stops Fence.wide 5 trivial rfl (by omega) W5.heap.size (W5.heap.size+1) (w.heap.size+1) ⟨path.toArray⟩ (by rw[<-bl_len,bl_mk];omega) (W5.alloc (.cells #[.string ⟨path.toArray⟩] 9)) (by omega) (by omega) (by simp) (by rw[World.cell?_alloc_at _ _ _ _ rfl];rfl))
      FrN.trans ?hKb (Below.refl _ _) (fun _=>rfl)
      (fun pre W=>CountAt W (w.heap.size+1) (ownk.flatMap Sp.folders ++ pre.map (·.1))/\FrN (W5.heap.size+1) (w.heap.size+1) (W5.alloc (.cells #[.string ⟨path.toArray⟩] 9)) W) (fun _ _ _=>False) ?hI ?hIx ?h0
      (fun x2=>{ tmps:=#[Value.map (some mb),undef,Value.slice none 0 0,Value.map (some w.heap.size),
     Value.pointer (some { block:=w.heap.size+2,off:=0 }),undef,
     Value.pointer (some { block:=q.fst,off:=0 }),undef,
     Value.pointer (some { block:=W2.heap.size,off:=0 }),.string ⟨x2.1.toArray⟩,Value.map (some w.heap.size),
     Value.map (some (w.heap.size+1)),Value.map (some mb),
     Value.pointer (some { block:=w.heap.size+3,off:=0 }),
     Value.tuple #[Value.bool true,Value.string x,Value.pointer (some { block:=q.fst,off:=0 })],
     Value.bool true,Value.tuple #[Value.string x,Value.pointer (some { block:=q.fst,off:=0 })],
     Value.pointer (some { block:=q.fst,off:=0 }),Value.pointer (some { block:=q.fst,off:=0 }),
     Value.pointer (some { block:=q.fst,off:=0 }),Value.pointer (some { block:=q.fst,off:=4 }),
     Value.slice (some { block:=b,off:=off }) q.snd.files.length cap,
     Value.int IntKind.i64 (q.snd.files.length:Int),Value.int IntKind.i64 (k:Int),Value.bool true,
     Value.pointer (some { block:=b,off:=off+k*2 }),
     Value.agg
      #[Value.string { data:=List.toArray path },Value.string { data:=List.toArray q.snd.files[k].content }],
     Value.map (some w.heap.size),Value.pointer (some { block:=W2.heap.size,off:=0 }),
     Value.string { data:=List.toArray path },Value.int IntKind.i64 (List.count path ownk:Int),
     Value.int IntKind.i64 ((List.count path ownk:Int)+1),Value.pointer (some { block:=W2.heap.size,off:=0 }),
     Value.string { data:=List.toArray path },
     Value.func (Fn.func 216) #[] #[Value.pointer (some { block:=W5.heap.size,off:=0 })],.string ⟨x2.1.toArray⟩,x36,x37,x38,
     x39,x40,undef,undef,undef,undef,undef,undef],defers:=[] }) ?assign ?body ?done ?stop)
     case hKb =>
      intro W l o o' hl ho _ _;simp at hl;exact⟨rfl,rfl,rfl,by simp[World.putObj],fun j hj hne=>World.putObj_heap_other (by omega)⟩
     case hI =>
      rintro pre A B row ⟨h1,h2⟩ hg hr;refine⟨h1.kept hg fun e=>?_,h2.trans ⟨hg.os,hg.tape,hg.output,hg.size,fun j hj hne=>?_⟩⟩
      ·have:=(hr _ e.symm).1;simp at this;omega
      ·have h2s:=h2.size
       simp at h2s;refine hg.block j (by omega) fun e=>?_
       have:=(hr _ e.symm).1;simp at this;omega
     case hIx=>intro c s A B row h;exact h.elim
     case h0=>exact⟨by simpa using hC5.block (w':=W5.alloc _) (Below.heap_alloc _ _ _ hC5.lt),FrN.refl _ _ _⟩
     case assign =>
      intro l x2 W K hK
      gi_wp2
      exact hK
     case stop=>intro D c pre W _ _ h;exact h.elim
     case done =>
      intro D2 xs W hD2 hxs hIx hdef;go_wp2;have hR6:=((hR5.alloc (.cells #[.string ⟨path.toArray⟩] 9)).frn hIx.2 (by simp))
      simp only[World.size_alloc] at hD2;have hR7:=hR6.mark hdef (fun hm=>by have:=hR5.marks.lt D2 hm;omega) (by have:=hR5.size;omega);refine⟨q.2.files.length-(k+1),by omega,_,_,_,_,_,_,_,_,_,_,_,_,_,_,_,_,_,_,_,D2 :: ks2,k+1,rfl,hk2,rfl,?_,?_⟩
      ·rw[HPK.out,<-List.append_assoc,HOK.out];exact hR7
      ·rw[HPK.out,<-List.append_assoc,HOK.out,List.flatMap_append]
       have h8:=hIx.1;rw[hxs,bl_mk] at h8
       simpa using h8
     case body =>
      rintro l pre x2 W ⟨hc6,hf6⟩ hpre;simp only[bl_mk] at hpre
      dsimp only
      have hb6:W.cell? ⟨w.heap.size+2,0,none⟩=some (.map (some (w.heap.size+1))):=(hf6.cell (by show w.heap.size+2<_;omega) (by simp)).trans (hR5.alloc _).box;have hlen6:(ownk.flatMap Sp.folders ++ pre.map (·.1)).length<1000000000:=by rw[List.length_append,List.length_map];omega
      have hx2:x2.1.length<=maxLen:=by have:=x2.2;unfold maxLen;omega
      generalize hfk:ownk.flatMap Sp.folders ++ pre.map (·.1)=folk at hc6 hlen6;have hcc6:folk.count x2.1<1000000000:=Nat.lt_of_le_of_lt List.count_le_length hlen6
      gi_wp2_with (first
       | (gi_at_lookup;refine wpIn_cnt_get _ rfl _ _ rfl (w.heap.size+1) _ rfl hc6 x2.1 hx2 rfl ?_)
       | (gi_at_mapUpdate;refine wpIn_cnt_put _ rfl _ _ _ rfl (w.heap.size+1) _ rfl hc6 hlen6 x2.1 hx2 rfl rfl ?_;intro W7 hc7 hg7))
      have hwlt:∀ j,some (w.heap.size+1)=some j->j<(W5.alloc (.cells #[.string ⟨path.toArray⟩] 9)).heap.size:=by intro j e;cases e;simp;omega
      have hf7:FrN (W5.heap.size+1) (w.heap.size+1) W W7:=⟨hg7.os,hg7.tape,hg7.output,hg7.size,fun j hj hne=>hg7.block j (by have:=hf6.size;simp at this;omega) (fun e=>hne (by cases e;rfl))⟩
      refine⟨KeepsFrom.of_grownBy hg7 hwlt,hf7,?_,hf6.trans hf7⟩;rw[List.map_append,<-List.append_assoc,hfk];exact hc7
    ·obtain rfl:k=q.2.files.length:=by omega
     go_wp2;refine⟨cnt2,hlt2,_,_,_,_,_,_,_,_,_,_,_,_,_,_,_,_,_,_,_,_,_,_,_,_,_,_,_,_,_,_,ks2,done ++ [q],fun z=>left z && !z.sameKey (.string q.2.name),rfl,?_,?_,?_,?_,?_⟩
     ·rw[List.flatMap_append]
      have e8:(pathsOf q.2).take q.2.files.length=pathsOf q.2:=by unfold pathsOf;rw[<-List.length_map (f:=fun f:Sp.Fl=>f.path),List.take_length]
      rw[e8] at hR3
      simpa using hR3
     ·have e8:(pathsOf q.2).take q.2.files.length=pathsOf q.2:=by unfold pathsOf;rw[<-List.length_map (f:=fun f:Sp.Fl=>f.path),List.take_length]
      rw[e8] at hC3
      simpa using hC3
     ·refine List.nodup_append.2 ⟨hnd,by simp,?_⟩
      rintro r hr r' hr' rfl;rw[List.mem_singleton] at hr';subst hr';exact((hleft r hq).1 hlk) hr
     ·intro r hr
      rcases List.mem_append.1 hr with h|h
      ·exact hsub r h
      ·rw[List.mem_singleton] at h;exact h ▸ hq
     ·refine⟨fun r hr=>?_,by rw[List.length_append];simp;omega⟩
      rw[Bool.and_eq_true,hleft r hr,Bool.not_eq_true',List.mem_append,List.mem_singleton,not_or];refine and_congr_right fun _=>?_
      rw[<-Bool.not_eq_true,WideAt.sameKey_iff (isKey9 _ (by have:=(hpk q hq).2.name;unfold maxLen;omega))];constructor
      ·rintro h rfl;exact h rfl
      ·intro h e
       injection e with e
       exact h (names_one hap r hr q hq e)
end
section
open Go.RowKit Go.Maps
abbrev KV:=List (Sp.Str × Value)
def getKV(kv:KV)(x:Sp.Str)(z:Value):Value:=match kv.find? (fun q=>q.1 == x) with
 | some q=>q.2
 | none=>z
def hasKV(kv:KV)(x:Sp.Str):Bool:=kv.any fun q=>q.1 == x
def dropKV(kv:KV)(x:Sp.Str):KV:=kv.filter fun q=>q.1 != x
structure Shows(D:DataW Value)(kv:KV):Prop where
 tidy:Maps.Tidy D
 at_:∀ q∈kv,∀ z,D.atKey (.string q.1) z=.held q.2
 has_:∀ k,Maps.has D k=true↔∃ q∈kv,k=.string q.1
 size_:Maps.size D=kv.length
 apart:kv.Pairwise fun p q=>p.1≠q.1
 keys:∀ q∈kv,q.1.length<=maxLen
def MapAt(w:World)(b:Nat)(kv:KV):Prop:=∃ D,w.ownsMap Tryz.prog 9 Rv b kv.length D/\Shows D kv
namespace MP
theorem get_mem{kv:KV}(ha:kv.Pairwise fun p q=>p.1≠q.1){q:Sp.Str × Value}(hq:q∈kv)(z:Value):getKV kv q.1 z=q.2:=by
 unfold getKV;have:kv.find? (fun p=>p.1 == q.1)=some q:=by
  induction kv with
  | nil=>cases hq
  | cons p r ih =>
   obtain⟨h1,h2⟩:=List.pairwise_cons.1 ha
   rcases List.mem_cons.1 hq with rfl|hq
   ·rw[List.find?_cons_of_pos (by simp)]
   ·rw[List.find?_cons_of_neg (by simpa using h1 q hq)]
    exact ih h2 hq
 rw[this]
theorem has_iff{kv:KV}{x:Sp.Str}:hasKV kv x=true↔∃ q∈kv,q.1=x:=by
 unfold hasKV;rw[List.any_eq_true];simp
theorem get_none{kv:KV}{x:Sp.Str}(h:hasKV kv x=false)(z:Value):getKV kv x z=z:=by
 unfold getKV;have:kv.find? (fun p=>p.1 == x)=none:=by
  rw[List.find?_eq_none];intro q hq he;rw[<-Bool.not_eq_true,has_iff] at h;exact h ⟨q,hq,by simpa using he⟩
 rw[this]
theorem has_lit{D:DataW Value}{kv:KV}(h:Shows D kv)(x:Sp.Str):Maps.has D (.string x)=hasKV kv x:=by
 rw[Bool.eq_iff_iff,h.has_,has_iff];exact⟨fun ⟨q,hq,e⟩=>⟨q,hq,by injection e with e;exact e.symm⟩,fun ⟨q,hq,e⟩=>⟨q,hq,by rw[e]⟩⟩
theorem at_lit{D:DataW Value}{kv:KV}(h:Shows D kv)(x:Sp.Str)(z:Value):D.atKey (.string x) (.held z)=.held (getKV kv x z):=by
 cases hh:hasKV kv x with
 | true =>
  obtain⟨q,hq,rfl⟩:=has_iff.1 hh;rw[h.at_ q hq,get_mem h.apart hq]
 | false =>
  rw[get_none hh,Maps.atKey_of_not_has (by rw[has_lit h,hh])]
theorem shows_nil:Shows (.map []) []:=⟨Maps.tidy_empty,(fun q hq=>by cases hq),(fun k=>by simp[Maps.has]),rfl,List.Pairwise.nil,(fun q hq=>by cases hq)⟩
theorem shows_perm{D:DataW Value}{kv kv':KV}(h:Shows D kv)(hp:kv.Perm kv'):Shows D kv':=
 ⟨h.tidy,fun q hq=>h.at_ q (hp.mem_iff.2 hq),fun k=>(h.has_ k).trans ⟨fun ⟨q,hq,e⟩=>⟨q,hp.mem_iff.1 hq,e⟩,fun ⟨q,hq,e⟩=>⟨q,hp.mem_iff.2 hq,e⟩⟩,h.size_.trans hp.length_eq,(hp.pairwise_iff (fun hab=>fun e=>hab e.symm)).1 h.apart,fun q hq=>h.keys q (hp.mem_iff.2 hq)⟩
theorem shows_new{D:DataW Value}{kv:KV}(h:Shows D kv){x:Sp.Str}(hx:x.length<=maxLen)(hn:hasKV kv x=false)(v:Value):Shows (D.put (.string x) (.held v)) (kv ++ [(x,v)]):=by
 have hne:∀ q∈kv,q.1≠x:=fun q hq e=>by
  rw[<-Bool.not_eq_true,has_iff] at hn;exact hn ⟨q,hq,e⟩
 refine⟨h.tidy.put (isKey9 x hx) _,fun q hq z=>?_,fun k=>?_,?_,?_,fun q hq=>?_⟩
 ·rcases List.mem_append.1 hq with hq|hq
  ·rw[Maps.atKey_put_other (fun e=>hne q hq (by injection e)),h.at_ q hq]
  ·rw[List.mem_singleton] at hq;subst hq
   exact Maps.atKey_put_same h.tidy.isMap (isKey9 x hx) _ _
 ·by_cases e:k=.string x
  ·subst e
   rw[Maps.has_put_same h.tidy.isMap (isKey9 x hx)];exact⟨fun _=>⟨(x,v),by simp,rfl⟩,fun _=>rfl⟩
  ·rw[Maps.has_put_other e,h.has_]
   constructor
   ·rintro ⟨q,hq,e⟩;exact⟨q,by simp[hq],e⟩
   ·rintro ⟨q,hq,e2⟩
    rcases List.mem_append.1 hq with hq|hq
    ·exact⟨q,hq,e2⟩
    ·rw[List.mem_singleton] at hq;subst hq;exact absurd e2 e
 ·rw[Maps.size_put h.tidy,has_lit h,hn,h.size_];simp
 ·rw[List.pairwise_append]
  refine⟨h.apart,by simp,fun p hp q hq=>?_⟩;rw[List.mem_singleton] at hq;subst hq;exact hne p hp
 ·rcases List.mem_append.1 hq with hq|hq
  ·exact h.keys q hq
  ·rw[List.mem_singleton] at hq;subst hq;exact hx
theorem shows_same{D:DataW Value}{kv:KV}(h:Shows D kv){q:Sp.Str × Value}(hq:q∈kv):Shows (D.put (.string q.1) (.held q.2)) kv:=by
 have hx:=h.keys q hq;have hh:Maps.has D (.string q.1)=true:=(h.has_ _).2 ⟨q,hq,rfl⟩;refine⟨h.tidy.put (isKey9 _ hx) _,fun p hp z=>?_,fun k=>?_,?_,h.apart,h.keys⟩
 ·by_cases e:p.1=q.1
  ·have:p=q:=by
    have h1:=get_mem h.apart hp .nilIface;have h2:=get_mem h.apart hq .nilIface;rw[e,h2] at h1;exact Prod.ext e h1.symm
   subst this;exact Maps.atKey_put_same h.tidy.isMap (isKey9 _ hx) _ _
  ·rw[Maps.atKey_put_other (fun e2=>e (by injection e2)),h.at_ p hp]
 ·by_cases e:k=.string q.1
  ·subst e
   rw[Maps.has_put_same h.tidy.isMap (isKey9 _ hx)];exact⟨fun _=>⟨q,hq,rfl⟩,fun _=>rfl⟩
  ·rw[Maps.has_put_other e,h.has_]
 ·rw[Maps.size_put h.tidy,hh,h.size_];rfl
theorem mem_drop{kv:KV}{x:Sp.Str}{q:Sp.Str × Value}:q∈dropKV kv x↔q∈kv/\q.1≠x:=by
 unfold dropKV;rw[List.mem_filter];simp
theorem shows_del{D:DataW Value}{kv:KV}(h:Shows D kv)(x:Sp.Str):Shows (D.del (.string x)) (dropKV kv x):=by
 refine⟨h.tidy.del _,fun q hq z=>?_,fun k=>?_,?_,h.apart.sublist List.filter_sublist,fun q hq=>h.keys q (mem_drop.1 hq).1⟩
 ·obtain⟨h1,h2⟩:=mem_drop.1 hq
  rw[Maps.atKey_del_other (fun e=>h2 (by injection e)),h.at_ q h1]
 ·by_cases e:k=.string x
  ·subst e
   rw[Maps.has_del_same];constructor
   ·intro hh;cases hh
   ·rintro ⟨q,hq,e⟩
    exact absurd (by injection e with e;exact e.symm) (mem_drop.1 hq).2
  ·rw[Maps.has_del_other e,h.has_]
   constructor
   ·rintro ⟨q,hq,rfl⟩;exact⟨q,mem_drop.2 ⟨hq,fun e2=>e (by rw[e2])⟩,rfl⟩
   ·rintro ⟨q,hq,e2⟩;exact⟨q,(mem_drop.1 hq).1,e2⟩
 ·have h1:=Maps.size_del (k:=.string x) h.tidy
  rw[has_lit h,h.size_] at h1;have h2:(dropKV kv x).length+(if hasKV kv x then 1 else 0)=kv.length:=by
   have ha:=h.apart;clear h h1
   induction kv with
   | nil=>rfl
   | cons p r ih =>
    obtain⟨h1,h2⟩:=List.pairwise_cons.1 ha;have hi:=ih h2;unfold dropKV hasKV at hi ⊢
    by_cases e:p.1=x
    ·have hr:r.any (fun q=>q.1 == x)=false:=by
      rw[List.any_eq_false];intro q hq;have:=h1 q hq;rw[e] at this;simp;exact fun e2=>this e2.symm
     rw[hr] at hi;rw[List.filter_cons_of_neg (by simp[e]),List.any_cons,hr];simp[e] at hi ⊢;omega
    ·rw[List.filter_cons_of_pos (by simp[e]),List.any_cons]
     have:(p.1 == x)=false:=by simpa using e
     rw[this,Bool.false_or,List.length_cons,List.length_cons];omega
  omega
end MP
theorem MapAt.lt{w:World}{b:Nat}{kv:KV}(h:MapAt w b kv):b<w.heap.size:=by obtain⟨D,h1,_⟩:=h;exact h1.lt
theorem MapAt.block{w w':World}{b:Nat}{kv:KV}(h:MapAt w b kv)(hb:w'.heap[b]? = w.heap[b]?):MapAt w' b kv:=by
 obtain⟨D,⟨es,clock,h1,r⟩,h2⟩:=h;exact⟨D,⟨es,clock,by rw[hb];exact h1,r⟩,h2⟩
theorem MapAt.below{w w':World}{b B:Nat}{kv:KV}(h:MapAt w b kv)(hb:Below B w w')(hB:b<B):MapAt w' b kv:=h.block (hb.block b hB)
theorem MapAt.perm{w:World}{b:Nat}{kv kv':KV}(h:MapAt w b kv)(hp:kv.Perm kv'):MapAt w b kv':=by
 obtain⟨D,h1,h2⟩:=h;exact⟨D,by rw[<-hp.length_eq];exact h1,MP.shows_perm h2 hp⟩
theorem MapAt.apart{w:World}{b:Nat}{kv:KV}(h:MapAt w b kv):kv.Pairwise fun p q=>p.1≠q.1:=by obtain⟨_,_,h2⟩:=h;exact h2.apart
theorem MapAt.keys{w:World}{b:Nat}{kv:KV}(h:MapAt w b kv):∀ q∈kv,q.1.length<=maxLen:=by obtain⟨_,_,h2⟩:=h;exact h2.keys
theorem MapAt.made(w:World):MapAt (w.alloc (.map #[] 0)) w.heap.size []:=⟨.map [],World.ownsMap_made w Tryz.prog 9 _,MP.shows_nil⟩
theorem MapAt.look{w:World}{b:Nat}{kv:KV}{t e:TypeId}{z:Value}(h:MapAt w b kv)(ht:Tryz.prog.underlying t=some (.map 9 e))(hz:∀ w,(zeroValue e).run Tryz.prog w=.ok z w)(x:Sp.Str)(hx:x.length<=maxLen):
  (Instr.lookup t (.map (some b)) (.string ⟨x.toArray⟩) false).run Tryz.prog w=.ok (getKV kv x z) w:=by
 obtain⟨D,h1,h2⟩:=h;obtain⟨v,ps,hrun,hv⟩:=h1.lookup keyed9 ht (hz w) (zd:=.held z) (zp:=[]) rfl (keyOf9 x hx);rw[hrun];have e:=congrArg Prod.fst (Option.some.inj hv);rw[MP.at_lit h2] at e;have:v=getKV kv x z:=by simpa using e
 rw[this]
theorem MapAt.look_ok{w:World}{b:Nat}{kv:KV}{t e:TypeId}{z:Value}(h:MapAt w b kv)(ht:Tryz.prog.underlying t=some (.map 9 e))(hz:∀ w,(zeroValue e).run Tryz.prog w=.ok z w)(x:Sp.Str)(hx:x.length<=maxLen):
  (Instr.lookup t (.map (some b)) (.string ⟨x.toArray⟩) true).run Tryz.prog w=.ok (.tuple #[getKV kv x z,.bool (hasKV kv x)]) w:=by
 obtain⟨D,h1,h2⟩:=h;obtain⟨v,ps,hrun,hv⟩:=h1.look_ok keyed9 ht (hz w) (zd:=.held z) (zp:=[]) rfl (keyOf9 x hx);rw[hrun,MP.has_lit h2];have e:=congrArg Prod.fst (Option.some.inj hv);rw[MP.at_lit h2] at e;have:v=getKV kv x z:=by simpa using e
 rw[this]
theorem MapAt.len{w:World}{b:Nat}{kv:KV}{t e:TypeId}(h:MapAt w b kv)(ht:Tryz.prog.underlying t=some (.map 9 e))(ty:TypeId):(Builtin.len_ #[t] ty #[.map (some b)]).run Tryz.prog w=.ok (.int .i64 kv.length) w:=by
 obtain⟨D,h1,h2⟩:=h;rw[h1.len ht ty,h2.size_]
theorem MapAt.put{w:World}{b:Nat}{kv:KV}{t e:TypeId}(h:MapAt w b kv)(ht:Tryz.prog.underlying t=some (.map 9 e))(hn:kv.length<1000000000)(x:Sp.Str)(hx:x.length<=maxLen)(hnew:hasKV kv x=false)(v:Value):
  ∃ w',(Instr.mapUpdate t (.map (some b)) (.string ⟨x.toArray⟩) v).run Tryz.prog w=.ok () w'/\MapAt w' b (kv ++ [(x,v)])/\w.grownBy w' (some b):=by
 obtain⟨D,h1,h2⟩:=h;obtain⟨w',r1,r2,r3⟩:=h1.update keyed9 ht (by unfold maxLen;omega) (d:=.held v) (ps:=[]) (keyOf9 x hx) rfl;exact⟨w',r1,⟨_,by rw[List.length_append];exact r2,MP.shows_new h2 hx hnew v⟩,r3⟩
section
variable (w:World) {ops:Array Oper} {rest:List Oper} {o:Oper} {a:Act} {Q:Exit->Act->World->Prop}
theorem wp_map_put(t e:TypeId)(hg:o.guard=none)(m x v:Operand)(hop:o.op=Op.mapUpdate t m x v)(ht:Tryz.prog.underlying t=some (.map 9 e))(b:Nat)(kv:KV)(hm:a.eval m=.map (some b))(h:MapAt w b kv)(hn:kv.length<1000000000)(s:Sp.Str)(hs:s.length<=maxLen)
  (hnew:hasKV kv s=false)(hx:a.eval x=.string ⟨s.toArray⟩)(u:Value)(hv:a.eval v=u)
  (K:∀ w',MapAt w' b (kv ++ [(s,u)])->w.grownBy w' (some b)->wpList Tryz.prog ops Q rest (a.put o.dst undef) w'):wpList Tryz.prog ops Q (o :: rest) a w:=by
 obtain⟨D,h1,h2⟩:=h;refine wpList_mapUpdate_own w hg m x v t hop 9 e keyed9 ht _ b _ D hm h1 (by unfold maxLen;omega) _ _ _ hx hv (keyOf9 s hs) (.held u) [] rfl fun w' h3 h4=>K w' ⟨_,?_,MP.shows_new h2 hs hnew u⟩ h4
 rw[List.length_append];exact h3
theorem wp_map_same(t e:TypeId)(hg:o.guard=none)(m x v:Operand)(hop:o.op=Op.mapUpdate t m x v)(ht:Tryz.prog.underlying t=some (.map 9 e))(b:Nat)(kv:KV)(hm:a.eval m=.map (some b))(h:MapAt w b kv)(hn:kv.length<1000000000)(s:Sp.Str)
  (u:Value)(hold:(s,u)∈kv)(hx:a.eval x=.string ⟨s.toArray⟩)(hv:a.eval v=u)
  (K:∀ w',MapAt w' b kv->w.grownBy w' (some b)->wpList Tryz.prog ops Q rest (a.put o.dst undef) w'):wpList Tryz.prog ops Q (o :: rest) a w:=by
 obtain⟨D,h1,h2⟩:=h;refine wpList_mapUpdate_own w hg m x v t hop 9 e keyed9 ht _ b _ D hm h1 (by unfold maxLen;omega) _ _ _ hx hv (keyOf9 s (h2.keys _ hold)) (.held u) [] rfl fun w' h3 h4=>K w' ⟨_,?_,MP.shows_same h2 hold⟩ h4
 obtain⟨es,clock,k1,k2,k3,k4⟩:=h3;refine⟨es,clock,k1,k2,?_,k4⟩;have hs:=(MP.shows_same h2 hold).size_;rw[k4] at hs;have:es.size=kv.length:=by rw[<-hs];simp[Maps.size,Go.length_sorted]
 omega
theorem wp_map_del(t e:TypeId)(hg:o.guard=none)(m x:Operand)(hop:o.op=Op.call { callee:=Callee.builtin Builtin.delete,args:=#[m,x],argTypes:=#[t,9] })(ht:Tryz.prog.underlying t=some (.map 9 e))(b:Nat)(kv:KV)(hm:a.eval m=.map (some b))(h:MapAt w b kv)(s:Sp.Str)(hs:s.length<=maxLen)
  (hx:a.eval x=.string ⟨s.toArray⟩)
  (K:∀ w',MapAt w' b (dropKV kv s)->w.grownBy w' (some b)->wpList Tryz.prog ops Q rest (a.put o.dst (.tuple #[])) w'):wpList Tryz.prog ops Q (o :: rest) a w:=by
 obtain⟨D,h1,h2⟩:=h;refine wpList_delete_own w hg m x t 9 hop e keyed9 ht _ b _ D hm h1 _ _ hx (keyOf9 s hs) fun w' h3 h4=>K w' ⟨_,?_,MP.shows_del h2 s⟩ h4.grown
 obtain⟨es,clock,k1,k2,k3,k4⟩:=h3;refine⟨es,clock,k1,k2,?_,k4⟩;have hz:=(MP.shows_del h2 s).size_;rw[k4] at hz;have:es.size=(dropKV kv s).length:=by rw[<-hz];simp[Maps.size,Go.length_sorted]
 omega
end
def RangeAt(w:World)(b r:Nat)(kv todo:KV):Prop:=
 ∃ D left cnt,w.ranges Tryz.prog 9 Rv b r kv.length D left cnt/\Shows D kv/\(∀ x,left (.string x)=hasKV todo x)/\(∀ q∈todo,q∈kv)/\todo.Pairwise fun p q=>p.1≠q.1
theorem RangeAt.map{w:World}{b r:Nat}{kv todo:KV}(h:RangeAt w b r kv todo):MapAt w b kv:=by
 obtain⟨D,left,cnt,h1,h2,_⟩:=h;exact⟨D,h1.owns,h2⟩
theorem RangeAt.lt{w:World}{b r:Nat}{kv todo:KV}(h:RangeAt w b r kv todo):r<w.heap.size:=by
 obtain⟨D,left,cnt,h1,h2,_⟩:=h;exact h1.lt
theorem RangeAt.block{w w':World}{b r:Nat}{kv todo:KV}(h:RangeAt w b r kv todo)(hb:w'.heap[b]? = w.heap[b]?)(hr:w'.heap[r]? = w.heap[r]?):RangeAt w' b r kv todo:=by
 obtain⟨D,left,cnt,h1,h2,h3⟩:=h;exact⟨D,left,cnt,ranges_block h1 hb hr,h2,h3⟩
theorem rangeLeft_block{w w':World}{b r:Nat}(hb:w'.heap[b]? = w.heap[b]?)(hr:w'.heap[r]? = w.heap[r]?):w'.rangeLeft b r=w.rangeLeft b r:=by unfold World.rangeLeft;rw[hb,hr]
theorem RangeAt.sub{w:World}{b r:Nat}{kv todo:KV}(h:RangeAt w b r kv todo):∀ q∈todo,q∈kv:=by
 obtain⟨D,left,cnt,h1,h2,h3,h4,h5⟩:=h;exact h4
theorem RangeAt.apart{w:World}{b r:Nat}{kv todo:KV}(h:RangeAt w b r kv todo):todo.Pairwise fun p q=>p.1≠q.1:=by
 obtain⟨D,left,cnt,h1,h2,h3,h4,h5⟩:=h;exact h5
section
variable (w:World) {ops:Array Oper} {rest:List Oper} {o:Oper} {a:Act} {Q:Exit->Act->World->Prop}
theorem wp_map_range(t e:TypeId)(hg:o.guard=none)(m:Operand)(hop:o.op=Op.range t m)(ht:Tryz.prog.underlying t=some (.map 9 e))(b:Nat)(kv:KV)(hm:a.eval m=.map (some b))(h:MapAt w b kv)
  (K:∀ w',RangeAt w' b w.heap.size kv kv->w.grownBy w' none->w'.heap.size=w.heap.size+1->wpList Tryz.prog ops Q rest (a.put o.dst (.pointer (some ⟨w.heap.size,0,none⟩))) w'):wpList Tryz.prog ops Q (o :: rest) a w:=by
 obtain⟨D,h1,h2⟩:=h;exact wpList_range_own w hg m t hop 9 e keyed9 ht _ b _ D hm h1 fun w' r1 r2 r3=>K w' ⟨D,_,_,r1,h2,fun x=>MP.has_lit h2 x,fun q hq=>hq,h2.apart⟩ r2 r3
theorem wp_map_next(hg:o.guard=none)(it:Operand)(hop:o.op=Op.next it false)(b r:Nat)(kv todo:KV)(hit:a.eval it=.pointer (some ⟨r,0,none⟩))(h:RangeAt w b r kv todo)
  (hDone:todo=[]->wpList Tryz.prog ops Q rest (a.put o.dst (.tuple #[.bool false])) w)
  (hMore:∀ (q:Sp.Str × Value) (w':World),q∈todo->RangeAt w' b r kv (dropKV todo q.1)->w.grownBy w' (some r)->w'.heap.size=w.heap.size ->
   (Instr.entry (.pointer (some ⟨r,0,none⟩))).run Tryz.prog w'=.ok (.tuple #[.string ⟨q.1.toArray⟩,q.2]) w'->w'.rangeLeft b r<w.rangeLeft b r->wpList Tryz.prog ops Q rest (a.put o.dst (.tuple #[.bool true,.string ⟨q.1.toArray⟩,q.2])) w'):wpList Tryz.prog ops Q (o :: rest) a w:=by
 obtain⟨D,left,cnt,h1,h2,h3,h4,h5⟩:=h;refine wpList_next_ranges w hg it hop 9 keyed9 Rv Value.string (fun v:Value=>v) (fun key kl hkey=>str_of_key hkey) (fun v y _=>⟨v,rfl⟩) b r _ D left cnt hit h1 (fun _ hl=>hDone ?_) ?_
 ·refine List.eq_nil_iff_forall_not_mem.2 fun q hq=>?_
  have:=hl (.string q.1);rw[h3,MP.has_iff.2 ⟨q,hq,rfl⟩] at this;cases this
 ·intro x c kl y w' cnt' hkl hlk hRv hat hr2 hltc hg2 hs2 hen
  have hkl2:kl=.string (bl x):=by
   by_cases hx:x.size<=maxLen
   ·have h9:=WideMaps.keyOf_string_mk Tryz.underlying9 hx
    rw[hkl] at h9;exact Option.some.inj h9
   ·simp[keyOf,Tryz.underlying9,mapKey,hx] at hkl
  subst hkl2;rw[h3] at hlk;obtain⟨q,hq,hqx⟩:=MP.has_iff.1 hlk;have hx:(⟨q.1.toArray⟩:ByteArray)=x:=by rw[hqx];exact mk_bl x
  obtain rfl:y=(.held c,[]):=(Option.some.inj hRv).symm;have hc:q.2=c:=by
   have h6:=h2.at_ q (h4 q hq) .nil;rw[hqx,hat .nil] at h6;exact(DataW.held.inj h6).symm
  have:=hMore q w' hq ⟨D,_,cnt',hr2,h2,fun z=>?_,fun p hp=>h4 p (MP.mem_drop.1 hp).1,h5.sublist List.filter_sublist⟩ hg2 hs2 (by rw[hx,hc];exact hen) (by rw[hr2.left_eq,h1.left_eq];exact hltc)
  ·rw[hx,hc] at this;exact this
  ·rw[h3,Bool.eq_iff_iff,Bool.and_eq_true,MP.has_iff,MP.has_iff,Bool.not_eq_true',<-Bool.not_eq_true]
   have hk:(Lit.string z).sameKey (Lit.string (bl x))=true↔z=bl x:=by
    rw[WideAt.sameKey_iff (isKey9 _ (by rw[<-hqx];exact h2.keys q (h4 q hq)))];exact⟨fun e=>by injection e,fun e=>by rw[e]⟩
   constructor
   ·rintro ⟨⟨p,hp,rfl⟩,hne⟩
    exact⟨p,MP.mem_drop.2 ⟨hp,fun e=>hne (hk.2 (by rw[e,hqx]))⟩,rfl⟩
   ·rintro ⟨p,hp,rfl⟩
    obtain⟨h6,h7⟩:=MP.mem_drop.1 hp;exact⟨⟨p,h6,rfl⟩,fun e=>h7 (by rw[hk.1 e,hqx])⟩
end
end
section
namespace T1
open Sp (Str)
theorem index1(c:UInt8):∀ s:Str,(c ∉ s/\Lib.index s [c]=-1)\/∃ a r,s=a ++ c :: r/\c ∉ a/\Lib.index s [c]=(a.length:Nat)
 | []=>.inl ⟨by simp,rfl⟩
 | b :: l=>by
  by_cases h:b=c
  ·subst h
   refine .inr ⟨[],l,rfl,by simp,?_⟩;unfold Lib.index;rw[if_pos (by simp[List.isPrefixOf])];rfl
  ·have hp:¬[c].isPrefixOf (b :: l)=true:=by simp[List.isPrefixOf];exact fun e=>h e.symm
   rcases index1 c l with⟨h1,h2⟩|⟨a,r,h1,h2,h3⟩
   ·refine .inl ⟨by simp[h1];exact fun e=>h e.symm,?_⟩
    unfold Lib.index;rw[if_neg hp,h2];rfl
   ·refine .inr ⟨b :: a,r,by rw[h1];rfl,by simp[h2];exact fun e=>h e.symm,?_⟩
    unfold Lib.index;rw[if_neg hp,h3,if_neg (by simp)];simp
theorem byte1(c:UInt8)(s:Str):(c ∉ s/\Lib.split s [c]=[s]/\Lib.cut s [c]=(s,[],false))\/∃ a r,s=a ++ c :: r/\c ∉ a/\Lib.split s [c]=a :: Lib.split r [c]/\Lib.cut s [c]=(a,r,true):=by
 rcases index1 c s with⟨h1,h2⟩|⟨a,r,h1,h2,h3⟩
 ·refine .inl ⟨h1,Sp.split_miss s [c] (by simp) h2,?_⟩
  unfold Lib.cut;rw[h2,if_neg (by omega)]
 ·have e1:s.take a.length=a:=by rw[h1];simp
  have e2:s.drop (a.length + [c].length)=r:=by rw[h1];simp
  refine .inr ⟨a,r,h1,h2,?_,?_⟩
  ·rw[Sp.split_hit s [c] (by simp) a.length h3,e1,e2]
  ·unfold Lib.cut;rw[h3,if_pos (by omega),Int.toNat_natCast,e1,e2]
theorem occ_no{a r t:Str}{c:UInt8}{j:Nat}(h:c ∉ a)(hj:j<a.length):Lib.occAt (a ++ r) (c :: t) j=false:=by
 unfold Lib.occAt;rw[List.drop_append_of_le_length (by omega)];have:(c == a[j])=false:=by simp;intro e;exact h (e ▸ List.getElem_mem hj)
 rw[List.drop_eq_getElem_cons hj,List.cons_append,List.isPrefixOf,this,Bool.false_and]
theorem cut2_none{s:Str}(h:(32:UInt8) ∉ s):Lib.cut s [32,40]=(s,[],false):=by
 unfold Lib.cut;rw[Lib.index_none,if_neg (by omega)];intro j hj
 by_cases hl:j<s.length
 ·have:=occ_no (r:=[]) (t:=[40]) h hl;simpa using this
 ·obtain rfl:j=s.length:=by omega
  simp[Lib.occAt]
theorem cut2_here{a r:Str}(h:(32:UInt8) ∉ a):Lib.cut (a ++ 32 :: 40 :: r) [32,40]=(a,r,true):=by
 have hi:Lib.index (a ++ 32 :: 40 :: r) [32,40]=(a.length:Nat):=by
  refine Lib.index_first (by simp) ?_ (fun j hj=>occ_no h hj);unfold Lib.occAt;simp[List.isPrefixOf]
 unfold Lib.cut;rw[hi,if_pos (by omega),Int.toNat_natCast];simp
theorem cut2_later{a r:Str}(h:(32:UInt8) ∉ a)(hr:r.head?≠some 40):(32:UInt8)∈(Lib.cut (a ++ 32 :: r) [32,40]).1:=by
 rcases Sp.index_range (a ++ 32 :: r) [32,40] (by simp) with h1|⟨i,h1,h2,h3,h4⟩
 ·unfold Lib.cut;rw[h1,if_neg (by omega)];simp
 ·have hlt:a.length<i:=by
   rcases Nat.lt_trichotomy i a.length with hlt|heq|hgt
   ·rw[occ_no h hlt] at h3;cases h3
   ·subst heq
    unfold Lib.occAt at h3;rw[List.drop_left] at h3
    cases r with
    | nil=>simp[List.isPrefixOf] at h3
    | cons b q =>
     simp[List.isPrefixOf] at h3;exact absurd (by rw[<-h3];rfl) hr
   ·exact hgt
  unfold Lib.cut;rw[h1,if_pos (by omega),Int.toNat_natCast];simp only;rw[List.take_append,show i-a.length=(i-a.length-1)+1 from by omega,List.take_succ_cons];simp
theorem mem_all{s set:Str}{c:UInt8}{m n:Nat}(h:c∈s)(hc:set.contains c=false):Sp.among s set m n=false:=by
 unfold Sp.among;have:s.all (fun c=>set.contains c)=false:=by
  rw[Bool.eq_false_iff];intro ha;rw[List.all_eq_true] at ha;rw[ha c h] at hc;cases hc
 rw[this];rfl
theorem name_space{s:Str}(h:(32:UInt8)∈s):Sp.isName s=false:=by
 unfold Sp.isName;rw[mem_all h (by decide)];rfl
theorem ver_space{s:Str}(h:(32:UInt8)∈s):Sp.isVer s=false:=by
 unfold Sp.isVer;rw[mem_all h (by decide)];rfl
def sgn(b:Str):Bool:=b == [40,60,60] || b == [40,60,61] || b == [40,61] || b == [40,62,61] || b == [40,62,62]
def choiceR(s:Str):Option Sp.Ch:=
 match Lib.split s [32] with
 | [_]=>if Sp.isName s then some ⟨s,[],[]⟩ else none
 | [a,b,c]=>if Sp.isName a && !c.isEmpty && Sp.isVer (c.take (c.length-1)) && sgn b && (c.drop (c.length-1) == [41]) then some ⟨a,b.drop 1,c.take (c.length-1)⟩ else none
 | _=>none
theorem sgn_cons(b:Str):sgn (40 :: b)=Sp.signs.contains b:=by
 unfold sgn Sp.signs;simp[List.contains,List.elem]
 cases h1:(b == [60,60]) <;> cases h2:(b == [60,61]) <;> cases h3:(b == [61]) <;> cases h4:(b == [62,61]) <;> cases h5:(b == [62,62]) <;> simp_all
theorem sgn_head{b:Str}(h:b.head?≠some 40):sgn b=false:=by
 cases b with
 | nil=>rfl
 | cons x r =>
  have:x≠40:=fun e=>h (by rw[e];rfl)
  unfold sgn;simp[this]
theorem suffix_last(c:Str):Lib.hasSuffix c [41]=(!c.isEmpty && (c.drop (c.length-1) == [41])):=by
 unfold Lib.hasSuffix
 cases c with
 | nil=>rfl
 | cons x r =>
  rw[Bool.eq_iff_iff,List.isSuffixOf_iff_suffix,List.suffix_iff_eq_drop];simp only[List.isEmpty_cons,Bool.not_false,Bool.true_and,beq_iff_eq];exact⟨fun h=>h.symm,fun h=>h.symm⟩
theorem trim_last(c:Str)(h:(c.drop (c.length-1) == [41])=true)(hc:c.isEmpty=false):Lib.trimSuffix c [41]=c.take (c.length-1):=by
 unfold Lib.trimSuffix;rw[suffix_last,h,hc];simp
theorem choice_eq(s:Str):choiceR s=Sp.choose s:=by
 unfold choiceR
 rcases byte1 32 s with⟨h1,h2,_⟩|⟨a,r,rfl,ha,h2,_⟩
 ·rw[h2]
  unfold Sp.choose;rw[cut2_none h1];simp
 ·rw[h2]
  by_cases hr:r.head? = some 40
  ·obtain⟨r',rfl⟩:∃ r',r=40 :: r':=by
    cases r with
    | nil=>cases hr
    | cons x q=>exact⟨q,by simp at hr;rw[hr]⟩
   unfold Sp.choose;rw[cut2_here ha]
   rcases byte1 32 r' with⟨g1,g2,g3⟩|⟨b,v,rfl,hb,g2,g3⟩
   ·have g4:Lib.split (40 :: r') [32]=[40 :: r']:=by
     rcases byte1 32 (40 :: r') with⟨_,k,_⟩|⟨x,y,e,_⟩
     ·exact k
     ·exfalso
      have:(32:UInt8)∈(40 :: r'):=by rw[e];simp
      simp[g1] at this
    rw[g4,g3];simp
   ·have g4:Lib.split (40 :: (b ++ 32 :: v)) [32]=(40 :: b) :: Lib.split v [32]:=by
     refine(Sp.split_hit _ [32] (by simp) (b.length+1) ?_).trans ?_
     ·refine Lib.index_first (by simp) ?_ fun j hj=>?_
      ·unfold Lib.occAt;simp[List.isPrefixOf]
      ·exact occ_no (a:=40 :: b) (r:=32 :: v) (by simp[hb]) (by simpa using hj)
     ·simp
    rw[g4,g3]
    rcases byte1 32 v with⟨k1,k2,_⟩|⟨x,y,rfl,_,k2,_⟩
    ·rw[k2]
     simp only[List.drop_succ_cons,List.drop_zero,sgn_cons,suffix_last]
     cases e1:Sp.isName a with
     | false=>simp
     | true =>
      cases e2:v.isEmpty with
      | true=>simp
      | false =>
       cases e3:(v.drop (v.length-1) == [41]) with
       | false=>simp
       | true =>
        rw[trim_last v e3 e2]
        cases e4:Sp.isVer (v.take (v.length-1)) <;> cases e5:Sp.signs.contains b <;> simp
    ·rw[k2]
     obtain⟨z,zs,hz⟩:∃ z zs,Lib.split y [32]=z :: zs:=by
      cases h:Lib.split y [32] with
      | nil=>exact absurd h (Sp.split_ne _ _ (by simp))
      | cons z zs=>exact⟨z,zs,rfl⟩
     rw[hz];have hv:Lib.hasSuffix (x ++ 32 :: y) [41]=true->Sp.isVer (Lib.trimSuffix (x ++ 32 :: y) [41])=false:=by
      intro h;refine ver_space ?_;have h':=h;rw[suffix_last] at h';simp only[Bool.and_eq_true] at h';rw[trim_last _ h'.2 (by cases x <;> rfl)]
      cases y with
      | nil =>
       have:=h'.2;simp at this
      | cons q qs =>
       have e:(x ++ 32 :: q :: qs).length-1=x.length+(qs.length+1):=by simp
       rw[e,List.take_length_add_append,List.take_succ_cons];simp
     simp only
     cases e1:Sp.isName a with
     | false=>simp
     | true =>
      cases e2:Lib.hasSuffix (x ++ 32 :: y) [41] with
      | false=>simp
      | true=>rw[hv e2];simp
  ·have hn:Sp.choose (a ++ 32 :: r)=none:=by
    unfold Sp.choose;rw[name_space (cut2_later ha hr)];simp
   rw[hn]
   rcases byte1 32 r with⟨g1,g2,g3⟩|⟨b,v,rfl,hb,g2,g3⟩
   ·rw[g2]
   ·rw[g2]
    have hb':b.head?≠some 40:=by
     intro e
     cases b with
     | nil=>cases e
     | cons x q=>exact hr e
    cases hv:Lib.split v [32] with
    | nil=>rfl
    | cons z zs =>
     cases zs with
     | nil=>simp[sgn_head hb']
     | cons _ _=>rfl
end T1
end
section
namespace T2
open Sp (Str)
theorem word_prefix(w s:Str)(hw:(32:UInt8) ∉ w):(w ++ [32]).isPrefixOf s=((Lib.cut s [32]).2.2 && (Lib.cut s [32]).1 == w)/\((w ++ [32]).isPrefixOf s=true->(Lib.cut s [32]).2.1=s.drop (w.length+1)):=by
 rcases T1.byte1 32 s with⟨h1,_,h3⟩|⟨a,r,rfl,ha,_,h3⟩
 ·rw[h3]
  have:(w ++ [32]).isPrefixOf s=false:=by
   rw[Bool.eq_false_iff];intro e;obtain⟨t,ht⟩:=List.isPrefixOf_iff_prefix.1 e;exact h1 (by rw[<-ht];simp)
  rw[this];simp
 ·rw[h3]
  simp only[Bool.true_and];have key:(w ++ [32]).isPrefixOf (a ++ 32 :: r)=true↔a=w:=by
   constructor
   ·intro e
    obtain⟨t,ht⟩:=List.isPrefixOf_iff_prefix.1 e;have ht':w ++ 32 :: t=a ++ 32 :: r:=by rw[<-ht];simp
    rcases List.append_eq_append_iff.1 ht' with⟨x,e1,e2⟩|⟨x,e1,e2⟩
    ·cases x with
     | nil=>simpa using e1
     | cons y q =>
      exfalso;have:(32:UInt8)=y:=by simpa using (List.cons.inj e2).1
      subst this;exact ha (by rw[e1];simp)
    ·cases x with
     | nil=>simpa using e1.symm
     | cons y q =>
      exfalso;have:(32:UInt8)=y:=by simpa using (List.cons.inj e2).1
      subst this;exact hw (by rw[e1];simp)
   ·rintro rfl
    exact List.isPrefixOf_iff_prefix.2 ⟨r,by simp⟩
  refine⟨?_,fun e=>?_⟩
  ·rw[Bool.eq_iff_iff,key];simp
  ·have:=key.1 e
   subst this;simp
theorem clash_snoc(q:Str):∀ l:List Str,Sp.clash1 (l ++ [q])=(Sp.clash1 l || l.any (fun p=>p == q || Sp.over p q || Sp.over q p))
 | []=>rfl
 | a :: r=>by
  simp only[List.cons_append,Sp.clash1,clash_snoc q r,List.any_append,List.any_cons,List.any_nil,Bool.or_false]
  cases r.any (fun q=>a == q || Sp.over a q || Sp.over q a) <;> cases Sp.clash1 r <;> cases (a == q || Sp.over a q || Sp.over q a) <;> rfl
def needsP:Str:=[110,101,101,100,115,32]
def barsP:Str:=[98,97,114,115,32]
def fileP:Str:=[102,105,108,101,32]
def fileR(fs:List Sp.Fl)(t:Str):Option Sp.Fl:=
 if (Lib.cut t [61]).2.2 && Sp.isPath (Lib.cut t [61]).1 && decide ((Lib.cut t [61]).2.1.length<=24) && fs.all (fun g=>!Sp.over (Lib.cut t [61]).1 g.path && !Sp.over g.path (Lib.cut t [61]).1 && (Lib.cut t [61]).1 != g.path)
 then some ⟨(Lib.cut t [61]).1,(Lib.cut t [61]).2.1⟩ else none
def firstR(p:Sp.Pk)(s:Str):Option Sp.Pk:=
 match Lib.split s [32] with
 | [a,b,c]=>if a == Sp.packageW && Sp.isName b && Sp.isVer c then some { p with name:=b,ver:=c } else none
 | _=>none
def laterR(p:Sp.Pk)(s:Str):Option Sp.Pk:=
 if needsP.isPrefixOf s && decide (p.needs.length+p.bars.length+p.files.length=0) then(Sp.each (s.drop 6) [44,32] 3 (fun g=>Sp.each g [32,124,32] 3 Sp.choose)).map fun n=>{ p with needs:=n }
 else if barsP.isPrefixOf s && decide (p.bars.length+p.files.length=0) then(Sp.each (s.drop 5) [44,32] 3 Sp.choose).map fun n=>{ p with bars:=n }
 else if fileP.isPrefixOf s && decide (p.files.length<4) then(fileR p.files (s.drop 5)).map fun f=>{ p with files:=p.files ++ [f] }
 else none
theorem first_eq(p:Sp.Pk)(s:Str):firstR p s=Sp.line p true s:=by
 unfold firstR Sp.line
 rcases T1.byte1 32 s with⟨h1,h2,h3⟩|⟨a,r,rfl,ha,h2,h3⟩
 ·rw[h2,h3];simp
 ·rw[h2,h3]
  rcases T1.byte1 32 r with⟨g1,g2,g3⟩|⟨b,v,rfl,hb,g2,g3⟩
  ·rw[g2,g3];cases h:(a == Sp.packageW) <;> simp
  ·rw[g2,g3]
   rcases T1.byte1 32 v with⟨k1,k2,k3⟩|⟨x,y,rfl,hx,k2,k3⟩
   ·rw[k2]
    simp only[Bool.true_and]
    cases h:(a == Sp.packageW) <;> simp
   ·rw[k2]
    obtain⟨z,zs,hz⟩:∃ z zs,Lib.split y [32]=z :: zs:=by
     cases h:Lib.split y [32] with
     | nil=>exact absurd h (Sp.split_ne _ _ (by simp))
     | cons z zs=>exact⟨z,zs,rfl⟩
    rw[hz,T1.ver_space (s:=x ++ 32 :: y) (by simp)]
    cases h:(a == Sp.packageW) <;> simp
theorem any_all(q:Str)(fs:List Sp.Fl):(fs.map (·.path)).any (fun p=>p == q || Sp.over p q || Sp.over q p)=!fs.all (fun g=>!Sp.over q g.path && !Sp.over g.path q && q != g.path):=by
 induction fs with
 | nil=>rfl
 | cons f r ih =>
  simp only[List.map_cons,List.any_cons,List.all_cons,ih];have:(f.path == q)=!(q != f.path):=by
   rw[Bool.eq_iff_iff];simp;exact⟨fun h=>h.symm,fun h=>h.symm⟩
  rw[this]
  cases Sp.over q f.path <;> cases Sp.over f.path q <;> cases (q != f.path) <;> simp
theorem later_eq(p:Sp.Pk)(s:Str)(hc:Sp.clash1 (p.files.map (·.path))=false):laterR p s=Sp.line p false s:=by
 obtain⟨n1,n2⟩:=word_prefix Sp.needsW s (by decide);obtain⟨b1,b2⟩:=word_prefix Sp.barsW s (by decide);obtain⟨f1,f2⟩:=word_prefix Sp.fileW s (by decide);have en:Sp.needsW ++ [32]=needsP:=rfl;have eb:Sp.barsW ++ [32]=barsP:=rfl;have ef:Sp.fileW ++ [32]=fileP:=rfl;rw[en] at n1 n2;rw[eb] at b1 b2;rw[ef] at f1 f2;unfold laterR Sp.line;rw[n1,b1,f1];rw[n1] at n2;rw[b1] at b2;rw[f1] at f2
 rcases hcut:Lib.cut s [32] with⟨a,r,ok⟩
 rw[hcut] at n2 b2 f2;simp only at n2 b2 f2 ⊢
 cases ok with
 | false=>simp
 | true =>
  simp only[Bool.true_and] at n2 b2 f2 ⊢
  by_cases hp:a=Sp.packageW
  ·subst hp;simp[Sp.packageW,Sp.needsW,Sp.barsW,Sp.fileW]
  ·have hp':(a == Sp.packageW)=false:=by simpa using hp
   rw[hp']
   by_cases hn:a=Sp.needsW
   ·subst hn
    have:=n2 (by simp);subst this;have e1:(Sp.needsW == Sp.barsW)=false:=by decide
    have e2:(Sp.needsW == Sp.fileW)=false:=by decide
    rw[e1,e2];have:decide (p.needs.length+p.bars.length+p.files.length=0)=(p.needs.isEmpty && p.bars.isEmpty && p.files.isEmpty):=by
     rw[Bool.eq_iff_iff];simp[List.isEmpty_iff]
    rw[this];simp[Sp.needsW]
   ·have hn':(a == Sp.needsW)=false:=by simpa using hn
    rw[hn']
    by_cases hb:a=Sp.barsW
    ·subst hb
     have:=b2 (by simp);subst this;have e2:(Sp.barsW == Sp.fileW)=false:=by decide
     rw[e2];have:decide (p.bars.length+p.files.length=0)=(p.bars.isEmpty && p.files.isEmpty):=by
      rw[Bool.eq_iff_iff];simp[List.isEmpty_iff]
     rw[this];simp[Sp.barsW]
    ·have hb':(a == Sp.barsW)=false:=by simpa using hb
     rw[hb']
     by_cases hf:a=Sp.fileW
     ·subst hf
      have:=f2 (by simp);subst this;unfold fileR;rw[clash_snoc,hc,Bool.false_or,any_all,Bool.not_not];have e4:Sp.fileW.length+1=5:=rfl;rw[e4]
      by_cases q1:(Lib.cut (List.drop 5 s) [61]).2.2=true <;> by_cases q2:Sp.isPath (Lib.cut (List.drop 5 s) [61]).1=true <;> by_cases q3:(Lib.cut (List.drop 5 s) [61]).2.1.length<=24 <;> by_cases q4:p.files.length<4 <;> by_cases q5:(p.files.all fun g=>!Sp.over (Lib.cut (List.drop 5 s) [61]).1 g.path && !Sp.over g.path (Lib.cut (List.drop 5 s) [61]).1 && (Lib.cut (List.drop 5 s) [61]).1 != g.path)=true <;> simp only[q1,q2,q3,q4,q5,decide_true,decide_false,Bool.and_true,Bool.and_false,Bool.false_and,if_true,if_false,Bool.false_eq_true,Option.map_some,Option.map_none,BEq.rfl,Bool.not_true] <;> simp
     ·have hf':(a == Sp.fileW)=false:=by simpa using hf
      rw[hf'];simp
theorem line_clash{p p':Sp.Pk}{first:Bool}{s:Str}(h:Sp.line p first s=some p')(hc:Sp.clash1 (p.files.map (·.path))=false):Sp.clash1 (p'.files.map (·.path))=false:=by
 unfold Sp.line at h
 split at h
 ·cases h
 ·split at h
  ·split at h
   ·cases h;exact hc
   ·cases h
  ·split at h
   ·split at h
    ·cases he:(Sp.each (Lib.cut s [32]).2.1 [44,32] 3 fun g=>Sp.each g [32,124,32] 3 Sp.choose) with
     | none=>rw[he] at h;cases h
     | some n=>rw[he] at h;cases h;exact hc
    ·cases h
   ·split at h
    ·split at h
     ·cases he:Sp.each (Lib.cut s [32]).2.1 [44,32] 3 Sp.choose with
      | none=>rw[he] at h;cases h
      | some n=>rw[he] at h;cases h;exact hc
     ·cases h
    ·split at h
     ·split at h
      ·rename_i hh
       cases h
       simp only[Bool.and_eq_true,Bool.not_eq_true'] at hh;rw[List.map_append];exact hh.2
      ·cases h
     ·cases h
end T2
end
end Go.Proofs.YtfphcecjhdkcoaaGreatDoor

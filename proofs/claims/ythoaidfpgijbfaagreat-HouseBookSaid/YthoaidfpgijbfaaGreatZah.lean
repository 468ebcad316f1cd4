/- Joined by program. -/
import Derived.Test.YthoaidfpgijbfaaGreatZu
import Derived.Test.YthoaidfpgijbfaaGreatZs
import Derived.Deep.WholeRow
set_option linter.all false
set_option maxRecDepth 100000
set_option maxHeartbeats 32000000
namespace Go.Proofs.YthoaidfpgijbfaaGreat
open Lib (hid)
namespace Ho
open Go.RowKit Vb Ac
theorem ziR (ss:List OrderR) (vo:Nat→Value) (s:∀u∈zaI ss vo,u.oneCell'=true) (v:Value) (R:Nat→Prop) (w:World) (i:Sl w R v ss.length 18 (zaI ss vo)) (o:ss.length≤1000000):
  Calls Tryz.prog 57 #[v] w fun e w'=>∃A' cap',e=.returned (.slice A' ss.length cap')∧RowAt w' (fun b=>w.heap.size≤b) 36 18 (.slice A' ss.length cap') ss.length (zaI ss vo)∧Below w w w':=by
 obtain ⟨q,k⟩:=nm (zaI ss vo);obtain ⟨n,l⟩:=nm (ss.length);rw[←k] at i s ⊢;rw[←l] at i o ⊢;obtain ⟨g,A,m,rfl,p,t,f⟩:=id i;have r:=hid i;clear i f k l;have E:=fun (W:World) (a:Option Addr)=>Lib.run_eql_slice_nil (P:=Tryz.prog) W 22 36 a n m 0 0 Tryz.underlying22
 cases A with
 |none=>
  have l:n=0:=by
   obtain ⟨_,A,c,h,_,_,y⟩:=r.out;injection h with hA _ _
   subst hA
   rcases Nat.eq_zero_or_pos n with h0|h0
   ·exact h0
   ·obtain ⟨b,C,h,_⟩:=y h0
    cases h
  subst l;have B:q=[]:=List.eq_nil_of_length_eq_zero (by simpa using g);subst B;go_enter Tryz.func57,Tryz.ntmps57
  go_wp2
  go_ret;exact ⟨none,0,rfl,RowAt.nil,bR⟩
 |some ad=>
  clear g;go_enter Tryz.func57,Tryz.ntmps57
  go_wp2_with (at_builtin;refine zbF _ rfl (.tmp 5) (.tmp 6) znC rfl w.heap.size (.slice (some ⟨w,0,none⟩) 0 0) 0 [] rfl (World.ownsRow_lit w #[] 0 lR (zL) rfl) R _ n q rfl (r.out.alloc _) s (by omega) (by unfold maxLen;omega) (by simp) ?_;intro A' cap' D j z x)
  go_ret;have d:D.ownsRow w.heap.size 36 18 (.slice A' n cap') n q:=by simpa using j
  refine ⟨A',cap',by simp,⟨zbI d (zL),fun b o=>(d.lt b o).1⟩,(qA _).grown z (by simp) (by simp[Value.ownBlock])⟩
end Ho
namespace Ac
open Go.RowKit Vb
variable {F:Fence} {n:Nat} {P:Program}
end Ac
namespace Ho
open Go.RowKit Go.Shelf Vb Ac
attribute [local go_sem] Oper.semAt_some
theorem zdJ {W:World} {R:Nat→Prop} {v:Value} {l:List Off} (h:zae W R v l):∃A c,v=.slice A l.length c:=by
 obtain ⟨⟨_,A,c,rfl,_⟩,_⟩:=h;exact ⟨A,c,rfl⟩
theorem zg1 {os:List OrderR} {vo:Nat→Value} (h:∀k o,os[k]? =some o→∃A c,vo k=.slice A o.offers.length c):∀u∈zaI os vo,u.oneCell'=true:=by
 intro u b;unfold zaI at b;obtain ⟨y,f,a⟩:=List.mem_flatten.1 b;obtain ⟨k,d,rfl⟩:=List.mem_mapIdx.1 f;obtain ⟨A,c,e⟩:=h k os[k] (by simp[d]);rw[e] at a;unfold OrderR.cells at a
 simp at a
 rcases a with rfl|rfl|rfl|rfl|rfl|rfl|rfl|rfl|rfl|rfl|rfl|rfl|rfl|rfl|rfl|rfl|rfl|rfl<;>rfl
def zcU (os:List OrderR):List (Int×OrderR):=os.mapIdx fun i o=>((i:Int),o)
def zjq (gl:Nat):Value:=.func (.func 72) #[] #[.pointer (some ⟨gl,0,none⟩)]
def zhS (T:Nat→Part) (lo gl:Nat) (v:Value):Nat→Prop:=fun b=>b=gl∨v.ownBlock=some b∨(T b=.old∧b<lo)
structure BKAt (W:World) (T:Nat→Part) (lo gl:Nat) (v:Value) (vo:Nat→Value) (os:List OrderR):Prop where
 box:Ac.Blk W gl 22 #[v]
 row:RowAt W (fun b=>lo≤b) 36 18 v os.length (zaI os vo)
 offs:∀k o,os[k]? =some o→zae W (fun b=>T b=.old∧b<lo) (vo k) o.offers
 lo:lo≤W.heap.size
section
variable {W W':World} {T:Nat→Part} {lo gl:Nat} {v:Value} {vo:Nat→Value} {os:List OrderR}
theorem BKAt.same (h:BKAt W T lo gl v vo os) (hs:∀b,zhS T lo gl v b→W'.heap[b]? =W.heap[b]?) (hsz:W.heap.size≤W'.heap.size):BKAt W' T lo gl v vo os:=
 ⟨(hs gl (.inl rfl)).trans h.box,h.row.same fun b hb=>hs b (.inr (.inl hb)),fun k o hk=>⟨(h.offs k o hk).1.keep hsz fun b hb hr=>hs b (.inr (.inr hr)),(h.offs k o hk).2⟩,lT h.lo hsz⟩
theorem BKAt.x_lt (h:BKAt W T lo gl v vo os) {b:Nat} (a:zhS T lo gl v b):b<W.heap.size:=by
 rcases a with rfl|a|⟨_,a⟩
 ·exact h.box.lt
 ·exact h.row.lt a
 ·exact lL a h.lo
theorem BKAt.grow (h:BKAt W T lo gl v vo os) (hb:Below W W W'):BKAt W' T lo gl v vo os:=h.same (fun b hx=>hb.block b (h.x_lt hx)) hb.size
end
theorem zob {W:World} {T:Nat→Part} {h K:Nat} {H:House} (F:zaf W T h K H) (Q:H.book.length≤1000000):
  Calls Tryz.prog 25 #[.pointer (some ⟨h,0,none⟩)] W fun e W'=>∃gl v vo,e=.returned (zjq gl)∧BKAt W' T W.heap.size gl v vo H.book∧W.heap.size≤gl∧Below W W W':=by
 obtain ⟨t,d⟩:=nm (W.alloc (.cells #[.slice none 0 0] 22));have m:Below W W t:=by rw[d];exact qA _
 have l:=F.grow m;obtain ⟨Z,Y,va,vl,vb,vs,x⟩:=id l;obtain ⟨vo,a,g⟩:=x.book;obtain ⟨A,c,J⟩:=a.form;subst J;have n:∀k o,H.book[k]? =some o→zae t (fun b=>T b=.old∧b<W.heap.size) (vo k) o.offers:=fun k o s=>by
  refine zae.mono (g k o.offers (by rw[List.getElem?_map,s];rfl)) fun b q i=>⟨i,?_⟩
  rcases Nat.lt_or_ge b W.heap.size with h1|h1
  ·exact h1
  ·obtain ⟨_,_,_,_,_,_,E⟩:=F;rw[E.out b h1] at i
   cases i
 have U:=x.cells.2.2.2.2.1;have X:=x.cells.2.2.2.2.2.2;have z:=hid (ziR H.book vo (zg1 fun k o s=>zdJ (n k o s)) _ _ t a.sl Q);have N:=hid l;have B:=hid n;have j:=hid m;have r:=hid (show Ac.Blk t W.heap.size 22 #[.slice none 0 0] by rw[d];exact Ac.Blk.new _ _ _);clear F m l x a g n;go_enter Tryz.func25,Tryz.ntmps25;go_wp2_with fail
 rw[←d];clear d;refine (zbL N.out).mono ?_;rintro e S ⟨rfl,rfl⟩;go_wp2_with fail
 refine z.out.mono ?_;rintro e D ⟨L,M,rfl,i,q⟩;have f:=r.out.grow q;have x0:D.cell? ⟨W,0,none⟩=some (.slice none 0 0):=f.cell 0;have V:D.frozen? ⟨W,0,none⟩=false:=f.frozen 0;have C:=hid f;have O:=hid i;have y:=hid q;clear i f q;go_wp2_with fail
 go_ret;have I:=j.out.size;have R:=r.out.lt;have G:=Chg.set D ⟨W,0,none⟩ (.slice L H.book.length M);refine ⟨W,.slice L H.book.length M,vo,rfl,⟨C.out.set_ 0 _,(O.out.chg G fun b _ q e=>by have P:b=W.heap.size:=e;omega).mono fun b _ q=>by omega,fun k o s=>?_,?_⟩,lR,(j.out.trans (y.out.mono j.out.size)).setCell (p:=⟨W,0,none⟩) lR _⟩
 ·exact zae.chg (zae.grow (B.out k o s) y.out) G fun b _ i e=>by have P:b=W.heap.size:=e;have:=i.2;omega
 ·exact lT I (lT y.out.size G.size)
end Ho
namespace Ac
open Go.RowKit Vb
def zmI {α:Type} (F:Fence) (n':Nat) (P:Program) (g:Nat) (lb:Array Value) (encs:α→Array Value) (G:Nat→World→α→Prop) (X:Nat→Prop) (S Sp:List α→Prop) (N:Nat) (w:World):Prop:=
 ∀(l:Nat) (J:Nat→Nat→List α→World→Prop) (W:World),Below w w W→(∀hi n s A B,J hi n s A→Below A A B→J hi n s B)→
  (∀hi n pre x W1,hi≤W1.heap.size→J hi n pre W1→G n W1 x→Sp (pre++[x])→pre.length<N→YieldAt F (n'-1) P l (encs x) W1 fun e W'=>
   e=.returned (.bool true)∧J hi W'.heap.size (pre++[x]) W'∧KeepX X W.heap.size hi W1 W')→
  (∀W0,Below W W W0→J W0.heap.size W0.heap.size [] W0)→
  CallsIn F n' P g (#[.func (.yield l) #[] #[]]++lb) W fun e W'=>(∃v,e=.returned v)∧∃hi n,W.heap.size≤hi∧∃xs,S xs∧J hi n xs W'
def zw6 {α:Type} (D:Nat) (Kp:World→World→Prop) (I:List α→World→Prop) (xs:List α) (W:World):Exit→Act→World→Prop
 | .normal,_,W'=>(W'.heap[D]? =W.heap[D]? ∧W'.heap[D+1]? =W.heap[D+1]?)∧Kp W W'∧I xs W'
 |_,_,_=>False
variable {F:Fence} {n:Nat} {P:Program}
theorem zgB {α:Type} {g:Operand} {ps:Array Tmp} {assign body:Code} {Q:Exit→Act→World→Prop} {a:Act} {w:World}
  (hro:F.round=none) (h1:1≤n) {gf:Nat} {lb:Array Value} (hg:a.eval g=.func (.func gf) #[] lb) (hFg:F.fn gf) (eg:∀args w,(callFunc gf args).run P w=.ok (.enter gf args) w)
  {k:α→Array Value} {G:Nat→World→α→Prop} {X:Nat→Prop} {S Sp:List α→Prop} {N:Nat} {w0:World} (hseq:zmI F (n-1) P gf lb k G X S Sp N w0)
  (hG:∀lo x A B,G lo A x→(∀b,lo≤b→b<A.heap.size→B.heap[b]? =A.heap[b]?)→A.heap.size≤B.heap.size→G lo B x) (hX:∀b,X b→b<w0.heap.size)
  (E:Below w0 w0 w) (hps:∀x,(k x).size=ps.size)
  (I:Nat→Nat→List α→World→Prop) (hIg:∀d m s A B,I d m s A→Below A A B→I d m s B) (R:∀d m s A l o,I d m s A→l=w.heap.size∨l=w.heap.size+1→I d m s (A.putObj l o)) (h0:∀W0,Below w w W0→I W0.heap.size W0.heap.size [] W0) (ob:α→Obj) (a₁:α→Nat→Act)
  (q:∀(l:Nat) (x:α) (W:World) (g:Nat) (K:Act→World→Prop) (m:Nat),G m W x→g=W.heap.size→K (a₁ x g) (W.alloc (ob x))→
   assign.wpIn (F.inRound l) (n-1-1) P (Exit.then K (fun _ _ _=>False)) {tmps:=(ps.zip (k x)).foldl (fun t (p,v)=>t.setIfInBounds p v) a.tmps,defers:=[]} W)
  (Z:∀(d m l g:Nat) (pre:List α) (x:α) (W:World),d≤g→w.heap.size+2≤g→w.heap.size+2≤m→W.heap[g]? =some (ob x)→I d m pre W→G m W x→Sp (pre++[x])→pre.length<N→body.wpIn (F.inRound l) (n-1-1) P (zw6 w.heap.size (KeepX X (w.heap.size+2) d) (fun s V=>I d V.heap.size s V) (pre++[x]) W) (a₁ x g) W)
  (aa:∀(d m D:Nat) (xs:List α) (W:World),D=w.heap.size→S xs→I d m xs W→W.heap[D]? =some (.deferred (some []))→Q .normal {a with defers:={target:=.collected D,args:=#[]}::a.defers} W):
  (Code.rangeFunc g ps assign body).wpIn F n P Q a w:=by
 refine wpIn_rangeFunc fun fn hfn=>?_;rw[hro];obtain ⟨L,T⟩:=nm (fun st pe=>{state:=st,pending:=pe,fn,tmps:=a.tmps,params:=ps,assign,body,defers:=w.heap.size}:LoopState→Option Code→Loop);obtain ⟨U,hU⟩:=nm ((w.alloc (.deferred (some []))).alloc (.loop (L .ready none)));have hRU:zan U w.heap.size (L .ready none):=by
  subst hU
  constructor
  ·have:=World.alloc_heap_new (w.alloc (.deferred (some []))) (.loop (L .ready none))
   rwa [World.size_alloc] at this
  ·exact (Below.heap_alloc _ _ _ (by simp)).trans (World.alloc_heap_new w _)
 have hsU:U.heap.size=w.heap.size+2:=by rw[hU];simp
 have hwU:Below w w U:=by subst hU;exact (((Below.refl _ w).alloc lR _).alloc (by simp) _)
 have hBU:Below w0 w0 U:=E.trans (hwU.mono E.size);have recB:∀W0,Below U U W0→zan W0 w.heap.size (L .ready none):=fun W0 h=>⟨(h.block _ (by omega)).trans hRU.1,(h.block _ (by omega)).trans hRU.2⟩;refine ⟨w.heap.size+1,[{target:=.collected w.heap.size,args:=#[]}],U,{target:=.fn (.func gf) lb,args:=#[.func (.yield (w.heap.size+1)) #[] #[]]},U,gf,#[.func (.yield (w.heap.size+1)) #[] #[]]++lb,U,?_,?_,?_,?_,fun _=>h1,?_⟩
 ·rw[hU,T];exact run_enterLoop_outer _ _ _ _ _
 ·simp only[resolve,hg]
  simp[go_sem]
 ·intro f' hf'
  simp[Target.leads] at hf'
  subst hf';exact hFg
 ·simp[invoke,go_sem,eg]
 ·refine (hseq (w.heap.size+1) (fun d m pre W=>(I d m pre W∧w.heap.size+2≤m)∧zan W w.heap.size (L .ready none)) U hBU ?_ ?_ (fun W0 Y=>⟨⟨h0 W0 (hwU.trans (Y.mono (by omega))),by have:=Y.size;omega⟩,recB W0 Y⟩)).mono ?_
  ·exact fun d m s A B hs C=>⟨⟨hIg d m s A B hs.1.1 C,hs.1.2⟩,⟨(C.block _ (Array.getElem?_eq_some_iff.1 hs.2.1).1).trans hs.2.1,(C.block _ (Array.getElem?_eq_some_iff.1 hs.2.2).1).trans hs.2.2⟩⟩
  ·rintro d m pre x W hhi ⟨⟨ab,hm2⟩,f⟩ hG0 hsp hlen;have M:(L .ready none).state=.ready:=by rw[T]
   have hy:=run_yield (P:=P) (args:=k x) f.1 (by rw[T];exact hps x);rw[T] at hy;have hwlt:w.heap.size+1<W.heap.size:=(Array.getElem?_eq_some_iff.1 f.1).1;obtain ⟨V,hV⟩:=nm (W.alloc (ob x));have j:Below W W V:=by rw[hV];exact qA _
   have hgV:V.heap[W.heap.size]? =some (ob x):=by rw[hV];exact World.alloc_heap_new W _
   have y:zan V w.heap.size (L .ready none):=⟨(j.block _ hwlt).trans f.1,(j.block _ (by omega)).trans f.2⟩;have hiV:I d m pre V:=hIg d m pre W V ab j;refine ⟨fn,_,assign,body,hy,roundIn_of_wpIn hfn (q _ x W _ _ m hG0 rfl ?_)⟩;rw[←hV];refine ⟨_,run_beginRound y.1 M,?_⟩;have r:zan (V.putObj (w.heap.size+1) (.loop {L .ready none with state:=.busy})) w.heap.size {L .ready none with state:=.busy}:=y.put;have kb:∀(V:World) (o:Obj),KeepX X U.heap.size d V (V.putObj (w.heap.size+1) o):=fun V o=>⟨⟨by simp,fun i h1 _=>World.putObj_heap_other (by omega)⟩,fun b C=>World.putObj_heap_other (by have:=hX b C;have:=E.size;omega)⟩;have kV:KeepX X U.heap.size d W V:=⟨⟨j.size,fun i _ h2=>j.block i (by omega)⟩,fun b C=>j.block b (by have:=hX b C;have:=E.size;omega)⟩;refine wpIn_mono (Z d m _ W.heap.size pre x _ hhi (by omega) hm2 ((World.putObj_heap_other (by omega)).trans hgV) (R d m _ _ _ _ hiV (.inr rfl)) (by
    refine hG _ _ _ _ (hG _ _ _ _ hG0 (fun b _ C=>j.block b C) j.size) (fun b h1 h2=>World.putObj_heap_other (by omega)) (by simp)) hsp hlen) ?_
   have shut:∀(c:Option Code) (z:World),(z.heap[w.heap.size]? =(V.putObj (w.heap.size+1) (.loop {L .ready none with state:=.busy})).heap[w.heap.size]? ∧z.heap[w.heap.size+1]? =(V.putObj (w.heap.size+1) (.loop {L .ready none with state:=.busy})).heap[w.heap.size+1]?)→
     (Instr.endRound (w.heap.size+1) c).run P z=.ok ↑c.isNone (z.putObj (w.heap.size+1) (.loop (L (if c.isNone then .ready else .done) c)))∧
     zan z w.heap.size {L .ready none with state:=.busy}∧zan (z.putObj (w.heap.size+1) (.loop (L (if c.isNone then .ready else .done) c))) w.heap.size (L (if c.isNone then .ready else .done) c):=by
    intro c z H;have h3:zan z w.heap.size {L .ready none with state:=.busy}:=⟨H.2.trans r.1,H.1.trans r.2⟩;have J:=run_endRound (P:=P) c h3.1;rw[T] at J h3 ⊢;exact ⟨J,h3,h3.put⟩
   rintro e a3 z hp
   cases e with
   |normal=>
    obtain ⟨H,O,hi3⟩:=hp;obtain ⟨J,hb3,hn3⟩:=shut none z H;rw[←hsU] at O;exact ⟨_,_,J,rfl,⟨⟨R d _ _ _ _ _ (by simpa using hi3) (.inr rfl),by have:=(Array.getElem?_eq_some_iff.1 hn3.1).1;simp at this ⊢;omega⟩,hn3⟩,((kV.trans (kb _ _)).trans O).trans (kb _ _)⟩
   |ret=>exact hp.elim
   |exit id=>exact hp.elim
   |goto t=>exact hp.elim
   |panic ch=>exact hp.elim
   |outgrown=>exact hp.elim
  ·have over:∀{st:LoopState} {pe:Option Code} {W2:World},st≠ .busy→zan W2 w.heap.size (L st pe)→∃o,(Instr.endLoop (w.heap.size+1)).run P W2=.ok pe (W2.putObj (w.heap.size+1) o):=by
    intro st pe W2 hst h2;have J:=run_endLoop (P:=P) h2.1 (by rw[T];exact hst);rw[T] at J;exact ⟨_,J⟩
   rintro e W2 ⟨⟨v,rfl⟩,d,m,_,xs,hS,⟨ab,_⟩,f⟩;obtain ⟨o,J⟩:=over (by simp) f;exact ⟨none,_,J,aa d m _ xs _ rfl hS (R d m _ _ _ _ ab (.inr rfl)) ((World.putObj_heap_other (by omega)).trans f.2)⟩
end Ac
namespace Ho
open Go.RowKit Go.Shelf Vb Ac
attribute [local go_sem] Oper.semAt_some
abbrev BkY:Type:=Int×OrderR×Value
def bkE (x:BkY):Array Value:=#[.int .i64 x.1,x.2.1.agg x.2.2]
def bkP (x:BkY):Int×OrderR:=(x.1,x.2.1)
def BkG (lo:Nat) (W:World) (x:BkY):Prop:=(∃A c,x.2.2=.slice A x.2.1.offers.length c)∧zae W (fun b=>lo≤b) x.2.2 x.2.1.offers
theorem zoc (lo:Nat) (x:BkY) (A B:World) (h:BkG lo A x) (hk:∀b,lo≤b→b<A.heap.size→B.heap[b]? =A.heap[b]?) (hs:A.heap.size≤B.heap.size):BkG lo B x:=
 ⟨h.1,h.2.1.keep hs fun b hb hr=>hk b hr hb,h.2.2⟩
theorem zkw {os:List OrderR} {k:Nat} {o:OrderR} (h:os[k]? =some o):(zcU os)[k]? =some ((k:Int),o):=by
 unfold zcU;rw[List.getElem?_mapIdx,h]
 rfl
theorem zg2 (os:List OrderR):(zcU os).length=os.length:=by simp[zcU]
theorem zfz {F:Fence} {n:Nat} {P:Program} {ops:Array Oper} {b:List Oper} {o:Oper} {a:Act} {w:World} {Q:Exit→Act→World→Prop} (k:o.guard=none) (i:TypeId) (x:Operand) (l:o.op=.load i x)
  (g:Nat) (v:a.eval x=.pointer (some ⟨g,0,none⟩)) (t:TypeId) (cs:Array Value) (m:Nat×Nat) (d:TypeDesc) (q:w.heap[g]? =some (.cells cs t m))
  (s:P.underlying i=some d) (p:(match d with| .struct _| .array _ _=>true|_=>false)=true) (r:(P.info? i).map (·.size)=some cs.size)
  (h:wpListIn F n P ops Q b (a.put o.dst (.agg cs)) w):wpListIn F n P ops Q (o::b) a w:=by
 refine wpListIn_plain k fun K e=>?_;have f:=zbm (P:=P) (o:=o) (a:=a) i x l g v t cs m d q s p r;unfold Oper.wpIn;refine ⟨?_,?_⟩
 ·simp[Oper.about,l,Sem.run_pure]
 ·rw[Oper.semAt_plain F _ _ (by rw[l];intro c j;cases j),f]
  first|exact e _ _ h|(simp only[Oper.uponIn_value];exact e _ _ h)|(simp[Oper.uponIn,Oper.uponIn_value];exact e _ _ h)
theorem zwR (Q:Nat) (hn:1≤Q) (l lo gl:Nat) (T:Nat→Part) (v:Value) (vo:Nat→Value) (os:List OrderR) (hl:os.length≤1000000) (hlo:∀o∈os,o.offers.length≤1099511627776) (J:Nat→Nat→List BkY→World→Prop) (W:World) (hv:BKAt W T lo gl v vo os)
  (hJ:∀hi n s A B,J hi n s A→Below A A B→J hi n s B)
  (hY:∀hi n pre x W1,hi≤W1.heap.size→J hi n pre W1→BkG n W1 x→(pre++[x]).map bkP<+:zcU os→pre.length<(zcU os).length→YieldAt Fence.wide (Q-1) Tryz.prog l (bkE x) W1 fun e W'=>
   e=.returned ↑true∧J hi W'.heap.size (pre++[x]) W'∧KeepX (zhS T lo gl v) W.heap.size hi W1 W')
  (h0:∀W0,Below W W W0→J W0.heap.size W0.heap.size [] W0):
  CallsIn Fence.wide Q Tryz.prog 72 #[.func (.yield l) #[] #[],.pointer (some ⟨gl,0,none⟩)] W fun e W'=>(∃v,e=.returned v)∧
   ∃hi n,W.heap.size≤hi∧∃xs,xs.map bkP=zcU os∧J hi n xs W':=by
 refine callsIn_of_wp Tryz.func72 rfl trivial ?_ rfl;obtain ⟨A0,cp,ac⟩:=hv.row.form;obtain ⟨m,hm⟩:=nm (os.length);have g0:W.cell? ⟨gl,0,none⟩=some (.slice A0 m cp):=by have:=hv.box.cell 0;rw[ac,←hm] at this;exact this
 have HV:=hid hv;have HY:=hid hY;have H0:=hid h0;have HM:=hid hm;have HVV:=hid ac;have HLO:=hid hlo;have HJA:=hid hJ;clear hY h0 hv hm ac hlo hJ;simp only[Tryz.ntmps72,List.size_toArray,List.length_cons,List.length_nil,Nat.reduceAdd,Nat.reduceSub,Array.replicate_succ,Array.replicate_zero,List.push_toArray,List.append_toArray,List.nil_append,List.cons_append]
 gi_wp2
 clear g0
 gi_loopw [7] (fun i wr=>∃(k Q:Nat) (xs:List BkY),k≤m∧i=.int .i64 k∧xs.length=k∧xs.map bkP=(zcU os).take k∧(Q≤wr.heap.size∧J W.heap.size Q xs wr)∧KeepX (zhS T lo gl v) W.heap.size W.heap.size W wr) (fun i _=>m-(intOf i).toNat)
 case atStart=>exact ⟨0,W.heap.size,[],zL,rfl,rfl,by simp,⟨lR,H0.out W bR⟩,KeepX.refl _ _ _ _⟩
 case round=>
  obtain ⟨k,n0,xs,hk,rfl,hxl,ad,⟨Y,U⟩,L⟩:=hrel;have HN0:=hid Y;have HJ:=hid U;have HNX:=hid L;have HXS:=hid ad;have HXL:=hid hxl;by_cases hlt:k<m
  ·obtain ⟨o,Z⟩:∃o,os[k]? =some o:=⟨_,gE (by rw[←HM.out];omega)⟩;have O:=HV.out.same (W':=wr) L.old L.r.size;have aa:=O.row;rw[HVV.out,←HM.out] at aa;obtain ⟨A,c,ab⟩:=zdJ (O.offs k o Z);have HOF:=hid (ab▸O.offs k o Z);obtain ⟨q,off,hA0,_,hq,X⟩:=zgn (A:=A0) (n:=m) (c:=cp) aa.sl Z hlt;rw[ab] at X;have af:=hid X;have HOL:=hid (HLO.out o (mG Z));have HBL:=hid (zkw Z);have e5:(0:Int)≤(k:Int):=by omega
   have e6:(k:Int)<(m:Int):=by omega
   have hwr:IntKind.i64.wrap ((k:Int)+1)=(k:Int)+1:=iW _ (by have:=HM.out;omega);subst hA0;have HOO:=hid Z;clear U Y L ad O aa X ab Z hxl;obtain ⟨oo,hoo⟩:=nm (o);have HOE:=hid hoo;clear hoo;obtain ⟨t,y,g,a,H,⟨F,z,d,D,K,f,G,p,E,j,I⟩,h,C⟩:=o;simp only[OrderR.agg,OrderR.cells,LotR.cells,List.cons_append,List.nil_append] at af HOF HOL;obtain ⟨w1,P⟩:=nm (wr.alloc (.cells #[t,.string y,g,a,H,F,z,d,D,K,f,G,p,E,j,I,.slice A h.length c,C] 36));have V:Below wr wr w1:=by rw[P];exact qA _
   have hx1:Ac.Blk w1 wr.heap.size 36 #[t,.string y,g,a,H,F,z,d,D,K,f,G,p,E,j,I,.slice A h.length c,C]:=by rw[P];exact Ac.Blk.new _ _ _
   refine (wpIn_wide (n:=Q)).2 ?_
   go_upto_region 3 with (refine wpList_load_mid rfl 36 (.tmp 10) rfl q (off+k*18) rfl [.int .i64 t,.string y,.int .i64 g,.int .i64 a,.int .i64 H,.int .i64 F,.int .i64 z,.int .i64 d,.int .i64 D,.int .i64 K,.int .i64 f,.int .i64 G,.int .i64 p,.int .i64 E,.int .i64 j,.int .i64 I,.slice A h.length c,.int .i64 C] _ af.out Tryz.underlying36 rfl (by kernel_rfl) ?_)
   rw[←P];clear P;have HX1:=hid hx1;have S:=hid V;have ae:=hid (zjx (W:=w1) (R:=fun b=>T b=.old∧b<lo) ⟨t,y,g,a,H,⟨F,z,d,D,K,f,G,p,E,j,I⟩,h,C⟩ (vo:=.slice A h.length c) (zae.grow HOF.out V) HOL.out);simp only[OrderR.agg,OrderR.cells,LotR.cells,List.cons_append,List.nil_append] at ae;clear hx1 V;refine (wpIn_wide (n:=Q)).1 ?_
   gi_wp2_with (refine zfz rfl 36 (.tmp 4) rfl wr.heap.size rfl 36 #[t,.string y,g,a,H,F,z,d,D,K,f,G,p,E,j,I,.slice A h.length c,C] (0,0) _ HX1.out Tryz.underlying36 rfl (by kernel_rfl) ?_)
   refine ⟨trivial,(callsIn_wide.2 ae.out).mono ?_⟩;rintro e w2 ⟨A2,c2,rfl,hO2,hb2⟩;have N:=hid (S.out.trans (hb2.mono S.out.size));have hsz:=HNX.out.r.size;have M:(xs++[((k:Int),(⟨t,y,g,a,H,⟨F,z,d,D,K,f,G,p,E,j,I⟩,h,C⟩:OrderR),Value.slice A2 h.length c2)]).map bkP=(zcU os).take (k+1):=by
    rw[List.map_append,HXS.out,List.take_add_one,HBL.out]
    rfl
   have HPRE:=hid M;obtain ⟨fn,tmps,assign,body,hy,hRR⟩:=HY.out W.heap.size n0 xs ((k:Int),(⟨t,y,g,a,H,⟨F,z,d,D,K,f,G,p,E,j,I⟩,h,C⟩:OrderR),Value.slice A2 h.length c2) w2 (lT hsz N.out.size) (HJA.out W.heap.size n0 xs wr w2 HJ.out N.out) ⟨⟨A2,c2,rfl⟩,zae.mono hO2 fun b _ hr=>lT HN0.out (lT S.out.size hr)⟩ (by rw[M];exact List.take_prefix _ _) (by rw[zg2,HXL.out,←HM.out];exact hlt);simp only[bkE,OrderR.agg,OrderR.cells,LotR.cells,List.cons_append,List.nil_append] at hy;have HRR:=hid hRR;clear hRR hO2 hb2 M
   gi_wp2
   refine HRR.out.mono ?_;rintro e W3 ⟨rfl,hJ3,hk3⟩
   ·gi_wp2
    go_wp2_with fail
    go_roundw
    case rel=>
     have hkb:KeepX (zhS T lo gl v) W.heap.size W.heap.size wr w2:=⟨⟨N.out.size,fun i h1 h2=>absurd h1 (by omega)⟩,fun b hb=>N.out.block b (lL (HV.out.x_lt hb) hsz)⟩;refine ⟨k+1,_,_,by omega,by go_num,?_,HPRE.out,⟨lR,hJ3⟩,(HNX.out.trans hkb).trans hk3⟩;rw[List.length_append,HXL.out]
     rfl
    case measure=>simp[intOf];omega
  ·obtain rfl:k=m:=by omega
   have e1:¬(k:Int)<(k:Int):=by omega
   clear U Y L ad hk
   gi_wp2
   go_end0
   refine ⟨⟨_,rfl⟩,W.heap.size,lR,n0,xs,?_,HJ.out⟩;rw[HXS.out,List.take_of_length_le];rw[zg2,←HM.out];exact lR
theorem zmJ (nn:Nat) (hn:1≤nn) (lo gl:Nat) (T:Nat→Part) (v:Value) (vo:Nat→Value) (os:List OrderR) (hl:os.length≤1000000) (hlo:∀o∈os,o.offers.length≤1099511627776) (w:World) (hv:BKAt w T lo gl v vo os):
  zmI Fence.wide nn Tryz.prog 72 #[.pointer (some ⟨gl,0,none⟩)] bkE BkG (zhS T lo gl v) (fun ys=>ys.map bkP=zcU os) (fun pre=>pre.map bkP<+:zcU os) (zcU os).length w:=fun l J W hW hJ hY h0=>
 zwR nn hn l lo gl T v vo os hl hlo J W (hv.grow hW) hJ hY h0
end Ho
namespace Ho
open Go.RowKit Vb Ac
theorem zmK (os:List OrderR):(zcU os).map (·.2)=os:=by
 refine List.ext_getElem? fun k=>?_;rw[List.getElem?_map]
 cases h:os[k]? with
 |none=>
  have a:os.length≤k:=List.getElem?_eq_none_iff.1 h;rw[List.getElem?_eq_none (by rw[zg2];exact a)]
  rfl
 |some o=>rw[zkw h];rfl
theorem zwS {xs:List BkY} {os:List OrderR} (h:xs.map bkP=zcU os):xs.map (·.2.1)=os:=by
 have a:=congrArg (List.map (·.2)) h;rw[zmK,List.map_map] at a;exact a
theorem zmL {pre:List BkY} {x:BkY} {os:List OrderR} (h:(pre++[x]).map bkP<+:zcU os):
  os[pre.length]? =some x.2.1∧x.1=pre.length∧pre.map (·.2.1)=os.take pre.length:=by
 have b:=List.prefix_iff_eq_take.1 h;have i:((pre++[x]).map bkP).length=pre.length+1:=by simp
 rw[i] at b;have a:((zcU os).take (pre.length+1))[pre.length]? =some (bkP x):=by
  rw[←b,List.map_append,List.getElem?_append_right (by simp)]
  simp
 rw[List.getElem?_take_of_lt (by omega)] at a;have c:os[pre.length]? =some x.2.1∧x.1=pre.length:=by
  cases h4:os[pre.length]? with
  |none=>
   have f:os.length≤pre.length:=List.getElem?_eq_none_iff.1 h4;rw[List.getElem?_eq_none (by rw[zg2];exact f)] at a
   cases a
  |some o=>
   rw[zkw h4] at a;injection a with a
   unfold bkP at a;injection a with e1 e2
   exact ⟨by rw[e2],e1.symm⟩
 refine ⟨c.1,c.2,?_⟩;have g:pre.map bkP=(zcU os).take pre.length:=by
  have d:=congrArg (List.take pre.length) b;rw[List.take_take,Nat.min_eq_left (by omega),List.map_append,List.take_left' (by simp)] at d;exact d
 have e:=congrArg (List.map (·.2)) g;rw[List.map_take,zmK,List.map_map] at e;exact e
def zod:Array Value:=#[.int .i64 0,.string {data:=#[]},.int .i64 0,.int .i64 0,.int .i64 0,.int .i64 0,.int .i64 0,.int .i64 0,.int .i64 0,.int .i64 0,.int .i64 0,.int .i64 0,.int .i64 0,.int .i64 0,.int .i64 0,.int .i64 0,.slice none 0 0,.int .i64 0]
theorem zmM (W:World) (o:OrderR) (A:Option Addr) (n c:Nat):(storeCells ⟨W,0,none⟩ (o.cells (.slice A n c))).run Tryz.prog (W.alloc (.cells zod 36))=.ok () (W.alloc (.cells (o.cells (.slice A n c)).toArray 36)):=by
 have h:=run_storeCells_from (P:=Tryz.prog) W.heap.size 36 (o.cells (.slice A n c)) 0 zod (W.alloc (.cells zod 36)) (Ac.Blk.new W _ _) rfl (fun v a=>by
  simp only[OrderR.cells,LotR.cells,List.cons_append,List.nil_append,List.mem_cons,List.not_mem_nil,or_false] at a
  rcases a with rfl|rfl|rfl|rfl|rfl|rfl|rfl|rfl|rfl|rfl|rfl|rfl|rfl|rfl|rfl|rfl|rfl|rfl<;>rfl)
 rw[h,World.setRow_alloc_new]
 rfl
def zqK (W:World) (v:Value) (os:List OrderR):Prop:=∃vo,Sl W (fun b=>b<W.heap.size) v os.length 18 (zaI os vo)∧∀k o,os[k]? =some o→zae W (fun b=>b<W.heap.size) (vo k) o.offers
end Ho
end Go.Proofs.YthoaidfpgijbfaaGreat

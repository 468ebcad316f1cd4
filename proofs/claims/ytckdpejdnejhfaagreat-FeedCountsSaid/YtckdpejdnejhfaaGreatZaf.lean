/- Joined by program. -/
import Derived.Test.YtckdpejdnejhfaaGreatZu
set_option linter.all false
set_option maxRecDepth 100000
set_option maxHeartbeats 32000000
namespace Go.Proofs.YtckdpejdnejhfaaGreat
open Lib (hid)
namespace Ho
open Go.RowKit Vb Ac
theorem zlz (ss:List OrderR) (vo:Nat→Value) (s:∀u∈zaz ss vo,u.oneCell'=true) (v:Value) (R:Nat→Prop) (w:World) (i:Sl w R v ss.length 18 (zaz ss vo)) (o:ss.length≤1000000):
  Calls Tryz.prog 66 #[v] w fun e w'=>∃A' cap',e=.returned (.slice A' ss.length cap')∧RowAt w' (fun b=>w.heap.size≤b) 61 18 (.slice A' ss.length cap') ss.length (zaz ss vo)∧Below w w w':=by
 obtain ⟨q,k⟩:=nm (zaz ss vo);obtain ⟨n,l⟩:=nm (ss.length);rw[←k] at i s ⊢;rw[←l] at i o ⊢;obtain ⟨g,A,m,rfl,p,t,f⟩:=id i;have r:=hid i;clear i f k l;have E:=fun (W:World) (a:Option Addr)=>Lib.run_eql_slice_nil (P:=Tryz.prog) W 46 61 a n m 0 0 Tryz.underlying46
 cases A with
 |none=>
  have l:n=0:=by
   obtain ⟨_,A,c,h,_,_,y⟩:=r.out;injection h with hA _ _
   subst hA
   rcases Nat.eq_zero_or_pos n with h0|h0
   ·exact h0
   ·obtain ⟨b,C,h,_⟩:=y h0
    cases h
  subst l;have B:q=[]:=List.eq_nil_of_length_eq_zero (by simpa using g);subst B;go_enter Tryz.func66,Tryz.ntmps66
  go_wp2
  go_ret;exact ⟨none,0,rfl,RowAt.nil,bR⟩
 |some ad=>
  clear g;go_enter Tryz.func66,Tryz.ntmps66
  go_wp2_with (at_builtin;refine zbj _ rfl (.tmp 5) (.tmp 6) zlM rfl w.heap.size (.slice (some ⟨w,0,none⟩) 0 0) 0 [] rfl (World.ownsRow_lit w #[] 0 lR (zL) rfl) R _ n q rfl (r.out.alloc _) s (by omega) (by unfold maxLen;omega) (by simp) ?_;intro A' cap' D j z x)
  go_ret;have d:D.ownsRow w.heap.size 61 18 (.slice A' n cap') n q:=by simpa using j
  refine ⟨A',cap',by simp,⟨zbH d (zL),fun b o=>(d.lt b o).1⟩,(qA _).grown z (by simp) (by simp[Value.ownBlock])⟩
end Ho
namespace Ac
open Go.RowKit Vb
variable {F:Fence} {n:Nat} {P:Program}
end Ac
namespace Ho
open Go.RowKit Go.Shelf Vb Ac
attribute [local go_sem] Oper.semAt_some
theorem zfH {W:World} {R:Nat→Prop} {v:Value} {l:List Off} (h:zad W R v l):∃A c,v=.slice A l.length c:=by
 obtain ⟨⟨_,A,c,rfl,_⟩,_⟩:=h;exact ⟨A,c,rfl⟩
theorem zjD {os:List OrderR} {vo:Nat→Value} (h:∀k o,os[k]? =some o→∃A c,vo k=.slice A o.offers.length c):∀u∈zaz os vo,u.oneCell'=true:=by
 intro u b;unfold zaz at b;obtain ⟨y,f,a⟩:=List.mem_flatten.1 b;obtain ⟨k,d,rfl⟩:=List.mem_mapIdx.1 f;obtain ⟨A,c,e⟩:=h k os[k] (by simp[d]);rw[e] at a;unfold OrderR.cells at a
 simp at a
 rcases a with rfl|rfl|rfl|rfl|rfl|rfl|rfl|rfl|rfl|rfl|rfl|rfl|rfl|rfl|rfl|rfl|rfl|rfl<;>rfl
structure BKAt (W:World) (T:Nat→Part) (lo gl:Nat) (v:Value) (vo:Nat→Value) (os:List OrderR):Prop where
 box:Ac.Blk W gl 46 #[v]
 row:RowAt W (fun b=>lo≤b) 61 18 v os.length (zaz os vo)
 offs:∀k o,os[k]? =some o→zad W (fun b=>T b=.old∧b<lo) (vo k) o.offers
 lo:lo≤W.heap.size
section
variable {W W':World} {T:Nat→Part} {lo gl:Nat} {v:Value} {vo:Nat→Value} {os:List OrderR}
end
end Ho
namespace Ac
open Go.RowKit Vb
def zkw {α:Type} (F:Fence) (n':Nat) (P:Program) (g:Nat) (lb:Array Value) (encs:α→Array Value) (G:Nat→World→α→Prop) (X:Nat→Prop) (S Sp:List α→Prop) (N:Nat) (w:World):Prop:=
 ∀(l:Nat) (J:Nat→Nat→List α→World→Prop) (W:World),Below w w W→(∀hi n s A B,J hi n s A→Below A A B→J hi n s B)→
  (∀hi n pre x W1,hi≤W1.heap.size→J hi n pre W1→G n W1 x→Sp (pre++[x])→pre.length<N→YieldAt F (n'-1) P l (encs x) W1 fun e W'=>
   e=.returned (.bool true)∧J hi W'.heap.size (pre++[x]) W'∧KeepX X W.heap.size hi W1 W')→
  (∀W0,Below W W W0→J W0.heap.size W0.heap.size [] W0)→
  CallsIn F n' P g (#[.func (.yield l) #[] #[]]++lb) W fun e W'=>(∃v,e=.returned v)∧∃hi n,W.heap.size≤hi∧∃xs,S xs∧J hi n xs W'
def zt3 {α:Type} (D:Nat) (Kp:World→World→Prop) (I:List α→World→Prop) (xs:List α) (W:World):Exit→Act→World→Prop
 | .normal,_,W'=>(W'.heap[D]? =W.heap[D]? ∧W'.heap[D+1]? =W.heap[D+1]?)∧Kp W W'∧I xs W'
 |_,_,_=>False
variable {F:Fence} {n:Nat} {P:Program}
theorem zi1 {α:Type} {g:Operand} {ps:Array Tmp} {assign body:Code} {Q:Exit→Act→World→Prop} {a:Act} {w:World}
  (hro:F.round=none) (h1:1≤n) {gf:Nat} {lb:Array Value} (hg:a.eval g=.func (.func gf) #[] lb) (hFg:F.fn gf) (eg:∀args w,(callFunc gf args).run P w=.ok (.enter gf args) w)
  {k:α→Array Value} {G:Nat→World→α→Prop} {X:Nat→Prop} {S Sp:List α→Prop} {N:Nat} {w0:World} (hseq:zkw F (n-1) P gf lb k G X S Sp N w0)
  (hG:∀lo x A B,G lo A x→(∀b,lo≤b→b<A.heap.size→B.heap[b]? =A.heap[b]?)→A.heap.size≤B.heap.size→G lo B x) (hX:∀b,X b→b<w0.heap.size)
  (E:Below w0 w0 w) (hps:∀x,(k x).size=ps.size)
  (I:Nat→Nat→List α→World→Prop) (hIg:∀d m s A B,I d m s A→Below A A B→I d m s B) (R:∀d m s A l o,I d m s A→l=w.heap.size∨l=w.heap.size+1→I d m s (A.putObj l o)) (h0:∀W0,Below w w W0→I W0.heap.size W0.heap.size [] W0) (ob:α→Obj) (a₁:α→Nat→Act)
  (q:∀(l:Nat) (x:α) (W:World) (g:Nat) (K:Act→World→Prop) (m:Nat),G m W x→g=W.heap.size→K (a₁ x g) (W.alloc (ob x))→
   assign.wpIn (F.inRound l) (n-1-1) P (Exit.then K (fun _ _ _=>False)) {tmps:=(ps.zip (k x)).foldl (fun t (p,v)=>t.setIfInBounds p v) a.tmps,defers:=[]} W)
  (Z:∀(d m l g:Nat) (pre:List α) (x:α) (W:World),d≤g→w.heap.size+2≤g→w.heap.size+2≤m→W.heap[g]? =some (ob x)→I d m pre W→G m W x→Sp (pre++[x])→pre.length<N→body.wpIn (F.inRound l) (n-1-1) P (zt3 w.heap.size (KeepX X (w.heap.size+2) d) (fun s V=>I d V.heap.size s V) (pre++[x]) W) (a₁ x g) W)
  (aa:∀(d m D:Nat) (xs:List α) (W:World),D=w.heap.size→S xs→I d m xs W→W.heap[D]? =some (.deferred (some []))→Q .normal {a with defers:={target:=.collected D,args:=#[]}::a.defers} W):
  (Code.rangeFunc g ps assign body).wpIn F n P Q a w:=by
 refine wpIn_rangeFunc fun fn hfn=>?_;rw[hro];obtain ⟨L,T⟩:=nm (fun st pe=>{state:=st,pending:=pe,fn,tmps:=a.tmps,params:=ps,assign,body,defers:=w.heap.size}:LoopState→Option Code→Loop);obtain ⟨U,hU⟩:=nm ((w.alloc (.deferred (some []))).alloc (.loop (L .ready none)));have hRU:zak U w.heap.size (L .ready none):=by
  subst hU
  constructor
  ·have:=World.alloc_heap_new (w.alloc (.deferred (some []))) (.loop (L .ready none))
   rwa [World.size_alloc] at this
  ·exact (Below.heap_alloc _ _ _ (by simp)).trans (World.alloc_heap_new w _)
 have hsU:U.heap.size=w.heap.size+2:=by rw[hU];simp
 have hwU:Below w w U:=by subst hU;exact (((Below.refl _ w).alloc lR _).alloc (by simp) _)
 have hBU:Below w0 w0 U:=E.trans (hwU.mono E.size);have recB:∀W0,Below U U W0→zak W0 w.heap.size (L .ready none):=fun W0 h=>⟨(h.block _ (by omega)).trans hRU.1,(h.block _ (by omega)).trans hRU.2⟩;refine ⟨w.heap.size+1,[{target:=.collected w.heap.size,args:=#[]}],U,{target:=.fn (.func gf) lb,args:=#[.func (.yield (w.heap.size+1)) #[] #[]]},U,gf,#[.func (.yield (w.heap.size+1)) #[] #[]]++lb,U,?_,?_,?_,?_,fun _=>h1,?_⟩
 ·rw[hU,T];exact run_enterLoop_outer _ _ _ _ _
 ·simp only[resolve,hg]
  simp[go_sem]
 ·intro f' hf'
  simp[Target.leads] at hf'
  subst hf';exact hFg
 ·simp[invoke,go_sem,eg]
 ·refine (hseq (w.heap.size+1) (fun d m pre W=>(I d m pre W∧w.heap.size+2≤m)∧zak W w.heap.size (L .ready none)) U hBU ?_ ?_ (fun W0 Y=>⟨⟨h0 W0 (hwU.trans (Y.mono (by omega))),by have:=Y.size;omega⟩,recB W0 Y⟩)).mono ?_
  ·exact fun d m s A B hs C=>⟨⟨hIg d m s A B hs.1.1 C,hs.1.2⟩,⟨(C.block _ (Array.getElem?_eq_some_iff.1 hs.2.1).1).trans hs.2.1,(C.block _ (Array.getElem?_eq_some_iff.1 hs.2.2).1).trans hs.2.2⟩⟩
  ·rintro d m pre x W hhi ⟨⟨ab,hm2⟩,f⟩ hG0 hsp hlen;have M:(L .ready none).state=.ready:=by rw[T]
   have hy:=run_yield (P:=P) (args:=k x) f.1 (by rw[T];exact hps x);rw[T] at hy;have hwlt:w.heap.size+1<W.heap.size:=(Array.getElem?_eq_some_iff.1 f.1).1;obtain ⟨V,hV⟩:=nm (W.alloc (ob x));have j:Below W W V:=by rw[hV];exact qA _
   have hgV:V.heap[W.heap.size]? =some (ob x):=by rw[hV];exact World.alloc_heap_new W _
   have y:zak V w.heap.size (L .ready none):=⟨(j.block _ hwlt).trans f.1,(j.block _ (by omega)).trans f.2⟩;have hiV:I d m pre V:=hIg d m pre W V ab j;refine ⟨fn,_,assign,body,hy,roundIn_of_wpIn hfn (q _ x W _ _ m hG0 rfl ?_)⟩;rw[←hV];refine ⟨_,run_beginRound y.1 M,?_⟩;have r:zak (V.putObj (w.heap.size+1) (.loop {L .ready none with state:=.busy})) w.heap.size {L .ready none with state:=.busy}:=y.put;have kb:∀(V:World) (o:Obj),KeepX X U.heap.size d V (V.putObj (w.heap.size+1) o):=fun V o=>⟨⟨by simp,fun i h1 _=>World.putObj_heap_other (by omega)⟩,fun b C=>World.putObj_heap_other (by have:=hX b C;have:=E.size;omega)⟩;have kV:KeepX X U.heap.size d W V:=⟨⟨j.size,fun i _ h2=>j.block i (by omega)⟩,fun b C=>j.block b (by have:=hX b C;have:=E.size;omega)⟩;refine wpIn_mono (Z d m _ W.heap.size pre x _ hhi (by omega) hm2 ((World.putObj_heap_other (by omega)).trans hgV) (R d m _ _ _ _ hiV (.inr rfl)) (by
    refine hG _ _ _ _ (hG _ _ _ _ hG0 (fun b _ C=>j.block b C) j.size) (fun b h1 h2=>World.putObj_heap_other (by omega)) (by simp)) hsp hlen) ?_
   have shut:∀(c:Option Code) (z:World),(z.heap[w.heap.size]? =(V.putObj (w.heap.size+1) (.loop {L .ready none with state:=.busy})).heap[w.heap.size]? ∧z.heap[w.heap.size+1]? =(V.putObj (w.heap.size+1) (.loop {L .ready none with state:=.busy})).heap[w.heap.size+1]?)→
     (Instr.endRound (w.heap.size+1) c).run P z=.ok ↑c.isNone (z.putObj (w.heap.size+1) (.loop (L (if c.isNone then .ready else .done) c)))∧
     zak z w.heap.size {L .ready none with state:=.busy}∧zak (z.putObj (w.heap.size+1) (.loop (L (if c.isNone then .ready else .done) c))) w.heap.size (L (if c.isNone then .ready else .done) c):=by
    intro c z H;have h3:zak z w.heap.size {L .ready none with state:=.busy}:=⟨H.2.trans r.1,H.1.trans r.2⟩;have J:=run_endRound (P:=P) c h3.1;rw[T] at J h3 ⊢;exact ⟨J,h3,h3.put⟩
   rintro e a3 z hp
   cases e with
   |normal=>
    obtain ⟨H,O,hi3⟩:=hp;obtain ⟨J,hb3,hn3⟩:=shut none z H;rw[←hsU] at O;exact ⟨_,_,J,rfl,⟨⟨R d _ _ _ _ _ (by simpa using hi3) (.inr rfl),by have:=(Array.getElem?_eq_some_iff.1 hn3.1).1;simp at this ⊢;omega⟩,hn3⟩,((kV.trans (kb _ _)).trans O).trans (kb _ _)⟩
   |ret=>exact hp.elim
   |exit id=>exact hp.elim
   |goto t=>exact hp.elim
   |panic ch=>exact hp.elim
   |outgrown=>exact hp.elim
  ·have over:∀{st:LoopState} {pe:Option Code} {W2:World},st≠ .busy→zak W2 w.heap.size (L st pe)→∃o,(Instr.endLoop (w.heap.size+1)).run P W2=.ok pe (W2.putObj (w.heap.size+1) o):=by
    intro st pe W2 hst h2;have J:=run_endLoop (P:=P) h2.1 (by rw[T];exact hst);rw[T] at J;exact ⟨_,J⟩
   rintro e W2 ⟨⟨v,rfl⟩,d,m,_,xs,hS,⟨ab,_⟩,f⟩;obtain ⟨o,J⟩:=over (by simp) f;exact ⟨none,_,J,aa d m _ xs _ rfl hS (R d m _ _ _ _ ab (.inr rfl)) ((World.putObj_heap_other (by omega)).trans f.2)⟩
end Ac
namespace Ho
open Go.RowKit Vb Ac
def ztr (W:World) (v:Value) (os:List OrderR):Prop:=∃vo,Sl W (fun b=>b<W.heap.size) v os.length 18 (zaz os vo)∧∀k o,os[k]? =some o→zad W (fun b=>b<W.heap.size) (vo k) o.offers
end Ho
end Go.Proofs.YtckdpejdnejhfaaGreat

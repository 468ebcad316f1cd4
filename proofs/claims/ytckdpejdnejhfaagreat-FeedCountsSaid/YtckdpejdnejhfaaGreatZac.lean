/- Joined by program. -/
import Derived.Test.YtckdpejdnejhfaaGreatZab
set_option linter.all false
set_option maxRecDepth 100000
set_option maxHeartbeats 32000000
namespace Go.Proofs.YtckdpejdnejhfaaGreat
open Lib (hid)
namespace Ac
open Go.RowKit Vb
def Far {β:Type} (B:Nat) (J:β→World→Prop):Prop:=∀s A W,J s A→Chg (fun b=>B≤b) A W→J s W
theorem Far.putObj {β:Type} {B:Nat} {I:β→World→Prop} (h:Far B I) {s:β} {W:World} {l:Nat} (o:Obj) (hs:I s W) (hB:B≤l):I s (W.putObj l o):=
 h s W _ hs ((Chg.grown (grownBy_putObj' W l o)).mono fun k _ e=>by cases e;exact hB)
theorem zak.far {A B:World} {b n:Nat} {L:Loop} (h:zak A b L) (hc:Chg (fun k=>n≤k) A B) (hn:b+2≤n):zak B b L:=
 ⟨(hc.block _ (Array.getElem?_eq_some_iff.1 h.1).1 (by omega)).trans h.1,(hc.block _ (Array.getElem?_eq_some_iff.1 h.2).1 (by omega)).trans h.2⟩
def zku {α:Type} (F:Fence) (n:Nat) (P:Program) (g:Nat) (lb:Array Value) (encs:α→Array Value) (X:Nat→Prop) (S Sp:List α→Prop) (N:Nat) (w:World):Prop:=
 ∀(l:Nat) (J Jx:List α→World→Prop) (W:World),Below w w W→Far W.heap.size J→Far W.heap.size Jx→
  (∀hi pre x W1,hi≤W1.heap.size→J pre W1→Sp (pre++[x])→pre.length<N→YieldAt F (n-1) P l (encs x) W1 fun e W'=>
   (e=.returned (.bool true)∧J (pre++[x]) W'∧KeepX X W.heap.size hi W1 W')∨(e=.returned (.bool false)∧Jx (pre++[x]) W'))→
  J [] W→
  CallsIn F n P g (#[.func (.yield l) #[] #[]]++lb) W fun e W'=>(∃v,e=.returned v)∧((∃xs,S xs∧J xs W')∨(∃pre,Sp pre∧Jx pre W'))
variable {F:Fence} {n:Nat} {P:Program}
variable {F:Fence} {n:Nat} {P:Program}
theorem zez {α:Type} {g:Operand} {ps:Array Tmp} {assign body:Code} {Q:Exit→Act→World→Prop} {a:Act} {w:World}
  (hro:F.round=none) (h1:1≤n) {gf:Nat} {lb:Array Value} (hg:a.eval g=.func (.func gf) #[] lb) (hFg:F.fn gf) (eg:∀args w,(callFunc gf args).run P w=.ok (.enter gf args) w)
  {j:α→Array Value} {X:Nat→Prop} {S Sp:List α→Prop} {N:Nat} {w0:World} (hseq:zku F (n-1) P gf lb j X S Sp N w0) (hX:∀b,X b→b<w0.heap.size)
  (E:Below w0 w0 w) (hps:∀x,(j x).size=ps.size)
  (I:List α→World→Prop) (kx:Nat) (Ix:List α→World→Prop) (hI:Far w.heap.size I) (R:Far w.heap.size Ix) (h0:I [] w) (ob:α→Obj) (a₁:α→Nat→Act)
  (q:∀(l:Nat) (x:α) (W:World) (g:Nat) (K:Act→World→Prop),g=W.heap.size→K (a₁ x g) (W.alloc (ob x))→
   assign.wpIn (F.inRound l) (n-1-1) P (Exit.then K (fun _ _ _=>False)) {tmps:=(ps.zip (j x)).foldl (fun t (p,v)=>t.setIfInBounds p v) a.tmps,defers:=[]} W)
  (Z:∀(hi l g:Nat) (pre:List α) (x:α) (W:World),hi≤g→w.heap.size+2≤g→W.heap[g]? =some (ob x)→I pre W→Sp (pre++[x])→pre.length<N→body.wpIn (F.inRound l) (n-1-1) P (ownPostK (KeepX X (w.heap.size+2) hi) I (fun c pre W=>c=.exit kx∧Ix pre W) (pre++[x]) W) (a₁ x g) W)
  (hQ:∀a w,Q .normal a w→Q (.exit kx) a w)
  (z:∀(D:Nat) (pre:List α) (W:World),w.heap.size≤D→((S pre∧I pre W)∨(Sp pre∧Ix pre W))→W.heap[D]? =some (.deferred (some []))→Q .normal {a with defers:={target:=.collected D,args:=#[]}::a.defers} W):
  (Code.rangeFunc g ps assign body).wpIn F n P Q a w:=by
 refine wpIn_rangeFunc fun fn hfn=>?_;rw[hro];obtain ⟨L,T⟩:=nm (fun st pe=>{state:=st,pending:=pe,fn,tmps:=a.tmps,params:=ps,assign,body,defers:=w.heap.size}:LoopState→Option Code→Loop);obtain ⟨U,hU⟩:=nm ((w.alloc (.deferred (some []))).alloc (.loop (L .ready none)));have Y:zak U w.heap.size (L .ready none):=by
  subst hU
  constructor
  ·have:=World.alloc_heap_new (w.alloc (.deferred (some []))) (.loop (L .ready none))
   rwa [World.size_alloc] at this
  ·exact (Below.heap_alloc _ _ _ (by simp)).trans (World.alloc_heap_new w _)
 have hsU:U.heap.size=w.heap.size+2:=by rw[hU];simp
 have hwU:Below w w U:=by subst hU;exact (((Below.refl _ w).alloc lR _).alloc (by simp) _)
 have hBU:Below w0 w0 U:=E.trans (hwU.mono E.size);have recB:∀W0,Below U U W0→zak W0 w.heap.size (L .ready none):=fun W0 h=>⟨(h.block _ (by omega)).trans Y.1,(h.block _ (by omega)).trans Y.2⟩;refine ⟨w.heap.size+1,[{target:=.collected w.heap.size,args:=#[]}],U,{target:=.fn (.func gf) lb,args:=#[.func (.yield (w.heap.size+1)) #[] #[]]},U,gf,#[.func (.yield (w.heap.size+1)) #[] #[]]++lb,U,?_,?_,?_,?_,fun _=>h1,?_⟩
 ·rw[hU,T];exact run_enterLoop_outer _ _ _ _ _
 ·simp only[resolve,hg]
  simp[go_sem]
 ·intro f' hf'
  simp[Target.leads] at hf'
  subst hf';exact hFg
 ·simp[invoke,go_sem,eg]
 ·refine (hseq (w.heap.size+1) (fun pre W=>I pre W∧zak W w.heap.size (L .ready none)) (fun pre W=>Ix pre W∧zak W w.heap.size (L .done (some (.exit kx)))) U hBU ?_ ?_ ?_ ⟨hI _ _ _ h0 (Chg.of _ hwU),Y⟩).mono ?_
  ·exact fun s A B hs hc=>⟨hI s A B hs.1 (hc.mono fun b _ h=>by omega),hs.2.far hc (by omega)⟩
  ·exact fun s A B hs hc=>⟨R s A B hs.1 (hc.mono fun b _ h=>by omega),hs.2.far hc (by omega)⟩
  ·rintro hi pre x W hhi ⟨r,d⟩ hsp hlen;have G:(L .ready none).state=.ready:=by rw[T]
   have hy:=run_yield (P:=P) (args:=j x) d.1 (by rw[T];exact hps x);rw[T] at hy;have hwlt:w.heap.size+1<W.heap.size:=(Array.getElem?_eq_some_iff.1 d.1).1;obtain ⟨V,hV⟩:=nm (W.alloc (ob x));have k:Below W W V:=by rw[hV];exact qA _
   have hgV:V.heap[W.heap.size]? =some (ob x):=by rw[hV];exact World.alloc_heap_new W _
   have y:zak V w.heap.size (L .ready none):=⟨(k.block _ hwlt).trans d.1,(k.block _ (by omega)).trans d.2⟩;have hiV:I pre V:=hI _ _ _ r (Chg.of _ k);refine ⟨fn,_,assign,body,hy,roundIn_of_wpIn hfn (q _ x W _ _ rfl ?_)⟩;rw[←hV];refine ⟨_,run_beginRound y.1 G,?_⟩;have aa:zak (V.putObj (w.heap.size+1) (.loop {L .ready none with state:=.busy})) w.heap.size {L .ready none with state:=.busy}:=y.put;have kb:∀(V:World) (o:Obj),KeepX X U.heap.size hi V (V.putObj (w.heap.size+1) o):=fun V o=>⟨⟨by simp,fun i h1 _=>World.putObj_heap_other (by omega)⟩,fun b hb=>World.putObj_heap_other (by have:=hX b hb;have:=E.size;omega)⟩;have kV:KeepX X U.heap.size hi W V:=⟨⟨k.size,fun i _ h2=>k.block i (by omega)⟩,fun b hb=>k.block b (by have:=hX b hb;have:=E.size;omega)⟩;refine wpIn_mono (Z hi _ W.heap.size pre x _ hhi (by omega) ((World.putObj_heap_other (by omega)).trans hgV) (hI.putObj _ hiV (by omega)) hsp hlen) ?_;have O:∀(f:Option Code) (C:World),KeepsOthers (V.putObj (w.heap.size+1) (.loop {L .ready none with state:=.busy})) C→
     (Instr.endRound (w.heap.size+1) f).run P C=.ok ↑f.isNone (C.putObj (w.heap.size+1) (.loop (L (if f.isNone then .ready else .done) f)))∧
     zak C w.heap.size {L .ready none with state:=.busy}∧zak (C.putObj (w.heap.size+1) (.loop (L (if f.isNone then .ready else .done) f))) w.heap.size (L (if f.isNone then .ready else .done) f):=by
    intro f C ab;have h3:=aa.others ab;have m:=run_endRound (P:=P) f h3.1;rw[T] at m h3 ⊢;exact ⟨m,h3,h3.put⟩
   rintro e a3 C J
   cases e with
   |normal=>
    obtain ⟨ab,H,hi3⟩:=J;obtain ⟨m,hb3,ac⟩:=O none C ab;rw[←hsU] at H;exact ⟨_,_,m,.inl ⟨rfl,⟨hI.putObj _ hi3 (by omega),ac⟩,((kV.trans (kb _ _)).trans H).trans (kb _ _)⟩⟩
   |ret=>cases J.2.1
   |exit id=>
    obtain ⟨m,hb3,ac⟩:=O (some (.exit id)) C J.1;obtain rfl:id=kx:=by cases J.2.1;rfl
    exact ⟨_,_,m,.inr ⟨rfl,R.putObj _ J.2.2 (by omega),ac⟩⟩
   |goto t=>cases J.2.1
   |panic ch=>exact J.elim
   |outgrown=>exact J.elim
  ·have M:∀{st:LoopState} {pe:Option Code} {W2:World},st≠ .busy→zak W2 w.heap.size (L st pe)→∃o,(Instr.endLoop (w.heap.size+1)).run P W2=.ok pe (W2.putObj (w.heap.size+1) o):=by
    intro st pe W2 hst h2;have m:=run_endLoop (P:=P) h2.1 (by rw[T];exact hst);rw[T] at m;exact ⟨_,m⟩
   rintro e W2 ⟨⟨v,rfl⟩,(⟨xs,hS,r,d⟩|⟨pre,hSp,r,d⟩)⟩
   ·obtain ⟨o,m⟩:=M (by simp) d;exact ⟨none,_,m,z _ xs _ lR (.inl ⟨hS,hI.putObj _ r (by omega)⟩) ((World.putObj_heap_other (by omega)).trans d.2)⟩
   ·obtain ⟨o,m⟩:=M (by simp) d;refine ⟨some (.exit kx),_,m,wpIn_exit (hQ _ _ (z _ pre _ lR (.inr ⟨hSp,R.putObj _ r (by omega)⟩) ((World.putObj_heap_other (by omega)).trans d.2)))⟩
end Ac
namespace Ho
open Go.RowKit Go.Shelf Vb Ac
attribute [local go_sem] Oper.semAt_some
def zfd (bids:List (List Int)) (k:Nat):List UnitR:=(bids.take k).mapIdx fun i b=>⟨i,0,b.headD 0⟩
theorem zmF {bids:List (List Int)} {k:Nat} {b:List Int} (h:bids[k]? =some b):zfd bids (k+1)=zfd bids k++[⟨k,0,b.headD 0⟩]:=by
 unfold zfd;have a:=(gS.1 h).1;rw[za4 h,List.mapIdx_append]
 congr 1
 simp
 omega
theorem znP {bids:List (List Int)} (a:∀b∈bids,b≠[]):zfd bids bids.length=zbK bids fun _=>0:=by
 rw[znS];unfold zfd;rw[List.take_length];have:(bids.mapIdx fun i b=>((b.head?).map fun c=>(⟨i,0,c⟩:UnitR)).toList)=bids.mapIdx fun i b=>[(⟨i,0,b.headD 0⟩:UnitR)]:=by
  apply List.ext_getElem?
  intro j;rw[List.getElem?_mapIdx,List.getElem?_mapIdx]
  cases hb:bids[j]? with
  |none=>rfl
  |some b=>
   cases b with
   |nil=>exact absurd rfl (a _ (mG hb))
   |cons c r=>rfl
 have d:∀(L:List UnitR),(L.map fun x=>[x]).flatten=L:=fun L=>by
  induction L with
  |nil=>rfl
  |cons x L ih=>rw[List.map_cons,List.flatten_cons,ih];rfl
 have e:(bids.mapIdx fun i b=>[(⟨i,0,b.headD 0⟩:UnitR)])=(bids.mapIdx fun i b=>(⟨i,0,b.headD 0⟩:UnitR)).map fun x=>[x]:=by
  apply List.ext_getElem?
  intro j;rw[List.getElem?_mapIdx,List.getElem?_map,List.getElem?_mapIdx]
  cases bids[j]? <;>rfl
 rw[this,e,d]
theorem UnI.same {W W':World} {R:Nat→Prop} {r:Nat} {v:Value} {F:Unit} {l:List UnitR} (h:UnI W R r v F l) (hs:∀b,b<W.heap.size→R b→W'.heap[b]? =W.heap[b]?):UnI W' R r v F l:=
 ⟨(hs r h.br.lt h.inR).trans h.br,h.row.same fun b hb=>hs b (h.row.lt hb) (h.row.blk b hb).1,h.inR⟩
theorem zbv.same {W W':World} {R:Nat→Prop} {r:Nat} {l:List UnitR} (h:zbv W R r l) (a:∀b,b<W.heap.size→R b→W'.heap[b]? =W.heap[b]?):zbv W' R r l:=by
 obtain ⟨v,F,h⟩:=h;exact ⟨v,F,h.same a⟩
theorem zbv.mono {W:World} {R R':Nat→Prop} {r:Nat} {l:List UnitR} (h:zbv W R r l) (a:∀b,b<W.heap.size→R b→R' b):zbv W R' r l:=by
 obtain ⟨v,F,h⟩:=h;exact ⟨v,F,h.mono a⟩
structure UOI (J:List UnitR→World→Prop) (lo r g10 g7:Nat) (X:Nat→Prop) (bids:List (List Int)) (m:Nat) (wr:World) (pre:List UnitR) (p:Nat→Nat) (l:List UnitR):Prop where
 ord:OrdAt wr X g10 g7 bids
 row:zbv wr (fun b=>lo≤b) r l
 perm:l.Perm (zbK bids p)
 heap:zao leU (gU l) l.length
 come:ComesU bids pre p
 j:J pre wr
 num:m+pre.length=(zbe bids).length
 pos:∀i b,bids[i]? =some b→p i≤b.length
 size:lo≤wr.heap.size
def UOR (J:List UnitR→World→Prop) (lo r g10 g7:Nat) (X:Nat→Prop) (bids:List (List Int)) (m:Nat) (wr:World):Prop:=∃pre p l,UOI J lo r g10 g7 X bids m wr pre p l
theorem zm4 {α:Type}:∀{L:List (List α)},(∀x∈L,x.length≤1)→L.flatten.length≤L.length
 |[],_=>lR
 |x::L,h=>by
  have h1:=h x (.head _);have h2:=zm4 (L:=L) fun y hy=>h y (.tail _ hy);simp only[List.flatten_cons,List.length_append,List.length_cons]
  omega
theorem zjq (bids:List (List Int)) (p:Nat→Nat):(zbK bids p).length≤bids.length:=by
 have:=zm4 (L:=(zch bids).mapIdx fun i b=>(b[p i]?).toList) fun x d=>by
  obtain ⟨i,a⟩:=List.getElem?_of_mem d;rw[List.getElem?_mapIdx] at a
  cases h:(zch bids)[i]? with
  |none=>rw[h] at a;simp at a
  |some b=>
   rw[h] at a;simp only[Option.map_some,Option.some.injEq] at a;subst a
   cases b[p i]? <;>simp
 have c:((zch bids).mapIdx fun i b=>(b[p i]?).toList).length=bids.length:=by simp[zch]
 rw[c] at this;exact this
theorem zpK {α:Type} {l H O:List α} {u x:α} (a:l[0]? =some u) (b:l.Perm H) (c:H.Perm (u::O)):(l.set 0 x).Perm (x::O):=by
 cases l with
 |nil=>simp at a
 |cons y t=>
  obtain rfl:y=u:=by simpa using a
  exact ((List.perm_cons _).1 (b.trans c)).cons _
theorem zsa (nn:Nat) (hn:1≤nn) (l M g7:Nat) (X:Nat→Prop) (bids:List (List Int)) (hbl:bids.length≤4096) (hbs:∀b∈bids,b.length≤64) (hf:∀b∈bids,zi4 b) (hne:∀b∈bids,b≠[]) (J Jx:List UnitR→World→Prop) (W:World) (hv:OrdAt W X M g7 bids) (hX:∀b,X b→b<W.heap.size)
  (hJ:Far W.heap.size J)
  (hY:∀hi pre x W1,hi≤W1.heap.size→J pre W1→pre++[x]<+:zbe bids→pre.length<(zbe bids).length→YieldAt Fence.wide (nn-1) Tryz.prog l #[x.agg] W1 fun e W'=>
   (e=.returned ↑true∧J (pre++[x]) W'∧KeepX X W.heap.size hi W1 W')∨(e=.returned ↑false∧Jx (pre++[x]) W'))
  (h0:J [] W):
  CallsIn Fence.wide nn Tryz.prog 267 #[.func (.yield l) #[] #[],.pointer (some ⟨M,0,none⟩),.pointer (some ⟨g7,0,none⟩)] W fun e W'=>(∃v,e=.returned v)∧
   ((∃xs,xs=zbe bids∧J xs W')∨(∃pre,pre<+:zbe bids∧Jx pre W')):=by
 refine callsIn_of_wp Tryz.func267 rfl trivial ?_ rfl;have g0:W.cell? ⟨M,0,none⟩=some ↑true:=hv.ok.cell 0;obtain ⟨g,vo,hbx,hgb,hXg,hea⟩:=hv.box;obtain ⟨n,hnn⟩:=nm (bids.length);rw[←hnn] at hbx hgb hbl;have b0:W.cell? ⟨g7,0,none⟩=some (.slice (some ⟨g,0,none⟩) n n):=hbx.cell 0;have lb:=hbx.lt;have HV:=hid hv;have HBX:=hid hbx;have HGB:=hid hgb;have HEA:=hid hea;have HY:=hid hY;have HJ:=hid hJ;have H0:=hid h0;have HX:=hid hX;have HBS:=hid hbs;have HF:=hid hf;have HNE:=hid hne;have HN:=hid hnn;obtain ⟨W1,hW1⟩:=nm (W.alloc (.cells #[.slice none 0 0,zj7] 362));have HB1:=hid (show Below W W W1 by rw[hW1];exact qA _);have HR1:=hid (show zbv W1 (fun b=>W.heap.size≤b) W.heap.size [] from ⟨.slice none 0 0,(),by rw[hW1];exact Ac.Blk.new _ _ _,RowAt.nil,lR⟩);have b1:W1.cell? ⟨g7,0,none⟩=some (.slice (some ⟨g,0,none⟩) n n):=qc HB1.out b0 lb;have lb1:g7<W1.heap.size:=lL lb HB1.out.size;clear hY h0 hv hJ hbx hgb hea hX hbs hf hne hnn hXg;unfold zj7 at hW1;simp only[Tryz.ntmps267,List.size_toArray,List.length_cons,List.length_nil,Nat.reduceAdd,Nat.reduceSub,Array.replicate_succ,Array.replicate_zero,List.push_toArray,List.append_toArray,List.nil_append,List.cons_append]
 gi_wp2
 rw[←hW1];clear hW1 g0 b0 b1;have hint1:∀w,(Instr.makeInterface 357 (.pointer (some ⟨W,0,none⟩))).run Tryz.prog w=.ok (zh1 W.heap.size) w:=fun w=>by kernel_rfl
 have hint2:∀(x y z:Int) w,(Instr.makeInterface 355 (.agg #[(x:Int),y,z])).run Tryz.prog w=.ok (zfR ⟨x,y,z⟩) w:=fun x y z w=>by kernel_rfl
 gi_loopw [15] (fun i wr=>∃(k:Nat) (hs:List UnitR),k≤n∧i=.int .i64 k∧zbv wr (fun b=>W.heap.size≤b) W.heap.size hs∧hs.Perm (zfd bids k)∧zao leU (gU hs) hs.length∧Below W W wr) (fun i _=>n-(intOf i).toNat)
 case atStart=>exact ⟨0,[],zL,rfl,HR1.out,List.Perm.refl _,fun k h0 hk=>absurd hk (Nat.not_lt_zero _),HB1.out⟩
 case round=>
  obtain ⟨k,hs,hk,rfl,hr,hp,hh,Z⟩:=hrel;have HR:=hid hr;have HP:=hid hp;have HH:=hid hh;have HB:=hid Z;by_cases P:k<n
  ·obtain ⟨b,hbk⟩:∃b,bids[k]? =some b:=⟨_,gE (by rw[←HN.out];exact P)⟩;have G:=(HEA.out k b hbk).grow Z;obtain ⟨A',c',hvk⟩:=zhX G;have hg0:wr.cell? ⟨g,k,none⟩=some (vo k):=((HGB.out.grow Z).cell k).trans (by simp[zbD,P]);have lg:=(HGB.out.grow Z).lt;rw[hvk] at G hg0;obtain ⟨c,r,hcr⟩:∃c r,b=c::r:=by
    cases b with
    |nil=>exact absurd rfl (HNE.out _ (mG hbk))
    |cons c r=>exact ⟨c,r,rfl⟩
   have hb0:b[0]? =some c:=by rw[hcr];rfl
   have hbl1:0<b.length:=by rw[hcr];simp
   obtain ⟨bq,off,rfl,hbq,hc0⟩:=zht G hb0 hbl1;rw[Nat.add_zero] at hc0;have hlen:hs.length=k:=by
    rw[HP.out.length_eq];have:=HN.out
    simp[zfd]
    omega
   have HSU:=hid (zmF hbk);rw[hcr,List.headD_cons] at HSU;have e1:(0:Int)≤(k:Int):=by omega
   have e2:(k:Int)<(n:Int):=by omega
   have e3:(0:Int)<(b.length:Int):=by omega
   have hw:IntKind.i64.wrap ((k:Int)+1)=(k:Int)+1:=iW _ (by omega);have HLN:=hid hlen;clear hr hp hh Z G hvk hcr hb0 hlen hbk
   gi_wp2
   refine ⟨trivial,(callsIn_wide.2 (zox (d:=⟨k,0,c⟩) HR.out HH.out (by have:=HLN.out;omega))).mono ?_⟩;rintro e w3 ⟨rfl,⟨l',hr',hp',hh'⟩,hc'⟩;have ac:=hid hr';have HP3:=hid hp';have HH3:=hid hh';have HC3:=hid hc';clear hr' hp' hh' hc'
   gi_wp2
   go_roundw
   case rel=>
    have hbs:=HB.out.size;refine ⟨k+1,l',by omega,by go_num,ac.out.mono fun b _ h=>h.elim id fun h=>by omega,HP3.out.trans ?_,HH3.out,HB.out.trans (HC3.out.below hbs fun b Z h=>by omega)⟩;rw[HSU.out];exact HP.out.append_right _
   case measure=>simp[intOf];omega
  ·obtain rfl:k=n:=by omega
   have hbs:=Z.size;have HUO:=hid (show UOI J W.heap.size W.heap.size M g7 X bids (zbe bids).length wr [] (fun _=>0) hs from
    ⟨HV.out.same Z.size fun b hb2 _=>Z.block b hb2,hr,by rw[←znP HNE.out,←HN.out];exact hp,hh,zg1 _,HJ.out _ _ _ H0.out (Chg.of _ Z),rfl,fun i b _=>zL,hbs⟩)
   clear hr hp hh Z HR HP HH
   gi_wp2
   gi_loopw [] (fun wr=>∃m,UOR J W.heap.size W.heap.size M g7 X bids m wr) (fun wr=>leastOf fun m=>UOR J W.heap.size W.heap.size M g7 X bids m wr)
   case atStart=>exact ⟨_,_,_,_,HUO.out⟩
   case round=>
    have hls:=(leastOf_spec hrel).1;obtain ⟨m,hm⟩:=nm (leastOf fun m=>UOR J W.heap.size W.heap.size M g7 X bids m wr);rw[←hm] at hls;obtain ⟨pre,p,o,hu⟩:=hls;have HM:=hid hm;have C:=hid hu;clear hrel hm hu
    gi_wp2
    refine ⟨trivial,(callsIn_wide.2 (zoy C.out.row)).mono ?_⟩;rintro e H ⟨rfl,rfl⟩
    rcases Nat.eq_zero_or_pos o.length with hz|hpos
    ·have HD:=hid (show pre=zbe bids from C.out.come.done (List.Perm.eq_nil (C.out.perm.symm.trans (by rw[List.eq_nil_of_length_eq_zero hz]))) C.out.pos);have e0:¬(0:Int)<(o.length:Int):=by omega
     clear hz
     gi_wp2
     go_end0
     exact ⟨⟨_,rfl⟩,.inl ⟨_,rfl,by rw[←HD.out];exact C.out.j⟩⟩
    ·have R:=zdk hpos;obtain ⟨i,b,c,hbi,hci,hue⟩:=zpB (C.out.perm.mem_iff.1 (mG R));obtain ⟨v,F,hUN⟩:=C.out.row;obtain ⟨q,cap,hvq,hq,i0,i1,i2,f0,f1,f2,hcap⟩:=hUN.at_ R;rw[hue] at i0 i1 i2 R;simp only[Nat.zero_mul,Nat.zero_add] at i0 i1 i2 f0 f1 f2;have hil:i<k:=by rw[HN.out];exact (gS.1 hbi).1
     have hpl:p i<b.length:=(gS.1 hci).1;have hbl64:=HBS.out b (mG hbi);obtain ⟨gg,vv,aa,ab,_,hea2⟩:=C.out.ord.box;rw[←HN.out] at aa ab;have G:=hea2 i b hbi;obtain ⟨A',c',hvk⟩:=zhX G;have k0:H.cell? ⟨W,0,none⟩=some (.slice (some ⟨q,0,none⟩) o.length cap):=(hUN.br.cell 0).trans (by rw[hvq];rfl);have lk:=hUN.br.lt;have k1:H.cell? ⟨g7,0,none⟩=some (.slice (some ⟨gg,0,none⟩) k k):=aa.cell 0;have lk1:=aa.lt;have k2:H.cell? ⟨gg,i,none⟩=some (vv i):=(ab.cell i).trans (by simp[zbD,hil]);have lk2:=ab.lt;rw[hvk] at G k2;obtain ⟨A,hpi⟩:=nm (p i);rw[←hpi] at i1 hpl;have e1:(0:Int)<(o.length:Int):=by omega
     have e2:(0:Int)≤(i:Int):=by omega
     have e3:(i:Int)<(k:Int):=by omega
     have hw:IntKind.i64.wrap ((A:Int)+1)=(A:Int)+1:=iW _ (by omega);have HSL:=hid G;have HU0:=hid R;have HUE:=hid hue;have HBI:=hid hbi;have HCI:=hid hci;have L:=hid hpi;have HPL:=hid hpl;have HUN:=hid hUN;have HVQ:=hid hvq;clear R hue hbi hci hUN hvq hpos aa ab hea2 G hvk hpi hpl;obtain ⟨B,hW3⟩:=nm (H.alloc (.cells #[i,A,(c:Int)] 355));have t:=hid (show Below H H B by rw[hW3];exact qA _);have HT3:=hid (show Ac.Blk B H.heap.size 355 #[i,A,(c:Int)] by rw[hW3];exact Ac.Blk.new _ _ _);have ac:=hid (show UnI B (fun b=>W.heap.size≤b∧b<H.heap.size) W.heap.size v F o from (HUN.out.mono fun b Y h2=>⟨h2,Y⟩).grow t.out);have HCOME:=hid (show ComesU bids (pre++[⟨i,A,c⟩]) (zbI p i) by
      have Y:=zao.least zdK zjx C.out.heap;rw[znK HU0.out] at Y;have:=C.out.come.step (i:=i) HF.out HBI.out HCI.out fun x hx=>by
       obtain ⟨kx,hkx⟩:=List.getElem?_of_mem (C.out.perm.mem_iff.2 hx);have h2:=Y kx (gS.1 hkx).1
       rwa [znK hkx] at h2
      rwa [←L.out] at this)
     have HPM:=hid (show (zbK bids p).Perm (⟨i,A,c⟩::zdX bids p i) by have:=zlR HBI.out HCI.out;rwa [←L.out] at this);have HPOS:=hid (show ∀j b,bids[j]? =some b→zbI p i j≤b.length from fun j b' hj=>by
      unfold zbI;by_cases e:j=i
      ·subst e;rw[HBI.out] at hj
       cases hj
       rw[if_pos rfl,←L.out];exact HPL.out
      ·rw[if_neg e];exact C.out.pos j b' hj)
     --the end of a round,once the heap stands again
     have key:∀(D:World) (V:List UnitR),zbv D (fun b=>W.heap.size≤b∧b<H.heap.size) W.heap.size V→V.Perm (zbK bids (zbI p i))→zao leU (gU V) V.length→Chg (fun b=>W.heap.size≤b) H D→
       J pre D∧pre++[⟨i,A,c⟩]<+:zbe bids∧pre.length<(zbe bids).length∧∀W6,J (pre++[⟨i,A,c⟩]) W6→KeepX X W.heap.size D.heap.size D W6→m-1<m∧UOR J W.heap.size W.heap.size M g7 X bids (m-1) W6:=fun D V Y h2 h3 h4=>by
      have h5:=HCOME.out.come;have h6:=h5.length_le
      simp at h6
      have hnum:=C.out.num;refine ⟨HJ.out _ _ _ C.out.j h4,h5,h6,fun W6 h7 h8=>⟨by omega,_,_,V,?_,?_,h2,h3,HCOME.out,h7,?_,HPOS.out,?_⟩⟩
      ·refine C.out.ord.same (lT h4.size h8.r.size) fun b Z hx=>(h8.old b hx).trans (h4.block b Z fun e=>by have:=HX.out b hx;omega)
      ·exact (Y.same fun b Z hr=>h8.r.same b hr.1 (by have:=h4.size;omega)).mono fun b _ hr=>hr.1
      ·simp;omega
      ·have:=C.out.size;exact lT this (lT h4.size h8.r.size)
     have KEY:=hid key;clear key;by_cases hnx:A+1<b.length
     ·obtain ⟨c2,hc2⟩:∃c2,b[A+1]? =some c2:=⟨_,gE hnx⟩;obtain ⟨bq,off,rfl,hbq,hc0⟩:=zht (HSL.out.grow t.out) hc2 hnx;have a3:B.cell? ⟨W,0,none⟩=some (.slice (some ⟨q,0,none⟩) o.length cap):=qc t.out k0 lk;have a4:B.cell? ⟨g7,0,none⟩=some (.slice (some ⟨gg,0,none⟩) k k):=qc t.out k1 lk1;have a5:B.cell? ⟨gg,i,none⟩=some (.slice (some ⟨bq,off,none⟩) b.length c'):=qc t.out k2 lk2;have a6:B.cell? ⟨H,0,none⟩=some ↑i:=HT3.out.cell 0;have b3:W.heap.size<B.heap.size:=lL lk t.out.size;have b4:g7<B.heap.size:=lL lk1 t.out.size;have b5:gg<B.heap.size:=lL lk2 t.out.size;have b6:=HT3.out.lt;have e4:(A:Int)+1<(b.length:Int):=by omega
      have e5:(0:Int)≤(A:Int)+1:=by omega
      have HC2:=hid hc2;have Q:=ac.out.row;rw[HVQ.out] at Q;have HROW:=hid Q;obtain ⟨U,hU⟩:=nm ((((B.setCell ⟨q,0,none⟩ ↑i).setCell ⟨q,1,none⟩ ↑((A:Int)+1:Int)).setCell ⟨q,2,none⟩ ↑(c2:Int)).drew);have HRU:=hid (show zbv U (fun b=>W.heap.size≤b∧b<H.heap.size) W.heap.size (o.set 0 ⟨i,(A:Int)+1,c2⟩)∧Chg (fun b=>W.heap.size≤b∧b<H.heap.size) B U from by
       have hq2:=Q.blk q rfl;have hcU:Chg (·=q) B U:=by
        rw[hU];exact (((Chg.set _ ⟨q,0,none⟩ _).trans (Chg.set _ ⟨q,1,none⟩ _)).trans (Chg.set _ ⟨q,2,none⟩ _)).grow bR.drew
       refine ⟨⟨v,F,ac.out.br.chg hcU (Ne.symm hq2.2),?_,ac.out.inR⟩,hcU.mono fun b _ e=>e▸hq2.1⟩;rw[HVQ.out,List.length_set,zfQ,hU];exact RowAt.grow (((Q.set 0 _).set 1 _).set 2 _) bR.drew)
      have z0:B.cell? ⟨q,0,none⟩=some ↑i:=qc t.out i0 hq;have z1:B.cell? ⟨q,1,none⟩=some ↑A:=qc t.out i1 hq;have z2:B.cell? ⟨q,2,none⟩=some ↑(c:Int):=qc t.out i2 hq;have y0:B.frozen? ⟨q,0,none⟩=false:=HROW.out.own.frozenAt 0;have y1:B.frozen? ⟨q,1,none⟩=false:=HROW.out.own.frozenAt 1;have y2:B.frozen? ⟨q,2,none⟩=false:=HROW.out.own.frozenAt 2;have HLS:=hid (show o.length≤4096 by
       have Y:=C.out.perm.length_eq;have h2:=zjq bids p;have h3:=HN.out
       omega)
      have HDN:=hid (show DnF leU (gU (o.set 0 ⟨i,(A:Int)+1,c2⟩)) (o.set 0 ⟨i,(A:Int)+1,c2⟩).length 0 by
       rw[List.length_set];exact zao.dn (f:=gU o) zdK C.out.heap (fun j hj hjn=>by simp[gU,List.getD_eq_getElem?_getD,List.getElem?_set,Ne.symm hj]) (by omega))
      have HPS:=hid (show (o.set 0 ⟨i,(A:Int)+1,c2⟩).Perm (zbK bids (zbI p i)) by
       have Y:=znR (p:=p) (c:=c2) HBI.out (by rw[←L.out];exact hc2);rw[←L.out] at Y;have R:=HU0.out;rw[←L.out] at R;refine (zpK R C.out.perm HPM.out).trans ?_;have h2:((A+1:Nat):Int)=(A:Int)+1:=by omega
       rw[h2] at Y;exact Y.symm)
      clear hc2 Q
      gi_wp2
      rw[←hW3];have HTU:=hid hU;clear hW3 k0 k1 k2 i0 i1 i2 f0 f1 f2 hU;refine (wpIn_wide (n:=nn)).2 ?_;refine zac (Below B B) [17] (by kernel_rfl) (bR.drew) (fun I=>?_);refine tp 0 I ?_;refine tp 1 I ?_;refine tp 2 I ?_;have qq:=hid fun (w':World) (hSw:(Below B B) w')=>And.intro (qc hSw a3 b3)<|And.intro (qc hSw a4 b4)<|And.intro (qc hSw a5 b5)<|And.intro (qc hSw a6 b6)<|qc hSw hc0 hbq;refine tl 3 I qq ?_;refine tp 4 I ?_;refine tl 5 I qq ?_;refine tp 6 I ?_;refine tl 7 I qq ?_;refine tp 8 I ?_;refine tl 9 I qq ?_;refine tp 10 I ?_;refine tl 11 I qq ?_;refine tp 12 I ?_;refine tp 13 I ?_;refine tl 14 I qq ?_;refine tp 15 I ?_;refine tp 16 I ?_;refine stf 17 fun K hK=>?_;go_simp;rw[←HTU.out];refine hK.out _ _ ?_;clear hK K
      try simp only[Act.put,pb,pz,ps]
      refine zaa (by kernel_rfl) ?_ _;clear I a3 a4 a5 a6 b3 b4 b5 b6 z0 z1 z2 y0 y1 y2 hc0 hbq
      gi_wp2
      refine ⟨trivial,(callsIn_wide.2 (zqt (l:=o.set 0 ⟨i,(A:Int)+1,c2⟩) (i:=0) HRU.out.1 HDN.out (by rw[List.length_set];have:=HLS.out;omega) (by rw[List.length_set];omega))).mono ?_⟩;rintro e D ⟨rfl,⟨V,hr5,hp5,hh5⟩,T⟩;have E:=hid ((HT3.out.chg HRU.out.2 (fun e=>by omega)).chg T (fun e=>by omega));obtain ⟨hj5,s,O,hk5⟩:=KEY.out D V hr5 (hp5.trans HPS.out) hh5 (((Chg.of _ t.out).step HRU.out.2 fun b _ e=>e.1).step T fun b _ e=>e.1);clear hr5 hp5 hh5 T;have hxx:=E.out.lt;have x0:D.cell? ⟨H,0,none⟩=some ↑i:=E.out.cell 0;have x1:D.cell? ⟨H,1,none⟩=some ↑A:=E.out.cell 1;have x2:D.cell? ⟨H,2,none⟩=some ↑(c:Int):=E.out.cell 2;obtain ⟨fn,tmps,assign,body,hy,hRR⟩:=HY.out D.heap.size pre ⟨i,A,c⟩ D lR hj5 s O
      dsimp only[UnitR.agg] at hy
      have HRR:=hid hRR;have HK5:=hid hk5;have HPRE:=hid s;clear hRR hk5 s O hj5
      gi_wp2
      refine HRR.out.mono ?_;rintro e W6 (⟨rfl,hJ6,hk6⟩|⟨rfl,hJx⟩)
      ·obtain ⟨P,N⟩:=HK5.out W6 hJ6 hk6;have S:=hid N;have HLT:=hid P;clear P N hJ6 hk6
       gi_wp2
       go_roundw
       case rel=>exact ⟨_,S.out⟩
       case measure=>rw[←HM.out];exact Nat.lt_of_le_of_lt ((leastOf_spec ⟨_,S.out⟩).2 _ S.out) HLT.out
      ·have HJX:=hid hJx;clear hJx
       gi_wp2
       refine bodyPost_ret (results_none rfl _ _ _) rfl ?_;exact ⟨⟨_,rfl⟩,.inr ⟨_,HPRE.out,HJX.out⟩⟩
     ·have hnone:b[A+1]? =none:=List.getElem?_eq_none_iff.2 (by omega);have e4:¬(A:Int)+1<(b.length:Int):=by omega
      have HLS:=hid (show o.length≤4096 by
       have Y:=C.out.perm.length_eq;have h2:=zjq bids p;have h3:=HN.out
       omega)
      have HNO:=hid (show ∀V,o.Perm (gU o 0::V)→V.Perm (zbK bids (zbI p i)) from fun V h=>by
       rw[znK HU0.out,←L.out] at h;have Y:=znQ (p:=p) HBI.out (by rw[←L.out];exact hnone);exact ((List.perm_cons _).1 ((h.symm.trans C.out.perm).trans HPM.out)).trans Y.symm)
      clear hnone
      gi_wp2
      rw[←hW3];clear hW3 k0 k1 k2 i0 i1 i2 f0 f1 f2;refine ⟨trivial,(callsIn_wide.2 (zqu ⟨v,F,ac.out⟩ C.out.heap (by have:=HLS.out;omega) (by omega))).mono ?_⟩;rintro e D ⟨rfl,⟨V,hr5,hp5,hh5⟩,T⟩;have E:=hid (HT3.out.chg T (fun e=>by omega));obtain ⟨hj5,s,O,hk5⟩:=KEY.out D V hr5 (HNO.out V hp5) hh5 ((Chg.of _ t.out).step T fun b _ e=>e.1);clear hr5 hp5 hh5 T;have hxx:=E.out.lt;have x0:D.cell? ⟨H,0,none⟩=some ↑i:=E.out.cell 0;have x1:D.cell? ⟨H,1,none⟩=some ↑A:=E.out.cell 1;have x2:D.cell? ⟨H,2,none⟩=some ↑(c:Int):=E.out.cell 2;obtain ⟨fn,tmps,assign,body,hy,hRR⟩:=HY.out D.heap.size pre ⟨i,A,c⟩ D lR hj5 s O
      dsimp only[UnitR.agg] at hy
      have HRR:=hid hRR;have HK5:=hid hk5;have HPRE:=hid s;clear hRR hk5 s O hj5
      gi_wp2
      refine HRR.out.mono ?_;rintro e W6 (⟨rfl,hJ6,hk6⟩|⟨rfl,hJx⟩)
      ·obtain ⟨P,N⟩:=HK5.out W6 hJ6 hk6;have S:=hid N;have HLT:=hid P;clear P N hJ6 hk6
       gi_wp2
       go_roundw
       case rel=>exact ⟨_,S.out⟩
       case measure=>rw[←HM.out];exact Nat.lt_of_le_of_lt ((leastOf_spec ⟨_,S.out⟩).2 _ S.out) HLT.out
      ·have HJX:=hid hJx;clear hJx
       gi_wp2
       refine bodyPost_ret (results_none rfl _ _ _) rfl ?_;exact ⟨⟨_,rfl⟩,.inr ⟨_,HPRE.out,HJX.out⟩⟩
theorem ziv (nn:Nat) (hn:1≤nn) (g10 g7:Nat) (X:Nat→Prop) (bids:List (List Int)) (hbl:bids.length≤4096) (hbs:∀b∈bids,b.length≤64) (hf:∀b∈bids,zi4 b) (hne:∀b∈bids,b≠[]) (w:World) (hv:OrdAt w X g10 g7 bids) (hX:∀b,X b→b<w.heap.size):
  zku Fence.wide nn Tryz.prog 267 #[.pointer (some ⟨g10,0,none⟩),.pointer (some ⟨g7,0,none⟩)] (fun u:UnitR=>#[u.agg]) X (fun ys=>ys=zbe bids) (fun pre=>pre<+:zbe bids) (zbe bids).length w:=fun l J Jx W hW hJ _ hY h0=>
 zsa nn hn l g10 g7 X bids hbl hbs hf hne J Jx W (hv.same hW.size fun b hb _=>hW.block b hb) (fun b hb=>lL (hX b hb) hW.size) hJ hY h0
def zbG (i:Nat) (pre:List UnitR):Int:=((pre.filter fun u=>u.bid==(i:Int)).length:Nat)
def zcu (n:Nat) (pre:List UnitR):List Int:=(List.range n).map fun i=>zbG i pre
theorem zoP (j:Nat) (pre:List UnitR) (u:UnitR):zbG j (pre++[u])=if u.bid=(j:Int) then zbG j pre+1 else zbG j pre:=by
 unfold zbG;rw[List.filter_append];by_cases h:u.bid=(j:Int)
 ·simp[h]
 ·simp[h]
theorem zk8 {n i:Nat} (pre:List UnitR) {u:UnitR} (h:u.bid=(i:Int)):zcu n (pre++[u])=(zcu n pre).set i (zbG i pre+1):=by
 apply List.ext_getElem?
 intro j;rw[List.getElem?_set];unfold zcu;simp only[List.getElem?_map,List.getElem?_range',List.length_map,List.length_range];by_cases hj:j<n
 ·rw[List.getElem?_range hj];simp only[Option.map_some,zoP,h];by_cases e:i=j
  ·subst e;simp[hj]
  ·have a:¬((i:Int)=(j:Int)):=by omega
   simp[e,a]
 ·have b:(List.range n)[j]? =none:=by simp;omega
  rw[b];by_cases e:i=j
  ·subst e;simp[hj]
  ·simp[e]
theorem zkV (n:Nat):madeCells #[()] n=(za6 (zcu n [])).toArray:=by
 apply Array.ext
 ·simp[madeCells,za6,zcu]
 ·intro i a b
  simp[madeCells,za6,zcu,zbG,Nat.mod_one]
theorem zl4 {l:List Int} {k:Nat} {c:Int}:(za6 l).toArray.setIfInBounds k ↑c=(za6 (l.set k c)).toArray:=by simp[za6,List.map_set]
theorem zhK (i:Nat) (pre:List UnitR):0≤zbG i pre∧zbG i pre≤pre.length:=by
 unfold zbG;have:=List.length_filter_le (fun u:UnitR=>u.bid==(i:Int)) pre
 omega
theorem ziO {bids:List (List Int)} {u:UnitR} (h:u∈zbe bids):∃(i:Nat) (b:List Int) (k:Nat) (c:Int),bids[i]? =some b∧b[k]? =some c∧u=⟨i,k,c⟩:=by
 obtain ⟨j,a,d⟩:=(zg1 bids).rest;simp only[List.nil_append] at a;rw[a] at h;obtain ⟨i,b,k,c,f,_,g,e⟩:=ziP (d.mem_iff.1 h);exact ⟨i,b,k,c,f,g,e⟩
def zdO (count:Nat) (fl:Int) (os:List UnitR):Int:=match os[count]? with|some u=>max u.coins fl|none=>fl
def zfG (count:Nat) (os:List UnitR):Int:=match os[count]? with|some u=>u.bid|none=>-1
theorem zqw {count:Nat} {fl:Int} {bids:List (List Int)} {W:World} {R:Nat→Prop} {A:Option Addr} {c:Nat} {vo:Nat→Value} (hB:BidsAt W R (.slice A bids.length c) vo bids) (X:1≤count∧count≤64) (hf:zah fl) (hn:bids.length≤4096) (Z:∀b∈bids,zcB count fl b=0):
  Calls Tryz.prog 262 #[count,fl,.slice A bids.length c] W fun e W'=>∃gw,e=.returned (.tuple #[.agg #[(zdO count fl (zbe bids):Int),.slice (some ⟨gw,0,none⟩) bids.length bids.length,(zfG count (zbe bids):Int)],()])∧
   Ac.Blk W' gw 3 (za6 (zcu bids.length ((zbe bids).take count))).toArray∧W.heap.size≤gw∧Below W W W':=by
 obtain ⟨n,hnn⟩:=nm (bids.length);have hci:1≤(count:Int)∧(count:Int)≤64:=by omega
 have hWZ:=fun (w:World) (h:Below W W w)=>ziw (hB.grow h) hci hf hn Z;have hWO:=fun (w:World) (h:Below W W w)=>zoz (hB.grow h) hci hf hn Z;rw[←hnn] at hWZ hWO hn ⊢;have HWZ:=hid hWZ;have HWO:=hid hWO;have HN:=hid hnn;have HZ:=hid Z;have HC:=hid X;clear hB hWZ hWO hnn Z hf X hci;obtain ⟨W1,hW1⟩:=nm (((W.alloc (.cells #[count] 3)).alloc (.cells #[fl] 2)).alloc (.cells #[(),.slice none 0 0,()] 346));have HB1:=hid (show Below W W W1 by rw[hW1];exact ((qA _).alloc (by simp) _).alloc (by simp;omega) _);have HX1:=hid (show Ac.Blk W1 W.heap.size 3 #[count] by rw[hW1];exact ((Ac.Blk.new W _ _).alloc _).alloc _);have HY1:=hid (show Ac.Blk W1 (W.heap.size+1) 2 #[fl] by rw[hW1];exact (Ac.Blk.new' _ _ (by simp)).alloc _);have HZ1:=hid (show Ac.Blk W1 (W.heap.size+2) 346 #[(),.slice none 0 0,()] by rw[hW1];exact Ac.Blk.new' _ _ (by simp));have x0:W1.cell? ⟨W,0,none⟩=some ↑count:=HX1.out.cell 0;have y0:W1.cell? ⟨W.heap.size+1,0,none⟩=some ↑fl:=HY1.out.cell 0;have ly:=HY1.out.lt;have lzz:=HZ1.out.lt;have hmk:∀V:World,(Instr.makeSlice 36 ↑(n:Int) ↑(n:Int)).run Tryz.prog V=.ok (.slice (some ⟨V,0,none⟩) n n) (V.alloc (.cells (madeCells #[()] n) 3)):=fun V=>
  run_make_row' (P:=Tryz.prog) 36 3 ↑() 8 Tryz.underlying36 (by kernel_rfl) rfl .i64 .i64 n (by omega) (by omega) V
 refine (callsIn_wide (n:=3)).1 (callsIn_of_wp_marks Tryz.func262 rfl trivial ((wpIn_wide (n:=3)).2 ?_));simp only[Tryz.ntmps262,List.size_toArray,List.length_cons,List.length_nil,Nat.reduceAdd,Nat.reduceSub,Array.replicate_succ,Array.replicate_zero,List.push_toArray,List.append_toArray,List.nil_append,List.cons_append];go_wp2_with fail
 rw[←hW1];clear hW1
 go_step3
 go_wp2_with fail
 refine (HWZ.out _ HB1.out).mono ?_;rintro e T ⟨rfl,rfl⟩;go_wp2_with fail
 refine zix (Below T T) [6] (by kernel_rfl) (bR.drew) (fun N=>?_);have qq:=hid fun (w':World) (hSw:(Below T T) w')=>qc hSw y0 ly;refine tl 0 N qq ?_;refine tp 1 N ?_;refine tp 2 N ?_;refine tr [3,5] ?_;refine tc (fun K y=>?_) ?_
 ·go_simp;refine y.out _ _ ?_ (fun N=>?_)
  ·exact N.alloc N.size _
  clear y K
  try simp only[Act.put,pb,pz,ps]
  refine tp 4 N ?_;refine stp 5 fun K y=>?_;go_simp;refine y.out _ _ ?_ (fun N=>?_)
  ·exact N.alloc N.size _
  clear y K
  try simp only[Act.put,pb,pz,ps]
  refine stf 6 fun K y=>?_;go_simp;refine y.out _ _ ?_;clear y K
  try simp only[Act.put,pb,pz,ps]
  refine zaa (by kernel_rfl) (zdW ?_) _;obtain ⟨V,hV⟩:=nm (((T.alloc (.cells (madeCells #[()] n) 3)).alloc (.cells #[fl,.slice (some ⟨T,0,none⟩) n n,(-1:Int)] 346)).drew);obtain ⟨gw,S⟩:=nm (T.heap.size);obtain ⟨f,hg9⟩:=nm (T.heap.size+1);have z:=hid (show Below T T V by rw[hV];exact ((qA _).alloc (by simp) _).drew);have HGW:=hid (show Ac.Blk V gw 3 (za6 (zcu n [])).toArray by rw[hV,S,←zkV];exact ((Ac.Blk.new T _ _).alloc _).drewN 1);have HG9:=hid (show Ac.Blk V f 346 #[fl,.slice (some ⟨gw,0,none⟩) n n,(-1:Int)] by rw[hV,hg9,S];exact (Ac.Blk.new' _ _ (by simp)).drewN 1);rw[←hV];have hgwV:W.heap.size+3≤gw∧gw<V.heap.size∧W.heap.size+3≤f∧f<V.heap.size∧gw≠f:=by
   have I:=HGW.out.lt;have J:=HG9.out.lt
   omega
  rw[←hg9,←S];clear N x0 y0 hmk hV S hg9;have G:=hid (HX1.out.grow z.out);have H:=hid (HY1.out.grow z.out);have HZ3:=hid (HZ1.out.grow z.out);have o:=hid (HB1.out.trans (z.out.mono HB1.out.size));have x0:V.cell? ⟨W,0,none⟩=some ↑count:=G.out.cell 0;have y0:V.cell? ⟨W.heap.size+1,0,none⟩=some ↑fl:=H.out.cell 0;clear ly lzz;have lx:=G.out.lt;have ly:=H.out.lt;obtain ⟨V5,O⟩:=nm (V.alloc (.cells #[()] 3));have q:=hid (show Below V V V5 by rw[O];exact qA _);have HN5:=hid (show Ac.Blk V5 V.heap.size 3 #[()] by rw[O];exact Ac.Blk.new _ _ _);go_wp2_with fail
  rw[←O];clear O x0 y0;have x0:V5.cell? ⟨W,0,none⟩=some ↑count:=(G.out.grow q.out).cell 0;have y0:V5.cell? ⟨W.heap.size+1,0,none⟩=some ↑fl:=(H.out.grow q.out).cell 0
  go_step3
  go_wp2_with fail
  clear x0 y0;refine (HWO.out _ (o.out.trans (q.out.mono o.out.size))).mono ?_;rintro e W6 ⟨g10,g7,rfl,hord,Q⟩;have HORD:=hid (hord.mono (Y:=fun b=>V5.heap.size≤b∧b<W6.heap.size) fun b I J=>⟨J,I⟩);have g:=hid (q.out.trans (Q.mono q.out.size));have HX6:=hid (G.out.grow g.out);have HY6:=hid (H.out.grow g.out);have HZ6:=hid (HZ3.out.grow g.out);have HGW6:=hid (HGW.out.grow g.out);have aa:=hid (HG9.out.grow g.out);have HN6:=hid (HN5.out.grow Q);have HB6:=hid (o.out.trans (g.out.mono o.out.size));have hv5:=HN5.out.lt;have hv6:=Q.size;have hvw:=o.out.size;obtain ⟨v,hgn⟩:=nm (V.heap.size);rw[←hgn] at HN6 hgwV hv5 ⊢;unfold zod;have HUO:=hid (show ∀b∈bids,UnitOk count fl b from fun b j=>zc4 (HZ.out b j));clear hord Q lx ly hgn;go_wp2_with fail
  refine (wpIn_wide (n:=3)).1 ?_;refine' zez (F:=Fence.wide) (n:=3) rfl (by omega) (gf:=267) (lb:=#[.pointer (some ⟨g10,0,none⟩),.pointer (some ⟨g7,0,none⟩)]) rfl trivial (enters_of Tryz.func267 (by kernel_rfl) rfl)
   (ziv 2 (by omega) g10 g7 (fun b=>V5.heap.size≤b∧b<W6.heap.size) bids (by rw[←HN.out];exact hn) (fun b j=>by have:=(HUO.out b j).len;have:=HC.out;omega) (fun b j=>zl8 (HUO.out b j).falls) (fun b j e=>by have:=(HUO.out b j).len;rw[e] at this;simp at this) W6 HORD.out (fun b j=>j.2)) (fun b j=>j.2) bR (fun _=>rfl)
   (fun a W'=>a.length≤count∧Chg (fun b=>b=gw∨b=v) W6 W'∧Ac.Blk W' gw 3 (za6 (zcu n a)).toArray∧Ac.Blk W' v 3 #[a.length])
   0 (fun pre' W'=>∃a u,pre'=a++[u]∧a.length=count∧Chg (fun b=>b=gw∨b=v∨b=f) W6 W'∧Ac.Blk W' gw 3 (za6 (zcu n a)).toArray∧Ac.Blk W' f 346 #[(max u.coins fl:Int),.slice (some ⟨gw,0,none⟩) n n,u.bid])
   (fun s A B h X=>⟨h.1,h.2.1.step X fun b j e=>by omega,h.2.2.1.chg X (by omega),h.2.2.2.chg X (by omega)⟩)
   (fun s A B h X=>by
    obtain ⟨a,u,I,J,h3,h4,h5⟩:=h;exact ⟨a,u,I,J,h3.step X fun b j e=>by omega,h4.chg X (by omega),h5.chg X (by omega)⟩)
   ⟨zL,Chg.refl _ _,HGW6.out,HN6.out⟩ (fun u=>.cells #[u.bid,u.place,u.coins] 355 (0,0)) _ ?assign ?body (fun _ _ h=>h) ?rest
  case assign=>
   intro l x W' g' K' hg' hK'
   gi_wp2
   rw[←hg'];exact hK'
  case body=>
   rintro hi l gs a u W' hhi hwg hgs ⟨hle,L,hG,M⟩ hsp hlt;obtain ⟨i,b,k,c,hbi,hbk,rfl⟩:=ziO (hsp.subset (List.mem_append_right a (List.mem_singleton.2 rfl)));have hin:i<n:=by rw[HN.out];exact (gS.1 hbi).1
   have s0:W'.cell? ⟨gs,0,none⟩=some ↑(i:Int):=(show Ac.Blk W' gs _ _ from hgs).cell 0;have s2:W'.cell? ⟨gs,2,none⟩=some ↑c:=(show Ac.Blk W' gs _ _ from hgs).cell 2;have p0:W'.cell? ⟨v,0,none⟩=some ↑a.length:=M.cell 0;have p1:W'.frozen? ⟨v,0,none⟩=false:=M.frozen 0;have c0:W'.cell? ⟨W,0,none⟩=some ↑count:=(HX6.out.chg L (by omega)).cell 0;have f0:W'.cell? ⟨W.heap.size+1,0,none⟩=some ↑fl:=(HY6.out.chg L (by omega)).cell 0;have m:=aa.out.chg L (by omega);have n1:W'.cell? ⟨f,1,none⟩=some (.slice (some ⟨gw,0,none⟩) n n):=m.cell 1;have n2:W'.cell? ⟨f,0,none⟩=some ↑fl:=m.cell 0;have n3:W'.cell? ⟨f,2,none⟩=some ↑(-1:Int):=m.cell 2;have nf:=m.frozen;have q0:W'.cell? ⟨gw,i,none⟩=some ↑(zbG i a:Int):=(hG.cell i).trans (by simp[za6,zcu,hin]);have qf:=hG.frozen i;have hcl:=zhK i a;have e1:(0:Int)≤(i:Int):=by omega
   have e2:(i:Int)<(n:Int):=by omega
   have hcc:=HC.out;have w1:IntKind.i64.wrap (zbG i a+1)=zbG i a+1:=iW _ (by omega);have w2:IntKind.i64.wrap ((a.length:Int)+1)=(a.length:Int)+1:=iW _ (by omega);have l9:=m.lt;have lG:=hG.lt;have t:=hid L;have C:=hid hG;have HNN:=hid M;have H99:=hid m;have HLE:=hid hle;clear hsp hbi hbk L hG M m hcl hlt hgs hle;by_cases hst:a.length=count
   ·have d1:((a.length:Int)==(count:Int))=true:=by simp[hst]
    have E:=hid hst;clear hst
    gi_wp2
    gi_region
    all_goals gi_wp2
    all_goals
     have hstt:=E.out;have hko:KeepsOthers W' ((W'.setCell ⟨f,0,none⟩ ↑(max c fl:Int)).setCell ⟨f,2,none⟩ ↑(i:Int)):=(KeepsOthers.setCell _ _ _).trans (KeepsOthers.setCell _ _ _);refine ⟨⟨hko.size,hko.same⟩,rfl,a,⟨i,k,c⟩,rfl,E.out,(((t.out.mono fun b _ e=>e.elim .inl fun e=>.inr (.inl e)).step (Chg.set W' ⟨f,0,none⟩ ↑(max c fl:Int)) (fun _ _ e=>.inr (.inr e))).step (Chg.set _ ⟨f,2,none⟩ ↑(i:Int)) (fun _ _ e=>.inr (.inr e))).grow bR.drew,?_,?_⟩
     ·exact (((C.out.far (p:=⟨f,0,none⟩) (by show gw≠f;omega) ↑(max c fl:Int)).far (p:=⟨f,2,none⟩) (by show gw≠f;omega) ↑(i:Int))).drewN 1
     ·exact ((H99.out.set_ 0 ↑(max c fl:Int)).set_ 2 ↑(i:Int)).drewN 1
   ·have d1:((a.length:Int)==(count:Int))=false:=by simp;omega
    have E:=hid hst;clear hst
    gi_wp2
    have hstt:=E.out;have hlee:=HLE.out;refine ⟨(KeepsOthers.setCell _ _ _).trans (KeepsOthers.setCell _ _ _),(KeepX.set W' (.inl (by show gw<_;omega)) (fun e=>by have I:V5.heap.size≤gw:=e.1;omega) _).trans (KeepX.set _ (.inl (by show v<_;omega)) (fun e=>by have I:V5.heap.size≤v:=e.1;omega) _),by simp;omega,(t.out.step (Chg.set W' ⟨gw,i,none⟩ _) (fun _ _ e=>.inl e)).step (Chg.set _ ⟨v,0,none⟩ _) (fun _ _ e=>.inr e),?_,?_⟩
    ·rw[zk8 a (i:=i) rfl,←zl4];exact (C.out.set_ i _).far (by show gw≠v;omega) _
    ·rw[List.length_append];exact (HNN.out.far (by show v≠gw;omega) _).set_ 0 ↑((a.length:Int)+1:Int)
  case rest=>
   rintro D a W' hD hor y;obtain ⟨d,nx,L,hG,m,hp,hx⟩:∃d nx,Chg (fun b=>b=gw∨b=v∨b=f) W6 W'∧Ac.Blk W' gw 3 (za6 (zcu n ((zbe bids).take count))).toArray∧Ac.Blk W' f 346 #[(d:Int),.slice (some ⟨gw,0,none⟩) n n,(nx:Int)]∧d=zdO count fl (zbe bids)∧nx=zfG count (zbe bids):=by
    rcases hor with ⟨rfl,I,J,h3,h4⟩|⟨hp,pre0,u,rfl,hl,J,h3,h4⟩
    ·have hno:(zbe bids)[count]? =none:=List.getElem?_eq_none_iff.2 I;exact ⟨fl,-1,J.mono fun b _ e=>e.elim .inl fun e=>.inr (.inl e),by rw[List.take_of_length_le I];exact h3,aa.out.chg J (by omega),by unfold zdO;rw[hno],by unfold zfG;rw[hno]⟩
    ·obtain ⟨r,hr⟩:=hp;have hat:(zbe bids)[count]? =some u:=by
      rw[←hr,List.append_assoc,List.getElem?_append_right (by omega),hl,Nat.sub_self]
      rfl
     have htk:(zbe bids).take count=pre0:=by
      rw[←hr,List.append_assoc,←hl,List.take_append_of_le_length lR,List.take_length]
     exact ⟨_,_,J,by rw[htk];exact h3,h4,by unfold zdO;rw[hat],by unfold zfG;rw[hat]⟩
   have r0:W'.cell? ⟨f,0,none⟩=some ↑(d:Int):=m.cell 0;have r1:W'.cell? ⟨f,1,none⟩=some (.slice (some ⟨gw,0,none⟩) n n):=m.cell 1;have r2:W'.cell? ⟨f,2,none⟩=some ↑(nx:Int):=m.cell 2;have Z:=HZ6.out.chg L (by omega);have z0:W'.cell? ⟨W.heap.size+1+1,0,none⟩=some ↑():=Z.cell 0;have z1:W'.cell? ⟨W.heap.size+1+1,1,none⟩=some (.slice none 0 0):=Z.cell 1;have z2:W'.cell? ⟨W.heap.size+1+1,2,none⟩=some ↑():=Z.cell 2;have zf:∀i,W'.frozen? ⟨W.heap.size+1+1,i,none⟩=false:=Z.frozen;have HK:=hid y;have t:=hid L;have C:=hid hG;have HZZ:=hid Z;have HPP:=hid hp;have HXX:=hid hx;clear hor y L hG m hp hx Z;go_wp2_with fail
   rw[Exit.noGoto_ret];obtain ⟨U,hU⟩:=nm (((W'.setCell ⟨W.heap.size+1+1,0,none⟩ ↑(d:Int)).setCell ⟨W.heap.size+1+1,1,none⟩ (.slice (some ⟨gw,0,none⟩) n n)).setCell ⟨W.heap.size+1+1,2,none⟩ ↑(nx:Int));rw[←hU];have hcU:Chg (·=W.heap.size+2) W' U:=by
    rw[hU];exact ((Chg.set W' ⟨W.heap.size+1+1,0,none⟩ _).trans (Chg.set _ ⟨W.heap.size+1+1,1,none⟩ _)).trans (Chg.set _ ⟨W.heap.size+1+1,2,none⟩ _)
   have hzU:Ac.Blk U (W.heap.size+2) 346 #[(d:Int),.slice (some ⟨gw,0,none⟩) n n,(nx:Int)]:=by
    rw[hU];exact ((HZZ.out.set_ 0 _).set_ 1 _).set_ 2 _
   have hgU:=C.out.chg hcU (by omega);have hDlt:=(Array.getElem?_eq_some_iff.1 HK.out).1;have hDU:U.heap[D]? =some (.deferred (some [])):=(hcU.block D hDlt (by omega)).trans HK.out;have hUW:Below W W U:=((HB6.out.trans (t.out.below (B:=W.heap.size) (by omega) (fun b j e=>by omega)))).trans (hcU.below (by have:=t.out.size;omega) (fun b j e=>by omega))
   show bodyPostM Fence.wide 3 Tryz.prog _ _ Exit.ret _ _
   refine ⟨by simp,.inl ⟨_,_,rfl,run_takeDeferred hDU,?_⟩⟩;have hDW:W.heap.size≤D:=by have:=HB6.out.size;omega
   refine ⟨_,zaJ rfl _ _ (W.heap.size+2) 346 #[(d:Int),.slice (some ⟨gw,0,none⟩) n n,(nx:Int)] (0,0) _ rfl ((World.putObj_heap_other (by omega)).trans hzU) Tryz.underlying346 rfl (by kernel_rfl),gw,?_,(World.putObj_heap_other (by omega)).trans hgU,by omega,hUW.trans (belowK_b (w:=W) lR U D _ _ hDW hDU rfl rfl)⟩;rw[←HPP.out,←HXX.out]
   rfl
 refine tc (fun K y=>?_) ?_
 ·go_simp;refine y.out _ _ ?_ (fun N=>?_)
  ·exact N.alloc N.size _
  clear y K
  try simp only[Act.put,pb,pz,ps]
  refine stp 3 fun K y=>?_;go_simp;refine y.out _ _ ?_ (fun N=>?_)
  ·exact N.alloc N.size _
  clear y K
  try simp only[Act.put,pb,pz,ps]
  refine tp 4 N ?_;refine stf 6 fun K y=>?_;go_simp;refine y.out _ _ ?_;clear y K
  try simp only[Act.put,pb,pz,ps]
  refine zaa (by kernel_rfl) (zdW ?_) _;obtain ⟨V,hV⟩:=nm (((T.alloc (.cells #[fl,.slice (some ⟨T.heap.size+1,0,none⟩) n n,(-1:Int)] 346)).alloc (.cells (madeCells #[()] n) 3)).drew);obtain ⟨gw,S⟩:=nm (T.heap.size+1);obtain ⟨f,hg9⟩:=nm (T.heap.size);have z:=hid (show Below T T V by rw[hV];exact ((qA _).alloc (by simp) _).drew);have HGW:=hid (show Ac.Blk V gw 3 (za6 (zcu n [])).toArray by rw[hV,S,←zkV];exact (Ac.Blk.new' _ _ (by simp)).drewN 1);have HG9:=hid (show Ac.Blk V f 346 #[fl,.slice (some ⟨gw,0,none⟩) n n,(-1:Int)] by rw[hV,hg9,S];exact ((Ac.Blk.new T _ _).alloc _).drewN 1);rw[←hV];have hgwV:W.heap.size+3≤gw∧gw<V.heap.size∧W.heap.size+3≤f∧f<V.heap.size∧gw≠f:=by
   have I:=HGW.out.lt;have J:=HG9.out.lt
   omega
  rw[←S,←hg9];clear N x0 y0 hmk hV S hg9;have G:=hid (HX1.out.grow z.out);have H:=hid (HY1.out.grow z.out);have HZ3:=hid (HZ1.out.grow z.out);have o:=hid (HB1.out.trans (z.out.mono HB1.out.size));have x0:V.cell? ⟨W,0,none⟩=some ↑count:=G.out.cell 0;have y0:V.cell? ⟨W.heap.size+1,0,none⟩=some ↑fl:=H.out.cell 0;clear ly lzz;have lx:=G.out.lt;have ly:=H.out.lt;obtain ⟨V5,O⟩:=nm (V.alloc (.cells #[()] 3));have q:=hid (show Below V V V5 by rw[O];exact qA _);have HN5:=hid (show Ac.Blk V5 V.heap.size 3 #[()] by rw[O];exact Ac.Blk.new _ _ _);go_wp2_with fail
  rw[←O];clear O x0 y0;have x0:V5.cell? ⟨W,0,none⟩=some ↑count:=(G.out.grow q.out).cell 0;have y0:V5.cell? ⟨W.heap.size+1,0,none⟩=some ↑fl:=(H.out.grow q.out).cell 0
  go_step3
  go_wp2_with fail
  clear x0 y0;refine (HWO.out _ (o.out.trans (q.out.mono o.out.size))).mono ?_;rintro e W6 ⟨g10,g7,rfl,hord,Q⟩;have HORD:=hid (hord.mono (Y:=fun b=>V5.heap.size≤b∧b<W6.heap.size) fun b I J=>⟨J,I⟩);have g:=hid (q.out.trans (Q.mono q.out.size));have HX6:=hid (G.out.grow g.out);have HY6:=hid (H.out.grow g.out);have HZ6:=hid (HZ3.out.grow g.out);have HGW6:=hid (HGW.out.grow g.out);have aa:=hid (HG9.out.grow g.out);have HN6:=hid (HN5.out.grow Q);have HB6:=hid (o.out.trans (g.out.mono o.out.size));have hv5:=HN5.out.lt;have hv6:=Q.size;have hvw:=o.out.size;obtain ⟨v,hgn⟩:=nm (V.heap.size);rw[←hgn] at HN6 hgwV hv5 ⊢;unfold zod;have HUO:=hid (show ∀b∈bids,UnitOk count fl b from fun b j=>zc4 (HZ.out b j));clear hord Q lx ly hgn;go_wp2_with fail
  refine (wpIn_wide (n:=3)).1 ?_;refine' zez (F:=Fence.wide) (n:=3) rfl (by omega) (gf:=267) (lb:=#[.pointer (some ⟨g10,0,none⟩),.pointer (some ⟨g7,0,none⟩)]) rfl trivial (enters_of Tryz.func267 (by kernel_rfl) rfl)
   (ziv 2 (by omega) g10 g7 (fun b=>V5.heap.size≤b∧b<W6.heap.size) bids (by rw[←HN.out];exact hn) (fun b j=>by have:=(HUO.out b j).len;have:=HC.out;omega) (fun b j=>zl8 (HUO.out b j).falls) (fun b j e=>by have:=(HUO.out b j).len;rw[e] at this;simp at this) W6 HORD.out (fun b j=>j.2)) (fun b j=>j.2) bR (fun _=>rfl)
   (fun a W'=>a.length≤count∧Chg (fun b=>b=gw∨b=v) W6 W'∧Ac.Blk W' gw 3 (za6 (zcu n a)).toArray∧Ac.Blk W' v 3 #[a.length])
   0 (fun pre' W'=>∃a u,pre'=a++[u]∧a.length=count∧Chg (fun b=>b=gw∨b=v∨b=f) W6 W'∧Ac.Blk W' gw 3 (za6 (zcu n a)).toArray∧Ac.Blk W' f 346 #[(max u.coins fl:Int),.slice (some ⟨gw,0,none⟩) n n,u.bid])
   (fun s A B h X=>⟨h.1,h.2.1.step X fun b j e=>by omega,h.2.2.1.chg X (by omega),h.2.2.2.chg X (by omega)⟩)
   (fun s A B h X=>by
    obtain ⟨a,u,I,J,h3,h4,h5⟩:=h;exact ⟨a,u,I,J,h3.step X fun b j e=>by omega,h4.chg X (by omega),h5.chg X (by omega)⟩)
   ⟨zL,Chg.refl _ _,HGW6.out,HN6.out⟩ (fun u=>.cells #[u.bid,u.place,u.coins] 355 (0,0)) _ ?assign ?body (fun _ _ h=>h) ?rest
  case assign=>
   intro l x W' g' K' hg' hK'
   gi_wp2
   rw[←hg'];exact hK'
  case body=>
   rintro hi l gs a u W' hhi hwg hgs ⟨hle,L,hG,M⟩ hsp hlt;obtain ⟨i,b,k,c,hbi,hbk,rfl⟩:=ziO (hsp.subset (List.mem_append_right a (List.mem_singleton.2 rfl)));have hin:i<n:=by rw[HN.out];exact (gS.1 hbi).1
   have s0:W'.cell? ⟨gs,0,none⟩=some ↑(i:Int):=(show Ac.Blk W' gs _ _ from hgs).cell 0;have s2:W'.cell? ⟨gs,2,none⟩=some ↑c:=(show Ac.Blk W' gs _ _ from hgs).cell 2;have p0:W'.cell? ⟨v,0,none⟩=some ↑a.length:=M.cell 0;have p1:W'.frozen? ⟨v,0,none⟩=false:=M.frozen 0;have c0:W'.cell? ⟨W,0,none⟩=some ↑count:=(HX6.out.chg L (by omega)).cell 0;have f0:W'.cell? ⟨W.heap.size+1,0,none⟩=some ↑fl:=(HY6.out.chg L (by omega)).cell 0;have m:=aa.out.chg L (by omega);have n1:W'.cell? ⟨f,1,none⟩=some (.slice (some ⟨gw,0,none⟩) n n):=m.cell 1;have n2:W'.cell? ⟨f,0,none⟩=some ↑fl:=m.cell 0;have n3:W'.cell? ⟨f,2,none⟩=some ↑(-1:Int):=m.cell 2;have nf:=m.frozen;have q0:W'.cell? ⟨gw,i,none⟩=some ↑(zbG i a:Int):=(hG.cell i).trans (by simp[za6,zcu,hin]);have qf:=hG.frozen i;have hcl:=zhK i a;have e1:(0:Int)≤(i:Int):=by omega
   have e2:(i:Int)<(n:Int):=by omega
   have hcc:=HC.out;have w1:IntKind.i64.wrap (zbG i a+1)=zbG i a+1:=iW _ (by omega);have w2:IntKind.i64.wrap ((a.length:Int)+1)=(a.length:Int)+1:=iW _ (by omega);have l9:=m.lt;have lG:=hG.lt;have t:=hid L;have C:=hid hG;have HNN:=hid M;have H99:=hid m;have HLE:=hid hle;clear hsp hbi hbk L hG M m hcl hlt hgs hle;by_cases hst:a.length=count
   ·have d1:((a.length:Int)==(count:Int))=true:=by simp[hst]
    have E:=hid hst;clear hst
    gi_wp2
    gi_region
    all_goals gi_wp2
    all_goals
     have hstt:=E.out;have hko:KeepsOthers W' ((W'.setCell ⟨f,0,none⟩ ↑(max c fl:Int)).setCell ⟨f,2,none⟩ ↑(i:Int)):=(KeepsOthers.setCell _ _ _).trans (KeepsOthers.setCell _ _ _);refine ⟨⟨hko.size,hko.same⟩,rfl,a,⟨i,k,c⟩,rfl,E.out,(((t.out.mono fun b _ e=>e.elim .inl fun e=>.inr (.inl e)).step (Chg.set W' ⟨f,0,none⟩ ↑(max c fl:Int)) (fun _ _ e=>.inr (.inr e))).step (Chg.set _ ⟨f,2,none⟩ ↑(i:Int)) (fun _ _ e=>.inr (.inr e))).grow bR.drew,?_,?_⟩
     ·exact (((C.out.far (p:=⟨f,0,none⟩) (by show gw≠f;omega) ↑(max c fl:Int)).far (p:=⟨f,2,none⟩) (by show gw≠f;omega) ↑(i:Int))).drewN 1
     ·exact ((H99.out.set_ 0 ↑(max c fl:Int)).set_ 2 ↑(i:Int)).drewN 1
   ·have d1:((a.length:Int)==(count:Int))=false:=by simp;omega
    have E:=hid hst;clear hst
    gi_wp2
    have hstt:=E.out;have hlee:=HLE.out;refine ⟨(KeepsOthers.setCell _ _ _).trans (KeepsOthers.setCell _ _ _),(KeepX.set W' (.inl (by show gw<_;omega)) (fun e=>by have I:V5.heap.size≤gw:=e.1;omega) _).trans (KeepX.set _ (.inl (by show v<_;omega)) (fun e=>by have I:V5.heap.size≤v:=e.1;omega) _),by simp;omega,(t.out.step (Chg.set W' ⟨gw,i,none⟩ _) (fun _ _ e=>.inl e)).step (Chg.set _ ⟨v,0,none⟩ _) (fun _ _ e=>.inr e),?_,?_⟩
    ·rw[zk8 a (i:=i) rfl,←zl4];exact (C.out.set_ i _).far (by show gw≠v;omega) _
    ·rw[List.length_append];exact (HNN.out.far (by show v≠gw;omega) _).set_ 0 ↑((a.length:Int)+1:Int)
  case rest=>
   rintro D a W' hD hor y;obtain ⟨d,nx,L,hG,m,hp,hx⟩:∃d nx,Chg (fun b=>b=gw∨b=v∨b=f) W6 W'∧Ac.Blk W' gw 3 (za6 (zcu n ((zbe bids).take count))).toArray∧Ac.Blk W' f 346 #[(d:Int),.slice (some ⟨gw,0,none⟩) n n,(nx:Int)]∧d=zdO count fl (zbe bids)∧nx=zfG count (zbe bids):=by
    rcases hor with ⟨rfl,I,J,h3,h4⟩|⟨hp,pre0,u,rfl,hl,J,h3,h4⟩
    ·have hno:(zbe bids)[count]? =none:=List.getElem?_eq_none_iff.2 I;exact ⟨fl,-1,J.mono fun b _ e=>e.elim .inl fun e=>.inr (.inl e),by rw[List.take_of_length_le I];exact h3,aa.out.chg J (by omega),by unfold zdO;rw[hno],by unfold zfG;rw[hno]⟩
    ·obtain ⟨r,hr⟩:=hp;have hat:(zbe bids)[count]? =some u:=by
      rw[←hr,List.append_assoc,List.getElem?_append_right (by omega),hl,Nat.sub_self]
      rfl
     have htk:(zbe bids).take count=pre0:=by
      rw[←hr,List.append_assoc,←hl,List.take_append_of_le_length lR,List.take_length]
     exact ⟨_,_,J,by rw[htk];exact h3,h4,by unfold zdO;rw[hat],by unfold zfG;rw[hat]⟩
   have r0:W'.cell? ⟨f,0,none⟩=some ↑(d:Int):=m.cell 0;have r1:W'.cell? ⟨f,1,none⟩=some (.slice (some ⟨gw,0,none⟩) n n):=m.cell 1;have r2:W'.cell? ⟨f,2,none⟩=some ↑(nx:Int):=m.cell 2;have Z:=HZ6.out.chg L (by omega);have z0:W'.cell? ⟨W.heap.size+1+1,0,none⟩=some ↑():=Z.cell 0;have z1:W'.cell? ⟨W.heap.size+1+1,1,none⟩=some (.slice none 0 0):=Z.cell 1;have z2:W'.cell? ⟨W.heap.size+1+1,2,none⟩=some ↑():=Z.cell 2;have zf:∀i,W'.frozen? ⟨W.heap.size+1+1,i,none⟩=false:=Z.frozen;have HK:=hid y;have t:=hid L;have C:=hid hG;have HZZ:=hid Z;have HPP:=hid hp;have HXX:=hid hx;clear hor y L hG m hp hx Z;go_wp2_with fail
   rw[Exit.noGoto_ret];obtain ⟨U,hU⟩:=nm (((W'.setCell ⟨W.heap.size+1+1,0,none⟩ ↑(d:Int)).setCell ⟨W.heap.size+1+1,1,none⟩ (.slice (some ⟨gw,0,none⟩) n n)).setCell ⟨W.heap.size+1+1,2,none⟩ ↑(nx:Int));rw[←hU];have hcU:Chg (·=W.heap.size+2) W' U:=by
    rw[hU];exact ((Chg.set W' ⟨W.heap.size+1+1,0,none⟩ _).trans (Chg.set _ ⟨W.heap.size+1+1,1,none⟩ _)).trans (Chg.set _ ⟨W.heap.size+1+1,2,none⟩ _)
   have hzU:Ac.Blk U (W.heap.size+2) 346 #[(d:Int),.slice (some ⟨gw,0,none⟩) n n,(nx:Int)]:=by
    rw[hU];exact ((HZZ.out.set_ 0 _).set_ 1 _).set_ 2 _
   have hgU:=C.out.chg hcU (by omega);have hDlt:=(Array.getElem?_eq_some_iff.1 HK.out).1;have hDU:U.heap[D]? =some (.deferred (some [])):=(hcU.block D hDlt (by omega)).trans HK.out;have hUW:Below W W U:=((HB6.out.trans (t.out.below (B:=W.heap.size) (by omega) (fun b j e=>by omega)))).trans (hcU.below (by have:=t.out.size;omega) (fun b j e=>by omega))
   show bodyPostM Fence.wide 3 Tryz.prog _ _ Exit.ret _ _
   refine ⟨by simp,.inl ⟨_,_,rfl,run_takeDeferred hDU,?_⟩⟩;have hDW:W.heap.size≤D:=by have:=HB6.out.size;omega
   refine ⟨_,zaJ rfl _ _ (W.heap.size+2) 346 #[(d:Int),.slice (some ⟨gw,0,none⟩) n n,(nx:Int)] (0,0) _ rfl ((World.putObj_heap_other (by omega)).trans hzU) Tryz.underlying346 rfl (by kernel_rfl),gw,?_,(World.putObj_heap_other (by omega)).trans hgU,by omega,hUW.trans (belowK_b (w:=W) lR U D _ _ hDW hDU rfl rfl)⟩;rw[←HPP.out,←HXX.out]
   rfl
 exact zaL.nil
end Ho
end Go.Proofs.YtckdpejdnejhfaaGreat

/- Joined by program. -/
import Derived.Test.YtckdpejdnejhfaaGreatZah
import Derived.Test.YtckdpejdnejhfaaGreatZaf
import Derived.Test.YtckdpejdnejhfaaGreatZt
set_option linter.all false
set_option maxRecDepth 100000
set_option maxHeartbeats 32000000
namespace Go.Proofs.YtckdpejdnejhfaaGreat
namespace Ho
open Go.RowKit Go.WideShapes Go.ChangeShapes Go.ChangeAt Go.Joins Go.Deep Vb
theorem ztN {α:Type} {l:List α} (h:l.length=11):∃c0 c1 c2 c3 c4 c5 c6 c7 c8 c9 c10,l=[c0,c1,c2,c3,c4,c5,c6,c7,c8,c9,c10]:=by
 match l,h with
 |[c0,c1,c2,c3,c4,c5,c6,c7,c8,c9,c10],_=>exact ⟨c0,c1,c2,c3,c4,c5,c6,c7,c8,c9,c10,rfl⟩
theorem zt2 {α:Type} {l:List α} (h:l.length=8):∃c0 c1 c2 c3 c4 c5 c6 c7,l=[c0,c1,c2,c3,c4,c5,c6,c7]:=by
 match l,h with
 |[c0,c1,c2,c3,c4,c5,c6,c7],_=>exact ⟨c0,c1,c2,c3,c4,c5,c6,c7,rfl⟩
theorem ztO {α:Type} {l:List α} (h:l.length=18):∃c0 c1 c2 c3 c4 c5 c6 c7 c8 c9 c10 c11 c12 c13 c14 c15 c16 c17,l=[c0,c1,c2,c3,c4,c5,c6,c7,c8,c9,c10,c11,c12,c13,c14,c15,c16,c17]:=by
 match l,h with
 |[c0,c1,c2,c3,c4,c5,c6,c7,c8,c9,c10,c11,c12,c13,c14,c15,c16,c17],_=>exact ⟨c0,c1,c2,c3,c4,c5,c6,c7,c8,c9,c10,c11,c12,c13,c14,c15,c16,c17,rfl⟩
theorem zh9 {n:Nat}:∀{xs:List (List Value)},(∀y∈xs,y.length=n)→xs.flatten.length=xs.length*n
 |[],_=>by simp
 |x::xs,h=>by
  rw[List.flatten_cons,List.length_append,zh9 fun y hy=>h y (.tail _ hy),h x (.head _),List.length_cons,Nat.succ_mul]
  omega
theorem zga (os:List OrderR) (vo:Nat→Value):(zaz os vo).length=os.length*18:=by
 unfold zaz;rw[zh9 (n:=18) (zdM fun _ _=>by simp[OrderR.cells]),List.length_mapIdx]
section
variable {H:Type} {enc:TypeId×Value→H} {w:World} {base:Nat} {held:Bool} {fuel:Nat}
theorem zbU {a:Array Field} {cs:List Value} {xs:List (DataW H×List MemPlace)} {n:Nat} (b:∀(i:Nat) (f:Field),a[i]? =some f→DataW.trod enc Tryz.prog w base (fun _=>true) held n f.type ((cs.drop f.offset).take (Tryz.prog.cellsOf f.type))=xs[i]?) (o:xs.length=a.size) (i:Nat) {f:Field} {k:IntKind} {c:Value} (g:a[i]? =some f) (p:Tryz.prog.underlying f.type=some (.int k)) (l:Tryz.prog.cellsOf f.type=1) (j:cs[f.offset]? =some c):∃m,c=.int k m:=by
 have h:=b i f g;rw[gE (by rw[o];exact (Array.getElem?_eq_some_iff.1 g).1),l] at h;obtain ⟨m,e,_,_⟩:=DataW.trod_int p h;have d:((cs.drop f.offset).take 1)[0]? =some (.int k m):=by rw[e];rfl
 rw[List.getElem?_take_of_lt (by omega),List.getElem?_drop,Nat.add_zero,j] at d;exact ⟨m,Option.some.inj d⟩
theorem zpE {cs:List Value} {x:DataW H×List MemPlace} (h:DataW.trod enc Tryz.prog w base (fun _=>true) held fuel 58 cs=some x):∃l:LotR,cs=l.cells:=by
 obtain ⟨K,m,_,_,g,c,b⟩:=DataW.trod_struct Tryz.underlying58 h;obtain ⟨z,A,B,C,D,E,F,G,I,J,j,rfl⟩:=ztN (g.trans (show Tryz.prog.cellsOf 58=11 by kernel_rfl));have d:Tryz.prog.cellsOf 55=1:=by kernel_rfl
 have e:Tryz.prog.cellsOf 56=1:=by kernel_rfl
 have f:Tryz.prog.cellsOf 3=1:=by kernel_rfl
 have a:Tryz.prog.cellsOf 2=1:=by kernel_rfl
 obtain ⟨k,rfl⟩:=zbU b c 0 rfl Tryz.underlying55 d rfl;obtain ⟨n,rfl⟩:=zbU b c 1 rfl Tryz.underlying2 a rfl;obtain ⟨o,rfl⟩:=zbU b c 2 rfl Tryz.underlying2 a rfl;obtain ⟨p,rfl⟩:=zbU b c 3 rfl Tryz.underlying2 a rfl;obtain ⟨q,rfl⟩:=zbU b c 4 rfl Tryz.underlying2 a rfl;obtain ⟨r,rfl⟩:=zbU b c 5 rfl Tryz.underlying2 a rfl;obtain ⟨s,rfl⟩:=zbU b c 6 rfl Tryz.underlying2 a rfl;obtain ⟨t,rfl⟩:=zbU b c 7 rfl Tryz.underlying2 a rfl;obtain ⟨v,rfl⟩:=zbU b c 8 rfl Tryz.underlying2 a rfl;obtain ⟨y,rfl⟩:=zbU b c 9 rfl Tryz.underlying3 f rfl;obtain ⟨i,rfl⟩:=zbU b c 10 rfl Tryz.underlying56 e rfl;exact ⟨⟨k,n,o,p,q,r,s,t,v,y,i⟩,rfl⟩
theorem zrx {cs:List Value} {x:DataW H×List MemPlace} (h:DataW.trod enc Tryz.prog w base (fun _=>true) held fuel 61 cs=some x):∃(o:OrderR) (t:Value),cs=o.cells t∧zad w (fun b=>b<w.heap.size) t o.offers:=by
 obtain ⟨P,m,_,_,n,e,c⟩:=DataW.trod_struct Tryz.underlying61 h;obtain ⟨Q,R,S,T,U,V,X,Y,Z,c9,v,y,z,A,B,C,k,D,rfl⟩:=ztO (n.trans (show Tryz.prog.cellsOf 61=18 by kernel_rfl));obtain ⟨y0,y1,y2,y3,y4,y5,y6,y7,rfl⟩:=zt2 (l:=P) (by simpa using e);have a:Tryz.prog.cellsOf 54=1:=by kernel_rfl
 have f:Tryz.prog.cellsOf 9=1:=by kernel_rfl
 have g:Tryz.prog.cellsOf 3=1:=by kernel_rfl
 have d:Tryz.prog.cellsOf 2=1:=by kernel_rfl
 have j:Tryz.prog.cellsOf 58=11:=by kernel_rfl
 have i:Tryz.prog.cellsOf 59=1:=by kernel_rfl
 obtain ⟨I,rfl⟩:=zbU c e 0 rfl Tryz.underlying54 a rfl;have q:=c 1 _ rfl
 simp[f] at q
 obtain ⟨J,p,_,_⟩:=DataW.trod_string Tryz.underlying9 q;obtain ⟨K,rfl⟩:=zbU c e 2 rfl Tryz.underlying2 d rfl;obtain ⟨L,rfl⟩:=zbU c e 3 rfl Tryz.underlying3 g rfl;obtain ⟨M,rfl⟩:=zbU c e 4 rfl Tryz.underlying3 g rfl;have r:=c 5 _ rfl
 simp[j] at r
 obtain ⟨l,E⟩:=zpE r;have s:=c 6 _ rfl
 simp[i] at s
 obtain ⟨O,G⟩:=zpF Tryz.underlying59 Tryz.underlying191 (by kernel_rfl) (by kernel_rfl) rfl rfl (by kernel_rfl) (by kernel_rfl) (by kernel_rfl) s;obtain ⟨N,rfl⟩:=zbU c e 7 rfl Tryz.underlying2 d rfl
 simp at p
 subst p;refine ⟨⟨I,J,K,L,M,l,O,N⟩,k,?_,zad.mono G fun b F _=>F⟩
 show _=[_,_,_,_,_]++l.cells++[_,_]
 rw[←E]
 rfl
theorem zmI {v:Value} {d:DataW H} {p:List MemPlace} (h:DataW.Trod enc Tryz.prog w base (fun _=>true) held 46 v d p) (U:∃A n c,v=.slice A n c):∃os,ztr w v os:=by
 obtain ⟨G,f,y,rfl⟩:=U;obtain ⟨I,h⟩:=h;have R:Tryz.prog.cellsOf 61=18:=by kernel_rfl
 rcases open_slice Tryz.underlying46 h with ⟨hcs,_⟩|⟨a,len,cap,m,n,D,Pl,hcs,_,hl,hm,hmm,_,hi⟩
 ·obtain ⟨rfl,rfl,rfl⟩:G=none∧f=0∧y=0:=by simpa [Value.cells] using hcs
  exact ⟨[],fun _=>.nilFunc,Sl.none0 _ _ _,fun k o e=>by cases e⟩
 ·obtain ⟨rfl,rfl,rfl⟩:G=some a∧f=len∧y=cap:=by simpa [Value.cells] using hcs
  simp only[if_true] at hmm;have s:=hmm.symm;subst s;have q:∀i,i<f→∃x:OrderR×Value,(∀j u,(x.1.cells x.2)[j]? =some u→w.cell? (a.add (i*18+j))=some u)∧zad w (fun b=>b<w.heap.size) x.2 x.1.offers:=by
   intro i T;obtain ⟨N,K,E⟩:=hi i (by omega);rw[R] at K;obtain ⟨o,V,O,P⟩:=zrx E;obtain ⟨_,S,B⟩:=World.cells?_some K;refine ⟨(o,V),fun j u t=>?_,P⟩;have M:j<18:=by
    have Q:=(gS.1 t).1
    simpa [OrderR.cells] using Q
   have J:=B j M;rw[O,t] at J
   simpa [add_add] using J
  haveI:Inhabited (OrderR×Value):=⟨(⟨0,default,0,0,0,⟨0,0,0,0,0,0,0,0,0,0,0⟩,[],0⟩,.nilFunc)⟩
  obtain ⟨F,r⟩:=choose_lt q;have C:∀k o,((List.range f).map fun i=>(F i).1)[k]? =some o→k<f∧o=(F k).1:=fun k o e=>by
   have g:k<f:=by have:=(gS.1 e).1;simpa using this
   rw[List.getElem?_map,List.getElem?_range g] at e;exact ⟨g,by injection e with e;exact e.symm⟩
  refine ⟨(List.range f).map fun i=>(F i).1,fun k=>(F k).2,⟨?_,some a,y,by simp,by simpa using hl,hm,fun z=>?_⟩,fun k o e=>?_⟩
  ·rw[zga]
  ·obtain ⟨b,l,rfl⟩:=ze6 (w:=w) (a:=a) (v:=.int .i64 (F 0).1.kind) (by simpa using (r 0 (by simpa using z)).1 0 _ rfl);refine ⟨b,l,rfl,?_,?_,fun j u t=>?_⟩
   ·exact World.block_lt_of_cell? w ⟨b,l,none⟩ (u:=.int .i64 (F 0).1.kind) (by simpa [Addr.add] using (r 0 (by simpa using z)).1 0 _ rfl)
   ·exact World.block_lt_of_cell? w ⟨b,l,none⟩ (u:=.int .i64 (F 0).1.kind) (by simpa [Addr.add] using (r 0 (by simpa using z)).1 0 _ rfl)
   ·have M:j<f*18:=by
     have:=(gS.1 t).1;rw[zga] at this
     simpa using this
    have e:j/18<f:=by omega
    have L:=flat_get (n:=18) (xs:=((List.range f).map fun i=>(F i).1).mapIdx fun k o=>o.cells ((fun k=>(F k).2) k)) (k:=j/18) (i:=j % 18) (x:=(F (j/18)).1.cells (F (j/18)).2) (zdM fun _ _=>by simp[OrderR.cells]) (by rw[List.getElem?_mapIdx,List.getElem?_map,List.getElem?_range e];rfl) (by omega);rw[show j/18*18+j % 18=j by omega] at L;have:=(r (j/18) e).1 (j % 18) u (L.symm.trans t);rw[show j/18*18+j % 18=j by omega] at this
    rwa [zgf] at this
  ·obtain ⟨g,rfl⟩:=C k o e;exact (r k g).2
end
end Ho
end Go.Proofs.YtckdpejdnejhfaaGreat

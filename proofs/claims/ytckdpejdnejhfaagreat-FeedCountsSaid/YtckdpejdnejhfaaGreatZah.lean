/- Joined by program. -/
import Derived.Test.YtckdpejdnejhfaaGreatZl
import Derived.ChangeStays
import Derived.ReadAgain
import Derived.ChangeSame
import Derived.OpenShut
import Derived.Lib.SmallJoins
import Derived.Deep.Slices
import Derived.JoinedOf
set_option linter.all false
namespace Go.Proofs.YtckdpejdnejhfaaGreat
namespace Vb
open Go.RowKit Go.WideShapes Go.ChangeShapes Go.ChangeAt Go.Joins Go.Deep
section
variable {H:Type} {enc:TypeId×Value→H} {P:Program} {w w':World} {T:TypeId→Prop}
theorem zpX {p:MemPlace} (a:Below w w w') (c:p.block<w.heap.size):w.sameAt w' p:=by
 cases p with
 |cell b off=>exact a.cell (p:=⟨b,off,none⟩) c
 |map b=>exact a.block b c
theorem zgS (K:Kids P T) (hz:∀t e,T t→P.underlying t=some (.slice e)→0<P.cellsOf e) {base:Nat} {sp':Nat→Bool} (hb:Below w w w'):
  ∀{ts:List TypeId} {vs:List Value} {ds:List (DataW H)} {ps:List MemPlace},(∀t∈ts,T t)→DataW.TrodAll enc P w base (fun _=>true) true ts vs ds ps→(∀p∈ps,p.block<w.heap.size)→(∀p∈ps,sp' p.block=true)→
   DataW.TrodAll enc P w' base sp' true ts vs ds ps
 |[],[],[],_,_,h,_,_=>h
 |_::_,_::_,_::_,_,hT,⟨p,q,⟨fuel,h1⟩,h2,e⟩,hl,hs=>by
  subst e;exact ⟨p,q,⟨fuel,DataW.trod_stays K (fun h1 h2=>hz _ _ h1 h2) (fun h=>by cases h) (hT _ (List.mem_cons.2 (Or.inl rfl))) h1 (fun x hx=>zpX hb (hl x (List.mem_append_left _ hx))) (fun x hx=>hs x (List.mem_append_left _ hx))⟩,
   zgS K hz hb (fun t ht=>hT t (List.mem_cons.2 (Or.inr ht))) h2 (fun x hx=>hl x (List.mem_append_right _ hx)) (fun x hx=>hs x (List.mem_append_right _ hx)),rfl⟩
theorem zrE {f:Func} {s:ChangeSpec} {c n d m:Bool} {W W':World} {args:Array Value} {ds J:List (DataW H)} {a:List MemPlace} {N:TypeId}
  (K:Kids P T) (S:∀t e,T t→P.underlying t=some (.slice e)→0<P.cellsOf e) (Q:∀t∈f.params.toList,T t) (A:s.vars=[]) (h:P.underlying N=some .bool) (z:f.resultTypes=#[N])
  (C:DataW.Whole enc P f.params.toList s.vars c W args.toList ds J a)
  (o:s.fn H (ds++J)={results:=[.lit ↑true],args:=ds}) (E:Below W W W'):s.post enc P f c n d m W args ↑true W':=by
 have r:∀p∈a,p.block<W.heap.size:=fun p j=>C.lt p j;have x:∀p∈a,(fun b=>decide (b<W.heap.size)) p.block=true:=fun p j=>by simpa using r p j
 have D:=C;obtain ⟨p,q,O,L,y,I,F⟩:=D;rw[A] at L;obtain ⟨rfl,rfl⟩:=trodVars_none L;simp only[List.append_nil] at y;subst y;have l:∀(b:Nat) (k:Nat→Bool) (M:Bool),DataW.TrodAll enc P W' b k M f.resultTypes.toList ((Value.bool true).resultList f.resultTypes.size) (s.fn H (ds++[])).results []:=fun b k M=>by
  rw[o,z];exact trodAll_cons_mk (shut_bool h true) trodAll_mk0
 have g:∀k:Nat→Bool,(∀p∈a,k p.block=true)→DataW.TrodAll enc P W' 0 k true f.params.toList args.toList (s.fn H (ds++[])).args a:=fun k G=>by
  rw[o];exact zgS K S E Q O r G
 have i:∀k:Nat→Bool,DataW.TrodVars enc P W' k s.vars (s.fn H (ds++[])).vars []:=fun k=>by
  rw[o,A]
  rfl
 refine ⟨ds,[],a,[],a,[],C,l _ _ _,g _ x,i _,World.keptBut_mono (fun p j=>⟨j,?_⟩) (E.frame (·∈a)),fun _=>?_⟩
 ·simpa using j
 ·refine ⟨ok_one z rfl (okWide_bool_mk h _),_,_,([]++a)++[],⟨[]++a,[],trodAll_append (g _ (fun _ _=>rfl)) (l _ _ _),i _,rfl,?_,?_⟩,?_⟩
  ·intro b B j;have v:MemPlace.cell b B∈a:=by simpa using j
   rw[E.frozen (r _ v)];exact I b B v
  ·intro R
   simpa using F R
  ·intro p j _
   simpa using j
end
section
variable {H:Type} {enc:TypeId×Value→H} {P:Program} {w:World} {base:Nat} {held:Bool}
theorem zoK {n:Int} (h:(Lit.int .i64 n).wf=true):-9223372036854775808≤n∧n≤9223372036854775807:=by
 simpa [Lit.wf,IntKind.min,IntKind.max,IntKind.signed,IntKind.bits] using h
theorem ztw {n:Int} (h:(Lit.int .u32 n).wf=true):0≤n∧n≤4294967295:=by
 simpa [Lit.wf,IntKind.min,IntKind.max,IntKind.signed,IntKind.bits] using h
theorem ze6 {a:Addr} {v:Value} (h:w.cell? (a.add 0)=some v):∃b off,a=⟨b,off,none⟩:=by
 obtain ⟨b,off,d⟩:=a;have c:d=none:=by simpa [Addr.add] using World.cell?_spot h
 exact ⟨b,off,by rw[c]⟩
theorem zgf (b off k:Nat):(⟨b,off,none⟩:Addr).add k=⟨b,off+k,none⟩:=Addr.add_lit b off k
theorem zpF {t e:TypeId} {p q:Field} (ht:P.underlying t=some (.slice e)) (he:P.underlying e=some (.struct #[p,q])) (h0:P.underlying p.type=some (.int .u32)) (h1:P.underlying q.type=some (.int .i64))
  (o0:p.offset=0) (o1:q.offset=1) (s0:P.cellsOf p.type=1) (s1:P.cellsOf q.type=1) (hC:P.cellsOf e=2) {fuel:Nat} {v:Value} {x:DataW H×List MemPlace}
  (h:DataW.trod enc P w base (fun _=>true) held fuel t [v]=some x):∃l,zad w (fun _=>True) v l:=by
 rcases open_slice ht h with ⟨hcs,_⟩|⟨a,len,cap,m,n,D,Pl,hcs,_,hl,hm,hmm,_,hi⟩
 ·obtain rfl:v=.slice none 0 0:=by simpa using hcs
  exact ⟨[],⟨rfl,none,0,rfl,lR,zL,fun h=>absurd h (by simp)⟩,fun o L=>by cases L⟩
 ·obtain rfl:v=.slice (some a) len cap:=by simpa using hcs
  simp only[if_true] at hmm;have z:=hmm.symm;subst z;have k:∀i,i<len→∃o:Off,o.wf∧w.cell? (a.add (i*2))=some (.int .u32 o.g)∧w.cell? (a.add (i*2+1))=some ↑o.c:=by
   intro i hlt;obtain ⟨G,T,M⟩:=hi i (by omega);rw[hC] at T;obtain ⟨f,n',_,_,_,_,U⟩:=DataW.trod_struct he M;obtain ⟨_,J,r⟩:=World.cells?_some T;have B:=U 0 p rfl;have C:=U 1 q rfl;rw[o0,s0] at B;rw[o1,s1] at C
   match G,J with
   |[c0,c1],_=>
    obtain ⟨y0,O⟩:∃y,f[0]? =some y:=by
     cases hx:f[0]? with
     |some y=>exact ⟨y,rfl⟩
     |none=>
      have:f.length=2:=by assumption
      rw[List.getElem?_eq_none_iff] at hx;omega
    obtain ⟨y1,Q⟩:∃y,f[1]? =some y:=by
     cases hx:f[1]? with
     |some y=>exact ⟨y,rfl⟩
     |none=>
      have:f.length=2:=by assumption
      rw[List.getElem?_eq_none_iff] at hx;omega
    rw[O] at B;rw[Q] at C
    simp at B C
    obtain ⟨m0,R,_,w0⟩:=DataW.trod_int h0 B;obtain ⟨m1,S,_,Y⟩:=DataW.trod_int h1 C
    simp at R S
    subst R S;obtain ⟨Z,b1⟩:=ztw w0;obtain ⟨g,rfl⟩:=Int.eq_ofNat_of_zero_le Z;refine ⟨⟨g,m1⟩,⟨by show g<4294967296;omega,(zoK Y).1,(zoK Y).2⟩,?_,?_⟩
    ·have:=r 0 (by omega)
     simpa [add_add] using this
    ·have:=r 1 (by omega)
     simpa [add_add] using this
  haveI:Inhabited Off:=⟨⟨0,0⟩⟩
  obtain ⟨F,E⟩:=choose_lt k;refine ⟨(List.range len).map F,⟨by rw[Off.all_length],some a,cap,by simp,by simpa using hl,hm,fun I=>?_⟩,fun o L=>?_⟩
  ·have d:0<len:=by simpa using I
   obtain ⟨b,A,rfl⟩:=ze6 (w:=w) (a:=a) (by simpa using (E 0 d).2.1);refine ⟨b,A,rfl,trivial,World.block_lt_of_cell? w ⟨b,A,none⟩ (u:=.int .u32 (F 0).g) (by simpa [Addr.add] using (E 0 d).2.1),fun j u N=>?_⟩;have s:(Off.all ((List.range len).map F)).length=len*2:=by rw[Off.all_length];simp
   have hj:j<len*2:=by rw[←s];exact (gS.1 N).1
   have V:((List.range len).map F)[j/2]? =some (F (j/2)):=by
    rw[List.getElem?_map,List.getElem?_range (by omega)]
    rfl
   have X:=E (j/2) (by omega)
   rcases (show j=j/2*2∨j=j/2*2+1 by omega) with h2|h2
   ·have:=Off.all_fst _ _ _ V;rw[←h2,N] at this;injection this with this
    subst this;rw[←zgf,h2,show j/2*2/2=j/2 by omega];exact X.2.1
   ·have:=Off.all_snd _ _ _ V;rw[←h2,N] at this;injection this with this
    subst this;rw[←zgf,h2,show (j/2*2+1)/2=j/2 by omega];exact X.2.2
  ·obtain ⟨i,K,rfl⟩:=List.mem_map.1 L;exact (E i (List.mem_range.1 K)).1
end
end Vb
end Go.Proofs.YtckdpejdnejhfaaGreat

/- Joined by program. -/
import Derived.Test.YtckdpejdnejhfaaGreatZa
import Derived.ChangeMaps5
import Derived.Maps.Own
set_option linter.all false
set_option maxRecDepth 100000
set_option maxHeartbeats 32000000
namespace Go.Proofs.YtckdpejdnejhfaaGreat
open Lib (hid)
namespace Vb
open Go
section
variable {P:Program} {ops:Array Oper} {Q:Exit→Act→World→Prop} {md:Region.Mode} {S:World→Prop} {fins:List Nat}
def zhH (md:Region.Mode) (ops:Array Oper) (D:List Nat) (i:Nat):Bool:=
 D.all fun j=>((ops[j]?).map fun o=>o.after.any fun e=>Region.binds md e&&(decide (e.on=i)||D.contains e.on)).getD false
theorem zlx {D:List Nat} {i j:Nat} {o:Oper} (h:zhH md ops D i=true) (c:D.contains j=true) (f:ops[j]? =some o):∃e∈o.after,Region.binds md e=true∧(e.on=i∨D.contains e.on=true):=by
 unfold zhH at h;have:=List.all_eq_true.1 h j (by simpa using c);rw[f] at this;obtain ⟨k,d,a,b⟩:∃k,∃h:k<o.after.size,Region.binds md o.after[k]=true∧(o.after[k].on=i∨o.after[k].on∈D):=by simpa using this
 exact ⟨_,Array.getElem_mem d,a,by simpa using b⟩
theorem zlg {i:Nat} {z:Oper} {v:Value} (D:List Nat) (R:ops[i]? =some z) (x:∀(j:Nat) (o:Oper) cs b,ops[j]? =some o→o.op≠ .select cs b)
  (O:zhH md ops D i=true) (hQ:∀c a w,Q (.panic c) (a.put z.dst v) w→Q (.panic c) a w):
  ∀(fuel:Nat) (d:Array Bool) (a:Act) (w:World),
   (∀j,D.contains j=true→d.getD j true=false)→
   (∀j,fins.contains j=true→D.contains j=true∨d.getD j false=true)→
   (∀j oj,ops[j]? =some oj→j≠i→d.getD j true=false→(∀e∈oj.after,Region.binds md e=true→e.on≠i)→z.apart ops oj=true)→
   i∈Region.ready md ops d→YieldsIf P ops S z v a→S w→
   zat P md ops Q S fins fuel (d.setIfInBounds i true) (a.put z.dst v) w→zat P md ops Q S fins (fuel+1) d a w:=by
 intro fuel
 induction fuel with
 |zero=>
  intro d a w _ _ _ y M C H;refine ⟨fun h=>(by rw[h] at y;cases y),fun j L=>?_⟩;by_cases hji:j=i
  ·subst hji;exact M.wpOp R C ⟨fun _=>C,H⟩
  ·have:=ready_mono L hji;rw[H.1] at this
   cases this
 |succ fuel ih=>
  intro d a w Y E n y M C H;refine ⟨fun h=>(by rw[h] at y;cases y),fun j L=>?_⟩;by_cases hji:j=i
  ·subst hji;exact M.wpOp R C ⟨fun _=>C,H⟩
  ·have A:=H.2 j (ready_mono L hji);obtain ⟨l,oj,r,s⟩:=mem_ready.1 L;have g:∀k,d.getD k true=false→d.getD k false=true→False:=fun k X A=>by
    rcases Nat.lt_or_ge k d.size with h'|h'
    ·simp[h'] at X A;rw[X] at A;cases A
    ·simp[Array.getElem?_eq_none h'] at A
   have t:∀e∈oj.after,Region.binds md e=true→e.on≠i:=fun e K J m=>g i (mem_ready.1 y).1 (m▸s e K J);have q:D.contains j=false:=by
    cases hc:D.contains j with
    |false=>rfl
    |true=>
     obtain ⟨e,K,J,m|m⟩:=zlx O hc r
     ·exact absurd m (t e K J)
     ·exact (g e.on (Y _ m) (s e K J)).elim
   have U:fins.contains j=false:=by
    cases hc:fins.contains j with
    |false=>rfl
    |true=>
     rcases E j hc with h|h
     ·rw[h] at q;cases q
     ·exact (g j l h).elim
   have h2:=wpOp_putIf r (n j oj r hji l t) (fun cs b=>x i z cs b R) (fun cs b=>x j oj cs b r) hQ M A;have p:∀k G,ops[k]? =some G→k≠i→(d.setIfInBounds j true).getD k true=false→
     (∀e∈G.after,Region.binds md e=true→e.on≠i)→z.apart ops G=true:=fun k G B T g V=>by
    refine n k G B T ?_ V;by_cases f:j=k
    ·subst f;exact l
    ·rw[getD_set_ne true f] at g;exact g
   have N:∀k,D.contains k=true→(d.setIfInBounds j true).getD k true=false:=fun k B=>by
    have f:j≠k:=by rintro rfl;rw[B] at q;cases q
    rw[getD_set_ne true f];exact Y k B
   have F:∀k,fins.contains k=true→D.contains k=true∨(d.setIfInBounds j true).getD k false=true:=fun k B=>by
    rcases E k B with h|h
    ·exact .inl h
    ·by_cases f:j=k
     ·subst f;exact (g j l h).elim
     ·right
      rw[getD_set_ne false f];exact h
   refine wpOp_mono (fun Z w' I=>⟨I.2.1,ih (d.setIfInBounds j true) Z w' N F p (ready_mono y (Ne.symm hji)) I.1 (I.2.1 U) ?_⟩) h2;rw[Array.setIfInBounds_comm _ _ hji];exact I.2.2
def zjv (md:Region.Mode) (ops:Array Oper) (fins D:List Nat) (i:Nat) (listed:Array Bool):Bool:=zhH md ops D i&&fins.all (fun j=>D.contains j||listed.getD j false)&&D.all fun j=>!(listed.getD j true)
theorem zfv {i:Nat} {e:Oper} {v:Value} {fuel:Nat} {b:Array Bool} {a:Act} {w:World} (D:List Nat) (g:ops[i]? =some e)
  (r:Region.noSelect ops=true) (p:Region.free md ops b i=true) (q:(Region.ready md ops b).contains i=true) (d:zjv md ops fins D i b=true)
  (n:∀c a w,Q (.panic c) (a.put e.dst v) w→Q (.panic c) a w) (s:YieldsIf P ops S e v a) (o:S w)
  (h:zat P md ops Q S fins fuel (b.setIfInBounds i true) (a.put e.dst v) w):zat P md ops Q S fins (fuel+1) b a w:=by
 unfold zjv at d;obtain ⟨⟨k,l⟩,m⟩:(_∧_)∧_:=by simpa only[Bool.and_eq_true] using d
 refine zlg D g (Region.noSelect_spec r) k n fuel b a w (fun j f=>?_) (fun j f=>?_) (Region.free_spec g p) (by simpa using q) s o h
 ·have:=List.all_eq_true.1 m j (by simpa using f)
  simpa using this
 ·have:=List.all_eq_true.1 l j (by simpa using f)
  simpa only[Bool.or_eq_true] using this
theorem tpD (D:List Nat) (i:Nat) {e:Oper} {os:List Oper} {v:Value} {fuel:Nat} {d:Array Bool} {a b:Act} {w:World} (f:S w) (h:zat P md ops Q S fins fuel (d.setIfInBounds i true) b w) (g:ops.toList.drop i=e::os:=by rfl)
  (hs:Region.noSelect ops=true:=by kernel_rfl) (hf:Region.free md ops d i=true:=by kernel_rfl) (hr:(Region.ready md ops d).contains i=true:=by kernel_rfl) (hfin:zjv md ops fins D i d=true:=by kernel_rfl)
  (hQ:∀c a w,Q (.panic c) (a.put e.dst v) w→Q (.panic c) a w:=by exact fun _ _ _ h=>h) (hw:Region.wanted e (yielded ops a.tmps)=true:=by rfl)
  (hy:∀w,S w→(execOp a.eval e).run P w=.ok (.value v) w:=by intro _ _;go_simp;try with_reducible rfl)
  (hb:a.put e.dst v=b:=by first|(simp only[Act.put,pb,pz,ps];done)|(simp only[Act.put,pb,pz,ps];rfl)|rfl):zat P md ops Q S fins (fuel+1) d a w:=
 zfv D (drop_at g) hs hf hr hfin hQ (.inl ⟨hw,hy⟩) f (hb▸h)
theorem txD (D:List Nat) (i:Nat) {e:Oper} {os:List Oper} {v:Value} {fuel:Nat} {d:Array Bool} {a b:Act} {w:World} (f:S w) (j:∀w,S w→(execOp a.eval e).run P w=.ok (.value v) w) (h:zat P md ops Q S fins fuel (d.setIfInBounds i true) b w) (g:ops.toList.drop i=e::os:=by rfl)
  (hs:Region.noSelect ops=true:=by kernel_rfl) (hf:Region.free md ops d i=true:=by kernel_rfl) (hr:(Region.ready md ops d).contains i=true:=by kernel_rfl) (hfin:zjv md ops fins D i d=true:=by kernel_rfl)
  (hQ:∀c a w,Q (.panic c) (a.put e.dst v) w→Q (.panic c) a w:=by exact fun _ _ _ h=>h) (hw:Region.wanted e (yielded ops a.tmps)=true:=by rfl)
  (hb:a.put e.dst v=b:=by first|(simp only[Act.put,pb,pz,ps];done)|(simp only[Act.put,pb,pz,ps];rfl)|rfl):zat P md ops Q S fins (fuel+1) d a w:=
 zfv D (drop_at g) hs hf hr hfin hQ (.inl ⟨hw,j⟩) f (hb▸h)
theorem tlD {A:World→Prop} (D:List Nat) (i:Nat) {e:Oper} {os:List Oper} {v:Value} {fuel:Nat} {d:Array Bool} {a b:Act} {w:World} (f:S w) (g:RowKit.Hid (∀w,S w→A w)) (h:zat P md ops Q S fins fuel (d.setIfInBounds i true) b w) (j:ops.toList.drop i=e::os:=by rfl)
  (hs:Region.noSelect ops=true:=by kernel_rfl) (hf:Region.free md ops d i=true:=by kernel_rfl) (hr:(Region.ready md ops d).contains i=true:=by kernel_rfl) (hfin:zjv md ops fins D i d=true:=by kernel_rfl)
  (hQ:∀c a w,Q (.panic c) (a.put e.dst v) w→Q (.panic c) a w:=by exact fun _ _ _ h=>h) (hw:Region.wanted e (yielded ops a.tmps)=true:=by rfl)
  (hy:∀w,A w→(execOp a.eval e).run P w=.ok (.value v) w:=by intro _ _;go_simp;try with_reducible rfl)
  (hb:a.put e.dst v=b:=by first|(simp only[Act.put,pb,pz,ps];done)|(simp only[Act.put,pb,pz,ps];rfl)|rfl):zat P md ops Q S fins (fuel+1) d a w:=
 zfv D (drop_at j) hs hf hr hfin hQ (.inl ⟨hw,fun w f=>hy w (g.out w f)⟩) f (hb▸h)
theorem zlh {i:Nat} {r:Oper} {v:Value} (E:ops[i]? =some r) (n:∀(j:Nat) (o:Oper) cs b,ops[j]? =some o→o.op≠ .select cs b)
  (x:fins.contains i=true) (L:∀c a w,Q (.panic c) (a.put r.dst v) w→Q (.panic c) a w):
  ∀(fuel:Nat) (d:Array Bool) (a:Act) (w:World),
   (∀j oj,ops[j]? =some oj→j≠i→d.getD j true=false→(∀e∈oj.after,Region.binds md e=true→e.on≠i)→r.apart ops oj=true)→
   i∈Region.ready md ops d→YieldsIf P ops (fun _=>True) r v a→
   zat P md ops Q S fins fuel (d.setIfInBounds i true) (a.put r.dst v) w→zat P md ops Q S fins (fuel+1) d a w:=by
 intro fuel
 induction fuel with
 |zero=>
  intro d a w _ q B H;refine ⟨fun h=>(by rw[h] at q;cases q),fun j A=>?_⟩;by_cases hji:j=i
  ·subst hji;exact B.wpOp E trivial ⟨fun h=>(by rw[x] at h;cases h),H⟩
  ·have:=ready_mono A hji;rw[H.1] at this
   cases this
 |succ fuel ih=>
  intro d a w f q B H;refine ⟨fun h=>(by rw[h] at q;cases q),fun j A=>?_⟩;by_cases hji:j=i
  ·subst hji;exact B.wpOp E trivial ⟨fun h=>(by rw[x] at h;cases h),H⟩
  ·have s:=H.2 j (ready_mono A hji);obtain ⟨m,oj,p,t⟩:=mem_ready.1 A;have l:∀k,d.getD k true=false→d.getD k false=true→False:=fun k I s=>by
    rcases Nat.lt_or_ge k d.size with h'|h'
    ·simp[h'] at I s;rw[I] at s;cases s
    ·simp[Array.getElem?_eq_none h'] at s
   have y:∀e∈oj.after,Region.binds md e=true→e.on≠i:=fun e N M D=>l i (mem_ready.1 q).1 (D▸t e N M);have K:=wpOp_putIf p (f j oj p hji m y) (fun cs b=>n i r cs b E) (fun cs b=>n j oj cs b p) L B s;have g:∀k z,ops[k]? =some z→k≠i→(d.setIfInBounds j true).getD k true=false→
     (∀e∈z.after,Region.binds md e=true→e.on≠i)→r.apart ops z=true:=fun k z O F l G=>by
    refine f k z O F ?_ G;by_cases hjk:j=k
    ·subst hjk;exact m
    ·rw[getD_set_ne true hjk] at l;exact l
   refine wpOp_mono (fun J R C=>⟨C.2.1,ih (d.setIfInBounds j true) J R g (ready_mono q (Ne.symm hji)) C.1 ?_⟩) K;rw[Array.setIfInBounds_comm _ _ hji];exact C.2.2
theorem zmt {i:Nat} {oi:Oper} {v:Value} {fuel:Nat} {listed:Array Bool} {a:Act} {w:World} (hi:ops[i]? =some oi)
  (hs:Region.noSelect ops=true) (hf:Region.free md ops listed i=true) (hr:(Region.ready md ops listed).contains i=true) (hif:fins.contains i=true)
  (hQ:∀c a w,Q (.panic c) (a.put oi.dst v) w→Q (.panic c) a w) (hy:YieldsIf P ops (fun _=>True) oi v a)
  (h:zat P md ops Q S fins fuel (listed.setIfInBounds i true) (a.put oi.dst v) w):zat P md ops Q S fins (fuel+1) listed a w:=
 zlh hi (Region.noSelect_spec hs) hif hQ fuel listed a w (Region.free_spec hi hf) (by simpa using hr) hy h
theorem tpW (i:Nat) {e:Oper} {os:List Oper} {v:Value} {fuel:Nat} {d:Array Bool} {a b:Act} {w:World} (h:zat P md ops Q S fins fuel (d.setIfInBounds i true) b w) (f:ops.toList.drop i=e::os:=by rfl)
  (hs:Region.noSelect ops=true:=by kernel_rfl) (hf:Region.free md ops d i=true:=by kernel_rfl) (hr:(Region.ready md ops d).contains i=true:=by kernel_rfl) (hfin:fins.contains i=true:=by kernel_rfl)
  (hQ:∀c a w,Q (.panic c) (a.put e.dst v) w→Q (.panic c) a w:=by exact fun _ _ _ h=>h) (hw:Region.wanted e (yielded ops a.tmps)=true:=by rfl)
  (hy:∀w,True→(execOp a.eval e).run P w=.ok (.value v) w:=by intro _ _;go_simp;try with_reducible rfl)
  (hb:a.put e.dst v=b:=by first|(simp only[Act.put,pb,pz,ps];done)|(simp only[Act.put,pb,pz,ps];rfl)|rfl):zat P md ops Q S fins (fuel+1) d a w:=
 zmt (drop_at f) hs hf hr hfin hQ (.inl ⟨hw,hy⟩) (hb▸h)
end
end Vb
namespace Ho
open Go.RowKit Vb Ac
theorem Sl.lit1 {w:World} {g sz:Nat} {t:TypeId} {cs:Array Value} (h:Blk w g t cs) (h3:cs.size=sz):Sl w (fun _=>True) (.slice (some ⟨g,0,none⟩) 1 1) 1 sz cs.toList:=
 ⟨by simpa using h3,some ⟨g,0,none⟩,1,rfl,lR,by unfold maxLen;omega,fun _=>⟨g,0,rfl,trivial,h.lt,fun j u hj=>by
  rw[show 0+j=j from by omega];exact (h.cell j).trans (by simpa using hj)⟩⟩
section
variable {P:Program} (w:World) {o:Oper} {a:Act} {Q:Exit→Act→World→Prop} (s x:Operand) {t e:TypeId} {sz bytes:Nat}
theorem zbR {ops:Array Oper} {K:Act→World→Prop} {l:Prop} (i:o.guard=none) (E:zbg P t e sz bytes)
  (z:o.op=.call {callee:=.builtin .append,args:=#[s,x],argTypes:=#[t,t]})
  {R k:Nat→Prop} (v:Value) (n:Nat) (xs:List Value) (B:a.eval s=v) (f:RowAt w R e sz v n xs)
  (j:Value) (m:Nat) (c:List Value) (D:a.eval x=j) (A:Sl w k j m sz c) (p:∀u∈c,u.oneCell'=true)
  (d:(n+m)*bytes≤140737488355328) (g:n+m≤maxLen)
  (h:∀A' cap' w',RowAt w' (fun b=>R b∨b=w.heap.size) e sz (.slice A' (n+m) cap') (n+m) (xs++c)→Chg (fun b=>v.ownBlock=some b) w w'→K (a.put o.dst (.slice A' (n+m) cap')) w'):
  if Region.wanted o (yielded ops a.tmps)=true then Oper.wp P o a w K Q else l:=by
 have C:Region.wanted o (yielded ops a.tmps)=true:=by simp[Region.wanted,i]
 rw[if_pos C];exact zmu w s x E z 0 v n xs B f.own k j m c D A p d g (zL) fun A' cap' w' q r y=>h A' cap' w' (f.app q y) ((Chg.grown r).mono fun b _ e=>e.symm)
theorem zby {ops:Array Oper} {rest:List Oper} (hgd:o.guard=none) (E:zbg P t e sz bytes)
  (ho:o.op=.call {callee:=.builtin .append,args:=#[s,x],argTypes:=#[t,t]})
  {R R2:Nat→Prop} (v:Value) (n:Nat) (xs:List Value) (hs:a.eval s=v) (hrow:RowAt w R e sz v n xs)
  (v2:Value) (m:Nat) (news:List Value) (hx:a.eval x=v2) (hr:Sl w R2 v2 m sz news) (h1:∀u∈news,u.oneCell'=true)
  (hbytes:(n+m)*bytes≤140737488355328) (h63:n+m≤maxLen)
  (h:∀A' cap' w',RowAt w' (fun b=>R b∨b=w.heap.size) e sz (.slice A' (n+m) cap') (n+m) (xs++news)→Chg (fun b=>v.ownBlock=some b) w w'→wpList P ops Q rest (a.put o.dst (.slice A' (n+m) cap')) w'):wpList P ops Q (o::rest) a w:=
 zbj w hgd s x E ho 0 v n xs hs hrow.own R2 v2 m news hx hr h1 hbytes h63 (zL) fun A' cap' w' h2 h3 h4=>h A' cap' w' (hrow.app h2 h4) ((Chg.grown h3).mono fun b _ e=>e.symm)
end
end Ho
namespace Ho
open Go.RowKit Vb Ac
open Go.ChangeMaps (setBlock)
open Go.MapKept (IsKey)
def zbh {κ:Type} (d:TypeDesc) (enc:κ→Value) (W:World) (m:Nat) (F:κ→Option Int):Prop:=
 ∃es clock,W.heap[m]? =some (.map es clock)∧(∀x∈es.toList,∃k i,x.key=enc k∧x.val=.int .i64 i∧F k=some i)∧(es.toList.map (·.key)).Nodup∧∀k i,F k=some i→∃x∈es.toList,x.key=enc k
section
variable {κ:Type} {P:Program} {d:TypeDesc} {enc:κ→Value} {W W':World} {m:Nat} {F:κ→Option Int} {mty kt et:TypeId} {X:Nat→Prop}
theorem zbh.lt (h:zbh d enc W m F):m<W.heap.size:=by
 obtain ⟨c,a,b,_⟩:=h;exact (Array.getElem?_eq_some_iff.1 b).1
theorem zbh.same (h:zbh d enc W m F) (f:W'.heap[m]? =W.heap[m]?):zbh d enc W' m F:=by
 obtain ⟨b,a,c,e⟩:=h;exact ⟨b,a,f.trans c,e⟩
theorem zbh.chg (h:zbh d enc W m F) (hc:Chg X W W') (hm:¬X m):zbh d enc W' m F:=h.same (hc.block m h.lt hm)
theorem zbh.grow (h:zbh d enc W m F) (hb:Below W W W'):zbh d enc W' m F:=h.same (hb.block m h.lt)
theorem zbh.not_cells (h:zbh d enc W m F) {g:Nat} {t:TypeId} {cs:Array Value} (c:Blk W g t cs):g≠m:=by
 obtain ⟨e,a,b,_⟩:=h;rintro rfl;rw[show W.heap[g]? =_ from c] at b
 cases b
theorem zbh.not_row (h:zbh d enc W m F) {R:Nat→Prop} {e:TypeId} {sz n:Nat} {v:Value} {xs:List Value} (i:RowAt W R e sz v n xs) {b:Nat} (a:v.ownBlock=some b):b≠m:=by
 obtain ⟨j,c,f,_⟩:=h;rintro rfl
 rcases i.own.2 with ⟨h,_⟩|⟨g,cap,cur,hv,_,hg,_⟩
 ·rw[h] at a;cases a
 ·rw[hv] at a;cases a;rw[hg] at f;cases f
theorem zbh.made (W:World):zbh d enc (W.alloc (.map #[] 0)) W.heap.size (fun _=>none):=
 ⟨#[],0,heap_alloc_new W _,by simp,by simp,by simp⟩
theorem zbh.find (h:zbh d enc W m F) (q:∀k,IsKey d (enc k)) (A:∀a b,enc a=enc b→a=b) {g:Array MapEntry} {c:Nat} (p:W.heap[m]? =some (.map g c)) (k:κ):
  ∃j,Instr.findNow d (enc k) g.toList 0=some ((F k).map fun i=>(j,.int .i64 i))∧∀i,F k=some i→∃e,g.toList[j]? =some e∧e.key=enc k:=by
 obtain ⟨v,f,l,o,B,z⟩:=h;rw[l] at p;cases p
 rcases MapKept.findNow_spec (q k) g.toList 0 (fun x n=>by obtain ⟨r,i,e,_⟩:=o x n;rw[e];exact q r) with ⟨hn,ha⟩|⟨j,e,hf,hj,hk⟩
 ·cases hF:F k with
  |none=>exact ⟨0,hn,fun i h=>by cases h⟩
  |some i=>obtain ⟨x,n,e⟩:=z k i hF;exact absurd e (ha x n)
 ·obtain ⟨r,i,t,y,s⟩:=o e (mG hj);have:=A _ _ (hk.symm.trans t);subst this;refine ⟨j,?_,fun C h=>⟨e,hj,hk⟩⟩;rw[hf,s,y];simp
theorem zbh.look (h:zbh d enc W m F) (g:∀k,IsKey d (enc k)) (l:∀a b,enc a=enc b→a=b) (n:P.underlying mty=some (.map kt et)) (i:P.underlying kt=some d) (o:(zeroValue et).run P W=.ok ↑() W) (k:κ):
  (Instr.lookup mty (.map (some m)) (enc k) true).run P W=.ok (.tuple #[((F k).getD 0:Int),.bool (F k).isSome]) W∧
  (Instr.lookup mty (.map (some m)) (enc k) false).run P W=.ok ↑((F k).getD 0:Int) W:=by
 obtain ⟨p,c,f,_⟩:=id h;obtain ⟨j,e,_⟩:=h.find g l f k
 cases hF:F k<;>rw[hF] at e<;>simp only[Option.map] at e<;>constructor<;>
  simp[Instr.lookup,run_underlying n,MapKept.run_getObj_map f,MapKept.run_checkKey i (g k),MapKept.run_findKey i e,Result.andThen,o]
theorem zdo {es:Array MapEntry} {clock:Nat} (hb:W.heap[m]? =some (.map es clock)) (o:Obj):Chg (·=m) W (setBlock W m o):=⟨rfl,rfl,rfl,by simp[setBlock],fun i _ hi=>ChangeMaps.heap_setBlock_other hb o hi⟩
theorem zbh.put [DecidableEq κ] (h:zbh d enc W m F) (G:∀k,IsKey d (enc k)) (S:∀a b,enc a=enc b→a=b) (T:P.underlying mty=some (.map kt et)) (H:P.underlying kt=some d) (k:κ) (i:Int):
  ∃W',(Instr.mapUpdate mty (.map (some m)) (enc k) ↑i).run P W=.ok () W'∧zbh d enc W' m (fun x=>if x=k then some i else F x)∧Chg (·=m) W W':=by
 obtain ⟨o,f,r,I,J,R⟩:=id h;obtain ⟨j,B,V⟩:=h.find G S r k
 cases hF:F k with
 |none=>
  rw[hF] at B;simp only[Option.map] at B;refine ⟨setBlock W m (.map (o.push ⟨enc k,.int .i64 i,f⟩) (f+1)),by simp[Instr.mapUpdate,run_underlying T,MapKept.run_getObj_map r,MapKept.run_checkKey H (G k),MapKept.run_findKey H B,MapKept.run_setObj_map _ r,Result.andThen,setBlock],?_,zdo r _⟩;refine ⟨_,_,ChangeMaps.heap_setBlock_same r _,?_,?_,?_⟩
  ·intro x g;simp only[Array.toList_push,List.mem_append,List.mem_singleton] at g
   rcases g with g|rfl
   ·obtain ⟨c,p,n,C,t⟩:=I x g;refine ⟨c,p,n,C,?_⟩
    show (if c=k then some i else F c)=some p
    rw[if_neg (by rintro rfl;rw[hF] at t;cases t)];exact t
   ·exact ⟨k,i,rfl,rfl,by simp⟩
  ·rw[Array.toList_push,List.map_append,List.nodup_append];refine ⟨J,by simp,fun a U b K=>?_⟩;obtain ⟨x,g,rfl⟩:=List.mem_map.1 U;obtain ⟨c,p,n,_,t⟩:=I x g;have L:b=enc k:=by simpa using K
   rw[n,L];intro e;have:=S _ _ e;subst this;rw[hF] at t;cases t
  ·intro c p A;by_cases e:c=k
   ·subst e;exact ⟨⟨enc c,.int .i64 i,f⟩,by simp,rfl⟩
   ·obtain ⟨x,g,n⟩:=R c p (by simpa [e] using A);exact ⟨x,by simp[g],n⟩
 |some i0=>
  rw[hF] at B;simp only[Option.map] at B;obtain ⟨e,M,s⟩:=V i0 hF;have z:o[j]? =some e:=by simpa using M
  have N:=MapKept.run_keyThatStays (P:=P) (w:=W) (G k);refine ⟨setBlock W m (.map (o.modify j fun e=>{e with key:=enc k,val:=.int .i64 i}) f),by simp[Instr.mapUpdate,run_underlying T,MapKept.run_getObj_map r,MapKept.run_checkKey H (G k),MapKept.run_findKey H B,z,s,N,MapKept.run_setObj_map _ r,Result.andThen,setBlock],?_,zdo r _⟩;have l:(o.modify j fun e=>{e with key:=enc k,val:=.int .i64 i}).toList.map (·.key)=o.toList.map (·.key):=by
   apply List.ext_getElem?
   intro q;simp only[List.getElem?_map,Array.getElem?_toList,Array.getElem?_modify];by_cases eq:j=q
   ·subst eq;simp[z,s]
   ·simp[eq]
  refine ⟨_,_,ChangeMaps.heap_setBlock_same r _,?_,by rw[l];exact J,?_⟩
  ·intro x g;obtain ⟨q,v⟩:=List.mem_iff_getElem?.1 g;simp only[Array.getElem?_toList,Array.getElem?_modify] at v;by_cases eq:j=q
   ·subst eq;rw[if_pos rfl,z] at v;simp only[Option.map_some,Option.some.injEq] at v;subst v;exact ⟨k,i,rfl,rfl,by simp⟩
   ·rw[if_neg eq] at v;obtain ⟨c,p,n,C,t⟩:=I x (by rw[←Array.getElem?_toList] at v;exact mG v);refine ⟨c,p,n,C,?_⟩
    show (if c=k then some i else F c)=some p
    by_cases ek:c=k
    ·subst ek
     exfalso
     have Q:o.toList[q]? =some x:=by simpa using v
     have O:(o.toList.map (·.key))[q]? =some (enc c):=by rw[List.getElem?_map,Q,←n];rfl
     have D:(o.toList.map (·.key))[j]? =some (enc c):=by rw[List.getElem?_map,M,←s];rfl
     have X:=(gS.1 D).1;exact eq ((List.getElem?_inj X J).1 (D.trans O.symm))
    ·rw[if_neg ek];exact t
  ·intro c p A;have:∃x∈o.toList,x.key=enc c:=by
    by_cases e:c=k
    ·subst e;exact ⟨_,mG M,s⟩
    ·exact R c p (by simpa [e] using A)
   obtain ⟨x,g,n⟩:=this;have E:enc c∈(o.modify j fun e=>{e with key:=enc k,val:=.int .i64 i}).toList.map (·.key):=by rw[l];exact List.mem_map.2 ⟨x,g,n⟩
   obtain ⟨y,Y,C⟩:=List.mem_map.1 E;exact ⟨y,Y,C⟩
theorem zbh.del [DecidableEq κ] (h:zbh d enc W m F) (C:∀k,IsKey d (enc k)) (K:∀a b,enc a=enc b→a=b) (L:P.underlying mty=some (.map kt et)) (A:P.underlying kt=some d) (k:κ) (Q:TypeId) (O:TypeId):
  ∃W',(Builtin.delete_ #[mty,O] Q #[.map (some m),enc k]).run P W=.ok (.tuple #[]) W'∧zbh d enc W' m (fun x=>if x=k then none else F x)∧Chg (·=m) W W':=by
 obtain ⟨c,g,n,H,I,J⟩:=id h;obtain ⟨j,s,N⟩:=h.find C K n k
 cases hF:F k with
 |none=>
  rw[hF] at s;simp only[Option.map] at s;refine ⟨setBlock W m (.map c g),by simp[Builtin.delete_,run_underlying L,MapKept.run_getObj_map n,MapKept.run_checkKey A (C k),MapKept.run_findKey A s,MapKept.run_setObj_map _ n,Result.andThen,setBlock],?_,zdo n _⟩;refine ⟨_,_,ChangeMaps.heap_setBlock_same n _,?_,I,?_⟩
  ·intro x p;obtain ⟨f,o,q,B,t⟩:=H x p;refine ⟨f,o,q,B,?_⟩
   show (if f=k then none else F f)=some o
   rw[if_neg (by rintro rfl;rw[hF] at t;cases t)];exact t
  ·intro f o i;by_cases e:f=k
   ·simp[e] at i
   ·exact J f o (by simpa [e] using i)
 |some i0=>
  rw[hF] at s;simp only[Option.map] at s;obtain ⟨e,D,y⟩:=N i0 hF;refine ⟨setBlock W m (.map (c.eraseIdxIfInBounds j) g),by simp[Builtin.delete_,run_underlying L,MapKept.run_getObj_map n,MapKept.run_checkKey A (C k),MapKept.run_findKey A s,MapKept.run_setObj_map _ n,Result.andThen,setBlock],?_,zdo n _⟩;have v:j<c.toList.length:=(gS.1 D).1;have E:(c.eraseIdxIfInBounds j).toList=c.toList.eraseIdx j:=by
   unfold Array.eraseIdxIfInBounds;rw[dif_pos (by simpa using v)];simp
  have r:c.toList.Perm (e::c.toList.eraseIdx j):=by
   have G:=List.perm_middle (a:=c.toList[j]) (l₁:=c.toList.take j) (l₂:=c.toList.drop (j+1));rw[←List.eraseIdx_eq_take_drop_succ,show c.toList[j]=e from (gS.1 D).2] at G;have M:c.toList.take j++e::c.toList.drop (j+1)=c.toList:=by
    rw[←show c.toList[j]=e from (gS.1 D).2,←List.drop_eq_getElem_cons v,List.take_append_drop]
   rwa [M] at G
  have z:(e.key::(c.toList.eraseIdx j).map (·.key)).Nodup:=by simpa using (r.map (·.key)).nodup I
  refine ⟨_,_,ChangeMaps.heap_setBlock_same n _,?_,?_,?_⟩
  ·rw[E];intro x p;obtain ⟨f,o,q,B,t⟩:=H x (r.symm.subset (.tail _ p));refine ⟨f,o,q,B,?_⟩
   show (if f=k then none else F f)=some o
   rw[if_neg ?_]
   ·exact t
   ·rintro rfl;exact (List.nodup_cons.1 z).1 (by rw[y,←q];exact List.mem_map.2 ⟨x,p,rfl⟩)
  ·rw[E];exact (List.nodup_cons.1 z).2
  ·intro f o i;by_cases e':f=k
   ·simp[e'] at i
   ·obtain ⟨x,p,q⟩:=J f o (by simpa [e'] using i);rw[E]
    rcases List.mem_cons.1 (r.subset p) with rfl|p
    ·exact absurd (K _ _ (q.symm.trans y)) e'
    ·exact ⟨x,p,q⟩
end
section
variable {κ:Type}
def zbF (ns:List κ) (F:κ→Option Int):Prop:=∀k i,F k=some i↔∃j:Nat,i=j∧ns[j]? =some k
def upd [DecidableEq κ] (F:κ→Option Int) (k:κ) (v:Option Int):κ→Option Int:=fun x=>if x=k then v else F x
theorem zbF.nil:zbF ([]:List κ) (fun _=>none):=fun k i=>by simp
theorem zbF.no {ns:List κ} {F:κ→Option Int} (h:zbF ns F) (x:κ):F x=none↔x∉ns:=by
 constructor
 ·intro c b;obtain ⟨j,a⟩:=List.mem_iff_getElem?.1 b;have:=(h x j).2 ⟨j,rfl,a⟩;rw[c] at this;cases this
 ·intro b
  cases hF:F x with
  |none=>rfl
  |some i=>
   obtain ⟨j,_,a⟩:=(h x i).1 hF;exact absurd (mG a) b
theorem zbF.at_ {ns:List κ} {F:κ→Option Int} (h:zbF ns F) {j:Nat} {x:κ} (hj:ns[j]? =some x):F x=some (j:Int):=(h x j).2 ⟨j,rfl,hj⟩
theorem zbF.inj {ns:List κ} {F:κ→Option Int} (h:zbF ns F) {i j:Nat} {x:κ} (a:ns[i]? =some x) (b:ns[j]? =some x):i=j:=by
 have:=Option.some.inj ((h.at_ a).symm.trans (h.at_ b))
 omega
theorem zbF.snoc [DecidableEq κ] {ns:List κ} {F:κ→Option Int} (h:zbF ns F) {x:κ} (c:F x=none):zbF (ns++[x]) (upd F x (some ns.length)):=by
 intro k i;unfold upd;by_cases e:k=x
 ·subst e;rw[if_pos rfl]
  constructor
  ·intro b;exact ⟨ns.length,by simpa using b.symm,by simp⟩
  ·rintro ⟨j,rfl,a⟩;by_cases hl:j<ns.length
   ·rw[List.getElem?_append_left hl] at a;exact absurd (mG a) ((h.no k).1 c)
   ·have:=(gS.1 a).1
    simp at this
    simp;omega
 ·rw[if_neg e,h k i]
  constructor
  ·rintro ⟨j,rfl,a⟩;exact ⟨j,rfl,by rw[List.getElem?_append_left (gS.1 a).1];exact a⟩
  ·rintro ⟨j,rfl,a⟩;by_cases hl:j<ns.length
   ·exact ⟨j,rfl,by rwa [List.getElem?_append_left hl] at a⟩
   ·rw[List.getElem?_append_right (by omega)] at a
    rcases Nat.eq_zero_or_pos (j-ns.length) with h0|h0
    ·rw[h0] at a;simp at a;exact absurd a.symm e
    ·rw[List.getElem?_eq_none (by simp;omega)] at a;cases a
theorem zbF.pop [DecidableEq κ] {ns:List κ} {F:κ→Option Int} {x:κ} (h:zbF (ns++[x]) F):zbF ns (upd F x none):=by
 intro k i;unfold upd;have a:(ns++[x])[ns.length]? =some x:=by simp
 by_cases e:k=x
 ·subst e;rw[if_pos rfl]
  constructor
  ·intro d;cases d
  ·rintro ⟨j,rfl,b⟩;have c:=(gS.1 b).1;have:=h.inj (i:=j) (j:=ns.length) (by rw[List.getElem?_append_left c];exact b) a
   omega
 ·rw[if_neg e,h k i]
  constructor
  ·rintro ⟨j,rfl,b⟩;have c:=(gS.1 b).1
   simp at c
   by_cases hl2:j<ns.length
   ·exact ⟨j,rfl,by rwa [List.getElem?_append_left hl2] at b⟩
   ·have:j=ns.length:=by omega
    subst this;rw[a] at b;cases b;exact absurd rfl e
  ·rintro ⟨j,rfl,b⟩;exact ⟨j,rfl,by rw[List.getElem?_append_left (gS.1 b).1];exact b⟩
theorem zbF.swap [DecidableEq κ] {ns ms:List κ} {F:κ→Option Int} (h:zbF ns F) {i j:Nat} {a b:κ} (f:ns[i]? =some a) (e:ns[j]? =some b)
  (d:∀k,ms[k]? =if k=j then some a else if k=i then some b else ns[k]?):zbF ms (upd (upd F b (some (i:Int))) a (some (j:Int))):=by
 intro k q;unfold upd;by_cases ea:k=a
 ·subst ea;rw[if_pos rfl]
  constructor
  ·intro m;exact ⟨j,by simpa using m.symm,by rw[d,if_pos rfl]⟩
  ·rintro ⟨l,rfl,c⟩;rw[d] at c;by_cases e1:l=j
   ·subst e1;rfl
   ·rw[if_neg e1] at c;by_cases e2:l=i
    ·subst e2;rw[if_pos rfl] at c;have:l=j:=h.inj f (by rw[e];exact c);exact absurd this e1
    ·rw[if_neg e2] at c;exact absurd (h.inj c f) e2
 ·rw[if_neg ea];by_cases eb:k=b
  ·subst eb;rw[if_pos rfl];have g:i≠j:=by rintro rfl;rw[f] at e;cases e;exact ea rfl
   constructor
   ·intro m;exact ⟨i,by simpa using m.symm,by rw[d,if_neg g,if_pos rfl]⟩
   ·rintro ⟨l,rfl,c⟩;rw[d] at c;by_cases e1:l=j
    ·rw[if_pos e1] at c;cases c;exact absurd rfl ea
    ·rw[if_neg e1] at c;by_cases e2:l=i
     ·subst e2;rfl
     ·rw[if_neg e2] at c;exact absurd (h.inj c e) e1
  ·rw[if_neg eb,h k q]
   constructor
   ·rintro ⟨l,rfl,c⟩;refine ⟨l,rfl,?_⟩;rw[d,if_neg,if_neg]
    ·exact c
    ·rintro rfl;rw[f] at c;cases c;exact ea rfl
    ·rintro rfl;rw[e] at c;cases c;exact eb rfl
   ·rintro ⟨l,rfl,c⟩;refine ⟨l,rfl,?_⟩;rw[d] at c;by_cases e1:l=j
    ·rw[if_pos e1] at c;cases c;exact absurd rfl ea
    ·rw[if_neg e1] at c;by_cases e2:l=i
     ·rw[if_pos e2] at c;cases c;exact absurd rfl eb
     ·rwa [if_neg e2] at c
end
end Ho
namespace Ho
section heap
variable {α:Type} {le:α→α→Prop} {f:Nat→α} {n:Nat}
def swF (f:Nat→α) (i j:Nat):Nat→α:=fun k=>if k=j then f i else if k=i then f j else f k
def zao (le:α→α→Prop) (f:Nat→α) (n:Nat):Prop:=∀k,0<k→k<n→le (f ((k-1)/2)) (f k)
def UpF (le:α→α→Prop) (f:Nat→α) (n j:Nat):Prop:=
 (∀k,0<k→k<n→k≠j→le (f ((k-1)/2)) (f k))∧∀k,0<k→k<n→(k-1)/2=j→0<j→le (f ((j-1)/2)) (f k)
def DnF (le:α→α→Prop) (f:Nat→α) (n i:Nat):Prop:=
 (∀k,0<k→k<n→k≠i→(k-1)/2≠i→le (f ((k-1)/2)) (f k))∧∀k,0<k→k<n→(k-1)/2=i→0<i→le (f ((i-1)/2)) (f k)
theorem zgK (i j:Nat):swF f i j j=f i:=if_pos rfl
theorem zhY {i j:Nat} (h:i≠j):swF f i j i=f j:=by simp[swF,h]
theorem zdR {i j k:Nat} (h:k≠j) (a:k≠i):swF f i j k=f k:=by simp[swF,h,a]
theorem UpF.top (h:UpF le f n 0):zao le f n:=fun k h0 hk=>h.1 k h0 hk (by omega)
theorem UpF.stop {j:Nat} (h:UpF le f n j) (hj:le (f ((j-1)/2)) (f j)):zao le f n:=fun k h0 hk=>by
 by_cases e:k=j
 ·exact e▸hj
 ·exact h.1 k h0 hk e
theorem UpF.step (s:∀a b c,le a b→le b c→le a c) {j:Nat} (h:UpF le f n j) (t:0<j) (x:j<n) (r:le (f j) (f ((j-1)/2))):
  UpF le (swF f ((j-1)/2) j) n ((j-1)/2):=by
 obtain ⟨i,p⟩:=nm ((j-1)/2);rw[←p] at r ⊢;have d:i≠j:=by omega
 refine ⟨fun k g l q=>?_,fun k g l v o=>?_⟩
 ·by_cases e:k=j
  ·rw[e,←p,zhY d,zgK];exact r
  ·rw[zdR (k:=k) e q];by_cases e2:(k-1)/2=j
   ·rw[e2,zgK];have:=h.2 k g l e2 t
    rwa [←p] at this
   ·by_cases e3:(k-1)/2=i
    ·rw[e3,zhY d];have:=h.1 k g l e;rw[e3] at this;exact s _ _ _ r this
    ·rw[zdR e2 e3];exact h.1 k g l e
 ·have m:le (f ((i-1)/2)) (f i):=h.1 i o (by omega) d;rw[zdR (k:=(i-1)/2) (by omega) (by omega)];by_cases e:k=j
  ·rw[e,zgK];exact m
  ·rw[zdR (k:=k) e (by omega)];have:=h.1 k g l e;rw[v] at this;exact s _ _ _ m this
theorem DnF.step {i j:Nat} (h:DnF le f n i) (l:(j-1)/2=i) (m:0<j) (p:j<n) (o:le (f j) (f i)) (q:∀k,0<k→k<n→(k-1)/2=i→le (f j) (f k)):
  DnF le (swF f i j) n j∧le (swF f i j ((j-1)/2)) (swF f i j j):=by
 have a:i≠j:=by omega
 refine ⟨⟨fun k c d g b=>?_,fun k c d b _=>?_⟩,?_⟩
 ·by_cases e:k=i
  ·rw[zdR (k:=(k-1)/2) (by omega) (by omega),e,zhY a];exact h.2 j m p l (by omega)
  ·rw[zdR (k:=k) g e];by_cases e3:(k-1)/2=i
   ·rw[e3,zhY a];exact q k c d e3
   ·rw[zdR b e3];exact h.1 k c d e e3
 ·rw[l,zhY a,zdR (k:=k) (by omega) (by omega)];have:=h.1 k c d (by omega) (by omega)
  rwa [b] at this
 ·rw[l,zhY a,zgK];exact o
theorem DnF.stop {i:Nat} (h:DnF le f n i) (d:∀k,0<k→k<n→(k-1)/2=i→le (f i) (f k)):UpF le f n i:=by
 refine ⟨fun k b c a=>?_,h.2⟩;by_cases e:(k-1)/2=i
 ·rw[e];exact d k b c e
 ·exact h.1 k b c a e
theorem zao.dn {g:Nat→α} {i:Nat} (tr:∀a b c,le a b→le b c→le a c) (h:zao le f n) (hg:∀k,k≠i→k<n→g k=f k) (hn:i<n):DnF le g n i:=
 ⟨fun k h0 hk hki hp=>by rw[hg k hki hk,hg _ hp (by omega)];exact h k h0 hk,
  fun k h0 hk hp h0i=>by
  rw[hg k (by omega) hk,hg _ (by omega) (by omega)];have:=h k h0 hk;rw[hp] at this;exact tr _ _ _ (h i h0i hn) this⟩
theorem zao.push {g:Nat→α} (h:zao le f n) (hg:∀k,k<n→g k=f k):UpF le g (n+1) n:=
 ⟨fun k h0 hk hki=>by rw[hg k (by omega),hg _ (by omega)];exact h k h0 (by omega),fun k _ hk hp _=>by omega⟩
theorem zao.less (h:zao le f n) {m:Nat} (hm:m≤n):zao le f m:=fun k h0 hk=>h k h0 (by omega)
theorem zao.least (i:∀a b c,le a b→le b c→le a c) (g:∀a,le a a) (h:zao le f n):∀k,k<n→le (f 0) (f k):=by
 intro k
 induction k using Nat.strongRecOn with
 |ind k ih=>
  intro d;by_cases e:k=0
  ·subst e;exact g _
  ·exact i _ _ _ (ih ((k-1)/2) (by omega) (by omega)) (h k (by omega) d)
end heap
section lists
variable {α:Type}
def swp (l:List α) (i j:Nat):List α:=match l[i]?,l[j]? with|some a,some b=>(l.set i b).set j a|_,_=>l
theorem zqe {l:List α} {i j:Nat} (a:i<l.length) (b:j<l.length):swp l i j=(l.set i l[j]).set j l[i]:=by simp[swp,a,b]
theorem zd0 (l:List α) (i j:Nat):(swp l i j).length=l.length:=by unfold swp;split<;>simp
theorem zbS (l:List α) (i j:Nat):(swp l i j).Perm l:=by
 by_cases hi:i<l.length
 ·by_cases hj:j<l.length
  ·rw[zqe hi hj];exact List.set_set_perm hi hj
  ·unfold swp;rw[List.getElem?_eq_none (i:=j) (by omega)];split<;>first|exact List.Perm.refl _|contradiction
 ·unfold swp;rw[List.getElem?_eq_none (i:=i) (by omega)]
theorem swp_get {l:List α} {i j:Nat} (a:i<l.length) (b:j<l.length) (d:α):(fun k=>(swp l i j).getD k d)=swF (fun k=>l.getD k d) i j:=by
 funext k
 rw[zqe a b];simp only[swF,List.getD_eq_getElem?_getD,List.getElem?_set,List.length_set];by_cases e:j=k
 ·subst e;simp[b,a]
 ·by_cases e2:i=k
  ·subst e2;simp[e,a,b,show ¬i=j from fun h=>e h.symm]
  ·simp[e,e2,show ¬k=j from fun h=>e h.symm,show ¬k=i from fun h=>e2 h.symm]
end lists
end Ho
namespace Ho
open Go.RowKit Vb Ac
open Go.MapKept (IsKey)
abbrev Du:=Int×Int
def zaH (d:Du):List Value:=[.int .i64 d.1,.int .i64 d.2]
def zbu (l:List Du):List Value:=l.flatMap zaH
theorem zb7:∀{l:List Du} {k:Nat} {d:Du},l[k]? =some d→(zbu l)[k*2]? =some ↑d.1∧(zbu l)[k*2+1]? =some ↑d.2
 |[],_,_,h=>by simp at h
 |x::l,0,d,h=>by
  obtain rfl:x=d:=by simpa using h
  exact ⟨rfl,rfl⟩
 |x::l,k+1,d,h=>by
  have:=zb7 (l:=l) (k:=k) (d:=d) (by simpa using h);rw[show (k+1)*2=k*2+2 by omega,show k*2+2+1=(k*2+1)+2 by omega];exact this
theorem zkC:∀l:List Du,(zbu l).length=l.length*2
 |[]=>rfl
 |x::l=>by
  show ((zbu l).length+1+1:Nat)=_
  rw[zkC l];simp;omega
theorem zg3 (l m:List Du):zbu (l++m)=zbu l++zbu m:=by simp[zbu]
theorem zfD:∀(l:List Du) (k:Nat) (d:Du),zbu (l.set k d)=((zbu l).set (k*2) ↑d.1).set (k*2+1) ↑d.2
 |[],_,_=>by simp[zbu]
 |x::l,0,d=>rfl
 |x::l,k+1,d=>by
  rw[show (k+1)*2=k*2+2 by omega,show k*2+2+1=(k*2+1)+2 by omega]
  show [_,_]++zbu (l.set k d)=_
  rw[zfD l k d];rfl
def leD (a b:Du):Prop:=a.1<b.1∨(a.1=b.1∧a.2≤b.2)
instance (a b : Du) : Decidable (leD a b) := inferInstanceAs (Decidable (_ ∨ _))
theorem zdl (a b c:Du) (h:leD a b) (k:leD b c):leD a c:=by unfold leD at*;omega
theorem zhf (a:Du):leD a a:=by unfold leD;omega
theorem ztL (a b:Du):leD a b∨leD b a:=by unfold leD;omega
def ltD (a b:Du):Bool:=decide (¬leD b a)
theorem zhh {a b:Du} (h:ltD a b=true):leD a b:=(ztL a b).resolve_right (by simpa [ltD] using h)
theorem zf7 {a b:Du} (h:ltD a b=false):leD b a:=by simpa [ltD] using h
def zkc (d:Du):Prop:=(0≤d.1∧d.1≤1099511627776)∧0≤d.2∧d.2≤9223372036854775807
structure TickI (W:World) (R:Nat→Prop) (p r g m:Nat) (now:Int) (v:Value) (F:Int→Option Int) (l:List Du):Prop where
 bp:Blk W p 182 #[.int .i64 now,.pointer (some ⟨r,0,none⟩),.map (some m)]
 br:Blk W r 202 #[v,.func (.func 103) #[] #[.pointer (some ⟨g,0,none⟩)]]
 bg:Blk W g 74 #[.pointer (some ⟨p,0,none⟩)]
 row:RowAt W (fun b=>R b∧b≠p∧b≠r∧b≠g) 161 2 v l.length (zbu l)
 map:zbh (.int .i64) (.int .i64) W m F
 idx:zbF (l.map (·.2)) F
 inR:R p∧R r∧R g∧R m
 ok:∀d∈l,zkc d
 ne:p≠r∧p≠g∧r≠g
section
variable {W W':World} {R R' X:Nat→Prop} {p r g m:Nat} {now:Int} {v:Value} {F:Int→Option Int} {l:List Du}
theorem TickI.chg (h:TickI W R p r g m now v F l) (hc:Chg X W W') (hX:∀b,b<W.heap.size→R b→¬X b):TickI W' R p r g m now v F l:=
 ⟨h.bp.chg hc (hX _ h.bp.lt h.inR.1),h.br.chg hc (hX _ h.br.lt h.inR.2.1),h.bg.chg hc (hX _ h.bg.lt h.inR.2.2.1),h.row.chg hc fun b hb hr=>hX b hb hr.1,h.map.chg hc (hX _ h.map.lt h.inR.2.2.2),h.idx,h.inR,h.ok,h.ne⟩
theorem TickI.grow (h:TickI W R p r g m now v F l) (hb:Below W W W'):TickI W' R p r g m now v F l:=h.chg (Chg.of (fun _=>False) hb) fun _ _ _=>id
theorem TickI.mono (h:TickI W R p r g m now v F l) (hR:∀b,b<W.heap.size→R b→R' b):TickI W R' p r g m now v F l:=
 ⟨h.bp,h.br,h.bg,h.row.mono fun b hb hr=>⟨hR b hb hr.1,hr.2⟩,h.map,h.idx,⟨hR _ h.bp.lt h.inR.1,hR _ h.br.lt h.inR.2.1,hR _ h.bg.lt h.inR.2.2.1,hR _ h.map.lt h.inR.2.2.2⟩,h.ok,h.ne⟩
theorem TickI.at_ (h:TickI W R p r g m now v F l) {k:Nat} {d:Du} (b:l[k]? =some d):
  ∃q cap,v=.slice (some ⟨q,0,none⟩) l.length cap∧q<W.heap.size∧W.cell? ⟨q,k*2,none⟩=some ↑d.1∧W.cell? ⟨q,k*2+1,none⟩=some ↑d.2∧W.frozen? ⟨q,k*2,none⟩=false∧W.frozen? ⟨q,k*2+1,none⟩=false∧l.length≤cap:=by
 have i:=(gS.1 b).1;obtain ⟨q,cap,c,_,f,e⟩:=h.row.ex (by omega);have a:=h.row.own;rw[c] at a;exact ⟨q,cap,c,f,(a.cellAt (k*2) (by omega)).trans (zb7 b).1,(a.cellAt (k*2+1) (by omega)).trans (zb7 b).2,a.frozenAt _,a.frozenAt _,e⟩
end
theorem zhT:∀k:Int,IsKey (.int .i64) ↑k:=fun k=>by simp[IsKey]
theorem zhR:∀a b:Int,Value.int .i64 a=.int .i64 b→a=b:=fun a b h=>by injection h
def zb5 (a b:Int):Int:=if a<b then-1 else if b<a then 1 else 0
theorem zdA (a:Int) (w:World):Calls Tryz.prog 163 #[a] w fun e w'=>e=.returned ↑false∧w'=w:=by
 go_enter Tryz.func163,Tryz.ntmps163;go_wp2_with fail
 go_ret
 simp
theorem zed (a b:Int) (w:World):Calls Tryz.prog 134 #[a,b] w fun e w'=>e=.returned ↑(zb5 a b:Int)∧w'=w:=by
 obtain ⟨c,h⟩:=nm (zb5 a b);rw[←h];have g:=hid h;clear h;by_cases h1:a<b
 ·have d:=hid (show c=-1 from g.out.trans (if_pos h1));go_enter Tryz.func134,Tryz.ntmps134;go_wp2_with fail
  refine (zdA a _).mono ?_;rintro e f ⟨rfl,rfl⟩;go_wp2_with fail
  refine (zdA b _).mono ?_;rintro e f ⟨rfl,rfl⟩;go_wp2_with fail
  go_ret;exact ⟨by rw[d.out];rfl,rfl⟩
 ·by_cases h2:b<a
  ·have d:=hid (show c=1 from g.out.trans ((if_neg h1).trans (if_pos h2)));go_enter Tryz.func134,Tryz.ntmps134;go_wp2_with fail
   refine (zdA a _).mono ?_;rintro e f ⟨rfl,rfl⟩;go_wp2_with fail
   refine (zdA b _).mono ?_;rintro e f ⟨rfl,rfl⟩;go_wp2_with fail
   go_ret;exact ⟨by rw[d.out];rfl,rfl⟩
  ·have d:=hid (show c=0 from g.out.trans ((if_neg h1).trans (if_neg h2)));go_enter Tryz.func134,Tryz.ntmps134;go_wp2_with fail
   refine (zdA a _).mono ?_;rintro e f ⟨rfl,rfl⟩;go_wp2_with fail
   refine (zdA b _).mono ?_;rintro e f ⟨rfl,rfl⟩;go_wp2_with fail
   go_ret;exact ⟨by rw[d.out];rfl,rfl⟩
theorem znh {g:Nat} {x y:Int} {w:World} (h:Blk w g 3 #[x,y]):Calls Tryz.prog 133 #[.slice (some ⟨g,0,none⟩) 2 2] w fun e w'=>e=.returned ↑(if x=0 then y else x:Int)∧w'=w:=by
 have a:w.cell? ⟨g,0,none⟩=some ↑x:=h.cell 0;have b:w.cell? ⟨g,1,none⟩=some ↑y:=h.cell 1;clear h;by_cases h1:x=0
 ·subst h1;rw[if_pos rfl];by_cases h2:y=0
  ·subst h2;go_enter Tryz.func133,Tryz.ntmps133;go_wp2_with fail
   go_rounds 3
   go_ret;exact ⟨rfl,rfl⟩
  ·go_enter Tryz.func133,Tryz.ntmps133;go_wp2_with fail
   go_rounds 3
   go_ret;exact ⟨rfl,rfl⟩
 ·rw[if_neg h1];go_enter Tryz.func133,Tryz.ntmps133;go_wp2_with fail
  go_rounds 3
  go_ret;exact ⟨rfl,rfl⟩
def zeu (a b:Du):Int:=if zb5 a.1 b.1=0 then zb5 a.2 b.2 else zb5 a.1 b.1
theorem zni (a b:Du):decide (zeu a b<0)=ltD a b:=by
 unfold zeu zb5 ltD leD;rw[Bool.eq_iff_iff];simp only[decide_eq_true_eq]
 (repeat' split)<;>omega
theorem zpH (a b:Du) (w:World):Calls Tryz.prog 111 #[.agg #[a.1,a.2],.agg #[b.1,b.2]] w fun e w'=>e=.returned ↑(zeu a b:Int)∧Below w w w':=by
 obtain ⟨v,j⟩:=nm (zb5 a.1 b.1);obtain ⟨y,k⟩:=nm (zb5 a.2 b.2);have z:zeu a b=if v=0 then y else v:=by rw[j,k];rfl
 have D:=hid z;have l:=hid j.symm;have m:=hid k.symm;clear z j k;obtain ⟨n,o⟩:=a;obtain ⟨p,q⟩:=b;simp only at l m;go_enter Tryz.func111,Tryz.ntmps111;obtain ⟨d,h⟩:=nm ((w.alloc (.cells #[n,o] 161)).alloc (.cells #[p,q] 161));have s:=hid (show Blk d w 161 #[n,o] by rw[h];exact (Blk.new w _ _).alloc _);have t:=hid (show Blk d (w.heap.size+1) 161 #[p,q] by rw[h];exact Blk.new' _ _ (by simp));have x:=hid (show Below w w d by rw[h];exact (qA _).alloc (by simp) _);have E:d.cell? ⟨w,0,none⟩=some ↑n:=s.out.cell 0;have F:d.cell? ⟨w,1,none⟩=some ↑o:=s.out.cell 1;have G:d.cell? ⟨w.heap.size+1,0,none⟩=some ↑p:=t.out.cell 0;have H:d.cell? ⟨w.heap.size+1,1,none⟩=some ↑q:=t.out.cell 1;have A:=s.out.lt;have B:=t.out.lt;go_wp2_with fail
 rw[←h];clear h;refine zac (Below d d) [] (by kernel_rfl) (bR.drew) (fun c=>?_);refine tp 0 c ?_;have r:=hid fun (w':World) (i:(Below d d) w')=>And.intro (qc i E A)<|And.intro (qc i F A)<|And.intro (qc i G B)<|qc i H B;refine tl 1 c r ?_;refine tp 2 c ?_;refine tl 3 c r ?_;refine tp 5 c ?_;refine tl 6 c r ?_;refine tp 7 c ?_;refine tl 8 c r ?_;refine stp 4 fun K f=>?_;go_simp;refine (zed n p _).mono ?_;rintro e C ⟨rfl,rfl⟩;rw[l.out];refine f.out _ _ ?_ (fun c=>?_)
 ·exact c
 clear f K
 try simp only[Act.put,pb,pz,ps]
 refine stp 9 fun K f=>?_;go_simp;refine (zed o q _).mono ?_;rintro e C ⟨rfl,rfl⟩;rw[m.out];refine f.out _ _ ?_ (fun c=>?_)
 ·exact c
 clear f K
 try simp only[Act.put,pb,pz,ps]
 refine stp 10 fun K f=>?_;go_simp;refine f.out _ _ ?_ (fun c=>?_)
 ·exact c.alloc (by simp) _
 clear f K
 try simp only[Act.put,pb,pz,ps]
 refine stp 11 fun K f=>?_;go_simp;refine (znh (w:=(d.alloc (.cells #[v,y] 3)).drew) (g:=d.heap.size) (Blk.new d _ _)).mono ?_;rintro e C ⟨rfl,rfl⟩;rw[←D.out];refine f.out _ _ ?_ (fun c=>?_)
 ·exact c
 clear f K
 try simp only[Act.put,pb,pz,ps]
 refine tp 12 c ?_;refine zaa (by kernel_rfl) ?_ _;go_wp2_with fail
 go_ret;exact ⟨rfl,x.out.trans ((c).mono x.out.size)⟩
end Ho
end Go.Proofs.YtckdpejdnejhfaaGreat

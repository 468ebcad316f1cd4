/- Joined by program. -/
import Derived.Test.YtckdpejdnejhfaaGreatZz
set_option linter.all false
set_option maxRecDepth 100000
set_option maxHeartbeats 32000000
namespace Go.Proofs.YtckdpejdnejhfaaGreat
open Lib (hid)
namespace Vb
open Go.RowKit
theorem zl0 {c d:Int} (b:0≤d):∀l:List Off,zaG (c+d) l=zaG d (zaG c l)
 |[]=>rfl
 |o::l=>by
  have ih:=zl0 (c:=c) b l;unfold zaG at*;by_cases h1:c+d<o.c
  ·have h2:c<o.c:=by omega
   have a:d<o.c-c:=by omega
   simp only[List.filter_cons,h1,h2,decide_true,if_true,List.map_cons,a,ih]
   congr 2
   omega
  ·by_cases h2:c<o.c
   ·have a:¬d<o.c-c:=by omega
    simp only[List.filter_cons,h1,h2,decide_true,decide_false,if_true,List.map_cons,a,ih,Bool.false_eq_true,if_false]
   ·simp only[List.filter_cons,h1,h2,decide_false,Bool.false_eq_true,if_false,ih]
theorem zkT:∀l:List Off,(∀o∈l,0<o.c)→zaG 0 l=l
 |[],_=>rfl
 |o::l,h=>by
  have ih:=zkT l (fun x hx=>h x (by simp[hx]));have h1:=h o (by simp);unfold zaG at*;simp only[List.filter_cons,h1,decide_true,if_true,List.map_cons,ih];obtain ⟨g,c⟩:=o
  simp
theorem zsR {d:Int} {l:List Off} {x:Off} (h:x∈zaG d l):∃o∈l,x.g=o.g∧x.c=o.c-d:=by
 simp only[zaG,List.mem_map,List.mem_filter,decide_eq_true_eq] at h;obtain ⟨o,⟨a,_⟩,rfl⟩:=h;exact ⟨o,a,rfl,rfl⟩
theorem zoG {d:Int}:∀(bs:List (List Off)) (k f:Nat) (l:List Off),bs[k]? =some l→W (bs.set k (zaG d l)) f≤max (W (bs.set k []) f) (W bs f-d)
 |[],k,f,l,h=>by simp at h
 |l0::bs,0,f,l,h=>by
  simp at h
  subst h;simp only[List.set_cons_zero,W,List.foldl_nil]
  rcases zgt (g:=W bs) (f:=f) (zaG d l0) (W bs f) with h|⟨x,hx,hxf,he⟩
  ·omega
  ·obtain ⟨o,ho,hg,hc⟩:=zsR hx;rw[hg] at hxf;have:=zgu (g:=W bs) (f:=f) l0 (W bs f) o ho hxf;rw[hg] at he
   omega
 |l0::bs,k+1,f,l,h=>by
  have ih:=fun x=>zoG (d:=d) bs k x l (by simpa using h);simp only[List.set_cons_succ,W]
  rcases zgt (g:=W (bs.set k (zaG d l))) (f:=f) l0 (W (bs.set k (zaG d l)) f) with h|⟨o,ho,hof,he⟩
  ·have h1:=ih f;have h2:=zeZ (W (bs.set k [])) f l0 (W (bs.set k []) f);have h3:=zeZ (W bs) f l0 (W bs f)
   omega
  ·have h1:=ih (andNot f o.g);have h2:=zgu (g:=W (bs.set k [])) (f:=f) l0 (W (bs.set k []) f) o ho hof;have h3:=zgu (g:=W bs) (f:=f) l0 (W bs f) o ho hof
   omega
theorem zrV {l:List Int} {k:Nat} {x y:Int} (h:l[k]? =some y):zaB (l.set k x)=zaB l-y+x:=by
 induction l generalizing k with
 |nil=>simp at h
 |cons a l ih=>
  cases k with
  |zero=>simp at h;subst h;simp only[List.set_cons_zero,zaB];omega
  |succ k=>simp only[List.set_cons_succ,zaB];rw[ih (by simpa using h)];omega
theorem ziD:∀(bs:List (List Off)) (f:Nat),zaB ((choose bs f).mapIdx fun i c=>zb6 bs i c)=W bs f
 |[],f=>by simp[choose,zaB,W]
 |l::bs,f=>by
  have hc:∀(i:Nat) (c:Int),zb6 (l::bs) (i+1) c=zb6 bs i c:=fun i c=>by simp[zb6]
  simp only[choose,List.mapIdx_cons,zaB,hc];unfold zdN
  cases hp:zbL (W bs) f (W (l::bs) f) l with
  |none=>
   simp only[];rw[ziD bs f,znC (by omega),zmN hp]
   omega
  |some p=>
   obtain ⟨j,x⟩:=p;obtain ⟨o,ho,hx,hf,he,_⟩:=zii hp;simp only[];rw[ziD bs (andNot f x),zh7 (l:=l) (o:=o) rfl ho,←hx];exact he
theorem zoN (n:Int) (bs:List (List Off)):zaB (zay n bs)=W bs (allOf n):=ziD bs (allOf n)
def zdB (n:Int) (bs:List (List Off)) (p:List Int) (k:Nat):List Int:=if zc6 (zai n bs) k=true then p.set k (zbT n bs p k) else p
def zaN (n:Int) (bs:List (List Off)):Nat→List Int
 |0=>zay n bs
 |k+1=>zdB n bs (zaN n bs k) k
def zjB (n:Int) (bs:List (List Off)) (p:List Int) (i:Nat):Int:=W ((zbr n bs p).set i []) (allOf n)-(zaB p-p[i]?.getD 0)
section
variable {n:Int} {bs:List (List Off)}
theorem zrp {p:List Int} {k:Nat} {l:List Off} {x y b:Int} (d:bs[k]? =some l) (f:p[k]? =some y) (e:(zay n bs)[k]? =some b) (g:x≤y):
  zbr n bs (p.set k x)=(zbr n bs p).set k (zaG (y-x) (zaG (b-y) l)):=by
 apply List.ext_getElem?
 intro i;have c:k<p.length:=(gS.mp f).1;have a:k<bs.length:=(gS.mp d).1;by_cases hik:k=i
 ·subst hik;rw[List.getElem?_set_self (by rw[zcm];exact a),←zl0 (by omega),show b-y+(y-x)=b-x from by omega];exact ziL d (by rw[List.getElem?_set_self c]) e
 ·rw[List.getElem?_set_ne hik];simp only[zbr,List.getElem?_mapIdx];rw[List.getElem?_set_ne hik]
theorem zkl {p:List Int} (a:zcA p (zay n bs)=true) {k:Nat} (e:k<bs.length):∃y b l,p[k]? =some y∧(zay n bs)[k]? =some b∧bs[k]? =some l∧0≤y∧y≤b:=by
 obtain ⟨m,f⟩:=(zcZ _ _).mp a;have i:k<(zay n bs).length:=by rw[za5];exact e
 have j:k<p.length:=by omega
 have c:=gE i;have d:=gE j;obtain ⟨g,h⟩:=f k _ _ d c;exact ⟨_,_,_,d,c,gE e,g,h⟩
theorem zrz {p:List Int} (a:zcA p (zay n bs)=true) {k:Nat} {x y:Int} (e:p[k]? =some y) (f:0≤x) (g:x≤y):zcA (p.set k x) (zay n bs)=true:=by
 rw[zcZ] at a ⊢;refine ⟨by rw[List.length_set];exact a.1,fun i q b c d=>?_⟩;by_cases hik:k=i
 ·subst hik;rw[List.getElem?_set_self (gS.mp e).1] at c;injection c with c
  have:=a.2 k y b e d
  omega
 ·rw[List.getElem?_set_ne hik] at c;exact a.2 i q b c d
theorem zkS {p:List Int} (c:zaj n bs=0) (a:zcA p (zay n bs)=true) {k:Nat} (d:k<bs.length):zbT n bs p k=max 0 (zjB n bs p k):=by
 have b:zbc n (zbr n bs p) (k:Int) []=0:=zib (zkR c a) (by rw[zcm];exact d);unfold zbT zjB woW;rw[if_pos b,Int.toNat_natCast]
def zi5 (n:Int) (bs:List (List Off)) (p:List Int):Prop:=zcA p (zay n bs)=true∧W (zbr n bs p) (allOf n)≤zaB p
theorem zrm (e:zaj n bs=0) {p:List Int} (h:zi5 n bs p) {k:Nat} {y:Int} (c:k<bs.length) (d:p[k]? =some y):0≤zbT n bs p k∧zbT n bs p k≤y:=by
 obtain ⟨f,b,l,a,_,_,g,_⟩:=zkl h.1 c;obtain rfl:y=f:=by rw[d] at a;injection a
 rw[zkS e h.1 c];have i:=ziy (zbr n bs p) k (allOf n);have j:=h.2;unfold zjB;rw[d];simp only[Option.getD_some]
 omega
theorem zo3 (j:zaj n bs=0) {p:List Int} (h:zi5 n bs p) {k:Nat} (f:k<bs.length):zi5 n bs (p.set k (zbT n bs p k)):=by
 obtain ⟨y,b,l,a,i,m,r,q⟩:=zkl h.1 f;obtain ⟨o,g⟩:=zrm j h f a;refine ⟨zrz h.1 a o g,?_⟩;rw[zrp m a i g,zrV a];have c:=ziL m a i;have s:=zoG (d:=y-zbT n bs p k) (zbr n bs p) k (allOf n) _ c;have t:=h.2;have e:zjB n bs p k≤zbT n bs p k:=by rw[zkS j h.1 f];omega
 unfold zjB at e;rw[a] at e;simp only[Option.getD_some] at e
 omega
theorem zss (e:zaj n bs=0) (c:∀l∈bs,∀o∈l,o.wf):zcA (zay n bs) (zay n bs)=true:=by
 rw[zcZ];refine ⟨rfl,fun i p b d a=>?_⟩;rw[d] at a;injection a with a
 have:=zkb e c d
 omega
theorem zrq (b:zaj n bs=0) (a:∀l∈bs,∀o∈l,o.wf):zbr n bs (zay n bs)=bs:=by
 apply List.ext_getElem?
 intro i;simp only[zbr,List.getElem?_mapIdx,Int.sub_self]
 cases h:bs[i]? with
 |none=>rfl
 |some l=>
  simp only[Option.map_some];rw[zkT l (fun o c=>by have:=((zfi a b).1.2 l (mG h)).2 o c;have:=this.2.2.1;omega)]
theorem zo2 (hi:zaj n bs=0) (hwf:∀l∈bs,∀o∈l,o.wf):zi5 n bs (zay n bs):=
 ⟨zss hi hwf,by rw[zrq hi hwf,zoN];exact Int.le_refl _⟩
theorem zkf (hi:zaj n bs=0) (hwf:∀l∈bs,∀o∈l,o.wf):∀k,k≤bs.length→zi5 n bs (zaN n bs k)
 |0,_=>zo2 hi hwf
 |k+1,hk=>by
  have ih:=zkf hi hwf k (by omega);unfold zaN zdB
  split
  ·exact zo3 hi ih (by omega)
  ·exact ih
theorem zhn (hi:zaj n bs=0) (hwf:∀l∈bs,∀o∈l,o.wf) {k:Nat} (hk:k≤bs.length):(zaN n bs k).length=bs.length:=zkm (zkf hi hwf k hk).1
end
section
variable {n:Int} {bs:List (List Off)}
end
theorem zsA:zbg Tryz.prog 344 340 1 24:=zba Tryz.underlying344 (by omega) (z:=.slice none 0 0) (by kernel_rfl) rfl
def zbt (n:Int) (bs:List (List Off)):Nat→List (List Int)
 |0=>[]
 |k+1=>if zc6 (zai n bs) k=true then zbt n bs k++[zaN n bs (k+1)] else zbt n bs k
theorem zdQ (n:Int) (bs:List (List Off)):∀k,(zbt n bs k).length=(zal (zai n bs) k).length
 |0=>rfl
 |k+1=>by
  have ih:=zdQ n bs k;unfold zbt
  cases h:zc6 (zai n bs) k with
  |true=>rw[zk7 h];simp[ih]
  |false=>rw[zmo h];simp[ih]
theorem zgH {n:Int} {bs:List (List Off)}:∀{k:Nat} {l:List Int},l∈zbt n bs k→∃j,j≤k∧l=zaN n bs j
 |0,l,h=>by simp[zbt] at h
 |k+1,l,h=>by
  unfold zbt at h
  split at h
  ·rcases List.mem_append.1 h with h|h
   ·obtain ⟨j,hj,e⟩:=zgH h;exact ⟨j,by omega,e⟩
   ·exact ⟨k+1,by omega,by simpa using h⟩
  ·obtain ⟨j,hj,e⟩:=zgH h;exact ⟨j,by omega,e⟩
theorem Mid.grown {a b:Nat} {w w1 w2:World} {row:Option Nat} (h:Mid a b w w1) (hg:w1.grownBy w2 row) (hr:∀r,row=some r→a≤r∧(r<b∨w.heap.size≤r)) (ha:a≤w1.heap.size):Mid a b w w2:=
 ⟨h.1.grown hg ha (fun r e=>(hr r e).1),fun i hi hl=>(hg.block i (lL hl h.1.size) (fun e=>by have:=(hr i e.symm).2;omega)).trans (h.2 i hi hl)⟩
theorem Mid.trans_grow {a b:Nat} {w w1 w2:World} (h:Mid a b w w1) (hb:Below w1 w1 w2) (ha:a≤w1.heap.size):Mid a b w w2:=
 h.grown (zam hb none) (fun r e=>by cases e) ha
def zcw (w:World) (c:Nat) (not:Nat→Prop) (va:Value) (ls:List (List Int)):Prop:=
 ∃vs:List Value,w.ownsRow c 340 1 va ls.length vs∧∀(j:Nat) (l:List Int),ls[j]? =some l→∃u,vs[j]? =some u∧Sl w (fun b=>c≤b∧¬not b∧va.ownBlock≠some b) u l.length 1 (ints l)
theorem zcw.grown {w w':World} {c:Nat} {not:Nat→Prop} {va:Value} {i:List (List Int)} {a:Option Nat} (h:zcw w c not va i) (f:w.grownBy w' a) (g:∀r,a=some r→(r<c∨not r)∧va.ownBlock≠some r):zcw w' c not va i:=by
 obtain ⟨q,o,n⟩:=h;refine ⟨q,zaY o f (fun r e=>(g r e).2),fun j l k=>?_⟩;obtain ⟨u,p,m⟩:=n j l k;exact ⟨u,p,m.grown f fun b _ d e=>by
  rcases (g b e.symm).1 with h|h
  ·have:=d.1;omega
  ·exact d.2.1 h⟩
theorem zcw.grow {w w':World} {c:Nat} {not:Nat→Prop} {va:Value} {ls:List (List Int)} (h:zcw w c not va ls) (hb:Below w w w'):zcw w' c not va ls:=
 h.grown (zam hb none) (fun r e=>by cases e)
theorem zcw.aside {w:World} {c:Nat} {not a:Nat→Prop} {va:Value} {f:List (List Int)} (h:zcw w c not va f) (m:∀b,b<w.heap.size→a b→not b):zcw w c a va f:=by
 obtain ⟨q,o,n⟩:=h;refine ⟨q,o,fun j l i=>?_⟩;obtain ⟨u,p,k⟩:=n j l i;exact ⟨u,p,k.mono fun b e d=>⟨d.1,fun g=>d.2.1 (m b e g),d.2.2⟩⟩
theorem zcw.snoc {w w':World} {c m:Nat} {not:Nat→Prop} {v:Value} {d:List (List Int)} {vs:List Value} {l:List Int} {u:Value} {i:Option Addr} {a:Nat} (y:d.length=m)
  (A:w.ownsRow c 340 1 v m vs) (z:∀(j:Nat) (l:List Int),d[j]? =some l→∃u,vs[j]? =some u∧Sl w (fun b=>c≤b∧¬not b∧v.ownBlock≠some b) u l.length 1 (ints l))
  (x:Sl w (fun b=>c≤b∧¬not b∧v.ownBlock≠some b) u l.length 1 (ints l))
  (q:w'.ownsRow c 340 1 (.slice i (m+1) a) (m+1) (vs++[u])) (t:w.grownBy w' v.ownBlock)
  (p:(Value.slice i (m+1) a).ownBlock=v.ownBlock∨(Value.slice i (m+1) a).ownBlock=some w.heap.size):zcw w' c not (.slice i (m+1) a) (d++[l]):=by
 subst y;have o:vs.length=d.length:=by simpa using A.1
 have f:∀{u:Value} {l:List Int},Sl w (fun b=>c≤b∧¬not b∧v.ownBlock≠some b) u l.length 1 (ints l)→Sl w' (fun b=>c≤b∧¬not b∧(Value.slice i (d.length+1) a).ownBlock≠some b) u l.length 1 (ints l):=by
  intro u l h;refine (h.sized.grown t fun b _ n e=>n.1.2.2 e.symm).mono fun b _ n=>⟨n.1.1,n.1.2.1,fun e=>?_⟩
  rcases p with e'|e'
  ·exact n.1.2.2 (e'.symm.trans e)
  ·rw[e'] at e;injection e with e
   omega
 refine ⟨vs++[u],by simpa using q,fun k B g=>?_⟩;by_cases hkl:k<d.length
 ·rw[List.getElem?_append_left hkl] at g;obtain ⟨u',s,r⟩:=z k B g;exact ⟨u',by rw[List.getElem?_append_left (by omega)];exact s,f r⟩
 ·have:k=d.length:=by
   rcases Nat.lt_or_ge k (d++[l]).length with h|h
   ·simp at h;omega
   ·rw[List.getElem?_eq_none h] at g;cases g
  subst this
  simp at g
  subst g;exact ⟨u,by rw[←o];simp,f x⟩
def zcI (w W6:World) (a b7:Nat) (n:Int) (bs:List (List Off)) (k:Nat):Prop:=
 ∃(Ap:Option Addr) (cp:Nat) (Aw:Option Addr) (cw:Nat) (Aa:Option Addr) (ca:Nat),Mid (a+1) (a+3) W6 w∧W6.heap.size≤b7∧a+3≤W6.heap.size∧(Value.slice Aa (zal (zai n bs) k).length ca).ownBlock≠some b7∧
  Blk w b7 340 #[.slice Ap bs.length cp]∧w.ownsRow W6.heap.size 2 1 (.slice Ap bs.length cp) bs.length (ints (zaN n bs k))∧
  Blk w (a+2) 36 #[.slice Aw (zal (zai n bs) k).length cw]∧w.ownsRow W6.heap.size 3 1 (.slice Aw (zal (zai n bs) k).length cw) (zal (zai n bs) k).length (ints (zal (zai n bs) k))∧
  Blk w (a+1) 344 #[.slice Aa (zal (zai n bs) k).length ca]∧zcw w W6.heap.size (fun b=>b=b7∨(Value.slice Ap bs.length cp).ownBlock=some b∨(Value.slice Aw (zal (zai n bs) k).length cw).ownBlock=some b) (.slice Aa (zal (zai n bs) k).length ca) (zbt n bs k)
theorem zoq (n:Int) (bs:List (List Off)) (v:Value) (a b5 Q g lo:Nat) (A:Option Addr) (cap k:Nat) (hk:k<bs.length) (af:zc6 (zai n bs) k=true) (hi:zaj n bs=0) (w E:World)
  (hs:zcI w E a Q n bs k) (hx:zav E (·<a+1) v bs) (h5:Blk E b5 384 #[.pointer (some ⟨g,0,none⟩)]) (h5':a+3≤b5) (D:zbw E lo g n v bs A cap) (hlo:a+3≤lo):
  Calls Tryz.prog 289 #[(k:Int),.pointer (some ⟨b5,0,none⟩),.pointer (some ⟨Q,0,none⟩),.pointer (some ⟨a+2,0,none⟩),.pointer (some ⟨a+1,0,none⟩)] w fun e w'=>(∃r,e=.returned r)∧zcI w' E a Q n bs (k+1):=by
 obtain ⟨Ap,P,Aw,cw,Aa,ca,d,hb7,h63,ad,ab,O,hwb,hwo,hab,hao⟩:=hs;have hwf:=zav.wf hx;have x:=zkf hi hwf k (by omega);have hpl:=zkm x.1;have hl32:=(zaE hi).2.2.1;have hkp:k<(zaN n bs k).length:=by omega
 obtain ⟨f,hAp,hgp⟩:∃f,Ap=some ⟨f,0,none⟩∧E.heap.size≤f:=by
  obtain ⟨g',c',N,F,h2⟩:=World.ownsRow.form O (by omega);injection N with he1 _ _
  exact ⟨g',he1,F⟩
 subst hAp;have hgpl:=(O.lt f rfl).2
 --where things lie,at w
 have hW:zbw w lo g n v bs A cap:=⟨D.1,d.blk D.2.1 (by have:=D.1;omega),by
  obtain ⟨F,h2⟩:=D.2.2;refine ⟨F,h2.imp id ?_⟩;rintro ⟨gg,cc,cur,e,hgg,hcur,hrest⟩;exact ⟨gg,cc,cur,e,hgg,(d.2 gg (by omega) (Blk.lt hcur)).trans hcur,hrest⟩⟩
 have hX:zav w (·<a+1) v bs:=hx.keep' d.1;have h5w:=d.blk h5 h5';have c5:w.cell? ⟨b5,0,none⟩=some (.pointer (some ⟨g,0,none⟩)):=h5w.cell 0;have c7:w.cell? ⟨Q,0,none⟩=some (.slice (some ⟨f,0,none⟩) bs.length P):=ab.cell 0;have hb5l:=h5w.lt;have hb7l:=ab.lt;obtain ⟨y,_,_,hy,_⟩:=zkl x.1 hk;have ac:(zaN n bs k).set k (zbT n bs (zaN n bs k) k)=zaN n bs (k+1):=by
  show _=zdB n bs (zaN n bs k) k
  unfold zdB;rw[if_pos af]
 have hne1:f≠Q:=fun e=>zeK O ab (by decide) (by rw[e];rfl);have HS:=hid ac;have HMID:=hid d;have HPB:=hid ab;have HPO:=hid O;have HWB:=hid hwb;have HWO:=hid hwo;have HAB:=hid hab;have HAO:=hid hao;have HW:=hid hW;have HX:=hid hX;have HI:=hid hi;have HF:=hid x;have HWIN:=hid af;have HPL:=hid hpl;have e0:(0:Int)≤(k:Int):=by omega
 have e1:(k:Int)<(bs.length:Int):=by omega
 have hwl:=zk6 (zai n bs) k;have hszc:a+3≤w.heap.size:=lT h63 d.1.size;have hsz6:=d.1.size;have hSP:Sl w (fun _=>True) (.slice (some ⟨f,0,none⟩) bs.length P) (zaN n bs k).length 1 (ints (zaN n bs k)):=by rw[hpl];exact (Sl.of_own O).any
 have HSP:=hid hSP;clear d ab O hwb hwo hab hao hW hX h5w D hx h5 x ac hi af hpl hSP;go_enter Tryz.func289,Tryz.ntmps289;go_wp2_with fail
 refine zac (Below w w) [7] (by kernel_rfl) (bR.drew) (fun t=>?_);have qq:=hid fun (w':World) (M:(Below w w) w')=>And.intro (qc M c5 hb5l)<|qc M c7 hb7l;refine tl 0 t qq ?_;refine tp 1 t ?_;refine tl 2 t qq ?_;refine tp 3 t ?_;refine tl 4 t qq ?_;refine stp 5 fun K B=>?_;go_simp;refine (zpu n bs v lo g A cap (zaN n bs k) _ (fun _=>True) (·<a+1) k hk _ (HW.out.grow bR.drew) (HX.out.grow bR.drew) (HSP.out.grow bR.drew) HI.out HF.out.1).mono ?_;rintro e w1 ⟨rfl,hb1⟩;refine B.out _ _ ?_ (fun t=>?_)
 ·exact (Below.refl w.heap.size w).drew.trans (hb1.mono (by simp))
 clear B K
 try simp only[Act.put,pb,pz,ps]
 have i:=hid ((Below.refl w.heap.size w).drew.trans (hb1.mono (B':=w.heap.size) (by simp)));clear hb1;refine tp 6 t ?_;refine stf 7 fun K B=>?_;have R:=zbQ HPO.out i.out;have f1:w1.frozen? ⟨f,k,none⟩=false:=R.frozenAt k;have f2:w1.cell? ⟨f,k,none⟩=some ↑((zaN n bs k)[k]'hkp:Int):=by rw[R.cellAt k (by omega)];simp[ints,hkp]
 go_simp;refine B.out _ _ ?_;clear B K
 try simp only[Act.put,pb,pz,ps]
 refine zaa (by kernel_rfl) ?_ _;obtain ⟨vs,I,hvo⟩:=HAO.out;have R:=zbQ HPO.out i.out;obtain ⟨hP2,z⟩:=R.stored k ↑(zbT n bs (zaN n bs k) k:Int);have hset:(ints (zaN n bs k)).set k ↑(zbT n bs (zaN n bs k) k:Int)=ints (zaN n bs (k+1)):=by rw[←HS.out];simp[ints,List.map_set]
 rw[hset] at hP2;obtain ⟨w2,hw2⟩:=nm (w1.setCell ⟨f,k,none⟩ ↑(zbT n bs (zaN n bs k) k:Int));rw[←hw2] at hP2 z ⊢;clear hw2 R f1 f2 hset;have hva:(Value.slice Aa (zal (zai n bs) k).length ca).ownBlock≠some f:=own_ne HPO.out I (by decide) rfl;have hvw:(Value.slice Aw (zal (zai n bs) k).length cw).ownBlock≠some f:=own_ne HPO.out HWO.out (by decide) rfl;have HM2:=hid ((HMID.out.trans_grow i.out (by omega)).grown z (fun r e=>by injection e with e;omega) (by have:=i.out.size;omega));have HPB2:=hid ((HPB.out.grow i.out).grown z (fun e=>by injection e with e;omega));have HWB2:=hid ((HWB.out.grow i.out).grown z (fun e=>by injection e with e;omega));have HAB2:=hid ((HAB.out.grow i.out).grown z (fun e=>by injection e with e;omega));have o:=hid (zaY (zbQ HWO.out i.out) z (fun r e=>by injection e with e;subst e;exact hvw));have HAO2:=hid ((HAO.out.grow i.out).grown z (fun r e=>by injection e with e;subst e;exact ⟨.inr (.inr (.inl rfl)),hva⟩));have HP2:=hid hP2;have hs12:=i.out.size;have hs22:=z.size;have s0:w2.cell? ⟨a+2,0,none⟩=some (.slice Aw (zal (zai n bs) k).length cw):=HWB2.out.cell 0;clear I hvo hP2 z hva hvw t
 go_wp2_with (at_builtin;go_must (refine zbj _ rfl (.tmp 13) (.tmp 15) zlL rfl E.heap.size (.slice Aw (zal (zai n bs) k).length cw) _ _ rfl (zbl o.out _) _ _ 1 _ rfl (Sl.new w2 #[(k:Int)] _ 1 1 (by unfold maxLen;omega) rfl) (by simp[Value.oneCell']) (by omega) (by unfold maxLen;omega) (by simp;omega) ?_);intro m q J Z hg3 U;have hn3:Blk J (a+2) 36 #[.slice Aw (zal (zai n bs) k).length cw]:=(HWB2.out.alloc _).grown hg3 (fun e=>by have:=(o.out.lt _ e.symm).1;omega);have k0:=hn3.cell 0;have k1:=hn3.frozen 0;have HN3:=hid hn3;have HO3:=hid Z;have L:=hid hg3;have HL3:=hid U;clear hn3 Z hg3 U)
 have hvl4:J.heap.size=(J.setCell ⟨a+2,0,none⟩ (.slice m ((zal (zai n bs) k).length+1) q)).heap.size:=by simp[World.setCell]
 have hs3:=L.out.size;simp only[World.size_alloc] at hs3;have hZ:Mid (a+1) (a+3) E (J.setCell ⟨a+2,0,none⟩ (.slice m ((zal (zai n bs) k).length+1) q)).drew∧
   Blk (J.setCell ⟨a+2,0,none⟩ (.slice m ((zal (zai n bs) k).length+1) q)).drew Q 340 #[.slice (some ⟨f,0,none⟩) bs.length P]∧
   (J.setCell ⟨a+2,0,none⟩ (.slice m ((zal (zai n bs) k).length+1) q)).drew.ownsRow E.heap.size 2 1 (.slice (some ⟨f,0,none⟩) bs.length P) bs.length (ints (zaN n bs (k+1)))∧
   Blk (J.setCell ⟨a+2,0,none⟩ (.slice m ((zal (zai n bs) k).length+1) q)).drew (a+2) 36 #[.slice m ((zal (zai n bs) k).length+1) q]∧
   (J.setCell ⟨a+2,0,none⟩ (.slice m ((zal (zai n bs) k).length+1) q)).drew.ownsRow E.heap.size 3 1 (.slice m ((zal (zai n bs) k).length+1) q) ((zal (zai n bs) k).length+1) (ints (zal (zai n bs) k)++[.int .i64 (k:Int)])∧
   Blk (J.setCell ⟨a+2,0,none⟩ (.slice m ((zal (zai n bs) k).length+1) q)).drew (a+1) 344 #[.slice Aa (zal (zai n bs) k).length ca]∧
   zcw (J.setCell ⟨a+2,0,none⟩ (.slice m ((zal (zai n bs) k).length+1) q)).drew E.heap.size (fun b=>b=Q∨(Value.slice (some ⟨f,0,none⟩) bs.length P).ownBlock=some b∨(Value.slice m ((zal (zai n bs) k).length+1) q).ownBlock=some b) (.slice Aa (zal (zai n bs) k).length ca) (zbt n bs k):=by
  have hwc:∀r,(Value.slice Aw (zal (zai n bs) k).length cw).ownBlock=some r→E.heap.size≤r:=fun r e=>(o.out.lt r e).1;have hvs2:=HAO2.out;obtain ⟨vs2,ae,_⟩:=HAO2.out;refine ⟨?_,?_,?_,?_,?_,?_,?_⟩
  ·have F:=((HM2.out.trans_grow (qA _) (by omega)).grown L.out (fun r e=>by have:=hwc r e;omega) (by simp;omega)).set (p:=⟨a+2,0,none⟩) (by simp) (by simp) (.slice m ((zal (zai n bs) k).length+1) q);exact ⟨F.1.drew,F.2⟩
  ·exact (((HPB2.out.alloc _).grown L.out (fun e=>zeK o.out HPB2.out (by decide) e.symm)).far (p:=⟨a+2,0,none⟩) (by simp;omega) _).drew
  ·have F:=zaY (zaY (zbl HP2.out _) L.out (fun r e=>own_ne o.out HP2.out (by decide) e)) (grownBy_setCell J ⟨a+2,0,none⟩ (.slice m ((zal (zai n bs) k).length+1) q)) (fun r e N=>by have:=(HP2.out.lt r N).1;simp at e;omega);exact F
  ·exact (HN3.out.set_ 0 _).drew
  ·have F:=zaY HO3.out (grownBy_setCell J ⟨a+2,0,none⟩ (.slice m ((zal (zai n bs) k).length+1) q)) (fun r e N=>by have:=(HO3.out.lt r N).1;simp at e;omega);exact F
  ·exact (((HAB2.out.alloc _).grown L.out (fun e=>by have:=hwc _ e.symm;omega)).far (p:=⟨a+2,0,none⟩) (by simp) _).drew
  ·have F:zcw (w2.alloc (.cells #[(k:Int)] 3)) E.heap.size (fun b=>(b=Q∨(Value.slice (some ⟨f,0,none⟩) bs.length P).ownBlock=some b∨(Value.slice m ((zal (zai n bs) k).length+1) q).ownBlock=some b)∨(Value.slice Aw (zal (zai n bs) k).length cw).ownBlock=some b) (.slice Aa (zal (zai n bs) k).length ca) (zbt n bs k):=by
    refine (hvs2.grow (qA _)).aside fun b hb h=>?_
    rcases h with (h|h|h)|h
    ·exact .inl h
    ·exact .inr (.inl h)
    ·rcases HL3.out with e|e
     ·exact .inr (.inr (e.symm.trans h))
     ·rw[e] at h;injection h with h
      omega
    ·exact .inr (.inr h)
   have h2:=F.grown L.out (fun r e=>⟨.inr (.inr e),own_ne o.out ae (by decide) e⟩);have h3:=h2.grown (grownBy_setCell J ⟨a+2,0,none⟩ (.slice m ((zal (zai n bs) k).length+1) q)) (fun r e=>by
    have e':a+2=r:=by simpa using e
    refine ⟨.inl (by omega),fun N=>?_⟩;have:=(ae.lt r N).1
    omega)
   exact h3.aside fun b _ h=>.inl h
 generalize hV0:(J.setCell ⟨a+2,0,none⟩ (.slice m ((zal (zai n bs) k).length+1) q)).drew=V0 at hZ
 obtain ⟨zm,zpb,zp,zwb,zw,zab,zr⟩:=hZ;have z0:V0.cell? ⟨a+1,0,none⟩=some (.slice Aa (zal (zai n bs) k).length ca):=zab.cell 0;have z1:V0.cell? ⟨Q,0,none⟩=some (.slice (some ⟨f,0,none⟩) bs.length P):=zpb.cell 0;obtain ⟨vs,I,hvo⟩:=zr;rw[zdQ] at I;have C:∀r,(Value.slice Aa (zal (zai n bs) k).length ca).ownBlock=some r→E.heap.size≤r∧r<V0.heap.size:=fun r e=>I.lt r e;have hvwl:∀r,(Value.slice m ((zal (zai n bs) k).length+1) q).ownBlock=some r→r<V0.heap.size:=fun r e=>(zw.lt r e).2;have hgpl2:=(zp.lt f rfl).2;have zp_lt:∀r,(Value.slice (some ⟨f,0,none⟩) bs.length P).ownBlock=some r→r<V0.heap.size:=fun r e=>(zp.lt r e).2;have hb7l2:=zpb.lt;have hszV:=zm.1.size;have ZM:=hid zm;have ZPB:=hid zpb;have ZP:=hid zp;have ZWB:=hid zwb;have ZW:=hid zw;have ZAB:=hid zab;have HVS:=hid I;have HVO:=hid hvo;clear zm zpb zp zwb zw zab I hvo hvl4;refine zac (fun V=>V.cell? ⟨a+1,0,none⟩=some (.slice Aa (zal (zai n bs) k).length ca)∧V.cell? ⟨Q,0,none⟩=some (.slice (some ⟨f,0,none⟩) bs.length P)) [5] (by kernel_rfl) (by rw[hV0];exact ⟨z0,z1⟩) (fun t=>?_);rw[hV0] at t ⊢;refine tx 0 (v:=?_) t ?_ ?_
 rotate_left
 ·intro w' M;obtain ⟨q1,q2⟩:=M;go_simp;try with_reducible rfl
 refine tx 1 (v:=?_) t ?_ ?_
 rotate_left
 ·intro w' M;obtain ⟨q1,q2⟩:=M;go_simp;try with_reducible rfl
 refine stp 2 fun K B=>?_;refine ziV V0 rfl (.const (.slice none 0 0)) (.tmp 18) zg7 rfl E.heap.size (.slice none 0 0) 0 [] rfl (World.ownsRow_nil _ _ _ _) (fun _=>True) (.slice (some ⟨f,0,none⟩) bs.length P) bs.length (ints (zaN n bs (k+1))) rfl ((Sl.of_own ZP.out).any) (by simp[ints,Value.oneCell']) (by omega) (by unfold maxLen;omega) (by omega) ?_;intro A5 c5 w5 c S H;rw[Nat.zero_add] at c H ⊢;refine B.out _ _ ?_ (fun t=>?_)
 ·exact ⟨S.cell z0 (fun e=>by cases e),S.cell z1 (fun e=>by cases e)⟩
 clear B K
 try simp only[Act.put,pb,pz,ps]
 obtain ⟨g5,hA5⟩:∃g5,A5=some ⟨g5,0,none⟩:=by
  obtain ⟨g5,c5',hform,_,_⟩:=World.ownsRow.form c (by omega);injection hform with F _ _
  exact ⟨g5,F⟩
 subst hA5;have hg5e:g5=V0.heap.size:=by
  rcases H with e|e
  ·cases e
  ·injection e
 subst hg5e;rw[List.nil_append] at c;have s:=hid S;have HO5:=hid c;have hs5:=S.size;have hlt5:=(c.lt _ rfl).2;clear S c H;refine stp 3 fun K B=>?_;go_simp;refine B.out _ _ ?_ (fun t=>?_)
 ·exact ⟨za9 t.1 _,za9 t.2 _⟩
 clear B K
 try simp only[Act.put,pb,pz,ps]
 refine stp 4 fun K B=>?_;refine ziV (w5.alloc (.cells #[.slice (some ⟨V0,0,none⟩) bs.length c5] 340)) rfl (.tmp 17) (.tmp 20) zsA rfl E.heap.size (.slice Aa (zal (zai n bs) k).length ca) (zal (zai n bs) k).length vs rfl (zbl (zaY HVS.out s.out (fun r e=>by cases e)) _) (fun _=>True) (.slice (some ⟨w5,0,none⟩) 1 1) 1 [.slice (some ⟨V0,0,none⟩) bs.length c5] rfl (Sl.blk (sz:=1) (cs:=#[.slice (some ⟨V0,0,none⟩) bs.length c5]) (Blk.new w5 340 _) (Nat.le_refl 1) (by unfold maxLen;omega) rfl) (by simp[Value.oneCell']) (by omega) (by unfold maxLen;omega) (by simp;omega) ?_;intro A6 c6 w6 aa T X;refine B.out _ _ ?_ (fun t=>?_)
 ·exact ⟨T.cell t.1 (fun e=>by have:=(C _ e.symm).1;simp at this;omega),T.cell t.2 (fun e=>ad e.symm)⟩
 clear B K
 try simp only[Act.put,pb,pz,ps]
 have G:=hid T;have HO6:=hid aa;have HL6:=hid X;have HA6:=hid (show Blk w6 (a+1) 344 #[.slice Aa (zal (zai n bs) k).length ca] from ((ZAB.out.grown s.out (fun e=>by cases e)).alloc _).grown T (fun e=>by have:=(C _ e.symm).1;omega));clear T aa X;refine stf 5 fun K B=>?_;have f1:=HA6.out.frozen 0;have f2:=HA6.out.cell 0;go_simp;refine B.out _ _ ?_;clear B K
 try simp only[Act.put,pb,pz,ps]
 refine zaa (by kernel_rfl) ?_ _;go_wp2_with fail
 go_end0
 refine ⟨⟨_,rfl⟩,?_⟩;have hs5L:(w5.alloc (.cells #[.slice (some ⟨V0,0,none⟩) bs.length c5] 340)).heap.size=w5.heap.size+1:=by simp
 have hs6:=G.out.size;rw[hs5L] at hs6;have hmw:zal (zai n bs) (k+1)=zal (zai n bs) k++[(k:Int)]:=zk7 HWIN.out;have Y:(zal (zai n bs) (k+1)).length=(zal (zai n bs) k).length+1:=by rw[hmw];simp
 have hrw:zbt n bs (k+1)=zbt n bs k++[zaN n bs (k+1)]:=by
  show (if zc6 (zai n bs) k=true then _ else _)=_
  rw[if_pos HWIN.out]
 have hp5:=zbl (zaY ZP.out s.out (fun r e=>by cases e)) (.cells #[.slice (some ⟨V0,0,none⟩) bs.length c5] 340);have hw5:=zbl (zaY ZW.out s.out (fun r e=>by cases e)) (.cells #[.slice (some ⟨V0,0,none⟩) bs.length c5] 340);have hv5:=zbl (zaY HVS.out s.out (fun r e=>by cases e)) (.cells #[.slice (some ⟨V0,0,none⟩) bs.length c5] 340);have hpl1:(zaN n bs (k+1)).length=bs.length:=zhn HI.out (zav.wf HX.out) (by omega);refine ⟨some ⟨f,0,none⟩,P,m,q,A6,c6,?_,hb7,h63,?_,?_,?_,?_,?_,?_,?_⟩
 ·exact (((ZM.out.grown s.out (fun r e=>by cases e) (by omega)).trans_grow (qA _) (by omega)).grown G.out (fun r e=>by have:=(C r e).1;omega) (by omega)).set (p:=⟨a+1,0,none⟩) (by simp) (by simp) _
 ·rw[Y]
  rcases HL6.out with e|e
  ·rw[e];exact ad
  ·rw[e,hs5L];intro e';injection e' with e';omega
 ·exact (((ZPB.out.grown s.out (fun e=>by cases e)).alloc _).grown G.out (fun e=>ad e.symm)).far (p:=⟨a+1,0,none⟩) (by simp;omega) _
 ·exact zaY (zaY hp5 G.out (fun r e=>own_ne hv5 hp5 (by decide) e)) (grownBy_setCell w6 ⟨a+1,0,none⟩ _) (fun r e N=>by have:=(hp5.lt r N).1;simp at e;omega)
 ·rw[Y];exact (((ZWB.out.grown s.out (fun e=>by cases e)).alloc _).grown G.out (fun e=>by have:=(C _ e.symm).1;omega)).far (p:=⟨a+1,0,none⟩) (by simp) _
 ·rw[Y,hmw];have F:=zaY (zaY hw5 G.out (fun r e=>own_ne hv5 hw5 (by decide) e)) (grownBy_setCell w6 ⟨a+1,0,none⟩ (.slice A6 ((zal (zai n bs) k).length+1) c6)) (fun r e N=>by have:=(hw5.lt r N).1;simp at e;omega)
  simpa [ints] using F
 ·rw[Y];exact HA6.out.set_ 0 _
 ·rw[Y,hrw];have hsn:=zcw.snoc (not:=fun b=>b=Q∨(Value.slice (some ⟨f,0,none⟩) bs.length P).ownBlock=some b∨(Value.slice m ((zal (zai n bs) k).length+1) q).ownBlock=some b) (l:=zaN n bs (k+1)) (zdQ n bs k) hv5
   (fun j l hj=>let ⟨u,hu,hl⟩:=HVO.out j l hj;⟨u,hu,(hl.grown s.out (fun b _ _ e=>by cases e)).alloc _⟩)
   (by
    rw[hpl1];refine ((Sl.of_own HO5.out).alloc _).mono fun b _ hb=>?_;have hbe:b=V0.heap.size:=by injection hb with hb;exact hb.symm
    subst hbe;refine ⟨by omega,fun h=>?_,fun e=>by have:=(C _ e).2;omega⟩
    rcases h with h|h|h
    ·omega
    ·have:=(zp_lt _ h);omega
    ·have:=hvwl _ h;omega)
   HO6.out G.out HL6.out
  exact hsn.grown (grownBy_setCell w6 ⟨a+1,0,none⟩ _) (fun r e=>by
   have e':a+1=r:=by simpa using e
   refine ⟨.inl (by omega),fun N=>?_⟩;have:=(HO6.out.lt r N).1
   omega)
theorem Mid.won {a b:Nat} {w w':World} {lo g:Nat} {n:Int} {v:Value} {bs:List (List Off)} {A:Option Addr} {cap:Nat} (hm:Mid a b w w') (h:zbw w lo g n v bs A cap) (hb:b≤lo):zbw w' lo g n v bs A cap:=
 ⟨h.1,hm.blk h.2.1 (lT hb h.1),by
  obtain ⟨h1,h2⟩:=h.2.2;refine ⟨h1,h2.imp id ?_⟩;rintro ⟨gg,cc,cur,e,hgg,hcur,hrest⟩;exact ⟨gg,cc,cur,e,hgg,(hm.2 gg (by omega) (Blk.lt hcur)).trans hcur,hrest⟩⟩
theorem zcI.skip {w c:World} {a d:Nat} {n:Int} {bs:List (List Off)} {k:Nat} (h:zcI w c a d n bs k) (b:zc6 (zai n bs) k=false):zcI w c a d n bs (k+1):=by
 unfold zcI at h ⊢;have e:zaN n bs (k+1)=zaN n bs k:=by
  show zdB n bs (zaN n bs k) k=_
  unfold zdB;rw[if_neg (by rw[b];simp)]
 have f:zbt n bs (k+1)=zbt n bs k:=by
  show (if zc6 (zai n bs) k=true then _ else _)=_
  rw[if_neg (by rw[b];simp)]
 rw[zmo b,e,f];exact h
def zhz (n:Int) (bs:List (List Off)):List Int:=if zaj n bs=0 then zal (zai n bs) bs.length else []
def zeP (n:Int) (bs:List (List Off)):List (List Int):=if zaj n bs=0 then zbt n bs bs.length else []
theorem zkY (n:Int) (bs:List (List Off)):(zeP n bs).length=(zhz n bs).length:=by
 unfold zeP zhz
 split
 ·exact zdQ _ _ _
 ·rfl
def Shared (w:World) (lo b4 b3:Nat) (who:List Int) (rows:List (List Int)):Prop:=
 ∃(Aw:Option Addr) (cw:Nat) (Aa:Option Addr) (ca:Nat) (vs:List Value),lo≤b4∧lo≤b3∧Blk w b4 36 #[.slice Aw who.length cw]∧Sl w (lo≤·) (.slice Aw who.length cw) who.length 1 (ints who)∧
  Blk w b3 344 #[.slice Aa who.length ca]∧Sl w (lo≤·) (.slice Aa who.length ca) who.length 1 vs∧∀(j:Nat) (l:List Int),rows[j]? =some l→∃u,vs[j]? =some u∧Sl w (lo≤·) u l.length 1 (ints l)
theorem zcI.shared {w r:World} {a s:Nat} {n:Int} {bs:List (List Off)} {k:Nat} (h:zcI w r a s n bs k):Shared w a (a+2) (a+1) (zal (zai n bs) k) (zbt n bs k):=by
 obtain ⟨D,E,q,v,p,t,m,y,x,o,A,B,g,i,d,C,c,f⟩:=h;rw[zdQ] at c;exact ⟨q,v,p,t,C,by omega,by omega,g,(Sl.own_from i).mono (fun b _ e=>by omega),d,(Sl.own_from c).mono (fun b _ e=>by omega),fun j l z=>let ⟨u,hu,hl⟩:=f j l z;⟨u,hu,hl.mono fun b _ e=>by have:=e.1;omega⟩⟩
theorem zlB (n:Int) (bs:List (List Off)) (v:Value) (R:Nat→Prop) (w:World) (U:zav w R v bs) (N:zaj n bs=0):
  Calls Tryz.prog 285 #[.agg #[n,v]] w fun e w'=>∃b4 b3,e=.returned (.func (.func 291) #[] #[.pointer (some ⟨b4,0,none⟩),.pointer (some ⟨b3,0,none⟩)])∧Shared w' w.heap.size b4 b3 (zhz n bs) (zeP n bs)∧Below w w w':=by
 obtain ⟨vs,⟨_,A,f,rfl,_⟩,_⟩:=id U;have HB:=hid U;have HI:=hid N;have ak:=zav.wf U;have hl32:=(zaE N).2.2.1;have Q:zhz n bs=zal (zai n bs) bs.length:=by unfold zhz;rw[if_pos N]
 have P:zeP n bs=zbt n bs bs.length:=by unfold zeP;rw[if_pos N]
 rw[Q,P];clear U N Q P ak;obtain ⟨y,c⟩:=nm ((((w.alloc (.cells #[n,.slice A bs.length f] 368)).alloc (.cells #[.slice none 0 0] 344)).alloc (.cells #[.slice none 0 0] 36)));have ah:=hid (show Blk y w 368 #[n,.slice A bs.length f] from by rw[c];exact ((Blk.new w _ _).alloc _).alloc _);have X:=hid (show Blk y (w.heap.size+1) 344 #[.slice none 0 0] from by rw[c];exact (Blk.new' _ _ (by simp)).alloc _);have ae:=hid (show Blk y (w.heap.size+2) 36 #[.slice none 0 0] from by rw[c];exact Blk.new' _ _ (by simp));have C:=hid (show Below w w y from by rw[c];exact ((qA _).alloc (by simp) _).alloc (by simp;omega) _);have hs0:y.heap.size=w.heap.size+3:=by rw[c];simp
 go_enter Tryz.func285,Tryz.ntmps285;go_wp2_with fail
 rw[←c];clear c;refine (zsk n bs _ R _ (HB.out.grow C.out) HI.out).mono ?_;rintro e I ⟨g,AB,cB,rfl,B,E⟩;have af:=hid B;have Z:=hid E;have hs1:=E.size;clear E B;go_wp2_with fail
 obtain ⟨q,h⟩:=nm (I.alloc (.cells #[.pointer (some ⟨g,0,none⟩)] 384));have V:=hid (show Blk q I 384 #[.pointer (some ⟨g,0,none⟩)] from by rw[h];exact Blk.new I _ _);have m:=hid (show Below y y q from by rw[h];exact Z.out.alloc (by omega) _);have x:=hid (show zbw q y.heap.size g n (.slice A bs.length f) bs AB cB from by rw[h];exact af.out.grow (qA _));have hs6:q.heap.size=I.heap.size+1:=by rw[h];simp
 have L:zav q (·<w.heap.size+1) (.slice A bs.length f) bs:=(zav.keep' (HB.out.mono (R':=(·<w.heap.size)) fun _ F _=>F) (C.out.trans (m.out.mono (by omega)))).mono fun b _ hb=>Nat.lt_succ_of_lt hb;have ai:=hid L;have aj:=hid (ah.out.grow m.out);have Y:=hid (X.out.grow m.out);have ag:=hid (ae.out.grow m.out);have c5:q.cell? ⟨I,0,none⟩=some (.pointer (some ⟨g,0,none⟩)):=V.out.cell 0;have cb:=x.out.cb;rw[←h];clear h L
 go_step3
 go_wp2_with (at_builtin;go_must (refine zbj _ rfl (.const (.slice none 0 0)) (.tmp 20) zg7 rfl q.heap.size (.slice none 0 0) 0 [] rfl (World.ownsRow_nil _ _ _ _) _ _ bs.length (ints (zay n bs)) rfl x.out.sl (by simp[ints,Value.oneCell']) (by omega) (by unfold maxLen;omega) (by omega) ?_);intro S T J a M s;rw[Nat.zero_add] at a s ⊢;rw[List.nil_append] at a;have ab:=hid a;have o:=hid M;clear a M s)
 have hs7:=o.out.size;have t:zcI (J.alloc (.cells #[.slice S bs.length T] 340)) q w.heap.size J.heap.size n bs 0:=by
  refine ⟨S,T,none,0,none,0,((Mid.refl _ _ _).grown o.out (fun r e=>by cases e) (by omega)).trans_grow (qA _) (by omega),by omega,by omega,(fun e=>by cases e),Blk.new J _ _,zbl ab.out _,?_,World.ownsRow_nil _ _ _ _,?_,?_⟩
  ·exact (ag.out.grown o.out (fun e=>by cases e)).alloc _
  ·exact (Y.out.grown o.out (fun e=>by cases e)).alloc _
  ·exact ⟨[],World.ownsRow_nil _ _ _ _,fun j l hj=>by simp[zbt] at hj⟩
 have al:(J.alloc (.cells #[.slice S bs.length T] 340)).cell? ⟨w,1,none⟩=some (.slice A bs.length f):=((aj.out.grown o.out (fun e=>by cases e)).alloc _).cell 1;obtain ⟨W8,K⟩:=nm (J.alloc (.cells #[.slice S bs.length T] 340));rw[←K] at t al ⊢;have ad:=hid t;clear K t
 go_step3
 go_wp2_with fail
 go_loopw [26] (fun i wr=>∃k:Nat,k≤bs.length∧i=.int .i64 k∧zcI wr q w.heap.size J.heap.size n bs k) (fun i _=>bs.length-(intOf i).toNat)
 case atStart=>exact ⟨0,zL,rfl,ad.out⟩
 case round=>
  obtain ⟨k,hk,rfl,G⟩:=hrel;have d:Mid (w.heap.size+1) (w.heap.size+3) q wr:=by obtain ⟨_,_,_,_,_,_,hm,_⟩:=G;exact hm
  have D:=hid G;have d5:wr.cell? ⟨I,0,none⟩=some (.pointer (some ⟨g,0,none⟩)):=(d.blk V.out (by omega)).cell 0;have H:=d.won x.out (by omega);have aa:=hid d;clear G d;by_cases F:k<bs.length
  ·have O:k<32:=by omega
   have dw:=H.cw O;have e0:(0:Int)≤(k:Int):=by omega
   have e1:(k:Int)<32:=by omega
   clear H
   cases hwin:zc6 (zai n bs) k with
   |true=>
    rw[hwin] at dw;have p:=hid hwin;clear hwin
    go_wp2_with (go_at_call 289;go_must (refine (zoq n bs (.slice A bs.length f) w.heap.size I.heap.size J.heap.size g y.heap.size AB cB k F p.out HI.out wr q D.out ai.out V.out (by omega) x.out (by omega)).mono ?_);rintro e w9 ⟨⟨r9,rfl⟩,z⟩;have ac:=hid z;clear z)
    go_roundw
    case rel=>exact ⟨k+1,by omega,by go_num,ac.out⟩
    case measure=>simp[intOf];omega
   |false=>
    rw[hwin] at dw;have p:=hid hwin;clear hwin;go_wp2_with fail
    go_roundw
    case rel=>exact ⟨k+1,by omega,by go_num,D.out.skip p.out⟩
    case measure=>simp[intOf];omega
  ·obtain rfl:k=bs.length:=by omega
   clear H;go_wp2_with fail
   rw[Exit.noGoto_normal];go_wp2_with fail
   go_ret;exact ⟨_,_,rfl,D.out.shared,C.out.trans ((m.out.mono (by omega)).trans (aa.out.1.mono (by omega)))⟩
end Vb
namespace Vb
open Go.RowKit Go.Shelf
attribute [local go_sem] Oper.semAt_some
structure GoesI (B bn m c':Nat) (A':Option Addr) (pv:Value) (L:List (Int×Int)) (ps:List Int) (leave:Int) (pre:List (Int×Int)) (W:World):Prop where
 pre_:pre<+:L
 p2:W.cell? ⟨B,2,none⟩=some pv
 lv:W.cell? ⟨B+1,0,none⟩=some (.int .i64 leave)
 rs:W.cell? ⟨B+2,0,none⟩=some (.bool false)
 rf:W.frozen? ⟨B+2,0,none⟩=false
 wh:W.cell? ⟨B+3,0,none⟩=some (.slice A' L.length c')
 nn:W.cell? ⟨bn,0,none⟩=some (.int .i64 pre.length)
 nf:W.frozen? ⟨bn,0,none⟩=false
 row:Sl W (fun b=>b≠bn∧b≠B+2) (.slice A' L.length c') L.length 1 (ints (L.map (·.1)))
 pay:Sl W (fun b=>b≠bn∧b≠B+2) pv m 1 (ints ps)
end Vb
namespace Vb
open Go.RowKit Go.Shelf
def zkx {α:Type} (F:Fence) (n:Nat) (P:Program) (g:Nat) (lb:Array Value) (encs:α→Array Value) (Kp:World→World→Prop) (V:Nat→α→World→Prop) (S Sp:List α→Prop) (N:Nat) (w:World):Prop:=
 ∀(l:Nat) (J Jx:List α→World→Prop) (W:World),Below w w W→AbidesFrom W.heap.size J→AbidesFrom W.heap.size Jx→
  (∀pre x W1,J pre W1→V W.heap.size x W1→Sp (pre++[x])→pre.length<N→YieldAt F (n-1) P l (encs x) W1 fun e W'=>
   (e=.returned (.bool true)∧J (pre++[x]) W'∧Kp W1 W')∨(e=.returned (.bool false)∧Jx (pre++[x]) W'))→
  J [] W→
  CallsIn F n P g (#[.func (.yield l) #[] #[]]++lb) W fun e W'=>(∃v,e=.returned v)∧((∃xs,S xs∧J xs W')∨(∃pre,Sp pre∧Jx pre W'))
def zak (W:World) (b:Nat) (L:Loop):Prop:=W.heap[b+1]? =some (.loop L)∧W.heap[b]? =some (.deferred (some []))
theorem zak.abides {A B:World} {b:Nat} {L:Loop} {row:Option Nat} (h:zak A b L) (hg:A.grownBy B row) (hr:∀r,row=some r→∃o:Obj,A.heap[r]? =some o∧o.isWalk=true):zak B b L:=
 ⟨(grownBy_keeps hg hr h.1 rfl).trans h.1,(grownBy_keeps hg hr h.2 rfl).trans h.2⟩
theorem zak.put {W:World} {b:Nat} {L L':Loop} (h:zak W b L):zak (W.putObj (b+1) (.loop L')) b L':=
 ⟨World.putObj_heap_same (Array.getElem?_eq_some_iff.1 h.1).1,(World.putObj_heap_other (by omega)).trans h.2⟩
theorem zak.others {A B:World} {b:Nat} {L:Loop} (h:zak A b L) (hk:KeepsOthers A B):zak B b L:=⟨hk.same _ _ h.1 rfl,hk.same _ _ h.2 rfl⟩
variable {F:Fence} {n:Nat} {P:Program}
theorem zi2 {α:Type} {g:Operand} {ps:Array Tmp} {assign body:Code} {Q:Exit→Act→World→Prop} {a:Act} {w:World}
  (hro:F.round=none) (h1:1≤n) {gf:Nat} {lb:Array Value} (hg:a.eval g=.func (.func gf) #[] lb) (hFg:F.fn gf) (eg:∀args w,(callFunc gf args).run P w=.ok (.enter gf args) w)
  {m:α→Array Value} {O:World→World→Prop} {V:Nat→α→World→Prop} {S Sp:List α→Prop} {N:Nat} {w0:World} (hseq:zkx F (n-1) P gf lb m O V S Sp N w0)
  (hKt:∀{A B C:World},O A B→O B C→O A C) (hKb:∀(W:World) (l:Nat) (o o':Obj),w.heap.size≤l→W.heap[l]? =some o→o.isCells=false→o.isWalk=false→O W (W.putObj l o')) (hb0:Below w0 w0 w) (hps:∀x,(m x).size=ps.size)
  (hV:OwnFrom w.heap.size (V (w.heap.size+2)))
  (I:List α→World→Prop) (Ix:Code→List α→World→Prop) (hI:OwnFrom w.heap.size I) (z:∀c,OwnFrom w.heap.size (Ix c)) (h0:I [] w) (a₁:α→Act)
  (E:∀(l:Nat) (x:α) (W:World) (K:Act→World→Prop),K (a₁ x) W→
   assign.wpIn (F.inRound l) (n-1-1) P (Exit.then K (fun _ _ _=>False)) {tmps:=(ps.zip (m x)).foldl (fun t (p,v)=>t.setIfInBounds p v) a.tmps,defers:=[]} W)
  (T:∀(l:Nat) (pre:List α) (x:α) (W:World),I pre W→V (w.heap.size+2) x W→Sp (pre++[x])→pre.length<N→body.wpIn (F.inRound l) (n-1-1) P (ownPostK O I Ix (pre++[x]) W) (a₁ x) W)
  (Y:∀(D:Nat) (xs:List α) (W:World),w.heap.size≤D→S xs→I xs W→W.heap[D]? =some (.deferred (some []))→Q .normal {a with defers:={target:=.collected D,args:=#[]}::a.defers} W)
  (aa:∀(D:Nat) (c:Code) (pre:List α) (W:World),w.heap.size≤D→Sp pre→Ix c pre W→W.heap[D]? =some (.deferred (some []))→c.wpIn F n P Q {a with defers:={target:=.collected D,args:=#[]}::a.defers} W):
  (Code.rangeFunc g ps assign body).wpIn F n P Q a w:=by
 refine wpIn_rangeFunc fun fn hfn=>?_;rw[hro];obtain ⟨L,R⟩:=nm (fun st pe=>{state:=st,pending:=pe,fn,tmps:=a.tmps,params:=ps,assign,body,defers:=w.heap.size}:LoopState→Option Code→Loop);obtain ⟨U,hU⟩:=nm ((w.alloc (.deferred (some []))).alloc (.loop (L .ready none)));have hRU:zak U w.heap.size (L .ready none):=by
  subst hU
  constructor
  ·have:=World.alloc_heap_new (w.alloc (.deferred (some []))) (.loop (L .ready none))
   rwa [World.size_alloc] at this
  ·exact (Below.heap_alloc _ _ _ (by simp)).trans (World.alloc_heap_new w _)
 have hsU:U.heap.size=w.heap.size+2:=by rw[hU];simp
 have hIU:I [] U:=by subst hU;exact hI.alloc _ (hI.alloc _ h0)
 have hBU:Below w0 w0 U:=by
  subst hU;exact hb0.trans ((((Below.refl _ w).alloc lR _).alloc (by simp) _).mono hb0.size)
 refine ⟨w.heap.size+1,[{target:=.collected w.heap.size,args:=#[]}],U,{target:=.fn (.func gf) lb,args:=#[.func (.yield (w.heap.size+1)) #[] #[]]},U,gf,#[.func (.yield (w.heap.size+1)) #[] #[]]++lb,U,?_,?_,?_,?_,fun _=>h1,?_⟩
 ·rw[hU,R];exact run_enterLoop_outer _ _ _ _ _
 ·simp only[resolve,hg]
  simp[go_sem]
 ·intro f' hf'
  simp[Target.leads] at hf'
  subst hf';exact hFg
 ·simp[invoke,go_sem,eg]
 ·have i:∀{A:World} {k:Option Nat},(∀r,k=some r→U.heap.size≤r∧∃o:Obj,A.heap[r]? =some o∧o.isWalk=true)→∀r,k=some r→w.heap.size≤r∧∃o:Obj,A.heap[r]? =some o∧o.isCells=false:=by
   intro A k f r e;obtain ⟨h1,o,h2,h3⟩:=f r e;exact ⟨by omega,o,h2,Obj.not_cells_of_walk h3⟩
  refine (hseq (w.heap.size+1) (fun pre W=>I pre W∧zak W w.heap.size (L .ready none)) (fun pre W=>∃c,Ix c pre W∧zak W w.heap.size (L .done (some c))) U hBU ?_ ?_ ?_ ⟨hIU,hRU⟩).mono ?_
  ·exact fun s A B k hs G f=>⟨hI s A B k hs.1 G (i f),hs.2.abides G fun r e=>(f r e).2⟩
  ·rintro s A B k ⟨c,hc,b⟩ G f;exact ⟨c,z c s A B k hc G (i f),b.abides G fun r e=>(f r e).2⟩
  ·rintro pre x W ⟨hi,b⟩ hv hsp hlen;rw[hsU] at hv;have J:(L .ready none).state=.ready:=by rw[R]
   have hy:=run_yield (P:=P) (args:=m x) b.1 (by rw[R];exact hps x);rw[R] at hy;refine ⟨fn,_,assign,body,hy,roundIn_of_wpIn hfn (E _ x W _ ⟨_,run_beginRound b.1 J,?_⟩)⟩;have X:zak (W.putObj (w.heap.size+1) (.loop {L .ready none with state:=.busy})) w.heap.size {L .ready none with state:=.busy}:=b.put;have hkb:O W (W.putObj (w.heap.size+1) (.loop {L .ready none with state:=.busy})):=hKb _ _ _ _ (by omega) b.1 rfl rfl;refine wpIn_mono (T _ pre x _ (hI.putObj _ hi (by omega) b.1 rfl) (hV.putObj _ hv (by omega) b.1 rfl) hsp hlen) ?_;have q:∀(d:Option Code) (y:World),KeepsOthers (W.putObj (w.heap.size+1) (.loop {L .ready none with state:=.busy})) y→
     (Instr.endRound (w.heap.size+1) d).run P y=.ok ↑d.isNone (y.putObj (w.heap.size+1) (.loop (L (if d.isNone then .ready else .done) d)))∧
     zak y w.heap.size {L .ready none with state:=.busy}∧zak (y.putObj (w.heap.size+1) (.loop (L (if d.isNone then .ready else .done) d))) w.heap.size (L (if d.isNone then .ready else .done) d):=by
    intro d y Z;have h3:=X.others Z;have f:=run_endRound (P:=P) d h3.1;rw[R] at f h3 ⊢;exact ⟨f,h3,h3.put⟩
   rintro e a3 y H
   cases e with
   |normal=>
    obtain ⟨Z,hkp3,hi3⟩:=H;obtain ⟨f,h,j⟩:=q none y Z;exact ⟨_,_,f,.inl ⟨rfl,⟨hI.putObj _ hi3 (by omega) h.1 rfl,j⟩,hKt (hKt hkb hkp3) (hKb _ _ _ _ (by omega) h.1 rfl rfl)⟩⟩
   |ret=>
    obtain ⟨f,h,j⟩:=q (some .ret) y H.1;exact ⟨_,_,f,.inr ⟨rfl,.ret,(z _).putObj _ H.2 (by omega) h.1 rfl,j⟩⟩
   |exit id=>
    obtain ⟨f,h,j⟩:=q (some (.exit id)) y H.1;exact ⟨_,_,f,.inr ⟨rfl,.exit id,(z _).putObj _ H.2 (by omega) h.1 rfl,j⟩⟩
   |goto t=>
    obtain ⟨f,h,j⟩:=q (some (.goto t)) y H.1;exact ⟨_,_,f,.inr ⟨rfl,.goto t,(z _).putObj _ H.2 (by omega) h.1 rfl,j⟩⟩
   |panic ch=>exact H.elim
   |outgrown=>exact H.elim
  ·have M:∀{st:LoopState} {pe:Option Code} {W2:World},st≠ .busy→zak W2 w.heap.size (L st pe)→∃o,(Instr.endLoop (w.heap.size+1)).run P W2=.ok pe (W2.putObj (w.heap.size+1) o):=by
    intro st pe W2 hst h2;have f:=run_endLoop (P:=P) h2.1 (by rw[R];exact hst);rw[R] at f;exact ⟨_,f⟩
   rintro e W2 ⟨⟨v,rfl⟩,(⟨xs,hS,hi,b⟩|⟨pre,hSp,c,hi,b⟩)⟩
   ·obtain ⟨o,f⟩:=M (by simp) b;exact ⟨none,_,f,Y _ xs _ lR hS (hI.putObj _ hi (by omega) b.1 rfl) ((World.putObj_heap_other (by omega)).trans b.2)⟩
   ·obtain ⟨o,f⟩:=M (by simp) b;exact ⟨some c,_,f,aa _ c pre _ lR hSp ((z c).putObj _ hi (by omega) b.1 rfl) ((World.putObj_heap_other (by omega)).trans b.2)⟩
end Vb
namespace Vb
open Go.RowKit Go.Shelf
attribute [local go_sem] Oper.semAt_some
theorem zfw {F:Fence} {z:Nat} {P:Program} (w:World) {ops:Array Oper} {f:List Oper} {o:Oper} {a:Act} {Q:Exit→Act→World→Prop} (q:o.guard=none) (s x:Operand) {t e:TypeId} {sz bytes:Nat} (E:zbg P t e sz bytes)
  (r:o.op=.call {callee:=.builtin .append,args:=#[s,x],argTypes:=#[t,t]})
  (base:Nat) (v:Value) (n:Nat) (xs:List Value) (H:a.eval s=v) (i:w.ownsRow base e sz v n xs)
  (R:Nat→Prop) (y:Value) (m:Nat) (b:List Value) (I:a.eval x=y) (G:Sl w R y m sz b) (A:∀u∈b,u.oneCell'=true)
  (d:(n+m)*bytes≤140737488355328) (k:n+m≤maxLen) (g:base≤w.heap.size)
  (h:∀A' cap' w',w'.ownsRow base e sz (.slice A' (n+m) cap') (n+m) (xs++b)→w.grownBy w' v.ownBlock→((Value.slice A' (n+m) cap').ownBlock=v.ownBlock∨(Value.slice A' (n+m) cap').ownBlock=some w.heap.size)→wpListIn F z P ops Q f (a.put o.dst (.slice A' (n+m) cap')) w'):wpListIn F z P ops Q (o::f) a w:=by
 refine wpListIn_plain q fun K l=>?_;obtain ⟨A',cap',w',j,B,C,D⟩:=zex (P:=P) w base t o.type e sz bytes E v n xs i R y m b G A d k g;unfold Oper.wpIn;refine ⟨?_,?_⟩
 ·simp[Oper.about,r,resolve,Target.leads,Sem.run_pure]
 ·rw[Oper.semAt_plain F _ _ (by rw[r];intro c p;cases p)]
  simp[execOp,r,resolve,invoke,builtin,H,I,j,Result.andThen]
  exact l _ _ (h A' cap' w' B C D)
structure KeepR (lo hi:Nat) (W W':World):Prop where
 size:W.heap.size≤W'.heap.size
 same:∀i,lo≤i→i<hi→W'.heap[i]? =W.heap[i]?
theorem KeepR.refl (lo hi:Nat) (W:World):KeepR lo hi W W:=⟨lR,fun _ _ _=>rfl⟩
theorem KeepR.trans {lo hi:Nat} {A B C:World} (h:KeepR lo hi A B) (k:KeepR lo hi B C):KeepR lo hi A C:=⟨lT h.size k.size,fun i h1 h2=>(k.same i h1 h2).trans (h.same i h1 h2)⟩
theorem KeepR.grown {lo hi:Nat} {A B C:World} (h:KeepR lo hi A B) (hg:B.grownBy C none) (hB:hi≤B.heap.size):KeepR lo hi A C:=
 ⟨lT h.size hg.size,fun i h1 h2=>(hg.block i (by omega) (fun e=>by cases e)).trans (h.same i h1 h2)⟩
theorem KeepR.cell {lo a:Nat} {A B:World} (h:KeepR lo a A B) {p:Addr} (b:lo≤p.block) (c:p.block<a):B.cell? p=A.cell? p:=by
 unfold World.cell?;rw[h.same p.block b c]
theorem KeepR.sl {lo hi:Nat} {A B:World} (h:KeepR lo hi A B) {v:Value} {n sz:Nat} {xs:List Value} (hs:Sl A (fun b=>lo≤b∧b<hi) v n sz xs):Sl B (fun b=>lo≤b∧b<hi) v n sz xs:=
 hs.keep h.size fun b _ hr=>h.same b hr.1 hr.2
def Told (x:Int×List Int×Value) (b:Nat) (W:World):Prop:=W.ownsRow b 2 1 x.2.2 x.2.1.length (ints x.2.1)
def tells (xs:List (Int×List Int×Value)):List (Int×List Int):=xs.map fun x=>(x.1,x.2.1)
theorem zr5 (B b:Nat):OwnFrom B (fun x W=>Told x b W):=by
 intro x W q p h j m;refine zaY h j fun r e c=>?_;obtain ⟨_,o,l,i⟩:=m r e;obtain ⟨_,h|⟨g,d,f,n,k,a,_⟩⟩:=h
 ·rw[h.1] at c;cases c
 ·rw[n] at c;injection c with c
  simp only at c;subst c;rw[l] at a
  cases a
  cases i
theorem zqb (F:Fence) (nn:Nat) (hf:F.fn 291) (hro:F.round=none) (hn:1≤nn) (l b4 t lo n₀ m cw ca:Nat) (Aw Aa:Option Addr) (d:List Int) (a:List (List Int)) (vs:List Value) (hm:m≤40) (N:d.length=m) (q:a.length=m)
  (h:∀r∈a,r.length≤40) (hb3:t<n₀) (G:lo≤t) (J Jx:List (Int×List Int×Value)→World→Prop) (W:World) (hn0:n₀≤W.heap.size) (hJ:AbidesFrom W.heap.size J)
  (hY:∀pre x W1,J pre W1→Told x W.heap.size W1→tells (pre++[x])<+:d.zip a→pre.length<m→YieldAt F (nn-1) Tryz.prog l #[.int .i64 x.1,x.2.2] W1 fun e W'=>
   (e=.returned (.bool true)∧J (pre++[x]) W'∧KeepR lo n₀ W1 W')∨(e=.returned (.bool false)∧Jx (pre++[x]) W'))
  (h4:W.cell? ⟨b4,0,none⟩=some (.slice Aw m cw)) (h3:W.cell? ⟨t,0,none⟩=some (.slice Aa m ca)) (K:Sl W (fun b=>lo≤b∧b<n₀) (.slice Aw m cw) m 1 (ints d)) (I:Sl W (fun b=>lo≤b∧b<n₀) (.slice Aa m ca) m 1 vs)
  (M:∀(j:Nat) (r:List Int),a[j]? =some r→∃u,vs[j]? =some u∧Sl W (fun b=>lo≤b∧b<n₀) u r.length 1 (ints r)) (h0:J [] W):
  CallsIn F nn Tryz.prog 291 #[.func (.yield l) #[] #[],.pointer (some ⟨b4,0,none⟩),.pointer (some ⟨t,0,none⟩)] W fun e W'=>(∃v,e=.returned v)∧
   ((∃ys,tells ys=d.zip a∧J ys W')∨(∃pre,tells pre<+:d.zip a∧Jx pre W')):=by
 refine callsIn_of_wp Tryz.func291 rfl hf ?_ hro;have HW:=hid N;have Y:=hid q;have y:=hid h;have ab:=hid K;have aa:=hid I;have ad:=hid M;have HY:=hid hY;have U:=hid hJ;have H3:=hid h3;clear N q h K I M hY hJ;simp only[Tryz.ntmps291,List.size_toArray,List.length_cons,List.length_nil,Nat.reduceAdd,Nat.reduceSub,Array.replicate_succ,Array.replicate_zero,List.push_toArray,List.append_toArray,List.nil_append,List.cons_append]
 gi_wp2
 clear h4 h3
 gi_loopw [8] (fun i wr=>∃(k:Nat) (g:List (Int×List Int×Value)),k≤m∧i=.int .i64 k∧tells g=(d.zip a).take k∧J g wr∧KeepR lo n₀ W wr) (fun i _=>m-(intOf i).toNat)
 case atStart=>exact ⟨0,[],zL,rfl,rfl,h0,KeepR.refl _ _ _⟩
 case round=>
  obtain ⟨k,g,hk,rfl,L,A,f⟩:=hrel;have HJ:=hid A;have X:=hid f;have z:=hid L;clear A L;by_cases hlt:k<m
  ·obtain ⟨b1,o1,Q,rfl,_,O,hc1⟩:=(f.sl ab.out).int_at hlt;obtain ⟨r,T⟩:∃r,a[k]? =some r:=⟨_,gE (by rw[Y.out];exact hlt)⟩;obtain ⟨u,hu,s⟩:=ad.out k r T;obtain ⟨_,A3,c3',hv3,_,_,E⟩:=f.sl aa.out;injection hv3 with hA3 _ _
   subst hA3;obtain ⟨b5,o5,rfl,_,_,D⟩:=E (by omega);have d5:=D _ _ hu;have p3:wr.cell? ⟨t,0,none⟩=some (.slice (some ⟨b5,o5,none⟩) m ca):=(f.cell (p:=⟨t,0,none⟩) G hb3).trans H3.out;have ac:=hid (f.sl s);obtain ⟨_,A6,c6,rfl,_⟩:=id s;have q:=y.out r (mG T);have e1:(0:Int)≤(k:Int):=by omega
   have e2:(k:Int)<(m:Int):=by omega
   have hsz:=f.size;have H:n₀≤wr.heap.size:=by omega
   have P:g.length=k:=by
    have:=congrArg List.length z.out
    simp[tells,HW.out,Y.out] at this
    omega
   have hz:(d.zip a)[k]? =some (Q,r):=by rw[List.getElem?_zip_eq_some];exact ⟨O,T⟩
   have HZ:=hid hz;have ae:=hid P;clear E D hu s T O hz P f
   gi_wp2_with (refine zfw _ rfl (.const (.slice none 0 0)) (.tmp 18) zg7 rfl W.heap.size (.slice none 0 0) 0 [] rfl (World.ownsRow_nil _ _ _ _) _ _ r.length (ints r) rfl ac.out (by simp[ints,Value.oneCell']) (by omega) (by unfold maxLen;omega) hsz ?_;intro R S w7 c o _;rw[Nat.zero_add] at c ⊢;rw[List.nil_append] at c;have V:=hid (X.out.grown o H);obtain ⟨fn,tmps,assign,body,hy,C⟩:=HY.out g (Q,r,.slice R r.length S) w7 (U.out g wr w7 none HJ.out o (fun r e=>by cases e)) c (by have:tells (g++[(Q,r,.slice R r.length S)])=(d.zip a).take (k+1):=by {rw [List.take_add_one,HZ.out,←z.out];simp[tells]};rw[this];exact List.take_prefix _ _) (by have:=ae.out;omega);dsimp only at hy;have Z:=hid C;clear c o C)
   refine Z.out.mono ?_;rintro e W3 (⟨rfl,hJ3,hk3⟩|⟨rfl,B⟩)
   ·gi_wp2
    go_roundw
    case rel=>
     refine ⟨k+1,g++[(Q,r,.slice R r.length S)],by omega,by go_num,?_,hJ3,V.out.trans hk3⟩;rw[List.take_add_one,HZ.out,←z.out]
     simp[tells]
    case measure=>simp[intOf];omega
   ·gi_wp2
    refine bodyPost_ret (results_none rfl _ _ _) rfl ?_;refine ⟨⟨_,rfl⟩,.inr ⟨_,?_,B⟩⟩;have:tells (g++[(Q,r,.slice R r.length S)])=(d.zip a).take (k+1):=by
     rw[List.take_add_one,HZ.out,←z.out]
     simp[tells]
    rw[this];exact List.take_prefix _ _
  ·obtain rfl:k=m:=by omega
   clear f
   gi_wp2
   go_end0
   refine ⟨⟨_,rfl⟩,.inl ⟨g,?_,HJ.out⟩⟩;rw[z.out,List.take_of_length_le (by simp[HW.out,Y.out])]
theorem zmf (F:Fence) (nn:Nat) (hf:F.fn 291) (hro:F.round=none) (hn:1≤nn) {w0 w:World} {lo b4 b3:Nat} {who:List Int} {rows:List (List Int)} (h:Shared w0 lo b4 b3 who rows) (hm:who.length≤40) (hrl:rows.length=who.length) (hrow:∀r∈rows,r.length≤40) (hb:KeepR lo w0.heap.size w0 w):
  zkx F nn Tryz.prog 291 #[.pointer (some ⟨b4,0,none⟩),.pointer (some ⟨b3,0,none⟩)] (fun x:Int×List Int×Value=>#[Value.int .i64 x.1,x.2.2]) (KeepR lo w0.heap.size) (fun b x W=>Told x b W) (fun ys=>tells ys=who.zip rows) (fun pre=>tells pre<+:who.zip rows) who.length w:=fun l J Jx W hW hJ _ hY h0=>by
 obtain ⟨Aw,cw,Aa,ca,vs,h1,h2,h3,h4,h5,h6,h7⟩:=h;have hk:KeepR lo w0.heap.size w0 W:=hb.trans ⟨hW.size,fun i _ hi=>hW.block i (by have:=hb.size;omega)⟩;have hR:∀{v:Value} {m sz:Nat} {xs:List Value},Sl w0 (lo≤·) v m sz xs→Sl W (fun b=>lo≤b∧b<w0.heap.size) v m sz xs:=fun hs=>hk.sl (hs.mono fun b hlt hb=>⟨hb,hlt⟩);exact zqb F nn hf hro hn l b4 b3 lo w0.heap.size who.length cw ca Aw Aa who rows vs hm rfl hrl hrow h5.lt h2 J Jx W hk.size hJ hY ((hk.cell (p:=⟨b4,0,none⟩) h1 h3.lt).trans (h3.cell 0)) ((hk.cell (p:=⟨b3,0,none⟩) h2 h5.lt).trans (h5.cell 0)) (hR h4) (hR h6)
  (fun j r hj=>let ⟨u,hu,hs⟩:=h7 j r hj;⟨u,hu,hR hs⟩) h0
theorem zsd (n:Int) (bs:List (List Off)):(zhz n bs).length≤bs.length:=by
 unfold zhz
 split
 ·exact zk6 _ _
 ·simp
theorem zmP {n:Int} {bs:List (List Off)} (b:zaj n bs=0) (a:∀l∈bs,∀o∈l,o.wf) {r:List Int} (h:r∈zeP n bs):r.length=bs.length:=by
 unfold zeP at h;rw[if_pos b] at h;obtain ⟨j,c,rfl⟩:=zgH h;exact zhn b a c
theorem zir (n:Int) (bs:List (List Off)):∀k,(zbt n bs k).getLastD (zay n bs)=zaN n bs k
 |0=>rfl
 |k+1=>by
  unfold zbt
  split
  ·simp
  ·rename_i hw
   rw[zir n bs k]
   show _=zdB n bs (zaN n bs k) k
   unfold zdB;rw[if_neg hw]
theorem zsJ {lo hi:Nat} {A B C:World} (h:KeepR lo hi A B) (k:KeepR lo hi B C):KeepR lo hi A C:=h.trans k
theorem zsI {lo hi:Nat} {w:World} (hn:hi≤w.heap.size) (W:World) (l:Nat) (o o':Obj) (hl:w.heap.size≤l) (_:W.heap[l]? =some o) (_:o.isCells=false) (_:o.isWalk=false):KeepR lo hi W (W.putObj l o'):=
 ⟨by simp,fun i _ h2=>World.putObj_heap_other (by omega)⟩
theorem KeepR.set {lo hi:Nat} (W:World) {p:Addr} (hp:p.block<lo∨hi≤p.block) (u:Value):KeepR lo hi W (W.setCell p u):=
 ⟨by simp[World.setCell],fun i h1 h2=>Below.heap_setCell W p u i (by omega)⟩
theorem zfI {W W':World} {d:Option Nat} {b:Nat} {e:TypeId} {sz n:Nat} {v:Value} {xs:List Value} (h:W.ownsRow b e sz v n xs) (k:W.grownBy W' d) (p:∀r,d=some r→∃o:Obj,W.heap[r]? =some o∧o.isCells=false):W'.ownsRow b e sz v n xs:=by
 refine zaY h k fun r e c=>?_;obtain ⟨o,m,j⟩:=p r e;obtain ⟨_,h|⟨g,f,i,q,l,a,_⟩⟩:=h
 ·rw[h.1] at c;cases c
 ·rw[q] at c;injection c with c
  simp only at c;subst c;rw[m] at a
  cases a
  cases j
theorem Blk.cells {W W':World} {row:Option Nat} {g:Nat} {t:TypeId} {cs:Array Value} (h:Blk W g t cs) (hg:W.grownBy W' row) (hr:∀r,row=some r→∃o:Obj,W.heap[r]? =some o∧o.isCells=false):Blk W' g t cs:=
 h.grown hg fun e=>by
  obtain ⟨o,ho,hc⟩:=hr g e.symm;unfold Blk at h;rw[h] at ho
  cases ho
  cases hc
def lastT (d:List Int) (xs:List (Int×List Int×Value)):List Int:=((tells xs).map (·.2)).getLastD d
theorem zju (d:List Int) (xs:List (Int×List Int×Value)) (x:Int×List Int×Value):lastT d (xs++[x])=x.2.1:=by
 simp[lastT,tells]
theorem zps {n:Int} {bs:List (List Off)} (a:zaj n bs=0) {xs:List (Int×List Int×Value)} (h:tells xs=(zhz n bs).zip (zeP n bs)):lastT (zay n bs) xs=zaN n bs bs.length:=by
 unfold lastT;rw[h,←List.unzip_snd,List.unzip_zip (by rw[zkY])];unfold zeP;rw[if_pos a];exact zir _ _ _
def zts (lo g:Nat) (d:List Int) (xs:List (Int×List Int×Value)) (W:World):Prop:=
 ∃A' c',Blk W g 340 #[.slice A' (lastT d xs).length c']∧W.ownsRow lo 2 1 (.slice A' (lastT d xs).length c') (lastT d xs).length (ints (lastT d xs))
theorem zry (lo g:Nat) (d:List Int):Own (zts lo g d):=fun _ _ _ _ ⟨A',c',h1,h2⟩ hg hr=>⟨A',c',h1.cells hg hr,zfI h2 hg hr⟩
theorem znE (n:Int) (bs:List (List Off)) (v:Value) (R:Nat→Prop) (w:World) (Q:zav w R v bs) (hi:zaj n bs=0):
  Calls Tryz.prog 278 #[.agg #[n,v]] w fun e w'=>∃A' c',e=.returned (.tuple #[.slice A' bs.length c',()])∧w'.ownsRow w.heap.size 2 1 (.slice A' bs.length c') bs.length (ints (zaN n bs bs.length))∧Below w w w':=by
 obtain ⟨_,⟨_,A,ae,rfl,_⟩,_⟩:=id Q;have HB:=hid Q;have B:=hid hi;have C:=hid (zav.wf Q);have hl32:=(zaE hi).2.2.1;clear Q hi;refine (callsIn_wide (n:=3)).1 (callsIn_of_wp_marks Tryz.func278 rfl trivial ((wpIn_wide (n:=3)).2 ?_));simp only[Tryz.ntmps278,List.size_toArray,List.length_cons,List.length_nil,Nat.reduceAdd,Nat.reduceSub,Array.replicate_succ,Array.replicate_zero,List.push_toArray,List.append_toArray,List.nil_append,List.cons_append];go_wp2_with fail
 refine (zsk n bs _ R _ (HB.out.alloc _) B.out).mono ?_;rintro e i ⟨g,y,z,rfl,t,b⟩;have HX1:=hid (zcY b).1;have T:=hid (zcY b).2.2;have hs1:=(zcY b).2.1;have ab:=hid t;have hcb:=t.cb;have J:i.cell? ⟨w,0,none⟩=some ↑n:=(zcY b).1.cell 0;have M:i.cell? ⟨w,1,none⟩=some (.slice A bs.length ae):=(zcY b).1.cell 1;clear t b;have L:=za9 J (.cells #[.slice y bs.length z] 340);have N:=za9 M (.cells #[.slice y bs.length z] 340);go_wp2_with fail
 obtain ⟨P,a⟩:=nm (i.alloc (.cells #[.slice y bs.length z] 340));have Y:=hid (show Blk P i 340 #[.slice y bs.length z] from by rw[a];exact Blk.new i _ _);have ac:=hid (show P.ownsRow (w.heap.size+1) 2 1 (.slice y bs.length z) bs.length (ints (zay n bs)) from by rw[a];exact zbl (by simpa using ab.out.2.2) _);have q:=hid (show Below w w P from by rw[a];exact T.out.alloc (by omega) _);have hs2:P.heap.size=i.heap.size+1:=by rw[a];simp
 rw[←a];clear a J M L N;refine (zlB n bs _ R _ (HB.out.grow q.out) B.out).mono ?_;rintro e w3 ⟨b4,b3,rfl,I,f⟩;have Z:=hid (Y.out.grow f);have ad:=hid (zbQ ac.out f);have U:=hid (q.out.trans (f.mono q.out.size));have aa:=hid I;have hs3:=f.size;clear f I;go_wp2_with fail
 refine (wpIn_wide (n:=3)).1 ?_;refine' zi2 (F:=Fence.wide) (n:=3) rfl (by omega) (gf:=291) (lb:=#[.pointer (some ⟨b4,0,none⟩),.pointer (some ⟨b3,0,none⟩)]) rfl trivial (enters_of Tryz.func291 (by kernel_rfl) rfl)
  (zmf Fence.wide 2 trivial rfl (by omega) aa.out (by have:=zsd n bs;omega) (zkY n bs) (fun r hr=>by rw[zmP B.out C.out hr];omega) (KeepR.refl _ _ _)) zsJ (zsI lR) bR (fun _=>rfl) (zr5 _ _)
  (fun k W=>zts w.heap.size i.heap.size (zay n bs) k W∧Below w w W)
  (fun _ _ _=>False)
  (OwnFrom.and (Own.from (zry _ _ _) _) (ownFrom_below lR (by omega)))
  (fun c=>fun _ _ _ _ h _ _=>h)
  ⟨⟨y,z,?b1,?b2⟩,U.out⟩ _ ?assign ?body ?done ?stop
 case b1=>rw[show (lastT (zay n bs) []).length=bs.length from za5 n bs];exact Z.out
 case b2=>rw[show (lastT (zay n bs) []).length=bs.length from za5 n bs];exact zbH ad.out (by omega)
 case assign=>
  intro l x W K G
  gi_wp2
  exact G
 case body=>
  rintro l k x W ⟨⟨A',c',m,d⟩,E⟩ hT hsp H;have j:W.ownsRow (w3.heap.size+2) 2 1 x.2.2 x.2.1.length (ints x.2.1):=hT;obtain ⟨xa,xl,xv⟩:=x;obtain ⟨S,cx,O⟩:=zfj j
  dsimp only at O j
  subst O;have p0:W.cell? ⟨i,0,none⟩=some (.slice A' (lastT (zay n bs) k).length c'):=m.cell 0;have p1:=m.frozen 0;have V:=hid m;have HT:=hid j;have s:=hid E;clear m d E hT j hsp H
  dsimp only
  gi_wp2
  refine ⟨KeepsOthers.setCell _ _ _,KeepR.set W (.inl (by simp;omega)) _,⟨S,cx,?_,?_⟩,s.out.setCell (p:=⟨i,0,none⟩) (by simp;omega) _⟩
  ·rw[zju];exact V.out.set_ 0 (.slice S xl.length cx)
  ·rw[zju];exact zbH (ztP HT.out (grownBy_setCell W ⟨i,0,none⟩ (.slice S xl.length cx)) (fun g e=>by simp at e;omega)) (by omega)
 case done=>
  rintro D ys W hD hys ⟨⟨A',c',m,d⟩,E⟩ G;have o:=zhn B.out C.out (Nat.le_refl bs.length);rw[zps B.out hys,o] at m d;have p0:W.cell? ⟨i,0,none⟩=some (.slice A' bs.length c'):=m.cell 0;have HO:=hid d;have s:=hid E;have X:=hid G;clear m d E G o;go_wp2_with fail
  refine ⟨by simp,.inl ⟨_,_,rfl,run_takeDeferred X.out,?_⟩⟩;refine ⟨.tuple #[.slice A' bs.length c',()],by simp[results,Tryz.results278,go_sem],A',c',rfl,zfI HO.out (grownBy_putObj' W D (.deferred none)) (fun r e=>by cases e;exact ⟨_,X.out,rfl⟩),s.out.trans (belowK_b (w:=w) lR W D _ _ (by omega) X.out rfl rfl)⟩
 case stop=>
  rintro D c k W hD hpre2 hf G;exact hf.elim
end Vb
end Go.Proofs.YtckdpejdnejhfaaGreat

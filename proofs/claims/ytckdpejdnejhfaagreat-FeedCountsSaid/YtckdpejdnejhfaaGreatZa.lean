/- Joined by program. -/
import Derived.Test.YtckdpejdnejhfaaGreatRows
import Derived.WalkKit
import Derived.ProofKit
import Derived.Deep.RegionHeld3
import Derived.Deep.QuietTactic
import Derived.BigQuiet
import Derived.Deep.DrawnRows
import Derived.Deep.Draws
import Derived.Lib.Hide
import Derived.Deep.LoopGhost
import Derived.WalkSpells
import Derived.WalkLawsBesides
import Derived.Laws.StructEq
import Derived.Maps.AppendAt
import Derived.Deep.AppendLies
import Derived.Maps.OwnOps
import Derived.Maps.Views
import Derived.Maps.OwnSet
import Derived.RangeFuncNested
import Derived.RangeFuncBound
import Derived.RangeFuncCalls
import Derived.RangeFuncLeaves
import Derived.Shelf.Abstract
import Derived.Shelf.RegionOpen
import Derived.OwnWalkIn
import Derived.TacticsInMore
import Derived.LoopNIn
import Derived.LoopIn
import Derived.Laws.EntriesVeiled
import Derived.Handy
import Derived.WalkSmall
set_option linter.all false
set_option maxRecDepth 100000
set_option maxHeartbeats 32000000
namespace Go.Proofs.YtckdpejdnejhfaaGreat
open Lib (hid)
namespace Vb
open Go.RowKit
theorem zcM {k:IntKind} {a b:Int} (h:a=b):Ending.returned (.int k a)=.returned (.int k b):=by rw[h]
theorem ziR {a b:Bool} (h:a=b):Ending.returned (.bool a)=.returned (.bool b):=by rw[h]
theorem zsU (g:Nat):((g:Int)==0)=(g==0):=by rw[Bool.eq_iff_iff];simp
theorem za9 {w:World} {p:Addr} {v:Value} (h:w.cell? p=some v) (o:Obj):(w.alloc o).cell? p=some v:=
 (World.cell?_alloc_lt w o p (World.block_lt_of_cell? w p h)).trans h
def Sl (w:World) (R:Nat→Prop) (v:Value) (n sz:Nat) (xs:List Value):Prop:=
 xs.length=n*sz∧∃A cap,v=.slice A n cap∧n≤cap∧cap≤maxLen∧
  (0<n→∃b off,A=some ⟨b,off,none⟩∧R b∧b<w.heap.size∧∀j u,xs[j]? =some u→w.cell? ⟨b,off+j,none⟩=some u)
section
variable {w w':World} {R R':Nat→Prop} {v:Value} {n sz:Nat} {xs:List Value}
theorem Sl.keep (h:Sl w R v n sz xs) (p:w.heap.size≤w'.heap.size) (l:∀b,b<w.heap.size→R b→w'.heap[b]? =w.heap[b]?):Sl w' R v n sz xs:=by
 obtain ⟨m,A,c,rfl,f,g,i⟩:=h;refine ⟨m,A,c,rfl,f,g,fun o=>?_⟩;obtain ⟨b,d,rfl,e,a,k⟩:=i o;exact ⟨b,d,rfl,e,Nat.lt_of_lt_of_le a p,fun j u q=>(World.cell?_of_block (l b a e)).trans (k j u q)⟩
theorem Sl.below {B:Nat} (h:Sl w R v n sz xs) (hb:Below B w w') (hR:∀b,b<w.heap.size→R b→b<B):Sl w' R v n sz xs:=
 h.keep hb.size fun b hlt hr=>hb.block b (hR b hlt hr)
theorem Sl.grow (h:Sl w R v n sz xs) (hb:Below w.heap.size w w'):Sl w' R v n sz xs:=h.keep hb.size fun b hlt _=>hb.block b hlt
theorem Sl.alloc (h:Sl w R v n sz xs) (o:Obj):Sl (w.alloc o) R v n sz xs:=h.keep (by simp) fun b hlt _=>Below.heap_alloc w o b hlt
theorem Sl.drew (h:Sl w R v n sz xs):Sl w.drew R v n sz xs:=h
theorem Sl.mono (h:Sl w R v n sz xs) (i:∀b,b<w.heap.size→R b→R' b):Sl w R' v n sz xs:=by
 obtain ⟨l,A,c,rfl,e,f,g⟩:=h;refine ⟨l,A,c,rfl,e,f,fun m=>?_⟩;obtain ⟨b,d,rfl,j,a,k⟩:=g m;exact ⟨b,d,rfl,i b a j,a,k⟩
end
end Vb
namespace Ho
open Go.RowKit
structure LotR where
 (kind opens closes start step extend last floor fall count rule:Int)
 deriving DecidableEq
abbrev LotR.cells (l:LotR):List Value:=[.int .i64 l.kind,.int .i64 l.opens,.int .i64 l.closes,.int .i64 l.start,.int .i64 l.step,.int .i64 l.extend,.int .i64 l.last,.int .i64 l.floor,.int .i64 l.fall,.int .i64 l.count,.int .i64 l.rule]
abbrev LotR.agg (l:LotR):Value:=.agg l.cells.toArray
structure RiseR where
 (leader limit price closes:Int)
 deriving DecidableEq
abbrev RiseR.cells (r:RiseR):List Value:=[.int .i64 r.leader,.int .i64 r.limit,.int .i64 r.price,.int .i64 r.closes]
abbrev RiseR.agg (r:RiseR):Value:=.agg r.cells.toArray
structure RiseB where
 (bidder limit free now:Int)
abbrev RiseB.agg (b:RiseB):Value:=.agg #[.int .i64 b.bidder,.int .i64 b.limit,.int .i64 b.free,.int .i64 b.now]
def zae (c:Int):Bool:=decide (0≤c)&&decide (c≤1099511627776)
def zaT (l:LotR):Bool:=
 decide ((⟨l.kind,0,0,0,0,0,0,l.floor,l.fall,l.count,l.rule⟩:LotR)=⟨1,0,0,0,0,0,0,0,0,0,0⟩)&&
 (zae l.opens&&zae l.closes&&decide (l.opens<l.closes)&&zae l.start&&zae l.step&&decide (1≤l.step)&&zae l.extend&&zae l.last&&decide (l.closes≤l.last))
def zea (l:LotR):RiseR:=⟨-1,0,0,l.closes⟩
def zbs (l:LotR) (r:RiseR):Bool:=
 zaT l&&if r.leader<0 then decide (r=zea l) else zae r.limit&&decide (l.start≤r.price)&&decide (r.price≤r.limit)&&decide (l.closes≤r.closes)&&decide (r.closes≤l.last)
def zhg (l:LotR) (r:RiseR) (b:Int):Int:=if r.leader<0 then l.start else if r.leader=b then r.limit+1 else r.price+l.step
def zb2 (l:LotR) (r:RiseR) (b:RiseB):Int:=
 if !zbs l r||decide (b.bidder<0)|| !zae b.limit||decide (b.free<0)|| !zae b.now then 2
 else if b.now<l.opens∨r.closes≤b.now then 6
 else if b.limit<zhg l r b.bidder then 7
 else if b.bidder=r.leader then (if b.free+r.limit>9223372036854775807 then 0 else if b.free+r.limit<b.limit then 8 else 0)
 else if b.free<b.limit then 8 else 0
def zgh (l:LotR) (r:RiseR) (b:RiseB):RiseR:=
 let r1:RiseR:=
  if r.leader<0 then {r with leader:=b.bidder,limit:=b.limit,price:=l.start}
  else if r.leader=b.bidder then {r with limit:=b.limit}
  else if r.limit<b.limit then {r with leader:=b.bidder,limit:=b.limit,price:=min (r.limit+l.step) b.limit}
  else {r with price:=min (b.limit+l.step) r.limit}
 if r1.closes-b.now<l.extend then {r1 with closes:=min (b.now+l.extend) l.last} else r1
section
variable (W:World)
theorem zkE (a b:LotR):(Op.equalIn (9999+1) 58 a.agg b.agg).run Tryz.prog W=.ok (decide (a=b)) W:=by
 have A:Tryz.prog.underlying 58=some (.struct (Tryz.prog.fieldsOf 58)):=by kernel_rfl
 have B:Tryz.prog.stoodInHeld 58=false:=by kernel_rfl
 rw[LotR.agg,LotR.agg,run_equalIn_agg W 9999 58 _ _ A B];have u1:=Tryz.underlying55;have g:=Tryz.isAgg55;have C:=Tryz.sizeOf55;have u2:=Tryz.underlying2;have h:=Tryz.isAgg2;have D:=Tryz.sizeOf2;have u3:=Tryz.underlying3;have i:=Tryz.isAgg3;have E:=Tryz.sizeOf3;have u4:=Tryz.underlying56;have j:=Tryz.isAgg56;have F:=Tryz.sizeOf56;simp only[Program.fieldsOf,Tryz.underlying58];go_simp;obtain ⟨g,h,i,j,k,l,m,n,o,c,d⟩:=a;obtain ⟨p,q,r,s,t,v,x,y,z,e,f⟩:=b;simp only[LotR.mk.injEq];by_cases h1:g=p
 case neg=>simp[h1]
 subst h1;by_cases h2:h=q
 case neg=>simp[h2]
 subst h2;by_cases h3:i=r
 case neg=>simp[h3]
 subst h3;by_cases h4:j=s
 case neg=>simp[h4]
 subst h4;by_cases h5:k=t
 case neg=>simp[h5]
 subst h5;by_cases h6:l=v
 case neg=>simp[h6]
 subst h6;by_cases h7:m=x
 case neg=>simp[h7]
 subst h7;by_cases h8:n=y
 case neg=>simp[h8]
 subst h8;by_cases h9:o=z
 case neg=>simp[h9]
 subst h9;by_cases h10:c=e
 case neg=>simp[h10]
 subst h10;by_cases h11:d=f
 case neg=>simp[h11]
 subst h11
 simp
theorem zcJ (a b:LotR):(binOp .eql 58 a.agg b.agg).run Tryz.prog W=.ok (.bool (decide (a=b))) W:=by
 rw[run_eql_struct,show (10000:Nat)=9999+1 from rfl,zkE];rfl
theorem znd (a b:LotR):(binOp .neq 58 a.agg b.agg).run Tryz.prog W=.ok (.bool (!decide (a=b))) W:=by
 rw[run_neq_struct,show (10000:Nat)=9999+1 from rfl,zkE];rfl
theorem znH (a b:RiseR):(Op.equalIn (9999+1) 143 a.agg b.agg).run Tryz.prog W=.ok (decide (a=b)) W:=by
 have k:Tryz.prog.underlying 143=some (.struct (Tryz.prog.fieldsOf 143)):=by kernel_rfl
 have l:Tryz.prog.stoodInHeld 143=false:=by kernel_rfl
 rw[RiseR.agg,RiseR.agg,run_equalIn_agg W 9999 143 _ _ k l];have u2:=Tryz.underlying2;have c:=Tryz.isAgg2;have m:=Tryz.sizeOf2;have u3:=Tryz.underlying3;have d:=Tryz.isAgg3;have n:=Tryz.sizeOf3;simp only[Program.fieldsOf,Tryz.underlying143];go_simp;obtain ⟨e,c,d,f⟩:=a;obtain ⟨g,h,i,j⟩:=b;simp only[RiseR.mk.injEq];by_cases h1:e=g
 case neg=>simp[h1]
 subst h1;by_cases h2:c=h
 case neg=>simp[h2]
 subst h2;by_cases h3:d=i
 case neg=>simp[h3]
 subst h3;by_cases h4:f=j
 case neg=>simp[h4]
 subst h4
 simp
theorem zqO (a b:RiseR):(binOp .eql 143 a.agg b.agg).run Tryz.prog W=.ok (.bool (decide (a=b))) W:=by
 rw[run_eql_struct,show (10000:Nat)=9999+1 from rfl,znH];rfl
end
end Ho
namespace Vb
open Go.RowKit
def zbg (P:Program) (t e:TypeId) (sz bytes:Nat):Prop:=
 P.underlying t=some (.slice e)∧0<sz∧∃i z,P.info? e=some i∧i.zero=some z∧i.size=sz∧i.bytes=bytes∧z.cells.size=sz
theorem zba {P:Program} {t e:TypeId} {sz bytes:Nat} {z:Value} (g:P.underlying t=some (.slice e)) (a:0<sz)
  (h:(P.info? e).map (fun i=>(i.zero,i.size,i.bytes))=some (some z,sz,bytes)) (j:z.cells.size=sz):zbg P t e sz bytes:=by
 obtain ⟨k,f,b,c,d⟩:=info_parts h;exact ⟨g,a,k,z,f,b,c,d,j⟩
theorem Sl.of_own {w:World} {base:Nat} {e:TypeId} {sz n:Nat} {v:Value} {xs:List Value} (h:w.ownsRow base e sz v n xs):Sl w (fun b=>v.ownBlock=some b) v n sz xs:=by
 rcases h.2 with ⟨rfl,rfl⟩|⟨g,cap,cur,rfl,hb,hg,hnc,hcm,hcs,htake⟩
 ·exact ⟨h.1,none,0,rfl,Nat.le_refl _,Nat.zero_le _,fun a=>absurd a (by omega)⟩
 ·refine ⟨h.1,_,cap,rfl,hnc,hcm,fun d=>⟨g,0,rfl,rfl,(Array.getElem?_eq_some_iff.1 hg).1,fun j u c=>?_⟩⟩;have:=h.cells (g:=g) rfl j u c
  rwa [Addr.add_lit] at this
theorem Sl.new (w:World) (cs:Array Value) (t:TypeId) (n sz:Nat) (hn:n≤maxLen) (hs:cs.size=n*sz):
  Sl (w.alloc (.cells cs t)) (·=w.heap.size) (.slice (some ⟨w.heap.size,0,none⟩) n n) n sz cs.toList:=
 ⟨by simpa using hs,_,n,rfl,Nat.le_refl _,hn,fun _=>⟨w.heap.size,0,rfl,rfl,by simp,fun j u hu=>by
  rw[cell_of_row _ _ _ cs t (0,0) (heap_alloc_new w _)]
  simpa using hu⟩⟩
theorem zpI (w:World) {base:Nat} (h:base≤w.heap.size) (e:TypeId) (sz:Nat):(w.alloc (.cells #[] e)).ownsRow base e sz (.slice (some ⟨w.heap.size,0,none⟩) 0 0) 0 []:=
 World.ownsRow_lit w #[] 0 h (Nat.zero_le _) (by simp)
theorem zfj {w:World} {base:Nat} {e:TypeId} {sz n:Nat} {v:Value} {xs:List Value} (h:w.ownsRow base e sz v n xs):∃A cap,v=.slice A n cap:=by
 rcases h.2 with ⟨rfl,rfl⟩|⟨g,cap,cur,rfl,_⟩
 ·exact ⟨none,0,rfl⟩
 ·exact ⟨_,cap,rfl⟩
theorem zex {P:Program} (w:World) (base:Nat) (t I e:TypeId) (sz bytes:Nat) (E:zbg P t e sz bytes)
  (v:Value) (n:Nat) (xs:List Value) (d:w.ownsRow base e sz v n xs)
  (R:Nat→Prop) (M:Value) (m:Nat) (a:List Value) (V:Sl w R M m sz a) (N:∀u∈a,u.oneCell'=true)
  (k:(n+m)*bytes≤140737488355328) (q:n+m≤maxLen) (o:base≤w.heap.size):
  ∃A' cap' w',(Builtin.append_ #[t,t] I #[v,M]).run P w=.ok (.slice A' (n+m) cap') w'∧w'.ownsRow base e sz (.slice A' (n+m) cap') (n+m) (xs++a)∧w.grownBy w' v.ownBlock∧
   ((Value.slice A' (n+m) cap').ownBlock=v.ownBlock∨(Value.slice A' (n+m) cap').ownBlock=some w.heap.size):=by
 obtain ⟨D,C,i,z,x,X,p,r,G⟩:=E;obtain ⟨y,A,c,rfl,U,S,K⟩:=V
 rcases A with _|ad
 ·have T:m=0:=by
   rcases Nat.eq_zero_or_pos m with h0|h0
   ·exact h0
   ·obtain ⟨b,H,h,_⟩:=K h0
    cases h
  subst T;have B:a=[]:=List.eq_nil_of_length_eq_zero (by simpa using y);subst B;have f:(Builtin.append_ #[t,t] I #[v,.slice none 0 c]).run P w=.ok v w:=by
   rcases d.2 with ⟨rfl,rfl⟩|⟨g,cap,cur,rfl,_,_,hnc',_⟩
   ·simp[Builtin.append_,run_underlying D,sizeOf,typeInfo,x,Builtin.lenOf,Builtin.firstCells]
   ·simp[Builtin.append_,run_underlying D,sizeOf,typeInfo,x,Builtin.lenOf,Builtin.firstCells,hnc',storeCells]
  obtain ⟨A',cap',F⟩:=zfj d;subst F;exact ⟨A',cap',w,f,by simpa using d,⟨rfl,rfl,rfl,Nat.le_refl _,fun _ _ _=>rfl⟩,.inl rfl⟩
 ·have l:∀j u,a[j]? =some u→w.cell? (ad.add j)=some u:=by
   intro j u L
   rcases Nat.eq_zero_or_pos m with h0|h0
   ·subst h0;have B:a=[]:=List.eq_nil_of_length_eq_zero (by simpa using y);subst B
    simp at L
   ·obtain ⟨b,H,h,_,_,s⟩:=K h0;injection h with h
    subst h;rw[Addr.add_lit];exact s j u L
  obtain ⟨Y,w',f,J,O,_,Q⟩:=run_append_own_at (P:=P) w base t I e i z sz bytes D x X p r G C v n xs d ad m c a y l N q k o;obtain ⟨A',cap',F⟩:=zfj J;subst F;exact ⟨A',cap',w',f,J,O,Q⟩
theorem zmu {P:Program} (w:World) {o:Oper} {a:Act} {K:Act→World→Prop} {Q:Exit→Act→World→Prop} (s x:Operand) {t e:TypeId} {sz bytes:Nat} (E:zbg P t e sz bytes)
  (r:o.op=.call {callee:=.builtin .append,args:=#[s,x],argTypes:=#[t,t]})
  (base:Nat) (v:Value) (n:Nat) (xs:List Value) (z:a.eval s=v) (f:w.ownsRow base e sz v n xs)
  (R:Nat→Prop) (j:Value) (m:Nat) (b:List Value) (A:a.eval x=j) (y:Sl w R j m sz b) (k:∀u∈b,u.oneCell'=true)
  (c:(n+m)*bytes≤140737488355328) (i:n+m≤maxLen) (d:base≤w.heap.size)
  (h:∀A' cap' w',w'.ownsRow base e sz (.slice A' (n+m) cap') (n+m) (xs++b)→w.grownBy w' v.ownBlock→((Value.slice A' (n+m) cap').ownBlock=v.ownBlock∨(Value.slice A' (n+m) cap').ownBlock=some w.heap.size)→K (a.put o.dst (.slice A' (n+m) cap')) w'):o.wp P a w K Q:=by
 obtain ⟨A',cap',w',g,l,p,q⟩:=zex (P:=P) w base t o.type e sz bytes E v n xs f R j m b y k c i d;unfold Oper.wp execOp;simp only[r,resolve,invoke,builtin,Sem.run_bind,Sem.run_pure,Result.andThen_ok,List.map_toArray,List.map_cons,List.map_nil,z,A,g];exact h A' cap' w' l p q
theorem zbj {P:Program} (w:World) {ops:Array Oper} {rest:List Oper} {o:Oper} {a:Act} {Q:Exit→Act→World→Prop} (hgd:o.guard=none) (s x:Operand) {t e:TypeId} {sz bytes:Nat} (E:zbg P t e sz bytes)
  (ho:o.op=.call {callee:=.builtin .append,args:=#[s,x],argTypes:=#[t,t]})
  (base:Nat) (v:Value) (n:Nat) (xs:List Value) (hs:a.eval s=v) (hown:w.ownsRow base e sz v n xs)
  (R:Nat→Prop) (v2:Value) (m:Nat) (news:List Value) (hx:a.eval x=v2) (hr:Sl w R v2 m sz news) (h1:∀u∈news,u.oneCell'=true)
  (hbytes:(n+m)*bytes≤140737488355328) (h63:n+m≤maxLen) (hbase:base≤w.heap.size)
  (h:∀A' cap' w',w'.ownsRow base e sz (.slice A' (n+m) cap') (n+m) (xs++news)→w.grownBy w' v.ownBlock→((Value.slice A' (n+m) cap').ownBlock=v.ownBlock∨(Value.slice A' (n+m) cap').ownBlock=some w.heap.size)→wpList P ops Q rest (a.put o.dst (.slice A' (n+m) cap')) w'):wpList P ops Q (o::rest) a w:=
 wpList_plain hgd fun _ hK=>zmu w s x E ho base v n xs hs hown R v2 m news hx hr h1 hbytes h63 hbase fun A' cap' w' h2 h3 h4=>hK _ _ (h A' cap' w' h2 h3 h4)
theorem zam {a w:World} (h:Below a.heap.size a w) (row:Option Nat):a.grownBy w row:=⟨h.os,h.tape,h.output,h.size,fun i hi _=>h.block i hi⟩
theorem zbQ {w w':World} {base:Nat} {e:TypeId} {sz n:Nat} {v:Value} {xs:List Value} (h:w.ownsRow base e sz v n xs) (hb:Below w.heap.size w w'):w'.ownsRow base e sz v n xs:=
 h.kept (zam hb none) (by cases v.ownBlock<;>simp)
theorem grownBy_setCell (w:World) (p:Addr) (u:Value):w.grownBy (w.setCell p u) (some p.block):=
 ⟨rfl,rfl,rfl,by simp[World.setCell],fun i _ hne=>Below.heap_setCell w p u i (fun e=>hne (by rw[e]))⟩
theorem zbH {w:World} {base a:Nat} {e:TypeId} {sz n:Nat} {v:Value} {xs:List Value} (h:w.ownsRow base e sz v n xs) (d:a≤base):w.ownsRow a e sz v n xs:=by
 obtain ⟨c,b⟩:=h;refine ⟨c,?_⟩
 rcases b with b|⟨g,cap,cur,hv,hg,r⟩
 ·exact .inl b
 ·exact .inr ⟨g,cap,cur,hv,Nat.le_trans d hg,r⟩
theorem Sl.grown {w w':World} {R:Nat→Prop} {v:Value} {n sz:Nat} {xs:List Value} {row:Option Nat} (h:Sl w R v n sz xs) (hg:w.grownBy w' row) (hR:∀b,b<w.heap.size→R b→some b≠row):Sl w' R v n sz xs:=
 h.keep hg.size fun b hlt hr=>hg.block b hlt (hR b hlt hr)
theorem Sl.sized {w:World} {R:Nat→Prop} {v:Value} {n sz:Nat} {xs:List Value} (h:Sl w R v n sz xs):Sl w (fun b=>R b∧b<w.heap.size) v n sz xs:=h.mono fun _ hlt hr=>⟨hr,hlt⟩
end Vb
namespace Ac
open Go.RowKit Go.Shelf Vb
def Blk (w:World) (g:Nat) (t:TypeId) (cs:Array Value):Prop:=w.heap[g]? =some (.cells cs t (0,0))
section
variable {w w':World} {g:Nat} {t:TypeId} {cs:Array Value}
theorem Blk.lt (h:Blk w g t cs):g<w.heap.size:=by
 rcases Nat.lt_or_ge g w.heap.size with hlt|hge
 ·exact hlt
 ·unfold Blk at h;rw[Array.getElem?_eq_none hge] at h;cases h
theorem Blk.cell (h:Blk w g t cs) (i:Nat):w.cell? ⟨g,i,none⟩=cs[i]? :=cell_of_row w g i cs t (0,0) h
theorem Blk.frozen (h:Blk w g t cs) (i:Nat):w.frozen? ⟨g,i,none⟩=false:=by
 unfold Blk at h
 simp[World.frozen?,h]
theorem Blk.new (w:World) (t:TypeId) (cs:Array Value):Blk (w.alloc (.cells cs t)) w.heap.size t cs:=heap_alloc_new w _
theorem Blk.new' {w:World} {g:Nat} (t:TypeId) (cs:Array Value) (h:g=w.heap.size):Blk (w.alloc (.cells cs t)) g t cs:=by subst h;exact heap_alloc_new w _
theorem Blk.drewN (h:Blk w g t cs) (n:Nat):Blk (w.drewN n) g t cs:=h
theorem Blk.alloc (h:Blk w g t cs) (o:Obj):Blk (w.alloc o) g t cs:=(Below.heap_alloc w o g h.lt).trans h
theorem Blk.set_ (h:Blk w g t cs) (i:Nat) (u:Value):Blk (w.setCell ⟨g,i,none⟩ u) g t (cs.setIfInBounds i u):=by
 unfold Blk at h ⊢
 simp[World.setCell,Array.getElem?_modify,h]
theorem Blk.far (h:Blk w g t cs) {p:Addr} (hp:g≠p.block) (u:Value):Blk (w.setCell p u) g t cs:=(Below.heap_setCell w p u g hp).trans h
theorem Blk.grow (h:Blk w g t cs) (hb:Below w.heap.size w w'):Blk w' g t cs:=(hb.block g h.lt).trans h
theorem Blk.grown {row:Option Nat} (h:Blk w g t cs) (hb:w.grownBy w' row) (hg:some g≠row):Blk w' g t cs:=(hb.block g h.lt hg).trans h
theorem Blk.cells {row:Option Nat} (h:Blk w g t cs) (hg:w.grownBy w' row) (hr:∀r,row=some r→∃o:Obj,w.heap[r]? =some o∧o.isCells=false):Blk w' g t cs:=
 h.grown hg fun e=>by
  obtain ⟨o,ho,hc⟩:=hr g e.symm;rw[show w.heap[g]? =_ from h] at ho
  cases ho
  cases hc
end
structure Chg (X:Nat→Prop) (a w:World):Prop where
 os:w.os=a.os
 tape:w.tape=a.tape
 output:w.output=a.output
 size:a.heap.size≤w.heap.size
 block:∀k,k<a.heap.size→¬X k→w.heap[k]? =a.heap[k]?
section
variable {X Y:Nat→Prop} {a b c:World}
theorem Chg.refl (X:Nat→Prop) (a:World):Chg X a a:=⟨rfl,rfl,rfl,Nat.le_refl _,fun _ _ _=>rfl⟩
theorem Chg.of (X:Nat→Prop) (h:Below a.heap.size a b):Chg X a b:=⟨h.os,h.tape,h.output,h.size,fun k hk _=>h.block k hk⟩
theorem Chg.mono (h:Chg X a b) (hX:∀k,k<a.heap.size→X k→Y k):Chg Y a b:=⟨h.os,h.tape,h.output,h.size,fun k hk hn=>h.block k hk fun hx=>hn (hX k hk hx)⟩
theorem Chg.step (h:Chg X a b) (h2:Chg Y b c) (hY:∀k,k<a.heap.size→Y k→X k):Chg X a c:=
 ⟨h2.os.trans h.os,h2.tape.trans h.tape,h2.output.trans h.output,Nat.le_trans h.size h2.size,fun k hk hn=>(h2.block k (Nat.lt_of_lt_of_le hk h.size) fun hy=>hn (hY k hk hy)).trans (h.block k hk hn)⟩
theorem Chg.trans (h:Chg X a b) (h2:Chg X b c):Chg X a c:=h.step h2 fun _ _ h=>h
theorem Chg.grow (h:Chg X a b) (h2:Below b.heap.size b c):Chg X a c:=h.step (Chg.of (fun _=>False) h2) fun _ _ h=>h.elim
theorem Chg.below (h:Chg X a b) {B:Nat} (hB:B≤a.heap.size) (hX:∀k,k<B→¬X k):Below B a b:=⟨h.os,h.tape,h.output,h.size,fun k hk=>h.block k (by omega) (hX k hk)⟩
theorem Chg.grown {row:Option Nat} (h:a.grownBy b row):Chg (fun k=>some k=row) a b:=⟨h.os,h.tape,h.output,h.size,fun k hk hn=>h.block k hk hn⟩
theorem Chg.set (a:World) (p:Addr) (u:Value):Chg (·=p.block) a (a.setCell p u):=⟨rfl,rfl,rfl,by simp[World.setCell],fun k _ hn=>Below.heap_setCell a p u k hn⟩
theorem Chg.drewN (h:Chg X a b) (n:Nat):Chg X a (b.drewN n):=⟨h.os,h.tape,h.output,h.size,h.block⟩
theorem Blk.chg {g:Nat} {t:TypeId} {cs:Array Value} (h:Blk a g t cs) (hc:Chg X a b) (hx:¬X g):Blk b g t cs:=(hc.block g h.lt hx).trans h
theorem Chg.ownsMap {H:Type} {P:Program} {k:TypeId} {R:Value→Option (DataW H×List MemPlace)} {m n:Nat} {D:DataW H} (h:a.ownsMap P k R m n D) (i:Chg X a b) (j:¬X m):b.ownsMap P k R m n D:=by
 have d:=h.lt;obtain ⟨e,c,f,g⟩:=h;exact ⟨e,c,(i.block m d j).trans f,g⟩
end
structure KeepR (lo hi:Nat) (W W':World):Prop where
 size:W.heap.size≤W'.heap.size
 same:∀i,lo≤i→i<hi→W'.heap[i]? =W.heap[i]?
theorem KeepR.refl (lo hi:Nat) (W:World):KeepR lo hi W W:=⟨Nat.le_refl _,fun _ _ _=>rfl⟩
theorem KeepR.trans {lo hi:Nat} {A B C:World} (h:KeepR lo hi A B) (k:KeepR lo hi B C):KeepR lo hi A C:=⟨Nat.le_trans h.size k.size,fun i h1 h2=>(k.same i h1 h2).trans (h.same i h1 h2)⟩
theorem KeepR.set {lo hi:Nat} (W:World) {p:Addr} (hp:p.block<lo∨hi≤p.block) (u:Value):KeepR lo hi W (W.setCell p u):=
 ⟨by simp[World.setCell],fun i h1 h2=>Below.heap_setCell W p u i (by omega)⟩
theorem KeepR.of_below {lo hi:Nat} {A B:World} (h:Below hi A B):KeepR lo hi A B:=⟨h.size,fun i _ hi=>h.block i hi⟩
theorem KeepR.sl {lo hi:Nat} {A B:World} (h:KeepR lo hi A B) {v:Value} {n sz:Nat} {xs:List Value} (hs:Sl A (fun b=>lo≤b∧b<hi) v n sz xs):Sl B (fun b=>lo≤b∧b<hi) v n sz xs:=
 hs.keep h.size fun b _ hr=>h.same b hr.1 hr.2
def zak (W:World) (b:Nat) (L:Loop):Prop:=W.heap[b+1]? =some (.loop L)∧W.heap[b]? =some (.deferred (some []))
theorem zak.abides {A B:World} {b:Nat} {L:Loop} {row:Option Nat} (h:zak A b L) (hg:A.grownBy B row) (hr:∀r,row=some r→∃o:Obj,A.heap[r]? =some o∧o.isWalk=true):zak B b L:=
 ⟨(grownBy_keeps hg hr h.1 rfl).trans h.1,(grownBy_keeps hg hr h.2 rfl).trans h.2⟩
theorem zak.put {W:World} {b:Nat} {L L':Loop} (h:zak W b L):zak (W.putObj (b+1) (.loop L')) b L':=
 ⟨World.putObj_heap_same (Array.getElem?_eq_some_iff.1 h.1).1,(World.putObj_heap_other (by omega)).trans h.2⟩
theorem zak.others {A B:World} {b:Nat} {L:Loop} (h:zak A b L) (hk:KeepsOthers A B):zak B b L:=⟨hk.same _ _ h.1 rfl,hk.same _ _ h.2 rfl⟩
def zkv {α:Type} (F:Fence) (n:Nat) (P:Program) (g:Nat) (lb:Array Value) (encs:α→Array Value) (S Sp:List α→Prop) (N:Nat) (w:World):Prop:=
 ∀(l:Nat) (J Jx:Nat→List α→World→Prop) (W:World),Below w.heap.size w W→(∀hi,AbidesFrom W.heap.size (J hi))→(∀hi,AbidesFrom W.heap.size (Jx hi))→
  (∀hi pre x W1,hi≤W1.heap.size→J hi pre W1→Sp (pre++[x])→pre.length<N→YieldAt F (n-1) P l (encs x) W1 fun e W'=>
   (e=.returned (.bool true)∧J hi (pre++[x]) W'∧KeepR W.heap.size hi W1 W')∨(e=.returned (.bool false)∧Jx hi (pre++[x]) W'))→
  (∀W0,Below W.heap.size W W0→J W0.heap.size [] W0)→
  CallsIn F n P g (#[.func (.yield l) #[] #[]]++lb) W fun e W'=>(∃v,e=.returned v)∧∃hi,W.heap.size≤hi∧((∃xs,S xs∧J hi xs W')∨(∃pre,Sp pre∧Jx hi pre W'))
variable {F:Fence} {n:Nat} {P:Program}
theorem zi0 {α:Type} {g:Operand} {ps:Array Tmp} {assign body:Code} {Q:Exit→Act→World→Prop} {a:Act} {w:World}
  (hro:F.round=none) (h1:1≤n) {gf:Nat} {lb:Array Value} (hg:a.eval g=.func (.func gf) #[] lb) (hFg:F.fn gf) (eg:∀args w,(callFunc gf args).run P w=.ok (.enter gf args) w)
  {z:α→Array Value} {S Sp:List α→Prop} {N:Nat} {w0:World} (hseq:zkv F (n-1) P gf lb z S Sp N w0)
  (hb0:Below w0.heap.size w0 w) (hps:∀x,(z x).size=ps.size)
  (I:Nat→List α→World→Prop) (Ix:Nat→Code→List α→World→Prop) (hI:∀d,OwnFrom w.heap.size (I d)) (G:∀d c,OwnFrom w.heap.size (Ix d c)) (h0:∀W0,Below w.heap.size w W0→I W0.heap.size [] W0) (a₁:α→Act)
  (H:∀(l:Nat) (x:α) (W:World) (K:Act→World→Prop),K (a₁ x) W→
   assign.wpIn (F.inRound l) (n-1-1) P (Exit.then K (fun _ _ _=>False)) {tmps:=(ps.zip (z x)).foldl (fun t (p,v)=>t.setIfInBounds p v) a.tmps,defers:=[]} W)
  (Z:∀(d l:Nat) (pre:List α) (x:α) (W:World),d≤W.heap.size→I d pre W→Sp (pre++[x])→pre.length<N→body.wpIn (F.inRound l) (n-1-1) P (ownPostK (KeepR (w.heap.size+2) d) (I d) (Ix d) (pre++[x]) W) (a₁ x) W)
  (ab:∀(d D:Nat) (xs:List α) (W:World),w.heap.size≤D→S xs→I d xs W→W.heap[D]? =some (.deferred (some []))→Q .normal {a with defers:={target:=.collected D,args:=#[]}::a.defers} W)
  (ad:∀(d D:Nat) (c:Code) (pre:List α) (W:World),w.heap.size≤D→Sp pre→Ix d c pre W→W.heap[D]? =some (.deferred (some []))→c.wpIn F n P Q {a with defers:={target:=.collected D,args:=#[]}::a.defers} W):
  (Code.rangeFunc g ps assign body).wpIn F n P Q a w:=by
 refine wpIn_rangeFunc fun fn hfn=>?_;rw[hro];obtain ⟨L,Y⟩:∃L:LoopState→Option Code→Loop,L=fun st pe=>{state:=st,pending:=pe,fn,tmps:=a.tmps,params:=ps,assign,body,defers:=w.heap.size}:=⟨_,rfl⟩;obtain ⟨U,hU⟩:∃U,U=(w.alloc (.deferred (some []))).alloc (.loop (L .ready none)):=⟨_,rfl⟩;have hRU:zak U w.heap.size (L .ready none):=by
  subst hU
  constructor
  ·have:=World.alloc_heap_new (w.alloc (.deferred (some []))) (.loop (L .ready none))
   rwa [World.size_alloc] at this
  ·exact (Below.heap_alloc _ _ _ (by simp)).trans (World.alloc_heap_new w _)
 have hsU:U.heap.size=w.heap.size+2:=by rw[hU];simp
 have hwU:Below w.heap.size w U:=by subst hU;exact (((Below.refl _ w).alloc (Nat.le_refl _) _).alloc (by simp) _)
 have hBU:Below w0.heap.size w0 U:=hb0.trans (hwU.mono hb0.size);have recB:∀W0,Below U.heap.size U W0→zak W0 w.heap.size (L .ready none):=fun W0 h=>⟨(h.block _ (by omega)).trans hRU.1,(h.block _ (by omega)).trans hRU.2⟩;refine ⟨w.heap.size+1,[{target:=.collected w.heap.size,args:=#[]}],U,{target:=.fn (.func gf) lb,args:=#[.func (.yield (w.heap.size+1)) #[] #[]]},U,gf,#[.func (.yield (w.heap.size+1)) #[] #[]]++lb,U,?_,?_,?_,?_,fun _=>h1,?_⟩
 ·rw[hU,Y];exact run_enterLoop_outer _ _ _ _ _
 ·simp only[resolve,hg]
  simp[go_sem]
 ·intro f' hf'
  simp[Target.leads] at hf'
  subst hf';exact hFg
 ·simp[invoke,go_sem,eg]
 ·have k:∀{A:World} {y:Option Nat},(∀r,y=some r→U.heap.size≤r∧∃o:Obj,A.heap[r]? =some o∧o.isWalk=true)→∀r,y=some r→w.heap.size≤r∧∃o:Obj,A.heap[r]? =some o∧o.isCells=false:=by
   intro A y j r e;obtain ⟨h1,o,h2,h3⟩:=j r e;exact ⟨by omega,o,h2,Obj.not_cells_of_walk h3⟩
  refine (hseq (w.heap.size+1) (fun d pre W=>I d pre W∧zak W w.heap.size (L .ready none)) (fun d pre W=>∃c,Ix d c pre W∧zak W w.heap.size (L .done (some c))) U hBU ?_ ?_ ?_ (fun W0 hW0=>⟨h0 W0 (hwU.trans (hW0.mono (by omega))),recB W0 hW0⟩)).mono ?_
  ·exact fun d s A B y hs J j=>⟨hI d s A B y hs.1 J (k j),hs.2.abides J fun r e=>(j r e).2⟩
  ·rintro d s A B y ⟨c,hc,b⟩ J j;exact ⟨c,G d c s A B y hc J (k j),b.abides J fun r e=>(j r e).2⟩
  ·rintro d pre x W hhi ⟨M,b⟩ hsp hlen;have R:(L .ready none).state=.ready:=by rw[Y]
   have hy:=run_yield (P:=P) (args:=z x) b.1 (by rw[Y];exact hps x);rw[Y] at hy;refine ⟨fn,_,assign,body,hy,roundIn_of_wpIn hfn (H _ x W _ ⟨_,run_beginRound b.1 R,?_⟩)⟩;have aa:zak (W.putObj (w.heap.size+1) (.loop {L .ready none with state:=.busy})) w.heap.size {L .ready none with state:=.busy}:=b.put;have kb:∀(V:World) (o:Obj),KeepR U.heap.size d V (V.putObj (w.heap.size+1) o):=fun V o=>⟨by simp,fun i h1 _=>World.putObj_heap_other (by omega)⟩;refine wpIn_mono (Z d _ pre x _ (by simpa using hhi) ((hI d).putObj _ M (by omega) b.1 rfl) hsp hlen) ?_;have C:∀(f:Option Code) (E:World),KeepsOthers (W.putObj (w.heap.size+1) (.loop {L .ready none with state:=.busy})) E→
     (Instr.endRound (w.heap.size+1) f).run P E=.ok (.bool f.isNone) (E.putObj (w.heap.size+1) (.loop (L (if f.isNone then .ready else .done) f)))∧
     zak E w.heap.size {L .ready none with state:=.busy}∧zak (E.putObj (w.heap.size+1) (.loop (L (if f.isNone then .ready else .done) f))) w.heap.size (L (if f.isNone then .ready else .done) f):=by
    intro f E ac;have h3:=aa.others ac;have j:=run_endRound (P:=P) f h3.1;rw[Y] at j h3 ⊢;exact ⟨j,h3,h3.put⟩
   rintro e a3 E O
   cases e with
   |normal=>
    obtain ⟨ac,T,hi3⟩:=O;obtain ⟨j,m,q⟩:=C none E ac;rw[←hsU] at T;exact ⟨_,_,j,.inl ⟨rfl,⟨(hI d).putObj _ hi3 (by omega) m.1 rfl,q⟩,((kb _ _).trans T).trans (kb _ _)⟩⟩
   |ret=>
    obtain ⟨j,m,q⟩:=C (some .ret) E O.1;exact ⟨_,_,j,.inr ⟨rfl,.ret,(G d _).putObj _ O.2 (by omega) m.1 rfl,q⟩⟩
   |exit id=>
    obtain ⟨j,m,q⟩:=C (some (.exit id)) E O.1;exact ⟨_,_,j,.inr ⟨rfl,.exit id,(G d _).putObj _ O.2 (by omega) m.1 rfl,q⟩⟩
   |goto t=>
    obtain ⟨j,m,q⟩:=C (some (.goto t)) E O.1;exact ⟨_,_,j,.inr ⟨rfl,.goto t,(G d _).putObj _ O.2 (by omega) m.1 rfl,q⟩⟩
   |panic ch=>exact O.elim
   |outgrown=>exact O.elim
  ·have X:∀{st:LoopState} {pe:Option Code} {W2:World},st≠ .busy→zak W2 w.heap.size (L st pe)→∃o,(Instr.endLoop (w.heap.size+1)).run P W2=.ok pe (W2.putObj (w.heap.size+1) o):=by
    intro st pe W2 hst h2;have j:=run_endLoop (P:=P) h2.1 (by rw[Y];exact hst);rw[Y] at j;exact ⟨_,j⟩
   rintro e W2 ⟨⟨v,rfl⟩,d,_,(⟨xs,hS,M,b⟩|⟨pre,hSp,c,M,b⟩)⟩
   ·obtain ⟨o,j⟩:=X (by simp) b;exact ⟨none,_,j,ab d _ xs _ (Nat.le_refl _) hS ((hI d).putObj _ M (by omega) b.1 rfl) ((World.putObj_heap_other (by omega)).trans b.2)⟩
   ·obtain ⟨o,j⟩:=X (by simp) b;exact ⟨some c,_,j,ad d _ c pre _ (Nat.le_refl _) hSp ((G d c).putObj _ M (by omega) b.1 rfl) ((World.putObj_heap_other (by omega)).trans b.2)⟩
end Ac
namespace Ho
open Go.RowKit Vb Ac
theorem zeg (t:Int) (w:World):Calls Tryz.prog 226 #[.int .i64 t] w fun e w'=>e=.returned (.bool (zae t))∧w'=w:=by
 unfold zae;by_cases h1:0≤t
 ·by_cases h2:t≤1099511627776
  ·rw[decide_eq_true h1,decide_eq_true h2];go_enter Tryz.func226,Tryz.ntmps226;go_wp2_with fail
   go_ret;exact ⟨rfl,rfl⟩
  ·rw[decide_eq_true h1,decide_eq_false h2];go_enter Tryz.func226,Tryz.ntmps226;go_wp2_with fail
   go_ret;exact ⟨rfl,rfl⟩
 ·rw[decide_eq_false h1];go_enter Tryz.func226,Tryz.ntmps226;go_wp2_with fail
  go_ret;exact ⟨rfl,rfl⟩
theorem zeH (t:Int) (w:World):Calls Tryz.prog 227 #[.int .i64 t] w fun e w'=>e=.returned (.bool (zae t))∧w'=w:=by
 unfold zae;by_cases h1:0≤t
 ·by_cases h2:t≤1099511627776
  ·rw[decide_eq_true h1,decide_eq_true h2];go_enter Tryz.func227,Tryz.ntmps227;go_wp2_with fail
   go_ret;exact ⟨rfl,rfl⟩
  ·rw[decide_eq_true h1,decide_eq_false h2];go_enter Tryz.func227,Tryz.ntmps227;go_wp2_with fail
   go_ret;exact ⟨rfl,rfl⟩
 ·rw[decide_eq_false h1];go_enter Tryz.func227,Tryz.ntmps227;go_wp2_with fail
  go_ret;exact ⟨rfl,rfl⟩
theorem zce (t:Int) (w:World):Calls Tryz.prog 114 #[.int .i64 t] w fun e w'=>e=.returned (.bool (zae t))∧w'=w:=by
 unfold zae;by_cases h1:0≤t
 ·by_cases h2:t≤1099511627776
  ·rw[decide_eq_true h1,decide_eq_true h2];go_enter Tryz.func114,Tryz.ntmps114;go_wp2_with fail
   go_ret;exact ⟨rfl,rfl⟩
  ·rw[decide_eq_true h1,decide_eq_false h2];go_enter Tryz.func114,Tryz.ntmps114;go_wp2_with fail
   go_ret;exact ⟨rfl,rfl⟩
 ·rw[decide_eq_false h1];go_enter Tryz.func114,Tryz.ntmps114;go_wp2_with fail
  go_ret;exact ⟨rfl,rfl⟩
theorem zbY (t:Int) (w:World):Calls Tryz.prog 140 #[.int .i64 t] w fun e w'=>e=.returned (.bool (zae t))∧w'=w:=by
 unfold zae;by_cases h1:0≤t
 ·by_cases h2:t≤1099511627776
  ·rw[decide_eq_true h1,decide_eq_true h2];go_enter Tryz.func140,Tryz.ntmps140;go_wp2_with fail
   go_ret;exact ⟨rfl,rfl⟩
  ·rw[decide_eq_true h1,decide_eq_false h2];go_enter Tryz.func140,Tryz.ntmps140;go_wp2_with fail
   go_ret;exact ⟨rfl,rfl⟩
 ·rw[decide_eq_false h1];go_enter Tryz.func140,Tryz.ntmps140;go_wp2_with fail
  go_ret;exact ⟨rfl,rfl⟩
def zj2 (x m:Int):Bool:=decide (0≤x)&&decide (x≤m)
theorem zdS (t m:Int) (w:World):Calls Tryz.prog 242 #[.int .i64 t,.int .i64 m] w fun e w'=>e=.returned (.bool (zj2 t m))∧w'=w:=by
 unfold zj2;by_cases h1:0≤t
 ·by_cases h2:t≤m
  ·rw[decide_eq_true h1,decide_eq_true h2];go_enter Tryz.func242,Tryz.ntmps242;go_wp2_with fail
   go_ret;exact ⟨rfl,rfl⟩
  ·rw[decide_eq_true h1,decide_eq_false h2];go_enter Tryz.func242,Tryz.ntmps242;go_wp2_with fail
   go_ret;exact ⟨rfl,rfl⟩
 ·rw[decide_eq_false h1];go_enter Tryz.func242,Tryz.ntmps242;go_wp2_with fail
  go_ret;exact ⟨rfl,rfl⟩
theorem zfU (t:Int) (w:World):Calls Tryz.prog 242 #[.int .i64 t,.int .i64 1099511627776] w fun e w'=>e=.returned (.bool (zae t))∧w'=w:=zdS t _ w
theorem zjw (l:LotR) (w:World):Calls Tryz.prog 221 #[l.agg] w fun e w'=>e=.returned (.int .i64 (if zaT l=true then 0 else 2))∧Below w.heap.size w w':=by
 obtain ⟨z,v⟩:∃z:Int,z=(if zaT l=true then 0 else 2):=⟨_,rfl⟩;rw[←v];obtain ⟨q,f,a,m,n,g,k,j,o,i,r⟩:=l;have h:=hid v;have p:=fun W=>znd W ⟨q,0,0,0,0,0,0,j,o,i,r⟩ ⟨1,0,0,0,0,0,0,0,0,0,0⟩;simp only[LotR.agg,LotR.cells] at p ⊢;obtain ⟨b,t⟩:∃b,b=decide ((⟨q,0,0,0,0,0,0,j,o,i,r⟩:LotR)=⟨1,0,0,0,0,0,0,0,0,0,0⟩):=⟨_,rfl⟩;rw[←t] at p;have c:=hid t.symm;clear v t
 cases b with
 |false=>
  go_enter Tryz.func221,Tryz.ntmps221;have d:=hid (show z=2 from h.out.trans (by unfold zaT;dsimp only;rw[c.out];simp));go_wp2_with fail
  go_ret;exact ⟨by rw[d.out];first|rfl|simp[],(((Below.refl _ _).alloc (Nat.le_refl _) _).alloc (by simp) _)⟩
 |true=>
  go_enter Tryz.func221,Tryz.ntmps221;go_wp2_with fail
  refine (zeg f _).mono ?_;rintro e s ⟨rfl,rfl⟩
  cases h1:zae f with
  |false=>
   have d:=hid (show z=2 from h.out.trans (by unfold zaT;dsimp only;rw[c.out];simp[h1]));go_wp2_with fail
   go_ret;exact ⟨by rw[d.out];first|rfl|simp[h1],(((Below.refl _ _).alloc (Nat.le_refl _) _).alloc (by simp) _)⟩
  |true=>
   go_wp2_with fail
   refine (zeg a _).mono ?_;rintro e s ⟨rfl,rfl⟩
   cases h2:zae a with
   |false=>
    have d:=hid (show z=2 from h.out.trans (by unfold zaT;dsimp only;rw[c.out];simp[h1,h2]));go_wp2_with fail
    go_ret;exact ⟨by rw[d.out];first|rfl|simp[h1,h2],(((Below.refl _ _).alloc (Nat.le_refl _) _).alloc (by simp) _)⟩
   |true=>
    by_cases h3:f<a
    case neg=>
     have d:=hid (show z=2 from h.out.trans (by unfold zaT;dsimp only;rw[c.out];simp[h1,h2,h3]));go_wp2_with fail
     go_ret;exact ⟨by rw[d.out];first|rfl|simp[h1,h2,h3],(((Below.refl _ _).alloc (Nat.le_refl _) _).alloc (by simp) _)⟩
    go_wp2_with fail
    refine (zeH m _).mono ?_;rintro e s ⟨rfl,rfl⟩
    cases h4:zae m with
    |false=>
     have d:=hid (show z=2 from h.out.trans (by unfold zaT;dsimp only;rw[c.out];simp[h1,h2,h3,h4]));go_wp2_with fail
     go_ret;exact ⟨by rw[d.out];first|rfl|simp[h1,h2,h3,h4],(((Below.refl _ _).alloc (Nat.le_refl _) _).alloc (by simp) _)⟩
    |true=>
     go_wp2_with fail
     refine (zeH n _).mono ?_;rintro e s ⟨rfl,rfl⟩
     cases h5:zae n with
     |false=>
      have d:=hid (show z=2 from h.out.trans (by unfold zaT;dsimp only;rw[c.out];simp[h1,h2,h3,h4,h5]));go_wp2_with fail
      go_ret;exact ⟨by rw[d.out];first|rfl|simp[h1,h2,h3,h4,h5],(((Below.refl _ _).alloc (Nat.le_refl _) _).alloc (by simp) _)⟩
     |true=>
      by_cases h6:1≤n
      case neg=>
       have d:=hid (show z=2 from h.out.trans (by unfold zaT;dsimp only;rw[c.out];simp[h1,h2,h3,h4,h5,h6]));go_wp2_with fail
       go_ret;exact ⟨by rw[d.out];first|rfl|simp[h1,h2,h3,h4,h5,h6],(((Below.refl _ _).alloc (Nat.le_refl _) _).alloc (by simp) _)⟩
      go_wp2_with fail
      refine (zeg g _).mono ?_;rintro e s ⟨rfl,rfl⟩
      cases h7:zae g with
      |false=>
       have d:=hid (show z=2 from h.out.trans (by unfold zaT;dsimp only;rw[c.out];simp[h1,h2,h3,h4,h5,h6,h7]));go_wp2_with fail
       go_ret;exact ⟨by rw[d.out];first|rfl|simp[h1,h2,h3,h4,h5,h6,h7],(((Below.refl _ _).alloc (Nat.le_refl _) _).alloc (by simp) _)⟩
      |true=>
       go_wp2_with fail
       refine (zeg k _).mono ?_;rintro e s ⟨rfl,rfl⟩
       cases h8:zae k with
       |false=>
        have d:=hid (show z=2 from h.out.trans (by unfold zaT;dsimp only;rw[c.out];simp[h1,h2,h3,h4,h5,h6,h7,h8]));go_wp2_with fail
        go_ret;exact ⟨by rw[d.out];first|rfl|simp[h1,h2,h3,h4,h5,h6,h7,h8],(((Below.refl _ _).alloc (Nat.le_refl _) _).alloc (by simp) _)⟩
       |true=>
        by_cases h9:a≤k
        case neg=>
         have d:=hid (show z=2 from h.out.trans (by unfold zaT;dsimp only;rw[c.out];simp[h1,h2,h3,h4,h5,h6,h7,h8,h9]));go_wp2_with fail
         go_ret;exact ⟨by rw[d.out];first|rfl|simp[h1,h2,h3,h4,h5,h6,h7,h8,h9],(((Below.refl _ _).alloc (Nat.le_refl _) _).alloc (by simp) _)⟩
        have d:=hid (show z=0 from h.out.trans (by unfold zaT;dsimp only;rw[c.out];simp[h1,h2,h3,h4,h5,h6,h7,h8,h9]));go_wp2_with fail
        go_ret;exact ⟨by rw[d.out];first|rfl|simp[h1,h2,h3,h4,h5,h6,h7,h8,h9],(((Below.refl _ _).alloc (Nat.le_refl _) _).alloc (by simp) _)⟩
def zbd (l:LotR):Bool:=
 decide (l=⟨2,l.opens,l.closes,l.start,0,0,0,l.floor,l.fall,0,0⟩)&&(zae l.opens&&zae l.closes&&decide (l.opens<l.closes)&&zae l.start&&zj2 l.floor l.start&&zae l.fall)
theorem zjj (l:LotR) (w:World):Calls Tryz.prog 238 #[l.agg] w fun e w'=>e=.returned (.int .i64 (if zbd l=true then 0 else 2))∧Below w.heap.size w w':=by
 obtain ⟨z,v⟩:∃z:Int,z=(if zbd l=true then 0 else 2):=⟨_,rfl⟩;rw[←v];obtain ⟨o,d,a,c,r,j,p,f,g,k,q⟩:=l;have m:=hid v;have n:=fun W=>znd W ⟨o,d,a,c,r,j,p,f,g,k,q⟩ ⟨2,d,a,c,0,0,0,f,g,0,0⟩;simp only[LotR.agg,LotR.cells] at n ⊢;obtain ⟨b,t⟩:∃b,b=decide ((⟨o,d,a,c,r,j,p,f,g,k,q⟩:LotR)=⟨2,d,a,c,0,0,0,f,g,0,0⟩):=⟨_,rfl⟩;rw[←t] at n;have h:=hid t.symm;clear v t
 cases b with
 |false=>
  go_enter Tryz.func238,Tryz.ntmps238;have i:=hid (show z=2 from m.out.trans (by unfold zbd;dsimp only;rw[h.out];simp));go_wp2_with fail
  go_ret;exact ⟨by rw[i.out];first|rfl|simp[],(((Below.refl _ _).alloc (Nat.le_refl _) _).alloc (by simp) _)⟩
 |true=>
  go_enter Tryz.func238,Tryz.ntmps238;go_wp2_with fail
  refine (zfU d _).mono ?_;rintro e s ⟨rfl,rfl⟩
  cases h1:zae d with
  |false=>
   have i:=hid (show z=2 from m.out.trans (by unfold zbd;dsimp only;rw[h.out];simp[h1]));go_wp2_with fail
   go_ret;exact ⟨by rw[i.out];first|rfl|simp[h1],(((Below.refl _ _).alloc (Nat.le_refl _) _).alloc (by simp) _)⟩
  |true=>
   go_wp2_with fail
   refine (zfU a _).mono ?_;rintro e s ⟨rfl,rfl⟩
   cases h2:zae a with
   |false=>
    have i:=hid (show z=2 from m.out.trans (by unfold zbd;dsimp only;rw[h.out];simp[h1,h2]));go_wp2_with fail
    go_ret;exact ⟨by rw[i.out];first|rfl|simp[h1,h2],(((Below.refl _ _).alloc (Nat.le_refl _) _).alloc (by simp) _)⟩
   |true=>
    by_cases h3:d<a
    case neg=>
     have i:=hid (show z=2 from m.out.trans (by unfold zbd;dsimp only;rw[h.out];simp[h1,h2,h3]));go_wp2_with fail
     go_ret;exact ⟨by rw[i.out];first|rfl|simp[h1,h2,h3],(((Below.refl _ _).alloc (Nat.le_refl _) _).alloc (by simp) _)⟩
    go_wp2_with fail
    refine (zfU c _).mono ?_;rintro e s ⟨rfl,rfl⟩
    cases h4:zae c with
    |false=>
     have i:=hid (show z=2 from m.out.trans (by unfold zbd;dsimp only;rw[h.out];simp[h1,h2,h3,h4]));go_wp2_with fail
     go_ret;exact ⟨by rw[i.out];first|rfl|simp[h1,h2,h3,h4],(((Below.refl _ _).alloc (Nat.le_refl _) _).alloc (by simp) _)⟩
    |true=>
     go_wp2_with fail
     refine (zdS f c _).mono ?_;rintro e s ⟨rfl,rfl⟩
     cases h5:zj2 f c with
     |false=>
      have i:=hid (show z=2 from m.out.trans (by unfold zbd;dsimp only;rw[h.out];simp[h1,h2,h3,h4,h5]));go_wp2_with fail
      go_ret;exact ⟨by rw[i.out];first|rfl|simp[h1,h2,h3,h4,h5],(((Below.refl _ _).alloc (Nat.le_refl _) _).alloc (by simp) _)⟩
     |true=>
      go_wp2_with fail
      refine (zfU g _).mono ?_;rintro e s ⟨rfl,rfl⟩
      cases h6:zae g with
      |false=>
       have i:=hid (show z=2 from m.out.trans (by unfold zbd;dsimp only;rw[h.out];simp[h1,h2,h3,h4,h5,h6]));go_wp2_with fail
       go_ret;exact ⟨by rw[i.out];first|rfl|simp[h1,h2,h3,h4,h5,h6],(((Below.refl _ _).alloc (Nat.le_refl _) _).alloc (by simp) _)⟩
      |true=>
       have i:=hid (show z=0 from m.out.trans (by unfold zbd;dsimp only;rw[h.out];simp[h1,h2,h3,h4,h5,h6]));go_wp2_with fail
       go_ret;exact ⟨by rw[i.out];first|rfl|simp[h1,h2,h3,h4,h5,h6],(((Below.refl _ _).alloc (Nat.le_refl _) _).alloc (by simp) _)⟩
def zdC (l:LotR):Bool:=decide (l=⟨3,l.opens,l.closes,0,0,0,0,l.floor,0,0,0⟩)&&zae l.floor
def zct (l:LotR):Bool:=decide (l=⟨4,l.opens,l.closes,0,0,0,0,l.floor,0,l.count,0⟩)&&(zae l.floor&&decide (1≤l.count)&&decide (l.count≤64))
def zcc (l:LotR):Bool:=decide (l=⟨5,l.opens,l.closes,0,0,0,0,0,0,l.count,l.rule⟩)&&(decide (1≤l.count)&&decide (l.count≤10)&&(decide (l.rule=1)||decide (l.rule=2)))
theorem zrQ (l:LotR) (w:World):Calls Tryz.prog 245 #[.agg #[],l.agg] w fun e w'=>e=.returned (.bool (zdC l))∧Below w.heap.size w w':=by
 obtain ⟨z,t⟩:∃z:Bool,z=(zdC l):=⟨_,rfl⟩;rw[←t];obtain ⟨k,d,c,h,o,f,m,a,i,g,n⟩:=l;have r:=hid t;have j:=fun W=>zcJ W ⟨k,d,c,h,o,f,m,a,i,g,n⟩ ⟨3,d,c,0,0,0,0,a,0,0,0⟩;simp only[LotR.agg,LotR.cells] at j ⊢;obtain ⟨b,s⟩:∃b,b=decide ((⟨k,d,c,h,o,f,m,a,i,g,n⟩:LotR)=⟨3,d,c,0,0,0,0,a,0,0,0⟩):=⟨_,rfl⟩;rw[←s] at j;have p:=hid s.symm;clear t s
 cases b with
 |false=>
  go_enter Tryz.func245,Tryz.ntmps245;have q:=hid (show z=false from r.out.trans (by unfold zdC;dsimp only;rw[p.out];simp));go_wp2_with fail
  go_ret;exact ⟨by rw[q.out];first|rfl|simp[],(((Below.refl _ _).alloc (Nat.le_refl _) _).alloc (by simp) _)⟩
 |true=>
  go_enter Tryz.func245,Tryz.ntmps245;go_wp2_with fail
  refine (zce a _).mono ?_;rintro e v ⟨rfl,rfl⟩
  cases h1:zae a with
  |false=>
   have q:=hid (show z=false from r.out.trans (by unfold zdC;dsimp only;rw[p.out];simp[h1]));go_wp2_with fail
   go_ret;exact ⟨by rw[q.out];first|rfl|simp[h1],(((Below.refl _ _).alloc (Nat.le_refl _) _).alloc (by simp) _)⟩
  |true=>
   have q:=hid (show z=true from r.out.trans (by unfold zdC;dsimp only;rw[p.out];simp[h1]));go_wp2_with fail
   go_ret;exact ⟨by rw[q.out];first|rfl|simp[h1],(((Below.refl _ _).alloc (Nat.le_refl _) _).alloc (by simp) _)⟩
theorem zr9 (l:LotR) (w:World):Calls Tryz.prog 257 #[.agg #[],l.agg] w fun e w'=>e=.returned (.bool (zct l))∧Below w.heap.size w w':=by
 obtain ⟨z,t⟩:∃z:Bool,z=(zct l):=⟨_,rfl⟩;rw[←t];obtain ⟨n,f,d,i,q,g,o,c,k,a,p⟩:=l;have r:=hid t;have m:=fun W=>zcJ W ⟨n,f,d,i,q,g,o,c,k,a,p⟩ ⟨4,f,d,0,0,0,0,c,0,a,0⟩;simp only[LotR.agg,LotR.cells] at m ⊢;obtain ⟨b,s⟩:∃b,b=decide ((⟨n,f,d,i,q,g,o,c,k,a,p⟩:LotR)=⟨4,f,d,0,0,0,0,c,0,a,0⟩):=⟨_,rfl⟩;rw[←s] at m;have h:=hid s.symm;clear t s
 cases b with
 |false=>
  go_enter Tryz.func257,Tryz.ntmps257;have j:=hid (show z=false from r.out.trans (by unfold zct;dsimp only;rw[h.out];simp));go_wp2_with fail
  go_ret;exact ⟨by rw[j.out];first|rfl|simp[],(((Below.refl _ _).alloc (Nat.le_refl _) _).alloc (by simp) _)⟩
 |true=>
  go_enter Tryz.func257,Tryz.ntmps257;go_wp2_with fail
  refine (zce c _).mono ?_;rintro e v ⟨rfl,rfl⟩
  cases h1:zae c with
  |false=>
   have j:=hid (show z=false from r.out.trans (by unfold zct;dsimp only;rw[h.out];simp[h1]));go_wp2_with fail
   go_ret;exact ⟨by rw[j.out];first|rfl|simp[h1],(((Below.refl _ _).alloc (Nat.le_refl _) _).alloc (by simp) _)⟩
  |true=>
   by_cases h2:1≤a
   case neg=>
    have j:=hid (show z=false from r.out.trans (by unfold zct;dsimp only;rw[h.out];simp[h1,h2]));go_wp2_with fail
    go_ret;exact ⟨by rw[j.out];first|rfl|simp[h1,h2],(((Below.refl _ _).alloc (Nat.le_refl _) _).alloc (by simp) _)⟩
   by_cases h3:a≤64
   case neg=>
    have j:=hid (show z=false from r.out.trans (by unfold zct;dsimp only;rw[h.out];simp[h1,h2,h3]));go_wp2_with fail
    go_ret;exact ⟨by rw[j.out];first|rfl|simp[h1,h2,h3],(((Below.refl _ _).alloc (Nat.le_refl _) _).alloc (by simp) _)⟩
   have j:=hid (show z=true from r.out.trans (by unfold zct;dsimp only;rw[h.out];simp[h1,h2,h3]));go_wp2_with fail
   go_ret;exact ⟨by rw[j.out];first|rfl|simp[h1,h2,h3],(((Below.refl _ _).alloc (Nat.le_refl _) _).alloc (by simp) _)⟩
theorem zrD (l:LotR) (w:World):Calls Tryz.prog 272 #[.agg #[],l.agg] w fun e w'=>e=.returned (.bool (zcc l))∧Below w.heap.size w w':=by
 obtain ⟨z,t⟩:∃z:Bool,z=(zcc l):=⟨_,rfl⟩;rw[←t];obtain ⟨o,f,d,k,q,g,p,j,m,c,a⟩:=l;have r:=hid t;have n:=fun W=>zcJ W ⟨o,f,d,k,q,g,p,j,m,c,a⟩ ⟨5,f,d,0,0,0,0,0,0,c,a⟩;simp only[LotR.agg,LotR.cells] at n ⊢;obtain ⟨b,s⟩:∃b,b=decide ((⟨o,f,d,k,q,g,p,j,m,c,a⟩:LotR)=⟨5,f,d,0,0,0,0,0,0,c,a⟩):=⟨_,rfl⟩;rw[←s] at n;have h:=hid s.symm;clear t s
 cases b with
 |false=>
  go_enter Tryz.func272,Tryz.ntmps272;have i:=hid (show z=false from r.out.trans (by unfold zcc;dsimp only;rw[h.out];simp));go_wp2_with fail
  go_ret;exact ⟨by rw[i.out];first|rfl|simp[],(((Below.refl _ _).alloc (Nat.le_refl _) _).alloc (by simp) _)⟩
 |true=>
  go_enter Tryz.func272,Tryz.ntmps272;by_cases h1:1≤c
  case neg=>
   have i:=hid (show z=false from r.out.trans (by unfold zcc;dsimp only;rw[h.out];simp[h1]));go_wp2_with fail
   go_ret;exact ⟨by rw[i.out];first|rfl|simp[h1],(((Below.refl _ _).alloc (Nat.le_refl _) _).alloc (by simp) _)⟩
  by_cases h2:c≤10
  case neg=>
   have i:=hid (show z=false from r.out.trans (by unfold zcc;dsimp only;rw[h.out];simp[h1,h2]));go_wp2_with fail
   go_ret;exact ⟨by rw[i.out];first|rfl|simp[h1,h2],(((Below.refl _ _).alloc (Nat.le_refl _) _).alloc (by simp) _)⟩
  cases h3:(a==1) with
  |true=>
   have i:=hid (show z=true from r.out.trans (by unfold zcc;dsimp only;rw[h.out];simp[h1,h2,(show a=1 by simpa using h3)]));go_wp2_with fail
   go_ret;exact ⟨by rw[i.out];first|rfl|simp[h1,h2,(show a=1 by simpa using h3)],(((Below.refl _ _).alloc (Nat.le_refl _) _).alloc (by simp) _)⟩
  |false=>
   cases g3:(a==2) with
   |false=>
    have i:=hid (show z=false from r.out.trans (by unfold zcc;dsimp only;rw[h.out];simp[h1,h2,(show ¬a=1 by simpa using h3),(show ¬a=2 by simpa using g3)]));go_wp2_with fail
    go_ret;exact ⟨by rw[i.out];first|rfl|simp[h1,h2,(show ¬a=1 by simpa using h3),(show ¬a=2 by simpa using g3)],(((Below.refl _ _).alloc (Nat.le_refl _) _).alloc (by simp) _)⟩
   |true=>
    have i:=hid (show z=true from r.out.trans (by unfold zcc;dsimp only;rw[h.out];simp[h1,h2,(show ¬a=1 by simpa using h3),(show a=2 by simpa using g3)]));go_wp2_with fail
    go_ret;exact ⟨by rw[i.out];first|rfl|simp[h1,h2,(show ¬a=1 by simpa using h3),(show a=2 by simpa using g3)],(((Below.refl _ _).alloc (Nat.le_refl _) _).alloc (by simp) _)⟩
theorem zrI (l:LotR) (w:World):Calls Tryz.prog 215 #[.agg #[],l.agg] w fun e w'=>e=.returned (.bool (zaT l))∧Below w.heap.size w w':=by
 obtain ⟨z,t⟩:∃z,z=zaT l:=⟨_,rfl⟩;have p:=fun W=>zjw l W;rw[←t] at p ⊢;have r:=hid p;clear t p;obtain ⟨k,f,a,g,o,b,m,d,i,c,n⟩:=l;simp only[LotR.agg,LotR.cells] at r ⊢;have s:Below w.heap.size w ((w.alloc (.cells #[] 245)).alloc (.cells #[.int .i64 k,.int .i64 f,.int .i64 a,.int .i64 g,.int .i64 o,.int .i64 b,.int .i64 m,.int .i64 d,.int .i64 i,.int .i64 c,.int .i64 n] 58)):=((Below.refl _ _).alloc (Nat.le_refl _) _).alloc (by simp) _;have q:=hid s;clear s;go_enter Tryz.func215,Tryz.ntmps215;go_wp2_with fail
 refine (r.out _).mono ?_;rintro e v ⟨rfl,j⟩;have h:=hid (q.out.trans (j.mono q.out.size));clear j
 cases z
 ·go_wp2_with fail
  go_ret;exact ⟨rfl,h.out⟩
 ·go_wp2_with fail
  go_ret;exact ⟨rfl,h.out⟩
theorem zqU (l:LotR) (w:World):Calls Tryz.prog 233 #[.agg #[],l.agg] w fun e w'=>e=.returned (.bool (zbd l))∧Below w.heap.size w w':=by
 obtain ⟨z,t⟩:∃z,z=zbd l:=⟨_,rfl⟩;have p:=fun W=>zjj l W;rw[←t] at p ⊢;have r:=hid p;clear t p;obtain ⟨k,f,a,g,o,b,m,d,i,c,n⟩:=l;simp only[LotR.agg,LotR.cells] at r ⊢;have s:Below w.heap.size w ((w.alloc (.cells #[] 246)).alloc (.cells #[.int .i64 k,.int .i64 f,.int .i64 a,.int .i64 g,.int .i64 o,.int .i64 b,.int .i64 m,.int .i64 d,.int .i64 i,.int .i64 c,.int .i64 n] 58)):=((Below.refl _ _).alloc (Nat.le_refl _) _).alloc (by simp) _;have q:=hid s;clear s;go_enter Tryz.func233,Tryz.ntmps233;go_wp2_with fail
 refine (r.out _).mono ?_;rintro e v ⟨rfl,j⟩;have h:=hid (q.out.trans (j.mono q.out.size));clear j
 cases z
 ·go_wp2_with fail
  go_ret;exact ⟨rfl,h.out⟩
 ·go_wp2_with fail
  go_ret;exact ⟨rfl,h.out⟩
def zau (k:Int):Value:=
 if k=1 then .iface 245 (.agg #[]) else if k=2 then .iface 246 (.agg #[]) else if k=3 then .iface 247 (.agg #[]) else if k=4 then .iface 248 (.agg #[]) else if k=5 then .iface 249 (.agg #[]) else .nilIface
def zl1 (l:LotR):Bool:=if l.kind=1 then zaT l else if l.kind=2 then zbd l else if l.kind=3 then zdC l else if l.kind=4 then zct l else if l.kind=5 then zcc l else false
def zbO (l:LotR):Bool:=zae l.opens&&zae l.closes&&decide (l.opens<l.closes)&&zl1 l
theorem zcW (k:Int) (w:World):Calls Tryz.prog 119 #[.int .i64 k] w fun e w'=>e=.returned (zau k)∧w'=w:=by
 obtain ⟨z,d⟩:∃z,z=zau k:=⟨_,rfl⟩;rw[←d];have c:=hid d;clear d;have f:∀w,(Instr.makeInterface 245 (.agg #[])).run Tryz.prog w=.ok (.iface 245 (.agg #[])) w:=fun w=>by kernel_rfl
 have g:∀w,(Instr.makeInterface 246 (.agg #[])).run Tryz.prog w=.ok (.iface 246 (.agg #[])) w:=fun w=>by kernel_rfl
 have h:∀w,(Instr.makeInterface 247 (.agg #[])).run Tryz.prog w=.ok (.iface 247 (.agg #[])) w:=fun w=>by kernel_rfl
 have i:∀w,(Instr.makeInterface 248 (.agg #[])).run Tryz.prog w=.ok (.iface 248 (.agg #[])) w:=fun w=>by kernel_rfl
 have j:∀w,(Instr.makeInterface 249 (.agg #[])).run Tryz.prog w=.ok (.iface 249 (.agg #[])) w:=fun w=>by kernel_rfl
 cases h1:(k==1) with
 |true=>
  have b:k=1:=by simpa using h1
  subst b;have a:=hid (show z=.iface 245 (.agg #[]) from c.out.trans (by simp[zau]));go_enter Tryz.func119,Tryz.ntmps119;go_wp2_with fail
  go_ret;exact ⟨by rw[a.out];rfl,rfl⟩
 |false=>
  cases h2:(k==2) with
  |true=>
   have b:k=2:=by simpa using h2
   subst b;have a:=hid (show z=.iface 246 (.agg #[]) from c.out.trans (by simp[zau]));go_enter Tryz.func119,Tryz.ntmps119;go_wp2_with fail
   go_ret;exact ⟨by rw[a.out];rfl,rfl⟩
  |false=>
   cases h3:(k==3) with
   |true=>
    have b:k=3:=by simpa using h3
    subst b;have a:=hid (show z=.iface 247 (.agg #[]) from c.out.trans (by simp[zau]));go_enter Tryz.func119,Tryz.ntmps119;go_wp2_with fail
    go_ret;exact ⟨by rw[a.out];rfl,rfl⟩
   |false=>
    cases h4:(k==4) with
    |true=>
     have b:k=4:=by simpa using h4
     subst b;have a:=hid (show z=.iface 248 (.agg #[]) from c.out.trans (by simp[zau]));go_enter Tryz.func119,Tryz.ntmps119;go_wp2_with fail
     go_ret;exact ⟨by rw[a.out];rfl,rfl⟩
    |false=>
     cases h5:(k==5) with
     |true=>
      have b:k=5:=by simpa using h5
      subst b;have a:=hid (show z=.iface 249 (.agg #[]) from c.out.trans (by simp[zau]));go_enter Tryz.func119,Tryz.ntmps119;go_wp2_with fail
      go_ret;exact ⟨by rw[a.out];rfl,rfl⟩
     |false=>
      have a:=hid (show z=.nilIface from c.out.trans (by simp at h1 h2 h3 h4 h5;simp[zau,h1,h2,h3,h4,h5]));go_enter Tryz.func119,Tryz.ntmps119;go_wp2_with fail
      go_ret;exact ⟨by rw[a.out];rfl,rfl⟩
theorem zq0 (l:LotR) (y:l.kind=1) (w:World):Calls Tryz.prog 117 #[l.agg] w fun e w'=>e=.returned (.int .i64 (if (zae l.opens&&zae l.closes&&decide (l.opens<l.closes)&&zaT l)=true then 0 else 2))∧Below w.heap.size w w':=by
 obtain ⟨b,v⟩:∃b,b=zaT l:=⟨_,rfl⟩;have r:=fun w=>zrI l w;rw[←v] at r ⊢;clear v;obtain ⟨z,s⟩:∃z:Int,z=if (zae l.opens&&zae l.closes&&decide (l.opens<l.closes)&&b)=true then 0 else 2:=⟨_,rfl⟩
 rw[←s];obtain ⟨kind,opens,closes,g,q,c,o,f,k,d,p⟩:=l;simp only at y s;subst y;simp only[LotR.agg,LotR.cells] at r ⊢;have j:=hid s;have B:=hid r;clear s r;have n:zau 1=.iface 245 (.agg #[]):=by simp[zau]
 have t:=hid n;clear n;have x:∀w,(binOp .eql 140 (.iface 245 (.agg #[])) .nilIface).run Tryz.prog w=.ok (.bool false) w:=fun w=>by kernel_rfl
 have h:=hid (show Below w.heap.size w (w.alloc (.cells #[.int .i64 1,.int .i64 opens,.int .i64 closes,.int .i64 g,.int .i64 q,.int .i64 c,.int .i64 o,.int .i64 f,.int .i64 k,.int .i64 d,.int .i64 p] 58)) from (Below.refl _ _).alloc (Nat.le_refl _) _);go_enter Tryz.func117,Tryz.ntmps117;go_wp2_with fail
 refine (zcW 1 _).mono ?_;rintro e A ⟨rfl,rfl⟩;rw[t.out];go_wp2_with fail
 refine (zbY opens _).mono ?_;rintro e A ⟨rfl,rfl⟩
 cases h1:zae opens with
 |false=>
  have a:=hid (show z=2 from j.out.trans (by simp[h1]));go_wp2_with fail
  go_ret;exact ⟨by rw[a.out];rfl,h.out⟩
 |true=>
  go_wp2_with fail
  refine (zbY closes _).mono ?_;rintro e A ⟨rfl,rfl⟩
  cases h2:zae closes with
  |false=>
   have a:=hid (show z=2 from j.out.trans (by simp[h1,h2]));go_wp2_with fail
   go_ret;exact ⟨by rw[a.out];rfl,h.out⟩
  |true=>
   by_cases h3:opens<closes
   case neg=>
    have a:=hid (show z=2 from j.out.trans (by simp[h1,h2,h3]));go_wp2_with fail
    go_ret;exact ⟨by rw[a.out];rfl,h.out⟩
   go_wp2_with fail
   refine (B.out _).mono ?_;rintro e C ⟨rfl,m⟩;have i:=hid (h.out.trans (m.mono h.out.size));clear m
   cases b with
   |false=>
    have a:=hid (show z=2 from j.out.trans (by simp[h1,h2,h3]));go_wp2_with fail
    go_ret;exact ⟨by rw[a.out];rfl,i.out⟩
   |true=>
    have a:=hid (show z=0 from j.out.trans (by simp[h1,h2,h3]));go_wp2_with fail
    go_ret;exact ⟨by rw[a.out];rfl,i.out⟩
theorem zq1 (l:LotR) (y:l.kind=2) (w:World):Calls Tryz.prog 117 #[l.agg] w fun e w'=>e=.returned (.int .i64 (if (zae l.opens&&zae l.closes&&decide (l.opens<l.closes)&&zbd l)=true then 0 else 2))∧Below w.heap.size w w':=by
 obtain ⟨b,v⟩:∃b,b=zbd l:=⟨_,rfl⟩;have r:=fun w=>zqU l w;rw[←v] at r ⊢;clear v;obtain ⟨z,s⟩:∃z:Int,z=if (zae l.opens&&zae l.closes&&decide (l.opens<l.closes)&&b)=true then 0 else 2:=⟨_,rfl⟩
 rw[←s];obtain ⟨kind,opens,closes,g,q,c,o,f,k,d,p⟩:=l;simp only at y s;subst y;simp only[LotR.agg,LotR.cells] at r ⊢;have j:=hid s;have B:=hid r;clear s r;have n:zau 2=.iface 246 (.agg #[]):=by simp[zau]
 have t:=hid n;clear n;have x:∀w,(binOp .eql 140 (.iface 246 (.agg #[])) .nilIface).run Tryz.prog w=.ok (.bool false) w:=fun w=>by kernel_rfl
 have h:=hid (show Below w.heap.size w (w.alloc (.cells #[.int .i64 2,.int .i64 opens,.int .i64 closes,.int .i64 g,.int .i64 q,.int .i64 c,.int .i64 o,.int .i64 f,.int .i64 k,.int .i64 d,.int .i64 p] 58)) from (Below.refl _ _).alloc (Nat.le_refl _) _);go_enter Tryz.func117,Tryz.ntmps117;go_wp2_with fail
 refine (zcW 2 _).mono ?_;rintro e A ⟨rfl,rfl⟩;rw[t.out];go_wp2_with fail
 refine (zbY opens _).mono ?_;rintro e A ⟨rfl,rfl⟩
 cases h1:zae opens with
 |false=>
  have a:=hid (show z=2 from j.out.trans (by simp[h1]));go_wp2_with fail
  go_ret;exact ⟨by rw[a.out];rfl,h.out⟩
 |true=>
  go_wp2_with fail
  refine (zbY closes _).mono ?_;rintro e A ⟨rfl,rfl⟩
  cases h2:zae closes with
  |false=>
   have a:=hid (show z=2 from j.out.trans (by simp[h1,h2]));go_wp2_with fail
   go_ret;exact ⟨by rw[a.out];rfl,h.out⟩
  |true=>
   by_cases h3:opens<closes
   case neg=>
    have a:=hid (show z=2 from j.out.trans (by simp[h1,h2,h3]));go_wp2_with fail
    go_ret;exact ⟨by rw[a.out];rfl,h.out⟩
   go_wp2_with fail
   refine (B.out _).mono ?_;rintro e C ⟨rfl,m⟩;have i:=hid (h.out.trans (m.mono h.out.size));clear m
   cases b with
   |false=>
    have a:=hid (show z=2 from j.out.trans (by simp[h1,h2,h3]));go_wp2_with fail
    go_ret;exact ⟨by rw[a.out];rfl,i.out⟩
   |true=>
    have a:=hid (show z=0 from j.out.trans (by simp[h1,h2,h3]));go_wp2_with fail
    go_ret;exact ⟨by rw[a.out];rfl,i.out⟩
theorem zq2 (l:LotR) (y:l.kind=3) (w:World):Calls Tryz.prog 117 #[l.agg] w fun e w'=>e=.returned (.int .i64 (if (zae l.opens&&zae l.closes&&decide (l.opens<l.closes)&&zdC l)=true then 0 else 2))∧Below w.heap.size w w':=by
 obtain ⟨b,v⟩:∃b,b=zdC l:=⟨_,rfl⟩;have r:=fun w=>zrQ l w;rw[←v] at r ⊢;clear v;obtain ⟨z,s⟩:∃z:Int,z=if (zae l.opens&&zae l.closes&&decide (l.opens<l.closes)&&b)=true then 0 else 2:=⟨_,rfl⟩
 rw[←s];obtain ⟨kind,opens,closes,g,q,c,o,f,k,d,p⟩:=l;simp only at y s;subst y;simp only[LotR.agg,LotR.cells] at r ⊢;have j:=hid s;have B:=hid r;clear s r;have n:zau 3=.iface 247 (.agg #[]):=by simp[zau]
 have t:=hid n;clear n;have x:∀w,(binOp .eql 140 (.iface 247 (.agg #[])) .nilIface).run Tryz.prog w=.ok (.bool false) w:=fun w=>by kernel_rfl
 have h:=hid (show Below w.heap.size w (w.alloc (.cells #[.int .i64 3,.int .i64 opens,.int .i64 closes,.int .i64 g,.int .i64 q,.int .i64 c,.int .i64 o,.int .i64 f,.int .i64 k,.int .i64 d,.int .i64 p] 58)) from (Below.refl _ _).alloc (Nat.le_refl _) _);go_enter Tryz.func117,Tryz.ntmps117;go_wp2_with fail
 refine (zcW 3 _).mono ?_;rintro e A ⟨rfl,rfl⟩;rw[t.out];go_wp2_with fail
 refine (zbY opens _).mono ?_;rintro e A ⟨rfl,rfl⟩
 cases h1:zae opens with
 |false=>
  have a:=hid (show z=2 from j.out.trans (by simp[h1]));go_wp2_with fail
  go_ret;exact ⟨by rw[a.out];rfl,h.out⟩
 |true=>
  go_wp2_with fail
  refine (zbY closes _).mono ?_;rintro e A ⟨rfl,rfl⟩
  cases h2:zae closes with
  |false=>
   have a:=hid (show z=2 from j.out.trans (by simp[h1,h2]));go_wp2_with fail
   go_ret;exact ⟨by rw[a.out];rfl,h.out⟩
  |true=>
   by_cases h3:opens<closes
   case neg=>
    have a:=hid (show z=2 from j.out.trans (by simp[h1,h2,h3]));go_wp2_with fail
    go_ret;exact ⟨by rw[a.out];rfl,h.out⟩
   go_wp2_with fail
   refine (B.out _).mono ?_;rintro e C ⟨rfl,m⟩;have i:=hid (h.out.trans (m.mono h.out.size));clear m
   cases b with
   |false=>
    have a:=hid (show z=2 from j.out.trans (by simp[h1,h2,h3]));go_wp2_with fail
    go_ret;exact ⟨by rw[a.out];rfl,i.out⟩
   |true=>
    have a:=hid (show z=0 from j.out.trans (by simp[h1,h2,h3]));go_wp2_with fail
    go_ret;exact ⟨by rw[a.out];rfl,i.out⟩
theorem zq3 (l:LotR) (y:l.kind=4) (w:World):Calls Tryz.prog 117 #[l.agg] w fun e w'=>e=.returned (.int .i64 (if (zae l.opens&&zae l.closes&&decide (l.opens<l.closes)&&zct l)=true then 0 else 2))∧Below w.heap.size w w':=by
 obtain ⟨b,v⟩:∃b,b=zct l:=⟨_,rfl⟩;have r:=fun w=>zr9 l w;rw[←v] at r ⊢;clear v;obtain ⟨z,s⟩:∃z:Int,z=if (zae l.opens&&zae l.closes&&decide (l.opens<l.closes)&&b)=true then 0 else 2:=⟨_,rfl⟩
 rw[←s];obtain ⟨kind,opens,closes,g,q,c,o,f,k,d,p⟩:=l;simp only at y s;subst y;simp only[LotR.agg,LotR.cells] at r ⊢;have j:=hid s;have B:=hid r;clear s r;have n:zau 4=.iface 248 (.agg #[]):=by simp[zau]
 have t:=hid n;clear n;have x:∀w,(binOp .eql 140 (.iface 248 (.agg #[])) .nilIface).run Tryz.prog w=.ok (.bool false) w:=fun w=>by kernel_rfl
 have h:=hid (show Below w.heap.size w (w.alloc (.cells #[.int .i64 4,.int .i64 opens,.int .i64 closes,.int .i64 g,.int .i64 q,.int .i64 c,.int .i64 o,.int .i64 f,.int .i64 k,.int .i64 d,.int .i64 p] 58)) from (Below.refl _ _).alloc (Nat.le_refl _) _);go_enter Tryz.func117,Tryz.ntmps117;go_wp2_with fail
 refine (zcW 4 _).mono ?_;rintro e A ⟨rfl,rfl⟩;rw[t.out];go_wp2_with fail
 refine (zbY opens _).mono ?_;rintro e A ⟨rfl,rfl⟩
 cases h1:zae opens with
 |false=>
  have a:=hid (show z=2 from j.out.trans (by simp[h1]));go_wp2_with fail
  go_ret;exact ⟨by rw[a.out];rfl,h.out⟩
 |true=>
  go_wp2_with fail
  refine (zbY closes _).mono ?_;rintro e A ⟨rfl,rfl⟩
  cases h2:zae closes with
  |false=>
   have a:=hid (show z=2 from j.out.trans (by simp[h1,h2]));go_wp2_with fail
   go_ret;exact ⟨by rw[a.out];rfl,h.out⟩
  |true=>
   by_cases h3:opens<closes
   case neg=>
    have a:=hid (show z=2 from j.out.trans (by simp[h1,h2,h3]));go_wp2_with fail
    go_ret;exact ⟨by rw[a.out];rfl,h.out⟩
   go_wp2_with fail
   refine (B.out _).mono ?_;rintro e C ⟨rfl,m⟩;have i:=hid (h.out.trans (m.mono h.out.size));clear m
   cases b with
   |false=>
    have a:=hid (show z=2 from j.out.trans (by simp[h1,h2,h3]));go_wp2_with fail
    go_ret;exact ⟨by rw[a.out];rfl,i.out⟩
   |true=>
    have a:=hid (show z=0 from j.out.trans (by simp[h1,h2,h3]));go_wp2_with fail
    go_ret;exact ⟨by rw[a.out];rfl,i.out⟩
theorem zq4 (l:LotR) (y:l.kind=5) (w:World):Calls Tryz.prog 117 #[l.agg] w fun e w'=>e=.returned (.int .i64 (if (zae l.opens&&zae l.closes&&decide (l.opens<l.closes)&&zcc l)=true then 0 else 2))∧Below w.heap.size w w':=by
 obtain ⟨b,v⟩:∃b,b=zcc l:=⟨_,rfl⟩;have r:=fun w=>zrD l w;rw[←v] at r ⊢;clear v;obtain ⟨z,s⟩:∃z:Int,z=if (zae l.opens&&zae l.closes&&decide (l.opens<l.closes)&&b)=true then 0 else 2:=⟨_,rfl⟩
 rw[←s];obtain ⟨kind,opens,closes,g,q,c,o,f,k,d,p⟩:=l;simp only at y s;subst y;simp only[LotR.agg,LotR.cells] at r ⊢;have j:=hid s;have B:=hid r;clear s r;have n:zau 5=.iface 249 (.agg #[]):=by simp[zau]
 have t:=hid n;clear n;have x:∀w,(binOp .eql 140 (.iface 249 (.agg #[])) .nilIface).run Tryz.prog w=.ok (.bool false) w:=fun w=>by kernel_rfl
 have h:=hid (show Below w.heap.size w (w.alloc (.cells #[.int .i64 5,.int .i64 opens,.int .i64 closes,.int .i64 g,.int .i64 q,.int .i64 c,.int .i64 o,.int .i64 f,.int .i64 k,.int .i64 d,.int .i64 p] 58)) from (Below.refl _ _).alloc (Nat.le_refl _) _);go_enter Tryz.func117,Tryz.ntmps117;go_wp2_with fail
 refine (zcW 5 _).mono ?_;rintro e A ⟨rfl,rfl⟩;rw[t.out];go_wp2_with fail
 refine (zbY opens _).mono ?_;rintro e A ⟨rfl,rfl⟩
 cases h1:zae opens with
 |false=>
  have a:=hid (show z=2 from j.out.trans (by simp[h1]));go_wp2_with fail
  go_ret;exact ⟨by rw[a.out];rfl,h.out⟩
 |true=>
  go_wp2_with fail
  refine (zbY closes _).mono ?_;rintro e A ⟨rfl,rfl⟩
  cases h2:zae closes with
  |false=>
   have a:=hid (show z=2 from j.out.trans (by simp[h1,h2]));go_wp2_with fail
   go_ret;exact ⟨by rw[a.out];rfl,h.out⟩
  |true=>
   by_cases h3:opens<closes
   case neg=>
    have a:=hid (show z=2 from j.out.trans (by simp[h1,h2,h3]));go_wp2_with fail
    go_ret;exact ⟨by rw[a.out];rfl,h.out⟩
   go_wp2_with fail
   refine (B.out _).mono ?_;rintro e C ⟨rfl,m⟩;have i:=hid (h.out.trans (m.mono h.out.size));clear m
   cases b with
   |false=>
    have a:=hid (show z=2 from j.out.trans (by simp[h1,h2,h3]));go_wp2_with fail
    go_ret;exact ⟨by rw[a.out];rfl,i.out⟩
   |true=>
    have a:=hid (show z=0 from j.out.trans (by simp[h1,h2,h3]));go_wp2_with fail
    go_ret;exact ⟨by rw[a.out];rfl,i.out⟩
theorem zqZ (l:LotR) (g:zau l.kind=.nilIface) (w:World):Calls Tryz.prog 117 #[l.agg] w fun e w'=>e=.returned (.int .i64 2)∧Below w.heap.size w w':=by
 obtain ⟨kind,h,a,i,o,b,m,f,j,d,n⟩:=l;simp only at g;simp only[LotR.agg,LotR.cells];have c:=hid g;clear g;have k:∀(w:World),(binOp .eql 140 .nilIface .nilIface).run Tryz.prog w=.ok (.bool true) w:=fun w=>by kernel_rfl
 go_enter Tryz.func117,Tryz.ntmps117;go_wp2_with fail
 refine (zcW kind _).mono ?_;rintro e p ⟨rfl,rfl⟩;rw[c.out];go_wp2_with fail
 go_ret;exact ⟨rfl,(Below.refl _ _).alloc (Nat.le_refl _) _⟩
theorem zjn (l:LotR) (w:World):Calls Tryz.prog 117 #[l.agg] w fun e w'=>e=.returned (.int .i64 (if zbO l=true then 0 else 2))∧Below w.heap.size w w':=by
 unfold zbO zl1;by_cases h1:l.kind=1
 ·rw[if_pos h1];exact zq0 l h1 w
 ·rw[if_neg h1];by_cases h2:l.kind=2
  ·rw[if_pos h2];exact zq1 l h2 w
  ·rw[if_neg h2];by_cases h3:l.kind=3
   ·rw[if_pos h3];exact zq2 l h3 w
   ·rw[if_neg h3];by_cases h4:l.kind=4
    ·rw[if_pos h4];exact zq3 l h4 w
    ·rw[if_neg h4];by_cases h5:l.kind=5
     ·rw[if_pos h5];exact zq4 l h5 w
     ·rw[if_neg h5];have:=zqZ l (by simp[zau,h1,h2,h3,h4,h5]) w
      simpa using this
end Ho
namespace Ac
theorem Chg.cell {X:Nat→Prop} {a b:World} (h:Chg X a b) {p:Addr} (c:p.block<a.heap.size) (d:¬X p.block):b.cell? p=a.cell? p:=by
 unfold World.cell?;rw[h.block _ c d]
end Ac
namespace Ho
open Go.RowKit Vb Ac
structure RowAt (W:World) (R:Nat→Prop) (e:TypeId) (sz:Nat) (v:Value) (n:Nat) (xs:List Value):Prop where
 own:W.ownsRow 0 e sz v n xs
 blk:∀b,v.ownBlock=some b→R b
section
variable {W W':World} {R R' X:Nat→Prop} {e:TypeId} {sz n:Nat} {v:Value} {xs:List Value}
theorem RowAt.lt (h:RowAt W R e sz v n xs) {b:Nat} (hb:v.ownBlock=some b):b<W.heap.size:=(h.own.lt b hb).2
theorem RowAt.nil:RowAt W R e sz (.slice none 0 0) 0 []:=⟨World.ownsRow_nil _ _ _ _,fun _ h=>by cases h⟩
theorem RowAt.mono (h:RowAt W R e sz v n xs) (hR:∀b,b<W.heap.size→R b→R' b):RowAt W R' e sz v n xs:=⟨h.own,fun b hb=>hR b (h.lt hb) (h.blk b hb)⟩
theorem RowAt.chg (h:RowAt W R e sz v n xs) (d:Chg X W W') (c:∀b,b<W.heap.size→R b→¬X b):RowAt W' R e sz v n xs:=by
 refine ⟨⟨h.own.1,?_⟩,h.blk⟩
 rcases h.own.2 with h2|⟨g,cap,cur,hv,hb,hg,r⟩
 ·exact .inl h2
 ·have a:=(Array.getElem?_eq_some_iff.1 hg).1;exact .inr ⟨g,cap,cur,hv,hb,(d.block g a (c g a (h.blk g (by rw[hv];rfl)))).trans hg,r⟩
theorem RowAt.chgB (h:RowAt W R e sz v n xs) (d:Chg X W W') (c:∀b,v.ownBlock=some b→¬X b):RowAt W' R e sz v n xs:=by
 refine ⟨⟨h.own.1,?_⟩,h.blk⟩
 rcases h.own.2 with h2|⟨g,cap,cur,hv,hb,hg,r⟩
 ·exact .inl h2
 ·have a:=(Array.getElem?_eq_some_iff.1 hg).1;exact .inr ⟨g,cap,cur,hv,hb,(d.block g a (c g (by rw[hv];rfl))).trans hg,r⟩
theorem RowAt.grow (h:RowAt W R e sz v n xs) (hb:Below W.heap.size W W'):RowAt W' R e sz v n xs:=h.chg (Chg.of (fun _=>False) hb) fun _ _ _=>id
theorem RowAt.form (h:RowAt W R e sz v n xs):∃A cap,v=.slice A n cap:=zfj h.own
theorem RowAt.len (h:RowAt W R e sz v n xs):xs.length=n*sz:=h.own.1
theorem RowAt.sl (h:RowAt W R e sz v n xs):Sl W R v n sz xs:=(Sl.of_own h.own).mono fun b _ hb=>h.blk b hb
theorem RowAt.max (h:RowAt W R e sz v n xs):n≤maxLen:=by
 rcases h.own.2 with ⟨_,h⟩|⟨g,cap,cur,_,_,_,h1,h2,_⟩
 ·omega
 ·omega
theorem RowAt.ex (h:RowAt W R e sz v n xs) (a:0<n):∃g cap,v=.slice (some ⟨g,0,none⟩) n cap∧R g∧g<W.heap.size∧n≤cap:=by
 rcases h.own.2 with ⟨_,h0⟩|⟨g,cap,cur,hv,_,_,hc,_⟩
 ·omega
 ·exact ⟨g,cap,hv,h.blk g (by rw[hv];rfl),h.lt (b:=g) (by rw[hv];rfl),hc⟩
theorem RowAt.set {g cap:Nat} (h:RowAt W R e sz (.slice (some ⟨g,0,none⟩) n cap) n xs) (j:Nat) (u:Value):RowAt (W.setCell ⟨g,j,none⟩ u) R e sz (.slice (some ⟨g,0,none⟩) n cap) n (xs.set j u):=
 ⟨(h.own.stored j u).1,h.blk⟩
theorem RowAt.new (W:World) (cs:Array Value) (t:TypeId) (n sz:Nat) (hn:n≤maxLen) (hs:cs.size=n*sz):RowAt (W.alloc (.cells cs t)) (·=W.heap.size) t sz (.slice (some ⟨W.heap.size,0,none⟩) n n) n cs.toList:=
 ⟨World.ownsRow_lit W cs n (Nat.zero_le _) hn hs,fun b hb=>by cases hb;rfl⟩
theorem RowAt.app {v':Value} {c:Nat} {d:List Value} (h:RowAt W R e sz v n xs) (f:W'.ownsRow 0 e sz v' c d) (g:v'.ownBlock=v.ownBlock∨v'.ownBlock=some W.heap.size):
  RowAt W' (fun b=>R b∨b=W.heap.size) e sz v' c d:=by
 refine ⟨f,fun b a=>?_⟩
 rcases g with e|e
 ·exact .inl (h.blk b (e▸a))
 ·rw[e] at a;cases a;exact .inr rfl
end
end Ho
namespace Vb
open Go
section
variable {P:Program} {ops:Array Oper} {Q:Exit→Act→World→Prop} {md:Region.Mode} {S:World→Prop} {fins:List Nat}
def zfT (md:Region.Mode) (ops:Array Oper) (fins:List Nat) (i:Nat):Bool:=
 fins.all fun j=>((ops[j]?).map fun o=>o.after.any fun e=>Region.binds md e&&decide (e.on=i)).getD false
theorem zoC {i j:Nat} {o:Oper} (h:zfT md ops fins i=true) (c:fins.contains j=true) (f:ops[j]? =some o):∃e∈o.after,Region.binds md e=true∧e.on=i:=by
 unfold zfT at h;have:=List.all_eq_true.1 h j (by simpa using c);rw[f] at this;obtain ⟨k,d,a,b⟩:∃k,∃h:k<o.after.size,Region.binds md o.after[k]=true∧o.after[k].on=i:=by simpa using this
 exact ⟨_,Array.getElem_mem d,a,b⟩
def zat (P:Program) (md:Region.Mode) (ops:Array Oper) (Q:Exit→Act→World→Prop) (S:World→Prop) (fins:List Nat):Nat→Array Bool→Act→World→Prop
 |0,listed,a,w=>Region.ready md ops listed=[]∧Q .normal a w
 |fuel+1,listed,a,w=>
  (Region.ready md ops listed=[]→Q .normal a w)∧
  ∀i∈Region.ready md ops listed,wpOp P ops Q i (fun a' w'=>(fins.contains i=false→S w')∧zat P md ops Q S fins fuel (listed.setIfInBounds i true) a' w') a w
theorem zj5:∀(fuel:Nat) (listed:Array Bool) (a:Act) (w:World),zat P md ops Q S fins fuel listed a w→wpAny P md ops Q fuel listed a w
 |0,_,_,_,h=>h
 |fuel+1,_,_,_,h=>⟨h.1,fun i hi=>wpOp_mono (fun a' w' h'=>zj5 fuel _ a' w' h'.2) (h.2 i hi)⟩
theorem zms {i:Nat} {t:Oper} {v:Value} (I:ops[i]? =some t) (p:∀(j:Nat) (o:Oper) cs b,ops[j]? =some o→o.op≠ .select cs b)
  (z:zfT md ops fins i=true) (R:∀c a w,Q (.panic c) (a.put t.dst v) w→Q (.panic c) a w):
  ∀(fuel:Nat) (d:Array Bool) (a:Act) (w:World),
   (∀j oj,ops[j]? =some oj→j≠i→d.getD j true=false→(∀e∈oj.after,Region.binds md e=true→e.on≠i)→t.apart ops oj=true)→
   i∈Region.ready md ops d→YieldsIf P ops S t v a→S w→
   zat P md ops Q S fins fuel (d.setIfInBounds i true) (a.put t.dst v) w→zat P md ops Q S fins (fuel+1) d a w:=by
 intro fuel
 induction fuel with
 |zero=>
  intro d a w _ s E x H;refine ⟨fun h=>(by rw[h] at s;cases s),fun j D=>?_⟩;by_cases hji:j=i
  ·subst hji;exact E.wpOp I x ⟨fun _=>x,H⟩
  ·have:=ready_mono D hji;rw[H.1] at this
   cases this
 |succ fuel ih=>
  intro d a w f s E x H;refine ⟨fun h=>(by rw[h] at s;cases s),fun j D=>?_⟩;by_cases hji:j=i
  ·subst hji;exact E.wpOp I x ⟨fun _=>x,H⟩
  ·have q:=H.2 j (ready_mono D hji);obtain ⟨m,oj,l,y⟩:=mem_ready.1 D;have n:∀e∈oj.after,Region.binds md e=true→e.on≠i:=fun e G F r=>by
    have q:=y e G F;have M:=(mem_ready.1 s).1;rw[r] at q
    rcases Nat.lt_or_ge i d.size with h'|h'
    ·simp[h'] at M q;rw[M] at q;cases q
    ·simp[Array.getElem?_eq_none h'] at q
   have K:fins.contains j=false:=by
    cases hc:fins.contains j with
    |false=>rfl
    |true=>
     obtain ⟨e,G,F,r⟩:=zoC z hc l;exact absurd r (n e G F)
   have O:=wpOp_putIf l (f j oj l hji m n) (fun cs b=>p i t cs b I) (fun cs b=>p j oj cs b l) R E q;have g:∀k B,ops[k]? =some B→k≠i→(d.setIfInBounds j true).getD k true=false→
     (∀e∈B.after,Region.binds md e=true→e.on≠i)→t.apart ops B=true:=fun k B T J A L=>by
    refine f k B T J ?_ L;by_cases hjk:j=k
    ·subst hjk;exact m
    ·rw[getD_set_ne true hjk] at A;exact A
   refine wpOp_mono (fun N U C=>⟨C.2.1,ih (d.setIfInBounds j true) N U g (ready_mono s (Ne.symm hji)) C.1 (C.2.1 K) ?_⟩) O;rw[Array.setIfInBounds_comm _ _ hji];exact C.2.2
theorem zd9 {i:Nat} {oi:Oper} {v:Value} {fuel:Nat} {listed:Array Bool} {a:Act} {w:World} (hi:ops[i]? =some oi)
  (hs:Region.noSelect ops=true) (hf:Region.free md ops listed i=true) (hr:(Region.ready md ops listed).contains i=true) (hfin:zfT md ops fins i=true)
  (hQ:∀c a w,Q (.panic c) (a.put oi.dst v) w→Q (.panic c) a w) (hy:YieldsIf P ops S oi v a) (hS:S w)
  (h:zat P md ops Q S fins fuel (listed.setIfInBounds i true) (a.put oi.dst v) w):zat P md ops Q S fins (fuel+1) listed a w:=
 zms hi (Region.noSelect_spec hs) hfin hQ fuel listed a w (Region.free_spec hi hf) (by simpa using hr) hy hS h
theorem drop_at {os:List Oper} {i:Nat} {o:Oper} (h:ops.toList.drop i=o::os):ops[i]? =some o:=by
 have:(ops.toList.drop i)[0]? =some o:=by rw[h];rfl
 rw[List.getElem?_drop] at this
 simpa using this
theorem pb {α:Type} (l:List α) (i:Nat) (a:α):l.toArray.setIfInBounds i a=(l.set i a).toArray:=List.setIfInBounds_toArray _ _ _
theorem pz {α:Type} (a b:α) (l:List α):(a::l).set 0 b=b::l:=rfl
theorem ps {α:Type} (a b:α) (l:List α) (n:Nat):(a::l).set (n+1) b=a::l.set n b:=rfl
theorem tp (i:Nat) {e:Oper} {os:List Oper} {v:Value} {fuel:Nat} {d:Array Bool} {a b:Act} {w:World} (f:S w) (h:zat P md ops Q S fins fuel (d.setIfInBounds i true) b w) (g:ops.toList.drop i=e::os:=by rfl)
  (hs:Region.noSelect ops=true:=by kernel_rfl) (hf:Region.free md ops d i=true:=by kernel_rfl) (hr:(Region.ready md ops d).contains i=true:=by kernel_rfl) (hfin:zfT md ops fins i=true:=by kernel_rfl)
  (hQ:∀c a w,Q (.panic c) (a.put e.dst v) w→Q (.panic c) a w:=by exact fun _ _ _ h=>h) (hw:Region.wanted e (yielded ops a.tmps)=true:=by rfl)
  (hy:∀w,S w→(execOp a.eval e).run P w=.ok (.value v) w:=by intro _ _;go_simp;try with_reducible rfl)
  (hb:a.put e.dst v=b:=by first|(simp only[Act.put,pb,pz,ps];done)|(simp only[Act.put,pb,pz,ps];rfl)|rfl):zat P md ops Q S fins (fuel+1) d a w:=
 zd9 (drop_at g) hs hf hr hfin hQ (.inl ⟨hw,hy⟩) f (hb▸h)
theorem tx (i:Nat) {e:Oper} {os:List Oper} {v:Value} {fuel:Nat} {d:Array Bool} {a b:Act} {w:World} (f:S w) (j:∀w,S w→(execOp a.eval e).run P w=.ok (.value v) w) (h:zat P md ops Q S fins fuel (d.setIfInBounds i true) b w) (g:ops.toList.drop i=e::os:=by rfl)
  (hs:Region.noSelect ops=true:=by kernel_rfl) (hf:Region.free md ops d i=true:=by kernel_rfl) (hr:(Region.ready md ops d).contains i=true:=by kernel_rfl) (hfin:zfT md ops fins i=true:=by kernel_rfl)
  (hQ:∀c a w,Q (.panic c) (a.put e.dst v) w→Q (.panic c) a w:=by exact fun _ _ _ h=>h) (hw:Region.wanted e (yielded ops a.tmps)=true:=by rfl)
  (hb:a.put e.dst v=b:=by first|(simp only[Act.put,pb,pz,ps];done)|(simp only[Act.put,pb,pz,ps];rfl)|rfl):zat P md ops Q S fins (fuel+1) d a w:=
 zd9 (drop_at g) hs hf hr hfin hQ (.inl ⟨hw,j⟩) f (hb▸h)
theorem tl {A:World→Prop} (i:Nat) {e:Oper} {os:List Oper} {v:Value} {fuel:Nat} {d:Array Bool} {a b:Act} {w:World} (f:S w) (g:RowKit.Hid (∀w,S w→A w)) (h:zat P md ops Q S fins fuel (d.setIfInBounds i true) b w) (j:ops.toList.drop i=e::os:=by rfl)
  (hs:Region.noSelect ops=true:=by kernel_rfl) (hf:Region.free md ops d i=true:=by kernel_rfl) (hr:(Region.ready md ops d).contains i=true:=by kernel_rfl) (hfin:zfT md ops fins i=true:=by kernel_rfl)
  (hQ:∀c a w,Q (.panic c) (a.put e.dst v) w→Q (.panic c) a w:=by exact fun _ _ _ h=>h) (hw:Region.wanted e (yielded ops a.tmps)=true:=by rfl)
  (hy:∀w,A w→(execOp a.eval e).run P w=.ok (.value v) w:=by intro _ _;go_simp;try with_reducible rfl)
  (hb:a.put e.dst v=b:=by first|(simp only[Act.put,pb,pz,ps];done)|(simp only[Act.put,pb,pz,ps];rfl)|rfl):zat P md ops Q S fins (fuel+1) d a w:=
 zd9 (drop_at j) hs hf hr hfin hQ (.inl ⟨hw,fun w f=>hy w (g.out w f)⟩) f (hb▸h)
theorem zaa {listed:Array Bool} {a:Act} {w:World} (hr:Region.ready md ops listed=[]) (h:Q .normal a w):∀fuel,zat P md ops Q S fins fuel listed a w
 |0=>⟨hr,h⟩
 |_+1=>⟨fun _=>h,by rw[hr];simp⟩
def zaL (P:Program) (md:Region.Mode) (ops:Array Oper) (Q:Exit→Act→World→Prop) (S:World→Prop) (fins:List Nat) (fuel:Nat) (listed:Array Bool) (a:Act) (w:World) (rs:List Nat):Prop:=
 ∀i∈rs,wpOp P ops Q i (fun a' w'=>(fins.contains i=false→S w')∧zat P md ops Q S fins fuel (listed.setIfInBounds i true) a' w') a w
theorem zaL.nil {fuel:Nat} {listed:Array Bool} {a:Act} {w:World}:zaL P md ops Q S fins fuel listed a w []:=fun _ h=>by cases h
theorem zaL.cons {fuel:Nat} {listed:Array Bool} {a:Act} {w:World} {i:Nat} {o:Oper} {rs:List Nat} (ho:ops[i]? =some o) (hc:fins.contains i=false)
  (h:∀K':Act→World→Prop,Shut (∀a w,S w→(S w→zat P md ops Q S fins fuel (listed.setIfInBounds i true) a w)→K' a w)→if Region.wanted o (yielded ops a.tmps)=true then Oper.wp P o a w K' Q else K' (a.put o.dst undef) w)
  (hs:zaL P md ops Q S fins fuel listed a w rs):zaL P md ops Q S fins fuel listed a w (i::rs):=fun j hj=>by
 rcases List.mem_cons.1 hj with rfl|hj
 ·exact wpOp_step ho (fun K' hK=>h K' (fun a w hS hW=>hK a w ⟨fun _=>hS,hW hS⟩))
 ·exact hs j hj
theorem zaL.fin {fuel:Nat} {listed:Array Bool} {a:Act} {w:World} {i:Nat} {o:Oper} {rs:List Nat} (ho:ops[i]? =some o) (hc:fins.contains i=true)
  (h:∀K':Act→World→Prop,Shut (∀a w,zat P md ops Q S fins fuel (listed.setIfInBounds i true) a w→K' a w)→if Region.wanted o (yielded ops a.tmps)=true then Oper.wp P o a w K' Q else K' (a.put o.dst undef) w)
  (hs:zaL P md ops Q S fins fuel listed a w rs):zaL P md ops Q S fins fuel listed a w (i::rs):=fun j hj=>by
 rcases List.mem_cons.1 hj with rfl|hj
 ·exact wpOp_step ho (fun K' hK=>h K' (fun a w hW=>hK a w ⟨fun hf=>(by rw[hc] at hf;cases hf),hW⟩))
 ·exact hs j hj
theorem zfu {rs:List Nat} {fuel:Nat} {listed:Array Bool} {a:Act} {w:World} (hr:Region.ready md ops listed=rs) (hne:rs≠[])
  (h:zaL P md ops Q S fins fuel listed a w rs):zat P md ops Q S fins (fuel+1) listed a w:=⟨fun h0=>absurd (hr▸h0) hne,hr▸h⟩
theorem tc {fuel:Nat} {b:Array Bool} {a:Act} {w:World} {i:Nat} {o:Oper} {os:List Oper} {c:List Nat} (h:∀K':Act→World→Prop,Shut (∀a w,S w→(S w→zat P md ops Q S fins fuel (b.setIfInBounds i true) a w)→K' a w)→if Region.wanted o (yielded ops a.tmps)=true then Oper.wp P o a w K' Q else K' (a.put o.dst undef) w)
  (e:zaL P md ops Q S fins fuel b a w c) (d:ops.toList.drop i=o::os:=by rfl) (hc:fins.contains i=false:=by rfl):zaL P md ops Q S fins fuel b a w (i::c):=.cons (drop_at d) hc h e
theorem tr (c:List Nat) {fuel:Nat} {b:Array Bool} {a:Act} {w:World} (h:zaL P md ops Q S fins fuel b a w c) (d:Region.ready md ops b=c:=by kernel_rfl) (hne:c≠[]:=by simp):zat P md ops Q S fins (fuel+1) b a w:=zfu d hne h
theorem stp (i:Nat) {fuel:Nat} {b:Array Bool} {a:Act} {w:World} {o:Oper} {os:List Oper} (h:∀K':Act→World→Prop,Shut (∀a w,S w→(S w→zat P md ops Q S fins fuel (b.setIfInBounds i true) a w)→K' a w)→if Region.wanted o (yielded ops a.tmps)=true then Oper.wp P o a w K' Q else K' (a.put o.dst undef) w)
  (c:Region.ready md ops b=[i]:=by kernel_rfl) (ho:ops.toList.drop i=o::os:=by rfl) (hc:fins.contains i=false:=by rfl):zat P md ops Q S fins (fuel+1) b a w:=zfu c (by simp) (.cons (drop_at ho) hc h .nil)
theorem stf (i:Nat) {fuel:Nat} {b:Array Bool} {a:Act} {w:World} {o:Oper} {os:List Oper} (h:∀K':Act→World→Prop,Shut (∀a w,zat P md ops Q S fins fuel (b.setIfInBounds i true) a w→K' a w)→if Region.wanted o (yielded ops a.tmps)=true then Oper.wp P o a w K' Q else K' (a.put o.dst undef) w)
  (c:Region.ready md ops b=[i]:=by kernel_rfl) (ho:ops.toList.drop i=o::os:=by rfl) (hc:fins.contains i=true:=by rfl):zat P md ops Q S fins (fuel+1) b a w:=zfu c (by simp) (.fin (drop_at ho) hc h .nil)
theorem zac {id:Nat} {a:Act} {w:World} (S:World→Prop) (fins:List Nat) (hm:P.follows .mixedOrders=true) (hS:S w.drew)
  (h:S w.drew→zat P .any ops Q S fins ops.size (Array.replicate ops.size false) a w.drew):(Code.region id ops true).wp P Q a w:=
 wp_region_any hm (zj5 _ _ _ _ (h hS))
def zkj (Q:Exit→Act→World→Prop):Exit→Act→World→Prop
 | .panic _,_,_=>False
 |e,a,w=>Q e a w
theorem zix {d:Nat} {a:Act} {w:World} (S:World→Prop) (fins:List Nat) (c:P.follows .mixedOrders=true) (b:S w.drew)
  (h:S w.drew→zat P .any ops (zkj Q) S fins ops.size (Array.replicate ops.size false) a w.drew):(Code.region d ops true).wp P Q a w:=by
 refine Code.wp_mono (Q:=zkj Q) (fun e a w h=>?_) (zac S fins c b h)
 cases e<;>first|exact h|exact False.elim h
theorem zdW {a:Act} {w:World} (h:Q .normal a w):zkj Q .normal a w:=h
end
end Vb
section
open Ac Vb Go.RowKit
theorem qA {w:World} (o:Obj):Below w.heap.size w (w.alloc o):=(Below.refl _ _).alloc (Nat.le_refl _) _
theorem bR {B:Nat} {w:World}:Below B w w:=Below.refl _ _
theorem lR {n:Nat}:n≤n:=Nat.le_refl _
theorem zL {n:Nat}:0≤n:=Nat.zero_le _
theorem gS {α:Type} {l:List α} {i:Nat} {a:α}:l[i]? =some a↔∃h:i<l.length,l[i]=a:=List.getElem?_eq_some_iff
theorem mG {α:Type} {l:List α} {i:Nat} {a:α} (h:l[i]? =some a):a∈l:=List.mem_of_getElem? h
theorem gE {α:Type} {l:List α} {i:Nat} (h:i<l.length):l[i]? =some l[i]:=List.getElem?_eq_getElem h
theorem lL {a b c:Nat} (h:a<b) (k:b≤c):a<c:=Nat.lt_of_lt_of_le h k
theorem iW (x:Int) (h:-9223372036854775808≤x∧x≤9223372036854775807):IntKind.i64.wrap x=x:=IntWalk.i64_in x h
theorem lT {a b c:Nat} (h:a≤b) (k:b≤c):a≤c:=Nat.le_trans h k
theorem nm {α:Sort _} (x:α):∃z,z=x:=⟨x,rfl⟩
theorem qc {B:Nat} {a w:World} {p:Addr} {v:Value} (h:Below B a w) (c:a.cell? p=some v) (l:p.block<B):w.cell? p=some v:=(h.cell l).trans c
theorem cg {X:Nat→Prop} {a w:World} {p:Addr} {v:Value} (h:Chg X a w) (c:a.cell? p=some v) (l:p.block<a.heap.size) (n:¬X p.block):w.cell? p=some v:=(h.cell l n).trans c
instance : Coe World Nat := ⟨fun w => w.heap.size⟩
instance : Coe Int Value := ⟨fun x => .int .i64 x⟩
instance : Coe Nat Value := ⟨fun x => .int .i64 (x : Int)⟩
instance : Coe Unit Value := ⟨fun _ => .int .i64 0⟩
instance : Coe Bool Value := ⟨fun x => .bool x⟩
instance : Coe Int Lit := ⟨fun x => .int .i64 x⟩
instance : Coe Nat Lit := ⟨fun x => .int .i64 (x : Int)⟩
instance : Coe Unit Lit := ⟨fun _ => .int .i64 0⟩
instance : Coe Bool Lit := ⟨fun x => .bool x⟩
end
end Go.Proofs.YtckdpejdnejhfaaGreat

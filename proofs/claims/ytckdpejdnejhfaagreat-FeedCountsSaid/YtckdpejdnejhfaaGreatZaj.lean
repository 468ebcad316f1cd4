/- Joined by program. -/
import Derived.Conc.LoneCalls
import Derived.Conc.LoneSelect
import Derived.Conc.LoneSelectN
import Derived.Conc.SmallLaws
import Derived.Test.YtckdpejdnejhfaaGreatZae
import Derived.Deep.CutBlock
import Derived.Test.YtckdpejdnejhfaaGreatZaf
set_option linter.all false
set_option maxRecDepth 100000
set_option maxHeartbeats 32000000
namespace Go.Proofs.YtckdpejdnejhfaaGreat
open Lib (hid)
namespace Fd
open Go.RowKit
structure EvR where
 (kind order bidder lot coins tick:Int)
 deriving DecidableEq
def EvR.cells (e:EvR):List Value:=[.int .i64 e.kind,.int .i64 e.order,.int .i64 e.bidder,.int .i64 e.lot,.int .i64 e.coins,.int .i64 e.tick]
structure ToldR where
 ev:EvR
 missed:Int
def ToldR.cells (t:ToldR):List Value:=t.ev.cells++[.int .i64 t.missed]
structure WatR where
 room:Nat
 queue:List ToldR
 missed:Int
def WatR.tell (w:WatR) (e:EvR):WatR:=if w.queue.length<w.room then {w with queue:=w.queue++[⟨e,w.missed⟩],missed:=0} else {w with missed:=w.missed+1}
def zcR (E:List EvR) (n:Nat):Nat→List ToldR→Int→Prop
 |at_,[],m=>0≤m∧(at_:Int)+m=n
 |at_,t::q,m=>0≤t.missed∧E[at_+t.missed.toNat]? =some t.ev∧zcR E n (at_+t.missed.toNat+1) q m
theorem zcR.le {E:List EvR} {n:Nat}:∀{q:List ToldR} {at_:Nat} {m:Int},zcR E n at_ q m→0≤m∧m≤n∧at_≤n
 |[],_,_,h=>by have:=h.1;have:=h.2;omega
 |t::q,at_,m,h=>by have:=zcR.le h.2.2;omega
theorem zcR.tell {E:List EvR} {n:Nat} {e:EvR} (he:E[n]? =some e):∀{q:List ToldR} {at_:Nat} {m:Int},zcR E n at_ q m→zcR E (n+1) at_ (q++[⟨e,m⟩]) 0
 |[],at_,m,h=>by
  have h1:=h.1;have h2:=h.2;refine ⟨h1,?_,?_⟩
  ·show E[at_+m.toNat]? =some e
   rw[show at_+m.toNat=n by omega];exact he
  ·refine ⟨by omega,?_⟩
   show ((at_+m.toNat+1:Nat):Int)+0=((n+1:Nat):Int)
   omega
 |t::q,at_,m,h=>⟨h.1,h.2.1,zcR.tell he h.2.2⟩
theorem zcR.miss {E:List EvR} {n:Nat}:∀{q:List ToldR} {at_:Nat} {m:Int},zcR E n at_ q m→zcR E (n+1) at_ q (m+1)
 |[],at_,m,h=>by
  have h1:=h.1;have h2:=h.2;exact ⟨by omega,by push_cast;omega⟩
 |t::q,at_,m,h=>⟨h.1,h.2.1,zcR.miss h.2.2⟩
theorem WatR.tell_inv {E:List EvR} {n at_:Nat} {w:WatR} {e:EvR} (a:E[n]? =some e) (h:zcR E n at_ w.queue w.missed):zcR E (n+1) at_ (w.tell e).queue (w.tell e).missed:=by
 unfold WatR.tell
 split
 ·exact h.tell a
 ·exact h.miss
end Fd
namespace Fd
open Go.RowKit Ac Ho
def zd8 (t:ToldR):Value:=.agg t.cells.toArray
def ChanAt (W:World) (c cap:Nat) (q:List ToldR):Prop:=∃s r,W.heap[c]? =some (.chan cap (q.map zd8).toArray false s r false)
section
variable {W W':World} {X:Nat→Prop} {c cap:Nat} {q:List ToldR}
theorem ChanAt.lt (h:ChanAt W c cap q):c<W.heap.size:=by
 obtain ⟨s,r,h⟩:=h;exact (Array.getElem?_eq_some_iff.1 h).1
theorem ChanAt.chg (h:ChanAt W c cap q) (b:Chg X W W') (a:¬X c):ChanAt W' c cap q:=by
 have d:=h.lt;obtain ⟨s,r,h⟩:=h;exact ⟨s,r,(b.block c d a).trans h⟩
theorem ChanAt.grow (h:ChanAt W c cap q) (a:Below W W W'):ChanAt W' c cap q:=by
 have b:=h.lt;obtain ⟨s,r,h⟩:=h;exact ⟨s,r,(a.block c b).trans h⟩
end
structure WatAt (W:World) (f b c:Nat) (w:WatR):Prop where
 blk:Ac.Blk W b 44 #[.pointer (some ⟨f,0,none⟩),.chan (some c),.int .i64 w.missed]
 room:ChanAt W c w.room w.queue
structure FeedAt (W:World) (R:Nat→Prop) (f h:Nat) (v:Value) (bs:List Nat) (came:Int):Prop where
 blk:Ac.Blk W f 41 #[.pointer (some ⟨h,0,none⟩),v,.int .i64 came]
 row:RowAt W R 28 1 v bs.length (bs.map fun b=>Value.pointer (some ⟨b,0,none⟩))
section
variable {W W':World} {X R:Nat→Prop} {f h b c:Nat} {v:Value} {bs:List Nat} {came:Int} {w:WatR}
theorem WatAt.chg (h:WatAt W f b c w) (hc:Chg X W W') (hb:¬X b) (hr:¬X c):WatAt W' f b c w:=⟨h.blk.chg hc hb,h.room.chg hc hr⟩
theorem FeedAt.grow (h0:FeedAt W R f h v bs came) (hb:Below W W W'):FeedAt W' R f h v bs came:=⟨h0.blk.grow hb,h0.row.grow hb⟩
end
end Fd
namespace Fd
open Go.Conc Go.RowKit Ac Ho
def zbE:Value:=.agg #[.int .i64 0,.int .i64 0,.int .i64 0,.int .i64 0,.int .i64 0,.int .i64 0,.int .i64 0]
theorem zrk {W:World} {c cap s r:Nat} {buf:Array Value} (a b d i f g h:Int) (o:W.heap[c]? =some (.chan cap buf false s r false)) (k:buf.size<cap):
  Calls Tryz.prog 72 #[.chan (some c),.agg #[a,b,d,i,f,g,h]] W fun e W'=>e=.returned ↑true∧W'=(W.alloc (.cells #[a,b,d,i,f,g,h] 66)).setChan c cap (buf.push (.agg #[a,b,d,i,f,g,h])) false (s+1) r false:=by
 refine calls_of_loneTo fun p=>?_;have e:Frame.enter Tryz.prog 72 #[.chan (some c),.agg #[a,b,d,i,f,g,h]] .normal=(base 72).at ⟨#[.chan (some c),.agg #[a,b,d,i,f,g,h],undef,undef,undef,undef,undef,undef,undef,undef],[]⟩ [.code (Tryz.f72.body.getD .skip)]:=by
  simp[Frame.enter,Frame.at,Tryz.func72,base,Tryz.f72]
 rw[e];obtain ⟨m,j⟩:=nm (W.alloc (.cells #[a,b,d,i,f,g,h] 66));have l:m.heap[c]? =some (.chan cap buf false s r false):=by
  rw[j];exact (Below.heap_alloc _ _ _ (Array.getElem?_eq_some_iff.1 o).1).trans o
 refine LoneTo.goes (n:=24) ?_;simp only[Tryz.f72,Option.getD_some]
 s_c stepG_seq
 s_reg
 s_op
 s_op
 s_c stepG_region_end
 s_c stepG_seq
 s_c stepG_seq
 s_reg
 s_op
 s_c stepG_region_end
 s_reg
 s_op
 s_c stepG_region_end
 s_c stepG_seq
 s_reg
 s_stop
 rw[←j];refine LoneTo.step (step_lone_select_send_room (c:=c) (cap:=cap) (buf:=buf) (s:=s) (r:=r) (tm:=false) (v:=.agg #[a,b,d,i,f,g,h]) (z':=zbE)
  (stepG_comm (cases:=#[scase c (.agg #[a,b,d,i,f,g,h]) zbE]) (blocking:=false) (shape:=.select) (w':=m) rfl rfl (by decide) (by simp[go_sem,execOp,scase,Act.eval,zbE])) l k) ?_
 rw[Frame.finish_at]
 walk_nrm
 refine LoneTo.goes (n:=14) ?_
 s_op
 s_op
 s_c stepG_region_end
 s_c stepG_block
 s_cond true
 s_c stepG_seq
 s_reg
 s_op
 s_c stepG_region_end
 s_c stepG_ret'
 s_stop
 refine LoneTo.done ⟨.returned ↑true,_,rfl,⟨rfl,by rw[j]⟩,rfl,rfl,rfl,rfl,_,Tryz.func72,by simp[results,Tryz.f72,Frame.at]⟩
theorem zrj {W:World} {c cap s r:Nat} {buf:Array Value} (a b d i f g h:Int) (o:W.heap[c]? =some (.chan cap buf false s r false)) (k:cap≤buf.size):
  Calls Tryz.prog 72 #[.chan (some c),.agg #[a,b,d,i,f,g,h]] W fun e W'=>e=.returned ↑false∧W'=W.alloc (.cells #[a,b,d,i,f,g,h] 66):=by
 refine calls_of_loneTo fun p=>?_;have e:Frame.enter Tryz.prog 72 #[.chan (some c),.agg #[a,b,d,i,f,g,h]] .normal=(base 72).at ⟨#[.chan (some c),.agg #[a,b,d,i,f,g,h],undef,undef,undef,undef,undef,undef,undef,undef],[]⟩ [.code (Tryz.f72.body.getD .skip)]:=by
  simp[Frame.enter,Frame.at,Tryz.func72,base,Tryz.f72]
 rw[e];obtain ⟨m,j⟩:=nm (W.alloc (.cells #[a,b,d,i,f,g,h] 66));have l:m.heap[c]? =some (.chan cap buf false s r false):=by
  rw[j];exact (Below.heap_alloc _ _ _ (Array.getElem?_eq_some_iff.1 o).1).trans o
 refine LoneTo.goes (n:=24) ?_;simp only[Tryz.f72,Option.getD_some]
 s_c stepG_seq
 s_reg
 s_op
 s_op
 s_c stepG_region_end
 s_c stepG_seq
 s_c stepG_seq
 s_reg
 s_op
 s_c stepG_region_end
 s_reg
 s_op
 s_c stepG_region_end
 s_c stepG_seq
 s_reg
 s_stop
 rw[←j];refine LoneTo.step (step_lone_select_send_full (c:=c) (cap:=cap) (buf:=buf) (s:=s) (r:=r) (tm:=false) (v:=.agg #[a,b,d,i,f,g,h]) (z':=zbE)
  (stepG_comm (cases:=#[scase c (.agg #[a,b,d,i,f,g,h]) zbE]) (blocking:=false) (shape:=.select) (w':=m) rfl rfl (by decide) (by simp[go_sem,execOp,scase,Act.eval,zbE])) l k) ?_
 rw[Frame.finish_at]
 walk_nrm
 refine LoneTo.goes (n:=14) ?_
 s_op
 s_op
 s_c stepG_region_end
 s_c stepG_block
 s_cond false
 s_c stepG_seq
 s_reg
 s_op
 s_c stepG_region_end
 s_c stepG_ret'
 s_stop
 refine LoneTo.done ⟨.returned ↑false,_,rfl,⟨rfl,by rw[j]⟩,rfl,rfl,rfl,rfl,_,Tryz.func72,by simp[results,Tryz.f72,Frame.at]⟩
theorem zsL {W:World} {c cap:Nat} {q:List ToldR} (t:ToldR) (n:ChanAt W c cap q):Calls Tryz.prog 72 #[.chan (some c),zd8 t] W fun e W'=>
  e=.returned ↑(decide (q.length<cap):Bool)∧ChanAt W' c cap (if q.length<cap then q++[t] else q)∧Chg (·=c) W W':=by
 have o:=n.lt;obtain ⟨s,r,h⟩:=n;obtain ⟨⟨a,b,d,l,f,g⟩,m⟩:=t;have j:=(Below.refl W.heap.size W).alloc lR (.cells #[a,b,d,l,f,g,m] 66);have i:(q.map zd8).toArray.size=q.length:=by simp
 by_cases hr:q.length<cap
 ·rw[decide_eq_true hr,if_pos hr];refine (zrk a b d l f g m h (by rw[i];exact hr)).mono ?_;rintro e W' ⟨rfl,rfl⟩;refine ⟨rfl,⟨s+1,r,?_⟩,(Chg.of _ j).step (Y:=(·=c)) ?_ fun _ _ e=>e⟩
  ·rw[heap_setChan _ _ _ _ _ _ _ _ (lL o j.size),List.map_append,←List.toArray_appendList]
   simp[zd8,ToldR.cells,EvR.cells]
  ·exact ⟨rfl,rfl,rfl,by rw[size_setChan];exact lR,fun k _ p=>by simp[World.setChan,Array.getElem?_setIfInBounds_ne (Ne.symm p)]⟩
 ·rw[decide_eq_false hr,if_neg hr];refine (zrj a b d l f g m h (by rw[i];omega)).mono ?_;rintro e W' ⟨rfl,rfl⟩;exact ⟨rfl,⟨s,r,(j.block c o).trans h⟩,Chg.of _ j⟩
theorem zqi {W:World} {b c cap s r:Nat} (t:W.cell? ⟨b,1,none⟩=some (.chan (some c))) (f:b<W.heap.size) (h:W.heap[c]? =some (.chan cap #[] false s r false)):
  Calls Tryz.prog 16 #[.pointer (some ⟨b,0,none⟩)] W fun e W'=>e=.returned (.tuple #[zbE,false])∧Below W W W':=by
 refine calls_of_loneTo fun x=>?_;have e:Frame.enter Tryz.prog 16 #[.pointer (some ⟨b,0,none⟩)] .normal=(base 16).at ⟨#[.pointer (some ⟨b,0,none⟩),undef,undef,undef,undef,undef,undef,undef,undef,undef,undef,undef,undef,undef,undef,undef,undef,undef,undef],[]⟩ [.code (Tryz.f16.body.getD .skip)]:=by
  simp[Frame.enter,Frame.at,Tryz.func16,base,Tryz.f16]
 rw[e];have a:Below W W (W.alloc (.cells #[(),(),(),(),(),(),()] 66)):=qA _;have g:(W.alloc (.cells #[(),(),(),(),(),(),()] 66)).heap[c]? =some (.chan cap #[] false s r false):=(a.block c (Array.getElem?_eq_some_iff.1 h).1).trans h;have v:(W.alloc (.cells #[(),(),(),(),(),(),()] 66)).cell? ⟨b,1,none⟩=some (.chan (some c)):=qc a t f;refine LoneTo.goes (n:=50) ?_;simp only[Tryz.f16,Option.getD_some]
 s_c stepG_seq
 s_reg
 s_op
 s_op
 s_c stepG_region_end
 s_c stepG_seq
 s_c stepG_seq
 s_reg
 s_op
 s_call Tryz.func36 (by kernel_rfl) Tryz.f36
 s_c stepG_seq
 s_reg
 s_op
 s_c stepG_region_end
 s_c stepG_seq
 s_reg
 s_op
 s_op
 s_op
 s_op
 s_op
 s_op
 s_op
 s_op
 s_op
 s_op
 s_c stepG_region_end
 s_c stepG_ret'
 s_leave1 Tryz.func36
 s_op
 s_c stepG_region_end
 s_cond false
 s_c stepG_skip
 s_c stepG_seq
 s_reg
 s_op
 s_op
 s_op
 s_op
 s_c stepG_region_end
 s_c stepG_seq
 s_reg
 s_stop
 refine LoneTo.step (step_lone_select_default (c:=c) (cap:=cap) (s:=s) (r:=r) (tm:=false) (z:=zbE)
  (stepG_comm (cases:=#[rcase c zbE]) (blocking:=false) (shape:=.select) (w':=(W.alloc (.cells #[(),(),(),(),(),(),()] 66))) rfl rfl (by decide) (by simp[go_sem,execOp,rcase,Act.eval,zbE])) g) ?_
 rw[Frame.finish_at]
 walk_nrm
 refine LoneTo.goes (n:=20) ?_
 s_op
 s_op
 s_c stepG_region_end
 s_c stepG_block
 s_cond false
 s_c stepG_seq
 s_reg
 s_op
 s_op
 s_op
 s_c stepG_region_end
 s_c stepG_ret'
 s_stop
 refine LoneTo.done ⟨.returned (.tuple #[zbE,false]),_,rfl,⟨rfl,?_⟩,rfl,rfl,rfl,rfl,_,Tryz.func16,?_⟩
 ·exact a
 ·have d:=fun i=>(Ac.Blk.new W 66 #[(),(),(),(),(),(),()]).cell i;have j:=d 0;have k:=d 1;have l:=d 2;have m:=d 3;have o:=d 4;have p:=d 5;have q:=d 6
  simp at j k l m o p q
  simp[results,Tryz.f16,Frame.at,go_sem,zbE,j,k,l,m,o,p,q]
theorem zis (w:World) (c a:Nat) (h:c≠a) {cap:Nat} {buf:Array Value} {b:Bool} {s r:Nat} {tm:Bool}:(w.setChan c cap buf b s r tm).heap[a]? =w.heap[a]? :=by
 simp[World.setChan,Array.getElem?_setIfInBounds_ne h]
theorem zqk {W:World} {b c cap s r:Nat} {buf:Array Value} (h i j l o p q:Int) (h0:buf.getD 0 undef=.agg #[h,i,j,l,o,p,q]) (O:0<buf.size) (Q:W.cell? ⟨b,1,none⟩=some (.chan (some c))) (H:b<W.heap.size) (L:W.heap[c]? =some (.chan cap buf false s r false)):
  Calls Tryz.prog 16 #[.pointer (some ⟨b,0,none⟩)] W fun e W'=>e=.returned (.tuple #[.agg #[h,i,j,l,o,p,q],true])∧W'.heap[c]? =some (.chan cap (buf.extract 1 buf.size) false s (r+1) false)∧Chg (·=c) W W':=by
 refine calls_of_loneTo fun cs=>?_;have e:Frame.enter Tryz.prog 16 #[.pointer (some ⟨b,0,none⟩)] .normal=(base 16).at ⟨#[.pointer (some ⟨b,0,none⟩),undef,undef,undef,undef,undef,undef,undef,undef,undef,undef,undef,undef,undef,undef,undef,undef,undef,undef],[]⟩ [.code (Tryz.f16.body.getD .skip)]:=by
  simp[Frame.enter,Frame.at,Tryz.func16,base,Tryz.f16]
 rw[e];have v:Below W W (W.alloc (.cells #[(),(),(),(),(),(),()] 66)):=qA _;have I:(W.alloc (.cells #[(),(),(),(),(),(),()] 66)).heap[c]? =some (.chan cap buf false s r false):=(v.block c (Array.getElem?_eq_some_iff.1 L).1).trans L;have N:(W.alloc (.cells #[(),(),(),(),(),(),()] 66)).cell? ⟨b,1,none⟩=some (.chan (some c)):=qc v Q H;refine LoneTo.goes (n:=50) ?_;simp only[Tryz.f16,Option.getD_some]
 s_c stepG_seq
 s_reg
 s_op
 s_op
 s_c stepG_region_end
 s_c stepG_seq
 s_c stepG_seq
 s_reg
 s_op
 s_call Tryz.func36 (by kernel_rfl) Tryz.f36
 s_c stepG_seq
 s_reg
 s_op
 s_c stepG_region_end
 s_c stepG_seq
 s_reg
 s_op
 s_op
 s_op
 s_op
 s_op
 s_op
 s_op
 s_op
 s_op
 s_op
 s_c stepG_region_end
 s_c stepG_ret'
 s_leave1 Tryz.func36
 s_op
 s_c stepG_region_end
 s_cond false
 s_c stepG_skip
 s_c stepG_seq
 s_reg
 s_op
 s_op
 s_op
 s_op
 s_c stepG_region_end
 s_c stepG_seq
 s_reg
 s_stop
 refine LoneTo.step (step_lone_select_recv_buf (c:=c) (cap:=cap) (buf:=buf) (closed:=false) (s:=s) (r:=r) (tm:=false) (z:=zbE)
  (stepG_comm (cases:=#[rcase c zbE]) (blocking:=false) (shape:=.select) (w':=(W.alloc (.cells #[(),(),(),(),(),(),()] 66))) rfl rfl (by decide) (by simp[go_sem,execOp,rcase,Act.eval,zbE])) I O) ?_
 rw[Frame.finish_at,h0]
 walk_nrm
 refine LoneTo.goes (n:=24) ?_;have F:c<W.heap.size:=(Array.getElem?_eq_some_iff.1 L).1;have C:((W.alloc (.cells #[(),(),(),(),(),(),()] 66)).setChan c cap (buf.extract 1 buf.size) false s (r+1) false).heap.size=W.heap.size+1:=by rw[size_setChan,World.size_alloc]
 have a:Ac.Blk ((W.alloc (.cells #[(),(),(),(),(),(),()] 66)).setChan c cap (buf.extract 1 buf.size) false s (r+1) false) W.heap.size 66 #[(),(),(),(),(),(),()]:=(zis _ _ _ (Nat.ne_of_lt F)).trans (Ac.Blk.new W _ _);have f:((W.alloc (.cells #[(),(),(),(),(),(),()] 66)).setChan c cap (buf.extract 1 buf.size) false s (r+1) false).heap[c]? =some (.chan cap (buf.extract 1 buf.size) false s (r+1) false):=heap_setChan _ _ _ _ _ _ _ _ (lL F v.size);have g:Chg (·=c) W ((W.alloc (.cells #[(),(),(),(),(),(),()] 66)).setChan c cap (buf.extract 1 buf.size) false s (r+1) false):=(Chg.of _ v).step (Y:=(·=c)) ⟨rfl,rfl,rfl,by rw[size_setChan];exact lR,fun k _ R=>zis _ _ _ (Ne.symm R)⟩ fun _ _ e=>e
 generalize ((W.alloc (.cells #[(),(),(),(),(),(),()] 66)).setChan c cap (buf.extract 1 buf.size) false s (r+1) false)=U at C a f g ⊢
 clear I N v L Q;obtain ⟨n,M⟩:=nm (W.heap.size);rw[←M] at C a F H
 try rw[←M]
 have HN:=hid M;have E:=hid C;have K:=hid a;have y:=hid f;have A:=hid g;clear M C a f g
 s_op
 s_op
 s_c stepG_region_end
 s_c stepG_block
 s_cond true
 s_c stepG_seq
 s_reg
 s_op
 s_op
 s_op
 s_c stepG_region_end
 have d:Below U U (U.alloc (.cells #[h,i,j,l,o,p,q] 66)):=qA _;have t:Ac.Blk (U.alloc (.cells #[h,i,j,l,o,p,q] 66)) U.heap.size 66 #[h,i,j,l,o,p,q]:=Ac.Blk.new U _ _;have a:=K.out.grow d;have f:=(d.block c (by rw[E.out];omega)).trans y.out;have g:Chg (·=c) W (U.alloc (.cells #[h,i,j,l,o,p,q] 66)):=A.out.grow d;have B:=d.size
 generalize (U.alloc (.cells #[h,i,j,l,o,p,q] 66))=V at d t a f g B ⊢
 generalize hm:U.heap.size=m at t d B ⊢
 have P:=hid (hm.symm.trans E.out);clear hm E K y A d U;have K:=hid a;have HT:=hid t;have y:=hid f;have A:=hid g;have G:=hid B;have z0:=a.cell 0;have f0:=a.frozen 0;have S:=t.cell 0;have z1:=a.cell 1;have f1:=a.frozen 1;have T:=t.cell 1;have z2:=a.cell 2;have f2:=a.frozen 2;have X:=t.cell 2;have z3:=a.cell 3;have f3:=a.frozen 3;have Z:=t.cell 3;have z4:=a.cell 4;have f4:=a.frozen 4;have t4:=t.cell 4;have z5:=a.cell 5;have f5:=a.frozen 5;have t5:=t.cell 5;have z6:=a.cell 6;have f6:=a.frozen 6;have t6:=t.cell 6;simp only[List.getElem?_toArray,List.getElem?_cons_zero,List.getElem?_cons_succ] at z0 z1 z2 z3 z4 z5 z6 S T X Z t4 t5 t6;clear a t f g B
 s_c stepG_seq
 s_reg
 s_op
 s_op
 s_op
 s_c stepG_region_end
 s_c stepG_ret'
 s_stop
 clear z0 z1 z2 z3 z4 z5 z6 f0 f1 f2 f3 f4 f5 f6 S T X Z t4 t5 t6;have J:Chg (fun x=>x=n) V (((((((V.setCell ⟨n,0,none⟩ ↑h).setCell ⟨n,1,none⟩ ↑i).setCell ⟨n,2,none⟩ ↑j).setCell ⟨n,3,none⟩ ↑l).setCell ⟨n,4,none⟩ ↑o).setCell ⟨n,5,none⟩ ↑p).setCell ⟨n,6,none⟩ ↑q):=((((((Chg.set V ⟨n,0,none⟩ ↑h).trans (Chg.set _ ⟨n,1,none⟩ ↑i)).trans (Chg.set _ ⟨n,2,none⟩ ↑j)).trans (Chg.set _ ⟨n,3,none⟩ ↑l)).trans (Chg.set _ ⟨n,4,none⟩ ↑o)).trans (Chg.set _ ⟨n,5,none⟩ ↑p)).trans (Chg.set _ ⟨n,6,none⟩ ↑q);have D:Ac.Blk (((((((V.setCell ⟨n,0,none⟩ ↑h).setCell ⟨n,1,none⟩ ↑i).setCell ⟨n,2,none⟩ ↑j).setCell ⟨n,3,none⟩ ↑l).setCell ⟨n,4,none⟩ ↑o).setCell ⟨n,5,none⟩ ↑p).setCell ⟨n,6,none⟩ ↑q) n 66 #[h,i,j,l,o,p,q]:=(((((((K.out.set_ 0 ↑h).set_ 1 ↑i).set_ 2 ↑j).set_ 3 ↑l).set_ 4 ↑o).set_ 5 ↑p).set_ 6 ↑q)
 generalize (((((((V.setCell ⟨n,0,none⟩ ↑h).setCell ⟨n,1,none⟩ ↑i).setCell ⟨n,2,none⟩ ↑j).setCell ⟨n,3,none⟩ ↑l).setCell ⟨n,4,none⟩ ↑o).setCell ⟨n,5,none⟩ ↑p).setCell ⟨n,6,none⟩ ↑q)=V7 at J D ⊢
 have y0:=D.cell 0;have y1:=D.cell 1;have y2:=D.cell 2;have y3:=D.cell 3;have y4:=D.cell 4;have y5:=D.cell 5;have y6:=D.cell 6;simp only[List.getElem?_toArray,List.getElem?_cons_zero,List.getElem?_cons_succ] at y0 y1 y2 y3 y4 y5 y6;refine LoneTo.done ⟨.returned (.tuple #[.agg #[h,i,j,l,o,p,q],true]),_,rfl,⟨rfl,(J.block c (by have:=G.out;have:=P.out;omega) (by omega)).trans y.out,?_⟩,rfl,rfl,rfl,rfl,_,Tryz.func16,?_⟩
 ·have h1:=G.out;have h2:=P.out;have h3:=HN.out;have h4:=J.size;exact A.out.step J fun k R hx=>absurd hx (by omega)
 ·simp only[results,Frame.at]
  simp[go_sem,y0,y1,y2,y3,y4,y5,y6,Tryz.f16]
end Fd
namespace Fd
open Go.RowKit
section
variable {P:Program} (w:World) {t e:TypeId} {d:ChanDir}
theorem zfo (n:Nat) (a b:Option Nat) (h:P.underlying t=some (.chan d e)):(Op.equalIn (n+1) t (.chan a) (.chan b)).run P w=.ok (a==b) w:=by
 simp[Op.equalIn,run_underlying h]
theorem zmc (a b:Option Nat) (h:P.underlying t=some (.chan d e)):(binOp .eql t (.chan a) (.chan b)).run P w=.ok ↑(a==b:Bool) w:=by
 have c:(Op.equal t (.chan a) (.chan b)).run P w=.ok (a==b) w:=zfo w 9999 a b h;simp only[binOp]
 simp[c]
theorem zmd (a b:Option Nat) (h:P.underlying t=some (.chan d e)):(binOp .neq t (.chan a) (.chan b)).run P w=.ok ↑(!(a==b):Bool) w:=by
 have c:(Op.equal t (.chan a) (.chan b)).run P w=.ok (a==b) w:=zfo w 9999 a b h;simp only[binOp]
 simp[c]
theorem run_len_chan (g:TypeId) {c cap s r:Nat} {buf:Array Value} {a:Bool} (h:P.underlying t=some (.chan d e)) (f:w.heap[c]? =some (.chan cap buf a s r false)):
  (Builtin.len_ #[t] g #[.chan (some c)]).run P w=.ok (goInt buf.size) w:=by
 have b:(getObj c).run P w=.ok (.chan cap buf a s r false) w:=by simp[getObj,Sem.run,f]
 simp[Builtin.len_,run_underlying h,b,Result.andThen]
end
theorem zh0:(Tryz.prog).underlying 42=some (.chan .both 66):=by kernel_rfl
end Fd
namespace Fd
open Go.RowKit Ac Ho
attribute [local go_sem] Oper.semAt_some
section
variable {W W':World} {v:Value}
set_option maxRecDepth 100000
end
end Fd
namespace Fd
open Go.RowKit Vb Ac Ho
attribute [local go_sem] Oper.semAt_some
set_option maxRecDepth 100000
theorem zqQ:zbg Tryz.prog 39 28 1 8:=zba Tryz.underlying39 (by omega) (z:=.pointer none) (by kernel_rfl) rfl
def zsh (bs:List Nat):List Value:=bs.map fun b=>Value.pointer (some ⟨b,0,none⟩)
section
variable {W:World} {f h b c:Nat}
theorem zha (a:W.cell? ⟨f,0,none⟩=some (.pointer (some ⟨h,0,none⟩))):Calls Tryz.prog 22 #[.pointer (some ⟨f,0,none⟩)] W fun e W'=>e=.returned ↑true∧W'=W:=by
 go_enter Tryz.func22,Tryz.ntmps22;go_wp2_with fail
 go_ret;exact ⟨rfl,rfl⟩
theorem zhC (d:W.cell? ⟨b,1,none⟩=some (.chan (some c))):Calls Tryz.prog 36 #[.pointer (some ⟨b,0,none⟩)] W fun e W'=>e=.returned ↑true∧W'=W:=by
 have f:=zmd (P:=Tryz.prog) W (a:=some c) (b:=none) zh0;go_enter Tryz.func36,Tryz.ntmps36;go_wp2_with fail
 go_ret;exact ⟨rfl,rfl⟩
theorem zpd (a:World):Calls Tryz.prog 61 #[.pointer none] a fun e W'=>e=.returned ↑true∧W'=a:=by
 go_enter Tryz.func61,Tryz.ntmps61;go_wp2_with fail
 go_ret;exact ⟨rfl,rfl⟩
theorem zmD (x:Int):Calls Tryz.prog 38 #[.pointer none,x] W fun e W'=>e=.returned (.tuple #[zhI {data:=#[]} 0 0 0,(1:Int)])∧Below W W W':=by
 obtain ⟨h,c⟩:=nm (W.alloc (.cells #[.string {data:=#[]},(),(),()] 112));have d:Below W W h:=by rw[c];exact qA _
 have a:Ac.Blk h W.heap.size 112 #[.string {data:=#[]},(),(),()]:=by rw[c];exact Ac.Blk.new _ _ _
 have g:=hid a;have f:=hid d;have o:=a.cell 0;have q:=a.cell 1;have r:=a.cell 2;have s:=a.cell 3;have y:=a.frozen;simp only[List.getElem?_toArray,List.getElem?_cons_zero,List.getElem?_cons_succ] at o q r s;clear d a;have i:=zpd h;have n:=hid i;clear i;go_enter Tryz.func38,Tryz.ntmps38;go_wp2_with fail
 rw[←c];clear c;refine n.out.mono ?_;rintro e t ⟨rfl,rfl⟩;go_wp2_with fail
 have b:=(((g.out.set_ 0 (.string {data:=#[]})).set_ 1 ↑()).set_ 2 ↑()).set_ 3 ↑();have j:=b.cell 0;have k:=b.cell 1;have l:=b.cell 2;have m:=b.cell 3
 simp at j k l m
 refine bodyPost_ret (v:=.tuple #[zhI {data:=#[]} 0 0 0,(1:Int)]) (by simp[results,Tryz.results38,go_sem,j,k,l,m]) rfl ⟨rfl,?_⟩;exact (((f.out.setCell (p:=⟨W,0,none⟩) lR _).setCell (p:=⟨W,1,none⟩) lR _).setCell (p:=⟨W,2,none⟩) lR _).setCell (p:=⟨W,3,none⟩) lR _
theorem zsY:Calls Tryz.prog 21 #[.pointer none] W fun e W'=>e=.returned ↑true∧Below W W W':=by
 go_enter Tryz.func21,Tryz.ntmps21;go_wp2_with fail
 refine (zmD (-1)).mono ?_;rintro e c ⟨rfl,b⟩;have a:=hid b;clear b;go_wp2_with fail
 go_ret;exact ⟨rfl,a.out.alloc a.out.size _⟩
theorem zne {T:Nat→Part} {K:Nat} {H:House} (b:zaf W T h K H):Calls Tryz.prog 21 #[.pointer (some ⟨h,0,none⟩)] W fun e W'=>e=.returned ↑false∧Below W W W':=by
 have d:=hid (zmC b (x:=-1) (.inl (by decide)));clear b;go_enter Tryz.func21,Tryz.ntmps21;go_wp2_with fail
 refine d.out.mono ?_;rintro e f ⟨rfl,c⟩;have a:=hid c;clear c;go_wp2_with fail
 go_ret;exact ⟨rfl,a.out.alloc a.out.size _⟩
theorem zsE:Calls Tryz.prog 6 #[.pointer none] W fun e W'=>e=.returned (.tuple #[.pointer none,(1:Int)])∧Below W W W':=by
 go_enter Tryz.func6,Tryz.ntmps6;go_wp2_with fail
 refine zsY.mono ?_;rintro e c ⟨rfl,a⟩;have b:=hid a;clear a;go_wp2_with fail
 go_ret2
 exact ⟨rfl,b.out⟩
theorem zm5 {T:Nat→Part} {K:Nat} {H:House} (b:zaf W T h K H):Calls Tryz.prog 6 #[.pointer (some ⟨h,0,none⟩)] W fun e W'=>∃f,e=.returned (.tuple #[.pointer (some ⟨f,0,none⟩),()])∧FeedAt W' (fun _=>False) f h (.slice none 0 0) [] 0∧Below W W W'∧W.heap.size≤f:=by
 have d:=hid (zne b);clear b;go_enter Tryz.func6,Tryz.ntmps6;go_wp2_with fail
 refine d.out.mono ?_;rintro e g ⟨rfl,c⟩;have a:=hid c;clear c;go_wp2_with fail
 go_ret2
 exact ⟨_,rfl,⟨Ac.Blk.new _ _ _,RowAt.nil⟩,a.out.alloc a.out.size _,a.out.size⟩
theorem zmY {x:Int} (a:W.cell? ⟨f,2,none⟩=some ↑x):Calls Tryz.prog 18 #[.pointer (some ⟨f,0,none⟩)] W fun e W'=>e=.returned ↑x∧W'=W:=by
 go_enter Tryz.func18,Tryz.ntmps18;go_wp2_with fail
 go_ret;exact ⟨rfl,rfl⟩
theorem zmU {A:Option Addr} {n m:Nat} (a:W.cell? ⟨f,1,none⟩=some (.slice A n m)):Calls Tryz.prog 10 #[.pointer (some ⟨f,0,none⟩)] W fun e W'=>e=.returned ↑n∧W'=W:=by
 go_enter Tryz.func10,Tryz.ntmps10;go_wp2_with fail
 go_ret;exact ⟨rfl,rfl⟩
theorem zkU {x:Int} (a:W.cell? ⟨b,2,none⟩=some ↑x):Calls Tryz.prog 17 #[.pointer (some ⟨b,0,none⟩)] W fun e W'=>e=.returned ↑x∧W'=W:=by
 go_enter Tryz.func17,Tryz.ntmps17;go_wp2_with fail
 go_ret;exact ⟨rfl,rfl⟩
theorem zoD {cap:Nat} {q:List ToldR} (f:W.cell? ⟨b,1,none⟩=some (.chan (some c))) (a:ChanAt W c cap q):Calls Tryz.prog 28 #[.pointer (some ⟨b,0,none⟩)] W fun e W'=>e=.returned ↑q.length∧W'=W:=by
 obtain ⟨s,r,a⟩:=a;have d:=hid (zhC f);have g:=run_len_chan (P:=Tryz.prog) W 3 zh0 a;simp only[List.size_toArray,List.length_map] at g;clear a;go_enter Tryz.func28,Tryz.ntmps28;go_wp2_with fail
 refine d.out.mono ?_;rintro e h ⟨rfl,rfl⟩;go_wp2_with fail
 go_ret;exact ⟨rfl,rfl⟩
def ztU:List ToldR→Ending
 |[]=>.returned (.tuple #[zbE,.bool false])
 |t::_=>.returned (.tuple #[zd8 t,.bool true])
theorem zfr {cap:Nat} {q:List ToldR} (k:W.cell? ⟨b,1,none⟩=some (.chan (some c))) (i:b<W.heap.size) (h:ChanAt W c cap q):Calls Tryz.prog 16 #[.pointer (some ⟨b,0,none⟩)] W fun e W'=>
  e=ztU q∧ChanAt W' c cap q.tail∧Chg (·=c) W W':=by
 have j:=h.lt;obtain ⟨s,r,h⟩:=h
 match q with
 |[]=>
  refine (zqi k i h).mono ?_;rintro e W' ⟨rfl,l⟩;exact ⟨rfl,⟨s,r,(l.block c j).trans h⟩,Chg.of _ l⟩
 |⟨⟨a,b,d,e0,f,g⟩,m⟩::q=>
  refine (zqk a b d e0 f g m rfl (by simp) k i h).mono ?_;rintro e W' ⟨rfl,n,o⟩;refine ⟨rfl,⟨s,r+1,n.trans ?_⟩,o⟩
  simp
  exact List.take_of_length_le (by simp)
theorem ztu {p:Option Addr}:Calls Tryz.prog 31 #[.pointer p] W fun e W'=>∃g,e=.returned (.func (.func 60) #[] #[.pointer (some ⟨g,0,none⟩)])∧Ac.Blk W' g 28 #[.pointer p]∧W.heap.size≤g∧Below W W W':=by
 go_enter Tryz.func31,Tryz.ntmps31;go_wp2_with fail
 go_ret;exact ⟨_,rfl,Ac.Blk.new _ _ _,lR,qA _⟩
end
end Fd
namespace Fd
open Go.RowKit Vb Ac Ho
def zcF (now:Int) (o:OrderR) (a:AnsR):EvR:=
 if o.kind=1 then ⟨1,a.number,a.value,o.lot,o.coins,now⟩ else if o.kind=2 then ⟨2,a.number,o.bidder,o.lot,o.coins,now⟩ else if o.kind=3 then ⟨3,a.number,o.bidder,a.value,0,now⟩
 else if o.kind=4 then ⟨4,a.number,o.bidder,o.lot,a.value,now⟩ else if o.kind=6 then ⟨6,a.number,o.bidder,o.lot,a.value,now⟩ else ⟨o.kind,a.number,o.bidder,o.lot,0,now⟩
def zfM (e:EvR) (s:SaleR):EvR:=⟨7,e.order,s.bidder,s.lot,s.coins,e.tick⟩
noncomputable def zc8 (H:House) (o:OrderR):List EvR:=
 if doE H o=0 then zcF (doH H o).now o (doA H o)::((doH H o).sales.drop H.sales.length).map (zfM (zcF (doH H o).now o (doA H o))) else []
noncomputable def zaA:House→List OrderR→List EvR
 |_,[]=>[]
 |H,o::os=>zc8 H o++zaA (doH H o) os
theorem zgr:∀(os ps:List OrderR) (H:House),zaA H (os++ps)=zaA H os++zaA (os.foldl doH H) ps
 |[],_,_=>rfl
 |o::os,ps,H=>by simp only[List.cons_append,zaA,zgr os ps,List.foldl_cons,List.append_assoc]
end Fd
namespace Fd
open Go.RowKit Vb Ac Ho
attribute [local go_sem] Oper.semAt_some
abbrev EvR.agg (e:EvR):Value:=.agg #[.int .i64 e.kind,.int .i64 e.order,.int .i64 e.bidder,.int .i64 e.lot,.int .i64 e.coins,.int .i64 e.tick]
theorem zg9 {W:World} {T:Nat→Part} {h K:Nat} {H:House} (hH:zaf W T h K H) (o:OrderR) (vo:Value) (a:AnsR):
  Calls Tryz.prog 70 #[.pointer (some ⟨h,0,none⟩),o.agg vo,a.agg] W fun e W'=>e=.returned (zcF H.now o a).agg∧Below W W W':=by
 obtain ⟨c,q,d,b,f,⟨A,r,g,t,D,i,B,n,z,l,C⟩,N,s⟩:=o;obtain ⟨y,ae,E⟩:=a;simp only[OrderR.agg,OrderR.cells,LotR.cells,List.cons_append,List.nil_append];obtain ⟨J,M⟩:=nm (((W.alloc (.cells #[c,.string q,d,b,f,A,r,g,t,D,i,B,n,z,l,C,vo,s] 61)).alloc (.cells #[y,ae,E] 52)).alloc (.cells #[(),(),(),(),(),()] 64));have S:Below W W J:=by rw[M];exact ((qA _).alloc (by simp) _).alloc (by simp;omega) _
 have hs1:J.heap.size=W.heap.size+3:=by rw[M];simp
 have hx:Ac.Blk J W.heap.size 61 #[c,.string q,d,b,f,A,r,g,t,D,i,B,n,z,l,C,vo,s]:=by rw[M];exact ((Ac.Blk.new W _ _).alloc _).alloc _
 have hy:Ac.Blk J (W.heap.size+1) 52 #[y,ae,E]:=by rw[M];exact (Ac.Blk.new' _ _ (by simp)).alloc _
 have hz:Ac.Blk J (W.heap.size+1+1) 64 #[(),(),(),(),(),()]:=by rw[M];exact Ac.Blk.new' _ _ (by simp)
 have HH:=hid (hH.grow S);have HX:=hid hx;have HY:=hid hy;have HZ:=hid hz;have HB1:=hid S;have HS1:=hid hs1;have lx:=hx.lt;have ly:=hy.lt;have x0:J.cell? ⟨W,0,none⟩=some ↑c:=hx.cell 0;have x3:J.cell? ⟨W,3,none⟩=some ↑b:=hx.cell 3;have x4:J.cell? ⟨W,4,none⟩=some ↑f:=hx.cell 4;have y0:J.cell? ⟨W.heap.size+1,0,none⟩=some ↑y:=hy.cell 0;clear hH S hs1 hx hy hz;go_enter Tryz.func70,Tryz.ntmps70;go_wp2_with fail
 rw[←M];clear M;obtain ⟨m,hm⟩:=nm (J.heap.size);have HM:=hid hm;have Q:=hid (hm.trans HS1.out);clear hm
 go_cut [7] from 8 to 45 (fun s7 wx=>s7=.pointer (some ⟨m,0,none⟩)∧Ac.Blk wx m 64 #[c,y,b,f,(),H.now]∧Below J J wx)
 case first=>
  refine zac (Below J J) [12] (by kernel_rfl) (bR.drew) (fun j=>?_);refine tp 0 j ?_;have Y:=hid fun (w':World) (L:(Below J J) w')=>And.intro (qc L x0 lx)<|And.intro (qc L x3 lx)<|And.intro (qc L x4 lx)<|qc L y0 ly;refine tl 1 j Y ?_;refine tp 2 j ?_;refine tl 3 j Y ?_;refine tp 4 j ?_;refine tl 5 j Y ?_;refine tp 6 j ?_;refine tl 7 j Y ?_;refine tp 8 j ?_;refine tr [9,11] ?_;refine tc (fun K v=>?_) ?_
  ·go_simp;refine (zlT (HH.out.grow j)).mono ?_;rintro e w7 ⟨rfl,P⟩;rw[P];clear P;refine v.out _ _ ?_ (fun j=>?_)
   ·exact j
   clear v K
   try simp only[Act.put,pb,pz,ps]
   refine tp 10 j ?_;refine stp 11 fun K v=>?_;go_simp;refine v.out _ _ ?_ (fun j=>?_)
   ·exact j.alloc j.size _
   clear v K
   try simp only[Act.put,pb,pz,ps]
   refine stf 12 fun K v=>?_;go_simp;refine v.out _ _ ?_;clear v K
   try simp only[Act.put,pb,pz,ps]
   refine zaa (by kernel_rfl) ?_ _;go_wp2_with fail
   go_meet
   case rel=>exact ⟨by rw[HM.out],Ac.Blk.drewN (Ac.Blk.new' _ _ HM.out) 1,(qA _).drew⟩
  refine tc (fun K v=>?_) ?_
  ·go_simp;refine v.out _ _ ?_ (fun j=>?_)
   ·exact j.alloc j.size _
   clear v K
   try simp only[Act.put,pb,pz,ps]
   refine stp 9 fun K v=>?_;go_simp;refine (zlT (HH.out.grow j)).mono ?_;rintro e w7 ⟨rfl,P⟩;rw[P];clear P;refine v.out _ _ ?_ (fun j=>?_)
   ·exact j
   clear v K
   try simp only[Act.put,pb,pz,ps]
   refine tp 10 j ?_;refine stf 12 fun K v=>?_;go_simp;refine v.out _ _ ?_;clear v K
   try simp only[Act.put,pb,pz,ps]
   refine zaa (by kernel_rfl) ?_ _;go_wp2_with fail
   go_meet
   case rel=>exact ⟨by rw[HM.out],Ac.Blk.drewN (Ac.Blk.new' _ _ HM.out) 1,(qA _).drew⟩
  exact zaL.nil
 case rest=>
  obtain ⟨rfl,hE,O⟩:=hcut;rename World=>U;have HZ2:=hid (HZ.out.grow O);have R:=hid (HX.out.grow O);have HY2:=hid (HY.out.grow O);have HB2:=hid (HB1.out.trans (O.mono HB1.out.size));have Z:=hid hE;have u0:U.cell? ⟨W,0,none⟩=some ↑c:=R.out.cell 0;have u2:U.cell? ⟨W,2,none⟩=some ↑d:=R.out.cell 2;have v2:U.cell? ⟨W.heap.size+1,2,none⟩=some ↑E:=HY2.out.cell 2;have ef:=hE.frozen;have e2:U.cell? ⟨m,2,none⟩=some ↑b:=hE.cell 2;have e3:U.cell? ⟨m,3,none⟩=some ↑f:=hE.cell 3;have e4:U.cell? ⟨m,4,none⟩=some ↑():=hE.cell 4;have lu:=R.out.lt;have lv:=HY2.out.lt;have nm1:¬W.heap.size=m:=by have:=Q.out;omega
  have nm2:¬W.heap.size+1=m:=by have:=Q.out;omega
  clear hE O x0 x3 x4 y0 lx ly
  go_upto_block 0 with (fail)
  go_cut [] from 21 to 44 (fun wx=>Ac.Blk wx m 64 (zcF H.now ⟨c,q,d,b,f,⟨A,r,g,t,D,i,B,n,z,l,C⟩,N,s⟩ ⟨y,ae,E⟩).cells.toArray∧Ac.Blk wx (W.heap.size+1+1) 64 #[(),(),(),(),(),()]∧Below W W wx)
  case first=>
   have x:=hid (show ∀(V:World) (e:EvR),e=zcF H.now ⟨c,q,d,b,f,⟨A,r,g,t,D,i,B,n,z,l,C⟩,N,s⟩ ⟨y,ae,E⟩→Chg (·=m) U V→Ac.Blk V m 64 e.cells.toArray→_∧_∧_ from fun V e he hc hb=>⟨he▸hb,HZ2.out.chg hc (by have:=Q.out;omega),HB2.out.trans (hc.below HB2.out.size fun k hk e=>by have:=Q.out;omega)⟩);have b1:zcF H.now ⟨c,q,d,b,f,⟨A,r,g,t,D,i,B,n,z,l,C⟩,N,s⟩ ⟨y,ae,E⟩=if c=1 then ⟨1,y,E,f,d,H.now⟩ else if c=2 then ⟨2,y,b,f,d,H.now⟩ else if c=3 then ⟨3,y,b,E,0,H.now⟩ else if c=4 then ⟨4,y,b,f,E,H.now⟩ else if c=6 then ⟨6,y,b,f,E,H.now⟩ else ⟨c,y,b,f,0,H.now⟩:=rfl
   have I:=hid b1;clear b1;by_cases k1:c=1
   ·rw[if_pos k1] at I;subst k1;go_wp2_with fail
    refine zac (Chg (·=m) U) [7] (by kernel_rfl) ((Chg.refl _ U).drewN 1) (fun j=>?_);refine tp 0 j ?_;have Y:=hid fun (w':World) (L:(Chg (·=m) U) w')=>And.intro (cg L u2 lu nm1)<|cg L v2 lv nm2;refine tl 1 j Y ?_;refine tp 2 j ?_;refine tl 3 j Y ?_;refine tp 4 j ?_;refine stp 5 fun K v=>?_;go_simp;refine v.out _ _ ?_ (fun j=>?_)
    ·exact j.trans (Chg.set _ ⟨m,2,none⟩ _)
    clear v K
    try simp only[Act.put,pb,pz,ps]
    refine tp 6 j ?_;refine stf 7 fun K v=>?_;go_simp;refine v.out _ _ ?_;clear v K
    try simp only[Act.put,pb,pz,ps]
    refine zaa (by kernel_rfl) ?_ _;clear j;go_wp2_with fail
    go_meet
    case rel=>
     refine x.out _ ⟨1,y,E,f,d,H.now⟩ I.out.symm (((Chg.set U ⟨m,2,none⟩ _).trans (Chg.set _ ⟨m,4,none⟩ _)).drewN 1) ?_;exact ((Z.out.set_ 2 ↑E).set_ 4 ↑d).drewN 1
   ·rw[if_neg k1] at I;have d1:(c==1)=false:=by simpa using k1
    clear k1;by_cases k2:c=2
    ·rw[if_pos k2] at I;subst k2;clear d1;go_wp2_with fail
     go_meet
     case rel=>exact x.out _ ⟨2,y,b,f,d,H.now⟩ I.out.symm (Chg.set U ⟨m,4,none⟩ _) (Z.out.set_ 4 ↑d)
    ·rw[if_neg k2] at I;have d2:(c==2)=false:=by simpa using k2
     clear k2;by_cases k3:c=3
     ·rw[if_pos k3] at I;subst k3;clear d1 d2;go_wp2_with fail
      go_meet
      case rel=>exact x.out _ ⟨3,y,b,E,0,H.now⟩ I.out.symm (Chg.set U ⟨m,3,none⟩ _) (Z.out.set_ 3 ↑E)
     ·rw[if_neg k3] at I;have d3:(c==3)=false:=by simpa using k3
      clear k3;by_cases k4:c=4
      ·rw[if_pos k4] at I;subst k4;clear d1 d2 d3;go_wp2_with fail
       go_meet
       case rel=>exact x.out _ ⟨4,y,b,f,E,H.now⟩ I.out.symm (Chg.set U ⟨m,4,none⟩ _) (Z.out.set_ 4 ↑E)
      ·rw[if_neg k4] at I;have d4:(c==4)=false:=by simpa using k4
       clear k4;by_cases k6:c=6
       ·rw[if_pos k6] at I;subst k6;clear d1 d2 d3 d4;go_wp2_with fail
        go_meet
        case rel=>exact x.out _ ⟨6,y,b,f,E,H.now⟩ I.out.symm (Chg.set U ⟨m,4,none⟩ _) (Z.out.set_ 4 ↑E)
       ·rw[if_neg k6] at I;have d6:(c==6)=false:=by simpa using k6
        clear k6;go_wp2_with fail
        go_meet
        case rel=>exact x.out _ ⟨c,y,b,f,0,H.now⟩ I.out.symm (Chg.refl _ U) Z.out
  case rest=>
   obtain ⟨G,F,hb3⟩:=hcut;rename World=>V;obtain ⟨⟨g0,g1,g2,g3,g4,g5⟩,X⟩:∃ev,ev=zcF H.now ⟨c,q,d,b,f,⟨A,r,g,t,D,i,B,n,z,l,C⟩,N,s⟩ ⟨y,ae,E⟩:=⟨_,rfl⟩;rw[←X] at G;have HEV:=hid X;clear X;have w0:V.cell? ⟨m,0,none⟩=some ↑g0:=G.cell 0;have w1:V.cell? ⟨m,1,none⟩=some ↑g1:=G.cell 1;have w2:V.cell? ⟨m,2,none⟩=some ↑g2:=G.cell 2;have w3:V.cell? ⟨m,3,none⟩=some ↑g3:=G.cell 3;have w4:V.cell? ⟨m,4,none⟩=some ↑g4:=G.cell 4;have w5:V.cell? ⟨m,5,none⟩=some ↑g5:=G.cell 5;have z0:V.cell? ⟨W.heap.size+1+1,0,none⟩=some ↑():=F.cell 0;have z1:V.cell? ⟨W.heap.size+1+1,1,none⟩=some ↑():=F.cell 1;have z2:V.cell? ⟨W.heap.size+1+1,2,none⟩=some ↑():=F.cell 2;have z3:V.cell? ⟨W.heap.size+1+1,3,none⟩=some ↑():=F.cell 3;have z4:V.cell? ⟨W.heap.size+1+1,4,none⟩=some ↑():=F.cell 4;have z5:V.cell? ⟨W.heap.size+1+1,5,none⟩=some ↑():=F.cell 5;have zf:=F.frozen;have HZ3:=hid F;have HB3:=hid hb3;clear G F hb3 u0 u2 v2 ef e2 e3 e4 lu lv nm1 nm2;go_wp2_with fail
   have hfin:=(((((HZ3.out.set_ 0 ↑g0).set_ 1 ↑g1).set_ 2 ↑g2).set_ 3 ↑g3).set_ 4 ↑g4).set_ 5 ↑g5;refine bodyPost_ret (results_cell_row rfl _ _ (W.heap.size+1+1) 64 #[g0,g1,g2,g3,g4,g5] (0,0) _ rfl hfin Tryz.underlying64 rfl (by kernel_rfl)) rfl ⟨by rw[←HEV.out],?_⟩;exact (((((HB3.out.setCell (p:=⟨W.heap.size+1+1,0,none⟩) (by simp;omega) _).setCell (p:=⟨W.heap.size+1+1,1,none⟩) (by simp;omega) _).setCell (p:=⟨W.heap.size+1+1,2,none⟩) (by simp;omega) _).setCell (p:=⟨W.heap.size+1+1,3,none⟩) (by simp;omega) _).setCell (p:=⟨W.heap.size+1+1,4,none⟩) (by simp;omega) _).setCell (p:=⟨W.heap.size+1+1,5,none⟩) (by simp;omega) _
structure Tells (k:Nat) (pre cap:Array Value) (N:Nat) (J:(Nat→Prop)→List EvR→World→Prop):Prop where
 code:∀args w,(callFunc k args).run Tryz.prog w=.ok (.enter k args) w
 mono:∀{Z Z' s W},J Z s W→(∀b,b<W.heap.size→Z b→Z' b)→J Z' s W
 keep:∀{Z s W W' X},J Z s W→Chg X W W'→(∀b,b<W.heap.size→Z b→¬X b)→J Z s W'
 call:∀{Z s W} (e:EvR),J Z s W→s.length<N→Calls Tryz.prog k (pre.push e.agg++cap) W fun ex W'=>ex=.returned (.tuple #[])∧J (fun b=>Z b∨W.heap.size≤b) (s++[e]) W'∧Chg Z W W'
def zcC (W:World) (T:Nat→Part) (h K':Nat) (H':House) (o:OrderR) (A:Option Addr) (c:Nat) (a:AnsR):Prop:=
 ∀W1,Below W W W1→Calls Tryz.prog 69 #[.pointer (some ⟨h,0,none⟩),o.agg (.slice A o.offers.length c)] W1 fun e W'=>e=.returned a.agg∧∃T',zaf W' T' h K' H'∧Moves W1 T W' T'
theorem zlE {W:World} {T:Nat→Part} {h K K':Nat} {H H':House} (hH:zaf W T h K H) (hl:H.sales.length≤1000000) (o:OrderR) {A:Option Addr} {c:Nat} {a:AnsR} (hD:zcC W T h K' H' o A c a) (ha:a.err≠0) (k:Nat) (pre cap:Array Value):
  Calls Tryz.prog 33 #[.pointer (some ⟨h,0,none⟩),o.agg (.slice A o.offers.length c),.func (.func k) pre cap] W fun e W'=>e=.returned a.agg∧∃T',zaf W' T' h K' H'∧Moves W T W' T':=by
 obtain ⟨p,q,j,d,D,⟨B,r,f,t,G,g,C,n,y,m,F⟩,E,s⟩:=o;obtain ⟨M,I,N⟩:=a;unfold zcC at hD;simp only[OrderR.agg,OrderR.cells,LotR.cells,List.cons_append,List.nil_append] at hD ⊢;obtain ⟨W1,z⟩:=nm (((W.alloc (.cells #[p,.string q,j,d,D,B,r,f,t,G,g,C,n,y,m,F,.slice A E.length c,s] 61)).alloc (.cells #[.func (.func k) pre cap] 105)).alloc (.cells #[(),(),()] 52));have P:Below W W W1:=by rw[z];exact ((qA _).alloc (by simp) _).alloc (by simp;omega) _
 have HX1:=hid (show Ac.Blk W1 W.heap.size 61 #[p,.string q,j,d,D,B,r,f,t,G,g,C,n,y,m,F,.slice A E.length c,s] by rw[z];exact ((Ac.Blk.new W _ _).alloc _).alloc _);have HZ1:=hid (show Ac.Blk W1 (W.heap.size+1+1) 52 #[(),(),()] by rw[z];exact Ac.Blk.new' _ _ (by simp));have S:=hid P;have HS:=hid (zgv (hH.grow P) hl);have HD:=hid hD;have HA:=hid ha;have ht:(I !=0)=true:=by simpa using ha
 have HH:=hid hH;clear P hl hD ha hH;go_enter Tryz.func33,Tryz.ntmps33;go_wp2_with fail
 rw[←z];clear z;refine HS.out.mono ?_;rintro e W2 ⟨A2,c2,rfl,_,v⟩;have HX2:=hid (HX1.out.grow v);have X:=hid (HZ1.out.grow v);have J:=hid (S.out.trans (v.mono S.out.size));clear v
 go_wp2_with (refine wpList_load_row rfl 61 (.tmp 4) rfl W.heap.size rfl 61 #[p,.string q,j,d,D,B,r,f,t,G,g,C,n,y,m,F,.slice A E.length c,s] (0,0) _ HX2.out Tryz.underlying61 rfl (by kernel_rfl) ?_)
 refine (HD.out W2 J.out).mono ?_;rintro e L ⟨rfl,T3,Y,O⟩;have R:∀b,W.heap.size≤b→T b=.no:=by obtain ⟨_,_,_,_,_,_,hA⟩:=HH.out;exact hA.out
 have aa:Chg (Ho.Own T) W L:=(Chg.of _ J.out).trans O.chg;obtain ⟨W4,l⟩:=nm (L.alloc (.cells #[M,I,N] 52));have Q:Below L L W4:=by rw[l];exact qA _
 have x:Ac.Blk W4 (W.heap.size+1+1) 52 #[(),(),()]:=(X.out.chg O.chg fun e=>e.2 (R _ (by omega))).grow Q;have v:=J.out.size;have z0:(L.alloc (.cells #[M,I,N] 52)).cell? ⟨W.heap.size+1+1,0,none⟩=some ↑():=l▸x.cell 0;have z1:(L.alloc (.cells #[M,I,N] 52)).cell? ⟨W.heap.size+1+1,1,none⟩=some ↑():=l▸x.cell 1;have z2:(L.alloc (.cells #[M,I,N] 52)).cell? ⟨W.heap.size+1+1,2,none⟩=some ↑():=l▸x.cell 2;have zf:∀i,(L.alloc (.cells #[M,I,N] 52)).frozen? ⟨W.heap.size+1+1,i,none⟩=false:=l▸x.frozen;have HZ4:=hid (l▸x);have U:=hid (l▸Q);have HMV:=hid aa;have V:=hid O;have HH3:=hid Y;have HNO:=hid R;clear R aa Q x O Y l v;go_wp2_with fail
 have Z:=((HZ4.out.set_ 0 ↑M).set_ 1 ↑I).set_ 2 ↑N;have ab:=((Chg.set (L.alloc (.cells #[M,I,N] 52)) ⟨W.heap.size+1+1,0,none⟩ ↑M).trans (Chg.set _ ⟨W.heap.size+1+1,1,none⟩ ↑I)).trans (Chg.set _ ⟨W.heap.size+1+1,2,none⟩ ↑N);have hsz:=J.out.size;have hlt:=X.out.lt;refine bodyPost_ret (results_cell_row rfl _ _ (W.heap.size+1+1) 52 #[M,I,N] (0,0) _ rfl Z Tryz.underlying52 rfl (by kernel_rfl)) rfl ⟨rfl,T3,?_,?_,fun b hb=>V.out.tag b (by omega)⟩
 ·exact (HH3.out.grow U.out).keep ab fun b hb e=>hb (by rw[e];exact (V.out.tag _ hlt).trans (HNO.out _ (show W.heap.size≤W.heap.size+1+1 by omega)))
 ·exact (HMV.out.grow U.out).step ab fun b hb e=>by simp at e;omega
end Fd
namespace Fd
open Go.RowKit Ac Ho
theorem zon (nn:Nat) (hn:1≤nn) (lo g gl n:Nat) (v:Value) (ss:List SaleR) (hl:ss.length≤1000000) (w:World) (hv:SFAt w lo g gl n v ss):
  zkw Fence.wide nn Tryz.prog 102 #[.pointer (some ⟨g,0,none⟩),.pointer (some ⟨gl,0,none⟩)] (fun x:Int×SaleR=>#[Value.int .i64 x.1,x.2.agg]) (fun _ _ _=>True) (zf0 g gl v) (fun ys=>ys=zbf n ss) (fun pre=>pre<+:zbf n ss) (zbf n ss).length w:=fun l J W hW hJ hY h0=>by
 refine (ztR nn hn l lo g gl n v ss hl (fun hi pre V=>∃m,J hi m pre V) (fun _ _ _=>False) W (hv.grow hW) (fun hi pre x W1 hhi hJ1 hsp hlt=>?_) (fun W0 hW0=>⟨_,h0 W0 hW0⟩)).mono ?_
 ·obtain ⟨m,hJ1⟩:=hJ1;exact YieldAt.mono (hY hi m pre x W1 hhi hJ1 trivial hsp hlt) fun e W2 h=>.inl ⟨h.1,⟨_,h.2.1⟩,h.2.2⟩
 ·rintro e W2 ⟨hv2,hi,hhi,h⟩;refine ⟨hv2,hi,?_⟩
  rcases h with ⟨xs,hxs,m,hJ2⟩|⟨_,_,h⟩
  ·exact ⟨m,hhi,xs,hxs,hJ2⟩
  ·exact h.elim
end Fd
namespace Fd
open Go.RowKit Vb Ac Ho
attribute [local go_sem] Oper.semAt_some
def zgq (H H':House) (o:OrderR) (a:AnsR):List EvR:=zcF H'.now o a::(H'.sales.drop H.sales.length).map (zfM (zcF H'.now o a))
theorem zj9 (W:World) (l:Nat) (o:Obj):Chg (·=l) W (W.putObj l o):=⟨rfl,rfl,rfl,by simp,fun k _ hn=>World.putObj_heap_other hn⟩
theorem zom (n:Nat) (ss:List SaleR):(zbf n ss).map (·.2)=ss.drop n:=by
 unfold zbf;rw[List.map_drop]
 congr 1
 apply List.ext_getElem?
 intro i
 simp
 cases ss[i]? <;>rfl
theorem zm0 {W:World} {T:Nat→Part} {h K K':Nat} {H H':House} (hH:zaf W T h K H) (hl:H.sales.length≤1000000) (hl':H'.sales.length≤1000000) (o:OrderR) {A:Option Addr} {c:Nat} {a:AnsR} (hD:zcC W T h K' H' o A c a) (ha:a.err=0)
  {k:Nat} {pre cap:Array Value} {N:Nat} {J:(Nat→Prop)→List EvR→World→Prop} (hT:Tells k pre cap N J) {Z:Nat→Prop} {s:List EvR} (hJ:J Z s W) (hZ:∀b,b<W.heap.size→Z b→T b=.no) (hN:s.length+(zgq H H' o a).length≤N):
  Calls Tryz.prog 33 #[.pointer (some ⟨h,0,none⟩),o.agg (.slice A o.offers.length c),.func (.func k) pre cap] W fun e W'=>e=.returned a.agg∧∃T',zaf W' T' h K' H'∧(∀b,b<W.heap.size→T' b=T b)∧
   Chg (fun b=>Ho.Own T b∨Z b) W W'∧J (fun b=>Z b∨(W.heap.size≤b∧T' b=.no)) (s++zgq H H' o a) W':=by
 obtain ⟨y,z,q,d,P,⟨M,C,j,E,R,p,O,t,L,r,Q⟩,I,D⟩:=o;obtain ⟨an,ae,av⟩:=a;have ha:ae=0:=ha;subst ha;unfold zcC at hD;have hE:zgq H H' ⟨y,z,q,d,P,⟨M,C,j,E,R,p,O,t,L,r,Q⟩,I,D⟩ ⟨an,0,av⟩=zcF H'.now ⟨y,z,q,d,P,⟨M,C,j,E,R,p,O,t,L,r,Q⟩,I,D⟩ ⟨an,0,av⟩::(H'.sales.drop H.sales.length).map (zfM (zcF H'.now ⟨y,z,q,d,P,⟨M,C,j,E,R,p,O,t,L,r,Q⟩,I,D⟩ ⟨an,0,av⟩)):=rfl;rw[hE] at hN ⊢;clear hE;simp only[OrderR.agg,OrderR.cells,LotR.cells,List.cons_append,List.nil_append] at hD ⊢;obtain ⟨W1,hW1⟩:=nm (((W.alloc (.cells #[y,.string z,q,d,P,M,C,j,E,R,p,O,t,L,r,Q,.slice A I.length c,D] 61)).alloc (.cells #[.func (.func k) pre cap] 105)).alloc (.cells #[(),(),()] 52));have hb1:Below W W W1:=by rw[hW1];exact ((qA _).alloc (by simp) _).alloc (by simp;omega) _
 have HX1:=hid (show Ac.Blk W1 W.heap.size 61 #[y,.string z,q,d,P,M,C,j,E,R,p,O,t,L,r,Q,.slice A I.length c,D] by rw[hW1];exact ((Ac.Blk.new W _ _).alloc _).alloc _);have HF1:=hid (show Ac.Blk W1 (W.heap.size+1) 105 #[.func (.func k) pre cap] by rw[hW1];exact (Ac.Blk.new' _ _ (by simp)).alloc _);have HZ1:=hid (show Ac.Blk W1 (W.heap.size+1+1) 52 #[(),(),()] by rw[hW1];exact Ac.Blk.new' _ _ (by simp));have HB1:=hid hb1;have HS:=hid (zgv (hH.grow hb1) hl);have HD:=hid hD;have HNO:=hid (show ∀b,W.heap.size≤b→T b=.no from fun b G=>(by obtain ⟨_,_,_,_,_,_,hA⟩:=hH;exact hA.out b G));have HL':=hid hl';have HL:=hid hl;have HT:=hid hT;have HJ:=hid (hT.mono (Z':=fun b=>Z b∧b<W.heap.size) hJ fun b G f=>⟨f,G⟩);have HZZ:=hid (show ∀b,(Z b∧b<W.heap.size)→T b=.no from fun b G=>hZ b G.2 G.1);have HN:=hid hN;have hcf:=hT.code;clear hb1 hl hl' hD hH hT hJ hZ hN;refine (callsIn_wide (n:=3)).1 (callsIn_of_wp_marks Tryz.func33 rfl trivial ((wpIn_wide (n:=3)).2 ?_));simp only[Tryz.ntmps33,List.size_toArray,List.length_cons,List.length_nil,Nat.reduceAdd,Nat.reduceSub,Array.replicate_succ,Array.replicate_zero,List.push_toArray,List.append_toArray,List.nil_append,List.cons_append];go_wp2_with fail
 rw[←hW1];clear hW1;refine HS.out.mono ?_;rintro e W2 ⟨A2,c2,rfl,_,aa⟩;have HX2:=hid (HX1.out.grow aa);have HF2:=hid (HF1.out.grow aa);have HZ2:=hid (HZ1.out.grow aa);have HB2:=hid (HB1.out.trans (aa.mono HB1.out.size));clear aa
 go_wp2_with (refine wpList_load_row rfl 61 (.tmp 4) rfl W.heap.size rfl 61 #[y,.string z,q,d,P,M,C,j,E,R,p,O,t,L,r,Q,.slice A I.length c,D] (0,0) _ HX2.out Tryz.underlying61 rfl (by kernel_rfl) ?_)
 refine (HD.out W2 HB2.out).mono ?_;rintro e W3 ⟨rfl,T3,hH3,hM3⟩;have hno:=HNO.out;have hmv:Chg (Ho.Own T) W W3:=(Chg.of _ HB2.out).trans hM3.chg;have aa:=HB2.out.size;obtain ⟨W4,hW4⟩:=nm (W3.alloc (.cells #[an,(),av] 52));have hb4:Below W3 W3 W4:=by rw[hW4];exact qA _
 have HX4:=hid ((HX2.out.chg hM3.chg fun e=>e.2 (hno _ (by omega))).grow hb4);have HF4:=hid ((HF2.out.chg hM3.chg fun e=>e.2 (hno _ (by omega))).grow hb4);have HZ4:=hid ((HZ2.out.chg hM3.chg fun e=>e.2 (hno _ (by omega))).grow hb4);have HA4:=hid (show Ac.Blk W4 W3.heap.size 52 #[an,(),av] by rw[hW4];exact Ac.Blk.new _ _ _);have HH4:=hid (hH3.grow hb4);have HC4:=hid (hmv.grow hb4);have HW3:=hid hmv.size;have HTG:=hid (show ∀b,b<W.heap.size→T3 b=T b from fun b G=>hM3.tag b (by omega));have HTN:=hid (show ∀b,W.heap.size≤b→b<W2.heap.size→T3 b=.no from fun b G aa=>(hM3.tag b aa).trans (hno b G));have HJ4:=hid (HT.out.keep (HT.out.keep HJ.out hmv fun b _ f e=>e.2 (HZZ.out b f)) (Chg.of (fun _=>False) hb4) fun _ _ _=>id);clear hno hmv aa hb4 hH3 hM3
 go_wp2_with (refine wpList_load_row rfl 61 (.tmp 4) rfl W.heap.size rfl 61 #[y,.string z,q,d,P,M,C,j,E,R,p,O,t,L,r,Q,.slice A I.length c,D] (0,0) _ (by rw[←hW4];exact HX4.out) Tryz.underlying61 rfl (by kernel_rfl) ?_)
 rw[←hW4];clear hW4;obtain ⟨⟨e0,e1,e2,e3,e4,e5⟩,hev⟩:∃ev,ev=zcF H'.now ⟨y,z,q,d,P,⟨M,C,j,E,R,p,O,t,L,r,Q⟩,I,D⟩ ⟨an,0,av⟩:=⟨_,rfl⟩;have hfi:=zg9 HH4.out ⟨y,z,q,d,P,⟨M,C,j,E,R,p,O,t,L,r,Q⟩,I,D⟩ (.slice A I.length c) ⟨an,0,av⟩;rw[←hev] at hfi;simp only[OrderR.agg,OrderR.cells,LotR.cells,List.cons_append,List.nil_append] at hfi;have HEV:=hid hev;clear hev;refine hfi.mono ?_;rintro e W5 ⟨rfl,hb5⟩;clear hfi;obtain ⟨W6,hW6⟩:=nm (W5.alloc (.cells #[e0,e1,e2,e3,e4,e5] 64));have hb6:Below W5 W5 W6:=by rw[hW6];exact qA _
 have U:Below W4 W4 W6:=hb5.trans (hb6.mono hb5.size);have hf6:=HF4.out.grow U;have f0:(W5.alloc (.cells #[e0,e1,e2,e3,e4,e5] 64)).cell? ⟨W.heap.size+1,0,none⟩=some (.func (.func k) pre cap):=hW6▸hf6.cell 0;have HF6:=hid hf6;have HZ6:=hid (HZ4.out.grow U);have HA6:=hid (HA4.out.grow U);have HE6:=hid (show Ac.Blk W6 W5.heap.size 64 #[e0,e1,e2,e3,e4,e5] by rw[hW6];exact Ac.Blk.new _ _ _);have HH6:=hid (HH4.out.grow U);have HC6:=hid (HC4.out.grow U);have HW5:=hid hb5.size;have HJ6:=hid (HT.out.keep HJ4.out (Chg.of (fun _=>False) U) fun _ _ _=>id);clear hb5 hb6 hf6 U;go_wp2_with fail
 rw[←hW6];clear hW6;refine (HT.out.call ⟨e0,e1,e2,e3,e4,e5⟩ HJ6.out (by have:=HN.out;simp at this;omega)).mono ?_;rintro e W7 ⟨rfl,hj7,hc7⟩;have hw3:=HW3.out;have hs3:=HA4.out.lt;have hs6:=HE6.out.lt;have hn2:=HZ6.out.lt;have hs4:=HC4.out.size;have hs5:W.heap.size≤W5.heap.size:=lT hs4 HW5.out;have hnz:∀b,W.heap.size≤b→¬(Z b∧b<W.heap.size):=fun b G f=>by have:=f.2;omega
 have HF7:=hid (HF6.out.chg hc7 (hnz _ (by omega)));have HZ7:=hid (HZ6.out.chg hc7 (hnz _ (by omega)));have HA7:=hid (HA6.out.chg hc7 (hnz _ hw3));have HE7:=hid (HE6.out.chg hc7 (hnz _ hs5));have hH7:=HH6.out.keep hc7 fun b G f=>G ((HTG.out b f.2).trans (HZZ.out b f));have HSF:=hid (zlf hH7 HL'.out (x:=(H.sales.length:Int)) (by have:=HL.out;omega));have HH7:=hid hH7;have HC7:=hid ((HC6.out.mono (Y:=fun b=>Ho.Own T b∨Z b) fun b _ e=>.inl e).step hc7 fun b _ e=>.inr e.1);have HJ7:=hid (HT.out.mono (Z':=fun b=>(Z b∧b<W.heap.size∨W6.heap.size≤b)∧b<W7.heap.size) hj7 fun b G f=>⟨f,G⟩);have HS67:=hid hc7.size;have HS5:=hid hs5;have HNZ:=hid hnz;clear hw3 hs3 hs6 hn2 hs4 hs5 hnz hH7 hc7 hj7 f0;go_wp2_with fail
 refine HSF.out.mono ?_;rintro e W8 ⟨g,gl,v,rfl,hsf,hg,hgl,hb8⟩;rw[show (max (H.sales.length:Int) 0).toNat=H.sales.length by omega] at hsf;have HSA:=hid hsf;have S:=hid hb8;have HNX:=hid (show ∀b,zf0 g gl v b→W7.heap.size≤b by
  rintro b (e|e|e)
  ·omega
  ·omega
  ·exact hsf.row.blk _ e)
 have HJ8:=hid (HT.out.keep HJ7.out (Chg.of (fun _=>False) hb8) fun _ _ _=>id);have heq:∀w,(binOp .eql 155 (zjS g gl) .nilFunc).run Tryz.prog w=.ok ↑false w:=fun w=>by unfold zjS;kernel_rfl
 unfold zjS at heq ⊢;clear hsf hb8 hg hgl;go_wp2_with fail
 refine (wpIn_wide (n:=3)).1 ?_;refine' zi1 (F:=Fence.wide) (n:=3) rfl (by omega) (gf:=102) (lb:=#[.pointer (some ⟨g,0,none⟩),.pointer (some ⟨gl,0,none⟩)]) rfl trivial (enters_of Tryz.func102 (by kernel_rfl) rfl)
  (zon 2 (by omega) _ g gl H.sales.length v H'.sales HL'.out W8 HSA.out) (fun _ _ _ _ _ _ _=>trivial) (fun b G=>HSA.out.x_lt G) bR (fun _=>rfl)
  (fun hi m pr V=>J (fun b=>((Z b∧b<W.heap.size∨W6.heap.size≤b)∧b<W7.heap.size)∨(hi≤b∧W8.heap.size+2≤b)) ((s++[⟨e0,e1,e2,e3,e4,e5⟩])++pr.map fun x=>zfM ⟨e0,e1,e2,e3,e4,e5⟩ x.2) V∧Chg (fun b=>(Z b∧b<W.heap.size∨W6.heap.size≤b)∧b<W7.heap.size) W8 V)
  (fun hi m s' A B h0 G=>⟨HT.out.keep h0.1 (Chg.of (fun _=>False) G) fun _ _ _=>id,h0.2.grow G⟩) ?hput ?h0 (fun x=>.cells #[x.2.number,x.2.lot,x.2.bidder,x.2.coins,.int .u32 x.2.goods,x.2.count,x.2.tick] 151 (0,0)) _ ?assign ?body ?done
 case hput=>
  intro hi m s' A' l o h0 hl;have h8:=S.out.size;refine ⟨HT.out.keep h0.1 (zj9 A' l o) fun b _ f e=>?_,h0.2.step (zj9 A' l o) fun b G e=>?_⟩
  ·rcases f with f|f
   ·have:=f.2;omega
   ·have:=f.2;omega
  ·omega
 case h0=>
  intro W0 hW0;refine ⟨?_,Chg.of _ hW0⟩;rw[List.map_nil,List.append_nil];exact HT.out.mono (HT.out.keep HJ8.out (Chg.of (fun _=>False) hW0) fun _ _ _=>id) fun b _ f=>.inl f
 case assign=>
  rintro l x W' g' K' m _ hg' hK'
  gi_wp2
  rw[←hg'];exact hK'
 case body=>
  rintro hi m l gs pr x W' hhi hwg hm2 hgs ⟨hI,X⟩ _ hsp hlt;obtain ⟨xn,⟨sn,sl,sb,sc,sg,sct,st⟩⟩:=x;simp only at hgs;have hgl:=(Array.getElem?_eq_some_iff.1 hgs).1;have s1:W'.cell? ⟨gs,1,none⟩=some ↑sl:=(show Ac.Blk W' gs _ _ from hgs).cell 1;have s2:W'.cell? ⟨gs,2,none⟩=some ↑sb:=(show Ac.Blk W' gs _ _ from hgs).cell 2;have s3:W'.cell? ⟨gs,3,none⟩=some ↑sc:=(show Ac.Blk W' gs _ _ from hgs).cell 3;have h8:=S.out.size;have h67:=HS67.out;have lf:=HF6.out.lt;have le:=HE6.out.lt;have hs5:=HS5.out;have hZ2:∀b,W.heap.size≤b→b<W6.heap.size→¬((Z b∧b<W.heap.size∨W6.heap.size≤b)∧b<W7.heap.size):=fun b h1 h2 h=>by
   rcases h.1 with h3|h3
   ·have:=h3.2;omega
   ·omega
  have hf:=(HF7.out.grow S.out).chg X (hZ2 _ (by omega) lf);have he:=(HE7.out.grow S.out).chg X (hZ2 _ hs5 le);have p0:W'.cell? ⟨W.heap.size+1,0,none⟩=some (.func (.func k) pre cap):=hf.cell 0;have q1:W'.cell? ⟨W5,1,none⟩=some ↑e1:=he.cell 1;have q5:W'.cell? ⟨W5,5,none⟩=some ↑e5:=he.cell 5;have hlen:((s++[(⟨e0,e1,e2,e3,e4,e5⟩:EvR)])++pr.map fun (x:Int×SaleR)=>zfM ⟨e0,e1,e2,e3,e4,e5⟩ x.2).length<N:=by
   have h1:=HN.out;rw[zjP] at hlt;simp only[List.length_cons,List.length_map,List.length_drop] at h1;simp only[List.length_append,List.length_map,List.length_cons,List.length_nil]
   omega
  have HCL:=hid (HT.out.call (zfM ⟨e0,e1,e2,e3,e4,e5⟩ ⟨sn,sl,sb,sc,sg,sct,st⟩) hI hlen);have HIC:=hid X;have HSZ:=hid (And.intro hgl (And.intro hwg hhi));clear hI X hsp hlt hgs hgl hf he hlen hZ2 h8 h67 lf le hs5 hwg hhi hm2
  gi_wp2
  refine ⟨trivial,(callsIn_wide.2 HCL.out).mono ?_⟩;rintro e W9 ⟨rfl,hj9,ab⟩;have HJ9:=hid hj9;have HC9:=hid ab;clear hj9 ab
  gi_wp2
  have ab:=HC9.out;have h8:=S.out.size;obtain ⟨hgl,hwg,hhi⟩:=HSZ.out;have far:∀b,W7.heap.size≤b→b<hi∨b<W8.heap.size+2→¬(((Z b∧b<W.heap.size∨W6.heap.size≤b)∧b<W7.heap.size)∨(hi≤b∧W8.heap.size+2≤b)):=fun b h1 h2 h=>by
   rcases h with h|h
   ·have:=h.2;omega
   ·omega
  refine ⟨⟨ab.block _ (by omega) (far _ h8 (.inr (by omega))),ab.block _ (by omega) (far _ (by omega) (.inr (by omega)))⟩,⟨⟨ab.size,fun i h1 h2=>ab.block i (by omega) (far _ (by omega) (.inl h2))⟩,fun b G=>?_⟩,?_,HIC.out.step ab fun b G e=>e.elim id fun e=>by omega⟩
  ·have h1:=HNX.out b G;have h2:=HSA.out.x_lt G;exact ab.block b (by omega) (far _ h1 (.inr (by omega)))
  ·rw[List.map_append,←List.append_assoc];exact HT.out.mono HJ9.out fun b _ f=>f.elim id fun f=>.inr (by omega)
 case done=>
  rintro hi m Dd ys W' hD hys ⟨hI,X⟩ hKd;subst hD hys;have hmm:(zbf H.sales.length H'.sales).map (fun x=>zfM ⟨e0,e1,e2,e3,e4,e5⟩ x.2)=(H'.sales.drop H.sales.length).map (zfM ⟨e0,e1,e2,e3,e4,e5⟩):=by rw[←zom,List.map_map];rfl
  rw[hmm] at hI;clear hmm;have h8:=S.out.size;have h67:=HS67.out;have hs5:=HS5.out;have le:=HE6.out.lt;have la:=HA6.out.lt;have lz:=HZ6.out.lt;have hZ2:∀b,W.heap.size≤b→b<W6.heap.size→¬((Z b∧b<W.heap.size∨W6.heap.size≤b)∧b<W7.heap.size):=fun b h1 h2 h=>by
   rcases h.1 with h3|h3
   ·have:=h3.2;omega
   ·omega
  have ha:=(HA7.out.grow S.out).chg X (hZ2 _ HW3.out la);have f:=(HZ7.out.grow S.out).chg X (hZ2 _ (by omega) lz);have a0:W'.cell? ⟨W3,0,none⟩=some ↑an:=ha.cell 0;have a1:W'.cell? ⟨W3,1,none⟩=some ↑():=ha.cell 1;have a2:W'.cell? ⟨W3,2,none⟩=some ↑av:=ha.cell 2;have z0:W'.cell? ⟨W.heap.size+1+1,0,none⟩=some ↑():=f.cell 0;have z1:W'.cell? ⟨W.heap.size+1+1,1,none⟩=some ↑():=f.cell 1;have z2:W'.cell? ⟨W.heap.size+1+1,2,none⟩=some ↑():=f.cell 2;have zf:=f.frozen;have HI:=hid hI;have HIC:=hid X;have HZF:=hid f;have HQ0:=hid hKd;clear hI X hKd ha f hZ2 h8 h67 hs5 le la lz
  dsimp only
  go_wp2_with fail
  have hst:=((Chg.set W' ⟨W.heap.size+1+1,0,none⟩ ↑an).trans (Chg.set _ ⟨W.heap.size+1+1,1,none⟩ ↑())).trans (Chg.set _ ⟨W.heap.size+1+1,2,none⟩ ↑av);have hfin:=((HZF.out.set_ 0 ↑an).set_ 1 ↑()).set_ 2 ↑av;have hw8:=HIC.out.size;have h8:=S.out.size;have h67:=HS67.out;have lz:=HZ6.out.lt;have lz2:=HZ2.out.lt;have lq:W8.heap.size<W'.heap.size:=(Array.getElem?_eq_some_iff.1 HQ0.out).1;have h46:=HW5.out;have h56:=HE6.out.lt;have hz4:=HC4.out.size;have htn:=HTN.out _ (show W.heap.size≤W.heap.size+1+1 by omega) lz2;have TO:∀b,W4.heap.size≤b→T3 b=.no:=by obtain ⟨_,_,_,_,_,_,hA⟩:=HH4.out;exact hA.out
  have hq:=(hst.block W8.heap.size lq (by simp;omega)).trans HQ0.out;refine ⟨by simp,.inl ⟨_,_,rfl,run_takeDeferred hq,?_⟩⟩;have hpt:=zj9 (((W'.setCell ⟨W.heap.size+1+1,0,none⟩ ↑an).setCell ⟨W.heap.size+1+1,1,none⟩ ↑()).setCell ⟨W.heap.size+1+1,2,none⟩ ↑av) W8.heap.size (.deferred none);refine ⟨.agg #[an,(),av],results_cell_row rfl _ _ (W.heap.size+1+1) 52 #[an,(),av] (0,0) _ rfl (hfin.chg hpt (by omega)) Tryz.underlying52 rfl (by kernel_rfl),rfl,T3,?_,HTG.out,?_,?_⟩
  ·refine (((HH7.out.grow S.out).keep HIC.out fun b G f=>G ?_).keep hst fun b G f=>G (f▸htn)).keep hpt fun b G f=>G (TO b (by omega))
   rcases f.1 with h1|h1
   ·exact (HTG.out b h1.2).trans (HZZ.out b h1)
   ·exact TO b (by omega)
  ·refine (((HC7.out.grow S.out).step HIC.out fun b G f=>?_).step hst fun b G f=>?_).step hpt fun b G f=>?_
   ·rcases f.1 with h1|h1
    ·exact .inr h1.1
    ·omega
   ·simp at f;omega
   ·omega
  ·have h1:=HT.out.keep (HT.out.keep HI.out hst fun b G f e=>?_) hpt fun b G f e=>?_
   ·rw[List.append_assoc] at h1;rw[←HEV.out];refine HT.out.mono h1 fun b G f=>?_
    rcases f with f|f
    ·rcases f.1 with h2|h2
     ·exact .inl h2.1
     ·exact .inr ⟨by omega,TO b (by omega)⟩
    ·exact .inr ⟨by omega,TO b (by omega)⟩
   ·simp at e
    rcases f with f|f
    ·rcases f.1 with h2|h2
     ·have:=h2.2;omega
     ·omega
    ·omega
   ·rcases f with f|f
    ·have:=f.2;omega
    ·omega
theorem zqP:zbg Tryz.prog 48 64 6 48:=zba Tryz.underlying48 (by omega) (z:=.agg #[(),(),(),(),(),()]) (by kernel_rfl) rfl
def zhN (es:List EvR):List Value:=es.flatMap EvR.cells
def zln (g:Nat) (Z:Nat→Prop) (s:List EvR) (W:World):Prop:=
 ∃v,Ac.Blk W g 48 #[v]∧RowAt W (fun b=>Z b∧b≠g) 64 6 v s.length (zhN s)∧Z g
theorem zoX {W:World} {g:Nat} {Z:Nat→Prop} {s:List EvR} (T:zln g Z s W) (e:EvR) (J:s.length<1000000000):
  Calls Tryz.prog 34 #[e.agg,.pointer (some ⟨g,0,none⟩)] W fun ex W'=>ex=.returned (.tuple #[])∧zln g (fun b=>Z b∨W.heap.size≤b) (s++[e]) W'∧Chg Z W W':=by
 obtain ⟨j,k,l,m,o,p⟩:=e;obtain ⟨v,q,z,P⟩:=T;obtain ⟨A,c,rfl⟩:=z.form;obtain ⟨n,I⟩:=nm (s.length);rw[←I] at q z J;have d:Below W W (W.alloc (.cells #[j,k,l,m,o,p] 64)):=qA _;have f:Below W W ((W.alloc (.cells #[j,k,l,m,o,p] 64)).alloc (.cells #[j,k,l,m,o,p] 64)):=d.alloc d.size _;have V:(W.alloc (.cells #[j,k,l,m,o,p] 64)).cell? ⟨g,0,none⟩=some (.slice A n c):=(q.grow d).cell 0;have B:=hid f;have D:=hid (q.grow f);have E:=hid q.lt;have G:=hid ((z.mono (R':=fun b=>(Z b∧b≠g)∧b<W.heap.size) fun b r a=>⟨a,r⟩).grow f);have Q:=hid I;have L:=hid J;have M:=hid P;clear q z d f I J P;go_enter Tryz.func34,Tryz.ntmps34
 go_wp2_with (at_builtin;go_must (refine zby _ (.tmp 3) (.tmp 5) rfl zqP rfl (.slice A n c) n (zhN s) rfl G.out (.slice (some ⟨W.heap.size+1,0,none⟩) 1 1) 1 [.int .i64 j,.int .i64 k,.int .i64 l,.int .i64 m,.int .i64 o,.int .i64 p] rfl (Sl.lit1 (t:=64) (Ac.Blk.new' _ _ (by simp)) rfl) (by simp[Value.oneCell']) (by have:=L.out;omega) (by have:=L.out;unfold maxLen;omega) ?_);intro K O N x i;have h:=D.out.chg i (fun e=>(G.out.blk g e).1.2 rfl);have X:N.cell? ⟨g,0,none⟩=some (.slice A n c):=h.cell 0;have Y:=h.frozen;have F:=hid h;have H:=hid x;have C:=hid i;clear x i h)
 refine bodyPost_end (results_none rfl _ _ _) rfl ?_;have y:=Chg.set N ⟨g,0,none⟩ (.slice K (n+1) O);have U:=E.out;refine ⟨rfl,⟨.slice K (n+1) O,F.out.set_ 0 _,?_,.inl M.out⟩,((Chg.of _ B.out).step C.out fun b r e=>(G.out.blk b e).1.1).step y fun b r e=>e▸M.out⟩;have R:=H.out.mono (R':=fun b=>(Z b∨W.heap.size≤b)∧b≠g) fun b r a=>by
  rcases a with a|a
  ·exact ⟨.inl a.1.1,a.1.2⟩
  ·simp at a
   exact ⟨.inr (by omega),by omega⟩
 have S:=R.chg y fun b r a e=>a.2 e;rw[List.length_append,←Q.out]
 simpa [zhN,EvR.cells] using S
theorem zfO {g N:Nat} (hN:N≤1000000000):Tells 34 #[] #[.pointer (some ⟨g,0,none⟩)] N (zln g) where
 code:=enters_of Tryz.func34 (by kernel_rfl) rfl
 mono:=fun {Z Z' s W} hJ hZ=>by
  obtain ⟨v,h1,h2,h3⟩:=hJ;exact ⟨v,h1,h2.mono fun b hb hr=>⟨hZ b hb hr.1,hr.2⟩,hZ g h1.lt h3⟩
 keep:=fun {Z s W W' X} hJ hX hn=>by
  obtain ⟨v,h1,h2,h3⟩:=hJ;exact ⟨v,h1.chg hX (hn g h1.lt h3),h2.chg hX fun b hb hr=>hn b hb hr.1,h3⟩
 call:=fun {Z s W} e hJ hs=>by
  rw[show ((#[]:Array Value).push e.agg++ #[.pointer (some ⟨g,0,none⟩)])=#[e.agg,.pointer (some ⟨g,0,none⟩)] by simp];exact zoX hJ e (by omega)
set_option maxRecDepth 100000
theorem zre:((Tryz.prog).info? 66).map (·.bytes)=some 56:=by kernel_rfl
theorem zsS (W:World) {m:Nat} (a:m≤1024):(Instr.makeChan 42 ↑m).run Tryz.prog W=.ok (.chan (some W.heap.size)) (W.alloc (.chan m #[] false 0 0 false)):=by
 have h:=zre
 cases hi:(Tryz.prog).info? 66 with
 |none=>rw[hi] at h;cases h
 |some i=>
  rw[hi] at h;injection h with h
  have h:i.bytes=56:=h;exact Go.Conc.run_makeChan zh0 hi .i64 m (by omega) (by rw[h];omega)
section
variable {W:World} {f h:Nat} {R:Nat→Prop} {v:Value} {bs:List Nat} {came:Int}
theorem zk5 (d:FeedAt W R f h v bs came) {x:Int} (b:x<1∨1024<x∨64≤bs.length):Calls Tryz.prog 7 #[.pointer (some ⟨f,0,none⟩),x] W fun e W'=>e=.returned (.tuple #[.pointer none,(2:Int)])∧W'=W:=by
 obtain ⟨A,c,m⟩:=d.row.form;subst m;have j:=d.blk.cell 0;have k:=d.blk.cell 1;simp only[List.getElem?_toArray,List.getElem?_cons_zero,List.getElem?_cons_succ] at j k;have g:=hid (zha j);clear d
 generalize bs.length=n at k b
 by_cases h1:x<1
 ·clear b;go_enter Tryz.func7,Tryz.ntmps7;go_wp2_with fail
  refine g.out.mono ?_;rintro e i ⟨rfl,rfl⟩;go_wp2_with fail
  go_ret2
  exact ⟨rfl,rfl⟩
 ·have a:=b.resolve_left h1;by_cases h2:1024<x
  ·clear b a;have o:decide (x>1024)=true:=decide_eq_true h2;go_enter Tryz.func7,Tryz.ntmps7;go_wp2_with fail
   refine g.out.mono ?_;rintro e i ⟨rfl,rfl⟩;go_wp2_with fail
   go_ret2
   exact ⟨rfl,rfl⟩
  ·have l:=a.resolve_left h2;have p:(64:Int)≤(n:Int):=by omega
   clear b a l;go_enter Tryz.func7,Tryz.ntmps7;go_wp2_with fail
   refine g.out.mono ?_;rintro e i ⟨rfl,rfl⟩;go_wp2_with fail
   go_ret2
   exact ⟨rfl,rfl⟩
theorem zmn (q:FeedAt W R f h v bs came) {m:Nat} (K:1≤m∧m≤1024) (L:bs.length<64) (S:∀b,b<W.heap.size→R b→b≠f):Calls Tryz.prog 7 #[.pointer (some ⟨f,0,none⟩),m] W fun e W'=>∃b c v',e=.returned (.tuple #[.pointer (some ⟨b,0,none⟩),()])∧
  FeedAt W' (fun x=>(R x∧x<W.heap.size)∨(W.heap.size≤x∧x≠b∧x≠c)) f h v' (bs++[b]) came∧WatAt W' f b c ⟨m,[],0⟩∧W.heap.size≤b∧W.heap.size≤c∧b≠c∧Chg (fun x=>x=f∨v.ownBlock=some x) W W':=by
 obtain ⟨A,c,hv⟩:=q.row.form;subst hv;have P:=q.blk.cell 0;have I:=q.blk.cell 1;have cf:=q.blk.frozen;simp only[List.getElem?_toArray,List.getElem?_cons_zero,List.getElem?_cons_succ] at P I;have HT:=hid (zha P);have C:=hid q;have p:=hid q.blk.lt;have O:=hid S;clear q S;obtain ⟨n,y⟩:=nm (bs.length);rw[←y] at I L;have d:=hid y;clear y;have d1:decide ((m:Int)<1)=false:=decide_eq_false (by omega);have d2:decide ((m:Int)>1024)=false:=decide_eq_false (by omega);have d3:decide ((n:Int) ≥ 64)=false:=decide_eq_false (by omega);have hmk:=zsS W K.2;obtain ⟨s0,B⟩:=nm (W.heap.size);have X:=hid B;have HM:=hid K;have N:=hid L;clear K L;clear B;have r:Below W W (W.alloc (.chan m #[] false 0 0 false)):=qA _;have g:Below W W ((W.alloc (.chan m #[] false 0 0 false)).alloc (.cells #[.pointer (some ⟨f,0,none⟩),.chan (some W.heap.size),()] 44)):=r.alloc r.size _;have j:Below W W (((W.alloc (.chan m #[] false 0 0 false)).alloc (.cells #[.pointer (some ⟨f,0,none⟩),.chan (some W.heap.size),()] 44)).alloc (.cells #[.pointer (some ⟨W.heap.size+1,0,none⟩)] 28)):=g.alloc g.size _;have u1:(((W.alloc (.chan m #[] false 0 0 false)).alloc (.cells #[.pointer (some ⟨f,0,none⟩),.chan (some W.heap.size),()] 44))).cell? ⟨f,1,none⟩=some (.slice A n c):=qc g I p.out;have D:=hid j;have U:=hid g;have E:=hid (C.out.blk.grow j);have HW:=hid (show Ac.Blk (((W.alloc (.chan m #[] false 0 0 false)).alloc (.cells #[.pointer (some ⟨f,0,none⟩),.chan (some W.heap.size),()] 44)).alloc (.cells #[.pointer (some ⟨W.heap.size+1,0,none⟩)] 28)) (W.heap.size+1) 44 #[.pointer (some ⟨f,0,none⟩),.chan (some W.heap.size),()] from (Ac.Blk.new' _ _ (by simp)).alloc _);have V:=hid (show ((((W.alloc (.chan m #[] false 0 0 false)).alloc (.cells #[.pointer (some ⟨f,0,none⟩),.chan (some W.heap.size),()] 44)).alloc (.cells #[.pointer (some ⟨W.heap.size+1,0,none⟩)] 28))).heap[W.heap.size]? =some (.chan m #[] false 0 0 false) from (Below.heap_alloc _ _ _ (by simp;omega)).trans ((Below.heap_alloc _ _ _ (by simp)).trans (World.alloc_heap_new W _)));have G:=hid ((C.out.row.mono (R':=fun b=>R b∧b<W.heap.size) fun b J a=>⟨a,J⟩).grow j);clear r g j;go_enter Tryz.func7,Tryz.ntmps7;go_wp2_with fail
 refine HT.out.mono ?_;rintro e W2 ⟨rfl,T⟩;rw[T];clear T
 go_wp2_with (at_builtin;go_must (refine zby _ (.tmp 35) (.tmp 37) rfl zqQ rfl (.slice A n c) n (zsh bs) rfl (R:=fun b=>R b∧b<W.heap.size) (by rw[d.out];exact G.out) (.slice (some ⟨W.heap.size+1+1,0,none⟩) 1 1) 1 [.pointer (some ⟨W.heap.size+1,0,none⟩)] rfl (Sl.lit1 (t:=28) (Ac.Blk.new' _ _ (by simp)) rfl) (by simp[Value.oneCell']) (by have:=N.out;omega) (by have:=N.out;unfold maxLen;omega) ?_);intro M Q Z z s;have k:=E.out.chg s (fun e=>O.out f p.out (C.out.row.blk f (by rw[←d.out];exact e)) rfl);have z1:=k.cell 1;have zf:=k.frozen;have F:=hid k;have H:=hid z;have i:=hid s;simp only[List.getElem?_toArray,List.getElem?_cons_zero,List.getElem?_cons_succ] at z1;clear z s k)
 go_ret2
 have hsz:W.heap.size+1+1+1≤Z.heap.size:=lT (by simp) i.out.size;have o:∀b,(Value.slice A n c).ownBlock=some b→b<W.heap.size:=fun b e=>C.out.row.lt (by rw[←d.out];exact e);have l:=Chg.set Z ⟨f,1,none⟩ (.slice M (n+1) Q);have hfl:=p.out;refine ⟨W.heap.size+1,W.heap.size,.slice M (n+1) Q,rfl,⟨F.out.set_ 1 _,?_⟩,⟨?_,⟨0,0,?_⟩⟩,by omega,lR,by omega,?_⟩
 ·rw[List.length_append,←d.out];have h1:=(H.out.mono (R':=fun x=>(R x∧x<W.heap.size)∨(W.heap.size≤x∧x≠W.heap.size+1∧x≠W.heap.size)) fun b J a=>?_)
  ·have h2:=h1.chg l fun b J a e=>?_
   ·simpa [zsh] using h2
   ·rcases a with a|a
    ·exact O.out b a.2 a.1 e
    ·simp at e;omega
  ·rcases a with a|a
   ·exact .inl a
   ·simp at a;omega
 ·exact ((HW.out.chg i.out fun e=>by have:=o _ e;omega).chg l fun e=>by simp at e;omega)
 ·exact (l.block _ (by omega) (fun e=>by simp at e;omega)).trans ((i.out.block _ (by simp;omega) (fun e=>by have:=o _ e;omega)).trans V.out)
 ·refine (Chg.of _ D.out).step ((i.out.mono (Y:=fun x=>x=f∨(Value.slice A n c).ownBlock=some x) fun b _ e=>Or.inr e).step (Y:=fun x=>x=f∨(Value.slice A n c).ownBlock=some x) (l.mono fun b _ e=>Or.inl e) fun b _ e=>e) fun b _ e=>?_;rw[←d.out];exact e
end
end Fd
end Go.Proofs.YtckdpejdnejhfaaGreat

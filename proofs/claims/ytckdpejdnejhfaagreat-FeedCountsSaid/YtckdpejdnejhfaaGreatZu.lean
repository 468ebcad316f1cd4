/- Joined by program. -/
import Derived.Test.YtckdpejdnejhfaaGreatZp
set_option linter.all false
set_option maxRecDepth 100000
set_option maxHeartbeats 32000000
namespace Go.Proofs.YtckdpejdnejhfaaGreat
open Lib (hid)
namespace Ho
open Go.RowKit Vb Ac
def runs (H:House) (l:LotS):Prop:=¬(l.closed=true∨H.now<l.put.opens∨l.closes≤H.now)
theorem zo7 {W:World} {T:Nat→Part} {h pn pc K:Nat} {va vl vb vs:Value} {H:House} (L:HouseAt W T h pn pc va vl vb vs K H) (o:OrderR) {A:Option Addr} {c:Nat} (M:(o.bidder<0∨(H.accs.length:Int)≤o.bidder)∨(o.lot<0∨(H.lots.length:Int)≤o.lot)):
  Calls Tryz.prog 97 #[.pointer (some ⟨h,0,none⟩),o.agg (.slice A o.offers.length c)] W fun e W'=>e=.returned (.tuple #[(),(4:Int)])∧Below W W W':=by
 obtain ⟨J,a⟩:=nm (W.alloc (.cells (o.cells (.slice A o.offers.length c)).toArray 61));have l:Below W W J:=by rw[a];exact qA _
 have I:Blk J W 61 (o.cells (.slice A o.offers.length c)).toArray:=by rw[a];exact Blk.new _ _ _
 have b:=zlP (L.grow l) o (.slice A o.offers.length c) M;have s:=hid l;obtain ⟨m,n,i,d,z,⟨x,p,f,r,D,g,y,k,t,j,C⟩,B,q⟩:=o;simp only[OrderR.agg,OrderR.cells,LotR.cells,List.cons_append,List.nil_append] at a I b ⊢;have G:=hid I;have F:=hid b;clear L l I M b;go_enter Tryz.func97,Tryz.ntmps97
 go_wp2_with (refine wpList_load_row rfl 61 (.tmp 3) rfl W.heap.size rfl 61 #[m,.string n,i,d,z,x,p,f,r,D,g,y,k,t,j,C,.slice A B.length c,q] (0,0) _ (by rw[←a];exact G.out) Tryz.underlying61 rfl (by kernel_rfl) ?_)
 rw[←a];clear a;refine F.out.mono ?_;rintro e N ⟨rfl,v⟩;have E:=hid (s.out.trans (v.mono s.out.size));clear v;go_wp2_with fail
 go_ret2
 exact ⟨rfl,E.out⟩
theorem zo8 {W:World} {T:Nat→Part} {h pn pc K:Nat} {va vl vb vs:Value} {H:House} {bl X Z:Nat→Nat} {i j:Nat} {a:Acc} {l:LotS} (C:AtIt W T h pn pc va vl vb vs K H bl X Z i j a l) (o:OrderR) (E:o.bidder=i) (F:o.lot=j) {A:Option Addr} {c:Nat} (U:¬runs H l):
  Calls Tryz.prog 97 #[.pointer (some ⟨h,0,none⟩),o.agg (.slice A o.offers.length c)] W fun e W'=>e=.returned (.tuple #[(),(6:Int)])∧Below W W W':=by
 obtain ⟨S,d⟩:=nm (W.alloc (.cells (o.cells (.slice A o.offers.length c)).toArray 61));have r:Below W W S:=by rw[d];exact qA _
 have R:Blk S W 61 (o.cells (.slice A o.offers.length c)).toArray:=by rw[d];exact Blk.new _ _ _
 have b:=C.grow r;have f:=zhQ b.house o (.slice A o.offers.length c) b.arow b.lrow E F (gS.1 b.acc).1 b.lot (b.lots j l b.lot);have z:=hid r;obtain ⟨s,t,n,g,J,⟨G,v,k,y,N,m,I,q,B,p,M⟩,L,x⟩:=o;simp only[OrderR.agg,OrderR.cells,LotR.cells,List.cons_append,List.nil_append] at d R f ⊢;have Q:=hid R;have P:=hid f;have V:=hid (Classical.not_not.1 U);clear C r R U b f E F;go_enter Tryz.func97,Tryz.ntmps97
 go_wp2_with (refine wpList_load_row rfl 61 (.tmp 3) rfl W.heap.size rfl 61 #[s,.string t,n,g,J,G,v,k,y,N,m,I,q,B,p,M,.slice A L.length c,x] (0,0) _ (by rw[←d];exact Q.out) Tryz.underlying61 rfl (by kernel_rfl) ?_)
 rw[←d];clear d;refine P.out.mono ?_;rintro e W2 ⟨D,⟨_,rfl⟩|⟨Y,_⟩⟩
 ·have O:=hid (z.out.trans (D.mono z.out.size));clear D;go_wp2_with fail
  go_ret2
  exact ⟨rfl,O.out⟩
 ·exact absurd V.out Y
def zfV (k:Int):FuncId:=if k=1 then 214 else if k=2 then 232 else if k=3 then 244 else if k=4 then 256 else 271
theorem zqS {ev:Operand→Value} {o:Oper} (e:o.op=.call {callee:=.invoke (.tmp 22) "gavel/house.bid",args:=#[.tmp 23,.tmp 24,.tmp 25,.tmp 26],argTypes:=#[22,138,136,61]}) {k:Int} (t:1≤k∧k≤5) (f:ev (.tmp 22)=zau k) {a b c d:Value} (n:ev (.tmp 23)=a) (p:ev (.tmp 24)=b) (q:ev (.tmp 25)=c) (r:ev (.tmp 26)=d) (w:World):
  (execOp ev o).run Tryz.prog w=.ok (.enter (zfV k) #[.agg #[],a,b,c,d]) w:=by
 have s:k=1∨k=2∨k=3∨k=4∨k=5:=by omega
 have g:(execOp ev o).run Tryz.prog w=(callMethod (zau k) "gavel/house.bid" #[a,b,c,d]).run Tryz.prog w:=by
  simp[execOp,e,resolve,invoke,f,n,p,q,r,go_sem]
 rw[g];clear g e f;have h:(callMethod (zau 1) "gavel/house.bid" #[a,b,c,d]).run Tryz.prog w=.ok (.enter (zfV 1) #[.agg #[],a,b,c,d]) w:=by kernel_rfl
 have i:(callMethod (zau 2) "gavel/house.bid" #[a,b,c,d]).run Tryz.prog w=.ok (.enter (zfV 2) #[.agg #[],a,b,c,d]) w:=by kernel_rfl
 have j:(callMethod (zau 3) "gavel/house.bid" #[a,b,c,d]).run Tryz.prog w=.ok (.enter (zfV 3) #[.agg #[],a,b,c,d]) w:=by kernel_rfl
 have l:(callMethod (zau 4) "gavel/house.bid" #[a,b,c,d]).run Tryz.prog w=.ok (.enter (zfV 4) #[.agg #[],a,b,c,d]) w:=by kernel_rfl
 have m:(callMethod (zau 5) "gavel/house.bid" #[a,b,c,d]).run Tryz.prog w=.ok (.enter (zfV 5) #[.agg #[],a,b,c,d]) w:=by kernel_rfl
 rcases s with rfl|rfl|rfl|rfl|rfl
 ·exact h
 ·exact i
 ·exact j
 ·exact l
 ·exact m
theorem zrU {ops:Array Oper} {K:Act→World→Prop} {i:Prop} {a:Act} {Q:Exit→Act→World→Prop} {w:World} {o:Oper} (b:o.guard=none) (s:o.op=.call {callee:=.invoke (.tmp 22) "gavel/house.bid",args:=#[.tmp 23,.tmp 24,.tmp 25,.tmp 26],argTypes:=#[22,138,136,61]}) {k:Int} (q:1≤k∧k≤5) (t:a.eval (.tmp 22)=zau k) {c d f g:Value} (j:a.eval (.tmp 23)=c) (l:a.eval (.tmp 24)=d) (m:a.eval (.tmp 25)=f) (n:a.eval (.tmp 26)=g)
  (h:Calls Tryz.prog (zfV k) #[.agg #[],c,d,f,g] w fun e w'=>∃r,e=.returned r∧K (a.put o.dst r) w'):
  if Region.wanted o (yielded ops a.tmps)=true then Oper.wp Tryz.prog o a w K Q else i:=by
 have v:Region.wanted o (yielded ops a.tmps)=true:=by simp[Region.wanted,b]
 rw[if_pos v];unfold Oper.wp;rw[zqS s q t j l m n w,Oper.upon_enter];refine h.mono ?_;rintro e w' ⟨r,rfl,p⟩;exact p
theorem zlQ {W:World} {T:Nat→Part} {h pn pc K:Nat} {va vl vb vs:Value} {H:House} {bl ba ma:Nat→Nat} {i j:Nat} {a:Acc} {l:LotS} (Y:AtIt W T h pn pc va vl vb vs K H bl ba ma i j a l) (o:OrderR) (Z:o.bidder=i) (aa:o.lot=j) {A:Option Addr} {c:Nat} (hr:runs H l) (hk:1≤l.put.kind∧l.put.kind≤5) {Q:World→Int→Int→World→Prop}
  (hm:∀W1,Below W W W1→Calls Tryz.prog (zfV l.put.kind) #[.agg #[],.pointer (some ⟨h,0,none⟩),.pointer (some ⟨bl j,0,none⟩),.pointer (some ⟨ba i,0,none⟩),o.agg (.slice A o.offers.length c)] W1 fun e W'=>∃v er,e=.returned (.tuple #[(v:Int),(er:Int)])∧Q W1 v er W'):
  Calls Tryz.prog 97 #[.pointer (some ⟨h,0,none⟩),o.agg (.slice A o.offers.length c)] W fun e W'=>∃v er,e=.returned (.tuple #[(v:Int),(er:Int)])∧∃W1,Below W W W1∧Q W1 v er W':=by
 obtain ⟨W1,n⟩:=nm (W.alloc (.cells (o.cells (.slice A o.offers.length c)).toArray 61));have O:Below W W W1:=by rw[n];exact qA _
 have hx:Blk W1 W 61 (o.cells (.slice A o.offers.length c)).toArray:=by rw[n];exact Blk.new _ _ _
 have b:=Y.grow O;obtain ⟨v,htb,t,_⟩:=b.lots j l b.lot;have R:W1.cell? ⟨bl j,11,none⟩=some (zau l.put.kind):=t.cell 11;have lb:=t.lt;obtain ⟨kt,P⟩:=zjt hk;rw[P] at R;have ae:=hid P.symm;have ad:=hid hk;clear P;have p:=zhQ b.house o (.slice A o.offers.length c) b.arow b.lrow Z aa (gS.1 b.acc).1 b.lot (b.lots j l b.lot);have U:=hid O;obtain ⟨x,y,m,d,I,⟨kind,z,f,C,M,g,G,r,E,q,L⟩,J,B⟩:=o;simp only[OrderR.agg,OrderR.cells,LotR.cells,List.cons_append,List.nil_append] at n hx p hm ⊢;have X:=hid hx;have ac:=hid p;have HR:=hid hr;have HM:=hid hm;clear Y O hx hr b p Z aa htb t hm;go_enter Tryz.func97,Tryz.ntmps97
 go_wp2_with (refine wpList_load_row rfl 61 (.tmp 3) rfl W.heap.size rfl 61 #[x,.string y,m,d,I,kind,z,f,C,M,g,G,r,E,q,L,.slice A J.length c,B] (0,0) _ (by rw[←n];exact X.out) Tryz.underlying61 rfl (by kernel_rfl) ?_)
 rw[←n];clear n;refine ac.out.mono ?_;rintro e S ⟨s,⟨h1,_⟩|⟨_,rfl⟩⟩
 ·exact absurd h1 HR.out
 ·have V:=hid (U.out.trans (s.mono U.out.size));have af:=hid (X.out.grow s);have F:=qc s R lb;have ab:bl j<S.heap.size:=lL lb s.size;clear s R lb;go_wp2_with fail
  refine zac (Below S S) [8,9,10,11,12] (by kernel_rfl) (bR.drew) (fun D=>?_);refine tpD [1,2,3,8,9,10,11,12] 0 D ?_;refine tpD [2,3,8,9,10,11,12] 1 D ?_;refine tpD [3,8,9,10,11,12] 2 D ?_;have qq:=hid fun (w':World) (N:(Below S S) w')=>qc N F ab;refine tlD [8,9,10,11,12] 3 D qq ?_;refine tpD [8,9,10,11,12] 4 D ?_;refine tpD [8,9,10,11,12] 5 D ?_;refine tpD [8,9,10,11,12] 6 D ?_;refine txD [8,9,10,11,12] 7 (v:=?_) D ?_ ?_
  rotate_left
  ·intro w' N;refine Eq.trans (zbq 61 (.tmp 3) (by rfl) W.heap.size (by rfl) 61 #[x,.string y,m,d,I,kind,z,f,C,M,g,G,r,E,q,L,.slice A J.length c,B] (0,0) _ (af.out.grow N) Tryz.underlying61 rfl (by kernel_rfl)) ?_;with_reducible rfl
  refine stf 8 fun K hK=>?_;refine zrU (k:=l.put.kind) rfl rfl ad.out ae.out rfl rfl rfl rfl ?_;refine (HM.out S.drew V.out.drew).mono ?_;rintro e W3 ⟨v,er,rfl,hq⟩;refine ⟨_,rfl,?_⟩;have HQ:=hid hq;clear hq;refine hK.out _ _ ?_;clear hK K
  try simp only[Act.put,pb,pz,ps]
  refine tpW 9 ?_;refine tpW 10 ?_;refine tpW 11 ?_;refine tpW 12 ?_;refine zaa (by kernel_rfl) ?_ _;clear D F ab;go_wp2_with fail
  go_ret2
  exact ⟨v,er,rfl,_,V.out.drew,HQ.out⟩
end Ho
namespace Ac
open Go.RowKit Vb
structure KeepX (X:Nat→Prop) (lo hi:Nat) (W W':World):Prop where
 r:KeepR lo hi W W'
 old:∀b,X b→W'.heap[b]? =W.heap[b]?
theorem KeepX.refl (X:Nat→Prop) (lo hi:Nat) (W:World):KeepX X lo hi W W:=⟨KeepR.refl _ _ _,fun _ _=>rfl⟩
theorem KeepX.trans {X:Nat→Prop} {lo hi:Nat} {A B C:World} (h:KeepX X lo hi A B) (k:KeepX X lo hi B C):KeepX X lo hi A C:=⟨h.r.trans k.r,fun b hb=>(k.old b hb).trans (h.old b hb)⟩
theorem KeepX.set {X:Nat→Prop} {lo hi:Nat} (W:World) {p:Addr} (hp:p.block<lo∨hi≤p.block) (hx:¬X p.block) (u:Value):KeepX X lo hi W (W.setCell p u):=
 ⟨KeepR.set W hp u,fun b hb=>Below.heap_setCell W p u b (fun e=>hx (e▸hb))⟩
def zky {α:Type} (F:Fence) (n:Nat) (P:Program) (g:Nat) (lb:Array Value) (encs:α→Array Value) (X:Nat→Prop) (S Sp:List α→Prop) (N:Nat) (w:World):Prop:=
 ∀(l:Nat) (J Jx:Nat→List α→World→Prop) (W:World),Below w w W→(∀hi,AbidesFrom W.heap.size (J hi))→(∀hi,AbidesFrom W.heap.size (Jx hi))→
  (∀hi pre x W1,hi≤W1.heap.size→J hi pre W1→Sp (pre++[x])→pre.length<N→YieldAt F (n-1) P l (encs x) W1 fun e W'=>
   (e=.returned (.bool true)∧J hi (pre++[x]) W'∧KeepX X W.heap.size hi W1 W')∨(e=.returned (.bool false)∧Jx hi (pre++[x]) W'))→
  (∀W0,Below W W W0→J W0.heap.size [] W0)→
  CallsIn F n P g (#[.func (.yield l) #[] #[]]++lb) W fun e W'=>(∃v,e=.returned v)∧∃hi,W.heap.size≤hi∧((∃xs,S xs∧J hi xs W')∨(∃pre,Sp pre∧Jx hi pre W'))
variable {F:Fence} {n:Nat} {P:Program}
variable {F:Fence} {n:Nat} {P:Program}
end Ac
namespace Ho
open Go.RowKit Go.Shelf Vb Ac
attribute [local go_sem] Oper.semAt_some
theorem RowAt.same {W W':World} {R:Nat→Prop} {e:TypeId} {sz n:Nat} {v:Value} {xs:List Value} (h:RowAt W R e sz v n xs) (a:∀b,v.ownBlock=some b→W'.heap[b]? =W.heap[b]?):RowAt W' R e sz v n xs:=by
 refine ⟨⟨h.own.1,?_⟩,h.blk⟩
 rcases h.own.2 with h2|⟨g,cap,cur,hv,hb,hg,r⟩
 ·exact .inl h2
 ·exact .inr ⟨g,cap,cur,hv,hb,(a g (by rw[hv];rfl)).trans hg,r⟩
theorem zle (ss:List SaleR):∀u∈ss.flatMap SaleR.cells,u.oneCell'=true:=by
 intro u b;obtain ⟨s,_,a⟩:=List.mem_flatMap.1 b;unfold SaleR.cells at a
 simp at a
 rcases a with rfl|rfl|rfl|rfl|rfl|rfl|rfl<;>rfl
theorem zh4 (ss:List SaleR) (v:Value) (R:Nat→Prop) (w:World) (i:Sl w R v ss.length 7 (ss.flatMap SaleR.cells)) (o:ss.length≤1000000):
  Calls Tryz.prog 67 #[v] w fun e w'=>∃A' cap',e=.returned (.slice A' ss.length cap')∧RowAt w' (fun b=>w.heap.size≤b) 151 7 (.slice A' ss.length cap') ss.length (ss.flatMap SaleR.cells)∧Below w w w':=by
 have s:=zle ss;obtain ⟨q,k⟩:=nm (ss.flatMap SaleR.cells);obtain ⟨n,l⟩:=nm (ss.length);rw[←k] at i s ⊢;rw[←l] at i o ⊢;obtain ⟨g,A,m,rfl,p,t,f⟩:=id i;have r:=hid i;clear i f k l;have E:=fun (W:World) (a:Option Addr)=>Lib.run_eql_slice_nil (P:=Tryz.prog) W 79 151 a n m 0 0 Tryz.underlying79
 cases A with
 |none=>
  have l:n=0:=by
   obtain ⟨_,A,c,h,_,_,y⟩:=r.out;injection h with hA _ _
   subst hA
   rcases Nat.eq_zero_or_pos n with h0|h0
   ·exact h0
   ·obtain ⟨b,C,h,_⟩:=y h0
    cases h
  subst l;have B:q=[]:=List.eq_nil_of_length_eq_zero (by simpa using g);subst B;go_enter Tryz.func67,Tryz.ntmps67
  go_wp2
  go_ret;exact ⟨none,0,rfl,RowAt.nil,bR⟩
 |some ad=>
  clear g;go_enter Tryz.func67,Tryz.ntmps67
  go_wp2_with (at_builtin;refine zbj _ rfl (.tmp 5) (.tmp 6) zfb rfl w.heap.size (.slice (some ⟨w,0,none⟩) 0 0) 0 [] rfl (World.ownsRow_lit w #[] 0 lR (zL) rfl) R _ n q rfl (r.out.alloc _) s (by omega) (by unfold maxLen;omega) (by simp) ?_;intro A' cap' D j z x)
  go_ret;have d:D.ownsRow w.heap.size 151 7 (.slice A' n cap') n q:=by simpa using j
  refine ⟨A',cap',by simp,⟨zbH d (zL),fun b o=>(d.lt b o).1⟩,(qA _).grown z (by simp) (by simp[Value.ownBlock])⟩
theorem zgv {W:World} {T:Nat→Part} {h K:Nat} {H:House} (f:zaf W T h K H) (n:H.sales.length≤1000000):
  Calls Tryz.prog 68 #[.pointer (some ⟨h,0,none⟩)] W fun e W'=>∃A c,e=.returned (.slice A H.sales.length c)∧RowAt W' (fun b=>W.heap.size≤b) 151 7 (.slice A H.sales.length c) H.sales.length (H.sales.flatMap SaleR.cells)∧Below W W W':=by
 obtain ⟨v,t,x,z,y,p,a⟩:=id f;have s:=a.cells.2.2.2.2.2.1;have d:=hid (zh4 H.sales p _ W a.sales.sl n);have j:=hid f;obtain ⟨A,c,o⟩:=a.sales.form;subst o;clear f a;go_enter Tryz.func68,Tryz.ntmps68;go_wp2_with fail
 refine (zcU j.out).mono ?_;rintro e q ⟨rfl,rfl⟩;go_wp2_with fail
 refine d.out.mono ?_;rintro e r ⟨i,l,rfl,g,m⟩;have k:=hid g;clear g;go_wp2_with fail
 go_ret;exact ⟨i,l,rfl,k.out,m⟩
def zbf (n:Nat) (ss:List SaleR):List (Int×SaleR):=(ss.mapIdx fun i s=>((i:Int),s)).drop n
theorem zjP (n:Nat) (ss:List SaleR):(zbf n ss).length=ss.length-n:=by simp[zbf]
theorem zpV {n j:Nat} {ss:List SaleR} {s:SaleR} (h:ss[n+j]? =some s):(zbf n ss)[j]? =some (((n+j:Nat):Int),s):=by
 unfold zbf;rw[List.getElem?_drop,List.getElem?_mapIdx,h]
 rfl
def zjS (g gl:Nat):Value:=.func (.func 102) #[] #[.pointer (some ⟨g,0,none⟩),.pointer (some ⟨gl,0,none⟩)]
def zf0 (g gl:Nat) (v:Value):Nat→Prop:=fun b=>b=g∨b=gl∨v.ownBlock=some b
structure SFAt (W:World) (lo g gl n:Nat) (v:Value) (ss:List SaleR):Prop where
 num:Ac.Blk W g 3 #[.int .i64 n]
 box:Ac.Blk W gl 79 #[v]
 row:RowAt W (fun b=>lo≤b) 151 7 v ss.length (ss.flatMap SaleR.cells)
section
variable {W W':World} {lo g gl n:Nat} {v:Value} {ss:List SaleR}
theorem SFAt.same (h:SFAt W lo g gl n v ss) (hs:∀b,zf0 g gl v b→W'.heap[b]? =W.heap[b]?):SFAt W' lo g gl n v ss:=
 ⟨(hs g (.inl rfl)).trans h.num,(hs gl (.inr (.inl rfl))).trans h.box,h.row.same fun b hb=>hs b (.inr (.inr hb))⟩
theorem SFAt.x_lt (h:SFAt W lo g gl n v ss) {b:Nat} (a:zf0 g gl v b):b<W.heap.size:=by
 rcases a with rfl|rfl|a
 ·exact h.num.lt
 ·exact h.box.lt
 ·exact h.row.lt a
theorem SFAt.grow (h:SFAt W lo g gl n v ss) (hb:Below W W W'):SFAt W' lo g gl n v ss:=h.same fun b hx=>hb.block b (h.x_lt hx)
end
theorem zlf {W:World} {T:Nat→Part} {h K:Nat} {H:House} (m:zaf W T h K H) (s:H.sales.length≤1000000) {x:Int} (C:x≤9223372036854775807):
  Calls Tryz.prog 71 #[.pointer (some ⟨h,0,none⟩),x] W fun e W'=>∃g gl v,e=.returned (zjS g gl)∧SFAt W' W.heap.size g gl (max x 0).toNat v H.sales∧W.heap.size≤g∧W.heap.size≤gl∧Below W W W':=by
 obtain ⟨n,t⟩:∃n:Nat,max x 0=n:=⟨(max x 0).toNat,by omega⟩;rw[t,Int.toNat_natCast];have d:Below W W (W.alloc (.cells #[n] 3)):=qA _;obtain ⟨r,a⟩:=nm (W.alloc (.cells #[n] 3));rw[←a] at d;have q:=hid (zgv (m.grow d) s);have f:=hid d;have k:=hid (show Ac.Blk r W.heap.size 3 #[n] by rw[a];exact Blk.new _ _ _);clear m d;go_enter Tryz.func71,Tryz.ntmps71;go_wp2_with fail
 rw[←a];clear a;refine q.out.mono ?_;rintro e z ⟨A,c,rfl,o,j⟩;have p:=hid o;have l:=hid (k.out.grow j);have i:=hid (f.out.trans (j.mono f.out.size));have y:=f.out.size;clear o j;go_wp2_with fail
 go_ret;refine ⟨_,_,.slice A H.sales.length c,rfl,⟨l.out.alloc _,Blk.new _ _ _,(p.out.grow (qA _)).mono fun b _ B=>by omega⟩,lR,i.out.size,i.out.alloc i.out.size _⟩
abbrev SaleR.agg (s:SaleR):Value:=.agg #[.int .i64 s.number,.int .i64 s.lot,.int .i64 s.bidder,.int .i64 s.coins,.int .u32 s.goods,.int .i64 s.count,.int .i64 s.tick]
theorem ztR (U:Nat) (hn:1≤U) (l lo g gl n:Nat) (v:Value) (ss:List SaleR) (hl:ss.length≤1000000) (J X:Nat→List (Int×SaleR)→World→Prop) (W:World) (K:SFAt W lo g gl n v ss)
  (hY:∀hi pre x W1,hi≤W1.heap.size→J hi pre W1→pre++[x]<+:zbf n ss→pre.length<(zbf n ss).length→YieldAt Fence.wide (U-1) Tryz.prog l #[x.1,x.2.agg] W1 fun e W'=>
   (e=.returned ↑true∧J hi (pre++[x]) W'∧KeepX (zf0 g gl v) W.heap.size hi W1 W')∨(e=.returned ↑false∧X hi (pre++[x]) W'))
  (Z:∀W0,Below W W W0→J W0.heap.size [] W0):
  CallsIn Fence.wide U Tryz.prog 102 #[.func (.yield l) #[] #[],.pointer (some ⟨g,0,none⟩),.pointer (some ⟨gl,0,none⟩)] W fun e W'=>(∃v,e=.returned v)∧
   ∃hi,W.heap.size≤hi∧((∃xs,xs=zbf n ss∧J hi xs W')∨(∃pre,pre<+:zbf n ss∧X hi pre W')):=by
 refine callsIn_of_wp Tryz.func102 rfl trivial ?_ rfl;have g0:W.cell? ⟨g,0,none⟩=some ↑n:=K.num.cell 0;obtain ⟨A,Y,I⟩:=K.row.form;obtain ⟨m,hm⟩:=nm (ss.length);have HV:=hid K;have HY:=hid hY;have H0:=hid Z;have t:=hid hm;have B:=hid I;have y:=hid (zjP n ss);clear hY Z K hm I;simp only[Tryz.ntmps102,List.size_toArray,List.length_cons,List.length_nil,Nat.reduceAdd,Nat.reduceSub,Array.replicate_succ,Array.replicate_zero,List.push_toArray,List.append_toArray,List.nil_append,List.cons_append]
 gi_wp2
 clear g0
 gi_loopw [4] (fun i wr=>∃k j:Nat,k=n+j∧j≤(zbf n ss).length∧i=.int .i64 k∧J W.heap.size ((zbf n ss).take j) wr∧KeepX (zf0 g gl v) W.heap.size W.heap.size W wr) (fun i _=>n+m-(intOf i).toNat)
 case atStart=>exact ⟨n,0,rfl,zL,rfl,H0.out W bR,KeepX.refl _ _ _ _⟩
 case round=>
  obtain ⟨k,j,f,Q,rfl,C,h⟩:=hrel;have o:=HV.out.same (W':=wr) h.old;have V:=hid C;have N:=hid h;have T:=h.r.size;have l0:wr.cell? ⟨gl,0,none⟩=some (.slice A m Y):=by have:=o.box.cell 0;rw[B.out,←t.out] at this;exact this
  clear C h;have HK:=hid f;have HJL:=hid Q;by_cases hlt:k<m
  ·obtain ⟨s,S⟩:∃s,ss[n+j]? =some s:=⟨_,gE (by rw[←t.out];omega)⟩;have G:j<(zbf n ss).length:=by rw[y.out,←t.out];omega
   have hp:=zpV S;have p:=o.row;rw[B.out,←t.out] at p;obtain ⟨b,d,rfl,_,hbl,a⟩:=znm (A:=A) (n:=m) (c:=Y) p.sl S (by omega);have c0:wr.cell? ⟨b,d+k*7,none⟩=some ↑s.number:=by rw[f];exact a 0 _ rfl
   have c1:wr.cell? ⟨b,d+k*7+1,none⟩=some ↑s.lot:=by rw[f];exact a 1 _ rfl
   have c2:wr.cell? ⟨b,d+k*7+2,none⟩=some ↑s.bidder:=by rw[f];exact a 2 _ rfl
   have c3:wr.cell? ⟨b,d+k*7+3,none⟩=some ↑s.coins:=by rw[f];exact a 3 _ rfl
   have c4:wr.cell? ⟨b,d+k*7+4,none⟩=some (.int .u32 s.goods):=by rw[f];exact a 4 _ rfl
   have c5:wr.cell? ⟨b,d+k*7+5,none⟩=some ↑s.count:=by rw[f];exact a 5 _ rfl
   have c6:wr.cell? ⟨b,d+k*7+6,none⟩=some ↑s.tick:=by rw[f];exact a 6 _ rfl
   have q:(zbf n ss).take (j+1)=(zbf n ss).take j++[((k:Int),s)]:=by rw[List.take_add_one,hp,f];rfl
   have H:((zbf n ss).take j).length<(zbf n ss).length:=by rw[List.length_take];omega
   have z:=hid q;obtain ⟨fn,tmps,assign,body,hy,E⟩:=HY.out W.heap.size _ ((k:Int),s) wr T V.out (by rw[←q];exact List.take_prefix _ _) H;obtain ⟨sn,sl,sb,sc,sg,sct,st⟩:=s
   dsimp only[SaleR.agg] at hy c0 c1 c2 c3 c4 c5 c6
   have O:=hid E;have e0:(0:Int)≤(k:Int):=by omega
   have e1:(k:Int)<(m:Int):=by omega
   have hwr:IntKind.i64.wrap ((k:Int)+1)=(k:Int)+1:=iW _ (by have:=t.out;omega);have M:=hid (show j<(zbf n ss).length from G);clear S hp q H E p o a f Q G
   gi_wp2
   refine O.out.mono ?_;rintro e W3 (⟨rfl,P,R⟩|⟨rfl,D⟩)
   ·gi_wp2
    go_roundw
    case rel=>exact ⟨k+1,j+1,by have:=HK.out;omega,M.out,by go_num,by rw[z.out];exact P,N.out.trans R⟩
    case measure=>simp[intOf];omega
   ·gi_wp2
    refine bodyPost_ret (results_none rfl _ _ _) rfl ?_;exact ⟨⟨_,rfl⟩,W.heap.size,lR,.inr ⟨_,by rw[←z.out];exact List.take_prefix _ _,D⟩⟩
  ·have F:j=(zbf n ss).length:=by have:=y.out;have:=t.out;omega
   clear o f Q;have e1:¬(k:Int)<(m:Int):=by omega
   have L:=hid F;clear F
   gi_wp2
   go_end0
   have:=V.out;rw[L.out,List.take_of_length_le lR] at this;exact ⟨⟨_,rfl⟩,W.heap.size,lR,.inl this⟩
end Ho
namespace Ac
open Go.RowKit Vb
variable {F:Fence} {n:Nat} {P:Program}
theorem ziZ {α:Type} {g:Operand} {ps:Array Tmp} {assign body:Code} {Q:Exit→Act→World→Prop} {a:Act} {w:World}
  (hro:F.round=none) (h1:1≤n) {gf:Nat} {lb:Array Value} (hg:a.eval g=.func (.func gf) #[] lb) (hFg:F.fn gf) (eg:∀args w,(callFunc gf args).run P w=.ok (.enter gf args) w)
  {E:α→Array Value} {X:Nat→Prop} {S Sp:List α→Prop} {N:Nat} {w0:World} (hseq:zky F (n-1) P gf lb E X S Sp N w0) (hX:∀b,X b→b<w0.heap.size)
  (Y:Below w0 w0 w) (hps:∀x,(E x).size=ps.size)
  (I:Nat→List α→World→Prop) (Ix:Nat→Code→List α→World→Prop) (hI:∀f,OwnFrom w.heap.size (I f)) (J:∀f c,OwnFrom w.heap.size (Ix f c)) (h0:∀W0,Below w w W0→I W0.heap.size [] W0) (ob:α→Obj) (a₁:α→Nat→Act)
  (M:∀(l:Nat) (x:α) (W:World) (g:Nat) (K:Act→World→Prop),g=W.heap.size→K (a₁ x g) (W.alloc (ob x))→
   assign.wpIn (F.inRound l) (n-1-1) P (Exit.then K (fun _ _ _=>False)) {tmps:=(ps.zip (E x)).foldl (fun t (p,v)=>t.setIfInBounds p v) a.tmps,defers:=[]} W)
  (hbody:∀(f l g:Nat) (pre:List α) (x:α) (W:World),f≤g→w.heap.size+2≤g→W.heap[g]? =some (ob x)→I f pre W→Sp (pre++[x])→pre.length<N→body.wpIn (F.inRound l) (n-1-1) P (ownPostK (KeepX X (w.heap.size+2) f) (I f) (Ix f) (pre++[x]) W) (a₁ x g) W)
  (hdone:∀(f D:Nat) (xs:List α) (W:World),w.heap.size≤D→S xs→I f xs W→W.heap[D]? =some (.deferred (some []))→Q .normal {a with defers:={target:=.collected D,args:=#[]}::a.defers} W)
  (hstop:∀(f D:Nat) (c:Code) (pre:List α) (W:World),w.heap.size≤D→Sp pre→Ix f c pre W→W.heap[D]? =some (.deferred (some []))→c.wpIn F n P Q {a with defers:={target:=.collected D,args:=#[]}::a.defers} W):
  (Code.rangeFunc g ps assign body).wpIn F n P Q a w:=by
 refine wpIn_rangeFunc fun fn hfn=>?_;rw[hro];obtain ⟨L,hL⟩:=nm (fun st pe=>{state:=st,pending:=pe,fn,tmps:=a.tmps,params:=ps,assign,body,defers:=w.heap.size}:LoopState→Option Code→Loop);obtain ⟨U,hU⟩:=nm ((w.alloc (.deferred (some []))).alloc (.loop (L .ready none)));have hRU:zak U w.heap.size (L .ready none):=by
  subst hU
  constructor
  ·have:=World.alloc_heap_new (w.alloc (.deferred (some []))) (.loop (L .ready none))
   rwa [World.size_alloc] at this
  ·exact (Below.heap_alloc _ _ _ (by simp)).trans (World.alloc_heap_new w _)
 have hsU:U.heap.size=w.heap.size+2:=by rw[hU];simp
 have hwU:Below w w U:=by subst hU;exact (((Below.refl _ w).alloc lR _).alloc (by simp) _)
 have hBU:Below w0 w0 U:=Y.trans (hwU.mono Y.size);have recB:∀W0,Below U U W0→zak W0 w.heap.size (L .ready none):=fun W0 h=>⟨(h.block _ (by omega)).trans hRU.1,(h.block _ (by omega)).trans hRU.2⟩;refine ⟨w.heap.size+1,[{target:=.collected w.heap.size,args:=#[]}],U,{target:=.fn (.func gf) lb,args:=#[.func (.yield (w.heap.size+1)) #[] #[]]},U,gf,#[.func (.yield (w.heap.size+1)) #[] #[]]++lb,U,?_,?_,?_,?_,fun _=>h1,?_⟩
 ·rw[hU,hL];exact run_enterLoop_outer _ _ _ _ _
 ·simp only[resolve,hg]
  simp[go_sem]
 ·intro f' hf'
  simp[Target.leads] at hf'
  subst hf';exact hFg
 ·simp[invoke,go_sem,eg]
 ·have m:∀{A:World} {C:Option Nat},(∀r,C=some r→U.heap.size≤r∧∃o:Obj,A.heap[r]? =some o∧o.isWalk=true)→∀r,C=some r→w.heap.size≤r∧∃o:Obj,A.heap[r]? =some o∧o.isCells=false:=by
   intro A C k r e;obtain ⟨h1,o,h2,h3⟩:=k r e;exact ⟨by omega,o,h2,Obj.not_cells_of_walk h3⟩
  refine (hseq (w.heap.size+1) (fun f pre W=>I f pre W∧zak W w.heap.size (L .ready none)) (fun f pre W=>∃c,Ix f c pre W∧zak W w.heap.size (L .done (some c))) U hBU ?_ ?_ ?_ (fun W0 hW0=>⟨h0 W0 (hwU.trans (hW0.mono (by omega))),recB W0 hW0⟩)).mono ?_
  ·exact fun f s A B C hs R k=>⟨hI f s A B C hs.1 R (m k),hs.2.abides R fun r e=>(k r e).2⟩
  ·rintro f s A B C ⟨c,hc,d⟩ R k;exact ⟨c,J f c s A B C hc R (m k),d.abides R fun r e=>(k r e).2⟩
  ·rintro f pre x W hhi ⟨T,d⟩ hsp hlen;have aa:(L .ready none).state=.ready:=by rw[hL]
   have hy:=run_yield (P:=P) (args:=E x) d.1 (by rw[hL];exact hps x);rw[hL] at hy;have hwlt:w.heap.size+1<W.heap.size:=(Array.getElem?_eq_some_iff.1 d.1).1;obtain ⟨V,hV⟩:=nm (W.alloc (ob x));have O:Below W W V:=by rw[hV];exact qA _
   have hgV:V.heap[W.heap.size]? =some (ob x):=by rw[hV];exact World.alloc_heap_new W _
   have z:zak V w.heap.size (L .ready none):=⟨(O.block _ hwlt).trans d.1,(O.block _ (by omega)).trans d.2⟩;have hiV:I f pre V:=by rw[hV];exact (hI f).alloc _ T
   refine ⟨fn,_,assign,body,hy,roundIn_of_wpIn hfn (M _ x W _ _ rfl ?_)⟩;rw[←hV];refine ⟨_,run_beginRound z.1 aa,?_⟩;have hbusy:zak (V.putObj (w.heap.size+1) (.loop {L .ready none with state:=.busy})) w.heap.size {L .ready none with state:=.busy}:=z.put;have kb:∀(V:World) (o:Obj),KeepX X U.heap.size f V (V.putObj (w.heap.size+1) o):=fun V o=>⟨⟨by simp,fun i h1 _=>World.putObj_heap_other (by omega)⟩,fun b hb=>World.putObj_heap_other (by have:=hX b hb;have:=Y.size;omega)⟩;have kV:KeepX X U.heap.size f W V:=⟨⟨O.size,fun i _ h2=>O.block i (by omega)⟩,fun b hb=>O.block b (by have:=hX b hb;have:=Y.size;omega)⟩;refine wpIn_mono (hbody f _ W.heap.size pre x _ hhi (by omega) ((World.putObj_heap_other (by omega)).trans hgV) ((hI f).putObj _ hiV (by omega) z.1 rfl) hsp hlen) ?_;have G:∀(j:Option Code) (H:World),KeepsOthers (V.putObj (w.heap.size+1) (.loop {L .ready none with state:=.busy})) H→
     (Instr.endRound (w.heap.size+1) j).run P H=.ok ↑j.isNone (H.putObj (w.heap.size+1) (.loop (L (if j.isNone then .ready else .done) j)))∧
     zak H w.heap.size {L .ready none with state:=.busy}∧zak (H.putObj (w.heap.size+1) (.loop (L (if j.isNone then .ready else .done) j))) w.heap.size (L (if j.isNone then .ready else .done) j):=by
    intro j H hk3;have h3:=hbusy.others hk3;have k:=run_endRound (P:=P) j h3.1;rw[hL] at k h3 ⊢;exact ⟨k,h3,h3.put⟩
   rintro e a3 H Z
   cases e with
   |normal=>
    obtain ⟨hk3,ab,hi3⟩:=Z;obtain ⟨k,q,y⟩:=G none H hk3;rw[←hsU] at ab;exact ⟨_,_,k,.inl ⟨rfl,⟨(hI f).putObj _ hi3 (by omega) q.1 rfl,y⟩,((kV.trans (kb _ _)).trans ab).trans (kb _ _)⟩⟩
   |ret=>
    obtain ⟨k,q,y⟩:=G (some .ret) H Z.1;exact ⟨_,_,k,.inr ⟨rfl,.ret,(J f _).putObj _ Z.2 (by omega) q.1 rfl,y⟩⟩
   |exit id=>
    obtain ⟨k,q,y⟩:=G (some (.exit id)) H Z.1;exact ⟨_,_,k,.inr ⟨rfl,.exit id,(J f _).putObj _ Z.2 (by omega) q.1 rfl,y⟩⟩
   |goto t=>
    obtain ⟨k,q,y⟩:=G (some (.goto t)) H Z.1;exact ⟨_,_,k,.inr ⟨rfl,.goto t,(J f _).putObj _ Z.2 (by omega) q.1 rfl,y⟩⟩
   |panic ch=>exact Z.elim
   |outgrown=>exact Z.elim
  ·have ac:∀{st:LoopState} {pe:Option Code} {W2:World},st≠ .busy→zak W2 w.heap.size (L st pe)→∃o,(Instr.endLoop (w.heap.size+1)).run P W2=.ok pe (W2.putObj (w.heap.size+1) o):=by
    intro st pe W2 hst h2;have k:=run_endLoop (P:=P) h2.1 (by rw[hL];exact hst);rw[hL] at k;exact ⟨_,k⟩
   rintro e W2 ⟨⟨v,rfl⟩,f,_,(⟨xs,hS,T,d⟩|⟨pre,hSp,c,T,d⟩)⟩
   ·obtain ⟨o,k⟩:=ac (by simp) d;exact ⟨none,_,k,hdone f _ xs _ lR hS ((hI f).putObj _ T (by omega) d.1 rfl) ((World.putObj_heap_other (by omega)).trans d.2)⟩
   ·obtain ⟨o,k⟩:=ac (by simp) d;exact ⟨some c,_,k,hstop f _ c pre _ lR hSp ((J f c).putObj _ T (by omega) d.1 rfl) ((World.putObj_heap_other (by omega)).trans d.2)⟩
end Ac
end Go.Proofs.YtckdpejdnejhfaaGreat

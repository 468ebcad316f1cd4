/- Joined by program. -/
import Derived.Test.YthoaidfpgijbfaaGreatZba
import Derived.Test.YthoaidfpgijbfaaGreatZv
import Derived.Deep.CutBlock
set_option linter.all false
set_option maxRecDepth 100000
set_option maxHeartbeats 32000000
namespace Go.Proofs.YthoaidfpgijbfaaGreat
open Lib (hid)
namespace Ho
open Go.RowKit Vb Ac
attribute [local go_sem] Oper.semAt_some
theorem zgD {l m:LotS}:l=m↔l.stands=m.stands∧l.put=m.put∧l.closes=m.closes∧l.closed=m.closed∧l.rise=m.rise∧l.price=m.price:=by
 constructor
 ·rintro rfl;exact ⟨rfl,rfl,rfl,rfl,rfl,rfl⟩
 ·obtain ⟨a,b,c,d,e,f⟩:=l;obtain ⟨g,h,i,j,k,n⟩:=m;simp only;rintro ⟨rfl,rfl,rfl,rfl,rfl,rfl⟩
  rfl
theorem zpx {l:LotS} {b v:Value} {j:Nat} (h:l.put.cells[j]? =some v):(l.cells b).toArray[0+j]? =some v:=by
 have a:j<11:=(gS.1 h).1;rw[Nat.zero_add];unfold LotS.cells;rw[List.getElem?_toArray,List.append_assoc,List.append_assoc,List.getElem?_append_left (by simpa using a)];exact h
theorem zog {l:LotS} {a v:Value} {j:Nat} (h:l.rise.cells[j]? =some v):(l.cells a).toArray[15+j]? =some v:=by
 have b:j<4:=(gS.1 h).1;have:j=0∨j=1∨j=2∨j=3:=by omega
 rcases this with rfl|rfl|rfl|rfl<;>exact h
structure LotTests (l m:LotS) (dp dc dd dr dq:Bool):Prop where
 put:dp=true↔l.put=m.put
 closes:dc=true↔l.closes=m.closes
 closed:dd=true↔l.closed=m.closed
 rise:dr=true↔l.rise=m.rise
 price:dq=true↔l.price=m.price
theorem zs4 {W:World} {T1 T2:Nat→Part} {j1 j2 b1 b2:Nat} {l m:LotS} (h1:za2 W T1 j1 b1 l) (h2:za2 W T2 j2 b2 m) (hm:l.stands.length≤1000000) (ho:∀s∈l.stands,s.offers.length≤1000000000000):
  Calls Tryz.prog 71 #[.pointer (some ⟨b1,0,none⟩),.pointer (some ⟨b2,0,none⟩)] W fun e W'=>zdy (l=m) W.heap.size W e W':=by
 obtain ⟨v1,_,o,Y⟩:=h1;obtain ⟨v2,_,p,Z⟩:=h2;have HEQ:=hid (zlv Y Z hm ho);have HS1:=hid Y;have HS2:=hid Z;have HMO:=hid (And.intro hm ho);clear Y Z hm ho;obtain ⟨G,I⟩:=nm (l.put.cells);obtain ⟨H,J⟩:=nm (m.put.cells);obtain ⟨Q1,L⟩:=nm (l.rise.cells);obtain ⟨Q2,M⟩:=nm (m.rise.cells);obtain ⟨dp,U⟩:=nm (decide (l.put=m.put));obtain ⟨dr,V⟩:=nm (decide (l.rise=m.rise));obtain ⟨dc,N⟩:=nm ((l.closes==m.closes));obtain ⟨dd,O⟩:=nm ((l.closed==m.closed));obtain ⟨dq,P⟩:=nm ((l.price==m.price));have F:=hid (show LotTests l m dp dc dd dr dq from ⟨by rw[U];simp,by rw[N];simp,by rw[O];simp,by rw[V];simp,by rw[P];simp⟩);have q1:∀w,(binOp .eql 33 (.agg G.toArray) (.agg H.toArray)).run Tryz.prog w=.ok ↑dp w:=fun w=>by rw[I,J,U];exact zc3 _ _ _
 have q4:∀w,(binOp .eql 125 (.agg Q1.toArray) (.agg Q2.toArray)).run Tryz.prog w=.ok ↑dr w:=fun w=>by rw[L,M,V];exact znd _ _ _
 have r:=hid (show G.length=11 by rw[I];rfl);have t:=hid (show H.length=11 by rw[J];rfl);have S:=hid (show Q1.length=4 by rw[L];rfl);have T:=hid (show Q2.length=4 by rw[M];rfl);have x:=hid (show W.rangeAt b1 0 G by rw[I];exact Blk.range o 0 _ fun j v X=>zpx X);have y:=hid (show W.rangeAt b2 0 H by rw[J];exact Blk.range p 0 _ fun j v X=>zpx X);have Q:=hid (show W.rangeAt b1 15 Q1 by rw[L];exact Blk.range o 15 _ fun j v X=>zog X);have R:=hid (show W.rangeAt b2 15 Q2 by rw[M];exact Blk.range p 15 _ fun j v X=>zog X);obtain ⟨x1,aa⟩:=nm (l.closes);obtain ⟨x2,ab⟩:=nm (m.closes);obtain ⟨y1,ac⟩:=nm (l.closed);obtain ⟨y2,ad⟩:=nm (m.closed);obtain ⟨z1,ae⟩:=nm (l.price);obtain ⟨z2,af⟩:=nm (m.price);have z:W.cell? ⟨b1,12,none⟩=some ↑x1:=by rw[aa];exact o.cell 12
 have A:W.cell? ⟨b1,13,none⟩=some ↑y1:=by rw[ac];exact o.cell 13
 have c14:W.cell? ⟨b1,14,none⟩=some v1:=o.cell 14;have B:W.cell? ⟨b1,19,none⟩=some ↑z1:=by rw[ae];exact o.cell 19
 have C:W.cell? ⟨b2,12,none⟩=some ↑x2:=by rw[ab];exact p.cell 12
 have D:W.cell? ⟨b2,13,none⟩=some ↑y2:=by rw[ad];exact p.cell 13
 have e14:W.cell? ⟨b2,14,none⟩=some v2:=p.cell 14;have E:W.cell? ⟨b2,19,none⟩=some ↑z2:=by rw[af];exact p.cell 19
 have d:=o.lt;have f:=p.lt;rw[←aa,←ab] at N;rw[←ac,←ad] at O;rw[←ae,←af] at P;have hdc':=N.symm;have hdd':=O.symm;have hdq':=P.symm;clear o p I J L M U V N O P aa ab ac ad ae af;go_enter Tryz.func71,Tryz.ntmps71;go_wp2_with fail
 refine zad (Below W W) [] (by kernel_rfl) (bR.drew) (fun a=>?_);refine tp 0 a ?_;refine tp 1 a ?_;refine tp 2 a ?_;have i:=hid fun (k:World) (c:(Below W W) k)=>And.intro (qc c c14 d)<|qc c e14 f;refine tl 3 a i ?_;refine tp 4 a ?_;refine tp 5 a ?_;refine tp 6 a ?_;refine tl 7 a i ?_;refine stp 8 fun K hK=>?_;go_simp;refine (zlv (W:=W.drew) (HS1.out.grow bR.drew) (HS2.out.grow bR.drew) HMO.out.1 HMO.out.2).mono ?_;rintro e w3 ⟨b,rfl,hbi,hb3⟩;have HBI:=hid hbi;have n:=hid ((Below.refl W.heap.size W).drew.trans hb3);clear hbi hb3;refine hK.out _ _ ?_ (fun a=>?_)
 ·exact n.out
 clear hK K
 try simp only[Act.put,pb,pz,ps]
 refine tp 9 a ?_;refine zac (by kernel_rfl) ?_ _;clear a c14 e14;have g1:w3.heap.size=w3.heap.size:=rfl
 cases b with
 |false=>
  go_wp2_with fail
  refine zad (Below W W) [] (by kernel_rfl) (n.out.drew) (fun a=>?_);refine tp 0 a ?_;refine tp 1 a ?_;refine zaa 2 a ?_;refine zaa 3 a ?_;refine zaa 4 a ?_;refine zaa 5 a ?_;refine zaa 6 a ?_;refine zaa 7 a ?_;refine zaa 8 a ?_;refine zaa 9 a ?_;refine zaa 10 a ?_;refine tp 11 a ?_;refine tp 12 a ?_;refine zaa 13 a ?_;refine zaa 14 a ?_;refine zaa 15 a ?_;refine zaa 16 a ?_;refine zaa 17 a ?_;refine zaa 18 a ?_;refine zaa 19 a ?_;refine zaa 20 a ?_;refine zaa 21 a ?_;refine tp 22 a ?_;refine tp 23 a ?_;refine zaa 24 a ?_;refine zaa 25 a ?_;refine zaa 26 a ?_;refine zaa 27 a ?_;refine zaa 28 a ?_;refine zaa 29 a ?_;refine zaa 30 a ?_;refine zaa 31 a ?_;refine zaa 32 a ?_;refine tp 33 a ?_;refine tp 34 a ?_;refine zaa 35 a ?_;refine zaa 36 a ?_;refine zaa 37 a ?_;refine zaa 38 a ?_;refine zaa 39 a ?_;refine zaa 40 a ?_;refine zaa 41 a ?_;refine zaa 42 a ?_;refine zaa 43 a ?_;refine tp 44 a ?_;refine tp 45 a ?_;refine zaa 46 a ?_;refine zaa 47 a ?_;refine zaa 48 a ?_;refine zaa 49 a ?_;refine zaa 50 a ?_;refine zaa 51 a ?_;refine zaa 52 a ?_;refine zaa 53 a ?_;refine zaa 54 a ?_;refine tp 55 a ?_;refine tp 56 a ?_;refine zac (by kernel_rfl) ?_ _;go_wp2_with fail
  go_ret;exact ⟨false,by rfl,⟨fun h=>(by cases h),fun h=>(by cases HBI.out.2 (zgD.1 h).1)⟩,a⟩
 |true=>
  cases dp with
  |false=>
   go_wp2_with fail
   refine zad (Below W W) [] (by kernel_rfl) (n.out.drew) (fun a=>?_);refine tp 0 a ?_;refine tp 1 a ?_;refine tp 2 a ?_;refine tp 3 a ?_;refine tp 4 a ?_;refine tx 5 (v:=?_) a ?_ ?_
   rotate_left
   ·intro k c;refine Eq.trans (zal 33 (.tmp 19) (by rfl) b1 0 (by rfl) G _ (fun q v g=>qc c (x.out q v g) d) Tryz.underlying33 rfl (by rw[r.out];kernel_rfl)) ?_;with_reducible rfl
   refine tp 6 a ?_;refine tp 7 a ?_;refine tp 8 a ?_;refine tx 9 (v:=?_) a ?_ ?_
   rotate_left
   ·intro k c;refine Eq.trans (zal 33 (.tmp 23) (by rfl) b2 0 (by rfl) H _ (fun q v g=>qc c (y.out q v g) f) Tryz.underlying33 rfl (by rw[t.out];kernel_rfl)) ?_;with_reducible rfl
   refine tp 10 a ?_;refine tp 11 a ?_;refine tp 12 a ?_;refine zaa 13 a ?_;refine zaa 14 a ?_;refine zaa 15 a ?_;refine zaa 16 a ?_;refine zaa 17 a ?_;refine zaa 18 a ?_;refine zaa 19 a ?_;refine zaa 20 a ?_;refine zaa 21 a ?_;refine tp 22 a ?_;refine tp 23 a ?_;refine zaa 24 a ?_;refine zaa 25 a ?_;refine zaa 26 a ?_;refine zaa 27 a ?_;refine zaa 28 a ?_;refine zaa 29 a ?_;refine zaa 30 a ?_;refine zaa 31 a ?_;refine zaa 32 a ?_;refine tp 33 a ?_;refine tp 34 a ?_;refine zaa 35 a ?_;refine zaa 36 a ?_;refine zaa 37 a ?_;refine zaa 38 a ?_;refine zaa 39 a ?_;refine zaa 40 a ?_;refine zaa 41 a ?_;refine zaa 42 a ?_;refine zaa 43 a ?_;refine tp 44 a ?_;refine tp 45 a ?_;refine zaa 46 a ?_;refine zaa 47 a ?_;refine zaa 48 a ?_;refine zaa 49 a ?_;refine zaa 50 a ?_;refine zaa 51 a ?_;refine zaa 52 a ?_;refine zaa 53 a ?_;refine zaa 54 a ?_;refine tp 55 a ?_;refine tp 56 a ?_;refine zac (by kernel_rfl) ?_ _;go_wp2_with fail
   go_ret;exact ⟨false,by rfl,⟨fun h=>(by cases h),fun h=>(by cases F.out.put.2 (zgD.1 h).2.1)⟩,a⟩
  |true=>
   cases dc with
   |false=>
    go_wp2_with fail
    refine zad (Below W W) [] (by kernel_rfl) (n.out.drew) (fun a=>?_);refine tp 0 a ?_;refine tp 1 a ?_;refine tp 2 a ?_;refine tp 3 a ?_;refine tp 4 a ?_;refine tx 5 (v:=?_) a ?_ ?_
    rotate_left
    ·intro k c;refine Eq.trans (zal 33 (.tmp 19) (by rfl) b1 0 (by rfl) G _ (fun q v g=>qc c (x.out q v g) d) Tryz.underlying33 rfl (by rw[r.out];kernel_rfl)) ?_;with_reducible rfl
    refine tp 6 a ?_;refine tp 7 a ?_;refine tp 8 a ?_;refine tx 9 (v:=?_) a ?_ ?_
    rotate_left
    ·intro k c;refine Eq.trans (zal 33 (.tmp 23) (by rfl) b2 0 (by rfl) H _ (fun q v g=>qc c (y.out q v g) f) Tryz.underlying33 rfl (by rw[t.out];kernel_rfl)) ?_;with_reducible rfl
    refine tp 10 a ?_;refine tp 11 a ?_;refine tp 12 a ?_;refine tp 13 a ?_;refine tp 14 a ?_;refine tp 15 a ?_;have i:=hid fun (k:World) (c:(Below W W) k)=>And.intro (qc c z d)<|And.intro (qc c C f)<|And.intro (qc c A d)<|And.intro (qc c D f)<|And.intro (qc c B d)<|qc c E f;refine tl 16 a i ?_;refine tp 17 a ?_;refine tp 18 a ?_;refine tp 19 a ?_;refine tl 20 a i ?_;refine tp 21 a ?_;refine tp 22 a ?_;refine tp 23 a ?_;refine zaa 24 a ?_;refine zaa 25 a ?_;refine zaa 26 a ?_;refine zaa 27 a ?_;refine zaa 28 a ?_;refine zaa 29 a ?_;refine zaa 30 a ?_;refine zaa 31 a ?_;refine zaa 32 a ?_;refine tp 33 a ?_;refine tp 34 a ?_;refine zaa 35 a ?_;refine zaa 36 a ?_;refine zaa 37 a ?_;refine zaa 38 a ?_;refine zaa 39 a ?_;refine zaa 40 a ?_;refine zaa 41 a ?_;refine zaa 42 a ?_;refine zaa 43 a ?_;refine tp 44 a ?_;refine tp 45 a ?_;refine zaa 46 a ?_;refine zaa 47 a ?_;refine zaa 48 a ?_;refine zaa 49 a ?_;refine zaa 50 a ?_;refine zaa 51 a ?_;refine zaa 52 a ?_;refine zaa 53 a ?_;refine zaa 54 a ?_;refine tp 55 a ?_;refine tp 56 a ?_;refine zac (by kernel_rfl) ?_ _;go_wp2_with fail
    go_ret;exact ⟨false,by rfl,⟨fun h=>(by cases h),fun h=>(by cases F.out.closes.2 (zgD.1 h).2.2.1)⟩,a⟩
   |true=>
    cases dd with
    |false=>
     go_wp2_with fail
     refine zad (Below W W) [] (by kernel_rfl) (n.out.drew) (fun a=>?_);refine tp 0 a ?_;refine tp 1 a ?_;refine tp 2 a ?_;refine tp 3 a ?_;refine tp 4 a ?_;refine tx 5 (v:=?_) a ?_ ?_
     rotate_left
     ·intro k c;refine Eq.trans (zal 33 (.tmp 19) (by rfl) b1 0 (by rfl) G _ (fun q v g=>qc c (x.out q v g) d) Tryz.underlying33 rfl (by rw[r.out];kernel_rfl)) ?_;with_reducible rfl
     refine tp 6 a ?_;refine tp 7 a ?_;refine tp 8 a ?_;refine tx 9 (v:=?_) a ?_ ?_
     rotate_left
     ·intro k c;refine Eq.trans (zal 33 (.tmp 23) (by rfl) b2 0 (by rfl) H _ (fun q v g=>qc c (y.out q v g) f) Tryz.underlying33 rfl (by rw[t.out];kernel_rfl)) ?_;with_reducible rfl
     refine tp 10 a ?_;refine tp 11 a ?_;refine tp 12 a ?_;refine tp 13 a ?_;refine tp 14 a ?_;refine tp 15 a ?_;have i:=hid fun (k:World) (c:(Below W W) k)=>And.intro (qc c z d)<|And.intro (qc c C f)<|And.intro (qc c A d)<|And.intro (qc c D f)<|And.intro (qc c B d)<|qc c E f;refine tl 16 a i ?_;refine tp 17 a ?_;refine tp 18 a ?_;refine tp 19 a ?_;refine tl 20 a i ?_;refine tp 21 a ?_;refine tp 22 a ?_;refine tp 23 a ?_;refine tp 24 a ?_;refine tp 25 a ?_;refine tp 26 a ?_;refine tl 27 a i ?_;refine tp 28 a ?_;refine tp 29 a ?_;refine tp 30 a ?_;refine tl 31 a i ?_;refine tp 32 a ?_;refine tp 33 a ?_;refine tp 34 a ?_;refine zaa 35 a ?_;refine zaa 36 a ?_;refine zaa 37 a ?_;refine zaa 38 a ?_;refine zaa 39 a ?_;refine zaa 40 a ?_;refine zaa 41 a ?_;refine zaa 42 a ?_;refine zaa 43 a ?_;refine tp 44 a ?_;refine tp 45 a ?_;refine zaa 46 a ?_;refine zaa 47 a ?_;refine zaa 48 a ?_;refine zaa 49 a ?_;refine zaa 50 a ?_;refine zaa 51 a ?_;refine zaa 52 a ?_;refine zaa 53 a ?_;refine zaa 54 a ?_;refine tp 55 a ?_;refine tp 56 a ?_;refine zac (by kernel_rfl) ?_ _;go_wp2_with fail
     go_ret;exact ⟨false,by rfl,⟨fun h=>(by cases h),fun h=>(by cases F.out.closed.2 (zgD.1 h).2.2.2.1)⟩,a⟩
    |true=>
     cases dr with
     |false=>
      go_wp2_with fail
      refine zad (Below W W) [] (by kernel_rfl) (n.out.drew) (fun a=>?_);refine tp 0 a ?_;refine tp 1 a ?_;refine tp 2 a ?_;refine tp 3 a ?_;refine tp 4 a ?_;refine tx 5 (v:=?_) a ?_ ?_
      rotate_left
      ·intro k c;refine Eq.trans (zal 33 (.tmp 19) (by rfl) b1 0 (by rfl) G _ (fun q v g=>qc c (x.out q v g) d) Tryz.underlying33 rfl (by rw[r.out];kernel_rfl)) ?_;with_reducible rfl
      refine tp 6 a ?_;refine tp 7 a ?_;refine tp 8 a ?_;refine tx 9 (v:=?_) a ?_ ?_
      rotate_left
      ·intro k c;refine Eq.trans (zal 33 (.tmp 23) (by rfl) b2 0 (by rfl) H _ (fun q v g=>qc c (y.out q v g) f) Tryz.underlying33 rfl (by rw[t.out];kernel_rfl)) ?_;with_reducible rfl
      refine tp 10 a ?_;refine tp 11 a ?_;refine tp 12 a ?_;refine tp 13 a ?_;refine tp 14 a ?_;refine tp 15 a ?_;have i:=hid fun (k:World) (c:(Below W W) k)=>And.intro (qc c z d)<|And.intro (qc c C f)<|And.intro (qc c A d)<|And.intro (qc c D f)<|And.intro (qc c B d)<|qc c E f;refine tl 16 a i ?_;refine tp 17 a ?_;refine tp 18 a ?_;refine tp 19 a ?_;refine tl 20 a i ?_;refine tp 21 a ?_;refine tp 22 a ?_;refine tp 23 a ?_;refine tp 24 a ?_;refine tp 25 a ?_;refine tp 26 a ?_;refine tl 27 a i ?_;refine tp 28 a ?_;refine tp 29 a ?_;refine tp 30 a ?_;refine tl 31 a i ?_;refine tp 32 a ?_;refine tp 33 a ?_;refine tp 34 a ?_;refine tp 35 a ?_;refine tp 36 a ?_;refine tp 37 a ?_;refine tx 38 (v:=?_) a ?_ ?_
      rotate_left
      ·intro k c;refine Eq.trans (zal 125 (.tmp 52) (by rfl) b1 15 (by rfl) Q1 _ (fun q v g=>qc c (Q.out q v g) d) Tryz.underlying125 rfl (by rw[S.out];kernel_rfl)) ?_;with_reducible rfl
      refine tp 39 a ?_;refine tp 40 a ?_;refine tp 41 a ?_;refine tx 42 (v:=?_) a ?_ ?_
      rotate_left
      ·intro k c;refine Eq.trans (zal 125 (.tmp 56) (by rfl) b2 15 (by rfl) Q2 _ (fun q v g=>qc c (R.out q v g) f) Tryz.underlying125 rfl (by rw[T.out];kernel_rfl)) ?_;with_reducible rfl
      refine tp 43 a ?_;refine tp 44 a ?_;refine tp 45 a ?_;refine zaa 46 a ?_;refine zaa 47 a ?_;refine zaa 48 a ?_;refine zaa 49 a ?_;refine zaa 50 a ?_;refine zaa 51 a ?_;refine zaa 52 a ?_;refine zaa 53 a ?_;refine zaa 54 a ?_;refine tp 55 a ?_;refine tp 56 a ?_;refine zac (by kernel_rfl) ?_ _;go_wp2_with fail
      go_ret;exact ⟨false,by rfl,⟨fun h=>(by cases h),fun h=>(by cases F.out.rise.2 (zgD.1 h).2.2.2.2.1)⟩,a⟩
     |true=>
      cases dq with
      |false=>
       go_wp2_with fail
       refine zad (Below W W) [] (by kernel_rfl) (n.out.drew) (fun a=>?_);refine tp 0 a ?_;refine tp 1 a ?_;refine tp 2 a ?_;refine tp 3 a ?_;refine tp 4 a ?_;refine tx 5 (v:=?_) a ?_ ?_
       rotate_left
       ·intro k c;refine Eq.trans (zal 33 (.tmp 19) (by rfl) b1 0 (by rfl) G _ (fun q v g=>qc c (x.out q v g) d) Tryz.underlying33 rfl (by rw[r.out];kernel_rfl)) ?_;with_reducible rfl
       refine tp 6 a ?_;refine tp 7 a ?_;refine tp 8 a ?_;refine tx 9 (v:=?_) a ?_ ?_
       rotate_left
       ·intro k c;refine Eq.trans (zal 33 (.tmp 23) (by rfl) b2 0 (by rfl) H _ (fun q v g=>qc c (y.out q v g) f) Tryz.underlying33 rfl (by rw[t.out];kernel_rfl)) ?_;with_reducible rfl
       refine tp 10 a ?_;refine tp 11 a ?_;refine tp 12 a ?_;refine tp 13 a ?_;refine tp 14 a ?_;refine tp 15 a ?_;have i:=hid fun (k:World) (c:(Below W W) k)=>And.intro (qc c z d)<|And.intro (qc c C f)<|And.intro (qc c A d)<|And.intro (qc c D f)<|And.intro (qc c B d)<|qc c E f;refine tl 16 a i ?_;refine tp 17 a ?_;refine tp 18 a ?_;refine tp 19 a ?_;refine tl 20 a i ?_;refine tp 21 a ?_;refine tp 22 a ?_;refine tp 23 a ?_;refine tp 24 a ?_;refine tp 25 a ?_;refine tp 26 a ?_;refine tl 27 a i ?_;refine tp 28 a ?_;refine tp 29 a ?_;refine tp 30 a ?_;refine tl 31 a i ?_;refine tp 32 a ?_;refine tp 33 a ?_;refine tp 34 a ?_;refine tp 35 a ?_;refine tp 36 a ?_;refine tp 37 a ?_;refine tx 38 (v:=?_) a ?_ ?_
       rotate_left
       ·intro k c;refine Eq.trans (zal 125 (.tmp 52) (by rfl) b1 15 (by rfl) Q1 _ (fun q v g=>qc c (Q.out q v g) d) Tryz.underlying125 rfl (by rw[S.out];kernel_rfl)) ?_;with_reducible rfl
       refine tp 39 a ?_;refine tp 40 a ?_;refine tp 41 a ?_;refine tx 42 (v:=?_) a ?_ ?_
       rotate_left
       ·intro k c;refine Eq.trans (zal 125 (.tmp 56) (by rfl) b2 15 (by rfl) Q2 _ (fun q v g=>qc c (R.out q v g) f) Tryz.underlying125 rfl (by rw[T.out];kernel_rfl)) ?_;with_reducible rfl
       refine tp 43 a ?_;refine tp 44 a ?_;refine tp 45 a ?_;refine tp 46 a ?_;refine tp 47 a ?_;refine tp 48 a ?_;refine tl 49 a i ?_;refine tp 50 a ?_;refine tp 51 a ?_;refine tp 52 a ?_;refine tl 53 a i ?_;refine tp 54 a ?_;refine tp 55 a ?_;refine tp 56 a ?_;refine zac (by kernel_rfl) ?_ _;go_wp2_with fail
       go_ret;exact ⟨false,by rfl,⟨fun h=>(by cases h),fun h=>(by cases F.out.price.2 (zgD.1 h).2.2.2.2.2)⟩,a⟩
      |true=>
       go_wp2_with fail
       refine zad (Below W W) [] (by kernel_rfl) (n.out.drew) (fun a=>?_);refine tp 0 a ?_;refine tp 1 a ?_;refine tp 2 a ?_;refine tp 3 a ?_;refine tp 4 a ?_;refine tx 5 (v:=?_) a ?_ ?_
       rotate_left
       ·intro k c;refine Eq.trans (zal 33 (.tmp 19) (by rfl) b1 0 (by rfl) G _ (fun q v g=>qc c (x.out q v g) d) Tryz.underlying33 rfl (by rw[r.out];kernel_rfl)) ?_;with_reducible rfl
       refine tp 6 a ?_;refine tp 7 a ?_;refine tp 8 a ?_;refine tx 9 (v:=?_) a ?_ ?_
       rotate_left
       ·intro k c;refine Eq.trans (zal 33 (.tmp 23) (by rfl) b2 0 (by rfl) H _ (fun q v g=>qc c (y.out q v g) f) Tryz.underlying33 rfl (by rw[t.out];kernel_rfl)) ?_;with_reducible rfl
       refine tp 10 a ?_;refine tp 11 a ?_;refine tp 12 a ?_;refine tp 13 a ?_;refine tp 14 a ?_;refine tp 15 a ?_;have i:=hid fun (k:World) (c:(Below W W) k)=>And.intro (qc c z d)<|And.intro (qc c C f)<|And.intro (qc c A d)<|And.intro (qc c D f)<|And.intro (qc c B d)<|qc c E f;refine tl 16 a i ?_;refine tp 17 a ?_;refine tp 18 a ?_;refine tp 19 a ?_;refine tl 20 a i ?_;refine tp 21 a ?_;refine tp 22 a ?_;refine tp 23 a ?_;refine tp 24 a ?_;refine tp 25 a ?_;refine tp 26 a ?_;refine tl 27 a i ?_;refine tp 28 a ?_;refine tp 29 a ?_;refine tp 30 a ?_;refine tl 31 a i ?_;refine tp 32 a ?_;refine tp 33 a ?_;refine tp 34 a ?_;refine tp 35 a ?_;refine tp 36 a ?_;refine tp 37 a ?_;refine tx 38 (v:=?_) a ?_ ?_
       rotate_left
       ·intro k c;refine Eq.trans (zal 125 (.tmp 52) (by rfl) b1 15 (by rfl) Q1 _ (fun q v g=>qc c (Q.out q v g) d) Tryz.underlying125 rfl (by rw[S.out];kernel_rfl)) ?_;with_reducible rfl
       refine tp 39 a ?_;refine tp 40 a ?_;refine tp 41 a ?_;refine tx 42 (v:=?_) a ?_ ?_
       rotate_left
       ·intro k c;refine Eq.trans (zal 125 (.tmp 56) (by rfl) b2 15 (by rfl) Q2 _ (fun q v g=>qc c (R.out q v g) f) Tryz.underlying125 rfl (by rw[T.out];kernel_rfl)) ?_;with_reducible rfl
       refine tp 43 a ?_;refine tp 44 a ?_;refine tp 45 a ?_;refine tp 46 a ?_;refine tp 47 a ?_;refine tp 48 a ?_;refine tl 49 a i ?_;refine tp 50 a ?_;refine tp 51 a ?_;refine tp 52 a ?_;refine tl 53 a i ?_;refine tp 54 a ?_;refine tp 55 a ?_;refine tp 56 a ?_;refine zac (by kernel_rfl) ?_ _;go_wp2_with fail
       go_ret;exact ⟨true,by rfl,⟨fun _=>zgD.2 ⟨HBI.out.1 (by trivial),F.out.put.1 rfl,F.out.closes.1 rfl,F.out.closed.1 rfl,F.out.rise.1 rfl,F.out.price.1 rfl⟩,fun _=>rfl⟩,a⟩
open Classical in
theorem zdy.dec {X:Prop} {n:Nat} {W W':World} {e:Ending} (h:zdy X n W e W'):e=.returned ↑(decide X:Bool)∧Below n W W':=by
 obtain ⟨b,rfl,a,c⟩:=h;refine ⟨?_,c⟩
 cases b with
 |true=>rw[decide_eq_true (a.1 rfl)]
 |false=>rw[decide_eq_false fun h=>by cases a.2 h]
theorem zs5 {w:World} {b1 b2 j k l m:Nat} {a c:Acc} (b:AccAt w b1 j l a) (d:AccAt w b2 k m c) (g:zaR a.M) (h:zaR c.M):
  Calls Tryz.prog 66 #[.pointer (some ⟨b1,0,none⟩),.pointer (some ⟨b2,0,none⟩)] w fun e w'=>e=.returned ↑(zfE a c:Bool)∧Below w w w':=by
 have H:=hid (zrA b d g h);clear b d g h;go_enter Tryz.func66,Tryz.ntmps66;go_wp2_with fail
 refine H.out.mono ?_;rintro e n ⟨rfl,f⟩;have i:=hid f;clear f;go_wp2_with fail
 go_ret;exact ⟨rfl,i.out⟩
def zxq (H1 H2:House):Prop:=H1.accs=H2.accs∧H1.names=H2.names∧H1.now=H2.now∧H1.book.length=H2.book.length∧H1.sales=H2.sales∧H1.lots=H2.lots
def zky (a c:List Acc) (k:Nat):Bool:=match a[k]?,c[k]? with|some x,some y=>zfE x y|_,_=>false
theorem zuR {a c:List Acc}:(a.length=c.length∧∀k,k<a.length→zky a c k=true)↔a=c:=by
 constructor
 ·rintro ⟨f,e⟩;refine List.ext_getElem? fun k=>?_;by_cases b:k<a.length
  ·have d:=e k b;unfold zky at d;rw[gE b,gE (by omega)] at d ⊢;rw[same_eq.1 d]
  ·rw[List.getElem?_eq_none (by omega),List.getElem?_eq_none (by omega)]
 ·rintro rfl;refine ⟨rfl,fun k b=>?_⟩;unfold zky;rw[gE b];exact same_eq.2 rfl
open Classical in
noncomputable def zkz (a c:List LotS) (k:Nat):Bool:=match a[k]?,c[k]? with|some x,some y=>decide (x=y)|_,_=>false
theorem zuS {a c:List LotS}:(a.length=c.length∧∀k,k<a.length→zkz a c k=true)↔a=c:=by
 constructor
 ·rintro ⟨f,e⟩;refine List.ext_getElem? fun k=>?_;by_cases d:k<a.length
  ·have b:=e k d;unfold zkz at b;rw[gE d,gE (by omega)] at b ⊢;simp only[decide_eq_true_eq] at b;rw[b]
  ·rw[List.getElem?_eq_none (by omega),List.getElem?_eq_none (by omega)]
 ·rintro rfl;refine ⟨rfl,fun k d=>?_⟩;unfold zkz;rw[gE d]
  simp
theorem zwh {W:World} {q r:Nat→Part} {n o:Nat} {l m:Value} {a c:List Acc} (t:zcs W q l n a) (v:zcs W r m o c) (y:zba a) (z:zba c) (x:a.length≤1000000):
  Calls Tryz.prog 65 #[l,m,.func (.func 66) #[] #[]] W fun e W'=>zdy (a=c) W.heap.size W e W':=by
 obtain ⟨E,I,i,A⟩:=t;obtain ⟨F,J,j,B⟩:=v;obtain ⟨C,G,rfl⟩:=i.form;obtain ⟨D,H,rfl⟩:=j.form;have:=zuN (p:=zky a c) i.sl j.sl x fun k w f g h=>by
  have b:a[k]? =some a[k]:=gE f;have d:c[k]? =some c[k]:=gE g;have s:zky a c k=zfE a[k] c[k]:=by unfold zky;rw[b,d]
  rw[s];exact zs5 ((A k _ b).1.grow h) ((B k _ d).1.grow h) (Acc.Ok.rise (y _ (mG b)).1) (Acc.Ok.rise (z _ (mG d)).1)
 rwa [show (a.length=c.length∧∀k,k<a.length→zky a c k=true)=(a=c) from propext zuR] at this
theorem zwi {W:World} {g i:Nat→Part} {r t:Value} {a c:List LotS} (x:zer W g r a) (y:zer W i t c) (B:a.length≤1000000) (C:∀l∈a,l.stands.length≤1000000∧∀s∈l.stands,s.offers.length≤1000000000000):
  Calls Tryz.prog 70 #[r,t,.func (.func 71) #[] #[]] W fun e W'=>zdy (a=c) W.heap.size W e W':=by
 obtain ⟨H,o,D⟩:=x;obtain ⟨I,q,E⟩:=y;obtain ⟨F,J,rfl⟩:=o.form;obtain ⟨G,K,rfl⟩:=q.form;have:=zuO (p:=zkz a c) o.sl q.sl B fun k w d f n=>by
  have b:a[k]? =some a[k]:=gE d;have j:c[k]? =some c[k]:=gE f;have v:zkz a c k=@decide (a[k]=c[k]) (Classical.propDecidable _):=by unfold zkz;rw[b,j]
  rw[v];have m:=C _ (mG b);refine (zs4 ((D k _ b).step (T':=g) (Chg.of (fun _=>False) n) (fun _ _=>id) fun _ _=>rfl) ((E k _ j).step (T':=i) (Chg.of (fun _=>False) n) (fun _ _=>id) fun _ _=>rfl) m.1 m.2).mono fun e L h=>?_;obtain ⟨z,A⟩:=zdy.dec h;exact ⟨by rw[z],A⟩
 rwa [show (a.length=c.length∧∀k,k<a.length→zkz a c k=true)=(a=c) from propext zuS] at this
theorem zfo {W:World} {T1 T2:Nat→Part} {h1 h2 K1 K2:Nat} {H1 v:House} (z:zaf W T1 h1 K1 H1) (A:zaf W T2 h2 K2 v) (c:HInv H1) (Q:HInv v):
  Calls Tryz.prog 23 #[.pointer (some ⟨h1,0,none⟩),.pointer (some ⟨h2,0,none⟩)] W fun e W'=>zdy (zxq H1 v) W.heap.size W e W':=by
 obtain ⟨pn1,pc1,va1,vl1,vb1,vs1,o⟩:=id z;obtain ⟨pn2,pc2,va2,vl2,vb2,vs2,p⟩:=id A;obtain ⟨c0,c1,c2,c3,c4,c5,lc⟩:=o.cells;obtain ⟨d0,d1,d2,d3,d4,d5,ld⟩:=p.cells;obtain ⟨vo1,V,_⟩:=o.book;obtain ⟨vo2,X,_⟩:=p.book;obtain ⟨B1,x1,Y⟩:=V.form;obtain ⟨B2,x2,Z⟩:=X.form;subst Y Z;have t:H1.names.length≤1000000:=by have:=c.nlen;omega
 have q:H1.accs.length≤1000000:=by have:=c.nlen;have:=c.names;omega
 have r:H1.lots.length≤1000000:=by have:=c.llen;omega
 have HLB:=hid (show ∀l∈H1.lots,l.stands.length≤1000000∧∀s∈l.stands,s.offers.length≤1000000000000 from fun l hl=>⟨by have h1:=(c.lots l hl).few;omega,fun s hs=>by have:=(c.lots l hl).offs s hs;omega⟩);have HSB:=hid (show H1.sales.length≤1000000000000 from by
  have h1:=c.sales;have h2:zb5 H1.lots≤H1.lots.length:=List.countP_le_length
  omega)
 have y:=hid (And.intro t (And.intro q r));obtain ⟨n1,D⟩:=nm (H1.book.length);obtain ⟨n2,E⟩:=nm (v.book.length);obtain ⟨t1,F⟩:=nm (H1.now);obtain ⟨t2,G⟩:=nm (v.now);obtain ⟨dn,C⟩:=nm ((t1==t2));obtain ⟨dl,B⟩:=nm (((n1:Int)==(n2:Int)));have N:=hid (show dn=true↔H1.now=v.now by rw[C,F,G];simp);have M:=hid (show dl=true↔H1.book.length=v.book.length by rw[B,D,E,beq_iff_eq];exact Int.ofNat_inj);have hdn':=C.symm;have hdl':=B.symm;rw[←D] at c4;rw[←E] at d4;have HT1:=hid F;have HT2:=hid G;have O:=hid z;have P:=hid A;have m:=hid o;have n:=hid p;have HO:=hid (And.intro c.accs Q.accs);clear z A o p c Q V X t q r D E F G C B c3 d3;go_enter Tryz.func23,Tryz.ntmps23;go_wp2_with fail
 refine (zbL O.out).mono ?_;rintro e w1 ⟨rfl,i⟩;rw[i];clear i;go_wp2_with fail
 refine (zbL P.out).mono ?_;rintro e w1 ⟨rfl,i⟩;rw[i];clear i;go_wp2_with fail
 refine zad (Below W W) [] (by kernel_rfl) (bR.drew) (fun a=>?_);refine tp 0 a ?_;refine tp 1 a ?_;refine tp 2 a ?_;refine tp 3 a ?_;have k:=hid fun (w':World) (b:(Below W W) w')=>And.intro (qc b c1 lc)<|qc b d1 ld;refine tl 4 a k ?_;refine tp 5 a ?_;refine tp 6 a ?_;refine tp 7 a ?_;refine tp 8 a ?_;refine tl 9 a k ?_;refine stp 10 fun K d=>?_;go_simp;refine (zwh (m.out.grow a).accs (n.out.grow a).accs HO.out.1 HO.out.2 y.out.2.1).mono ?_;rintro e w3 ⟨b1,rfl,R,f⟩;have H:=hid R;have x:=hid (a.trans (f.mono a.size));clear R f;refine d.out _ _ ?_ (fun a=>?_)
 ·exact x.out
 clear d K
 try simp only[Act.put,pb,pz,ps]
 refine tp 11 a ?_;refine zac (by kernel_rfl) ?_ _;clear c1 d1 a
 cases b1 with
 |false=>
  go_wp2_with fail
  refine zad (Below W W) [] (by kernel_rfl) (x.out.drew) (fun a=>?_);refine tp 0 a ?_;refine tp 1 a ?_;refine zaa 2 a ?_;refine zaa 3 a ?_;refine zaa 4 a ?_;refine zaa 5 a ?_;refine zaa 6 a ?_;refine zaa 7 a ?_;refine zaa 8 a ?_;refine zaa 9 a ?_;refine zaa 10 a ?_;refine zaa 11 a ?_;refine zaa 12 a ?_;refine tp 13 a ?_;refine tp 14 a ?_;refine zaa 15 a ?_;refine zaa 16 a ?_;refine zaa 17 a ?_;refine zaa 18 a ?_;refine zaa 19 a ?_;refine tp 20 a ?_;refine tp 21 a ?_;refine zaa 22 a ?_;refine zaa 23 a ?_;refine zaa 24 a ?_;refine zaa 25 a ?_;refine zaa 26 a ?_;refine zaa 27 a ?_;refine zaa 28 a ?_;refine zaa 29 a ?_;refine zaa 30 a ?_;refine zaa 31 a ?_;refine zaa 32 a ?_;refine zaa 33 a ?_;refine zaa 34 a ?_;refine tp 35 a ?_;refine tp 36 a ?_;refine zaa 37 a ?_;refine zaa 38 a ?_;refine zaa 39 a ?_;refine zaa 40 a ?_;refine zaa 41 a ?_;refine zaa 42 a ?_;refine zaa 43 a ?_;refine zaa 44 a ?_;refine zaa 45 a ?_;refine zaa 46 a ?_;refine zaa 47 a ?_;refine tp 48 a ?_;refine tp 49 a ?_;refine zaa 50 a ?_;refine zaa 51 a ?_;refine zaa 52 a ?_;refine zaa 53 a ?_;refine zaa 54 a ?_;refine zaa 55 a ?_;refine zaa 56 a ?_;refine zaa 57 a ?_;refine zaa 58 a ?_;refine zaa 59 a ?_;refine zaa 60 a ?_;refine tp 61 a ?_;refine tp 62 a ?_;refine zac (by kernel_rfl) ?_ _;go_wp2_with fail
  go_ret;exact ⟨false,by rfl,⟨fun h=>(by cases h),fun h=>(by cases H.out.2 h.1)⟩,a⟩
 |true=>
  go_wp2_with fail
  refine zad (Below W W) [] (by kernel_rfl) (x.out.drew) (fun a=>?_);refine tp 0 a ?_;refine tp 1 a ?_;refine tp 2 a ?_;refine tp 3 a ?_;refine tp 4 a ?_;refine tp 5 a ?_;have k:=hid fun (w':World) (b:(Below W W) w')=>And.intro (qc b c0 lc)<|And.intro (qc b d0 ld)<|And.intro (qc b c2 lc)<|And.intro (qc b d2 ld)<|And.intro (qc b c4 lc)<|And.intro (qc b d4 ld)<|And.intro (qc b c5 lc)<|qc b d5 ld;refine tl 6 a k ?_;refine tp 7 a ?_;refine tp 8 a ?_;refine tp 9 a ?_;refine tp 10 a ?_;refine tl 11 a k ?_;refine stp 12 fun K d=>?_;go_simp;refine (zs1 (m.out.grow a).names (n.out.grow a).names y.out.1).mono ?_;rintro e w4 ⟨b2,rfl,S,g⟩;have I:=hid S;have HB4:=hid (a.trans (g.mono a.size));clear S g;refine d.out _ _ ?_ (fun a=>?_)
  ·exact HB4.out
  clear d K
  try simp only[Act.put,pb,pz,ps]
  cases b2 with
  |false=>
   refine tp 13 a ?_;refine tp 14 a ?_;refine zaa 15 a ?_;refine zaa 16 a ?_;refine zaa 17 a ?_;refine zaa 18 a ?_;refine zaa 19 a ?_;refine tp 20 a ?_;refine tp 21 a ?_;refine zaa 22 a ?_;refine zaa 23 a ?_;refine zaa 24 a ?_;refine zaa 25 a ?_;refine zaa 26 a ?_;refine zaa 27 a ?_;refine zaa 28 a ?_;refine zaa 29 a ?_;refine zaa 30 a ?_;refine zaa 31 a ?_;refine zaa 32 a ?_;refine zaa 33 a ?_;refine zaa 34 a ?_;refine tp 35 a ?_;refine tp 36 a ?_;refine zaa 37 a ?_;refine zaa 38 a ?_;refine zaa 39 a ?_;refine zaa 40 a ?_;refine zaa 41 a ?_;refine zaa 42 a ?_;refine zaa 43 a ?_;refine zaa 44 a ?_;refine zaa 45 a ?_;refine zaa 46 a ?_;refine zaa 47 a ?_;refine tp 48 a ?_;refine tp 49 a ?_;refine zaa 50 a ?_;refine zaa 51 a ?_;refine zaa 52 a ?_;refine zaa 53 a ?_;refine zaa 54 a ?_;refine zaa 55 a ?_;refine zaa 56 a ?_;refine zaa 57 a ?_;refine zaa 58 a ?_;refine zaa 59 a ?_;refine zaa 60 a ?_;refine tp 61 a ?_;refine tp 62 a ?_;refine zac (by kernel_rfl) ?_ _;go_wp2_with fail
   go_ret;exact ⟨false,by rfl,⟨fun h=>(by cases h),fun h=>(by cases I.out.2 h.2.1)⟩,a⟩
  |true=>
   refine tp 13 a ?_;refine tp 14 a ?_;refine tp 15 a ?_;refine tp 17 a ?_;refine stp 16 fun K d=>?_;go_simp;refine (zkv (O.out.grow a)).mono ?_;rintro e w5 ⟨rfl,j⟩;rw[j,←HT1.out];clear j;refine d.out _ _ ?_ (fun a=>?_)
   ·exact a
   clear d K
   try simp only[Act.put,pb,pz,ps]
   refine stp 18 fun K d=>?_;go_simp;refine (zkv (P.out.grow a)).mono ?_;rintro e w5 ⟨rfl,j⟩;rw[j,←HT2.out];clear j;refine d.out _ _ ?_ (fun a=>?_)
   ·exact a
   clear d K
   try simp only[Act.put,pb,pz,ps]
   refine tp 19 a ?_
   cases dn with
   |false=>
    refine tp 20 a ?_;refine tp 21 a ?_;refine zaa 22 a ?_;refine zaa 23 a ?_;refine zaa 24 a ?_;refine zaa 25 a ?_;refine zaa 26 a ?_;refine zaa 27 a ?_;refine zaa 28 a ?_;refine zaa 29 a ?_;refine zaa 30 a ?_;refine zaa 31 a ?_;refine zaa 32 a ?_;refine zaa 33 a ?_;refine zaa 34 a ?_;refine tp 35 a ?_;refine tp 36 a ?_;refine zaa 37 a ?_;refine zaa 38 a ?_;refine zaa 39 a ?_;refine zaa 40 a ?_;refine zaa 41 a ?_;refine zaa 42 a ?_;refine zaa 43 a ?_;refine zaa 44 a ?_;refine zaa 45 a ?_;refine zaa 46 a ?_;refine zaa 47 a ?_;refine tp 48 a ?_;refine tp 49 a ?_;refine zaa 50 a ?_;refine zaa 51 a ?_;refine zaa 52 a ?_;refine zaa 53 a ?_;refine zaa 54 a ?_;refine zaa 55 a ?_;refine zaa 56 a ?_;refine zaa 57 a ?_;refine zaa 58 a ?_;refine zaa 59 a ?_;refine zaa 60 a ?_;refine tp 61 a ?_;refine tp 62 a ?_;refine zac (by kernel_rfl) ?_ _;go_wp2_with fail
    go_ret;exact ⟨false,by rfl,⟨fun h=>(by cases h),fun h=>(by cases N.out.2 h.2.2.1)⟩,a⟩
   |true=>
    refine tp 20 a ?_;refine tp 21 a ?_;refine tp 22 a ?_;refine tp 23 a ?_;refine tp 24 a ?_;refine tp 25 a ?_;refine tl 26 a k ?_;refine tp 27 a ?_;refine tp 28 a ?_;refine tp 29 a ?_;refine tp 30 a ?_;refine tp 31 a ?_;refine tl 32 a k ?_;refine tp 33 a ?_;refine tp 34 a ?_
    cases dl with
    |false=>
     refine tp 35 a ?_;refine tp 36 a ?_;refine zaa 37 a ?_;refine zaa 38 a ?_;refine zaa 39 a ?_;refine zaa 40 a ?_;refine zaa 41 a ?_;refine zaa 42 a ?_;refine zaa 43 a ?_;refine zaa 44 a ?_;refine zaa 45 a ?_;refine zaa 46 a ?_;refine zaa 47 a ?_;refine tp 48 a ?_;refine tp 49 a ?_;refine zaa 50 a ?_;refine zaa 51 a ?_;refine zaa 52 a ?_;refine zaa 53 a ?_;refine zaa 54 a ?_;refine zaa 55 a ?_;refine zaa 56 a ?_;refine zaa 57 a ?_;refine zaa 58 a ?_;refine zaa 59 a ?_;refine zaa 60 a ?_;refine tp 61 a ?_;refine tp 62 a ?_;refine zac (by kernel_rfl) ?_ _;go_wp2_with fail
     go_ret;exact ⟨false,by rfl,⟨fun h=>(by cases h),fun h=>(by cases M.out.2 h.2.2.2.1)⟩,a⟩
    |true=>
     refine tp 35 a ?_;refine tp 36 a ?_;refine tp 37 a ?_;refine tp 38 a ?_;refine tp 39 a ?_;refine tp 40 a ?_;refine tl 41 a k ?_;refine tp 42 a ?_;refine tp 43 a ?_;refine tp 44 a ?_;refine tp 45 a ?_;refine tl 46 a k ?_;refine stp 47 fun K d=>?_;go_simp;refine (zsZ (m.out.grow a).sales.sl (n.out.grow a).sales.sl HSB.out).mono ?_;rintro e w6 ⟨b3,rfl,f,T⟩;have HB6:=hid (a.trans (T.mono a.size));have L:=hid f;clear f T;refine d.out _ _ ?_ (fun a=>?_)
     ·exact HB6.out
     clear d K
     try simp only[Act.put,pb,pz,ps]
     cases b3 with
     |false=>
      refine tp 48 a ?_;refine tp 49 a ?_;refine zaa 50 a ?_;refine zaa 51 a ?_;refine zaa 52 a ?_;refine zaa 53 a ?_;refine zaa 54 a ?_;refine zaa 55 a ?_;refine zaa 56 a ?_;refine zaa 57 a ?_;refine zaa 58 a ?_;refine zaa 59 a ?_;refine zaa 60 a ?_;refine tp 61 a ?_;refine tp 62 a ?_;refine zac (by kernel_rfl) ?_ _;go_wp2_with fail
      go_ret;exact ⟨false,by rfl,⟨fun h=>(by cases h),fun h=>(by cases L.out.2 h.2.2.2.2.1)⟩,a⟩
     |true=>
      refine tp 48 a ?_;refine tp 49 a ?_;refine tp 50 a ?_;refine tp 51 a ?_;refine tp 52 a ?_;refine tp 53 a ?_;refine tl 54 a k ?_;refine tp 55 a ?_;refine tp 56 a ?_;refine tp 57 a ?_;refine tp 58 a ?_;refine tl 59 a k ?_;refine stp 60 fun K d=>?_;go_simp;refine (zwi (m.out.grow a).lots (n.out.grow a).lots y.out.2.2 HLB.out).mono ?_;rintro e w8 ⟨b4,rfl,g,U⟩;have HB8:=hid (a.trans (U.mono a.size));have J:=hid g;clear g U;refine d.out _ _ ?_ (fun a=>?_)
      ·exact HB8.out
      clear d K
      try simp only[Act.put,pb,pz,ps]
      refine tp 61 a ?_;refine tp 62 a ?_;refine zac (by kernel_rfl) ?_ _;go_wp2_with fail
      go_ret;exact ⟨b4,by rfl,⟨fun h=>⟨H.out.1 (by trivial),I.out.1 (by trivial),N.out.1 (by trivial),M.out.1 (by trivial),L.out.1 (by trivial),J.out.1 h⟩,fun h=>J.out.2 h.2.2.2.2.2⟩,a⟩
end Ho
namespace Ho
open Go.RowKit Vb Ac
section
variable {W0 wr w':World} {xb rb gb h g:Nat} {mc:Array Value} {T Tg T':Nat→Part} {K Kg K':Nat} {H Hg H':House}
theorem LawAt.keep {X:Nat→Prop} (h0:LawAt W0 xb rb gb h g mc wr T Tg K Kg H Hg) (hc:Chg X wr w') (hX:∀b,X b→(T b=.no∧Tg b=.no)∧(b≠xb∧b≠rb∧b≠gb)∧W0.heap.size≤b):LawAt W0 xb rb gb h g mc w' T Tg K Kg H Hg:=
 ⟨h0.hh.keep hc fun b hb e=>hb (hX b e).1.1,h0.gg.keep hc fun b hb e=>hb (hX b e).1.2,h0.apart,h0.bx.chg hc fun e=>(hX _ e).2.1.1 rfl,h0.rx.chg hc fun e=>(hX _ e).2.1.2.1 rfl,h0.gx.chg hc fun e=>(hX _ e).2.1.2.2 rfl,h0.tx,h0.far,h0.bel.trans (hc.below h0.bel.size fun b hb e=>by have:=(hX b e).2.2;omega)⟩
def ziT (W0:World) (xb rb gb h g:Nat) (mc:Array Value) (lo D:Nat) (T:Nat→Part) (K:Nat) (H:House) (hi m:Nat) (pre:List BkY) (W:World):Prop:=
 ∃Tq Kq,LawAt W0 xb rb gb h g mc W T Tq K Kq H (stH (pre.map (·.2.1)))∧Kq≤pre.length*KD∧(∀b,lo≤b→b<max hi (D+2)→Tq b=.no)∧∀b,m≤b→Tq b=.no
theorem zoR {W0 A B:World} {lo D a m:Nat} {pre:List BkY} (d:ziT W0 xb rb gb h g mc lo D T K H a m pre A) (k:Below A A B):ziT W0 xb rb gb h g mc lo D T K H a m pre B:=by
 obtain ⟨c,b,e,f,i,j⟩:=d;exact ⟨c,b,e.grow k,f,i,j⟩
theorem zqQ {W0 A:World} {lo D d m l:Nat} {pre:List BkY} {o:Obj} (i:ziT W0 xb rb gb h g mc lo D T K H d m pre A) (t:l=D∨l=D+1) (r:lo≤D) (p:∀b,lo≤b→T b=.no) (q:xb<D∧rb<D∧gb<D) (s:W0.heap.size≤lo):ziT W0 xb rb gb h g mc lo D T K H d m pre (A.putObj l o):=by
 obtain ⟨f,e,j,k,a,n⟩:=i;refine ⟨f,e,j.keep (Chg.grown (grownBy_putObj' A l o)) fun b c=>?_,k,a,n⟩;obtain rfl:b=l:=by first|exact Option.some.inj c|exact (Option.some.inj c).symm
 exact ⟨⟨p b (by omega),a b (by omega) (by omega)⟩,⟨by omega,by omega,by omega⟩,by omega⟩
end
end Ho
namespace Ho
open Go.RowKit Vb Ac
attribute [local go_sem] Oper.semAt_some
theorem zmO (W:World) (a b:AnsR):(Op.equalIn (9999+1) 27 a.agg b.agg).run Tryz.prog W=.ok (decide (a=b)) W:=by
 have k:Tryz.prog.underlying 27=some (.struct (Tryz.prog.fieldsOf 27)):=by kernel_rfl
 have l:Tryz.prog.stoodInHeld 27=false:=by kernel_rfl
 obtain ⟨c,d,f⟩:=a;obtain ⟨h,i,j⟩:=b;rw[AnsR.agg,AnsR.agg,run_equalIn_agg W 9999 27 _ _ k l];have u2:=Tryz.underlying2;have e:=Tryz.isAgg2;have m:=Tryz.sizeOf2;have u3:=Tryz.underlying25;have g:=Tryz.isAgg25;have n:=Tryz.sizeOf25;simp only[Program.fieldsOf,Tryz.underlying27];go_simp
 try simp only[AnsR.mk.injEq]
 by_cases h1:c=h
 case neg=>simp[h1]
 subst h1;by_cases h2:d=i
 case neg=>simp[h2]
 subst h2;by_cases h3:f=j
 case neg=>simp[h3]
 subst h3
 simp
theorem zwj (W:World) (a b:AnsR):(binOp .neq 27 a.agg b.agg).run Tryz.prog W=.ok ↑(!decide (a=b):Bool) W:=by
 rw[run_neq_struct,show (10000:Nat)=9999+1 from rfl,zmO];rfl
theorem zwk (W:World) (a b:AnsR):(binOp .eql 27 a.agg b.agg).run Tryz.prog W=.ok ↑(decide (a=b):Bool) W:=by
 rw[run_eql_struct,show (10000:Nat)=9999+1 from rfl,zmO];rfl
theorem zl3 {os:List OrderR} {G:OrderR} {v:Value} {mA:Option Addr} {mcap:Nat} {W:World} (hos:zqK W v os) (hmo:zae W (fun b=>b<W.heap.size) (.slice mA G.offers.length mcap) G.offers):
  Calls Tryz.prog 6 #[v,G.agg (.slice mA G.offers.length mcap)] W fun e W'=>e=.returned ↑true∧Below W W W':=by
 obtain ⟨vo,hrow,hoff⟩:=hos;obtain ⟨hlen,A,cap,rfl,hnc,hcap,_⟩:=id hrow;obtain ⟨n,hn⟩:=nm (os.length);rw[←hn] at hrow hnc ⊢;obtain ⟨mv,hmv⟩:=nm (Value.slice mA G.offers.length mcap);rw[←hmv];obtain ⟨mc,hmc⟩:=nm ((G.cells mv).toArray);have HROW:=hid hrow;have HOFF:=hid hoff;have HN:=hid hn;have HMO:=hid hmo;have HMV:=hid hmv;have HMC:=hid hmc;have HNB:=hid (show n≤maxLen from lT hnc hcap)
 show Calls Tryz.prog 6 #[.slice A n cap,.agg (G.cells mv).toArray] W _
 rw[←hmc];clear hrow hoff hn hmo hmv hmc hlen hnc hcap;refine (callsIn_wide (n:=3)).1 (callsIn_of_wp_marks Tryz.func6 rfl trivial ((wpIn_wide (n:=3)).2 ?_));simp only[Tryz.ntmps6,List.size_toArray,List.length_cons,List.length_nil,Nat.reduceAdd,Nat.reduceSub,Array.replicate_succ,Array.replicate_zero,List.push_toArray,List.append_toArray,List.nil_append,List.cons_append];obtain ⟨W1,hW1⟩:=nm ((W.alloc (.cells mc 36)).alloc (.cells #[false] 4));have hb1:Below W W W1:=by rw[hW1];exact (qA _).alloc (by simp) _
 have hxb:Ac.Blk W1 W.heap.size 36 mc:=by rw[hW1];exact (Ac.Blk.new W 36 mc).alloc _
 have hrb:Ac.Blk W1 (W.heap.size+1) 4 #[false]:=by rw[hW1];exact Ac.Blk.new' _ _ (by simp)
 have hs1:W1.heap.size=W.heap.size+2:=by rw[hW1];simp
 have HB1:=hid hb1;have HXB:=hid hxb;have HRB:=hid hrb;have HS1:=hid hs1;clear hb1 hxb hrb hs1;go_wp2_with fail
 rw[←hW1];clear hW1;refine (zgf W1).mono ?_;rintro e W2 ⟨h,T,rfl,hH,hb2,hno⟩;have HH:=hid hH;have HB2:=hid hb2;have HNO:=hid hno;clear hH hb2 hno;go_wp2_with fail
 refine (zgf W2).mono ?_;rintro e W3 ⟨g,Tg,rfl,hG,aa,P⟩;obtain ⟨W4,hW4⟩:=nm (W3.alloc (.cells #[.pointer (some ⟨g,0,none⟩)] 23));have hb4:Below W3 W3 W4:=by rw[hW4];exact qA _
 have LAW:=hid (show LawAt W W.heap.size (W.heap.size+1) W3.heap.size h g mc W4 T Tg 0 0 zb1 zb1 from by
  have M:=HS1.out;have h2:=HB2.out.size;have h3:=aa.size;have h4:=hb4.size;have hb34:=aa.trans (hb4.mono h3);refine ⟨HH.out.grow hb34,hG.grow hb4,fun b r=>HH.out.out b (Nat.le_of_not_lt fun e=>r (P b e)),(HXB.out.grow HB2.out).grow hb34,(HRB.out.grow HB2.out).grow hb34,by rw[hW4];exact Ac.Blk.new _ _ _,⟨⟨HNO.out _ (by omega),P _ (by omega)⟩,⟨HNO.out _ (by omega),P _ (by omega)⟩,⟨HH.out.out _ h3,hG.out _ lR⟩⟩,fun b r=>⟨HNO.out b (by omega),P b (by omega)⟩,HB1.out.trans ((HB2.out.trans (hb34.mono h2)).mono (by omega))⟩)
 have gl4:W4.cell? ⟨W3,0,none⟩=some (.pointer (some ⟨g,0,none⟩)):=LAW.out.gx.cell 0;clear hG aa P hb4
 go_upto_block 0 with fail
 rw[←hW4];clear hW4;have hnm:=HNB.out;unfold maxLen at hnm
 go_cut [] from 7 to 121 (fun wx=>∃Te K H,LawAt W W.heap.size (W.heap.size+1) W3.heap.size h g mc wx Te Tg K 0 H zb1∧Reach H∧H.book.length≤100∧K≤100*KD)
 case first=>
  go_wp2_with fail
  go_loopw [7] (fun i wr=>∃(k:Nat) (Tk:Nat→Part) (K:Nat) (H:House),k≤n∧k≤100∧i=.int .i64 k∧LawAt W W.heap.size (W.heap.size+1) W3.heap.size h g mc wr Tk Tg K 0 H zb1∧Reach H∧H.book.length≤k∧K≤k*KD) (fun i _=>100-(intOf i).toNat)
  case atStart=>exact ⟨0,T,0,zb1,zL,by omega,rfl,LAW.out,zjT,lR,zL⟩
  case round=>
   obtain ⟨k,Tk,K,H,hk,hk100,rfl,O,ab,hbk,f⟩:=hrel;have U:=hid O;have d:=hid ab;have z:=hid hbk;have X:=hid f;clear O ab hbk f gl4;by_cases hlt:k<n
   ·by_cases hl1:k<100
    ·obtain ⟨o,ho⟩:∃o,os[k]? =some o:=⟨_,gE (by rw[←HN.out];exact hlt)⟩;obtain ⟨q,off,hA,hqR,hq,hrg⟩:=zgn HROW.out ho hlt;subst hA;obtain ⟨oA,oc,hoA⟩:=zdJ (HOFF.out k o ho);have HOF:=hid (hoA▸HOFF.out k o ho);rw[hoA] at hrg;have HCS:=hid (show ∀w,Below W W w→w.rangeAt q (off+k*18) (o.cells (.slice oA o.offers.length oc)) from fun w r j v hj=>qc r (hrg j v hj) hq);have e5:(0:Int)≤(k:Int):=by omega
     have e6:(k:Int)<(n:Int):=by omega
     have e7:(k:Int)<100:=by omega
     have hwr:IntKind.i64.wrap ((k:Int)+1)=(k:Int)+1:=iW _ (by omega);have HKM:=hid (show K+KD<maxLen from by
      have M:=X.out;have h2:=Nat.mul_le_mul_right KD hk100;unfold KD maxLen at*
      omega)
     obtain ⟨on,hon⟩:=nm (o.offers.length);have HON:=hid hon;clear ho hoA hrg;go_wp2_with fail
     refine (zmN U.out.hh d.out.inv d.out.cinv (by have:=z.out;omega)).mono ?_;rintro e w1 ⟨hc,Tc,rfl,hC,hTc,hcs,hb1⟩;have HC:=hid hC;have HTC:=hid hTc;have HB1':=hid hb1;have HL1:=hid (U.out.grow hb1);clear hC hTc hb1
     go_wp2_with (refine wpList_load_mid rfl 36 (.tmp 37) rfl q (off+k*18) rfl (o.cells (.slice oA o.offers.length oc)) _ (HCS.out _ HL1.out.bel) Tryz.underlying36 rfl (by kernel_rfl) ?_)
     refine (zgA HL1.out.hh d.out.inv o (A:=oA) (c:=oc) (R:=fun b=>b<W.heap.size) (zae.grow HOF.out HL1.out.bel) (fun b _ hr=>(HL1.out.far b hr).1) (fun L=>by have:=zfn d.out.inv L;omega) HKM.out (by have:=z.out;omega)).mono ?_;rintro e w2 ⟨rfl,T2,hH2,hm2⟩;obtain ⟨w3,S⟩:=nm (w2.alloc (.cells #[.int .i64 (doA H o).number,.int .i64 (doA H o).err,.int .i64 (doA H o).value] 27));have aa:Below w2 w2 w3:=by rw[S];exact qA _
     have Z:Ac.Blk w3 w2.heap.size 27 #[.int .i64 (doA H o).number,.int .i64 (doA H o).err,.int .i64 (doA H o).value]:=by rw[S];exact Ac.Blk.new _ _ _
     have HL3:=hid ((HL1.out.moveH hH2 hm2).grow aa);have HC3:=hid (show zaf w3 Tc hc K H from (HC.out.keep hm2.chg (fun b r=>by
      by_cases M:b<wr.heap.size
      ·have h2:=HTC.out b M;by_cases h3:Tk b=.old
       ·unfold Own;rw[h3];simp
       ·rw[if_neg h3] at h2;exact absurd h2 r
      ·exact za9 (U.out.hh.out b (by omega)))).grow aa)
     have hbk':(doH H o).book.length≤k+1:=by
      rw[zdI];have:=z.out
      split<;>simp<;>omega
     have HBK':=hid hbk';have HS3:=hid (show Below w1 w1 w3∨True from .inr trivial);have HAN:=hid (show (doE H o=0→doA H o=⟨H.book.length,0,ze4 H o⟩∧(doH H o).book.length=H.book.length+1)∧(¬doE H o=0→doA H o=⟨0,doE H o,0⟩∧doH H o=H) from ⟨fun L=>⟨zoa L,by rw[zdI,if_pos L];simp⟩,fun L=>zwc L⟩);clear hH2 hm2 aa hbk';obtain ⟨H2,hH2⟩:=nm (doH H o);have ac:=hid (show Reach H2 from hH2▸d.out.next o);rw[←hH2] at HL3 HBK' HAN;obtain ⟨an,hA2⟩:=nm (doA H o);rw[←hA2] at Z S HAN;simp only[←hA2];obtain ⟨a1,a2,a3⟩:=an;simp only at Z S;have y0:=Z.cell 0;have y1:=Z.cell 1;have y2:=Z.cell 2;have p:=Z.lt;have HDE:=hid (show doE H o=a2 from by
      by_cases L:doE H o=0
      ·have:=(HAN.out.1 L).1;injection this with e1 e2 e3;rw[e2,L]
      ·have:=(HAN.out.2 L).1;injection this with e1 e2 e3;rw[e2])
     clear Z hH2 hA2;by_cases hz:a2=0
     ·have N:=HAN.out.1 (HDE.out.trans hz);have M:=N.1;injection M with e1 e2 e3
      have HLEN:=hid N.2;have HA1:=hid e1;have hsub:IntKind.i64.wrap ((H2.book.length:Int)-1)=a1:=by
       rw[e1,N.2];refine (iW _ ?_).trans ?_
       ·have:=z.out;omega
       ·push_cast;omega
      clear N e1 e2 e3;subst hz
      go_upto_region 9 with fail
      rw[←S];clear S;refine zdX (Below w3 w3) [] (by kernel_rfl) (bR.drew) (fun a=>?_);refine tp 0 a ?_;refine tp 1 a ?_;refine tp 2 a ?_;refine tp 3 a ?_;have qq:=hid fun (w':World) (C:(Below w3 w3) w')=>And.intro (qc C y0 p)<|And.intro (qc C y1 p)<|qc C y2 p;refine tl 4 a qq ?_;refine tp 5 a ?_;refine tp 6 a ?_;refine zaa 7 a ?_;refine zaa 8 a ?_;refine zaa 9 a ?_;refine zaa 10 a ?_;refine zaa 11 a ?_;refine zaa 12 a ?_;refine zaa 13 a ?_;refine zaa 14 a ?_;refine zaa 15 a ?_;refine zaa 16 a ?_;refine zaa 17 a ?_;refine tp 18 a ?_;refine tp 19 a ?_;refine tp 20 a ?_;refine tp 21 a ?_;refine tl 22 a qq ?_;refine tp 23 a ?_;refine tp 24 a ?_;refine tp 25 a ?_;refine tl 26 a qq ?_;refine tp 27 a ?_;refine stp 28 fun K f=>?_;go_simp;refine (zoN (HL3.out.hh.grow a)).mono ?_;rintro e w5 ⟨rfl,hw5⟩;rw[hw5];clear hw5;refine f.out _ _ ?_ (fun a=>?_)
      ·exact a
      clear f K
      try simp only[Act.put,pb,pz,ps]
      refine tp 29 a ?_;refine tp 30 a ?_;refine tp 31 a ?_;refine tp 32 a ?_;refine tp 33 a ?_;refine stp 34 fun K f=>?_;go_simp;refine (zfo (HL3.out.hh.grow a) (HC3.out.grow a) ac.out.inv d.out.inv).mono ?_;rintro e w6 ⟨b,rfl,t,D⟩;obtain rfl:b=false:=by
       cases b with
       |false=>rfl
       |true=>exact absurd (t.1 rfl).2.2.2.1 (by have:=HLEN.out;omega)
      have HB6:=hid (a.trans (D.mono a.size));clear t D;refine f.out _ _ ?_ (fun a=>?_)
      ·exact HB6.out
      clear f K
      try simp only[Act.put,pb,pz,ps]
      refine tp 35 a ?_;refine tp 36 a ?_;refine tp 37 a ?_;refine zac (by kernel_rfl) (zcz ?_) _;have HSE:=hid a;clear a y0 y1 y2;go_wp2_with fail
      go_roundw
      case rel=>exact ⟨k+1,T2,K+KD,H2,by omega,by omega,by go_num,HL3.out.grow HSE.out,ac.out,HBK'.out,by rw[Nat.succ_mul];have:=X.out;omega⟩
      case measure=>simp[intOf];omega
     ·have N:=HAN.out.2 (fun e=>hz (HDE.out.symm.trans e));have M:=N.1;injection M with e1 e2 e3
      have HEH:=hid N.2;have hzz:(a2==0)=false:=by simpa using hz
      have hzb:(a2 !=0)=true:=by simpa using hz
      clear N e2;subst e1 e3;have hne:∀W,(binOp .neq 27 (.agg #[(),a2,()]) (.agg #[(),a2,()])).run Tryz.prog W=.ok ↑false W:=fun W=>(zwj W ⟨0,a2,0⟩ ⟨0,a2,0⟩).trans (by simp)
      go_upto_region 9 with fail
      rw[←S];clear S;refine zdX (Below w3 w3) [] (by kernel_rfl) (bR.drew) (fun a=>?_);refine tp 0 a ?_;refine tp 1 a ?_;refine tp 2 a ?_;refine tp 3 a ?_;have qq:=hid fun (w':World) (C:(Below w3 w3) w')=>And.intro (qc C y0 p)<|And.intro (qc C y1 p)<|qc C y2 p;refine tl 4 a qq ?_;refine tp 5 a ?_;refine tp 6 a ?_;refine tl 7 a qq ?_;refine tp 8 a ?_;refine tl 9 a qq ?_;refine tp 10 a ?_;refine tp 11 a ?_;refine tp 12 a ?_;refine tp 13 a ?_;refine tp 14 a ?_;refine stp 15 fun K f=>?_;go_simp;refine (zfo (HL3.out.hh.grow a) (HC3.out.grow a) ac.out.inv d.out.inv).mono ?_;rintro e w6 ⟨b,rfl,t,D⟩;obtain rfl:b=true:=t.2 (by rw[HEH.out];exact ⟨rfl,rfl,rfl,rfl,rfl,rfl⟩);have HB6:=hid (a.trans (D.mono a.size));clear t D;refine f.out _ _ ?_ (fun a=>?_)
      ·exact HB6.out
      clear f K
      try simp only[Act.put,pb,pz,ps]
      refine tp 16 a ?_;refine tp 17 a ?_;refine tp 18 a ?_;refine tp 19 a ?_;refine tp 20 a ?_;refine tp 21 a ?_;refine tl 22 a qq ?_;refine tp 23 a ?_;refine tp 24 a ?_;refine zaa 25 a ?_;refine zaa 26 a ?_;refine zaa 27 a ?_;refine zaa 28 a ?_;refine zaa 29 a ?_;refine zaa 30 a ?_;refine zaa 31 a ?_;refine zaa 32 a ?_;refine zaa 33 a ?_;refine zaa 34 a ?_;refine zaa 35 a ?_;refine tp 36 a ?_;refine tp 37 a ?_;refine zac (by kernel_rfl) (zcz ?_) _;have HSE:=hid a;clear a y0 y1 y2;go_wp2_with fail
      go_roundw
      case rel=>exact ⟨k+1,T2,K+KD,H2,by omega,by omega,by go_num,HL3.out.grow HSE.out,ac.out,HBK'.out,by rw[Nat.succ_mul];have:=X.out;omega⟩
      case measure=>simp[intOf];omega
    ·have HL100:=hid (show k=100 by omega);have e6:(k:Int)<(n:Int):=by omega
     have e7:¬(k:Int)<100:=by omega
     go_wp2_with fail
     go_meet
     case rel=>exact ⟨Tk,K,H,U.out,d.out,by have:=z.out;omega,by rw[←HL100.out];exact X.out⟩
   ·have e6:¬(k:Int)<(n:Int):=by omega
    go_wp2_with fail
    go_meet
    case rel=>exact ⟨Tk,K,H,U.out,d.out,by have:=z.out;omega,lT X.out (Nat.mul_le_mul_right KD hk100)⟩
 case rest=>
  rename World=>V;obtain ⟨T5,K,H,O,ab,hbk,f⟩:=hcut;have U:=hid O;have d:=hid ab;have z:=hid hbk;have X:=hid f;have HLO:=hid (show ∀o∈H.book,o.offers.length≤1099511627776 from fun o ho=>by
   obtain ⟨k,hk⟩:=List.getElem?_of_mem ho;have M:=ab.all k o hk;have h2:=(gS.1 hk).1;have h3:=zfn (ab.part k (by omega)).1.inv M
   omega)
  clear O ab hbk f gl4;go_wp2_with fail
  refine (zob U.out.hh (by have:=z.out;omega)).mono ?_;rintro e V2 ⟨gl,bv,bvo,rfl,J,hgl,hb2⟩;have HBA:=hid J;have HGL:=hid hgl;have I:=hid hb2;have HL2:=hid (U.out.grow hb2);clear J hgl hb2;have heq:∀w,(binOp .eql 67 (zjq gl) .nilFunc).run Tryz.prog w=.ok ↑false w:=fun w=>by kernel_rfl
  unfold zjq at heq ⊢;go_wp2_with fail
  refine (wpIn_wide (n:=3)).1 ?_;refine' zgB (F:=Fence.wide) (n:=3) rfl (by omega) (gf:=72) (lb:=#[.pointer (some ⟨gl,0,none⟩)]) rfl trivial (enters_of Tryz.func72 (by kernel_rfl) rfl)
   (zmJ 2 (by omega) V.heap.size gl T5 bv bvo H.book (by have:=z.out;omega) HLO.out V2 HBA.out) zoc (fun b r=>HBA.out.x_lt r) bR (fun _=>rfl)
   (fun hi m y W'=>ziT W W.heap.size (W.heap.size+1) W3.heap.size h g mc V.heap.size V2.heap.size T5 K H hi m y W')
   (fun hi m s A B h0 r=>zoR h0 r) ?hput ?h0 (fun x=>.cells (x.2.1.cells x.2.2).toArray 36 (0,0)) _ ?assign ?body ?done
  case hput=>
   intro hi m s A' l o h0 hl;have M:=HL2.out.bx.lt;exact zqQ h0 hl I.out.size (fun b r=>U.out.hh.out b r) (by
    have M:=U.out.bx.lt;have h2:=U.out.rx.lt;have h3:=U.out.gx.lt;have h4:=I.out.size;exact ⟨by omega,by omega,by omega⟩) U.out.bel.size
  case h0=>
   intro W0 hW0;exact ⟨Tg,0,HL2.out.grow hW0,zL,fun b r _=>U.out.gg.out b r,fun b r=>U.out.gg.out b (by have M:=hW0.size;have h2:=I.out.size;omega)⟩
  case assign=>
   rintro l x W' g' K' m ⟨⟨xA,xc,hx⟩,_⟩ hg' hK';have hst:=zmM W' x.2.1 xA x.2.1.offers.length xc;rw[←hx] at hst;clear hx;simp only[bkE];unfold zod at hst
   gi_wp2
   rw[←hg'];exact hK'
  case body=>
   rintro hi m l gs y x W' hhi hwg hm2 hgs ⟨Tq,Kq,p,hKq,E,htm⟩ hG hsp hlt;obtain ⟨hk,hnum,htk⟩:=zmL hsp;obtain ⟨⟨xA,xc,hx⟩,hgo⟩:=hG;obtain ⟨num,o,ov⟩:=x;simp only at hk hnum hx hgo hgs;subst hnum hx;rw[htk] at p;have hkl:=(gS.1 hk).1;obtain ⟨Q,J⟩:=d.out.part y.length (by omega);have L:=d.out.all y.length o hk;have hnx:stH ((y++[((y.length:Int),o,Value.slice xA o.offers.length xc)]).map (·.2.1))=doH (stH (H.book.take y.length)) o:=by
    rw[List.map_append,htk];exact zku _ _
   obtain ⟨Hq,hHq⟩:=nm (stH (H.book.take y.length));rw[←hHq] at p Q L J hnx;have hlen:Hq.book.length=y.length:=by rw[J];simp;omega
   have hb100:=z.out;have hKM:Kq+KD<maxLen:=by
    have h2:=Nat.mul_le_mul_right KD (show y.length≤100 by omega);unfold KD maxLen at*
    omega
   have HDO:=hid (zgA p.gg Q.inv o (A:=xA) (c:=xc) (R:=fun b=>m≤b) hgo (fun b _ hr=>htm b hr) (fun _=>by have:=zfn Q.inv L;omega) hKM (by omega));rw[zoa L,hlen] at HDO;have g0:W'.cell? ⟨W3,0,none⟩=some (.pointer (some ⟨g,0,none⟩)):=p.gx.cell 0;have HLA:=hid p;have HGS:=hid (show Ac.Blk W' gs 36 (o.cells (.slice xA o.offers.length xc)).toArray from hgs);have HTG:=hid (And.intro hhi (And.intro hwg E));have HKQ:=hid hKq;have HNX:=hid hnx;have HRQ:=hid Q;clear p hgs hhi hwg E htm hKq hnx Q L J hHq hgo hsp hk hlt htk hKM hm2
   gi_wp2_with (refine zfz rfl 36 (.tmp 12) rfl gs rfl 36 (o.cells (.slice xA o.offers.length xc)).toArray (0,0) _ HGS.out Tryz.underlying36 rfl (by kernel_rfl) ?_)
   refine ⟨trivial,(callsIn_wide.2 HDO.out).mono ?_⟩;rintro e W5 ⟨rfl,T6,hG6,hm6⟩;have HG6:=hid hG6;have HM6:=hid hm6;obtain ⟨dv,hdv⟩:=nm (ze4 Hq o);rw[←hdv];have e9:((y.length:Int)==(y.length:Int))=true:=by simp
   clear hG6 hm6 hdv g0
   gi_wp2
   have hWs:=HGS.out.lt;obtain ⟨hhi,hwg,E⟩:=HTG.out;have hVV:=I.out.size;have hlt:∀b,b<max hi (V2.heap.size+2)→b<W'.heap.size:=fun b r=>by omega
   have hblk:∀b,b<W'.heap.size→Tq b=.no→(W5.alloc (.cells #[y.length,(),dv] 27)).heap[b]? =W'.heap[b]? :=fun b r hn=>(((Below.refl W5.heap.size W5).alloc lR _).block b (lL r HM6.out.chg.size)).trans (HM6.out.chg.block b r (za9 hn));have D:Below W5 W5 (W5.alloc (.cells #[y.length,(),dv] 27)):=qA _;refine ⟨⟨hblk _ (by omega) (E _ hVV (by omega)),hblk _ (by omega) (E _ (by omega) (by omega))⟩,⟨⟨lT HM6.out.chg.size D.size,fun b M h2=>hblk b (by omega) (E b (by omega) (by omega))⟩,fun b r=>?_⟩,T6,Kq+KD,?_,?_,fun b M h2=>(HM6.out.tag b (hlt b h2)).trans (E b M h2),fun b r=>HG6.out.out b (lT D.size r)⟩
   ·have M:=HBA.out.x_lt r;refine hblk b (by omega) ?_
    rcases r with rfl|r|⟨r,_⟩
    ·exact E _ HGL.out (by omega)
    ·exact E _ (HBA.out.row.blk b r) (by omega)
    ·exact Classical.not_not.1 fun e=>by have:=HLA.out.apart b e;rw[r] at this;cases this
   ·rw[HNX.out];exact (HLA.out.moveG HG6.out HM6.out).grow D
   ·rw[List.length_append,List.length_singleton,Nat.succ_mul];have:=HKQ.out
    omega
  case done=>
   rintro hi m Dd ys W' hD hys ⟨Tq,Kq,p,hKq,E,_⟩ hKd;subst hD;have hys2:=zwS hys;rw[hys2,d.out.make] at p;have hyl:ys.length=H.book.length:=by rw[←hys2];simp
   have LA:=hid p;have HMS:=hid (show mc.size=18 by rw[HMC.out];rfl);have HKB:=hid (show K+KD<maxLen∧Kq+KD<maxLen from by
    have M:=Nat.mul_le_mul_right KD (show ys.length≤100 by have:=z.out;omega);have h2:=X.out;unfold KD maxLen at*
    omega)
   have HMO2:=hid (show ∀w,Below W W w→zae w (fun b=>b<W.heap.size) (.slice mA G.offers.length mcap) G.offers from fun w r=>zae.grow HMO.out r);have HQ0:=hid (show W'.heap[V2.heap.size]? =some (.deferred (some [])) from hKd);have HTQ:=hid (show Tq V2.heap.size=.no∧T5 V2.heap.size=.no from ⟨E _ I.out.size (by omega),U.out.hh.out _ I.out.size⟩);clear p hKq hKd hys hys2 hyl E;have hqa:∀w,(binOp .eql 27 (.agg #[.int .i64 (doA H G).number,.int .i64 (doA H G).err,.int .i64 (doA H G).value]) (.agg #[.int .i64 (doA H G).number,.int .i64 (doA H G).err,.int .i64 (doA H G).value])).run Tryz.prog w=.ok ↑true w:=fun w=>(zwk w (doA H G) (doA H G)).trans (by simp)
   go_upto_region 20 with fail
   refine zdX (fun V=>Ac.Blk V W.heap.size 36 mc∧Ac.Blk V W3.heap.size 23 #[.pointer (some ⟨g,0,none⟩)]) [25] (by kernel_rfl) ⟨(LA.out.grow bR.drew).bx,(LA.out.grow bR.drew).gx⟩ (fun a=>?_);have qq:=hid fun (w':World) (C:(fun V=>Ac.Blk V W.heap.size 36 mc∧Ac.Blk V W3.heap.size 23 #[.pointer (some ⟨g,0,none⟩)]) w')=>(show w'.cell? ⟨W3,0,none⟩=some (.pointer (some ⟨g,0,none⟩)) from C.2.cell 0);refine tl 0 a qq ?_;refine tp 1 a ?_;refine stp 2 fun K f=>?_;go_simp;refine (zfo (LA.out.grow bR.drew).gg (LA.out.grow bR.drew).hh d.out.inv d.out.inv).mono ?_;rintro e V6 ⟨b,rfl,t,D⟩;obtain rfl:b=true:=t.2 ⟨rfl,rfl,rfl,rfl,rfl,rfl⟩;have LA1:=hid ((LA.out.grow bR.drew).grow D);have HQ1:=hid ((((Below.refl W'.heap.size W').drew.trans (D.mono (by simp))).block _ (Array.getElem?_eq_some_iff.1 HQ0.out).1).trans HQ0.out);clear t D;refine f.out _ _ ?_ (fun a=>?_)
   ·exact ⟨LA1.out.bx,LA1.out.gx⟩
   clear f K
   try simp only[Act.put,pb,pz,ps]
   refine tp 3 a ?_;refine tp 4 a ?_;refine tl 5 a qq ?_;refine stp 6 fun K f=>?_;go_simp;refine (zfo LA1.out.hh LA1.out.gg d.out.inv d.out.inv).mono ?_;rintro e V7 ⟨b,rfl,t,hb7⟩;obtain rfl:b=true:=t.2 ⟨rfl,rfl,rfl,rfl,rfl,rfl⟩;have LA2:=hid (LA1.out.grow hb7);have HQ2:=hid ((hb7.block _ (Array.getElem?_eq_some_iff.1 HQ1.out).1).trans HQ1.out);clear t hb7;refine f.out _ _ ?_ (fun a=>?_)
   ·exact ⟨LA2.out.bx,LA2.out.gx⟩
   clear f K
   try simp only[Act.put,pb,pz,ps]
   refine tp 7 a ?_;refine tp 8 a ?_;refine tl 9 a qq ?_;refine tx 10 (v:=?_) a ?_ ?_
   rotate_left
   ·intro w' C;refine Eq.trans (zbm 36 (.tmp 3) (by rfl) W.heap.size (by rfl) 36 mc (0,0) _ C.1 Tryz.underlying36 rfl (by rw[HMS.out];kernel_rfl)) ?_;with_reducible rfl
   refine tp 12 a ?_;refine tx 13 (v:=?_) a ?_ ?_
   rotate_left
   ·intro w' C;refine Eq.trans (zbm 36 (.tmp 3) (by rfl) W.heap.size (by rfl) 36 mc (0,0) _ C.1 Tryz.underlying36 rfl (by rw[HMS.out];kernel_rfl)) ?_;with_reducible rfl
   refine stp 11 fun K f=>?_;go_simp;refine (show Calls Tryz.prog 9 #[.pointer (some ⟨g,0,none⟩),.agg mc] V7 _ from by
    rw[HMC.out,HMV.out];exact zgA LA2.out.gg d.out.inv G (R:=fun b=>b<W.heap.size) (HMO2.out _ LA2.out.bel) (fun b _ hr=>(LA2.out.far b hr).2) (fun L=>by have:=zfn d.out.inv L;omega) HKB.out.2 (by have:=z.out;omega)).mono ?_
   rintro e V8 ⟨rfl,T8,hG8,hm8⟩;have LA3:=hid (LA2.out.moveG hG8 hm8);have HQ3:=hid ((hm8.chg.block _ (Array.getElem?_eq_some_iff.1 HQ2.out).1 (za9 HTQ.out.1)).trans HQ2.out);clear hG8 hm8;refine f.out _ _ ?_ (fun a=>?_)
   ·exact ⟨LA3.out.bx,LA3.out.gx⟩
   clear f K
   try simp only[Act.put,pb,pz,ps]
   refine stp 14 fun K f=>?_;go_simp;refine (show Calls Tryz.prog 9 #[.pointer (some ⟨h,0,none⟩),.agg mc] V8 _ from by
    rw[HMC.out,HMV.out];exact zgA LA3.out.hh d.out.inv G (R:=fun b=>b<W.heap.size) (HMO2.out _ LA3.out.bel) (fun b _ hr=>(LA3.out.far b hr).1) (fun L=>by have:=zfn d.out.inv L;omega) HKB.out.1 (by have:=z.out;omega)).mono ?_
   rintro e V9 ⟨rfl,T9,hH9,hm9⟩;have LA4:=hid (LA3.out.moveH hH9 hm9);have HQ4:=hid ((hm9.chg.block _ (Array.getElem?_eq_some_iff.1 HQ3.out).1 (za9 HTQ.out.2)).trans HQ3.out);clear hH9 hm9;refine f.out _ _ ?_ (fun a=>?_)
   ·exact ⟨LA4.out.bx,LA4.out.gx⟩
   clear f K
   try simp only[Act.put,pb,pz,ps]
   refine tp 15 a ?_;refine tp 16 a ?_;refine tp 17 a ?_;refine tl 18 a qq ?_;refine tp 19 a ?_;refine stp 20 fun K f=>?_;go_simp;refine (zfo LA4.out.gg LA4.out.hh (zf6 d.out.inv G) (zf6 d.out.inv G)).mono ?_;rintro e VA ⟨b,rfl,t,hba⟩;obtain rfl:b=true:=t.2 ⟨rfl,rfl,rfl,rfl,rfl,rfl⟩;have LA5:=hid (LA4.out.grow hba);have HQ5:=hid ((hba.block _ (Array.getElem?_eq_some_iff.1 HQ4.out).1).trans HQ4.out);clear t hba;refine f.out _ _ ?_ (fun a=>?_)
   ·exact ⟨LA5.out.bx,LA5.out.gx⟩
   clear f K
   try simp only[Act.put,pb,pz,ps]
   refine tp 21 a ?_;refine tp 22 a ?_;refine stp 23 fun K f=>?_;go_simp;refine (zlQ VA).mono ?_;rintro e VB ⟨rfl,hbb⟩;have Y:=hid (LA5.out.grow hbb);have HQ6:=hid ((hbb.block _ (Array.getElem?_eq_some_iff.1 HQ5.out).1).trans HQ5.out);clear hbb;refine f.out _ _ ?_ (fun a=>?_)
   ·exact ⟨Y.out.bx,Y.out.gx⟩
   clear f K
   try simp only[Act.put,pb,pz,ps]
   refine tp 24 a ?_;refine stf 25 fun K f=>?_;have f1:=Y.out.rx.frozen 0;have z1:=Y.out.rx.cell 0;go_simp;refine f.out _ _ ?_;clear f K
   try simp only[Act.put,pb,pz,ps]
   refine zac (by kernel_rfl) (zcz ?_) _;go_wp2_with fail
   have hrg:W.heap.size+1<V2.heap.size:=HL2.out.rx.lt;have hq:(VB.setCell ⟨W.heap.size+1,0,none⟩ ↑true).heap[V2.heap.size]? =some (.deferred (some [])):=(((Chg.set VB ⟨W.heap.size+1,0,none⟩ ↑true).block _ (Array.getElem?_eq_some_iff.1 HQ6.out).1 (by simp;omega)).trans HQ6.out);have hcU:∀o,Chg (fun b=>b=W.heap.size+1∨some V2.heap.size=some b) VB ((VB.setCell ⟨W.heap.size+1,0,none⟩ ↑true).putObj V2.heap.size o):=fun o=>((Chg.set VB ⟨W.heap.size+1,0,none⟩ ↑true).mono fun b _ e=>.inl e).trans ((Chg.grown (grownBy_putObj' _ V2.heap.size o)).mono fun b _ e=>.inr (by first|exact e|exact e.symm));have hrx:∀o,((VB.setCell ⟨W.heap.size+1,0,none⟩ ↑true).putObj V2.heap.size o).cell? ⟨W.heap.size+1,0,none⟩=some ↑true:=fun o=>((Y.out.rx.set_ 0 ↑true).chg (Chg.grown (grownBy_putObj' _ V2.heap.size o)) (fun e=>by first|(injection e with e;omega)|(simp at e;omega))).cell 0;refine ⟨by simp,.inl ⟨_,_,rfl,run_takeDeferred hq,?_⟩⟩;refine ⟨.bool true,by simp[results,Tryz.results6,go_sem,hrx],rfl,?_⟩;exact Y.out.bel.trans ((hcU _).below Y.out.bel.size fun b r e=>by
    rcases e with e|e
    ·omega
    ·injection e with e;omega)
end Ho
end Go.Proofs.YthoaidfpgijbfaaGreat

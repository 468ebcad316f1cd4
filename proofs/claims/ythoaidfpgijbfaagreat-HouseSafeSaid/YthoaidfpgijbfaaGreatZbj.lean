/- Joined by program. -/
import Derived.OrdersIn
import Derived.Test.YthoaidfpgijbfaaGreatZbi
import Derived.Test.YthoaidfpgijbfaaGreatZah
import Derived.Test.YthoaidfpgijbfaaGreatZbg
import Derived.Test.YthoaidfpgijbfaaGreatZv
set_option linter.all false
set_option maxRecDepth 100000
set_option maxHeartbeats 32000000
namespace Go.Proofs.YthoaidfpgijbfaaGreat
open Lib (hid)
namespace Vb
open Go
section
variable {P:Program} {ops:Array Oper} {Q:Exit→Act→World→Prop} {md:Region.Mode} {S:World→Prop} {fins:List Nat} {l n:Nat}
theorem zxK {o:Oper} {a:Act} {w:World} {K:Act→World→Prop} (g:∀c,o.op≠ .defer c) (h:o.wp P a w K Q):o.wpIn (Fence.wide.inRound l) n P a w K Q:=by
 refine ⟨fun _ _=>trivial,?_⟩;rw[Oper.semAt_plain _ _ _ g];unfold Oper.wp at h
 revert h
 generalize (execOp a.eval o).run P w=r
 intro h
 match r,h with
 | .ok (.value v) w',h=>exact h
 | .ok .skip w',h=>exact h
 | .ok (.defer d) w',h=>exact h
 | .ok (.enter f args) w',h=>exact ⟨fun e=>(by cases e),callsIn_wide.2 h⟩
 | .ok (.row row args) w',h=>exact ⟨fun e=>(by cases e),fun c b _=>let ⟨v,w',r,s⟩:=h c b;⟨v,w',r,stepsIn_wide.2 s⟩⟩
 | .halt (.panic v) w',h=>exact h
def zxH (ops:Array Oper):Bool:=ops.toList.all fun o=>match o.op with| .defer _=>false|_=>true
theorem zxI (h:zxH ops=true) {i:Nat} {o:Oper} (b:ops[i]? =some o) (c:Call):o.op≠ .defer c:=by
 intro e;have a:=List.all_eq_true.1 h o (by simpa using Array.mem_of_getElem? b);rw[e] at a
 cases a
def zxG (Q:Exit→Act→World→Prop):Exit→Act→World→Prop
 | .normal,a,w=>Q .normal a w
 |_,_,_=>False
theorem zxE {a:Act} {w:World} (h:Q .normal a w):zxG Q .normal a w:=h
theorem zxF (hds:zxH ops=true):∀(fuel:Nat) (listed:Array Bool) (a:Act) (w:World),wpAny P md ops (zxG Q) fuel listed a w→wpAnyIn (Fence.wide.inRound l) n P md ops (zxG Q) fuel listed a w
 |0,_,_,_,h=>h
 |fuel+1,listed,a,w,h=>by
  refine ⟨h.1,fun i hi=>wpOpIn_mono (fun a w=>zxF hds fuel _ a w) ?_⟩;have h1:=h.2 i hi;unfold wpOp at h1;unfold wpOpIn
  cases ho:ops[i]? with
  |none=>rw[ho] at h1;exact h1
  |some o=>
   rw[ho] at h1;simp only at h1 ⊢
   split at h1
   ·rename_i hw
    rw[if_pos hw]
    rcases h1 with h1|⟨_,a,w,h1⟩
    ·exact zxK (zxI hds ho) h1
    ·exact h1.elim
   ·rename_i hw
    rw[if_neg hw];exact ⟨fun _ _=>trivial,h1⟩
theorem zxD {f:Nat} {a:Act} {w:World} (S:World→Prop) (fins:List Nat) (d:P.follows .mixedOrders=true) (b:zxH ops=true) (c:S w.drew)
  (h:S w.drew→zaD P .any ops (zxG Q) S fins ops.size (Array.replicate ops.size false) a w.drew):(Code.region f ops true).wpIn (Fence.wide.inRound l) n P Q a w:=by
 refine wpIn_mono (Q:=zxG Q) (wpIn_region_any d (zxF b _ _ _ _ (zkF _ _ _ _ (h c)))) (fun e a w h=>?_)
 cases e<;>first|exact h|exact False.elim h
end
end Vb
namespace Ho
open Go.RowKit Vb Ac
attribute [local go_sem] Oper.semAt_some
structure OffI (W0:World) (s:SaleR) (D:Nat) (pre:List BkY) (W:World):Prop where
 box:Ac.Blk W W0.heap.size 44 s.cells.toArray
 best:Ac.Blk W (W0.heap.size+1) 2 #[.int .i64 (zfY s (pre.map (·.2.1)))]
 bel:Below W0 W0 W
 size:D≤W.heap.size
theorem OffI.grow {W0 A B:World} {s:SaleR} {D:Nat} {pre:List BkY} (h:OffI W0 s D pre A) (hb:Below A A B):OffI W0 s D pre B:=
 ⟨h.box.grow hb,h.best.grow hb,h.bel.trans (hb.mono h.bel.size),lT h.size hb.size⟩
theorem OffI.put {W0 A:World} {s:SaleR} {D l:Nat} {pre:List BkY} (h:OffI W0 s D pre A) (f:W0.heap.size+2≤l) (o:Obj):OffI W0 s D pre (A.putObj l o):=by
 have c:=Chg.grown (grownBy_putObj' A l o);have a:∀b,b<W0.heap.size+2→¬some l=some b:=fun b d e=>by injection e with e;omega
 exact ⟨h.box.chg c (by first|exact a _ (by omega)|exact fun e=>a _ (by omega) e.symm),h.best.chg c (by first|exact a _ (by omega)|exact fun e=>a _ (by omega) e.symm),h.bel.trans (c.below h.bel.size fun b d e=>by first|exact absurd e (a b (by omega))|exact absurd e.symm (a b (by omega))),by simpa using h.size⟩
theorem zae.in_ {w:World} {R:Nat→Prop} {A:Option Addr} {n c k:Nat} {l:List Off} {o:Off} (h:zae w R (.slice A n c) l) (d:l[k]? =some o):
  ∃b off,A=some ⟨b,off,none⟩∧R b∧b<w.heap.size∧w.cell? ⟨b,off+k*2,none⟩=some (.int .u32 o.g)∧w.cell? ⟨b,off+k*2+1,none⟩=some ↑o.c:=by
 obtain ⟨⟨_,p,q,m,_,_,a⟩,_⟩:=h;injection m with hA _ _
 subst hA;have j:=(gS.1 d).1;obtain ⟨b,off,rfl,f,i,e⟩:=a (by omega);exact ⟨b,off,rfl,f,i,e _ _ (Off.all_fst l k o d),e _ _ (Off.all_snd l k o d)⟩
theorem zoY {W:World} {T:Nat→Part} {h K:Nat} {H:House} (hH:zaf W T h K H) (hB:zq3 H.book) (hl:H.book.length≤1000000) {s:SaleR} (h0:0≤s.coins) (Q:s.coins≤zfY s H.book):
  Calls Tryz.prog 12 #[.pointer (some ⟨h,0,none⟩),.agg s.cells.toArray] W fun e W'=>e=.returned ↑true∧Below W W W':=by
 obtain ⟨W1,hW1⟩:=nm (W.alloc (.cells s.cells.toArray 44));obtain ⟨W2,hW2⟩:=nm (W1.alloc (.cells #[(-1:Int)] 2));have hs1:W1.heap.size=W.heap.size+1:=by rw[hW1];simp
 have hs2:W2.heap.size=W.heap.size+2:=by rw[hW2];simp[hs1]
 have hb1:Below W W W1:=by rw[hW1];exact qA _
 have hb12:Below W1 W1 W2:=by rw[hW2];exact qA _
 have C:Ac.Blk W2 W.heap.size 44 s.cells.toArray:=(show Ac.Blk W1 W.heap.size _ _ by rw[hW1];exact Ac.Blk.new _ _ _).grow hb12;have hm:Ac.Blk W2 (W.heap.size+1) 2 #[(-1:Int)]:=by rw[←hs1,hW2];exact Ac.Blk.new _ _ _
 have M:OffI W s W2.heap.size [] W2:=⟨C,hm,hb1.trans (hb12.mono hb1.size),lR⟩;have HI0:=hid M;have HH:=hid (hH.grow M.bel);have HS2:=hid hs2;have D:=hid hs1;have HBK:=hid hB;have HL:=hid hl;have HNO:=hid (show ∀b,W.heap.size≤b→T b=.no from fun b hb=>(by obtain ⟨_,_,_,_,_,_,hA⟩:=hH;exact hA.out b hb));have HC:=hid (And.intro h0 Q);clear hs1 hb1 hb12 C hm M hs2 hH hB hl h0 Q;refine (callsIn_wide (n:=3)).1 (callsIn_of_wp_marks Tryz.func12 rfl trivial ((wpIn_wide (n:=3)).2 ?_));simp only[Tryz.ntmps12,List.size_toArray,List.length_cons,List.length_nil,Nat.reduceAdd,Nat.reduceSub,Array.replicate_succ,Array.replicate_zero,List.push_toArray,List.append_toArray,List.nil_append,List.cons_append]
 go_upto_region 1 with fail
 rw[←hW1];clear hW1;have heq:∀w gl,(binOp .eql 67 (zjq gl) .nilFunc).run Tryz.prog w=.ok ↑false w:=fun w gl=>by unfold zjq;kernel_rfl
 go_upto_region 2 with fail
 rw[←hW2];clear hW2;go_wp2_with fail
 refine (zob HH.out HL.out).mono ?_;rintro e Z ⟨gl,bv,bvo,rfl,hbk2,hgl,hb2⟩;have HBA:=hid hbk2;have HI:=hid (show OffI W s Z.heap.size [] Z from ⟨HI0.out.box.grow hb2,HI0.out.best.grow hb2,(HI0.out.grow hb2).bel,lR⟩);have HB2:=hid hb2;have HGL:=hid hgl;clear hbk2 hgl hb2;unfold zjq at heq ⊢;go_wp2_with fail
 refine (wpIn_wide (n:=3)).1 ?_;refine' zgB (F:=Fence.wide) (n:=3) rfl (by omega) (gf:=72) (lb:=#[.pointer (some ⟨gl,0,none⟩)]) rfl trivial (enters_of Tryz.func72 (by kernel_rfl) rfl)
  (zmJ 2 (by omega) W2.heap.size gl T bv bvo H.book HL.out (fun o ho=>by have:=(HBK.out o ho).1;omega) Z HBA.out) zoc (fun b hb=>HBA.out.x_lt hb) bR (fun _=>rfl)
  (fun hi m R W'=>OffI W s Z.heap.size R W')
  (fun hi m s' A B h0 hb=>h0.grow hb) ?hput ?h0 (fun x=>.cells (x.2.1.cells x.2.2).toArray 36 (0,0)) _ ?assign ?body ?done
 case hput=>
  intro hi m s' A' l o h0 hl;exact h0.put (by have h1:=HB2.out.size;have h2:=HS2.out;omega) o
 case h0=>exact fun W0 hW0=>HI.out.grow hW0
 case assign=>
  rintro l x W' g' K' m ⟨⟨xA,xc,C⟩,_⟩ hg' hK';have hst:=zmM W' x.2.1 xA x.2.1.offers.length xc;rw[←C] at hst;clear C;simp only[bkE];unfold zod at hst
  gi_wp2
  rw[←hg'];exact hK'
 case body=>
  rintro hi m l gs R x W' hhi hwg hm2 hgs M hG hsp hlt;obtain ⟨hk,hnum,htk⟩:=zmL hsp;obtain ⟨⟨xA,xc,C⟩,hgo⟩:=hG;obtain ⟨num,o,ov⟩:=x;simp only at hk hnum C hgo hgs;subst hnum C;have hs2:=HS2.out;have hV2:=HB2.out.size;obtain ⟨hlen,hwf,hco⟩:=HBK.out o (mG hk);have hgsz:gs<W'.heap.size:=Array.getElem?_eq_some_iff.1 hgs|>.1
  --what a round leaves
  have fin:∀(b:Int) (I:World),b=zdu s (zfY s (H.book.take R.length)) o→Chg (·=W.heap.size+1) W' I→Ac.Blk I (W.heap.size+1) 2 #[(b:Int)]→
    (I.heap[Z.heap.size]? =W'.heap[Z.heap.size]? ∧I.heap[Z.heap.size+1]? =W'.heap[Z.heap.size+1]?)∧KeepX (zhS T W2.heap.size gl bv) (Z.heap.size+2) hi W' I∧OffI W s Z.heap.size (R++[((R.length:Int),o,Value.slice xA o.offers.length xc)]) I:=fun b I hb Q Y=>by
   have hne:∀i,i<W'.heap.size→i≠W.heap.size+1→I.heap[i]? =W'.heap[i]? :=fun i h1 h2=>Q.block i h1 h2;refine ⟨⟨hne _ (by omega) (by omega),hne _ (by omega) (by omega)⟩,⟨⟨Q.size,fun i h1 h2=>hne i (by omega) (by omega)⟩,fun i hi=>hne i (lL (HBA.out.x_lt hi) (by omega)) fun e=>?_⟩,M.box.chg Q (by omega),?_,M.bel.trans (Q.below M.bel.size fun b hb e=>by omega),lT M.size Q.size⟩
   ·have N:=HGL.out
    rcases hi with rfl|hi|⟨_,hi⟩
    ·omega
    ·have:=HBA.out.row.blk i hi;omega
    ·rename_i ho;have:=HNO.out i (by omega);rw[ho] at this;cases this
   ·rw[List.map_append,htk]
    show Ac.Blk I _ _ #[(zfY s (H.book.take R.length++[o]):Int)]
    rw[zq7,←hb];exact Y
  have HFIN:=hid fin;have L:=hid (show Ac.Blk W' W.heap.size 44 s.cells.toArray from M.box);have t:=M.best;rw[htk] at t;obtain ⟨S,hb0⟩:=nm (zfY s (H.book.take R.length));rw[←hb0] at t;have HBB:=hid t;have HB0:=hid hb0;have X:=hid (show Ac.Blk W' gs 36 (o.cells (.slice xA o.offers.length xc)).toArray from hgs);have HGO:=hid hgo;have HOB:=hid (show o.offers.length≤64∧∀x∈o.offers,x.wf from ⟨hlen,hwf⟩);have HCO:=hid hco;have lb:W.heap.size+1<W'.heap.size:=t.lt;have HM2:=hid (show W.heap.size+2≤m by omega);have hgs1:gs≠W.heap.size+1:=by omega
  have k0:W'.cell? ⟨gs,0,none⟩=some ↑o.kind:=X.out.cell 0;have k3:W'.cell? ⟨gs,3,none⟩=some ↑o.bidder:=X.out.cell 3;have k4:W'.cell? ⟨gs,4,none⟩=some ↑o.lot:=X.out.cell 4;have x1:W'.cell? ⟨W,1,none⟩=some ↑s.lot:=L.out.cell 1;have x2:W'.cell? ⟨W,2,none⟩=some ↑s.bidder:=L.out.cell 2;clear fin t hb0 hgs hgo hlen hwf hco M hsp hk hlt htk hs2 hV2;by_cases hn:zi0 s o
  ·have HE:=hid (HFIN.out S W' (by unfold zdu;rw[if_pos hn,HB0.out]) (Chg.refl _ _) HBB.out);by_cases e1:o.kind=4
   ·have t1:(o.kind !=4)=false:=by simp[e1]
    by_cases e2:o.bidder=s.bidder
    ·have t2:(o.bidder !=s.bidder)=false:=by simp[e2]
     have t3:(o.lot !=s.lot)=true:=by
      unfold zi0 at hn
      simpa [e1,e2] using hn
     clear hn e1 e2
     gi_wp2
     exact ⟨⟨rfl,rfl⟩,HE.out.2⟩
    ·have t2:(o.bidder !=s.bidder)=true:=by simpa using e2
     clear hn e1 e2
     gi_wp2
     exact ⟨⟨rfl,rfl⟩,HE.out.2⟩
   ·have t1:(o.kind !=4)=true:=by simpa using e1
    clear hn e1
    gi_wp2
    exact ⟨⟨rfl,rfl⟩,HE.out.2⟩
  ·have HN:=hid hn;have e:o.kind=4∧o.bidder=s.bidder∧o.lot=s.lot:=by
    unfold zi0 at hn
    simpa [not_or] using hn
   have t1:(o.kind !=4)=false:=by simp[e.1]
   have t2:(o.bidder !=s.bidder)=false:=by simp[e.2.1]
   have t3:(o.lot !=s.lot)=false:=by simp[e.2.2]
   have HC4:=hid (HCO.out e.1);obtain ⟨n,hn'⟩:=nm (o.offers.length);have HNL:=hid hn';have hn64:n≤64:=by rw[hn'];exact HOB.out.1
   have k16:W'.cell? ⟨gs,16,none⟩=some (.slice xA n xc):=by rw[hn'];exact X.out.cell 16
   have x4:W'.cell? ⟨W,4,none⟩=some (.int .u32 s.goods):=L.out.cell 4;have x5:W'.cell? ⟨W,5,none⟩=some ↑s.count:=L.out.cell 5;clear hn e hn'
   gi_wp2
   gi_loopw [9,10] (fun y i wr=>∃k:Nat,k≤n∧i=.int .i64 k∧y=.int .i64 (zdL s o.offers k)∧Chg (·=W.heap.size+1) W' wr∧Ac.Blk wr (W.heap.size+1) 2 #[(zdb s S (o.offers.take k):Int)]) (fun _ i _=>n-(intOf i).toNat)
   case atStart=>exact ⟨0,zL,rfl,by simp[zdL,zam],Chg.refl _ _,HBB.out⟩
   case round=>
    obtain ⟨k,hk,rfl,rfl,Q,Y⟩:=hrel;have O:=hid Q;have p:=hid Y;have hgk:∀i u,W'.cell? ⟨gs,i,none⟩=some u→wr.cell? ⟨gs,i,none⟩=some u:=fun i u h=>cg Q h X.out.lt hgs1;have hxk:∀i u,W'.cell? ⟨W,i,none⟩=some u→wr.cell? ⟨W,i,none⟩=some u:=fun i u h=>cg Q h L.out.lt (by show ¬W.heap.size=_;omega);have G:=hgk _ _ k16;have q4:=hxk _ _ x4;have q5:=hxk _ _ x5;clear Q Y hgk hxk;by_cases hlt:k<n
    ·obtain ⟨x,C⟩:∃x,o.offers[k]? =some x:=⟨_,gE (by rw[←HNL.out];exact hlt)⟩;obtain ⟨q,off,hA,hq,hql,o0,o1⟩:=zae.in_ HGO.out C;subst hA;have hqn:¬q=W.heap.size+1:=by have:=HM2.out;omega
     replace o0:=cg O.out o0 hql hqn;replace o1:=cg O.out o1 hql hqn;have hxc:=HC4.out x (mG C);unfold zai at hxc;have hsb:=zva (s:=s) HC4.out HOB.out.1 k;have HSS:=hid (zoX (s:=s) C);have HOS:=hid (zov (s:=s) (b:=S) C);obtain ⟨y,hsm⟩:=nm (zdL s o.offers k);rw[←hsm] at hsb HSS ⊢;obtain ⟨U,hbb⟩:=nm (zdb s S (o.offers.take k));rw[←hbb] at HOS p;have p0:wr.cell? ⟨W1,0,none⟩=some ↑U:=by rw[D.out];exact p.out.cell 0
     have pf:wr.frozen? ⟨W1,0,none⟩=false:=by rw[D.out];exact p.out.frozen 0
     have i1:(0:Int)≤(k:Int):=by omega
     have i2:(k:Int)<(n:Int):=by omega
     have wk:IntKind.i64.wrap ((k:Int)+1)=(k:Int)+1:=iW _ (by omega);have ws:IntKind.i64.wrap (y+x.c)=y+x.c:=iW _ (by omega);have HQL:=hid hql;clear C hqn hxc hsb hsm hbb hql
     --the round's end:what the greatest is,what the sum is
     have hend:∀(b2 s2:Int) (I:World),b2=zem s U x→s2=(if (k:Int)<s.count then y+x.c else y)→Chg (·=W.heap.size+1) wr I→Ac.Blk I (W.heap.size+1) 2 #[b2]→
       ∃j:Nat,j≤n∧Value.int .i64 ((k:Int)+1)=.int .i64 j∧Value.int .i64 s2=.int .i64 (zdL s o.offers j)∧Chg (·=W.heap.size+1) W' I∧Ac.Blk I (W.heap.size+1) 2 #[(zdb s S (o.offers.take j):Int)]:=fun b2 s2 I h1 h2 h3 h4=>
      ⟨k+1,by omega,by go_num,by rw[HSS.out,←h2],O.out.trans h3,by rw[HOS.out,←h1];exact h4⟩
     have z:=hid hend;have hset:=p.out.set_ 0 ↑(max U x.c:Int);have HSET:=hid (show Ac.Blk (wr.setCell ⟨W.heap.size+1,0,none⟩ ↑(max U x.c:Int)) (W.heap.size+1) 2 #[(max U x.c:Int)] from hset);have P:=hid (Chg.set wr ⟨W.heap.size+1,0,none⟩ ↑(max U x.c:Int));clear hend hset;have V:W.heap.size<wr.heap.size:=lL L.out.lt O.out.size;have lB:W1.heap.size<wr.heap.size:=by rw[D.out];exact p.out.lt
     have lG:gs<wr.heap.size:=lL X.out.lt O.out.size;have lq:q<wr.heap.size:=lL HQL.out O.out.size;by_cases N:s.goods=0
     ·have t4:(s.goods !=0)=false:=by simp[N]
      have t5:(s.goods==0)=true:=by simp[N]
      by_cases hcn:s.count=0
      ·have t6:(s.count==0)=true:=by simp[hcn]
       have t7:decide ((k:Int)<s.count)=false:=decide_eq_false (by omega);have E:=hid (show max U x.c=zem s U x by unfold zem;rw[if_pos (.inr ⟨N,hcn⟩)]);have v:=hid (show y=(if (k:Int)<s.count then y+x.c else y) by rw[if_neg (by omega)]);clear N hcn
       gi_wp2
       refine zxD (Below wr wr) [] (by kernel_rfl) (by kernel_rfl) (bR.drew) (fun d=>?_);refine tp 0 d ?_;have r:=hid fun (J:World) (f:(Below wr wr) J)=>And.intro (qc f q4 V)<|And.intro (qc f q5 V)<|And.intro (qc f G lG)<|qc f o0 lq;refine tl 1 d r ?_;refine tp 2 d ?_;refine tp 3 d ?_;refine zaa 4 d ?_;refine zaa 5 d ?_;refine zaa 6 d ?_;refine zaa 7 d ?_;refine zaa 8 d ?_;refine zaa 9 d ?_;refine zaa 10 d ?_;refine zaa 11 d ?_;refine zaa 12 d ?_;refine tp 13 d ?_;refine tp 14 d ?_;refine tp 15 d ?_;refine tl 16 d r ?_;refine tp 17 d ?_;refine tp 18 d ?_;refine tp 19 d ?_;refine tl 20 d r ?_;refine tp 21 d ?_;refine tp 22 d ?_;refine tp 23 d ?_;refine zac (by kernel_rfl) (zxE ?_) _
       gi_wp2
       refine zxD (Below wr wr) [8] (by kernel_rfl) (by kernel_rfl) ((bR.drew).drew) (fun d=>?_);have r:=hid fun (J:World) (f:(Below wr wr) J)=>And.intro (qc f p0 lB)<|And.intro (qc f G lG)<|qc f o1 lq;refine tl 0 d r ?_;refine tp 1 d ?_;refine tl 2 d r ?_;refine tp 3 d ?_;refine tp 4 d ?_;refine tp 5 d ?_;refine tl 6 d r ?_;refine tp 7 d ?_;refine stf 8 fun K hK=>?_;go_simp;refine hK.out _ _ ?_;clear hK K
       try simp only[Act.put,pb,pz,ps]
       refine zac (by kernel_rfl) (zxE ?_) _
       gi_wp2
       go_roundw
       case rel=>
        rw[D.out];exact z.out _ _ _ E.out v.out (P.out.grow (below_drewN bR 2)) (HSET.out.drewN 2)
       case measure=>simp[intOf];omega
      ·have t6:(s.count==0)=false:=by simpa using hcn
       have E:=hid (show U=zem s U x by unfold zem;rw[if_neg fun e=>e.elim (fun e=>e.1 N) fun e=>hcn e.2]);by_cases hcc:(k:Int)<s.count
       ·have t7:decide ((k:Int)<s.count)=true:=decide_eq_true hcc;have v:=hid (show y+x.c=(if (k:Int)<s.count then y+x.c else y) from (if_pos hcc).symm);clear N hcn hcc
        gi_wp2
        refine zxD (Below wr wr) [] (by kernel_rfl) (by kernel_rfl) (bR.drew) (fun d=>?_);refine tp 0 d ?_;have r:=hid fun (J:World) (f:(Below wr wr) J)=>And.intro (qc f q4 V)<|And.intro (qc f q5 V)<|And.intro (qc f G lG)<|qc f o0 lq;refine tl 1 d r ?_;refine tp 2 d ?_;refine tp 3 d ?_;refine zaa 4 d ?_;refine zaa 5 d ?_;refine zaa 6 d ?_;refine zaa 7 d ?_;refine zaa 8 d ?_;refine zaa 9 d ?_;refine zaa 10 d ?_;refine zaa 11 d ?_;refine zaa 12 d ?_;refine tp 13 d ?_;refine tp 14 d ?_;refine tp 15 d ?_;refine tl 16 d r ?_;refine tp 17 d ?_;refine tp 18 d ?_;refine tp 19 d ?_;refine tl 20 d r ?_;refine tp 21 d ?_;refine tp 22 d ?_;refine tp 23 d ?_;refine zac (by kernel_rfl) (zxE ?_) _
        gi_wp2
        go_roundw
        case rel=>exact z.out _ _ _ E.out v.out ((Chg.refl _ wr).grow (below_drewN bR 1)) (p.out.drewN 1)
        case measure=>simp[intOf];omega
       ·have t7:decide ((k:Int)<s.count)=false:=decide_eq_false hcc;have v:=hid (show y=(if (k:Int)<s.count then y+x.c else y) from (if_neg hcc).symm);clear N hcn hcc
        gi_wp2
        refine zxD (Below wr wr) [] (by kernel_rfl) (by kernel_rfl) (bR.drew) (fun d=>?_);refine tp 0 d ?_;have r:=hid fun (J:World) (f:(Below wr wr) J)=>And.intro (qc f q4 V)<|And.intro (qc f q5 V)<|And.intro (qc f G lG)<|qc f o0 lq;refine tl 1 d r ?_;refine tp 2 d ?_;refine tp 3 d ?_;refine zaa 4 d ?_;refine zaa 5 d ?_;refine zaa 6 d ?_;refine zaa 7 d ?_;refine zaa 8 d ?_;refine zaa 9 d ?_;refine zaa 10 d ?_;refine zaa 11 d ?_;refine zaa 12 d ?_;refine tp 13 d ?_;refine tp 14 d ?_;refine tp 15 d ?_;refine tl 16 d r ?_;refine tp 17 d ?_;refine tp 18 d ?_;refine tp 19 d ?_;refine tl 20 d r ?_;refine tp 21 d ?_;refine tp 22 d ?_;refine tp 23 d ?_;refine zac (by kernel_rfl) (zxE ?_) _
        gi_wp2
        go_roundw
        case rel=>exact z.out _ _ _ E.out v.out ((Chg.refl _ wr).grow (below_drewN bR 1)) (p.out.drewN 1)
        case measure=>simp[intOf];omega
     ·have t4:(s.goods !=0)=true:=by simpa using N
      have t5:(s.goods==0)=false:=by simpa using N
      by_cases C:(x.g:Int)=s.goods
      ·have t6:((x.g:Int)==s.goods)=true:=by simp[C]
       have E:=hid (show max U x.c=zem s U x by unfold zem;rw[if_pos (.inl ⟨N,C⟩)]);by_cases hcc:(k:Int)<s.count
       ·have t7:decide ((k:Int)<s.count)=true:=decide_eq_true hcc;have v:=hid (show y+x.c=(if (k:Int)<s.count then y+x.c else y) from (if_pos hcc).symm);clear N C hcc
        gi_wp2
        refine zxD (Below wr wr) [] (by kernel_rfl) (by kernel_rfl) (bR.drew) (fun d=>?_);refine tp 0 d ?_;have r:=hid fun (J:World) (f:(Below wr wr) J)=>And.intro (qc f q4 V)<|And.intro (qc f q5 V)<|And.intro (qc f G lG)<|qc f o0 lq;refine tl 1 d r ?_;refine tp 2 d ?_;refine tp 3 d ?_;refine tp 4 d ?_;refine tl 5 d r ?_;refine tp 6 d ?_;refine tp 7 d ?_;refine tp 8 d ?_;refine tl 9 d r ?_;refine tp 10 d ?_;refine tl 11 d r ?_;refine tp 12 d ?_;refine tp 13 d ?_;refine tp 14 d ?_;refine zaa 15 d ?_;refine zaa 16 d ?_;refine zaa 17 d ?_;refine zaa 18 d ?_;refine zaa 19 d ?_;refine zaa 20 d ?_;refine zaa 21 d ?_;refine zaa 22 d ?_;refine tp 23 d ?_;refine zac (by kernel_rfl) (zxE ?_) _
        gi_wp2
        refine zxD (Below wr wr) [8] (by kernel_rfl) (by kernel_rfl) ((bR.drew).drew) (fun d=>?_);have r:=hid fun (J:World) (f:(Below wr wr) J)=>And.intro (qc f p0 lB)<|And.intro (qc f G lG)<|qc f o1 lq;refine tl 0 d r ?_;refine tp 1 d ?_;refine tl 2 d r ?_;refine tp 3 d ?_;refine tp 4 d ?_;refine tp 5 d ?_;refine tl 6 d r ?_;refine tp 7 d ?_;refine stf 8 fun K hK=>?_;go_simp;refine hK.out _ _ ?_;clear hK K
        try simp only[Act.put,pb,pz,ps]
        refine zac (by kernel_rfl) (zxE ?_) _
        gi_wp2
        go_roundw
        case rel=>
         rw[D.out];exact z.out _ _ _ E.out v.out (P.out.grow (below_drewN bR 2)) (HSET.out.drewN 2)
        case measure=>simp[intOf];omega
       ·have t7:decide ((k:Int)<s.count)=false:=decide_eq_false hcc;have v:=hid (show y=(if (k:Int)<s.count then y+x.c else y) from (if_neg hcc).symm);clear N C hcc
        gi_wp2
        refine zxD (Below wr wr) [] (by kernel_rfl) (by kernel_rfl) (bR.drew) (fun d=>?_);refine tp 0 d ?_;have r:=hid fun (J:World) (f:(Below wr wr) J)=>And.intro (qc f q4 V)<|And.intro (qc f q5 V)<|And.intro (qc f G lG)<|qc f o0 lq;refine tl 1 d r ?_;refine tp 2 d ?_;refine tp 3 d ?_;refine tp 4 d ?_;refine tl 5 d r ?_;refine tp 6 d ?_;refine tp 7 d ?_;refine tp 8 d ?_;refine tl 9 d r ?_;refine tp 10 d ?_;refine tl 11 d r ?_;refine tp 12 d ?_;refine tp 13 d ?_;refine tp 14 d ?_;refine zaa 15 d ?_;refine zaa 16 d ?_;refine zaa 17 d ?_;refine zaa 18 d ?_;refine zaa 19 d ?_;refine zaa 20 d ?_;refine zaa 21 d ?_;refine zaa 22 d ?_;refine tp 23 d ?_;refine zac (by kernel_rfl) (zxE ?_) _
        gi_wp2
        refine zxD (Below wr wr) [8] (by kernel_rfl) (by kernel_rfl) ((bR.drew).drew) (fun d=>?_);have r:=hid fun (J:World) (f:(Below wr wr) J)=>And.intro (qc f p0 lB)<|And.intro (qc f G lG)<|qc f o1 lq;refine tl 0 d r ?_;refine tp 1 d ?_;refine tl 2 d r ?_;refine tp 3 d ?_;refine tp 4 d ?_;refine tp 5 d ?_;refine tl 6 d r ?_;refine tp 7 d ?_;refine stf 8 fun K hK=>?_;go_simp;refine hK.out _ _ ?_;clear hK K
        try simp only[Act.put,pb,pz,ps]
        refine zac (by kernel_rfl) (zxE ?_) _
        gi_wp2
        go_roundw
        case rel=>
         rw[D.out];exact z.out _ _ _ E.out v.out (P.out.grow (below_drewN bR 2)) (HSET.out.drewN 2)
        case measure=>simp[intOf];omega
      ·have t6:((x.g:Int)==s.goods)=false:=by simpa using C
       have E:=hid (show U=zem s U x by unfold zem;rw[if_neg fun e=>e.elim (fun e=>C e.2) fun e=>N e.1]);by_cases hcc:(k:Int)<s.count
       ·have t7:decide ((k:Int)<s.count)=true:=decide_eq_true hcc;have v:=hid (show y+x.c=(if (k:Int)<s.count then y+x.c else y) from (if_pos hcc).symm);clear N C hcc
        gi_wp2
        refine zxD (Below wr wr) [] (by kernel_rfl) (by kernel_rfl) (bR.drew) (fun d=>?_);refine tp 0 d ?_;have r:=hid fun (J:World) (f:(Below wr wr) J)=>And.intro (qc f q4 V)<|And.intro (qc f q5 V)<|And.intro (qc f G lG)<|qc f o0 lq;refine tl 1 d r ?_;refine tp 2 d ?_;refine tp 3 d ?_;refine tp 4 d ?_;refine tl 5 d r ?_;refine tp 6 d ?_;refine tp 7 d ?_;refine tp 8 d ?_;refine tl 9 d r ?_;refine tp 10 d ?_;refine tl 11 d r ?_;refine tp 12 d ?_;refine tp 13 d ?_;refine tp 14 d ?_;refine tp 15 d ?_;refine tl 16 d r ?_;refine tp 17 d ?_;refine tp 18 d ?_;refine zaa 19 d ?_;refine zaa 20 d ?_;refine zaa 21 d ?_;refine tp 22 d ?_;refine tp 23 d ?_;refine zac (by kernel_rfl) (zxE ?_) _
        gi_wp2
        go_roundw
        case rel=>exact z.out _ _ _ E.out v.out ((Chg.refl _ wr).grow (below_drewN bR 1)) (p.out.drewN 1)
        case measure=>simp[intOf];omega
       ·have t7:decide ((k:Int)<s.count)=false:=decide_eq_false hcc;have v:=hid (show y=(if (k:Int)<s.count then y+x.c else y) from (if_neg hcc).symm);clear N C hcc
        gi_wp2
        refine zxD (Below wr wr) [] (by kernel_rfl) (by kernel_rfl) (bR.drew) (fun d=>?_);refine tp 0 d ?_;have r:=hid fun (J:World) (f:(Below wr wr) J)=>And.intro (qc f q4 V)<|And.intro (qc f q5 V)<|And.intro (qc f G lG)<|qc f o0 lq;refine tl 1 d r ?_;refine tp 2 d ?_;refine tp 3 d ?_;refine tp 4 d ?_;refine tl 5 d r ?_;refine tp 6 d ?_;refine tp 7 d ?_;refine tp 8 d ?_;refine tl 9 d r ?_;refine tp 10 d ?_;refine tl 11 d r ?_;refine tp 12 d ?_;refine tp 13 d ?_;refine tp 14 d ?_;refine tp 15 d ?_;refine tl 16 d r ?_;refine tp 17 d ?_;refine tp 18 d ?_;refine zaa 19 d ?_;refine zaa 20 d ?_;refine zaa 21 d ?_;refine tp 22 d ?_;refine tp 23 d ?_;refine zac (by kernel_rfl) (zxE ?_) _
        gi_wp2
        go_roundw
        case rel=>exact z.out _ _ _ E.out v.out ((Chg.refl _ wr).grow (below_drewN bR 1)) (p.out.drewN 1)
        case measure=>simp[intOf];omega
    ·have i2:¬(k:Int)<(n:Int):=by omega
     obtain rfl:k=n:=by omega
     have hall:zdb s S (o.offers.take k)=zdb s S o.offers:=by rw[HNL.out,List.take_length]
     have hsum:zdL s o.offers k=ztk s o.offers:=by rw[HNL.out,zxJ]
     rw[hall] at p;rw[hsum];clear hall hsum;have p0:wr.cell? ⟨W1,0,none⟩=some ↑(zdb s S o.offers:Int):=by rw[D.out];exact p.out.cell 0
     have pf:wr.frozen? ⟨W1,0,none⟩=false:=by rw[D.out];exact p.out.frozen 0
     have HOK:=hid (show ∀(b:Int) (I:World),b=(if 0<s.count∧s.count≤k then max (zdb s S o.offers) (ztk s o.offers) else zdb s S o.offers)→Chg (·=W.heap.size+1) wr I→Ac.Blk I (W.heap.size+1) 2 #[(b:Int)]→_ from fun b I hb Q Y=>HFIN.out b I (by
      rw[hb,HNL.out,HB0.out];unfold zdu;rw[if_neg HN.out]) (O.out.trans Q) Y)
     by_cases hc1:0<s.count
     ·have t4:decide (0<s.count)=true:=decide_eq_true hc1;by_cases hc2:s.count≤k
      ·have t5:decide (s.count≤(k:Int))=true:=decide_eq_true hc2;have HR:=hid (HOK.out (max (zdb s S o.offers) (ztk s o.offers)) (wr.setCell ⟨W.heap.size+1,0,none⟩ ↑(max (zdb s S o.offers) (ztk s o.offers):Int)) (by rw[if_pos ⟨hc1,hc2⟩]) (Chg.set wr ⟨W.heap.size+1,0,none⟩ _) (p.out.set_ 0 _));clear hc1 hc2
       gi_wp2
       rw[D.out];exact HR.out
      ·have t5:decide (s.count≤(k:Int))=false:=decide_eq_false hc2;have HR:=hid (HOK.out (zdb s S o.offers) wr (by rw[if_neg (fun e=>hc2 e.2)]) (Chg.refl _ _) p.out);clear hc1 hc2
       gi_wp2
       exact HR.out
     ·have t4:decide (0<s.count)=false:=decide_eq_false hc1;have HR:=hid (HOK.out (zdb s S o.offers) wr (by rw[if_neg (fun e=>hc1 e.1)]) (Chg.refl _ _) p.out);clear hc1
      gi_wp2
      exact HR.out
 case done=>
  rintro hi m Dd ys W' hD hys M hKd;subst hD;have t:=M.best;rw[zwS hys] at t;have L:=hid (show Ac.Blk W' W.heap.size 44 s.cells.toArray from M.box);have HMX:=hid (show Ac.Blk W' (W.heap.size+1) 2 #[(zfY s H.book:Int)] from t);have HBL:=hid M.bel;have HQ0:=hid (show W'.heap[Z.heap.size]? =some (.deferred (some [])) from hKd);have x3:W'.cell? ⟨W,3,none⟩=some ↑s.coins:=L.out.cell 3;have p0:W'.cell? ⟨W1,0,none⟩=some ↑(zfY s H.book:Int):=by rw[D.out];exact HMX.out.cell 0
  have t1:decide (0≤s.coins)=true:=decide_eq_true HC.out.1;have t2:decide (s.coins≤zfY s H.book)=true:=decide_eq_true HC.out.2;clear M hKd t;go_wp2_with fail
  refine ⟨by simp,.inl ⟨_,_,rfl,run_takeDeferred HQ0.out,?_⟩⟩;refine ⟨.bool true,by simp[results,Tryz.results12,go_sem],rfl,?_⟩;exact HBL.out.trans ((Chg.grown (grownBy_putObj' _ Z.heap.size _)).below HBL.out.size fun b hb e=>by
   have h1:=HB2.out.size;have h2:=HS2.out
   first|(injection e with e;omega)|(have e:=e.symm;injection e with e;omega))
theorem zow {a b:Int} (d:0≤a∧a<4294967296) (e:0≤b∧b<4294967296) (h:a.toNat&&&b.toNat=0):bits .and .u32 a b=0:=by
 obtain ⟨x,rfl⟩:∃x:Nat,a=x:=⟨a.toNat,(Int.toNat_of_nonneg d.1).symm⟩;obtain ⟨y,rfl⟩:∃y:Nat,b=y:=⟨b.toNat,(Int.toNat_of_nonneg e.1).symm⟩;rw[Int.toNat_natCast,Int.toNat_natCast] at h;have c:∀z:Nat,z<4294967296→(BitVec.ofInt 32 (z:Int)).toNat=z:=fun z f=>by
  simp[BitVec.toNat_ofInt];omega
 show IntKind.u32.wrap ((BitVec.ofInt 32 (x:Int)&&&BitVec.ofInt 32 (y:Int)).toNat:Int)=_
 rw[BitVec.toNat_and,c x (by omega),c y (by omega),h]
 rfl
structure SReach (H:House):Prop where
 inv:HInv H
 pre:SPre H
 said:BInv H.book H
 bk:zq3 H.book
theorem SReach.next {H:House} (h:SReach H) {o:OrderR} (hwf:∀x∈o.offers,x.wf):SReach (doH H o):=⟨zf6 h.inv o,zpA h.inv h.pre hwf,zwo h.inv h.pre h.said o,zwp h.inv h.bk hwf⟩
theorem zox:SReach zb1:=⟨zhO,zlA,zq2,fun _ h=>by cases h⟩
theorem zl7 {os:List OrderR} {v:Value} {W:World} (hos:zqK W v os):
  Calls Tryz.prog 3 #[v] W fun e W'=>e=.returned ↑true∧Below W W W':=by
 obtain ⟨vo,g,N⟩:=hos;obtain ⟨hlen,A,cap,rfl,ad,L,_⟩:=id g;obtain ⟨n,hn⟩:=nm (os.length);rw[←hn] at g ad ⊢;have HROW:=hid g;have J:=hid N;have HN:=hid hn;have HNB:=hid (show n≤maxLen from lT ad L);clear g N hn hlen ad L;go_enter Tryz.func3,Tryz.ntmps3;go_wp2_with fail
 refine (zgf W).mono ?_;rintro e W2 ⟨h,T,rfl,hH,z,f⟩;have HH:=hid hH;have P:=hid z;have HNO:=hid f;have hnm:=HNB.out;unfold maxLen at hnm;clear hH z f
 go_upto_block 0 with fail
 go_cut [] from 4 to 29 (fun wx=>∃(t:Nat→Part) (K:Nat) (H:House),zaf wx t h K H∧(∀b,b<W.heap.size→t b=.no)∧SReach H∧H.book.length≤100∧Below W W wx)
 case first=>
  go_wp2_with fail
  go_loopw [4] (fun i wr=>∃(k:Nat) (t:Nat→Part) (K:Nat) (H:House),k≤n∧k≤100∧i=.int .i64 k∧zaf wr t h K H∧(∀b,b<W.heap.size→t b=.no)∧SReach H∧H.book.length≤k∧K≤k*KD∧Below W W wr) (fun i _=>100-(intOf i).toNat)
  case atStart=>exact ⟨0,T,0,zb1,zL,by omega,rfl,HH.out,HNO.out,zox,lR,zL,P.out⟩
  case round=>
   obtain ⟨k,t,K,H,hk,hk80,rfl,hh,f,C,F,hK,d⟩:=hrel;have HL:=hid hh;have E:=hid f;have a:=hid C;have Q:=hid F;have HKK:=hid hK;have G:=hid d;clear hh f C F hK d;by_cases hgo:k<n∧k<100
   ·obtain ⟨p,hl1⟩:=hgo;obtain ⟨o,ho⟩:∃o,os[k]? =some o:=⟨_,gE (by rw[←HN.out];exact p)⟩;obtain ⟨q,off,hA,hqR,hq,af⟩:=zgn HROW.out ho p;subst hA;obtain ⟨oA,oc,ae⟩:=zdJ (J.out k o ho);have HOF:=hid (ae▸J.out k o ho);rw[ae] at af;have HCS:=hid (show ∀w,Below W W w→w.rangeAt q (off+k*18) (o.cells (.slice oA o.offers.length oc)) from fun w d j v hj=>qc d (af j v hj) hq);have e5:(0:Int)≤(k:Int):=by omega
    have e6:(k:Int)<(n:Int):=by omega
    have e7:(k:Int)<100:=by omega
    have hwr:IntKind.i64.wrap ((k:Int)+1)=(k:Int)+1:=iW _ (by omega);have HKM:=hid (show K+KD<maxLen from by
     have Y:=HKK.out;have h2:=Nat.mul_le_mul_right KD hk80;unfold KD maxLen at*
     omega)
    clear ho ae af
    go_wp2_with (refine wpList_load_mid rfl 36 (.tmp 24) rfl q (off+k*18) rfl (o.cells (.slice oA o.offers.length oc)) _ (HCS.out _ G.out) Tryz.underlying36 rfl (by kernel_rfl) ?_)
    refine (zgA HL.out a.out.inv o (A:=oA) (c:=oc) (R:=fun b=>b<W.heap.size) (zae.grow HOF.out G.out) (fun b _ hr=>E.out b hr) (fun he=>by have:=zfn a.out.inv he;omega) HKM.out (by have:=Q.out;omega)).mono ?_;rintro e w2 ⟨rfl,T2,hH2,hm2⟩;have HH2:=hid hH2;have S:=hid hm2;have U:=hid (a.out.next HOF.out.2);clear hH2 hm2;go_wp2_with fail
    refine (zmS HH2.out U.out.inv U.out.pre).mono ?_;rintro e w3 ⟨rfl,B⟩;have D:=hid B;clear B;go_wp2_with fail
    go_roundw
    case rel=>
     have hsz:=G.out.size;refine ⟨k+1,T2,K+KD,doH H o,by omega,by omega,by go_num,HH2.out.grow D.out,fun b d=>(S.out.tag b (by omega)).trans (E.out b d),U.out,?_,?_,(G.out.trans (S.out.chg.below hsz fun b d=>za9 (E.out b d))).trans (D.out.mono (lT hsz S.out.chg.size))⟩
     ·rw[zdI];have:=Q.out
      split<;>simp<;>omega
     ·have Y:=HKK.out;rw[Nat.add_mul]
      omega
    case measure=>simp[intOf];omega
   ·have M:zaf wr t h K H∧(∀b,b<W.heap.size→t b=.no)∧SReach H∧H.book.length≤100∧Below W W wr:=by
     have Y:=Q.out;exact ⟨HL.out,E.out,a.out,by omega,G.out⟩
    have I:=hid M;clear M;by_cases p:k<n
    ·have e6:(k:Int)<(n:Int):=by omega
     have e7:decide ((k:Int)<100)=false:=decide_eq_false (by omega);go_wp2_with fail
     go_meet
     case rel=>exact ⟨t,K,H,I.out⟩
    ·have e6:decide ((k:Int)<(n:Int))=false:=decide_eq_false (by omega);go_wp2_with fail
     go_meet
     case rel=>exact ⟨t,K,H,I.out⟩
 case rest=>
  obtain ⟨t,K,H,hh,f,C,F,d⟩:=hcut;rename World=>V;have HH:=hid hh;have a:=hid C;have G:=hid d;have hbl:H.book.length≤1000000:=by omega
  have HBL:=hid hbl;clear hh f C F d hbl;have ah:H.sales.length≤1000000:=by have Y:=a.out.inv.sales;have h2:zb5 H.lots≤H.lots.length:=List.countP_le_length;have h3:=a.out.inv.llen;omega
  obtain ⟨sn,ai⟩:=nm (H.sales.length);have HSL:=hid ah;have X:=hid ai;have hsm:sn≤1000000:=by rw[ai];exact ah
  clear ah ai;go_wp2_with fail
  refine (zez HH.out HSL.out).mono ?_;rintro e O ⟨xA,xc,rfl,ag,aa⟩;rw[←X.out] at ag ⊢;have HRX:=hid ag;have HB1:=hid aa;have HH1:=hid (HH.out.grow aa);clear ag aa;have HOS:=hid (fun (w:World) (hw:Below O O w) (s:SaleR) (hs:s∈H.sales)=>zoY (HH1.out.grow hw) a.out.bk HBL.out (s:=s) (a.out.said.sale s hs).1 (by
   obtain ⟨_,_,os,Y,h2⟩:=a.out.said.sale s hs;exact ztl Y h2))
  go_upto_block 2 with fail
  go_wp2_with fail
  go_loopw [6] (fun i wr=>∃k:Nat,k≤sn∧i=.int .i64 k∧Below O O wr) (fun i _=>sn-(intOf i).toNat)
  case atStart=>exact ⟨0,zL,rfl,bR⟩
  case round=>
   obtain ⟨i,hi,rfl,d⟩:=hrel;have l:=hid d;clear d;have wi:IntKind.i64.wrap ((i:Int)+1)=(i:Int)+1:=iW _ (by omega);by_cases p:i<sn
   ·obtain ⟨x,hx⟩:∃x,H.sales[i]? =some x:=⟨_,gE (by rw[←X.out];exact p)⟩;obtain ⟨bx,ox,hxA,_,hbx,hcx⟩:=zf1 HRX.out.sl hx p;subst hxA;have HCX:=hid (show ∀w,Below O O w→w.rangeAt bx (ox+i*7) x.cells from fun w d j v hj=>qc d (hcx j v hj) hbx);have HX:=hid hx;have i1:(0:Int)≤(i:Int):=by omega
    have i2:(i:Int)<(sn:Int):=by omega
    clear hx hcx
    go_wp2_with (refine wpList_load_mid rfl 44 (.tmp 41) rfl bx (ox+i*7) rfl x.cells _ (HCX.out _ l.out) Tryz.underlying44 rfl (by kernel_rfl) ?_)
    refine (HOS.out _ l.out x (mG HX.out)).mono ?_;rintro e w2 ⟨rfl,z⟩;have P:=hid (l.out.trans (z.mono l.out.size));clear z;go_wp2_with fail
    go_loopw [7] (fun k wr=>∃j:Nat,j≤i∧k=.int .i64 j∧Below O O wr) (fun k _=>i-(intOf k).toNat)
    case atStart=>exact ⟨0,zL,rfl,P.out⟩
    case round=>
     obtain ⟨j,hj,rfl,d⟩:=hrel;have r:=hid d;clear d;have wj:IntKind.i64.wrap ((j:Int)+1)=(j:Int)+1:=iW _ (by omega);by_cases hji:j<i
     ·obtain ⟨y,hy⟩:∃y,H.sales[j]? =some y:=⟨_,gE (by rw[←X.out];omega)⟩;obtain ⟨by_,oy,aj,_,hby,hcy⟩:=zf1 HRX.out.sl hy (by omega);injection aj with aj
      injection aj with e1 e2 _
      subst e1 e2;have Z:Apart y x:=by
       have Y:=List.pairwise_iff_getElem.1 a.out.said.once;have h2:=(gS.1 hy);have h3:=(gS.1 HX.out);have h4:=Y j i h2.1 h3.1 hji
       rwa [h2.2,h3.2] at h4
      have gy:=fun (m:Nat) (u:Value) (h:y.cells[m]? =some u)=>qc r.out (hcy m u h) hby;have gx:=fun (m:Nat) (u:Value) (h:x.cells[m]? =some u)=>HCX.out _ r.out m u h;have y0:=gy 0 _ rfl;have y1:=gy 1 _ rfl;have y2:=gy 2 _ rfl;have y4:=gy 4 _ rfl;have x0:=gx 0 _ rfl;have x1:=gx 1 _ rfl;have x2:=gx 2 _ rfl;have x4:=gx 4 _ rfl;rw[Nat.add_zero] at x0 y0;have j1:(0:Int)≤(j:Int):=by omega
      have j2:(j:Int)<(sn:Int):=by omega
      have j3:(j:Int)<(i:Int):=by omega
      have ab:=(a.out.said.sale x (mG HX.out)).2.1;have ac:=(a.out.said.sale y (mG hy)).2.1;clear gy gx hcy hy;by_cases hlot:y.lot=x.lot
      ·obtain ⟨a1,a2,a3⟩:=Z hlot;have a4:=zow ac ab a3;have t1:decide (y.lot=x.lot)=true:=decide_eq_true hlot;have t2:decide (y.number=x.number)=true:=decide_eq_true a1;have t3:decide (y.bidder=x.bidder)=false:=decide_eq_false a2;clear Z ab ac a3
       go_upto_region 19 with fail
       go_quiet (fail)
       go_wp2_with fail
       go_roundw
       case rel=>exact ⟨j+1,by omega,by go_num,below_drewN r.out _⟩
       case measure=>simp[intOf];omega
      ·have t1:(y.lot==x.lot)=false:=by simpa using hlot
       clear Z ab ac hlot
       go_upto_region 19 with fail
       go_quiet (fail)
       go_wp2_with fail
       go_roundw
       case rel=>exact ⟨j+1,by omega,by go_num,below_drewN r.out _⟩
       case measure=>simp[intOf];omega
     ·have j3:¬(j:Int)<(i:Int):=by omega
      go_wp2_with fail
      go_roundw
      case rel=>exact ⟨i+1,by omega,by go_num,r.out⟩
      case measure=>simp[intOf];omega
   ·have i2:¬(i:Int)<(sn:Int):=by omega
    go_wp2_with fail
    refine (zlQ _).mono ?_;rintro e w3 ⟨rfl,B⟩;have D:=hid (l.out.trans (B.mono l.out.size));clear B;go_wp2_with fail
    go_ret;exact ⟨rfl,G.out.trans ((HB1.out.trans (D.out.mono HB1.out.size)).mono G.out.size)⟩
end Ho
end Go.Proofs.YthoaidfpgijbfaaGreat

/- Joined by program. -/
import Derived.Test.YtckdpejdnejhfaaGreatZaj
import Derived.Test.YtckdpejdnejhfaaGreatZag
set_option linter.all false
set_option maxRecDepth 100000
set_option maxHeartbeats 32000000
namespace Go.Proofs.YtckdpejdnejhfaaGreat
open Lib (hid)
namespace Fd
open Go.RowKit Vb Ac Ho
attribute [local go_sem] Oper.semAt_some
structure OneAt (W:World) (f h b c:Nat) (v:Value) (came:Int) (w:WatR):Prop where
 feed:FeedAt W (fun x=>x≠f∧x≠b∧x≠c) f h v [b] came
 wat:WatAt W f b c w
 ne:f≠b∧f≠c∧b≠c
theorem zmk {W g d:World} {f h b c:Nat} {v:Value} {came:Int} {w w':WatR} (i:OneAt W f h b c v came w) (k:Ac.Blk g f 41 #[.pointer (some ⟨h,0,none⟩),v,(came+1:Int)])
  (j:Chg (fun x=>x=f∨x=b∨x=c) W g) (a:Chg (·=b) g d) (l:Ac.Blk d b 44 #[.pointer (some ⟨f,0,none⟩),.chan (some c),w'.missed]) (m:ChanAt g c w'.room w'.queue):
  OneAt d f h b c v (came+1) w'∧Chg (fun x=>x=f∨x=b∨x=c) W d:=by
 have o:=j.step (Y:=(·=b)) a fun b _ e=>.inr (.inl e);exact ⟨⟨⟨k.chg a i.ne.1,i.feed.row.chg o fun x _ n e=>e.elim n.1 fun e=>e.elim n.2.1 n.2.2⟩,⟨l,m.chg a fun e=>i.ne.2.2 e.symm⟩,i.ne⟩,o⟩
theorem zr2 {W:World} {f h b c:Nat} {v:Value} {came:Int} {w:WatR} (hO:OneAt W f h b c v came w) (e:EvR) (hc:0≤came∧came≤1000000000) (hm:0≤w.missed∧w.missed≤1000000000):
  Calls Tryz.prog 35 #[.pointer (some ⟨f,0,none⟩),e.agg] W fun ex W'=>ex=.returned (.tuple #[])∧OneAt W' f h b c v (came+1) (w.tell e)∧Chg (fun x=>x=f∨x=b∨x=c) W W':=by
 obtain ⟨N,O,P,Q,R,S⟩:=e;have T:=hO.feed;have o:=hO.wat;obtain ⟨q,I,rfl,J,L,hcap⟩:=T.row.ex (by simp);obtain ⟨r,D⟩:=nm (W.alloc (.cells #[N,O,P,Q,R,S] 64));have j:Below W W r:=by rw[D];exact qA _
 have hx1:Ac.Blk r W.heap.size 64 #[N,O,P,Q,R,S]:=by rw[D];exact Ac.Blk.new W _ _
 have hfl:=T.blk.lt;have hbl:=o.blk.lt;have hcl:=o.room.lt;have E:=hO.ne;have hb0:W.cell? ⟨q,0,none⟩=some (.pointer (some ⟨b,0,none⟩)):=T.row.own.cellAt 0 (by simp);have s:=T.blk.grow j;obtain ⟨V,C⟩:=nm (r.setCell ⟨f,2,none⟩ ↑(came+1:Int));have hcV:Chg (fun x=>x=f∨x=b∨x=c) W V:=by rw[C];exact (Chg.of _ j).step (Chg.set r ⟨f,2,none⟩ _) fun b _ e=>.inl e
 have hFV:Ac.Blk V f 41 #[.pointer (some ⟨h,0,none⟩),.slice (some ⟨q,0,none⟩) 1 I,(came+1:Int)]:=by rw[C];exact s.set_ 2 _
 have t:Ac.Blk V b 44 #[.pointer (some ⟨f,0,none⟩),.chan (some c),w.missed]:=by rw[C];exact ((o.blk.grow j).chg (Chg.set r ⟨f,2,none⟩ _) fun e=>E.1 e.symm)
 have hCV:ChanAt V c w.room w.queue:=by rw[C];exact ((o.room.grow j).chg (Chg.set r ⟨f,2,none⟩ _) fun e=>E.2.1 e.symm)
 have hqV:V.cell? ⟨q,0,none⟩=some (.pointer (some ⟨b,0,none⟩)):=by rw[C];exact ((Chg.set r ⟨f,2,none⟩ _).cell (p:=⟨q,0,none⟩) (lL L j.size) J.1).trans (qc j hb0 L)
 have k:Ac.Blk V W.heap.size 64 #[N,O,P,Q,R,S]:=by rw[C];exact hx1.chg (Chg.set r ⟨f,2,none⟩ _) (by simp;omega)
 have HO:=hid hO;have HF:=hid T;have HW:=hid o;have X:=hid hcV;have Z:=hid hFV;have ab:=hid t;have aa:=hid hCV;have z:=hid E;have HRQ:=hid J;have HM:=hid hm;have s1:r.cell? ⟨f,1,none⟩=some (.slice (some ⟨q,0,none⟩) 1 I):=s.cell 1;have s2:r.cell? ⟨f,2,none⟩=some ↑came:=s.cell 2;have sf:=s.frozen;have ww:IntKind.i64.wrap (came+1)=came+1:=iW _ (by omega);have r1:V.cell? ⟨b,1,none⟩=some (.chan (some c)):=t.cell 1;have r2:V.cell? ⟨b,2,none⟩=some ↑w.missed:=t.cell 2;have x0:V.cell? ⟨W,0,none⟩=some ↑N:=k.cell 0;have x1:V.cell? ⟨W,1,none⟩=some ↑O:=k.cell 1;have x2:V.cell? ⟨W,2,none⟩=some ↑P:=k.cell 2;have x3:V.cell? ⟨W,3,none⟩=some ↑Q:=k.cell 3;have x4:V.cell? ⟨W,4,none⟩=some ↑R:=k.cell 4;have x5:V.cell? ⟨W,5,none⟩=some ↑S:=k.cell 5;have U:b<V.heap.size:=t.lt;have n:W.heap.size<V.heap.size:=k.lt;rw[D] at C s1 s2 sf j;have HV:=hid C;clear hO T o hcV hFV t hCV E J k C s hx1 hb0 hcap hm hfl hbl hcl L;clear D r;go_enter Tryz.func35,Tryz.ntmps35;go_wp2_with fail
 rw[←HV.out];clear s1 s2 sf ww j HV
 go_loopw [18] (fun i wr=>(i=.int .i64 0∧wr=V)∨(i=.int .i64 1∧OneAt wr f h b c (.slice (some ⟨q,0,none⟩) 1 I) (came+1) (w.tell ⟨N,O,P,Q,R,S⟩)∧Chg (fun x=>x=f∨x=b∨x=c) W wr)) (fun i _=>1-(intOf i).toNat)
 case atStart=>exact .inl ⟨rfl,rfl⟩
 case round=>
  rcases hrel with ⟨rfl,rfl⟩|⟨rfl,hP⟩
  ·have m:=fun W' (hcW:ChanAt W' c w.room w.queue)=>zsL ⟨⟨N,O,P,Q,R,S⟩,w.missed⟩ hcW;simp only[zd8,ToldR.cells,EvR.cells,List.cons_append,List.nil_append] at m;have HT:=hid m;clear m;go_wp2_with fail
   by_cases hr:w.queue.length<w.room
   ·have A:=hid hr;clear hr;refine zac (Below wr wr) [10] (by kernel_rfl) (bR.drew) (fun d=>?_);refine tpD [1,2,3,10] 0 d ?_;refine tpD [2,3,10] 1 d ?_;refine tpD [3,10] 2 d ?_;have M:=hid fun (w':World) (a:(Below wr wr) w')=>And.intro (qc a r1 U)<|And.intro (qc a r2 U)<|And.intro (qc a x0 n)<|And.intro (qc a x1 n)<|And.intro (qc a x2 n)<|And.intro (qc a x3 n)<|And.intro (qc a x4 n)<|qc a x5 n;refine tl 3 d M ?_;refine tlD [9,10] 4 d M ?_;refine tpD [6,7,8,9,10] 5 d ?_;refine tpD [7,8,9,10] 6 d ?_;refine tpD [8,9,10] 7 d ?_;refine tlD [9,10] 8 d M ?_;refine tp 9 d ?_;refine stf 10 fun K hK=>?_;go_simp;refine (HT.out _ (aa.out.grow d)).mono ?_;rintro e W5 ⟨rfl,y,g⟩;have F:=hid ((X.out.grow d).step (Y:=(·=c)) g fun b _ e=>.inr (.inr e));have H:=hid ((Z.out.grow d).chg g z.out.2.1);have l:=hid ((ab.out.grow d).chg g z.out.2.2);have G:=hid y;clear y g;rw[decide_eq_true A.out];refine hK.out _ _ ?_;clear hK K
    try simp only[Act.put,pb,pz,ps]
    refine zaa (by kernel_rfl) ?_ _;clear r1 r2 x0 x1 x2 x3 x4 x5 U n;have b2:W5.cell? ⟨b,2,none⟩=some ↑w.missed:=l.out.cell 2;have bf:=l.out.frozen;go_wp2_with fail
    go_roundw
    case rel=>
     refine .inr ⟨rfl,zmk HO.out H.out F.out (Chg.set W5 ⟨b,2,none⟩ ↑()) ?_ ?_⟩
     ·have B:=l.out.set_ 2 ↑();unfold WatR.tell;rw[if_pos A.out];exact B
     ·have B:=G.out;rw[if_pos A.out] at B;unfold WatR.tell;rw[if_pos A.out];exact B
    case measure=>simp[intOf]
   ·have A:=hid hr;clear hr;refine zac (Below wr wr) [10] (by kernel_rfl) (bR.drew) (fun d=>?_);refine tpD [1,2,3,10] 0 d ?_;refine tpD [2,3,10] 1 d ?_;refine tpD [3,10] 2 d ?_;have M:=hid fun (w':World) (a:(Below wr wr) w')=>And.intro (qc a r1 U)<|And.intro (qc a r2 U)<|And.intro (qc a x0 n)<|And.intro (qc a x1 n)<|And.intro (qc a x2 n)<|And.intro (qc a x3 n)<|And.intro (qc a x4 n)<|qc a x5 n;refine tl 3 d M ?_;refine tlD [9,10] 4 d M ?_;refine tpD [6,7,8,9,10] 5 d ?_;refine tpD [7,8,9,10] 6 d ?_;refine tpD [8,9,10] 7 d ?_;refine tlD [9,10] 8 d M ?_;refine tp 9 d ?_;refine stf 10 fun K hK=>?_;go_simp;refine (HT.out _ (aa.out.grow d)).mono ?_;rintro e W5 ⟨rfl,y,g⟩;have F:=hid ((X.out.grow d).step (Y:=(·=c)) g fun b _ e=>.inr (.inr e));have H:=hid ((Z.out.grow d).chg g z.out.2.1);have l:=hid ((ab.out.grow d).chg g z.out.2.2);have G:=hid y;clear y g;rw[decide_eq_false A.out];refine hK.out _ _ ?_;clear hK K
    try simp only[Act.put,pb,pz,ps]
    refine zaa (by kernel_rfl) ?_ _;clear r1 r2 x0 x1 x2 x3 x4 x5 U n;have b2:W5.cell? ⟨b,2,none⟩=some ↑w.missed:=l.out.cell 2;have bf:=l.out.frozen;have wm:IntKind.i64.wrap (w.missed+1)=w.missed+1:=iW _ (by have:=HM.out;omega);go_wp2_with fail
    go_roundw
    case rel=>
     refine .inr ⟨rfl,zmk HO.out H.out F.out (Chg.set W5 ⟨b,2,none⟩ ↑(w.missed+1:Int)) ?_ ?_⟩
     ·have B:=l.out.set_ 2 ↑(w.missed+1:Int);unfold WatR.tell;rw[if_neg A.out];exact B
     ·have B:=G.out;rw[if_neg A.out] at B;unfold WatR.tell;rw[if_neg A.out];exact B
    case measure=>simp[intOf]
  ·have HP:=hid hP;clear hP;go_wp2_with fail
   refine bodyPost_end (results_none rfl _ _ _) rfl ?_;exact ⟨rfl,HP.out⟩
theorem zsC {W:World} {f h:Nat} (h0:W.cell? ⟨f,0,none⟩=some (.pointer (some ⟨h,0,none⟩))) (G:f<W.heap.size) (o:OrderR) (vo:Value) (a:AnsR) {Q:World→Prop}
  (Y:∀U,Below W W U→W.heap.size+1<U.heap.size→Calls Tryz.prog 33 #[.pointer (some ⟨h,0,none⟩),o.agg vo,.func (.func 35) #[.pointer (some ⟨f,0,none⟩)] #[]] U fun e W'=>e=.returned a.agg∧U.heap.size≤W'.heap.size∧W'.heap[W.heap.size+1]? =U.heap[W.heap.size+1]? ∧Q W')
  (hQ:∀V V',Q V→Chg (·=W.heap.size+1) V V'→Q V'):
  Calls Tryz.prog 15 #[.pointer (some ⟨f,0,none⟩),o.agg vo] W fun e W'=>e=.returned a.agg∧Q W':=by
 obtain ⟨k,l,g,b,y,⟨t,m,c,p,A,d,x,j,r,i,z⟩,ooff,n⟩:=o;obtain ⟨T,S,X⟩:=a;simp only[OrderR.agg,OrderR.cells,LotR.cells,List.cons_append,List.nil_append] at Y ⊢;obtain ⟨D,s⟩:=nm ((W.alloc (.cells #[k,.string l,g,b,y,t,m,c,p,A,d,x,j,r,i,z,vo,n] 61)).alloc (.cells #[(),(),()] 52));have C:Below W W D:=by rw[s];exact (qA _).alloc (by simp) _
 have P:=hid (show Ac.Blk D W.heap.size 61 #[k,.string l,g,b,y,t,m,c,p,A,d,x,j,r,i,z,vo,n] by rw[s];exact (Ac.Blk.new W _ _).alloc _);have I:=hid (show Ac.Blk D (W.heap.size+1) 52 #[(),(),()] by rw[s];exact Ac.Blk.new' _ _ (by simp));have u0:=qc C h0 G;have HT:=hid (zha u0);have lf:=lL G C.size;have H:=hid C;have HD:=hid Y;have HQ:=hid hQ;clear C h0 G Y hQ;go_enter Tryz.func15,Tryz.ntmps15;go_wp2_with fail
 rw[←s];clear s;refine HT.out.mono ?_;rintro e W2 ⟨rfl,N⟩;rw[N];clear N;go_wp2_with fail
 refine zac (Below D D) [7,8] (by kernel_rfl) (bR.drew) (fun B=>?_);refine tpD [1,2,3,7,8] 0 B ?_;refine tpD [2,3,7,8] 1 B ?_;refine tpD [3,7,8] 2 B ?_;have qq:=hid fun (w':World) (F:(Below D D) w')=>qc F u0 lf;refine tl 3 B qq ?_;refine tx 4 (v:=?_) B ?_ ?_
 rotate_left
 ·intro w' F;refine Eq.trans (zbq 61 (.tmp 3) (by rfl) W.heap.size (by rfl) 61 #[k,.string l,g,b,y,t,m,c,p,A,d,x,j,r,i,z,vo,n] (0,0) _ (P.out.grow F) Tryz.underlying61 rfl (by kernel_rfl)) ?_;with_reducible rfl
 refine tpD [6,7,8] 5 B ?_;refine tl 6 B qq ?_;refine stf 7 fun K L=>?_;go_simp;refine (HD.out D.drew (H.out.trans (B.mono H.out.size)) I.out.lt).mono ?_;rintro e J ⟨rfl,aa,E,hq⟩;have q:Ac.Blk J (W.heap.size+1) 52 #[(),(),()]:=E.trans (I.out.grow B);have z0:J.cell? ⟨W.heap.size+1,0,none⟩=some ↑():=q.cell 0;have z1:J.cell? ⟨W.heap.size+1,1,none⟩=some ↑():=q.cell 1;have z2:J.cell? ⟨W.heap.size+1,2,none⟩=some ↑():=q.cell 2;have zf:=q.frozen;have R:=hid q;have O:=hid hq;clear q E hq aa;refine L.out _ _ ?_;clear L K
 try simp only[Act.put,pb,pz,ps]
 refine stf 8 fun K L=>?_;go_simp;refine L.out _ _ ?_;clear L K
 try simp only[Act.put,pb,pz,ps]
 refine zaa (by kernel_rfl) ?_ _;go_wp2_with fail
 have Z:=((Chg.set J ⟨W.heap.size+1,0,none⟩ ↑T).trans (Chg.set _ ⟨W.heap.size+1,1,none⟩ ↑S)).trans (Chg.set _ ⟨W.heap.size+1,2,none⟩ ↑X);have M:=((R.out.set_ 0 ↑T).set_ 1 ↑S).set_ 2 ↑X;refine bodyPost_ret (results_cell_row rfl _ _ (W.heap.size+1) 52 #[T,S,X] (0,0) _ rfl M Tryz.underlying52 rfl (by kernel_rfl)) rfl ⟨rfl,HQ.out _ _ O.out Z⟩
end Fd
namespace Fd
open Go.RowKit Vb Ac Ho
theorem zmS (w:WatR) (h:0≤w.missed) (e:EvR):0≤(w.tell e).missed∧(w.tell e).missed≤w.missed+1:=by
 unfold WatR.tell
 split
 ·exact ⟨Int.le_refl _,by show (0:Int)≤_;omega⟩
 ·exact ⟨by show (0:Int)≤w.missed+1;omega,by show w.missed+1≤_;omega⟩
theorem zhy:∀(s:List EvR) (w:WatR),0≤w.missed→0≤(s.foldl WatR.tell w).missed∧(s.foldl WatR.tell w).missed≤w.missed+s.length
 |[],w,h=>⟨h,by simp⟩
 |e::s,w,h=>by
  have h1:=zmS w h e;have h2:=zhy s (w.tell e) h1.1;simp only[List.foldl_cons,List.length_cons]
  omega
def zt7 (f h b c:Nat) (v:Value) (came:Int) (w:WatR) (Z:Nat→Prop) (s:List EvR) (W:World):Prop:=
 OneAt W f h b c v (came+s.length) (s.foldl WatR.tell w)∧Z f∧Z b∧Z c∧∀x,v.ownBlock=some x→Z x
theorem OneAt.chg {W W':World} {f h b c:Nat} {v:Value} {came:Int} {w:WatR} {X:Nat→Prop} (hO:OneAt W f h b c v came w) (hc:Chg X W W') (hf:¬X f) (hb:¬X b) (hr:¬X c) (hv:∀x,v.ownBlock=some x→¬X x):OneAt W' f h b c v came w:=
 ⟨⟨hO.feed.blk.chg hc hf,hO.feed.row.chgB hc hv⟩,hO.wat.chg hc hb hr,hO.ne⟩
theorem OneAt.grow {W W':World} {f h b c:Nat} {v:Value} {came:Int} {w:WatR} (hO:OneAt W f h b c v came w) (hb:Below W W W'):OneAt W' f h b c v came w:=
 hO.chg (Chg.of (fun _=>False) hb) id id id fun _ _=>id
theorem zqo {f h b c:Nat} {v:Value} {came:Int} {w:WatR} {N:Nat} (d:0≤came∧came+N≤1000000000) (a:0≤w.missed∧w.missed+N≤1000000000):
  Tells 35 #[.pointer (some ⟨f,0,none⟩)] #[] N (zt7 f h b c v came w) where
 code:=enters_of Tryz.func35 (by kernel_rfl) rfl
 mono:=fun {Z Z' s W} hJ hZ=>⟨hJ.1,hZ _ hJ.1.feed.blk.lt hJ.2.1,hZ _ hJ.1.wat.blk.lt hJ.2.2.1,hZ _ hJ.1.wat.room.lt hJ.2.2.2.1,fun x hx=>hZ x (hJ.1.feed.row.lt hx) (hJ.2.2.2.2 x hx)⟩
 keep:=fun {Z s W W' X} hJ hX hn=>⟨hJ.1.chg hX (hn _ hJ.1.feed.blk.lt hJ.2.1) (hn _ hJ.1.wat.blk.lt hJ.2.2.1) (hn _ hJ.1.wat.room.lt hJ.2.2.2.1) fun x hx=>hn x (hJ.1.feed.row.lt hx) (hJ.2.2.2.2 x hx),hJ.2⟩
 call:=fun {Z s W} e hJ hs=>by
  have h1:=zhy s w a.1;rw[show (#[Value.pointer (some ⟨f,0,none⟩)].push e.agg++ #[])=#[.pointer (some ⟨f,0,none⟩),e.agg] by simp];refine (zr2 hJ.1 e (by omega) (by omega)).mono ?_;rintro ex W' ⟨rfl,hO,hC⟩;refine ⟨rfl,⟨?_,.inl hJ.2.1,.inl hJ.2.2.1,.inl hJ.2.2.2.1,fun x hx=>.inl (hJ.2.2.2.2 x hx)⟩,hC.mono fun x _ hx=>?_⟩
  ·rw[List.foldl_append,List.length_append];have h2:came+s.length+1=came+((s.length+[e].length:Nat):Int):=by simp;omega
   rw[←h2];exact hO
  ·rcases hx with rfl|rfl|rfl
   ·exact hJ.2.1
   ·exact hJ.2.2.1
   ·exact hJ.2.2.2.1
def zcb (H H':House) (o:OrderR) (a:AnsR):List EvR:=if a.err=0 then zgq H H' o a else []
structure OneNo (T:Nat→Part) (f b c:Nat) (v:Value):Prop where
 f:T f=.no
 b:T b=.no
 c:T c=.no
 v:∀x,v.ownBlock=some x→T x=.no
def zgU (T:Nat→Part) (f b c:Nat) (v:Value):Nat→Prop:=fun x=>Ho.Own T x∨(x=f∨x=b∨x=c∨v.ownBlock=some x)
theorem zsD {W:World} {T:Nat→Part} {f h b c K K':Nat} {H H':House} {v:Value} {came:Int} {w:WatR} (B:zaf W T h K H) (J:H.sales.length≤1000000) (E:H'.sales.length≤1000000) (m:OneAt W f h b c v came w) (n:OneNo T f b c v)
  (o:OrderR) {A:Option Addr} {F:Nat} {a:AnsR} (G:zcC W T h K' H' o A F a) (I:0≤came∧came+(zcb H H' o a).length≤1000000000) (L:0≤w.missed∧w.missed+(zcb H H' o a).length≤1000000000):
  Calls Tryz.prog 15 #[.pointer (some ⟨f,0,none⟩),o.agg (.slice A o.offers.length F)] W fun e W'=>e=.returned a.agg∧∃T',zaf W' T' h K' H'∧(∀x,x<W.heap.size→T' x=T x)∧T' (W.heap.size+1)=.no∧
   Chg (zgU T f b c v) W W'∧OneAt W' f h b c v (came+(zcb H H' o a).length) ((zcb H H' o a).foldl WatR.tell w):=by
 have t:∀b,W.heap.size≤b→T b=.no:=by obtain ⟨_,_,_,_,_,_,M⟩:=id B;exact M.out
 have D:=m.feed.blk.lt;have N:=m.wat.blk.lt;have O:=m.wat.room.lt;refine zsC (h:=h) (m.feed.blk.cell 0) D o _ a (Q:=fun W'=>∃T',zaf W' T' h K' H'∧(∀x,x<W.heap.size→T' x=T x)∧T' (W.heap.size+1)=.no∧
   Chg (zgU T f b c v) W W'∧OneAt W' f h b c v (came+(zcb H H' o a).length) ((zcb H H' o a).foldl WatR.tell w)) (fun U g l=>?_) fun V R P C=>?_
 ·by_cases ha:a.err=0
  ·have p:zcb H H' o a=zgq H H' o a:=if_pos ha;rw[p] at I L ⊢;refine (zm0 (Z:=fun x=>x=f∨x=b∨x=c∨v.ownBlock=some x) (s:=[]) (B.grow g) J E o (a:=a) (fun y k=>G y (g.trans (k.mono g.size))) ha (zqo I L) ⟨by simpa using m.grow g,.inl rfl,.inr (.inl rfl),.inr (.inr (.inl rfl)),fun x d=>.inr (.inr (.inr d))⟩ (fun x _ d=>?_) (by simp)).mono ?_
   ·rcases d with rfl|rfl|rfl|d
    ·exact n.f
    ·exact n.b
    ·exact n.c
    ·exact n.v x d
   ·rintro e W' ⟨rfl,T',k,i,q,z⟩;have r:=z.1;rw[List.nil_append] at r;have j:=t (W.heap.size+1) (by omega);refine ⟨rfl,q.size,q.block _ l fun d=>?_,T',k,fun x d=>i x (lL d g.size),(i _ l).trans j,(Chg.of _ g).step q fun x d p=>p,r⟩
    rcases d with d|d|d|d|d
    ·exact d.2 j
    ·omega
    ·omega
    ·omega
    ·have:=m.feed.row.lt d;omega
  ·have p:zcb H H' o a=[]:=if_neg ha;rw[p];refine (zlE (B.grow g) J o (a:=a) (fun y k=>G y (g.trans (k.mono g.size))) ha _ _ _).mono ?_;rintro e W' ⟨rfl,T',k,i⟩;have j:=t (W.heap.size+1) (by omega);refine ⟨rfl,i.chg.size,i.chg.block _ l fun d=>d.2 j,T',k,fun x d=>i.tag x (lL d g.size),(i.tag _ l).trans j,(Chg.of _ g).step i.chg fun x d p=>.inl p,?_⟩;have r:=(m.grow g).chg i.chg (fun e=>e.2 n.f) (fun e=>e.2 n.b) (fun e=>e.2 n.c) fun x d e=>e.2 (n.v x d)
   simpa using r
 ·obtain ⟨T',k,i,q,z,r⟩:=P;refine ⟨T',k.keep C fun x d e=>d (e▸q),i,q,z.step C fun x d e=>by omega,r.chg C (by omega) (by omega) (by omega) fun x d e=>?_⟩;have:=m.feed.row.lt d
  omega
end Fd
namespace Fd
open Go.RowKit Vb Ac Ho
attribute [local go_sem] Oper.semAt_some
theorem zhO (H:House) (o:OrderR):zcb H (doH H o) o (doA H o)=zc8 H o:=by
 unfold zcb zc8 zgq;by_cases he:doE H o=0
 ·rw[if_pos he,if_pos (by rw[ztB he])]
 ·rw[if_neg he,if_neg (by rw[(zsv he).1];exact he)]
theorem zh8 (os:List OrderR) (o:OrderR):zaA zan (os++[o])=zaA zan os++zc8 (stH os) o:=by
 rw[zgr]
 simp[zaA,stH]
theorem ziQ:∀os:List OrderR,Ho.Reach (stH os):=fun os=>by
 unfold stH
 suffices h:∀(os:List OrderR) (H:House),Ho.Reach H→Ho.Reach (os.foldl doH H) from h os _ zcn
 intro os
 induction os with
 |nil=>exact fun H h=>h
 |cons o os ih=>exact fun H h=>ih _ (h.next o)
theorem zen {H:House} (h:HInv H):H.sales.length≤262144:=by
 have a:=h.sales;have b:=h.llen;have c:=zeD H.lots
 omega
theorem ziE:∀(os:List OrderR) (H:House),(os.foldl doH H).book.length≤H.book.length+os.length
 |[],H=>lR
 |o::os,H=>by
  have h1:=ziE os (doH H o);have h2:(doH H o).book.length≤H.book.length+1:=by
   rw[zlF]
   split<;>simp
  simp only[List.foldl_cons,List.length_cons]
  omega
theorem zlG {W:World} {T:Nat→Part} {h K:Nat} {H:House} (hH:zaf W T h K H) (hR:Ho.Reach H) (o:OrderR) {A:Option Addr} {c:Nat} {R:Nat→Prop} (hO:zad W R (.slice A o.offers.length c) o.offers) (hRT:∀b,R b→T b=.no) (hK:K+KD<maxLen) (hb:H.book.length≤1000000):
  zcC W T h (K+KD) (doH H o) o A c (doA H o):=fun W1 h1=>
 ztC (hH.grow h1) hR.inv o (zad.grow hO h1) (fun b _ hr=>hRT b hr) (fun he=>by have:=ztD hR.inv he;omega) hK hb
theorem zg8 {H:House} (h:Ho.Reach H) (o:OrderR):(zc8 H o).length≤262145:=by
 unfold zc8
 split
 ·have a:=zen (h.next o).inv;simp only[List.length_cons,List.length_map,List.length_drop]
  omega
 ·simp
theorem zf5:∀(os:List OrderR) {H:House},Ho.Reach H→(zaA H os).length≤262145*os.length
 |[],_,_=>by simp[zaA]
 |o::os,H,h=>by
  have h1:=zf5 os (h.next o);have h2:=zg8 h o;simp only[zaA,List.length_append,List.length_cons]
  omega
theorem zqK {W:World} {T:Nat→Part} {h K K':Nat} {H H':House} (m:zaf W T h K H) (r:H.sales.length≤1000000) (i:H'.sales.length≤1000000) (o:OrderR) {A:Option Addr} {c:Nat} {a:AnsR} (l:zcC W T h K' H' o A c a)
  {k:Nat} {pre cap:Array Value} {N:Nat} {J:(Nat→Prop)→List EvR→World→Prop} (f:Tells k pre cap N J) {Z:Nat→Prop} {s:List EvR} (n:J Z s W) (q:∀b,b<W.heap.size→Z b→T b=.no) (p:s.length+(zcb H H' o a).length≤N):
  Calls Tryz.prog 33 #[.pointer (some ⟨h,0,none⟩),o.agg (.slice A o.offers.length c),.func (.func k) pre cap] W fun e W'=>e=.returned a.agg∧∃T',zaf W' T' h K' H'∧(∀b,b<W.heap.size→T' b=T b)∧
   Chg (fun b=>Ho.Own T b∨Z b) W W'∧J (fun b=>Z b∨(W.heap.size≤b∧T' b=.no)) (s++zcb H H' o a) W':=by
 by_cases ha:a.err=0
 ·have g:zcb H H' o a=zgq H H' o a:=if_pos ha;rw[g] at p ⊢;exact zm0 m r i o l ha f n q p
 ·have g:zcb H H' o a=[]:=if_neg ha;rw[g];refine (zlE m r o l ha k pre cap).mono ?_;rintro e W' ⟨rfl,T',t,d⟩;refine ⟨rfl,T',t,d.tag,d.chg.mono fun b _ e=>.inl e,?_⟩;rw[List.append_nil];exact f.mono (f.keep n d.chg fun b v j e=>e.2 (q b v j)) fun b _ j=>.inl j
theorem zqR {W:World} {T:Nat→Part} {h:Nat} (hH:zaf W T h 0 zan) {os:List OrderR} {A:Option Addr} {c:Nat} {vo:Nat→Value} {lo:Nat} (hlo:lo≤W.heap.size) (hnl:∀b,b<lo→T b=.no) (P:Sl W (fun b=>b<lo) (.slice A os.length c) os.length 18 (zaz os vo))
  (hoff:∀k o,os[k]? =some o→zad W (fun b=>b<lo) (vo k) o.offers) (hn:os.length≤300):
  Calls Tryz.prog 14 #[.pointer (some ⟨h,0,none⟩),.slice A os.length c] W fun e W'=>∃A2 c2,e=.returned (.tuple #[.slice A2 (zaA zan os).length c2,()])∧
   RowAt W' (fun b=>W.heap.size≤b) 64 6 (.slice A2 (zaA zan os).length c2) (zaA zan os).length (zhN (zaA zan os))∧Below W W W':=by
 obtain ⟨n,hnn⟩:=nm (os.length);rw[←hnn] at P hn ⊢;have HROW:=hid P;have Z:=hid hoff;have HN:=hid hnn;have X:=hid hn;have HE:=hid (zne hH);have HH:=hid hH;have HLO:=hid hlo;have HNL:=hid hnl;clear P hoff hnn hn hH hlo hnl;go_enter Tryz.func14,Tryz.ntmps14;go_wp2_with fail
 refine HE.out.mono ?_;rintro e W1 ⟨rfl,C⟩;have B:=hid C;clear C;go_wp2_with fail
 refine (zo9 (HH.out.grow B.out) zcn.inv zcn.cinv (zL)).mono ?_;rintro e D ⟨hc,Tc,rfl,hC,hTc,O,hb2⟩;obtain ⟨W3,M⟩:=nm ((D.alloc (.cells #[] 64)).alloc (.cells #[.slice (some ⟨D,0,none⟩) 0 0] 48));have hb3:Below D D W3:=by rw[M];exact (qA _).alloc (by simp) _
 have hno:∀b,D.heap.size≤b→Tc b=.no:=hC.out;have F:=B.out.trans (hb2.mono B.out.size);have hnlo:∀x,x<lo→Tc x=.no:=fun x S=>by
  have V:=HLO.out;have h2:=B.out.size;rw[hTc x (by omega),HNL.out x S]
  rfl
 have hfar:∀x,x<W.heap.size→¬Ho.Own Tc x:=fun x S=>by
  have V:=B.out.size;have h2:=hTc x (by omega);unfold Ho.Own;rw[h2]
  split<;>simp
 have HJ:=hid (show zln (D.heap.size+1) (fun x=>W.heap.size≤x∧Tc x=.no) (zaA zan (os.take 0)) W3 from by
  have V:=F.size;refine ⟨.slice (some ⟨D,0,none⟩) 0 0,by rw[M];exact Ac.Blk.new' _ _ (by simp),?_,by omega,hno _ (by omega)⟩;rw[M];exact ((RowAt.new D #[] 64 0 6 (zL) rfl).grow (qA _)).mono fun b _ e=>⟨⟨by omega,hno b (by omega)⟩,by omega⟩)
 have HC:=hid (hC.grow hb3);have HB3:=hid (F.trans (hb3.mono F.size));have HFAR:=hid hfar;have HNLO:=hid hnlo;clear hC hTc O hb2 hb3 hno F hfar hnlo;go_wp2_with fail
 rw[←M];clear M;have e4:(0:Int)≤(n:Int):=by omega
 go_loopw [8,16] (fun _ i wr=>∃(k:Nat) (Tk:Nat→Part),k≤n∧i=.int .i64 k∧zaf wr Tk hc (k*KD) (stH (os.take k))∧zln (D.heap.size+1) (fun x=>W.heap.size≤x∧Tk x=.no) (zaA zan (os.take k)) wr∧Below W W wr∧(∀x,x<W.heap.size→¬Ho.Own Tk x)∧∀x,x<lo→Tk x=.no) (fun _ i _=>n-(intOf i).toNat)
 case atStart=>exact ⟨0,Tc,zL,rfl,by rw[Nat.zero_mul];exact HC.out,HJ.out,HB3.out,HFAR.out,HNLO.out⟩
 case round=>
  obtain ⟨k,Tk,hk,rfl,hC,hJ,hB,hF,hL⟩:=hrel;by_cases hlt:k<n
  ·obtain ⟨o,ho⟩:∃o,os[k]? =some o:=⟨_,gE (by rw[←HN.out];exact hlt)⟩;obtain ⟨q,off,rfl,_,hq,hrg⟩:=ziS HROW.out ho hlt;obtain ⟨oA,oc,hoA⟩:=zfH (Z.out k o ho);have HOF:=hid (hoA▸Z.out k o ho);rw[hoA] at hrg;have O:wr.rangeAt q (off+k*18) (o.cells (.slice oA o.offers.length oc)):=fun j v hj=>qc hB (hrg j v hj) hq;have Y:=ziQ (os.take k);have HDO:=hid (show ∀w,Below wr wr w→zcC w Tk hc ((k+1)*KD) (stH (os.take (k+1))) o oA oc (doA (stH (os.take k)) o) from fun w hw=>by
    rw[show (k+1)*KD=k*KD+KD from Nat.succ_mul k KD,List.take_add_one,ho];rw[show os.take k++(some o).toList=os.take k++[o] from rfl,zgJ];refine zlG (hC.grow hw) Y o (R:=fun x=>x<lo) (zad.grow (zad.grow HOF.out hB) hw) hL ?_ ?_
    ·have V:=Nat.mul_le_mul_right KD (show k≤300 by have:=X.out;omega);unfold KD maxLen at*
     omega
    ·have V:=ziE (os.take k) zan;have h2:(os.take k).length≤300:=by rw[List.length_take];have:=X.out;omega
     unfold stH;simp only[zan,List.length_nil] at V ⊢
     omega)
   have HSL:=hid (show (stH (os.take k)).sales.length≤1000000∧(stH (os.take (k+1))).sales.length≤1000000 from ⟨by have:=zen Y.inv;omega,by have:=zen (ziQ (os.take (k+1))).inv;omega⟩);have HEV:=hid (show zcb (stH (os.take k)) (stH (os.take (k+1))) o (doA (stH (os.take k)) o)=zc8 (stH (os.take k)) o∧zaA zan (os.take (k+1))=zaA zan (os.take k)++zc8 (stH (os.take k)) o from by
    rw[List.take_add_one,ho,show os.take k++(some o).toList=os.take k++[o] from rfl,zgJ,zh8];exact ⟨zhO _ _,rfl⟩)
   have HEL:=hid (show (zaA zan (os.take k)).length+(zc8 (stH (os.take k)) o).length≤100000000 from by
    have V:=zf5 (os.take k) zcn;have h2:=zg8 Y o;have h3:(os.take k).length≤300:=by rw[List.length_take];have:=X.out;omega
    omega)
   have HC:=hid hC;have HJK:=hid hJ;have HB:=hid hB;have HF:=hid hF;have HL:=hid hL;have e5:(0:Int)≤(k:Int):=by omega
   have e6:(k:Int)<(n:Int):=by omega
   have hwr:IntKind.i64.wrap ((k:Int)+1)=(k:Int)+1:=iW _ (by have:=X.out;omega);clear hC hJ hB hF hL ho hoA hrg Y;obtain ⟨r,s,l,a,I,⟨G,t,d,z,L,f,H,p,E,m,K⟩,J,y⟩:=o;obtain ⟨w1,Q⟩:=nm (wr.alloc (.cells #[r,.string s,l,a,I,G,t,d,z,L,f,H,p,E,m,K,.slice oA J.length oc,y] 61));have C:Below wr wr w1:=by rw[Q];exact qA _
   have HX1:=hid (show Ac.Blk w1 wr.heap.size 61 #[r,.string s,l,a,I,G,t,d,z,L,f,H,p,E,m,K,.slice oA J.length oc,y] by rw[Q];exact Ac.Blk.new _ _ _);have HD:=hid (zqK (HC.out.grow C) HSL.out.1 HSL.out.2 _ (HDO.out w1 C) (zfO (g:=D.heap.size+1) (N:=1000000000) lR) ((zfO (g:=D.heap.size+1) (N:=1000000000) lR).mono (Z':=fun x=>(W.heap.size≤x∧Tk x=.no)∧x<w1.heap.size) ((zfO (g:=D.heap.size+1) (N:=1000000000) lR).keep HJK.out (Chg.of (fun _=>False) C) fun _ _ _=>id) fun x S U=>⟨U,S⟩) (fun x _ U=>U.1.2) (by rw[HEV.out.1];have:=HEL.out;omega));simp only[OrderR.agg,OrderR.cells,LotR.cells,List.cons_append,List.nil_append] at HD O;have HCS:=hid O;have B:=hid C;clear O C
   go_wp2_with (first|(refine wpList_load_mid rfl 61 (.tmp 18) rfl q (off+k*18) rfl [.int .i64 r,.string s,.int .i64 l,.int .i64 a,.int .i64 I,.int .i64 G,.int .i64 t,.int .i64 d,.int .i64 z,.int .i64 L,.int .i64 f,.int .i64 H,.int .i64 p,.int .i64 E,.int .i64 m,.int .i64 K,.slice oA J.length oc,.int .i64 y] _ HCS.out Tryz.underlying61 rfl (by kernel_rfl) ?_)|(refine wpList_load_row rfl 61 (.tmp 8) rfl wr.heap.size rfl 61 #[r,.string s,l,a,I,G,t,d,z,L,f,H,p,E,m,K,.slice oA J.length oc,y] (0,0) _ (by rw[←Q];exact HX1.out) Tryz.underlying61 rfl (by kernel_rfl) ?_))
   rw[←Q];clear Q;refine HD.out.mono ?_;rintro e w2 ⟨rfl,T2,hH2,htg,hc2,hj2⟩;have HH2:=hid hH2;have HTG:=hid htg;have HC2:=hid hc2;have HJ2:=hid hj2;clear hH2 htg hc2 hj2;go_wp2_with fail
   go_roundw
   case rel=>
    have hsw:=HB.out.size;have hs1:=B.out.size;refine ⟨k+1,T2,by omega,by go_num,HH2.out,?_,(HB.out.trans (B.out.mono hsw)).trans (HC2.out.below (by omega) fun x S e=>?_),fun x S=>?_,fun x S=>?_⟩
    ·rw[HEV.out.2,←HEV.out.1];refine (zfO (g:=D.heap.size+1) (N:=1000000000) lR).mono HJ2.out fun x S U=>?_
     rcases U with U|U
     ·exact ⟨U.1.1,(HTG.out x U.2).trans U.1.2⟩
     ·exact ⟨by omega,U.2⟩
    ·rcases e with e|e
     ·exact HF.out x S e
     ·omega
    ·have V:=HF.out x S;unfold Ho.Own at V ⊢;rw[HTG.out x (by omega)];exact V
    ·have V:=HLO.out;rw[HTG.out x (by omega)];exact HL.out x S
   case measure=>simp[intOf];omega
  ·obtain rfl:k=n:=by omega
   have hall:os.take k=os:=List.take_of_length_le (by have:=HN.out;omega);rw[hall] at hJ;obtain ⟨v,hbx,hrw,_⟩:=hJ;obtain ⟨A2,c2,rfl⟩:=hrw.form;have g0:wr.cell? ⟨D.heap.size+1,0,none⟩=some (.slice A2 (zaA zan os).length c2):=hbx.cell 0;have HRW:=hid hrw;have HB:=hid hB;clear hall hbx hrw hB hC hF hL hlt hk e4;go_wp2_with fail
   go_ret2
   exact ⟨A2,c2,rfl,HRW.out.mono fun b _ hb=>hb.1.1,HB.out⟩
set_option maxRecDepth 100000
theorem zbZ (x:Int) (W:World):Calls Tryz.prog 8 #[x] W fun e W'=>e=.returned ↑x∧W'=W:=by
 go_enter Tryz.func8,Tryz.ntmps8;go_wp2_with fail
 go_ret;exact ⟨rfl,rfl⟩
theorem zrr {W:World} {R:Nat→Prop} {os:List OrderR} {A:Option Addr} {c:Nat} {vo:Nat→Value} (a:Sl W R (.slice A os.length c) os.length 18 (zaz os vo)) (f:∀k o,os[k]? =some o→zad W R (vo k) o.offers):
  Calls Tryz.prog 13 #[.slice A os.length c] W fun e W'=>(∃b:Bool,e=.returned ↑b∧(b=false→os.length≤300))∧W'=W:=by
 obtain ⟨n,g⟩:=nm (os.length);rw[←g] at a ⊢;have G:n≤9223372036854775807:=by
  obtain ⟨_,L,M,H,t,r,_⟩:=a;injection H with _ _ e3
  unfold maxLen at r
  omega
 have j:=hid a;have h:=hid f;have B:=hid g;clear a f g;go_enter Tryz.func13,Tryz.ntmps13;go_wp2_with fail
 go_loopw [3] (fun i wr=>∃k:Nat,k≤n∧k≤301∧i=.int .i64 k∧wr=W) (fun i _=>n-(intOf i).toNat)
 case atStart=>exact ⟨0,zL,by omega,rfl,rfl⟩
 case round=>
  obtain ⟨k,F,v,rfl,rfl⟩:=hrel;by_cases hlt:k<n
  ·have O:decide ((k:Int)<(n:Int))=true:=decide_eq_true (by omega);by_cases hl2:k≤300
   ·have C:decide ((k:Int)≤300)=true:=decide_eq_true (by omega);obtain ⟨o,x⟩:∃o,os[k]? =some o:=⟨_,gE (by rw[←B.out];exact hlt)⟩;obtain ⟨q,p,rfl,_,S,d⟩:=ziS j.out x hlt;obtain ⟨J,K,l⟩:=zfH (h.out k o x);rw[l] at d;have N:wr.cell? ⟨q,p+k*18+1,none⟩=some (.string o.name):=d 1 _ rfl;have s:wr.cell? ⟨q,p+k*18+16,none⟩=some (.slice J o.offers.length K):=d 16 _ rfl;have P:(0:Int)≤(k:Int):=by omega
    have Q:(k:Int)<(n:Int):=by omega
    have I:IntKind.i64.wrap ((k:Int)+1)=(k:Int)+1:=iW _ (by omega)
    generalize o.offers.length=m at s
    clear d x l;by_cases t:1000<m
    ·have D:decide ((m:Int)>1000)=true:=decide_eq_true (by omega);clear t;go_wp2_with fail
     go_ret;exact ⟨⟨true,rfl,fun e=>by cases e⟩,rfl⟩
    ·have D:decide ((m:Int)>1000)=false:=decide_eq_false (by omega);clear t;by_cases r:10000<o.name.size
     ·have E:decide ((o.name.size:Int)>10000)=true:=decide_eq_true (by omega);clear r;go_wp2_with fail
      go_ret;exact ⟨⟨true,rfl,fun e=>by cases e⟩,rfl⟩
     ·have E:decide ((o.name.size:Int)>10000)=false:=decide_eq_false (by omega);clear r;go_wp2_with fail
      go_roundw
      case rel=>exact ⟨k+1,by omega,by omega,by go_num,by first|rfl|trivial⟩
      case measure=>simp[intOf];omega
   ·have C:decide ((k:Int)≤300)=false:=decide_eq_false (by omega);have y:decide ((n:Int)>300)=true:=decide_eq_true (by omega);go_wp2_with fail
    go_ret;exact ⟨⟨true,rfl,fun e=>by cases e⟩,rfl⟩
  ·obtain rfl:k=n:=by omega
   clear hlt F v;by_cases h3:300<k
   ·have y:decide ((k:Int)>300)=true:=decide_eq_true (by omega);clear h3;go_wp2_with fail
    go_ret;exact ⟨⟨true,rfl,fun e=>by cases e⟩,rfl⟩
   ·have y:decide ((k:Int)>300)=false:=decide_eq_false (by omega);have z:=hid h3;clear h3;go_wp2_with fail
    go_ret;exact ⟨⟨false,rfl,fun _=>by have:=z.out;omega⟩,rfl⟩
end Fd
namespace Fd
open Go.RowKit Vb Ac Ho
def sA:ByteArray:={data:=#[97]}
def s0:ByteArray:={data:=#[]}
def zsf:LotR:=⟨0,0,0,0,0,0,0,0,0,0,0⟩
def gO0:OrderR:=⟨1,sA,5,0,0,zsf,[],0⟩
def gO1:OrderR:=⟨2,s0,2,0,0,zsf,[],0⟩
def gO2:OrderR:=⟨6,s0,0,0,0,zsf,[],3⟩
def gS1:House:=⟨[sA],[⟨5,0,[]⟩],[],0,[gO0],[],fun _=>none⟩
def gS2:House:=⟨[sA],[⟨7,0,[]⟩],[],0,[gO0,gO1],[],fun _=>none⟩
def gS3:House:=⟨[sA],[⟨7,0,[]⟩],[],3,[gO0,gO1,gO2],[],zbn (fun _=>none) 3⟩
theorem ztG (v:Int) (h:0≤v∧v≤100):Acc.Ok ⟨v,0,[]⟩:=⟨by unfold zah;simp only;omega,by unfold zah;simp only;omega,List.Pairwise.nil,fun p hp=>by simp at hp,by simp[zaq]⟩
section
variable {W:World} {T:Nat→Part} {h:Nat}
theorem zoc (W:World) (R:Nat→Prop):zad W R (.slice none 0 0) []:=⟨Sl.none0 _ _ _,fun o h=>by cases h⟩
theorem zt8 (hH:zaf W T h 0 zan):zcC W T h 0 gS1 gO0 none 0 ⟨0,0,0⟩:=fun W1 hb=>by
 refine (zeE 1 (by decide) (by decide) (hH.grow hb) gO0 (A:=none) (c:=0) rfl rfl (R:=fun _=>False) (zoc _ _) (fun b _ hr=>hr.elim) (zL) (K':=0) (H1:=zg6 zan 5 sA) (v:=0) (zL) fun W2 h1 _=>?_).mono ?_
 ·obtain ⟨pn,pc,va,vl,vb,vs,h1⟩:=h1;exact zkM h1 rfl gO0 _ (by decide) (by decide)
 ·rintro e W' ⟨rfl,T',h2,h3⟩;exact ⟨rfl,T',h2,h3⟩
theorem zt9 (hH:zaf W T h 0 gS1):zcC W T h 0 gS2 gO1 none 0 ⟨1,0,7⟩:=fun W1 hb=>by
 refine (zeE 2 (by decide) (by decide) (hH.grow hb) gO1 (A:=none) (c:=0) rfl rfl (R:=fun _=>False) (zoc _ _) (fun b _ hr=>hr.elim) (zL) (K':=0) (H1:=zb4 gS1 0 2) (v:=7) (by decide) fun W2 h1 _=>?_).mono ?_
 ·obtain ⟨pn,pc,va,vl,vb,vs,h1⟩:=h1;exact zkK h1 (fun a ha=>by
   simp only[gS1,List.mem_cons,List.not_mem_nil,or_false] at ha;subst ha;exact ztG 5 (by omega)) gO1 _ (by decide)
 ·rintro e W' ⟨rfl,T',h2,h3⟩;exact ⟨rfl,T',h2,h3⟩
theorem zua (hH:zaf W T h 0 gS2):zcC W T h 0 gS3 gO2 none 0 ⟨2,0,0⟩:=fun W1 hb=>by
 refine (zeE 6 (by decide) (by decide) (hH.grow hb) gO2 (A:=none) (c:=0) rfl rfl (R:=fun _=>False) (zoc _ _) (fun b _ hr=>hr.elim) (zL) (K':=0) (H1:={gS2 with now:=3,due:=zbn (fun _=>none) 3}) (v:=0) (by decide) fun W2 h1 _=>?_).mono ?_
 ·obtain ⟨pn,pc,va,vl,vb,vs,h1⟩:=h1;refine (zlU (f:=fun l=>(l,[])) h1 gO2 _ (by decide) (by decide) ?_ (fun a ha=>?_) (by decide) (by decide) (by decide) fun l hl _ _=>by cases hl).mono ?_
  ·funext n
   unfold zaW
   simp[gS2]
  ·simp only[gS2,List.mem_cons,List.not_mem_nil,or_false] at ha;subst ha;exact ⟨ztG 7 (by omega),by simp[Acc.Fine,zaq]⟩
  ·rintro e W' ⟨ds,T',rfl,hd,h2,h3⟩;have hds:ds=[]:=List.eq_nil_iff_forall_not_mem.2 fun d hd2=>by
    have:=(hd.mem d).1 hd2
    simp[gS2] at this
   subst hds;exact ⟨rfl,T',h2,h3⟩
 ·rintro e W' ⟨rfl,T',h2,h3⟩;exact ⟨rfl,T',h2,h3⟩
end
structure St (W:World) (T:Nat→Part) (lo h f b c:Nat) (v:Value) (K:Nat) (H:House) (came:Int) (w:WatR):Prop where
 house:zaf W T h K H
 one:OneAt W f h b c v came w
 no:OneNo T f b c v
 lo:(f<lo∧b<lo∧c<lo∧∀x,v.ownBlock=some x→x<lo)∧lo≤W.heap.size
section
variable {W W':World} {T:Nat→Part} {lo h f b c K K':Nat} {v:Value} {H H':House} {came:Int} {w:WatR}
theorem St.grow (h0:St W T lo h f b c v K H came w) (hb:Below W W W'):St W' T lo h f b c v K H came w:=
 ⟨h0.house.grow hb,h0.one.grow hb,h0.no,h0.lo.1,lT h0.lo.2 hb.size⟩
theorem St.out (a:St W T lo h f b c v K H came w) {x:Nat} (e:W.heap.size≤x):T x=.no:=by
 obtain ⟨_,_,_,_,_,_,d⟩:=a.house;exact d.out x e
theorem St.far (a:St W T lo h f b c v K H came w) {x:Nat} (l:lo≤x) (g:T x=.no):¬zgU T f b c v x:=by
 obtain ⟨⟨i,j,k,d⟩,_⟩:=a.lo;rintro (e|e|e|e|e)
 ·exact e.2 g
 ·omega
 ·omega
 ·omega
 ·have:=d x e;omega
theorem St.take (h0:St W T lo h f b c v K H came w) (hq:ChanAt W' c w.room w.queue.tail) (hc:Chg (·=c) W W'):St W' T lo h f b c v K H came {w with queue:=w.queue.tail}:=
 ⟨h0.house.keep hc fun x hx e=>hx (e▸h0.no.c),⟨⟨h0.one.feed.blk.chg hc h0.one.ne.2.1,h0.one.feed.row.chg hc fun x _ hr=>hr.2.2⟩,⟨h0.one.wat.blk.chg hc h0.one.ne.2.2,hq⟩,h0.one.ne⟩,h0.no,h0.lo.1,lT h0.lo.2 hc.size⟩
theorem St.do (d:St W T lo h f b c v K H came w) (s:H.sales.length≤1000000) (i:H'.sales.length≤1000000) (o:OrderR) {A:Option Addr} {j:Nat} {a:AnsR} (q:zcC W T h K' H' o A j a)
  (r:0≤came∧came+(zcb H H' o a).length≤1000000000) (t:0≤w.missed∧w.missed+(zcb H H' o a).length≤1000000000):
  Calls Tryz.prog 15 #[.pointer (some ⟨f,0,none⟩),o.agg (.slice A o.offers.length j)] W fun e W'=>e=.returned a.agg∧∃T',St W' T' lo h f b c v K' H' (came+(zcb H H' o a).length) ((zcb H H' o a).foldl WatR.tell w)∧
   (∀x,x<W.heap.size→T' x=T x)∧Chg (zgU T f b c v) W W':=by
 refine (zsD d.house s i d.one d.no o q r t).mono ?_;rintro e W' ⟨rfl,T',n,g,_,k,p⟩;obtain ⟨⟨y,z,B,m⟩,C⟩:=d.lo;refine ⟨rfl,T',⟨n,p,⟨(g f (by omega)).trans d.no.f,(g b (by omega)).trans d.no.b,(g c (by omega)).trans d.no.c,fun x l=>(g x ?_).trans (d.no.v x l)⟩,⟨y,z,B,m⟩,lT C k.size⟩,g,k⟩;have:=m x l
 omega
theorem St.new {k i l:World} {m:Nat} {v':Value} (s:zaf k T h K H) (n:Below k k i) (o:k.heap.size≤f) (v:FeedAt i (fun _=>False) f h (.slice none 0 0) [] 0)
  (a:FeedAt l (fun x=>(False∧x<i.heap.size)∨(i.heap.size≤x∧x≠b∧x≠c)) f h v' ([]++[b]) 0) (j:WatAt l f b c ⟨m,[],0⟩) (z:i.heap.size≤b) (A:i.heap.size≤c) (r:b≠c)
  (q:Chg (fun x=>x=f∨(Value.slice none 0 0).ownBlock=some x) i l):St l T l.heap.size h f b c v' K H 0 ⟨m,[],0⟩:=by
 have d:∀b,k.heap.size≤b→T b=.no:=by obtain ⟨_,_,_,_,_,_,t⟩:=id s;exact t.out
 have B:=n.size;have y:=v.blk.lt;refine ⟨(s.grow n).keep q fun x p e=>?_,⟨⟨a.blk,a.row.mono fun x _ g=>?_⟩,j,by omega,by omega,r⟩,⟨d f o,d b (by omega),d c (by omega),fun x p=>?_⟩,⟨a.blk.lt,j.blk.lt,j.room.lt,fun x p=>a.row.lt p⟩,lR⟩
 ·rcases e with rfl|e
  ·exact p (d x o)
  ·cases e
 ·rcases g with g|g
  ·exact g.1.elim
  ·exact ⟨by omega,g.2.1,g.2.2⟩
 ·rcases a.row.blk x p with g|g
  ·exact g.1.elim
  ·exact d x (by omega)
structure Base (B:Nat) (T:Nat→Part) (f b c:Nat) (v:Value):Prop where
 no:∀x,x<B→T x=.no
 f:B≤f
 b:B≤b
 c:B≤c
 v:∀x,v.ownBlock=some x→B≤x
theorem Base.tags {B:Nat} {T':Nat→Part} (h0:Base B T f b c v) (hB:B≤W.heap.size) (ht:∀x,x<W.heap.size→T' x=T x):Base B T' f b c v:=
 ⟨fun x hx=>(ht x (by omega)).trans (h0.no x hx),h0.f,h0.b,h0.c,h0.v⟩
theorem Base.below {B:Nat} (h0:Base B T f b c v) (hB:B≤W.heap.size) (hc:Chg (zgU T f b c v) W W'):Below B W W':=hc.below hB fun k hk e=>by
 have h1:=h0.f;have h2:=h0.b;have h3:=h0.c
 rcases e with e|e|e|e|e
 ·exact e.2 (h0.no k hk)
 ·omega
 ·omega
 ·omega
 ·have:=h0.v k e;omega
theorem Base.belowC {B:Nat} (h0:Base B T f b c v) (hB:B≤W.heap.size) (hc:Chg (·=c) W W'):Below B W W':=h0.below hB (hc.mono fun _ _ e=>.inr (.inr (.inr (.inl e))))
theorem Base.new {B:Nat} {W2 W3:World} (hno:∀x,x<B→T x=.no) (hB:B≤W2.heap.size) (hf:B≤f) (hb:W2.heap.size≤b) (hc:W2.heap.size≤c) (hF3:FeedAt W3 (fun x=>(False∧x<W2.heap.size)∨(W2.heap.size≤x∧x≠b∧x≠c)) f h v ([]++[b]) 0):Base B T f b c v:=
 ⟨hno,hf,by omega,by omega,fun x hx=>by
  rcases hF3.row.blk x hx with hr|hr
  ·exact hr.1.elim
  ·omega⟩
end
def gE0:EvR:=⟨1,0,0,0,5,0⟩
def gE2:EvR:=⟨6,2,0,0,0,3⟩
theorem zqW:zcb zan gS1 gO0 ⟨0,0,0⟩=[gE0]:=rfl
theorem zqX:zcb gS1 gS2 gO1 ⟨1,0,7⟩=[⟨2,1,0,0,2,0⟩]:=rfl
theorem zqY:zcb gS2 gS3 gO2 ⟨2,0,0⟩=[gE2]:=rfl
section
variable {W:World} {T:Nat→Part} {lo h f b c:Nat} {v:Value}
theorem ztH (a:St W T lo h f b c v 0 zan 0 ⟨1,[],0⟩):Calls Tryz.prog 15 #[.pointer (some ⟨f,0,none⟩),.agg #[(1:Int),.string {data:=#[97]},(5:Int),(),(),(),(),(),(),(),(),(),(),(),(),(),.slice none 0 0,()]] W fun e W'=>
  e=.returned (ziC 0 0 0)∧∃T',St W' T' lo h f b c v 0 gS1 1 ⟨1,[⟨gE0,0⟩],0⟩∧(∀x,x<W.heap.size→T' x=T x)∧Chg (zgU T f b c v) W W':=by
 have d:=a.do (by decide) (by decide) gO0 (zt8 a.house) (by rw[zqW];decide) (by rw[zqW];decide)
 rw[zqW] at d;exact d
theorem ztI (a:St W T lo h f b c v 0 gS1 1 ⟨1,[⟨gE0,0⟩],0⟩):Calls Tryz.prog 15 #[.pointer (some ⟨f,0,none⟩),.agg #[(2:Int),.string {data:=#[]},(2:Int),(),(),(),(),(),(),(),(),(),(),(),(),(),.slice none 0 0,()]] W fun e W'=>
  e=.returned (ziC 1 0 7)∧∃T',St W' T' lo h f b c v 0 gS2 2 ⟨1,[⟨gE0,0⟩],1⟩∧(∀x,x<W.heap.size→T' x=T x)∧Chg (zgU T f b c v) W W':=by
 have d:=a.do (by decide) (by decide) gO1 (zt9 a.house) (by rw[zqX];decide) (by rw[zqX];decide)
 rw[zqX] at d;exact d
theorem ztJ (a:St W T lo h f b c v 0 gS2 2 ⟨1,[],1⟩):Calls Tryz.prog 15 #[.pointer (some ⟨f,0,none⟩),.agg #[(6:Int),.string {data:=#[]},(),(),(),(),(),(),(),(),(),(),(),(),(),(),.slice none 0 0,(3:Int)]] W fun e W'=>
  e=.returned (ziC 2 0 0)∧∃T',St W' T' lo h f b c v 0 gS3 3 ⟨1,[⟨gE2,1⟩],0⟩∧(∀x,x<W.heap.size→T' x=T x)∧Chg (zgU T f b c v) W W':=by
 have d:=a.do (by decide) (by decide) gO2 (zua a.house) (by rw[zqY];decide) (by rw[zqY];decide)
 rw[zqY] at d;exact d
end
theorem zk1 {E:List EvR} {at_:Nat}:∀(es:List EvR) (n:Nat) (w:WatR),(∀(i:Nat) (e:EvR),es[i]? =some e→E[n+i]? =some e)→zcR E n at_ w.queue w.missed→zcR E (n+es.length) at_ (es.foldl WatR.tell w).queue (es.foldl WatR.tell w).missed
 |[],_,_,_,h=>h
 |e::es,n,w,he,h=>by
  have h1:=WatR.tell_inv (he 0 e rfl) h;have h2:=zk1 es (n+1) (w.tell e) (fun i x hx=>by
   have:=he (i+1) x hx
   rwa [show n+1+i=n+(i+1) by omega]) h1
  rw[List.length_cons,show n+(es.length+1)=n+1+es.length by omega];exact h2
theorem zqn (w:WatR) (e:EvR) (h:w.queue.length≤w.room):(w.tell e).room=w.room∧(w.tell e).queue.length≤w.room:=by
 unfold WatR.tell
 split
 ·exact ⟨rfl,by simp;omega⟩
 ·exact ⟨rfl,h⟩
theorem zj0:∀(es:List EvR) (w:WatR),w.queue.length≤w.room→(es.foldl WatR.tell w).room=w.room∧(es.foldl WatR.tell w).queue.length≤w.room
 |[],_,h=>⟨rfl,h⟩
 |e::es,w,h=>by
  have h1:=zqn w e h;have h2:=zj0 es (w.tell e) (by rw[h1.1];exact h1.2);rw[h1.1] at h2;exact h2
theorem zt1 {E:List EvR} {a:Nat} {e:EvR} (b:E[a]? =some e) {i:Nat} (c:i<6) {u:Value} (d:e.cells[i]? =some u):(E.flatMap EvR.cells)[a*6+i]? =some u:=by
 rw[List.flatMap_def];refine (flat_get (n:=6) (xs:=E.map EvR.cells) (fun y f=>?_) (by rw[List.getElem?_map,b];rfl) c).trans d;obtain ⟨z,_,rfl⟩:=List.mem_map.1 f
 rfl
theorem zoW {W:World} {R:Nat→Prop} {E:List EvR} {A:Option Addr} {d:Nat} (h:RowAt W R 64 6 (.slice A E.length d) E.length (E.flatMap EvR.cells)) {a:Nat} {e:EvR} (b:E[a]? =some e):
  ∃q,A=some ⟨q,0,none⟩∧q<W.heap.size∧∀i u,i<6→e.cells[i]? =some u→W.cell? ⟨q,a*6+i,none⟩=some u:=by
 have g:=(gS.1 b).1;obtain ⟨q,c,l,_,j,_⟩:=h.ex (by omega);injection l with e1 _ e3
 subst e1 e3;exact ⟨q,rfl,j,fun i u f k=>(h.own.cellAt (a*6+i) (by omega)).trans (zt1 b f k)⟩
structure CAt (B lo s6 h f b c:Nat) (v:Value) (m:Nat) (E:List EvR) (ev:Value) (W0 W:World) (T:Nat→Part) (K:Nat) (H:House) (n:Nat) (w:WatR) (at_:Nat):Prop where
 st:St W T lo h f b c v K H n w
 base:Base B T f b c v
 bel:Below B W0 W
 evs:RowAt W (fun x=>lo≤x∧x<s6) 64 6 ev E.length (E.flatMap EvR.cells)
 no:∀x,lo≤x→x<s6→T x=.no
 inv:zcR E n at_ w.queue w.missed
 room:w.room=m∧w.queue.length≤m
 s6:B≤lo∧lo≤s6∧s6≤W.heap.size
section
variable {B lo s6 h f b c:Nat} {v:Value} {m:Nat} {E:List EvR} {ev:Value} {W0 W W':World} {T:Nat→Part} {K:Nat} {H:House} {n:Nat} {w:WatR} {at_:Nat}
theorem CAt.grow (h0:CAt B lo s6 h f b c v m E ev W0 W T K H n w at_) (hb:Below W W W'):CAt B lo s6 h f b c v m E ev W0 W' T K H n w at_:=
 have h1:=h0.s6;have h2:=hb.size
 ⟨h0.st.grow hb,h0.base,h0.bel.trans (hb.mono (by omega)),h0.evs.grow hb,h0.no,h0.inv,h0.room,h1.1,h1.2.1,by omega⟩
theorem WatR.tail_nil {w:WatR} (h:w.queue=[]):({w with queue:=w.queue.tail}:WatR)=w:=by
 cases w with
 |mk r q m=>
  have h:q=[]:=h;subst h
  rfl
theorem CAt.bare (a:CAt B lo s6 h f b c v m E ev W0 W T K H n w at_) (g:w.queue=[]) (k:ChanAt W' c w.room w.queue.tail) (d:Chg (·=c) W W'):CAt B lo s6 h f b c v m E ev W0 W' T K H n w at_:=by
 have i:=a.st.take k d;rw[WatR.tail_nil g] at i;have j:=a.s6;have l:=d.size;have o:=a.st.lo;exact ⟨i,a.base,a.bel.trans (a.base.belowC (by omega) d),a.evs.chg d fun y _ p e=>by omega,a.no,a.inv,a.room,j.1,j.2.1,by omega⟩
theorem CAt.take {t:ToldR} {q:List ToldR} (a:CAt B lo s6 h f b c v m E ev W0 W T K H n w at_) (d:w.queue=t::q) (s:ChanAt W' c w.room w.queue.tail) (g:Chg (·=c) W W'):
  (0≤t.missed∧t.missed≤E.length∧E[at_+t.missed.toNat]? =some t.ev)∧CAt B lo s6 h f b c v m E ev W0 W' T K H n {w with queue:=q} (at_+t.missed.toNat+1):=by
 have l:=a.inv;rw[d] at l;obtain ⟨p,j,r⟩:=l;have y:=(gS.1 j).1;have k:=a.s6;have z:=g.size;have A:=a.st.lo;have o:=a.st.take s g;rw[d] at o;have i:=a.room;rw[d] at i;refine ⟨⟨p,by omega,j⟩,⟨o,a.base,a.bel.trans (a.base.belowC (by omega) g),a.evs.chg g fun x _ i e=>by omega,a.no,r,⟨i.1,by have:=i.2;simp at this;show q.length≤m;omega⟩,k.1,k.2.1,by omega⟩⟩
theorem CAt.do {os:List OrderR} {k:Nat} (d:CAt B lo s6 h f b c v m E ev W0 W T (k*KD) (stH (os.take k)) (zaA zan (os.take k)).length w at_) (L:E=zaA zan os) (X:os.length≤300) (V:w.missed≤100000000) {o:OrderR} (K:os[k]? =some o)
  {A:Option Addr} {r:Nat} (M:zad W (fun x=>x<B) (.slice A o.offers.length r) o.offers):
  Calls Tryz.prog 15 #[.pointer (some ⟨f,0,none⟩),o.agg (.slice A o.offers.length r)] W fun e W'=>∃a:AnsR,e=.returned a.agg∧∃T' w',CAt B lo s6 h f b c v m E ev W0 W' T' ((k+1)*KD) (stH (os.take (k+1))) (zaA zan (os.take (k+1))).length w' at_:=by
 have U:=(gS.1 K).1;have g:=ziQ (os.take k);have p:os.take (k+1)=os.take k++[o]:=by rw[List.take_add_one,K];rfl
 have D:stH (os.take (k+1))=doH (stH (os.take k)) o:=by rw[p,zgJ]
 have j:zaA zan (os.take (k+1))=zaA zan (os.take k)++zc8 (stH (os.take k)) o:=by rw[p,zh8]
 have J:=zf5 (os.take k) zcn;have N:(os.take k).length≤300:=by rw[List.length_take];omega
 have P:=zg8 g o;have O:=d.inv.le.1;have y:=zlG (c:=r) d.st.house g o M d.base.no (by
  have l:=Nat.mul_le_mul_right KD (show k≤300 by omega);unfold KD maxLen at*
  omega) (by
  have l:=ziE (os.take k) zan;unfold stH;simp only[zan,List.length_nil] at l ⊢
  omega)
 have Q:=zen g.inv;have R:=zen (g.next o).inv;refine (d.st.do (by omega) (by omega) o y (by rw[zhO];omega) (by rw[zhO];omega)).mono ?_;rintro e W' ⟨rfl,T',l,G,s⟩;rw[zhO] at l;have H:=d.s6;have S:=s.size;have t:E=zaA zan (os.take k)++(zc8 (stH (os.take k)) o++zaA ((os.take (k+1)).foldl doH zan) (os.drop (k+1))):=by
  have I:=zgr (os.take (k+1)) (os.drop (k+1)) zan;rw[List.take_append_drop,j,List.append_assoc] at I;exact L.trans I
 have z:=zk1 (zc8 (stH (os.take k)) o) (zaA zan (os.take k)).length w (E:=E) (at_:=at_) (fun i x q=>by
  rw[t,List.getElem?_append_right (by omega),show (zaA zan (os.take k)).length+i-(zaA zan (os.take k)).length=i by omega];exact (List.getElem?_append_left (gS.1 q).1).trans q) d.inv
 have n:=zj0 (zc8 (stH (os.take k)) o) w (by rw[d.room.1];exact d.room.2);rw[d.room.1] at n;refine ⟨_,rfl,T',_,⟨?_,d.base.tags (by omega) G,d.bel.trans (d.base.below (by omega) s),d.evs.chg s fun x q C=>d.st.far C.1 (d.no x C.1 C.2),fun x q F=>(G x (by omega)).trans (d.no x q F),?_,n,H.1,H.2.1,by omega⟩⟩
 ·rw[show (k+1)*KD=k*KD+KD from Nat.succ_mul k KD,D,j,List.length_append,Int.natCast_add];exact l
 ·rw[j,List.length_append];exact z
end
end Fd
namespace Fd
open Go.RowKit Go.Lib Vb Ac Ho
attribute [local go_sem] Oper.semAt_some
theorem ztq (w:World):(zeroValue 28).run Tryz.prog w=.ok (.pointer none) w:=Tryz.zeroValue28 w
theorem zsc {W:World} {q cap:Nat} {p:Value} (s:∃cs t,Ac.Blk W q t cs∧cap≤cs.size) (l:1≤cap) (r:cap≤maxLen):
  Calls Tryz.prog 59 #[.slice (some ⟨q,0,none⟩) 1 cap,(),(1:Int)] W fun e W'=>e=.returned (.slice (some ⟨q,0,none⟩) 0 cap)∧Chg (·=q) W W':=by
 obtain ⟨cs,t,b,c⟩:=s;obtain ⟨y,d,v,f,x⟩:=info_parts (P:=Tryz.prog) (e:=28) (z:=.pointer none) (size:=1) (bytes:=8) (by kernel_rfl);obtain ⟨A,B⟩:∃A:Addr,(if cap=1 then (some ⟨q,0,none⟩:Option Addr) else some ⟨q,1,none⟩)=some A:=by
  by_cases hcp:cap=1
  ·exact ⟨_,if_pos hcp⟩
  ·exact ⟨_,if_neg hcp⟩
 have o:∀g,(Builtin.clear_ #[39] g #[.slice (some ⟨q,0,none⟩) 1 cap]).run Tryz.prog W.drew=.ok (.tuple #[]) (W.drew.setCells q 0 [.pointer none]):=fun g=>by
  refine zgR W.drew _ _ g (.pointer none) Tryz.underlying39 ztq (show ∀u∈[Value.pointer none],u.oneCell'=true by simp[Value.oneCell']) q _ _ (fun j m=>?_) fun j _=>(b.drewN 1).frozen _;have m:j<1:=m
  show (W.cell? ⟨q,0+j,none⟩).isSome=true
  rw[b.cell,Array.getElem?_eq_getElem (by omega)];rfl
 have i:Chg (·=q) W (W.drew.setCells q 0 [.pointer none]):=((Chg.refl _ W).drewN 1).trans (zdG _ _ _ _);have n:=hid i;clear i b c;go_enter Tryz.func59,Tryz.ntmps59;go_wp2_with fail
 refine zac (Below W W) [6,7] (by kernel_rfl) (bR.drew) (fun a=>?_);refine tpD [2,6,7] 0 a ?_;refine tpD [2,6,7] 1 a ?_;refine tp 2 a ?_;refine tpD [5,6,7] 3 a ?_;refine tpD [5,6,7] 4 a ?_;refine tp 5 a ?_;refine stf 6 fun K k=>?_;refine step_append_room rfl (.tmp 22) (.tmp 25) 39 rfl 28 y 1 Tryz.underlying39 d f q 0 0 cap (by simp[Act.eval]) A 0 (cap-1) [] (by simp[Act.eval]) rfl (fun _ _ h=>by cases h) (fun _ h=>by cases h) (by omega) (fun _ h=>by cases h) ?_;refine k.out _ _ ?_;clear k K
 try simp only[Act.put,pb,pz,ps]
 refine tpW 7 ?_;refine zaa (by kernel_rfl) ?_ _;clear a;simp only[World.setCells];go_wp2_with fail
 go_ret;exact ⟨rfl,n.out⟩
theorem zpY {W:World} {b g c:Nat} {t:TypeId} (m:W.cell? ⟨b,1,none⟩=some (.chan (some c))) (i:Ac.Blk W g t #[.pointer (some ⟨b,0,none⟩)]) (h:b<W.heap.size):
  Calls Tryz.prog 58 #[.pointer (some ⟨b,0,none⟩),.pointer (some ⟨g,0,none⟩)] W fun e W'=>e=.returned ↑true∧Below W W W':=by
 have l:W.cell? ⟨g,0,none⟩=some (.pointer (some ⟨b,0,none⟩)):=i.cell 0;have n:=i.lt;clear i;go_enter Tryz.func58,Tryz.ntmps58;go_wp2_with fail
 refine zac (Below W W) [9] (by kernel_rfl) (bR.drew) (fun d=>?_);refine tp 0 d ?_;refine tp 1 d ?_;refine tp 2 d ?_;have j:=hid fun (k:World) (f:(Below W W) k)=>And.intro (qc f m h)<|qc f l n;refine tl 3 d j ?_;refine tl 4 d j ?_;refine tp 5 d ?_;refine tp 6 d ?_;refine tl 7 d j ?_;refine tx 8 (v:=?_) d ?_ ?_
 rotate_left
 ·intro k f;have o:=zmc (P:=Tryz.prog) k (a:=some c) (b:=some c) zh0;go_simp;try with_reducible rfl
 refine tpW 9 ?_;refine zaa (by kernel_rfl) ?_ _;go_wp2_with fail
 go_ret;exact ⟨by simp,d⟩
theorem index_one {W:World} {q cap b g c:Nat} {t:TypeId} (k:W.cell? ⟨q,0,none⟩=some (.pointer (some ⟨b,0,none⟩))) (f:W.cell? ⟨b,1,none⟩=some (.chan (some c))) (h:Ac.Blk W g t #[.pointer (some ⟨b,0,none⟩)]) (a:b<W.heap.size):
  Calls Tryz.prog 57 #[.slice (some ⟨q,0,none⟩) 1 cap,.func (.func 58) #[] #[.pointer (some ⟨g,0,none⟩)]] W fun e W'=>e=.returned ↑()∧Below W W W':=by
 have j:=hid (zpY f h a);clear f h a;go_enter Tryz.func57,Tryz.ntmps57;go_wp2_with fail
 go_loopw [8] (fun i wr=>i=.int .i64 0∧wr=W) (fun _ _=>0)
 case atStart=>exact ⟨rfl,rfl⟩
 case round=>
  obtain ⟨rfl,rfl⟩:=hrel
  go_wp2_with (go_at_call 58;refine j.out.mono ?_;rintro e l ⟨rfl,d⟩)
  go_ret;exact ⟨rfl,d⟩
theorem zpl {W:World} {A:Option Addr} {cap:Nat} {a:Value}:
  Calls Tryz.prog 57 #[.slice A 0 cap,a] W fun e W'=>e=.returned ↑(-1:Int)∧Below W W W':=by
 go_enter Tryz.func57,Tryz.ntmps57;go_wp2_with fail
 go_loopw [8] (fun i wr=>i=.int .i64 0∧wr=W) (fun _ _=>0)
 case atStart=>exact ⟨rfl,rfl⟩
 case round=>
  obtain ⟨rfl,rfl⟩:=hrel;go_wp2_with fail
  go_ret;exact ⟨rfl,bR⟩
structure GoneAt (W:World) (f b:Nat) (A:Option Addr) (cap:Nat):Prop where
 b0:W.cell? ⟨b,0,none⟩=some (.pointer (some ⟨f,0,none⟩))
 b1:∃c,W.cell? ⟨b,1,none⟩=some (.chan (some c))
 f1:W.cell? ⟨f,1,none⟩=some (.slice A 0 cap)
 lt:b<W.heap.size∧f<W.heap.size
theorem zpv {W:World} {f h b c:Nat} {v:Value} {came:Int} {w:WatR} (N:OneAt W f h b c v came w):
  Calls Tryz.prog 29 #[.pointer (some ⟨b,0,none⟩)] W fun e W'=>e=.returned ↑()∧(∃A cap,GoneAt W' f b A cap)∧Chg (fun x=>x=f∨v.ownBlock=some x) W W':=by
 have y:=N.feed;have E:=N.wat;have G:=N.ne;obtain ⟨q,cap,rfl,D,J,a⟩:=y.row.ex (by simp);have a:1≤cap:=a;have d:Below W W (W.alloc (.cells #[.pointer (some ⟨b,0,none⟩)] 28)):=qA _;have P:=hid (Ac.Blk.new W 28 #[.pointer (some ⟨b,0,none⟩)]);have s:=y.blk.grow d;have i:=E.blk.grow d;have H:(W.alloc (.cells #[.pointer (some ⟨b,0,none⟩)] 28)).cell? ⟨q,0,none⟩=some (.pointer (some ⟨b,0,none⟩)):=qc d (y.row.own.cellAt 0 (by simp)) J;obtain ⟨M,ct,I,o⟩:∃M t,Ac.Blk (W.alloc (.cells #[.pointer (some ⟨b,0,none⟩)] 28)) q t M∧cap≤M.size:=by
  obtain ⟨F,k⟩:=y.row.own
  rcases k with ⟨hv,_⟩|⟨g,cap',cur,hv,_,hg,hnc,n,o,htk⟩
  ·cases hv
  ·injection hv with e1 e2 e3
   injection e1 with e1
   injection e1 with e1
   subst e1 e3;exact ⟨cur,_,Ac.Blk.grow hg d,by omega⟩
 have n:cap≤maxLen:=by
  obtain ⟨F,k⟩:=y.row.own
  rcases k with ⟨hv,_⟩|⟨g,cap',cur,hv,_,hg,hnc,n,o,htk⟩
  ·cases hv
  ·injection hv with e1 e2 e3
   omega
 have z:=hid d;have V:=hid s;have ac:=hid i;have Z:=hid I;have S:=hid o;have R:=hid n;have B:=hid a;have Y:=hid G;have C:=hid D;have b0:(W.alloc (.cells #[.pointer (some ⟨b,0,none⟩)] 28)).cell? ⟨b,0,none⟩=some (.pointer (some ⟨f,0,none⟩)):=i.cell 0;have L:(W.alloc (.cells #[.pointer (some ⟨b,0,none⟩)] 28)).cell? ⟨b,1,none⟩=some (.chan (some c)):=i.cell 1;have f1:(W.alloc (.cells #[.pointer (some ⟨b,0,none⟩)] 28)).cell? ⟨f,1,none⟩=some (.slice (some ⟨q,0,none⟩) 1 cap):=s.cell 1;have HT:=hid (zhC L);have X:=hid (index_one (cap:=cap) H L P.out i.lt);have HBO:=hid L;clear N y E G D J a d s i H I o n L;go_enter Tryz.func29,Tryz.ntmps29;go_wp2_with fail
 refine HT.out.mono ?_;rintro e W2 ⟨rfl,K⟩;rw[K];clear K;go_wp2_with fail
 refine X.out.mono ?_;rintro e W3 ⟨rfl,j⟩;have O:=hid (z.out.trans (j.mono z.out.size));have r:=V.out.grow j;have f1':W3.cell? ⟨f,1,none⟩=some (.slice (some ⟨q,0,none⟩) 1 cap):=r.cell 1;have T:=hid r;have aa:=hid (ac.out.grow j);have HD:=hid (zsc (p:=.pointer none) ⟨M,ct,Z.out.grow j,S.out⟩ B.out R.out);clear r j f1 b0;go_wp2_with fail
 refine HD.out.mono ?_;rintro e W4 ⟨rfl,m⟩;have l:=T.out.chg m (Ne.symm C.out.1);have f1:W4.cell? ⟨f,1,none⟩=some (.slice (some ⟨q,0,none⟩) 1 cap):=l.cell 1;have ff:=l.frozen;have U:=hid l;have Q:=hid m;have ab:=hid (aa.out.chg m (Ne.symm C.out.2.1));clear l m f1';go_wp2_with fail
 go_ret;have h1:=U.out.set_ 1 (.slice (some ⟨q,0,none⟩) 0 cap);have h2:=ab.out.chg (Chg.set W4 ⟨f,1,none⟩ (.slice (some ⟨q,0,none⟩) 0 cap)) (Ne.symm Y.out.1);exact ⟨rfl,⟨_,_,⟨h2.cell 0,⟨_,h2.cell 1⟩,h1.cell 1,h2.lt,h1.lt⟩⟩,((Chg.of _ O.out).step Q.out fun x _ e=>.inr (by rw[e];rfl)).step (Chg.set W4 ⟨f,1,none⟩ (.slice (some ⟨q,0,none⟩) 0 cap)) fun x _ e=>.inl e⟩
theorem zn4 {W:World} {f b:Nat} {A:Option Addr} {cap:Nat} (p:GoneAt W f b A cap):
  Calls Tryz.prog 29 #[.pointer (some ⟨b,0,none⟩)] W fun e W'=>e=.returned ↑(4:Int)∧Below W W W':=by
 obtain ⟨k,⟨c,l⟩,m,j,n⟩:=p;have a:Below W W (W.alloc (.cells #[.pointer (some ⟨b,0,none⟩)] 28)):=qA _;have u0:=qc a k j;have u1:=qc a m n;have o:=hid (zhC (qc a l j));have d:=hid a;clear k l m j n a;go_enter Tryz.func29,Tryz.ntmps29;go_wp2_with fail
 refine o.out.mono ?_;rintro e q ⟨rfl,h⟩;rw[h];clear h;go_wp2_with fail
 refine zpl.mono ?_;rintro e r ⟨rfl,g⟩;have i:=hid (d.out.trans (g.mono d.out.size));clear g;go_wp2_with fail
 go_ret;exact ⟨rfl,i.out⟩
end Fd
namespace Fd
open Go.RowKit Vb Ac Ho
attribute [local go_sem] Oper.semAt_some
theorem zsK (W:World):Calls Tryz.prog 12 #[] W fun e W'=>e=.returned ↑true∧Below W W W':=by
 go_enter Tryz.func12,Tryz.ntmps12;go_wp2_with fail
 refine (ziI W).mono ?_;rintro e W1 ⟨h,T,rfl,hH,hb1,hno⟩;have HH:=hid hH;have HB1:=hid hb1;have HNO:=hid hno;clear hH hb1 hno;go_wp2_with fail
 refine (zm5 HH.out).mono ?_;rintro e W2 ⟨f,rfl,hF,hb2,hfs⟩;have HF:=hid hF;have K:=hid hb2;have HFS:=hid hfs;clear hF hb2 hfs;go_wp2_with fail
 refine zsE.mono ?_;rintro e W3 ⟨rfl,hb3⟩;have t:=hid hb3;clear hb3;go_wp2_with fail
 refine (zbZ 0 _).mono ?_;rintro e J ⟨rfl,a⟩;rw[a];clear a;go_wp2_with fail
 refine (zbZ 1 _).mono ?_;rintro e J ⟨rfl,a⟩;rw[a];clear a;go_wp2_with fail
 refine (zmn (m:=1) (HF.out.grow t.out) ⟨by omega,by omega⟩ (by simp) fun b _ e=>e.elim).mono ?_;rintro e W4 ⟨b,c,v,rfl,hF4,hW4,hb,hc,hbc,h34⟩;have HS4:=hid (St.new HH.out (K.out.trans (t.out.mono K.out.size)) HFS.out (HF.out.grow t.out) hF4 hW4 hb hc hbc h34);have hs1:=HB1.out.size;have hs2:=K.out.size;have hs3:=t.out.size;have HBB:=hid (Base.new HNO.out (by omega) (by have:=HFS.out;omega) hb hc hF4);have HBL:=hid (show Below W W W4 from (HB1.out.trans ((K.out.trans (t.out.mono hs2)).mono hs1)).trans (h34.below (by omega) fun k hk e=>by
  rcases e with e|e
  ·have:=HFS.out;omega
  ·cases e))
 clear hF4 hW4 hb hc hbc h34 hs1 hs2 hs3;go_wp2_with fail
 refine (zk5 HS4.out.one.feed (x:=0) (.inl (by decide))).mono ?_;rintro e J ⟨rfl,a⟩;rw[a];clear a;go_wp2_with fail
 refine (zbZ 0 _).mono ?_;rintro e J ⟨rfl,a⟩;rw[a];clear a;go_wp2_with fail
 refine (zbZ 2 _).mono ?_;rintro e J ⟨rfl,a⟩;rw[a];clear a;go_wp2_with fail
 refine (ztH HS4.out).mono ?_;rintro e W5 ⟨rfl,T5,hs5,ht5,hc5⟩;have HS5:=hid hs5;have Q:=hid (HBB.out.tags HBL.out.size ht5);have F:=hid (HBL.out.trans (HBB.out.below HBL.out.size hc5));clear hs5 ht5 hc5;go_wp2_with fail
 refine (ztI HS5.out).mono ?_;rintro e W6 ⟨rfl,T6,hs6,ht6,hc6⟩;have L:=hid hs6;have j:=hid (Q.out.tags F.out.size ht6);have R:=hid (F.out.trans (Q.out.below F.out.size hc6));clear hs6 ht6 hc6;go_wp2_with fail
 refine (zoD (L.out.one.wat.blk.cell 1) L.out.one.wat.room).mono ?_;rintro e J ⟨rfl,a⟩;rw[a];clear a;go_wp2_with fail
 refine (zkU (L.out.one.wat.blk.cell 2)).mono ?_;rintro e J ⟨rfl,a⟩;rw[a];clear a;go_wp2_with fail
 refine ztu.mono ?_;rintro e W7 ⟨g,rfl,_,_,hb7⟩;have heq:∀w,(binOp .eql 102 (.func (.func 60) #[] #[.pointer (some ⟨g,0,none⟩)]) .nilFunc).run Tryz.prog w=.ok ↑false w:=fun w=>by kernel_rfl
 have M:=hid (L.out.grow hb7);have S:=hid (R.out.trans (hb7.mono R.out.size));clear hb7;go_wp2_with fail
 refine (zfr (M.out.one.wat.blk.cell 1) M.out.one.wat.blk.lt M.out.one.wat.room).mono ?_;rintro e s ⟨I,hq,hc8⟩;have I:e=.returned (.tuple #[.agg #[(1:Int),(),(),(),(5:Int),(),()],true]):=I;subst I;have G:=hid (show St s T6 W4.heap.size h f b c v 0 gS2 2 ⟨1,[],1⟩ from M.out.take hq hc8);have U:=hid (S.out.trans (j.out.belowC S.out.size hc8));clear hq hc8 heq;obtain ⟨W9,P⟩:=nm (s.alloc (.cells #[(1:Int),(),(),(),(5:Int),(),()] 66));have hb9:Below s s W9:=by rw[P];exact qA _
 have HX9:=hid (show Ac.Blk W9 s.heap.size 66 #[(1:Int),(),(),(),(5:Int),(),()] by rw[P];exact Ac.Blk.new _ _ _);have N:=hid (G.out.grow hb9);have HT9:=hid (G.out.out lR);have V:=hid (U.out.trans (hb9.mono U.out.size));clear hb9;go_wp2_with fail
 rw[←P];clear P;refine (zfr (N.out.one.wat.blk.cell 1) N.out.one.wat.blk.lt N.out.one.wat.room).mono ?_;rintro e O ⟨I,hq,q⟩;have I:e=.returned (.tuple #[zbE,false]):=I;subst I;unfold zbE;have HS10:=hid (show St O T6 W4.heap.size h f b c v 0 gS2 2 ⟨1,[],1⟩ from N.out.take hq q);have HX10:=hid (HX9.out.chg q fun e=>by have:=G.out.lo;omega);have z:=hid (V.out.trans (j.out.belowC V.out.size q));clear hq q;go_wp2_with fail
 have o:Below O O (O.alloc (.cells #[(),(),(),(),(),(),()] 66)):=qA _;have X:=hid (HS10.out.grow o);have HX11:=hid (HX10.out.grow o);have i:=hid (z.out.trans (o.mono z.out.size));clear o;refine (ztJ X.out).mono ?_;rintro e W12 ⟨rfl,T12,hs12,htg,H⟩;have hs8:=G.out.lo;have HX12:=hid (HX11.out.chg H (X.out.far hs8.2 HT9.out));have l:=hid hs12;have y:=hid (j.out.tags i.out.size htg);have B:=hid (i.out.trans (j.out.below i.out.size H));clear hs12 htg H hs8;go_wp2_with fail
 refine (zfr (l.out.one.wat.blk.cell 1) l.out.one.wat.blk.lt l.out.one.wat.room).mono ?_;rintro e d ⟨I,hq,r⟩;have I:e=.returned (.tuple #[.agg #[(6:Int),(2:Int),(),(),(),(3:Int),(1:Int)],true]):=I;subst I;have HS13:=hid (show St d T12 W4.heap.size h f b c v 0 gS3 3 ⟨1,[],0⟩ from l.out.take hq r);have HX13:=hid (HX12.out.chg r fun e=>by have:=G.out.lo;omega);have C:=hid (B.out.trans (y.out.belowC B.out.size r));clear hq r;have p:Below d d (d.alloc (.cells #[(6:Int),(2:Int),(),(),(),(3:Int),(1:Int)] 66)):=qA _;have hx:=HX13.out.grow p;have x0:(d.alloc (.cells #[(6:Int),(2:Int),(),(),(),(3:Int),(1:Int)] 66)).cell? ⟨s,0,none⟩=some ↑(1:Int):=hx.cell 0;have x1:(d.alloc (.cells #[(6:Int),(2:Int),(),(),(),(3:Int),(1:Int)] 66)).cell? ⟨s,1,none⟩=some ↑():=hx.cell 1;have x2:(d.alloc (.cells #[(6:Int),(2:Int),(),(),(),(3:Int),(1:Int)] 66)).cell? ⟨s,2,none⟩=some ↑():=hx.cell 2;have x3:(d.alloc (.cells #[(6:Int),(2:Int),(),(),(),(3:Int),(1:Int)] 66)).cell? ⟨s,3,none⟩=some ↑():=hx.cell 3;have x4:(d.alloc (.cells #[(6:Int),(2:Int),(),(),(),(3:Int),(1:Int)] 66)).cell? ⟨s,4,none⟩=some ↑(5:Int):=hx.cell 4;have x5:(d.alloc (.cells #[(6:Int),(2:Int),(),(),(),(3:Int),(1:Int)] 66)).cell? ⟨s,5,none⟩=some ↑():=hx.cell 5;have x6:(d.alloc (.cells #[(6:Int),(2:Int),(),(),(),(3:Int),(1:Int)] 66)).cell? ⟨s,6,none⟩=some ↑():=hx.cell 6;have n:=hid (HS13.out.grow p);obtain ⟨A,cp,hv⟩:=n.out.one.feed.row.form;have hww:(d.alloc (.cells #[(6:Int),(2:Int),(),(),(),(3:Int),(1:Int)] 66)).cell? ⟨f,1,none⟩=some (.slice A 1 cp):=(n.out.one.feed.blk.cell 1).trans (by rw[hv];rfl);have HV:=hid hv;have D:=hid (C.out.trans (p.mono C.out.size));clear p hx hv;go_wp2_with fail
 refine (zmY (n.out.one.feed.blk.cell 2)).mono ?_;rintro e J ⟨rfl,a⟩;rw[a];clear a;go_wp2_with fail
 refine (zmU hww).mono ?_;rintro e J ⟨rfl,a⟩;rw[a];clear a;go_wp2_with fail
 refine (zpv n.out.one).mono ?_;rintro e W15 ⟨rfl,⟨A2,cp2,hg⟩,Z⟩;have HG:=hid hg;have E:=hid (D.out.trans (y.out.below D.out.size (Z.mono fun _ _ e=>e.elim (fun e=>.inr (.inl e)) fun e=>.inr (.inr (.inr (.inr e))))));clear hg Z;go_wp2_with fail
 refine (zbZ 0 _).mono ?_;rintro e J ⟨rfl,a⟩;rw[a];clear a;go_wp2_with fail
 refine (zn4 HG.out).mono ?_;rintro e W16 ⟨rfl,Y⟩;have HBL16:=hid (E.out.trans (Y.mono E.out.size));clear Y;go_wp2_with fail
 refine (zbZ 4 _).mono ?_;rintro e J ⟨rfl,a⟩;rw[a];clear a;go_wp2_with fail
 go_ret;exact ⟨rfl,HBL16.out⟩
end Fd
end Go.Proofs.YtckdpejdnejhfaaGreat

/- Joined by program. -/
import Derived.Test.YtckdpejdnejhfaaGreatZak
import Derived.Test.YtckdpejdnejhfaaGreatZai
set_option linter.all false
set_option maxRecDepth 100000
set_option maxHeartbeats 32000000
namespace Go.Proofs.YtckdpejdnejhfaaGreat
open Lib (hid)
namespace Fd
open Go.RowKit Vb Ac Ho
attribute [local go_sem] Oper.semAt_some
theorem zjk {W:World} {os:List OrderR} {A:Option Addr} {c0:Nat} {vo:Nat→Value} (ak:Sl W (fun b=>b<W.heap.size) (.slice A os.length c0) os.length 18 (zaz os vo)) (hoff:∀k o,os[k]? =some o→zad W (fun b=>b<W.heap.size) (vo k) o.offers)
  (x:Int) {TA:Option Addr} {tc:Nat} {ts:List Int} (htk:Sl W (fun b=>b<W.heap.size) (.slice TA ts.length tc) ts.length 1 (ts.map (Value.int .i64 ·))):
  Calls Tryz.prog 4 #[.slice A os.length c0,x,.slice TA ts.length tc] W fun e W'=>e=.returned ↑true∧Below W W W':=by
 obtain ⟨n,hnn⟩:=nm (os.length);obtain ⟨tn,htn⟩:=nm (ts.length);rw[←hnn] at ak ⊢;rw[←htn] at htk ⊢;have ad:=hid ak;have X:=hid hoff;have HN:=hid hnn;have HTK:=hid htk;have HTN:=hid htn;clear ak hoff hnn htk htn;go_enter Tryz.func4,Tryz.ntmps4;go_wp2_with fail
 refine (zsK W).mono ?_;rintro e W1 ⟨rfl,hb1⟩;have L:=hid hb1;clear hb1;go_wp2_with fail
 have hmy:=zrr (W:=W1) (R:=fun b=>b<W.heap.size) (os:=os) (vo:=vo) (A:=A) (c:=c0) (by rw[←HN.out];exact ad.out.keep L.out.size fun b hb _=>L.out.block b hb) fun k o ho=>zad.grow (X.out k o ho) L.out;rw[←HN.out] at hmy;refine hmy.mono ?_;clear hmy;rintro e w1 ⟨⟨bb,rfl,M⟩,D⟩;rw[D];clear D
 cases bb with
 |true=>
  go_wp2_with fail
  go_ret;exact ⟨rfl,L.out⟩
 |false=>
  have ac:=hid (M rfl);clear M;go_wp2_with fail
  refine (ziI W1).mono ?_;rintro e W2 ⟨h,T,rfl,hH,hb2,hno⟩;have HH:=hid hH;have HB2:=hid hb2;have HNO:=hid hno;clear hH hb2 hno;go_wp2_with fail
  refine (ziI W2).mono ?_;rintro e W3 ⟨g,Tg,rfl,hG,hb3,hnog⟩;have HG:=hid hG;have HB3:=hid hb3;have HNOG:=hid hnog;clear hG hb3 hnog;go_wp2_with fail
  refine (zm5 (HH.out.grow HB3.out)).mono ?_;rintro e W4 ⟨f,rfl,hF,hb4,ai⟩;have HF:=hid hF;have HB4:=hid hb4;have HFS:=hid ai;clear hF hb4 ai;go_wp2_with fail
  refine (zbZ 0 _).mono ?_;rintro e w1 ⟨rfl,D⟩;rw[D];clear D;go_wp2_with fail
  have aa:=hid (HB3.out.trans (HB4.out.mono HB3.out.size));have U:=hid ((L.out.trans (HB2.out.mono L.out.size)).trans (aa.out.mono (lT L.out.size HB2.out.size)));by_cases hx:x<1∨1024<x
  ·have HX:=hid hx;clear hx;refine (zk5 HF.out (x:=x) (by have:=HX.out;omega)).mono ?_;rintro e w1 ⟨rfl,D⟩;rw[D];clear D;go_wp2_with fail
   refine (zbZ 2 _).mono ?_;rintro e w1 ⟨rfl,D⟩;rw[D];clear D;by_cases Z:x<1
   ·have d1:decide (x<1)=true:=decide_eq_true Z;clear Z;go_wp2_with fail
    go_ret;exact ⟨rfl,U.out⟩
   ·have d1:decide (x<1)=false:=decide_eq_false Z;have d2:decide (x>1024)=true:=decide_eq_true (by have:=HX.out;omega);clear Z;go_wp2_with fail
    go_ret;exact ⟨rfl,U.out⟩
  ·obtain ⟨m,rfl⟩:∃m:Nat,x=m:=⟨x.toNat,by omega⟩;have HX:=hid (show 1≤m∧m≤1024 by omega);clear hx;refine (zmn (m:=m) HF.out HX.out (by simp) fun b _ e=>e.elim).mono ?_;rintro e W5 ⟨b,c,v,rfl,hF5,hW5,hb,hc,hbc,h45⟩;have hs1:=L.out.size;have hs2:=HB2.out.size;have hs24:=aa.out.size;have hs3:=HB3.out.size;have ai:=HFS.out;have Y:Below W W W5:=U.out.trans (h45.below U.out.size fun k hk e=>by
    rcases e with e|e
    ·omega
    ·cases e)
   have HG5:=hid ((HG.out.grow HB4.out).keep h45 fun y hy e=>by
    rcases e with rfl|e
    ·exact hy (HG.out.out y ai)
    ·cases e)
   have ab:=hid Y;have HS5:=hid (St.new HH.out aa.out (by omega) HF.out hF5 hW5 hb hc hbc h45);have HBB:=hid (Base.new (B:=W.heap.size) (fun y hy=>HNO.out y (by omega)) (by omega) (by omega) hb hc hF5);have hev:=zqR HG5.out (os:=os) (A:=A) (c:=c0) (vo:=vo) (lo:=W.heap.size) Y.size (fun y hy=>HNOG.out y (by omega)) (by rw[←HN.out];exact ad.out.keep Y.size fun y hy _=>Y.block y hy) (fun k o ho=>zad.grow (X.out k o ho) Y) (by rw[←HN.out];exact ac.out);rw[←HN.out] at hev;have HEV:=hid hev;clear hs1 hs2 hs24 hs3 ai Y hF5 hW5 hb hc hbc h45 hev;go_wp2_with fail
   refine (zbZ 0 _).mono ?_;rintro e w1 ⟨rfl,D⟩;rw[D];clear D;go_wp2_with fail
   refine HEV.out.mono ?_;rintro e W6 ⟨A2,c2,rfl,hrw,hb6⟩;obtain ⟨E,hE⟩:=nm (zaA zan os);rw[←hE] at hrw ⊢;have HE:=hid hE;have HC6:=hid (show CAt W.heap.size W5.heap.size W6.heap.size h f b c v m E (.slice A2 E.length c2) W W6 T (0*KD) (stH (os.take 0)) (zaA zan (os.take 0)).length ⟨m,[],0⟩ 0 from
    ⟨by rw[Nat.zero_mul];exact HS5.out.grow hb6,HBB.out,ab.out.trans (hb6.mono ab.out.size),hrw.mono fun y hy h=>⟨h,hy⟩,fun y Z _=>HS5.out.out Z,⟨Int.le_refl _,rfl⟩,⟨rfl,zL⟩,ab.out.size,hb6.size,lR⟩)
   obtain ⟨mE,hmE⟩:=nm (E.length);have F:=hid hmE;simp only[←hmE];have HEL:=hid (show E.length≤100000000 from by
    rw[hE];have Z:=zf5 os zcn;have h2:=ac.out;rw[HN.out] at h2
    omega)
   clear hrw hb6 hE hmE;go_wp2_with fail
   refine (zbZ 0 _).mono ?_;rintro e w1 ⟨rfl,D⟩;rw[D];clear D;go_wp2_with fail
   have e4:(0:Int)≤(n:Int):=by omega
   go_loopw [15,16] (fun sa si wr=>∃(k:Nat) (Tk:Nat→Part) (w:WatR) (ae:Nat),k≤n∧sa=.int .i64 ae∧si=.int .i64 k∧CAt W.heap.size W5.heap.size W6.heap.size h f b c v m E (.slice A2 E.length c2) W wr Tk (k*KD) (stH (os.take k)) (zaA zan (os.take k)).length w ae) (fun _ i _=>n-(intOf i).toNat)
   case atStart=>exact ⟨0,T,⟨m,[],0⟩,0,zL,rfl,rfl,HC6.out⟩
   case round=>
    obtain ⟨k,Tk,w,ae,hk,rfl,rfl,l⟩:=hrel;obtain ⟨wo,rfl⟩:=nm (wr);by_cases hlt:k<n
    ·obtain ⟨o,ho⟩:∃o,os[k]? =some o:=⟨_,gE (by rw[←HN.out];exact hlt)⟩;obtain ⟨q,off,rfl,_,hq,hrg⟩:=ziS ad.out ho hlt;obtain ⟨oA,oc,hoA⟩:=zfH (X.out k o ho);have hof:zad W (fun b=>b<W.heap.size) (.slice oA o.offers.length oc) o.offers:=hoA▸X.out k o ho;rw[hoA] at hrg;have ag:wo.rangeAt q (off+k*18) (o.cells (.slice oA o.offers.length oc)):=fun j u hj=>qc l.bel (hrg j u hj) hq;have hdo:=l.do HE.out (by rw[←HN.out];exact ac.out) (by
      have Z:=l.inv.le;have h2:=zf5 (os.take k) zcn;have h3:(os.take k).length≤300:=by rw[List.length_take];have:=ac.out;omega
      omega) ho (zad.grow hof l.bel)
     have e5:(0:Int)≤(k:Int):=by omega
     have e6:(k:Int)<(n:Int):=by omega
     have hwr:IntKind.i64.wrap ((k:Int)+1)=(k:Int)+1:=iW _ (by have:=ac.out;omega);clear l ho hrg hof hoA;obtain ⟨okind,oname,ocoins,al,olot,⟨kind,opens,closes,start,step,extend,last,floor,fall,count,rule⟩,ooff,otick⟩:=o;simp only[OrderR.agg,OrderR.cells,LotR.cells,List.cons_append,List.nil_append] at hdo ag;have HCS:=hid ag;have HD:=hid hdo;clear ag hdo
     go_upto_block 1 with fail
     go_cut [15,17,18,19] from 85 to 144 (fun s15 _ _ _ wx=>∃(T8:Nat→Part) (O:WatR) (p:Nat),s15=.int .i64 p∧CAt W.heap.size W5.heap.size W6.heap.size h f b c v m E (.slice A2 E.length c2) W wx T8 ((k+1)*KD) (stH (os.take (k+1))) (zaA zan (os.take (k+1))).length O p)
     case first=>
      go_wp2_with (refine wpList_load_mid rfl 61 (.tmp 88) rfl q (off+k*18) rfl [.int .i64 okind,.string oname,.int .i64 ocoins,.int .i64 al,.int .i64 olot,.int .i64 kind,.int .i64 opens,.int .i64 closes,.int .i64 start,.int .i64 step,.int .i64 extend,.int .i64 last,.int .i64 floor,.int .i64 fall,.int .i64 count,.int .i64 rule,.slice oA ooff.length oc,.int .i64 otick] _ HCS.out Tryz.underlying61 rfl (by kernel_rfl) ?_)
      refine HD.out.mono ?_;rintro e W8 ⟨a,rfl,T8,w8,l⟩;have d:=hid l;clear l;go_wp2_with fail
      go_loopw [15,17] (fun sa sj wr=>∃(j:Nat) (O:WatR) (p:Nat),j≤2000∧sa=.int .i64 p∧sj=.int .i64 j∧CAt W.heap.size W5.heap.size W6.heap.size h f b c v m E (.slice A2 E.length c2) W wr T8 ((k+1)*KD) (stH (os.take (k+1))) (zaA zan (os.take (k+1))).length O p) (fun _ j _=>2000-(intOf j).toNat)
      case atStart=>exact ⟨0,w8,ae,zL,rfl,rfl,d.out⟩
      case round=>
       clear d;obtain ⟨j,O,p,hj,rfl,rfl,l⟩:=hrel;have d:=hid l;clear l;by_cases hkt:k<tn
       ·obtain ⟨tv,htv⟩:∃tv,ts[k]? =some tv:=⟨_,gE (by rw[←HTN.out];exact hkt)⟩;obtain ⟨tq,zdv,hTA,hql,hcc⟩:∃tq zdv,TA=some ⟨tq,zdv,none⟩∧tq<W.heap.size∧W.cell? ⟨tq,zdv+k,none⟩=some ↑(tv:Int):=by
         obtain ⟨_,A',c',hv,_,_,ag⟩:=HTK.out;injection hv with hv1 _ _
         obtain ⟨tq,zdv,Z,_,h2,h3⟩:=ag (by omega);exact ⟨tq,zdv,hv1.trans Z,h2,h3 k _ (by rw[List.getElem?_map,htv];rfl)⟩
        subst hTA;have tk:wr.cell? ⟨tq,zdv+k,none⟩=some ↑(tv:Int):=qc d.out.bel hcc hql;clear hql hcc htv;have e7:(k:Int)<(tn:Int):=by omega
        by_cases hjt:(j:Int)<tv
        ·have d2:decide ((j:Int)<tv)=true:=decide_eq_true hjt;by_cases hj2:j<2000
         ·have d3:decide ((j:Int)<2000)=true:=decide_eq_true (by omega);clear hjt;go_wp2_with fail
          refine (zfr (d.out.st.one.wat.blk.cell 1) d.out.st.one.wat.blk.lt d.out.st.one.wat.room).mono ?_;rintro e C ⟨N,I,G⟩
          cases hqu:O.queue with
          |nil=>
           rw[hqu] at N;have N:e=.returned (.tuple #[zbE,false]):=N;subst N;have HCB:=hid (d.out.bare hqu I G);have HQN:=hid hqu;clear I G hqu;unfold zbE;go_wp2_with fail
           go_meet
           case rel=>exact ⟨T8,_,_,rfl,HCB.out.grow (qA _)⟩
          |cons t qs=>
           rw[hqu] at N;obtain ⟨⟨Q,aj,r⟩,H⟩:=d.out.take hqu I G;have N:e=.returned (.tuple #[zd8 t,true]):=N;subst N;obtain ⟨⟨g0,g1,g2,g3,g4,g5⟩,S⟩:=t;simp only at Q aj r H;obtain ⟨a,ha⟩:=nm (p+S.toNat:Nat);rw[←ha] at r H;have hal:=(gS.1 r).1;obtain ⟨K,J⟩:=nm (C.alloc (.cells #[g0,g1,g2,g3,g4,g5,S] 66));have M:Below C C K:=by rw[J];exact qA _
           have s:Ac.Blk K C.heap.size 66 #[g0,g1,g2,g3,g4,g5,S]:=by rw[J];exact Ac.Blk.new _ _ _
           have P:=H.grow M;obtain ⟨eq,hA2,heq,z⟩:=zoW P.evs r;subst hA2;have y0:=z 0 _ (by decide) rfl;have y1:=z 1 _ (by decide) rfl;have y2:=z 2 _ (by decide) rfl;have y3:=z 3 _ (by decide) rfl;have y4:=z 4 _ (by decide) rfl;have y5:=z 5 _ (by decide) rfl;simp only[Nat.add_zero] at y0 y1 y2 y3 y4 y5;have x0:K.cell? ⟨C,0,none⟩=some ↑g0:=s.cell 0;have x1:K.cell? ⟨C,1,none⟩=some ↑g1:=s.cell 1;have x2:K.cell? ⟨C,2,none⟩=some ↑g2:=s.cell 2;have x3:K.cell? ⟨C,3,none⟩=some ↑g3:=s.cell 3;have x4:K.cell? ⟨C,4,none⟩=some ↑g4:=s.cell 4;have x5:K.cell? ⟨C,5,none⟩=some ↑g5:=s.cell 5;have x6:K.cell? ⟨C,6,none⟩=some ↑S:=s.cell 6;have HCW:=hid P;have ah:=HEL.out;have t1:decide (S<0)=false:=decide_eq_false (by omega);have t2:decide (S>(mE:Int))=false:=decide_eq_false (by rw[F.out];omega);have t3:IntKind.i64.wrap ((p:Int)+S)=(a:Int):=(iW _ (by omega)).trans (by omega);have t4:¬mE≤a:=by rw[F.out];omega
           have t5:IntKind.i64.wrap ((a:Int)+1)=(a:Int)+1:=iW _ (by omega);have t6:(a:Int)<(mE:Int):=by rw[F.out];omega
           have t7:(0:Int)≤(a:Int):=by omega
           have HA:=hid ha;clear Q aj r H P s M z I G hal ah ha hqu;unfold zd8 ToldR.cells EvR.cells;simp only[List.cons_append,List.nil_append]
           go_upto_region 31 with fail
           rw[←J];clear J
           go_quiet (fail)
           go_wp2_with fail
           go_roundw
           case rel=>exact ⟨j+1,_,a+1,by omega,by go_num,by go_num,HCW.out.grow (below_drewN bR _)⟩
           case measure=>simp[intOf];omega
         ·have d3:decide ((j:Int)<2000)=false:=decide_eq_false (by omega);clear hjt;go_wp2_with fail
          go_meet
          case rel=>exact ⟨T8,_,_,rfl,d.out⟩
        ·have d2:decide ((j:Int)<tv)=false:=decide_eq_false hjt;clear hjt;go_wp2_with fail
         go_meet
         case rel=>exact ⟨T8,_,_,rfl,d.out⟩
       ·go_wp2_with fail
        go_meet
        case rel=>exact ⟨T8,_,_,rfl,d.out⟩
     case rest=>
      obtain ⟨T8,O,p,rfl,l⟩:=hcut;rename World=>V;have d:=hid l;clear l;go_wp2_with fail
      go_roundw
      case rel=>exact ⟨k+1,T8,O,p,by omega,rfl,by go_num,d.out⟩
      case measure=>simp[intOf];omega
    ·obtain rfl:k=n:=by omega
     have d:=hid l;clear l hlt hk e4;go_wp2_with fail
     go_loopw [15,20] (fun sa sj wr=>∃(j:Nat) (O:WatR) (p:Nat),j+O.queue.length≤m∧sa=.int .i64 p∧sj=.int .i64 j∧CAt W.heap.size W5.heap.size W6.heap.size h f b c v m E (.slice A2 E.length c2) W wr Tk (k*KD) (stH (os.take k)) (zaA zan (os.take k)).length O p) (fun _ j _=>2000-(intOf j).toNat)
     case atStart=>exact ⟨0,w,ae,by have:=d.out.room.2;omega,rfl,rfl,d.out⟩
     case round=>
      clear d;obtain ⟨j,O,p,hjq,rfl,rfl,l⟩:=hrel;have d:=hid l;have HJQ:=hid hjq;have hj:j≤1024:=by have:=HX.out;omega
      have d3:decide ((j:Int)<2000)=true:=decide_eq_true (by omega);clear l hjq;go_wp2_with fail
      refine (zfr (d.out.st.one.wat.blk.cell 1) d.out.st.one.wat.blk.lt d.out.st.one.wat.room).mono ?_;rintro e C ⟨N,I,G⟩
      cases hqu:O.queue with
      |nil=>
       rw[hqu] at N;have N:e=.returned (.tuple #[zbE,false]):=N;subst N;have HCB:=hid (d.out.bare hqu I G);have HQN:=hid hqu;clear I G hqu;unfold zbE;go_wp2_with fail
       have hq0:=HCB.out.inv;rw[HQN.out] at hq0;obtain ⟨Q,hmz⟩:=hq0;have hmn:(p:Int)+O.missed=(mE:Int):=by
        rw[F.out,HE.out];have Z:os.take k=os:=List.take_of_length_le (by have:=HN.out;omega);rw[Z] at hmz;exact hmz
       have hcf:=HCB.out.grow ((Below.refl _ C).alloc lR (.cells #[(),(),(),(),(),(),()] 66));have hwm:=hcf.st.one.wat.blk.cell 2;have hfm:=hcf.st.one.feed.blk.cell 2;have ah:=HEL.out;have t3:IntKind.i64.wrap ((p:Int)+O.missed)=(mE:Int):=(iW _ (by have:=F.out;omega)).trans hmn;have af:((zaA zan (os.take k)).length:Int)=(mE:Int):=by
        rw[F.out,HE.out,List.take_of_length_le (by have:=HN.out;omega)]
       have hfm:(C.alloc (.cells #[(),(),(),(),(),(),()] 66)).cell? ⟨f,2,none⟩=some ↑(mE:Int):=by
        rw[←af];exact hfm
       have HWM:=hid hwm;have HFM:=hid hfm;have HCF:=hid hcf;clear Q hmn hcf hwm hfm ah af hmz;refine (zkU HWM.out).mono ?_;rintro e w1 ⟨rfl,D⟩;rw[D];clear D;go_wp2_with fail
       refine (zmY HFM.out).mono ?_;rintro e w1 ⟨rfl,D⟩;rw[D];clear D;go_wp2_with fail
       go_ret;exact ⟨rfl,HCF.out.bel⟩
      |cons t qs=>
       rw[hqu] at N;have HQL:=hid (show O.queue.length=qs.length+1 from by rw[hqu];rfl);obtain ⟨⟨Q,aj,r⟩,H⟩:=d.out.take hqu I G;have N:e=.returned (.tuple #[zd8 t,true]):=N;subst N;obtain ⟨⟨g0,g1,g2,g3,g4,g5⟩,S⟩:=t;simp only at Q aj r H;obtain ⟨a,ha⟩:=nm (p+S.toNat:Nat);rw[←ha] at r H;have hal:=(gS.1 r).1;obtain ⟨K,J⟩:=nm (C.alloc (.cells #[g0,g1,g2,g3,g4,g5,S] 66));have M:Below C C K:=by rw[J];exact qA _
       have s:Ac.Blk K C.heap.size 66 #[g0,g1,g2,g3,g4,g5,S]:=by rw[J];exact Ac.Blk.new _ _ _
       have P:=H.grow M;obtain ⟨eq,hA2,heq,z⟩:=zoW P.evs r;subst hA2;have y0:=z 0 _ (by decide) rfl;have y1:=z 1 _ (by decide) rfl;have y2:=z 2 _ (by decide) rfl;have y3:=z 3 _ (by decide) rfl;have y4:=z 4 _ (by decide) rfl;have y5:=z 5 _ (by decide) rfl;simp only[Nat.add_zero] at y0 y1 y2 y3 y4 y5;have x0:K.cell? ⟨C,0,none⟩=some ↑g0:=s.cell 0;have x1:K.cell? ⟨C,1,none⟩=some ↑g1:=s.cell 1;have x2:K.cell? ⟨C,2,none⟩=some ↑g2:=s.cell 2;have x3:K.cell? ⟨C,3,none⟩=some ↑g3:=s.cell 3;have x4:K.cell? ⟨C,4,none⟩=some ↑g4:=s.cell 4;have x5:K.cell? ⟨C,5,none⟩=some ↑g5:=s.cell 5;have x6:K.cell? ⟨C,6,none⟩=some ↑S:=s.cell 6;have HCW:=hid P;have ah:=HEL.out;have t1:decide (S<0)=false:=decide_eq_false (by omega);have t2:decide (S>(mE:Int))=false:=decide_eq_false (by rw[F.out];omega);have t3:IntKind.i64.wrap ((p:Int)+S)=(a:Int):=(iW _ (by omega)).trans (by omega);have t4:¬mE≤a:=by rw[F.out];omega
       have t5:IntKind.i64.wrap ((a:Int)+1)=(a:Int)+1:=iW _ (by omega);have t6:(a:Int)<(mE:Int):=by rw[F.out];omega
       have t7:(0:Int)≤(a:Int):=by omega
       have HA:=hid ha;clear Q aj r H P s M z I G hal ah ha hqu;unfold zd8 ToldR.cells EvR.cells;simp only[List.cons_append,List.nil_append]
       go_upto_region 42 with fail
       rw[←J];clear J
       go_quiet (fail)
       go_wp2_with fail
       go_roundw
       case rel=>exact ⟨j+1,{O with queue:=qs},a+1,by have:=HQL.out;have:=HJQ.out;show j+1+qs.length≤m;omega,by go_num,by go_num,HCW.out.grow (below_drewN bR _)⟩
       case measure=>simp[intOf];omega
end Fd
namespace Fd
open Go.RowKit Go.WideShapes Go.ChangeShapes Go.ChangeAt Go.Joins Go.Deep Vb Ho
theorem open_takes {H:Type} {enc:TypeId×Value→H} {w:World} {base:Nat} {held:Bool} {v:Value} {d:DataW H} {p:List MemPlace} {r:Reach} {I:Nat} (o:Value.okWide Tryz.prog w r I 36 v)
  (h:DataW.Trod enc Tryz.prog w base (fun _=>true) held 36 v d p):∃(A:Option Addr) (c:Nat) (l:List Int),v=.slice A l.length c∧Sl w (fun b=>b<w.heap.size) v l.length 1 (l.map (Value.int .i64 ·)):=by
 obtain ⟨y,G,z,rfl⟩:=okWide_slice Tryz.underlying36 o;obtain ⟨B,h⟩:=h
 rcases open_slice1 Tryz.underlying36 (by kernel_rfl) h with ⟨hcs,_⟩|⟨a,len,cap,m,n,V,D,Pl,hcs,_,hl,hm,hmm,_,hi⟩
 ·obtain ⟨rfl,rfl,rfl⟩:y=none∧G=0∧z=0:=by simpa [Value.cells] using hcs
  exact ⟨none,0,[],rfl,⟨rfl,none,0,rfl,lR,zL,fun h=>absurd h (by simp)⟩⟩
 ·obtain ⟨rfl,rfl,rfl⟩:some a=y∧len=G∧cap=z:=by simp[Value.cells] at hcs;exact ⟨hcs.1.symm,hcs.2.1.symm,hcs.2.2.symm⟩
  simp only[if_true] at hmm;have k:=hmm.symm;subst k;have g:∀i,i<len→∃x:Int,V i=.int .i64 x:=fun i f=>by
   obtain ⟨x,e,_,wx⟩:=DataW.trod_int Tryz.underlying3 (hi i (by omega)).2
   simp at e
   exact ⟨x,e⟩
  haveI:Inhabited Int:=⟨0⟩
  obtain ⟨F,J⟩:=choose_lt g;refine ⟨some a,cap,(List.range len).map F,by simp,⟨by simp,some a,cap,by simp,by simpa using hl,hm,fun t=>?_⟩⟩;have C:0<len:=by simpa using t
  obtain ⟨b,q,rfl⟩:=ze6 (w:=w) (a:=a) (hi 0 (by omega)).1;have f:=World.block_lt_of_cell? w ⟨b,q,none⟩ (u:=V 0) (by simpa [Addr.add] using (hi 0 (by omega)).1);refine ⟨b,q,rfl,f,f,fun j u s=>?_⟩;have E:j<len:=by simpa using (gS.1 s).1
  have:u=V j:=by
   rw[List.getElem?_map,List.getElem?_map,List.getElem?_range E] at s
   simp at s
   rw[←s,(J j E)]
  subst this;rw[←zgf];exact (hi j (by omega)).1
theorem feedCounts_open {W:World} {g:Value} {os:List OrderR} (m:Ho.ztr W g os) (x:Int) {A:Option Addr} {c:Nat} {l:List Int} (n:Sl W (fun b=>b<W.heap.size) (.slice A l.length c) l.length 1 (l.map (Value.int .i64 ·))):
  Calls Tryz.prog 4 #[g,x,.slice A l.length c] W fun e W'=>e=.returned ↑true∧Below W W W':=by
 obtain ⟨o,a,d⟩:=m;obtain ⟨h,i,f⟩:∃h i,g=.slice h os.length i:=by
  obtain ⟨_,j,k,f,_⟩:=a;exact ⟨j,k,f⟩
 subst f;exact zjk a d x n
end Fd
end Go.Proofs.YtckdpejdnejhfaaGreat

/- Joined by program. -/
import Derived.Test.YtckdpejdnejhfaaGreatZac
import Derived.Test.YtckdpejdnejhfaaGreatZn
set_option linter.all false
set_option maxRecDepth 100000
set_option maxHeartbeats 32000000
namespace Go.Proofs.YtckdpejdnejhfaaGreat
open Lib (hid)
namespace Ho
open Go.RowKit Vb Ac
def zdi (ss:List Stand):List (List Int):=ss.map fun s=>zaD s.offers
def zc5 (l:LotS):List UnitR:=zbe (zdi l.stands)
def zeX (l:LotS):Int:=zdO l.put.count.toNat l.put.floor (zc5 l)
def zfs (l:LotS):List Int:=zcu l.stands.length ((zc5 l).take l.put.count.toNat)
def zdx (p:Int) (x:Stand×Int):SaleR:=⟨0,0,x.1.bidder,p*x.2,0,x.2,0⟩
def zaU (p:Int) (xs:List (Stand×Int)):List SaleR:=(xs.filter fun x=>decide (0<x.2)).map (zdx p)
def zdd (l:LotS):List SaleR:=zaU (zeX l) (l.stands.zip (zfs l))
def ziY (l:LotS):LotS:={l with price:=zeX l}
theorem zd3 (p:Int) (xs:List (Stand×Int)) (x:Stand×Int):zaU p (xs++[x])=if 0<x.2 then zaU p xs++[zdx p x] else zaU p xs:=by
 unfold zaU;rw[List.filter_append];by_cases h:0<x.2
 ·simp[h]
 ·simp[h]
theorem zjQ (p:Int) (xs:List (Stand×Int)):(zaU p xs).length≤xs.length:=by
 unfold zaU;rw[List.length_map];exact List.length_filter_le _ _
def zsn (l:LotS):Prop:=(1≤l.put.count∧l.put.count≤64)∧zah l.put.floor∧∀s∈l.stands,zcj s.offers=true∧zcB l.put.count l.put.floor (zaD s.offers)=0
theorem zsz:zbg Tryz.prog 344 340 1 24:=zba Tryz.underlying344 (by omega) (z:=.slice none 0 0) (by kernel_rfl) rfl
theorem zok (vo:Nat→Value) (k:Nat) (v:Value):zbD (fun i=>if i=k then v else vo i) (k+1)=zbD vo k++[v]:=by
 unfold zbD;rw[List.range_succ,List.map_append]
 congr 1
 ·exact List.map_congr_left fun i a=>by have:=List.mem_range.1 a;simp[show ¬i=k by omega]
 ·simp
theorem zmv {α β:Type}:∀{l:List α} {m:List β} {k:Nat} {x:α} {y:β},l[k]? =some x→m[k]? =some y→(l.zip m).take (k+1)=(l.zip m).take k++[(x,y)]:=fun {l m k x y} hx hy=>by
 refine za4 ?_;rw[List.getElem?_zip_eq_some];exact ⟨hx,hy⟩
theorem zoB {W:World} {T:Nat→Part} {j b:Nat} {l:LotS} (hL:za2 W T j b l) (hT:∀x,W.heap.size≤x→T x=.no) (hw:∀s∈l.stands,0≤s.bidder∧s.bidder≤4096) (hok:zsn l) (hn:l.stands.length≤4096):
  Calls Tryz.prog 259 #[.agg #[],.pointer (some ⟨b,0,none⟩)] W (zhE W T j b (ziY l) (zdd l)):=by
 obtain ⟨W1,hW1⟩:=nm (W.alloc (.cells #[] 248));have hb1:Below W W W1:=by rw[hW1];exact qA _
 obtain ⟨v,htb,aj,hst⟩:=hL;obtain ⟨sA,sc,hsv⟩:=hst.form;subst hsv;obtain ⟨n,hnn⟩:=nm (l.stands.length);rw[←hnn] at hst aj hn;have l14:W.cell? ⟨b,14,none⟩=some (.slice sA n sc):=aj.cell 14;have lb:=aj.lt;have HTB:=hid htb;have ah:=hid aj;have HST:=hid hst;have HTN:=hid hT;have HWF:=hid hw;have HUK:=hid hok;have HN:=hid hnn;have hnb:n≤4096:=hn;have HB1:=hid hb1;clear htb aj hst hT hw hn hnn hb1 hok;go_enter Tryz.func259,Tryz.ntmps259;go_wp2_with fail
 rw[←hW1];clear hW1;have e4:(0:Int)≤(n:Int):=by omega
 go_loopw [5,21] (fun t i wr=>∃(k:Nat) (A':Option Addr) (c':Nat) (vo:Nat→Value),k≤n∧i=.int .i64 k∧t=.slice A' k c'∧RowAt wr (fun x=>W.heap.size≤x) 340 1 (.slice A' k c') k (zbD vo k)∧(∀q b',q<k→(zdi l.stands)[q]? =some b'→Sl wr (fun x=>W.heap.size≤x∧x<wr.heap.size∧¬(Value.slice A' k c').ownBlock=some x) (vo q) b'.length 1 (za6 b'))∧Below W W wr) (fun _ i _=>n-(intOf i).toNat)
 case atStart=>exact ⟨0,none,0,fun _=>undef,zL,rfl,rfl,RowAt.nil,fun q b' h=>absurd h (Nat.not_lt_zero _),HB1.out⟩
 case round=>
  obtain ⟨k,A',c',vo,hk,rfl,rfl,r,hev,hb⟩:=hrel;by_cases hlt:k<n
  ·obtain ⟨s,X⟩:∃s,l.stands[k]? =some s:=⟨_,gE (by rw[←HN.out];exact hlt)⟩;obtain ⟨sq,scap,uA,uc,hsv,_,hsq,d0,d1,d2,hof⟩:=zaM.at_ (HST.out.step (T':=T) (Chg.of (fun _=>False) hb) (fun _ _=>id) fun _ _=>rfl) X;injection hsv with hv1 hv2 hv3
   subst hv1 hv3;clear hv2;have hso:=HUK.out.2.2 s (mG X);have hul:=(zc4 hso.2).len;have hcnt:=HUK.out.1;rw[zde] at hul;have e5:(0:Int)≤(k:Int):=by omega
   have e6:(k:Int)<(n:Int):=by omega
   obtain ⟨sb,S⟩:=nm (s.bidder);obtain ⟨sh,hsh⟩:=nm (s.held);obtain ⟨un,hun⟩:=nm (s.offers.length);rw[←S] at d0;rw[←hun] at d1;rw[←hsh] at d2;obtain ⟨w1,hw1⟩:=nm (wr.alloc (.cells #[sb,.slice uA un uc,sh] 188));have hbw1:Below wr wr w1:=by rw[hw1];exact qA _
   have hx1:Ac.Blk w1 wr.heap.size 188 #[sb,.slice uA un uc,sh]:=by rw[hw1];exact Ac.Blk.new _ _ _
   have y1:w1.cell? ⟨wr,1,none⟩=some (.slice uA un uc):=hx1.cell 1;have ly:=hx1.lt;have hcon:=zgx (l:=s.offers) (A:=uA) (c:=uc) (zad.grow hof hbw1) (by omega);rw[←hun] at hcon;have HCON:=hid hcon;have HSO:=hid hso;have HS:=hid X;have HUN:=hid hun;have HRW:=hid r;have HEV:=hid hev;have HB:=hid hb;have HSZ:=hid hb.size;have HBW1:=hid hbw1;have hwr:IntKind.i64.wrap ((k:Int)+1)=(k:Int)+1:=iW _ (by omega);clear S hsh hun X hof hul hcnt hcon hso r hev hb hbw1 hx1;go_wp2_with fail
   rw[←hw1];clear hw1;go_wp2_with fail
   refine HCON.out.mono ?_;rintro e w2 ⟨hb2,⟨B,_⟩|⟨_,A2,c2,rfl,hrow⟩⟩
   ·have:=HSO.out.1;rw[B] at this;cases this
   have HB2:=hid (HBW1.out.trans (hb2.mono HBW1.out.size));have HR2:=hid hrow;have hw2s:=HBW1.out.size;have hw2t:=hb2.size;have HRW2:=hid (RowAt.self (HRW.out.grow HB2.out));have HRW3:=hid (HRW2.out.grow (bR.alloc lR (.cells #[.slice A2 un c2] 340)));clear hb2 hrow y1 ly
   go_wp2_with (at_builtin;go_must (refine zby _ (.tmp 32) (.tmp 34) rfl zsz rfl (.slice A' k c') k (zbD vo k) rfl HRW3.out (.slice (some ⟨w2,0,none⟩) 1 1) 1 [.slice A2 un c2] rfl (Sl.lit1 (Ac.Blk.new' 340 #[.slice A2 un c2] (by simp)) rfl) (by simp[Value.oneCell']) (by omega) (by unfold maxLen;omega) ?_);intro C D Z ak R;have HRZ:=hid ak;have P:=hid R;clear ak R)
   go_roundw
   case rel=>
    have hs2:=HB2.out.size;have hsz:=HSZ.out;have hcz:=P.out.size
    simp at hcz
    refine ⟨k+1,C,D,fun i=>if i=k then .slice A2 un c2 else vo i,by omega,by go_num,rfl,?_,fun q b' hq hb'=>?_,?_⟩
    ·rw[zok];refine HRZ.out.mono fun x _ B=>?_
     rcases B with B|B
     ·exact HRW.out.blk x B
     ·rw[B];simp;omega
    ·have hnw:∀x,x<w2.heap.size→¬(Value.slice A' k c').ownBlock=some x→¬(Value.slice C (k+1) D).ownBlock=some x:=fun x L h2 e=>by
      rcases HRZ.out.blk x e with h|h
      ·exact h2 h
      ·simp at h;omega
     by_cases hqk:q=k
     ·subst hqk;have hbe:b'=zaD s.offers:=by
       have L:(zdi l.stands)[q]? =some (zaD s.offers):=by simp[zdi,HS.out]
       rw[hb'] at L;cases L;rfl
      subst hbe;simp only[if_true];rw[zde,←HUN.out];have L:=HR2.out.sl;have hlt2:∀x,(Value.slice A' q c').ownBlock=some x→x<wr.heap.size:=fun x e=>HRW.out.lt e;exact ((((L.mono (R':=fun x=>w1.heap.size≤x∧x<w2.heap.size) fun x B hr=>⟨hr,B⟩).grow (bR.alloc lR (.cells #[.slice A2 un c2] 340))).keep P.out.size fun x B hr=>P.out.block x B fun e=>by have:=hlt2 x e;omega)).mono fun x _ hr=>⟨by omega,by omega,hnw x hr.2 fun e=>by have:=hlt2 x e;omega⟩
     ·simp only[hqk,if_false];have L:=HEV.out q b' (by omega) hb';refine ((L.grow HB2.out).grow (qA _)).keep P.out.size (fun x B hr=>P.out.block x B fun e=>hr.2.2 e)|>.mono fun x _ hr=>⟨hr.1,by omega,hnw x (by omega) hr.2.2⟩
    ·refine ((HB.out.trans (HB2.out.mono hsz)).alloc (by omega) _).trans (P.out.below (by simp;omega) fun x B e=>?_);have:=HRW.out.blk x e
     omega
   case measure=>simp[intOf];omega
  ·obtain rfl:k=n:=by omega
   have hbl:(zdi l.stands).length=k:=by rw[HN.out];simp[zdi]
   have hbids:BidsAt wr (fun x=>W.heap.size≤x) (.slice A' (zdi l.stands).length c') vo (zdi l.stands):=by
    refine ⟨?_,fun q b' hq=>(hev q b' (by rw[←hbl];exact (gS.1 hq).1) hq).mono fun x _ B=>B.1⟩;rw[hbl];exact r.sl
   have ab:=ah.out.grow hb;obtain ⟨fl,hfl⟩:=nm (l.put.floor);obtain ⟨cn,hcn⟩:=nm (l.put.count.toNat);have hct:l.put.count=(cn:Int):=by have:=HUK.out.1;omega
   have l7:wr.cell? ⟨b,7,none⟩=some ↑fl:=by rw[hfl];exact ab.cell 7
   have l9:wr.cell? ⟨b,9,none⟩=some ↑cn:=by rw[←hct];exact ab.cell 9
   have lb2:=ab.lt;obtain ⟨d,hpr⟩:=nm (zeX l);obtain ⟨f,am⟩:=nm (zfs l);have HSELL:=hid (show ∀w,Below wr wr w→Calls Tryz.prog 262 #[cn,fl,.slice A' k c'] w fun e W'=>∃z nx,e=.returned (.tuple #[.agg #[d,.slice (some ⟨z,0,none⟩) k k,(nx:Int)],()])∧Ac.Blk W' z 3 (za6 f).toArray∧w.heap.size≤z∧Below w w W' from fun w hw=>by
    have hu:=HUK.out;have L:=zqw (count:=cn) (fl:=fl) (hbids.grow hw) (by have:=hu.1;omega) (by rw[hfl];exact hu.2.1) (by rw[hbl];exact hnb) (fun b' hb'=>by
     obtain ⟨s,X,rfl⟩:=List.mem_map.1 hb';rw[hfl,←hct];exact (hu.2.2 s X).2)
    rw[hbl] at L;refine L.mono ?_;rintro e W' ⟨z,rfl,h2,h3,h4⟩;refine ⟨z,zfG cn (zbe (zdi l.stands)),?_,?_,h3,h4⟩
    ·rw[hpr,hcn,hfl];rfl
    ·rw[am];unfold zfs;rw[←HN.out,←hcn];exact h2)
   have HPR:=hid hpr;have HWON:=hid am;have HB:=hid hb;have HWL:=hid (show f.length=k by rw[am,zfs,HN.out];simp[zcu]);have HWB:=hid (show ∀(q:Nat) (x:Int),f[q]? =some x→0≤x∧x≤64 from fun q x B=>by
    rw[am] at B;obtain ⟨i,_,rfl⟩:=List.mem_map.1 (mG B);have L:=zhK i ((zc5 l).take l.put.count.toNat);have h2:=List.length_take_le l.put.count.toNat (zc5 l);have h3:=HUK.out.1
    omega)
   have HPB:=hid (show zah d by
    rw[hpr];unfold zeX zdO;have hfc:=HUK.out.2.1
    split
    ·rename_i u hu
     obtain ⟨i,b',q,c,hb',hc,rfl⟩:=ziO (mG hu);simp only[zdi,List.getElem?_map,Option.map_eq_some_iff] at hb';obtain ⟨s,X,rfl⟩:=hb';have:=(zc4 (HUK.out.2.2 s (mG X)).2).coins c (mG hc);unfold zah at this hfc ⊢;simp only
     omega
    ·exact hfc)
   clear r hev hb ab hbids hpr am hfl hcn hct;go_wp2_with fail
   refine zac (Below wr wr) [] (by kernel_rfl) (bR.drew) (fun a=>?_);refine tp 0 a ?_;refine tp 1 a ?_;refine tp 2 a ?_;refine tp 3 a ?_;have qq:=hid fun (w':World) (Q:(Below wr wr) w')=>And.intro (qc Q l7 lb2)<|qc Q l9 lb2;refine tl 4 a qq ?_;refine tp 5 a ?_;refine tp 6 a ?_;refine tp 7 a ?_;refine tp 8 a ?_;refine tl 9 a qq ?_;refine tp 10 a ?_;refine tr [11,15] ?_;refine tc (fun K G=>?_) ?_
   ·go_simp;refine (HSELL.out _ a).mono ?_;rintro e V0 ⟨z,nx,rfl,hG,hgw,hb0⟩;refine G.out _ _ ?_ (fun a=>?_)
    ·exact a.trans (hb0.mono a.size)
    clear G K
    try simp only[Act.put,pb,pz,ps]
    have HG0:=hid hG;have HGW:=hid hgw;have HBZ:=hid hb0;have J:=hid a;clear hG hgw hb0;refine tp 12 a ?_;refine tp 13 a ?_;refine tp 14 a ?_;refine stp 15 fun K G=>?_;go_simp;refine G.out _ _ ?_ (fun a=>?_)
    ·exact a.alloc a.size _
    clear G K
    try simp only[Act.put,pb,pz,ps]
    refine stp 16 fun K G=>?_;go_simp;refine G.out _ _ ?_ (fun a=>?_)
    ·exact J.out.alloc J.out.size _
    clear G K
    try simp only[Act.put,pb,pz,ps]
    refine tp 17 a ?_;refine zaa (by kernel_rfl) ?_ _;obtain ⟨V,hV⟩:=nm (V0.alloc (.cells #[d,.slice (some ⟨z,0,none⟩) k k,(nx:Int)] 346));obtain ⟨g,M⟩:=nm (V0.heap.size);have hwv:=HB.out.size;have hv0:=J.out.size;have HBV:=hid (show Below W W V by rw[hV];exact (HB.out.trans (J.out.mono hwv)).alloc (by omega) _);have Y:=hid (show Ac.Blk V g 346 #[d,.slice (some ⟨z,0,none⟩) k k,(nx:Int)] by rw[hV,M];exact Ac.Blk.new _ _ _);have HGV:=hid (show Ac.Blk V z 3 (za6 f).toArray by rw[hV];exact HG0.out.alloc _);have HGE:=hid (show W.heap.size≤z∧W.heap.size≤g from ⟨lT hwv HGW.out,by omega⟩);rw[←hV];rw[←M];have hgg:W.heap.size≤z∧z<V.heap.size∧W.heap.size≤g∧g<V.heap.size:=by
     have L:=HGV.out.lt;have h2:=Y.out.lt;exact ⟨HGE.out.1,L,HGE.out.2,h2⟩
    clear hV M a l7 l9 lb2;have hbB:=ah.out.lt;have E:=hid (ah.out.grow HBV.out);have v19:V.cell? ⟨b,19,none⟩=some ↑l.price:=E.out.cell 19;have vf19:V.frozen? ⟨b,19,none⟩=false:=E.out.frozen 19;have v0:V.cell? ⟨g,0,none⟩=some ↑d:=Y.out.cell 0;have lv0:=Y.out.lt;have lvb:=E.out.lt;obtain ⟨F,I⟩:=nm (V.setCell ⟨b,19,none⟩ ↑d);have ac:Chg (·=b) V F:=by rw[I];exact Chg.set V ⟨b,19,none⟩ _
    have hs9:F.heap.size=V.heap.size:=by rw[I];simp[World.setCell]
    have HC9:=hid (show Chg (·=b) W F from (Chg.of _ HBV.out).trans ac);have HL9:=hid (show Ac.Blk F b 145 (({l with price:=d}:LotS).cells (.slice sA k sc)).toArray by rw[I];exact E.out.set_ 19 _);have HG9:=hid (HGV.out.chg ac (by omega));have ag:=hid (Y.out.chg ac (by omega));have n1:(V.setCell ⟨b,19,none⟩ ↑d).cell? ⟨g,1,none⟩=some (.slice (some ⟨z,0,none⟩) k k):=by rw[←I];exact ag.out.cell 1
    have hgw9:z<F.heap.size:=by omega
    have hg119:g<F.heap.size:=by omega
    have hb9:b<F.heap.size:=by omega
    clear ac hs9;go_wp2_with fail
    rw[←I];clear I v19 vf19 v0 n1;have hWl:=HWL.out
    go_loopw [13,60] (fun t i wq=>∃(q:Nat) (C:Option Addr) (D:Nat),q≤k∧i=.int .i64 q∧t=.slice C (zaU d ((l.stands.zip f).take q)).length D∧RowAt wq (fun x=>F.heap.size≤x) 151 7 (.slice C (zaU d ((l.stands.zip f).take q)).length D) (zaU d ((l.stands.zip f).take q)).length ((zaU d ((l.stands.zip f).take q)).flatMap SaleR.cells)∧Below F F wq) (fun _ i _=>k-(intOf i).toNat)
    case atStart=>exact ⟨0,none,0,zL,rfl,rfl,RowAt.nil,bR⟩
    case round=>
     obtain ⟨q,C,D,hq,rfl,rfl,r,o⟩:=hrel;obtain ⟨O,H⟩:=nm (zaU d ((l.stands.zip f).take q));rw[←H] at r ⊢;obtain ⟨U,ad⟩:=nm (O.length);rw[←ad] at r ⊢;have HLS:=hid (show U≤4096 by
      rw[ad,H];have L:=zjQ d ((l.stands.zip f).take q);have h2:=List.length_take_le q (l.stands.zip f)
      omega)
     have HS0:=hid H;have m:=hid ad;have aa:=hid r;have HBQ:=hid o;have al:=o.size;have HCQ:=hid (HC9.out.grow o);clear H ad;by_cases hlq:q<k
     ·obtain ⟨s,X⟩:∃s,l.stands[q]? =some s:=⟨_,gE (by rw[←HN.out];exact hlq)⟩;obtain ⟨x,B⟩:∃x,f[q]? =some x:=⟨_,gE (by rw[hWl];exact hlq)⟩;have hxb:=HWB.out q x B;have w0:wr.cell? ⟨z,q,none⟩=some ↑(x:Int):=((HG9.out.grow o).cell q).trans (by simp[za6,B]);have lw0:z<wr.heap.size:=by omega
      have HZT:=hid (zmv X B);have HX:=hid B;have HS:=hid X;have e7:(0:Int)≤(q:Int):=by omega
      have e8:(q:Int)<(k:Int):=by omega
      have hwq:IntKind.i64.wrap ((q:Int)+1)=(q:Int)+1:=iW _ (by omega);clear B;by_cases hx0:0<x
      ·obtain ⟨sq,scap,uA,uc,hsv,hsR,hsq,d0,d1,d2,hof⟩:=zaM.at_ (HST.out.stepB HTB.out HCQ.out) X;injection hsv with hv1 hv2 hv3
       subst hv1 hv3;clear hv2 d1 d2 hof;have hsqW:sq<F.heap.size∨F.heap.size≤sq:=by omega
       have hsqn:sq<W.heap.size:=by
        rcases Nat.lt_or_ge sq W.heap.size with h|h
        ·exact h
        ·have h2:=HTN.out sq h;rw[h2] at hsR;exact absurd hsR.1 (by simp)
       have ae:=HPB.out;have hpx:0≤d*x∧d*x≤70368744177664:=by
        unfold zah at ae;refine ⟨Int.mul_nonneg ae.1 hxb.1,?_⟩;have L:=Int.mul_le_mul_of_nonneg_right ae.2 hxb.1;have h2:(1099511627776:Int)*x≤1099511627776*64:=Int.mul_le_mul_of_nonneg_left hxb.2 (by omega)
        omega
       have hwm:IntKind.i64.wrap (d*x)=d*x:=iW _ (by omega);obtain ⟨sb,S⟩:=nm (s.bidder);rw[←S] at d0;have HSB:=hid S;have b14:wr.cell? ⟨b,14,none⟩=some (.slice (some ⟨sq,0,none⟩) k sc):=by
        have:=(HL9.out.grow o).cell 14;rw[HN.out];rw[HN.out] at this;exact this
       have b0:wr.cell? ⟨g,0,none⟩=some ↑d:=(ag.out.grow o).cell 0;have lb0:b<wr.heap.size:=by omega
       have lg0:g<wr.heap.size:=by omega
       have af:∀y,(Value.slice C U D).ownBlock=some y→F.heap.size≤y:=fun y e=>aa.out.blk y e;have ob:¬(Value.slice C U D).ownBlock=some b:=fun e=>by have:=af _ e;omega
       have og:¬(Value.slice C U D).ownBlock=some g:=fun e=>by have:=af _ e;omega
       have os:¬(Value.slice C U D).ownBlock=some sq:=fun e=>by have:=af _ e;omega
       have HRS:=hid (aa.out.grow (((Below.refl wr.heap.size wr).alloc lR (.cells #[(),(),sb,(d*x:Int),.int .u32 0,(x:Int),()] 151)).drew));clear r o X S ae hsR;go_wp2_with fail
       refine zac (Chg (fun y=>(Value.slice C U D).ownBlock=some y) wr) [] (by kernel_rfl) ((Chg.refl _ wr).grow bR.drew) (fun a=>?_);refine tp 0 a ?_;refine tp 1 a ?_;refine tp 2 a ?_;refine tp 3 a ?_;have qq:=hid fun (w':World) (Q:(Chg (fun y=>(Value.slice C U D).ownBlock=some y) wr) w')=>And.intro (cg Q b14 lb0 ob)<|And.intro (cg Q d0 hsq os)<|cg Q b0 lg0 og;refine tl 4 a qq ?_;refine tp 5 a ?_;refine tp 6 a ?_;refine tp 7 a ?_;refine tl 8 a qq ?_;refine tp 9 a ?_;refine tl 10 a qq ?_;refine tp 11 a ?_;refine tp 12 a ?_;refine tp 13 a ?_;refine tp 14 a ?_;refine stp 15 fun K G=>?_;go_simp;refine G.out _ _ ?_ (fun a=>?_)
       ·exact a.grow (qA _)
       clear G K
       try simp only[Act.put,pb,pz,ps]
       refine stp 16 fun K G=>?_;refine zbR ((wr.alloc (.cells #[(),(),sb,(d*x:Int),.int .u32 0,(x:Int),()] 151)).drew) (.tmp 67) (.tmp 82) rfl zfb rfl (.slice C U D) U (O.flatMap SaleR.cells) rfl HRS.out (.slice (some ⟨wr,0,none⟩) 1 1) 1 [.int .i64 0,.int .i64 0,.int .i64 sb,.int .i64 (d*x),.int .u32 0,.int .i64 x,.int .i64 0] rfl (Sl.lit1 (Ac.Blk.new wr 151 #[(),(),sb,(d*x:Int),.int .u32 0,(x:Int),()]) rfl) (by simp[Value.oneCell']) (by have:=HLS.out;omega) (by have:=HLS.out;unfold maxLen;omega) ?_;intro A4 c4 Z ak R;refine G.out _ _ ?_ (fun a=>?_)
       ·exact a.step R fun _ _ h=>h
       clear G K
       try simp only[Act.put,pb,pz,ps]
       have HRZ:=hid ak;have P:=hid (show Chg (fun y=>(Value.slice C U D).ownBlock=some y) wr Z from (((Chg.refl _ wr).grow (qA _)).grow bR.drew).trans R);clear ak R;refine tp 17 a ?_;refine zaa (by kernel_rfl) ?_ _;clear a;go_wp2_with fail
       go_roundw
       case rel=>
        have N:zaU d ((l.stands.zip f).take (q+1))=O++[zdx d (s,x)]:=by rw[HZT.out,zd3,if_pos hx0,←HS0.out]
        have hsz:wr.heap.size≤((wr.alloc (.cells #[(),(),sb,(d*x:Int),.int .u32 0,(x:Int),()] 151)).drew).heap.size:=(((Below.refl wr.heap.size wr).alloc lR _).drew).size;have hrz:=HRZ.out;refine ⟨q+1,A4,c4,by omega,by go_num,?_,?_,(HBQ.out.trans (bR.mono al)).trans ((P.out.below al fun y hy e=>by have:=af y e;omega))⟩
        ·rw[N,List.length_append,←m.out];rfl
        ·rw[N,List.length_append,←m.out,List.flatMap_append];have hc1:[zdx d (s,x)].flatMap SaleR.cells=[.int .i64 0,.int .i64 0,.int .i64 sb,.int .i64 (d*x),.int .u32 0,.int .i64 x,.int .i64 0]:=by
          rw[HSB.out];rfl
         rw[hc1];refine hrz.mono fun y _ hy=>hy.elim id fun hy=>?_;have L:y=wr.heap.size+1∨y ≥ F.heap.size:=by omega
         omega
       case measure=>simp[intOf];omega
      ·have hd:¬(0:Int)<x:=hx0;clear r o X;go_wp2_with fail
       go_roundw
       case rel=>
        have N:zaU d ((l.stands.zip f).take (q+1))=O:=by rw[HZT.out,zd3,if_neg hx0,←HS0.out]
        refine ⟨q+1,C,D,by omega,by go_num,?_,?_,HBQ.out⟩
        ·rw[N,←m.out]
        ·rw[N,←m.out];exact aa.out
       case measure=>simp[intOf];omega
     ·obtain rfl:q=k:=by omega
      have hfin:O=zdd l:=by
       rw[HS0.out,List.take_of_length_le (by rw[List.length_zip,hWl];omega),HPR.out,HWON.out]
       rfl
      have ai:=hid hfin;clear r o;go_wp2_with fail
      go_ret;refine ⟨C,D,?_,?_,⟨.slice sA q sc,HTB.out,?_,HST.out.stepB HTB.out HCQ.out⟩,HCQ.out⟩
      ·rw[←ai.out,←m.out];rfl
      ·rw[←ai.out,←m.out];exact aa.out.sl.mono fun y _ hy=>by have:=HC9.out.size;omega
      ·have:=HL9.out.grow HBQ.out;rw[HPR.out] at this;exact this
   refine tc (fun K G=>?_) ?_
   ·go_simp;refine G.out _ _ ?_ (fun a=>?_)
    ·exact a.alloc a.size _
    clear G K
    try simp only[Act.put,pb,pz,ps]
    refine stp 11 fun K G=>?_;go_simp;refine (HSELL.out _ a).mono ?_;rintro e V0 ⟨z,nx,rfl,hG,hgw,hb0⟩;refine G.out _ _ ?_ (fun a=>?_)
    ·exact a.trans (hb0.mono a.size)
    clear G K
    try simp only[Act.put,pb,pz,ps]
    have HG0:=hid hG;have HGW:=hid hgw;have HBZ:=hid hb0;have J:=hid a;clear hG hgw hb0;have hz:=((Ac.Blk.new wr 346 #[(),.slice none 0 0,()]).drewN 1).grow HBZ.out;have c0:V0.cell? ⟨wr,0,none⟩=some ↑():=hz.cell 0;have c1:V0.cell? ⟨wr,1,none⟩=some (.slice none 0 0):=hz.cell 1;have c2:V0.cell? ⟨wr,2,none⟩=some ↑():=hz.cell 2;have cf:∀i,V0.frozen? ⟨wr,i,none⟩=false:=hz.frozen;have HZ0:=hid hz;clear hz;refine tp 12 a ?_;refine tp 13 a ?_;refine tp 14 a ?_;refine stp 16 fun K G=>?_;go_simp;refine G.out _ _ ?_ (fun a=>?_)
    ·exact ((a.setCell (p:=⟨wr,0,none⟩) lR _).setCell (p:=⟨wr,1,none⟩) lR _).setCell (p:=⟨wr,2,none⟩) lR _
    clear G K
    try simp only[Act.put,pb,pz,ps]
    refine tp 17 a ?_;refine zaa (by kernel_rfl) ?_ _;obtain ⟨V,hV⟩:=nm (((V0.setCell ⟨wr,0,none⟩ ↑d).setCell ⟨wr,1,none⟩ (.slice (some ⟨z,0,none⟩) k k)).setCell ⟨wr,2,none⟩ ↑(nx:Int));obtain ⟨g,M⟩:=nm (wr.heap.size);have hwv:=HB.out.size;have hv0:=J.out.size;have hgwv:wr.heap.size+1≤z:=by have L:=HGW.out;simp[World.drew] at L;omega
    have HBV:=hid (show Below W W V by rw[hV];exact (((HB.out.trans (J.out.mono hwv)).setCell (p:=⟨wr,0,none⟩) hwv _).setCell (p:=⟨wr,1,none⟩) hwv _).setCell (p:=⟨wr,2,none⟩) hwv _);have Y:=hid (show Ac.Blk V g 346 #[d,.slice (some ⟨z,0,none⟩) k k,(nx:Int)] by rw[hV,M];exact ((HZ0.out.set_ 0 _).set_ 1 _).set_ 2 _);have HGV:=hid (show Ac.Blk V z 3 (za6 f).toArray by rw[hV];exact ((HG0.out.far (p:=⟨wr,0,none⟩) (by show z≠wr.heap.size;omega) _).far (p:=⟨wr,1,none⟩) (by show z≠wr.heap.size;omega) _).far (p:=⟨wr,2,none⟩) (by show z≠wr.heap.size;omega) _);have HGE:=hid (show W.heap.size≤z∧W.heap.size≤g from ⟨by omega,by omega⟩);rw[←hV];rw[←M];have hgg:W.heap.size≤z∧z<V.heap.size∧W.heap.size≤g∧g<V.heap.size:=by
     have L:=HGV.out.lt;have h2:=Y.out.lt;exact ⟨HGE.out.1,L,HGE.out.2,h2⟩
    clear hV M a l7 l9 lb2;have hbB:=ah.out.lt;have E:=hid (ah.out.grow HBV.out);have v19:V.cell? ⟨b,19,none⟩=some ↑l.price:=E.out.cell 19;have vf19:V.frozen? ⟨b,19,none⟩=false:=E.out.frozen 19;have v0:V.cell? ⟨g,0,none⟩=some ↑d:=Y.out.cell 0;have lv0:=Y.out.lt;have lvb:=E.out.lt;obtain ⟨F,I⟩:=nm (V.setCell ⟨b,19,none⟩ ↑d);have ac:Chg (·=b) V F:=by rw[I];exact Chg.set V ⟨b,19,none⟩ _
    have hs9:F.heap.size=V.heap.size:=by rw[I];simp[World.setCell]
    have HC9:=hid (show Chg (·=b) W F from (Chg.of _ HBV.out).trans ac);have HL9:=hid (show Ac.Blk F b 145 (({l with price:=d}:LotS).cells (.slice sA k sc)).toArray by rw[I];exact E.out.set_ 19 _);have HG9:=hid (HGV.out.chg ac (by omega));have ag:=hid (Y.out.chg ac (by omega));have n1:(V.setCell ⟨b,19,none⟩ ↑d).cell? ⟨g,1,none⟩=some (.slice (some ⟨z,0,none⟩) k k):=by rw[←I];exact ag.out.cell 1
    have hgw9:z<F.heap.size:=by omega
    have hg119:g<F.heap.size:=by omega
    have hb9:b<F.heap.size:=by omega
    clear ac hs9;go_wp2_with fail
    rw[←I];clear I v19 vf19 v0 n1;have hWl:=HWL.out
    go_loopw [13,60] (fun t i wq=>∃(q:Nat) (C:Option Addr) (D:Nat),q≤k∧i=.int .i64 q∧t=.slice C (zaU d ((l.stands.zip f).take q)).length D∧RowAt wq (fun x=>F.heap.size≤x) 151 7 (.slice C (zaU d ((l.stands.zip f).take q)).length D) (zaU d ((l.stands.zip f).take q)).length ((zaU d ((l.stands.zip f).take q)).flatMap SaleR.cells)∧Below F F wq) (fun _ i _=>k-(intOf i).toNat)
    case atStart=>exact ⟨0,none,0,zL,rfl,rfl,RowAt.nil,bR⟩
    case round=>
     obtain ⟨q,C,D,hq,rfl,rfl,r,o⟩:=hrel;obtain ⟨O,H⟩:=nm (zaU d ((l.stands.zip f).take q));rw[←H] at r ⊢;obtain ⟨U,ad⟩:=nm (O.length);rw[←ad] at r ⊢;have HLS:=hid (show U≤4096 by
      rw[ad,H];have L:=zjQ d ((l.stands.zip f).take q);have h2:=List.length_take_le q (l.stands.zip f)
      omega)
     have HS0:=hid H;have m:=hid ad;have aa:=hid r;have HBQ:=hid o;have al:=o.size;have HCQ:=hid (HC9.out.grow o);clear H ad;by_cases hlq:q<k
     ·obtain ⟨s,X⟩:∃s,l.stands[q]? =some s:=⟨_,gE (by rw[←HN.out];exact hlq)⟩;obtain ⟨x,B⟩:∃x,f[q]? =some x:=⟨_,gE (by rw[hWl];exact hlq)⟩;have hxb:=HWB.out q x B;have w0:wr.cell? ⟨z,q,none⟩=some ↑(x:Int):=((HG9.out.grow o).cell q).trans (by simp[za6,B]);have lw0:z<wr.heap.size:=by omega
      have HZT:=hid (zmv X B);have HX:=hid B;have HS:=hid X;have e7:(0:Int)≤(q:Int):=by omega
      have e8:(q:Int)<(k:Int):=by omega
      have hwq:IntKind.i64.wrap ((q:Int)+1)=(q:Int)+1:=iW _ (by omega);clear B;by_cases hx0:0<x
      ·obtain ⟨sq,scap,uA,uc,hsv,hsR,hsq,d0,d1,d2,hof⟩:=zaM.at_ (HST.out.stepB HTB.out HCQ.out) X;injection hsv with hv1 hv2 hv3
       subst hv1 hv3;clear hv2 d1 d2 hof;have hsqW:sq<F.heap.size∨F.heap.size≤sq:=by omega
       have hsqn:sq<W.heap.size:=by
        rcases Nat.lt_or_ge sq W.heap.size with h|h
        ·exact h
        ·have h2:=HTN.out sq h;rw[h2] at hsR;exact absurd hsR.1 (by simp)
       have ae:=HPB.out;have hpx:0≤d*x∧d*x≤70368744177664:=by
        unfold zah at ae;refine ⟨Int.mul_nonneg ae.1 hxb.1,?_⟩;have L:=Int.mul_le_mul_of_nonneg_right ae.2 hxb.1;have h2:(1099511627776:Int)*x≤1099511627776*64:=Int.mul_le_mul_of_nonneg_left hxb.2 (by omega)
        omega
       have hwm:IntKind.i64.wrap (d*x)=d*x:=iW _ (by omega);obtain ⟨sb,S⟩:=nm (s.bidder);rw[←S] at d0;have HSB:=hid S;have b14:wr.cell? ⟨b,14,none⟩=some (.slice (some ⟨sq,0,none⟩) k sc):=by
        have:=(HL9.out.grow o).cell 14;rw[HN.out];rw[HN.out] at this;exact this
       have b0:wr.cell? ⟨g,0,none⟩=some ↑d:=(ag.out.grow o).cell 0;have lb0:b<wr.heap.size:=by omega
       have lg0:g<wr.heap.size:=by omega
       have af:∀y,(Value.slice C U D).ownBlock=some y→F.heap.size≤y:=fun y e=>aa.out.blk y e;have ob:¬(Value.slice C U D).ownBlock=some b:=fun e=>by have:=af _ e;omega
       have og:¬(Value.slice C U D).ownBlock=some g:=fun e=>by have:=af _ e;omega
       have os:¬(Value.slice C U D).ownBlock=some sq:=fun e=>by have:=af _ e;omega
       have HRS:=hid (aa.out.grow (((Below.refl wr.heap.size wr).alloc lR (.cells #[(),(),sb,(d*x:Int),.int .u32 0,(x:Int),()] 151)).drew));clear r o X S ae hsR;go_wp2_with fail
       refine zac (Chg (fun y=>(Value.slice C U D).ownBlock=some y) wr) [] (by kernel_rfl) ((Chg.refl _ wr).grow bR.drew) (fun a=>?_);refine tp 0 a ?_;refine tp 1 a ?_;refine tp 2 a ?_;refine tp 3 a ?_;have qq:=hid fun (w':World) (Q:(Chg (fun y=>(Value.slice C U D).ownBlock=some y) wr) w')=>And.intro (cg Q b14 lb0 ob)<|And.intro (cg Q d0 hsq os)<|cg Q b0 lg0 og;refine tl 4 a qq ?_;refine tp 5 a ?_;refine tp 6 a ?_;refine tp 7 a ?_;refine tl 8 a qq ?_;refine tp 9 a ?_;refine tl 10 a qq ?_;refine tp 11 a ?_;refine tp 12 a ?_;refine tp 13 a ?_;refine tp 14 a ?_;refine stp 15 fun K G=>?_;go_simp;refine G.out _ _ ?_ (fun a=>?_)
       ·exact a.grow (qA _)
       clear G K
       try simp only[Act.put,pb,pz,ps]
       refine stp 16 fun K G=>?_;refine zbR ((wr.alloc (.cells #[(),(),sb,(d*x:Int),.int .u32 0,(x:Int),()] 151)).drew) (.tmp 67) (.tmp 82) rfl zfb rfl (.slice C U D) U (O.flatMap SaleR.cells) rfl HRS.out (.slice (some ⟨wr,0,none⟩) 1 1) 1 [.int .i64 0,.int .i64 0,.int .i64 sb,.int .i64 (d*x),.int .u32 0,.int .i64 x,.int .i64 0] rfl (Sl.lit1 (Ac.Blk.new wr 151 #[(),(),sb,(d*x:Int),.int .u32 0,(x:Int),()]) rfl) (by simp[Value.oneCell']) (by have:=HLS.out;omega) (by have:=HLS.out;unfold maxLen;omega) ?_;intro A4 c4 Z ak R;refine G.out _ _ ?_ (fun a=>?_)
       ·exact a.step R fun _ _ h=>h
       clear G K
       try simp only[Act.put,pb,pz,ps]
       have HRZ:=hid ak;have P:=hid (show Chg (fun y=>(Value.slice C U D).ownBlock=some y) wr Z from (((Chg.refl _ wr).grow (qA _)).grow bR.drew).trans R);clear ak R;refine tp 17 a ?_;refine zaa (by kernel_rfl) ?_ _;clear a;go_wp2_with fail
       go_roundw
       case rel=>
        have N:zaU d ((l.stands.zip f).take (q+1))=O++[zdx d (s,x)]:=by rw[HZT.out,zd3,if_pos hx0,←HS0.out]
        have hsz:wr.heap.size≤((wr.alloc (.cells #[(),(),sb,(d*x:Int),.int .u32 0,(x:Int),()] 151)).drew).heap.size:=(((Below.refl wr.heap.size wr).alloc lR _).drew).size;have hrz:=HRZ.out;refine ⟨q+1,A4,c4,by omega,by go_num,?_,?_,(HBQ.out.trans (bR.mono al)).trans ((P.out.below al fun y hy e=>by have:=af y e;omega))⟩
        ·rw[N,List.length_append,←m.out];rfl
        ·rw[N,List.length_append,←m.out,List.flatMap_append];have hc1:[zdx d (s,x)].flatMap SaleR.cells=[.int .i64 0,.int .i64 0,.int .i64 sb,.int .i64 (d*x),.int .u32 0,.int .i64 x,.int .i64 0]:=by
          rw[HSB.out];rfl
         rw[hc1];refine hrz.mono fun y _ hy=>hy.elim id fun hy=>?_;have L:y=wr.heap.size+1∨y ≥ F.heap.size:=by omega
         omega
       case measure=>simp[intOf];omega
      ·have hd:¬(0:Int)<x:=hx0;clear r o X;go_wp2_with fail
       go_roundw
       case rel=>
        have N:zaU d ((l.stands.zip f).take (q+1))=O:=by rw[HZT.out,zd3,if_neg hx0,←HS0.out]
        refine ⟨q+1,C,D,by omega,by go_num,?_,?_,HBQ.out⟩
        ·rw[N,←m.out]
        ·rw[N,←m.out];exact aa.out
       case measure=>simp[intOf];omega
     ·obtain rfl:q=k:=by omega
      have hfin:O=zdd l:=by
       rw[HS0.out,List.take_of_length_le (by rw[List.length_zip,hWl];omega),HPR.out,HWON.out]
       rfl
      have ai:=hid hfin;clear r o;go_wp2_with fail
      go_ret;refine ⟨C,D,?_,?_,⟨.slice sA q sc,HTB.out,?_,HST.out.stepB HTB.out HCQ.out⟩,HCQ.out⟩
      ·rw[←ai.out,←m.out];rfl
      ·rw[←ai.out,←m.out];exact aa.out.sl.mono fun y _ hy=>by have:=HC9.out.size;omega
      ·have:=HL9.out.grow HBQ.out;rw[HPR.out] at this;exact this
   exact zaL.nil
def zaO (l:LotS):LotS×List SaleR:=
 if l.put.kind=1 then (l,zc0 l) else if l.put.kind=2 then (l,[]) else if l.put.kind=3 then (zc1 l,zb0 l) else if l.put.kind=4 then (ziY l,zdd l) else (l,zdt l)
theorem zjX (l:LotS):(zaO l).1.stands=l.stands∧(zaO l).1.put=l.put∧(zaO l).1.rise=l.rise∧(zaO l).1.closes=l.closes∧(zaO l).1.closed=l.closed:=by
 unfold zaO zc1 ziY
 split
 ·exact ⟨rfl,rfl,rfl,rfl,rfl⟩
 ·split
  ·exact ⟨rfl,rfl,rfl,rfl,rfl⟩
  ·split
   ·split<;>exact ⟨rfl,rfl,rfl,rfl,rfl⟩
   ·split<;>exact ⟨rfl,rfl,rfl,rfl,rfl⟩
structure LotInv (N:Nat) (l:LotS):Prop where
 ok:zbO l.put=true
 bid:∀s∈l.stands,0≤s.bidder∧s.bidder<N
 nodup:(l.stands.map (·.bidder)).Nodup
 held:∀s∈l.stands,zah s.held
 offs:∀s∈l.stands,s.offers.length≤64
 rise:l.rise.leader<N
 units:l.put.kind=4→∀s∈l.stands,zcj s.offers=true∧zcB l.put.count l.put.floor (zaD s.offers)=0
 pkg:l.put.kind=5→l.stands.length≤32∧∀s∈l.stands,zas l.put.count s.offers=0
def zcq (ls:List LotS):Nat:=ls.countP (·.closed)
structure HInv (H:House):Prop where
 accs:zbb H.accs
 names:H.accs.length=H.names.length
 nlen:H.names.length≤4096
 llen:H.lots.length≤4096
 due:H.due=zaW H.lots
 lots:∀l∈H.lots,LotInv H.accs.length l
 sales:H.sales.length≤64*zcq H.lots
theorem zhk:∀{N:Nat} {xs:List Int},xs.Nodup→(∀x∈xs,0≤x∧x<N)→xs.length≤N
 |0,xs,_,h=>by
  cases xs with
  |nil=>simp
  |cons x xs=>have:=h x (.head _);omega
 |N+1,xs,hn,h=>by
  have h1:=zhk (N:=N) (xs:=xs.filter fun x=>x !=(N:Int)) (hn.filter _) fun x hx=>by
   rw[List.mem_filter] at hx;have h2:=h x hx.1;have h3:x≠N:=by simpa using hx.2
   omega
  have h2:xs.length=(xs.filter fun x=>x !=(N:Int)).length+(xs.filter fun x=>!(x !=(N:Int))).length:=by
   rw[←List.countP_eq_length_filter,←List.countP_eq_length_filter];refine (List.length_eq_countP_add_countP (fun x=>x !=(N:Int)) (l:=xs)).trans ?_
   congr 2
   funext x
   cases x !=(N:Int)<;>rfl
  have h3:(xs.filter fun x=>!(x !=(N:Int))).length≤1:=by
   have b:=hn.filter fun x=>!(x !=(N:Int));have a:∀x∈xs.filter fun x=>!(x !=(N:Int)),x=N:=fun x hx=>by
    rw[List.mem_filter] at hx
    simpa using hx.2
   generalize xs.filter (fun x=>!(x !=(N:Int)))=ys at b a
   match ys with
   |[]=>simp
   |[y]=>simp
   |y::z::ys=>
    have c:=a y (by simp);have d:=a z (by simp);have h3:=(List.pairwise_cons.1 b).1 z (by simp);exact absurd (c.trans d.symm) h3
  omega
theorem LotInv.few {N:Nat} {l:LotS} (h:LotInv N l):l.stands.length≤N:=by
 have:=zhk h.nodup fun x b=>by
  obtain ⟨s,a,rfl⟩:=List.mem_map.1 b;exact h.bid s a
 simpa using this
theorem LotInv.more {N M:Nat} {l:LotS} (h:LotInv N l) (hM:N≤M):LotInv M l:=
 ⟨h.ok,fun s hs=>by have:=h.bid s hs;omega,h.nodup,h.held,h.offs,by have:=h.rise;omega,h.units,h.pkg⟩
theorem zdL {p:LotR} (h:zbO p=true):(p.kind=4→(1≤p.count∧p.count≤64)∧zah p.floor)∧(p.kind=5→1≤p.count∧p.count≤10):=by
 unfold zbO zl1 at h;simp only[Bool.and_eq_true] at h;have a:=h.2;refine ⟨fun e=>?_,fun e=>?_⟩<;>rw[e] at a
 ·rw[if_neg (by decide),if_neg (by decide),if_neg (by decide),if_pos rfl] at a;unfold zct at a;simp only[Bool.and_eq_true,decide_eq_true_eq,zaK] at a;exact ⟨⟨a.2.1.2,a.2.2⟩,a.2.1.1⟩
 ·rw[if_neg (by decide),if_neg (by decide),if_neg (by decide),if_neg (by decide),if_pos rfl] at a;unfold zcc at a;simp only[Bool.and_eq_true,decide_eq_true_eq] at a;exact a.2.1
def atP (H:House) (o:OrderR):Option (Acc×LotS):=
 if (o.bidder<0∨(H.accs.length:Int)≤o.bidder)∨(o.lot<0∨(H.lots.length:Int)≤o.lot) then none
 else match H.accs[o.bidder.toNat]?,H.lots[o.lot.toNat]? with
  |some a,some l=>some (a,l)
  |_,_=>none
def zcO (H:House) (l:LotS):Bool:=l.closed||decide (H.now<l.put.opens)||decide (l.closes≤H.now)
def zdI (os:List Off):Int:=(zaZ os).getD 0
def zcg (H:House) (i:Nat) (a:Acc) (l:LotS) (os:List Off):RiseR:=zgh l.put l.rise (zdP H i a (zdI os))
def kE (H:House) (i j:Nat) (a:Acc) (l:LotS) (os:List Off):Int:=
 if l.put.kind=1 then zgF H i a l os else if l.put.kind=2 then zgs H a l os else if l.put.kind=3 then zdY a l j os else if l.put.kind=4 then zep a l j os else zgD l a i j os
def zrg (H:House) (i:Nat) (a:Acc) (l:LotS) (os:List Off):Int:=
 if l.put.kind=1 then (zcg H i a l os).price else if l.put.kind=2 then zbJ l.put H.now else 0
def zeG (l:LotS) (os:List Off):Int:=if l.put.kind=3 then zdI os else if l.put.kind=4 then zaB (zaD os) else zcp os
def kH (H:House) (i j:Nat) (a:Acc) (l:LotS) (os:List Off):House:=
 if l.put.kind=1 then zhV H j l (zcg H i a l os) else if l.put.kind=2 then zlk H i j l else zhw H i j a l ⟨i,os,zeG l os⟩
def ze8 (H:House) (o:OrderR):Int:=match atP H o with|none=>4|some (a,l)=>if zcO H l=true then 6 else kE H o.bidder.toNat o.lot.toNat a l o.offers
def zqD (H:House) (o:OrderR):Int:=match atP H o with|none=>0|some (a,l)=>zrg H o.bidder.toNat a l o.offers
def zgg (H:House) (o:OrderR):House:=match atP H o with|none=>H|some (a,l)=>kH H o.bidder.toNat o.lot.toNat a l o.offers
def takeE (H:House) (o:OrderR):Int:=match atP H o with|none=>4|some (_,l)=>if zcO H l=true then 6 else zhM l o.bidder.toNat
def zeT (H:House) (o:OrderR):House:=match atP H o with|none=>H|some (a,l)=>znF H o.bidder.toNat o.lot.toNat a l
def zeU (H:House) (t:Int):Int:=if zae t=false∨t<H.now then (if zae t=true then 6 else 2) else 0
open Classical in
noncomputable def zgp (D:Int→Option Int) (t:Int):List Du:=if h:∃ds,DueL D t ds then Classical.choose h else []
noncomputable def zov (H:House) (t:Int):Int:=((zgp H.due t).length:Nat)
noncomputable def zd7 (H:House) (t:Int):House:=zeV zaO H t (zgp H.due t)
def zbi (H:House) (o:OrderR):Int:=
 if o.kind=1 then zcE H o.coins o.name else if o.kind=2 then zck H o.bidder o.coins else if o.kind=3 then zev H o.put else if o.kind=4 then ze8 H o else if o.kind=5 then takeE H o else zeU H o.tick
noncomputable def zfC (H:House) (o:OrderR):Int:=
 if o.kind=1 then H.names.length else if o.kind=2 then zgi H o.bidder o.coins else if o.kind=3 then H.lots.length else if o.kind=4 then zqD H o else if o.kind=5 then 0 else zov H o.tick
noncomputable def zbo (H:House) (o:OrderR):House:=
 if o.kind=1 then zg6 H o.coins o.name else if o.kind=2 then zb4 H o.bidder o.coins else if o.kind=3 then zfl H o.put else if o.kind=4 then zgg H o else if o.kind=5 then zeT H o else zd7 H o.tick
def doE (H:House) (o:OrderR):Int:=if zcH o=false then 2 else zbi H o
noncomputable def doA (H:House) (o:OrderR):AnsR:=if doE H o=0 then ⟨(zbo H o).book.length,0,zfC H o⟩ else ⟨0,doE H o,0⟩
noncomputable def doH (H:House) (o:OrderR):House:=if doE H o=0 then {zbo H o with book:=(zbo H o).book++[o]} else H
theorem zfh {α β:Type} {f:α→β}:∀{l:List α},(l.map f).Nodup→l.Nodup
 |[],_=>List.Pairwise.nil
 |x::l,h=>by
  rw[List.map_cons] at h;have h1:=List.pairwise_cons.1 h;exact List.Pairwise.cons (fun y hy e=>h1.1 (f y) (List.mem_map_of_mem hy) (by rw[e])) (zfh h1.2)
theorem zkZ {α:Type} {le:α→α→Prop} (a:∀x y,le x y→le y x→x=y):∀{xs b:List α},xs.Pairwise le→b.Pairwise le→xs.Nodup→b.Nodup→(∀d,d∈xs↔d∈b)→xs=b
 |[],[],_,_,_,_,_=>rfl
 |[],y::b,_,_,_,_,h=>by have:=(h y).2 (.head _);cases this
 |x::xs,[],_,_,_,_,h=>by have:=(h x).1 (.head _);cases this
 |x::xs,y::b,h1,h2,n1,n2,h=>by
  have p1:=List.pairwise_cons.1 h1;have p2:=List.pairwise_cons.1 h2;have q1:=List.pairwise_cons.1 n1;have q2:=List.pairwise_cons.1 n2;have e:x=y:=by
   rcases List.mem_cons.1 ((h x).1 (.head _)) with e|hx
   ·exact e
   ·rcases List.mem_cons.1 ((h y).2 (.head _)) with e|hy
    ·exact e.symm
    ·exact a _ _ (p1.1 y hy) (p2.1 x hx)
  subst e;rw[zkZ a p1.2 p2.2 q1.2 q2.2 fun d=>⟨fun c=>?_,fun c=>?_⟩]
  ·rcases List.mem_cons.1 ((h d).1 (.tail _ c)) with e|hd'
   ·exact absurd e.symm (q1.1 d c)
   ·exact hd'
  ·rcases List.mem_cons.1 ((h d).2 (.tail _ c)) with e|hd'
   ·exact absurd e.symm (q2.1 d c)
   ·exact hd'
theorem ztK {x y:Du} (g:leD x y) (h:leD y x):x=y:=by
 obtain ⟨a,b⟩:=x;obtain ⟨c,d⟩:=y;simp only[leD] at g h;have e:a=c:=by omega
 have f:b=d:=by omega
 rw[e,f]
theorem zsw {D:Int→Option Int} {t:Int} {xs a:List Du} (b:DueL D t xs) (c:DueL D t a):xs=a:=by
 have f:xs.Nodup:=zfh b.nodup;have g:a.Nodup:=zfh c.nodup;have e:∀d,d∈xs↔d∈a:=fun d=>(b.mem d).trans (c.mem d).symm;exact zkZ (le:=leD) (fun _ _=>ztK) b.sorted c.sorted f g e
theorem zlH {D:Int→Option Int} {t:Int} {ds:List Du} (h:DueL D t ds):zgp D t=ds:=by
 unfold zgp;rw[dif_pos ⟨ds,h⟩];exact zsw (Classical.choose_spec (⟨ds,h⟩:∃ds,DueL D t ds)) h
theorem zs5 (pre:List UnitR):∀n,((List.range n).filter fun i=>decide (0<zbG i pre)).length≤pre.length:=by
 have d:∀(p:Nat→Bool) (c:Int) (n:Nat),((List.range n).filter fun i=>p i||decide (c=(i:Int))).length≤((List.range n).filter p).length+1∧(n≤c.toNat∨c<0→((List.range n).filter fun i=>p i||decide (c=(i:Int))).length≤((List.range n).filter p).length):=by
  intro p c n
  induction n with
  |zero=>simp
  |succ n ih=>
   rw[List.range_succ,List.filter_append,List.filter_append,List.length_append,List.length_append];have a:(List.filter p [n]).length=if p n=true then 1 else 0:=by
    by_cases h:p n=true<;>simp[h]
   have b:(List.filter (fun i=>p i||decide (c=(i:Int))) [n]).length=if p n=true∨c=(n:Int) then 1 else 0:=by
    by_cases h:p n=true
    ·simp[h]
    ·by_cases h':c=(n:Int)<;>simp[h,h']
   rw[a,b];obtain ⟨k,f⟩:=ih;refine ⟨?_,fun j=>?_⟩
   ·by_cases h:p n=true
    ·rw[if_pos h,if_pos (.inl h)];omega
    ·by_cases h':c=(n:Int)
     ·have:=f (by omega);rw[if_neg h,if_pos (.inr h')];omega
     ·rw[if_neg h,if_neg (fun e=>e.elim h h')];omega
   ·have:=f (by omega);by_cases h:p n=true
    ·rw[if_pos h,if_pos (.inl h)];omega
    ·rw[if_neg h,if_neg (fun e=>e.elim h (by omega))];omega
 intro n
 induction pre with
 |nil=>simp[zbG]
 |cons u pre ih=>
  have a:(fun i:Nat=>decide (0<zbG i (u::pre)))=fun i:Nat=>decide (0<zbG i pre)||decide (u.bid=(i:Int)):=by
   funext i
   have g:=zhK i pre;have b:zbG i (u::pre)=if u.bid=(i:Int) then zbG i pre+1 else zbG i pre:=by
    unfold zbG;by_cases h:u.bid=(i:Int)<;>simp[h]
   rw[b];by_cases h:u.bid=(i:Int)
   ·rw[if_pos h]
    simp[h]
    omega
   ·rw[if_neg h]
    simp[h]
  rw[a];have:=(d (fun i=>decide (0<zbG i pre)) u.bid n).1;simp only[List.length_cons]
  omega
theorem zjR (p:Int):∀(ss:List Stand) (ws:List Int),(zaU p (ss.zip ws)).length≤(ws.filter fun w=>decide (0<w)).length
 |[],ws=>by simp[zaU]
 |s::ss,[]=>by simp[zaU]
 |s::ss,w::ws=>by
  have h:=zjR p ss ws;unfold zaU at h ⊢;simp only[List.zip_cons_cons,List.filter_cons,List.length_map] at h ⊢;by_cases hw:0<w
  ·simp only[hw,decide_true,if_true,List.length_cons];omega
  ·simp only[hw,decide_false,Bool.false_eq_true,if_false];omega
theorem zkq {l:LotS} (d:1≤l.put.count∧l.put.count≤64):(zdd l).length≤64:=by
 unfold zdd;refine lT (zjR _ _ _) ?_;unfold zfs zcu;rw[List.filter_map,List.length_map];have b:=zs5 ((zc5 l).take l.put.count.toNat) l.stands.length;have c:=List.length_take_le l.put.count.toNat (zc5 l);have a:((fun w:Int=>decide (0<w))∘fun i=>zbG i ((zc5 l).take l.put.count.toNat))=fun i=>decide (0<zbG i ((zc5 l).take l.put.count.toNat)):=rfl;rw[a]
 omega
theorem zn9 {p:Int} {ss:List Stand} {b:List Int} {s:SaleR} (h:s∈zaU p (ss.zip b)):∃t w,(t,w)∈ss.zip b∧0<w∧s=zdx p (t,w):=by
 unfold zaU at h;obtain ⟨x,a,rfl⟩:=List.mem_map.1 h;rw[List.mem_filter] at a;exact ⟨x.1,x.2,a.1,by simpa using a.2,rfl⟩
theorem zrR {fl:Int} {ss:List Stand} {w p:Int} (h:zbX fl ss=some (w,p)):∃s∈ss,s.bidder=w:=by
 unfold zbX at h
 split at h
 ·split at h
  ·cases h
  ·rename_i j c b
   obtain ⟨f,s,a,g⟩:=zdy b;rw[a] at h;injection h with h
   injection h with h2 h3
   unfold zc2 at a;rw[List.getElem?_map] at a;obtain ⟨t,d,e⟩:=Option.map_eq_some_iff.1 a;refine ⟨t,mG d,?_⟩;rw[←h2,←e]
   rfl
 ·cases h
theorem zp0 {N:Nat} {l:LotS} (h:LotInv N l):∀s∈(zaO l).2,0≤s.bidder∧s.bidder<N:=by
 unfold zaO
 split
 ·intro s a;unfold zc0 at a;simp only at a
  split at a
  ·cases a
  ·rename_i c
   rw[List.mem_singleton] at a;subst a;have:=h.rise;have i:¬l.rise.leader<0:=fun e=>c (.inl e)
   show 0≤l.rise.leader∧l.rise.leader<N
   omega
 ·split
  ·intro s a;cases a
  ·split
   ·intro s a;unfold zb0 at a;simp only at a
    split at a
    ·cases a
    ·rename_i w p c
     rw[List.mem_singleton] at a;subst a;obtain ⟨t,f,e⟩:=zrR c;have:=h.bid t f;rw[e] at this;exact this
   ·split
    ·intro s a;obtain ⟨t,w,d,_,rfl⟩:=zn9 a;exact h.bid t (List.of_mem_zip d).1
    ·intro s a;unfold zdt at a;obtain ⟨x,g,b⟩:=List.mem_flatMap.1 a;unfold za7 at b
     split at b
     ·rw[List.mem_singleton] at b;subst b;exact h.bid x.1 (List.of_mem_zip g).1
     ·cases b
theorem zjY {N:Nat} {l:LotS} (h:LotInv N l):(zaO l).2.length≤64:=by
 have a:=zdL h.ok;have c:=(zcz h.ok).1;unfold zaO
 split
 ·unfold zc0;split<;>simp
 ·split
  ·simp
  ·split
   ·unfold zb0;split<;>simp
   ·split
    ·rename_i b
     exact zkq (a.1 b).1
    ·rename_i g i j k
     have f:=(h.pkg (by omega)).1;have d:=zkn (zgb l);have e:(zgb l).length≤l.stands.length:=by unfold zgb;rw[List.length_zip];omega
     show (zdt l).length≤64
     unfold zdt
     omega
theorem zrO {N:Nat} {l:LotS} (h:LotInv N l) (k:N≤4096):SellsAs zaO N l:=by
 have d:=zdL h.ok;have i:=(zcz h.ok).1;have m:=h.few;have g:=zjX l;refine ⟨i,h.bid,by omega,⟨g.1,g.2.1⟩,zp0 h,zjY h,fun W T j b a e=>?_⟩;unfold zaO zeR;by_cases k1:l.put.kind=1
 ·simp only[if_pos k1];exact zpT a
 ·simp only[if_neg k1];by_cases k2:l.put.kind=2
  ·simp only[if_pos k2];exact zo5 a
  ·simp only[if_neg k2];by_cases k3:l.put.kind=3
   ·simp only[if_pos k3];exact zp9 a e (fun s c=>⟨by have:=h.bid s c;omega,h.held s c⟩) (by omega)
   ·simp only[if_neg k3];by_cases k4:l.put.kind=4
    ·simp only[if_pos k4];exact zoB a e (fun s c=>by have:=h.bid s c;omega) ⟨(d.1 k4).1,(d.1 k4).2,h.units k4⟩ (by omega)
    ·simp only[if_neg k4];have f:l.put.kind=5:=by omega
     exact zpN a e (h.pkg f).2 (d.2 f) (h.pkg f).1
theorem zqL {W:World} {T:Nat→Part} {h K:Nat} {H:House} (V:zaf W T h K H) (o:OrderR) {A:Option Addr} {c:Nat} (J:zcH o=false) {R:Nat→Prop} (U:zad W R (.slice A o.offers.length c) o.offers):
  Calls Tryz.prog 69 #[.pointer (some ⟨h,0,none⟩),o.agg (.slice A o.offers.length c)] W fun e W'=>e=.returned (ziC 0 2 0)∧Below W W W':=by
 obtain ⟨j,k,f,a,t,⟨r,l,b,n,y,d,s,i,q,g,x⟩,v,m⟩:=o;simp only at U;have N:=hid J;have X:=hid V;have Y:=hid U;have D:=fun W=>zhu ⟨j,k,f,a,t,⟨r,l,b,n,y,d,s,i,q,g,x⟩,v,m⟩ A c W;have C:=hid D;simp only[OrderR.agg,OrderR.cells,LotR.cells,List.cons_append,List.nil_append] at C ⊢;obtain ⟨S,B⟩:=nm ((W.alloc (.cells #[j,.string k,f,a,t,r,l,b,n,y,d,s,i,q,g,x,.slice A v.length c,m] 61)).alloc (.cells #[(),(),()] 52));have G:Below W W S:=by rw[B];exact (qA _).alloc (by simp) _
 have O:=hid (show Ac.Blk S W.heap.size 61 #[j,.string k,f,a,t,r,l,b,n,y,d,s,i,q,g,x,.slice A v.length c,m] by rw[B];exact (Ac.Blk.new W _ _).alloc _);have P:=hid (show Ac.Blk S (W.heap.size+1) 52 #[(),(),()] by rw[B];exact Ac.Blk.new' _ _ (by simp));have E:=hid G;clear V U J D G;go_enter Tryz.func69,Tryz.ntmps69;go_wp2_with fail
 rw[←B];clear B;refine (zcU (X.out.grow E.out)).mono ?_;rintro e Z ⟨rfl,rfl⟩
 go_wp2_with (refine wpList_load_row rfl 61 (.tmp 3) rfl W.heap.size rfl 61 #[j,.string k,f,a,t,r,l,b,n,y,d,s,i,q,g,x,.slice A v.length c,m] (0,0) _ O.out Tryz.underlying61 rfl (by kernel_rfl) ?_)
 refine (C.out _).mono ?_;rintro e L ⟨rfl,F⟩;rw[N.out];have z:=P.out.grow F;have y0:L.cell? ⟨W.heap.size+1,0,none⟩=some ↑():=z.cell 0;have y1:L.cell? ⟨W.heap.size+1,1,none⟩=some ↑():=z.cell 1;have y2:L.cell? ⟨W.heap.size+1,2,none⟩=some ↑():=z.cell 2;have yf:=z.frozen;have Q:=hid z;have M:=hid (E.out.trans (F.mono E.out.size));clear F z;go_wp2_with fail
 have I:Ac.Blk (((L.setCell ⟨W.heap.size+1,0,none⟩ ↑()).setCell ⟨W.heap.size+1,1,none⟩ ↑(2:Int)).setCell ⟨W.heap.size+1,2,none⟩ ↑()) (W.heap.size+1) 52 #[(),(2:Int),()]:=((Q.out.set_ 0 _).set_ 1 _).set_ 2 _;refine bodyPost_ret (results_cell_row rfl _ _ (W.heap.size+1) 52 #[(),(2:Int),()] (0,0) _ rfl I Tryz.underlying52 rfl (by kernel_rfl)) rfl ⟨rfl,?_⟩;exact ((M.out.setCell (p:=⟨W.heap.size+1,0,none⟩) (by simp) _).setCell (p:=⟨W.heap.size+1,1,none⟩) (by simp) _).setCell (p:=⟨W.heap.size+1,2,none⟩) (by simp) _
theorem zlt {H:House} {o:OrderR} (h:atP H o=none):(o.bidder<0∨(H.accs.length:Int)≤o.bidder)∨(o.lot<0∨(H.lots.length:Int)≤o.lot):=by
 unfold atP at h
 split at h
 ·assumption
 ·rename_i c
  exfalso
  have a:o.bidder.toNat<H.accs.length:=by omega
  have b:o.lot.toNat<H.lots.length:=by omega
  rw[gE a,gE b] at h
  cases h
theorem zds {H:House} {o:OrderR} {a:Acc} {l:LotS} (h:atP H o=some (a,l)):o.bidder=(o.bidder.toNat:Int)∧o.lot=(o.lot.toNat:Int)∧H.accs[o.bidder.toNat]? =some a∧H.lots[o.lot.toNat]? =some l:=by
 unfold atP at h
 split at h
 ·cases h
 ·rename_i e
  split at h
  ·rename_i d f b c
   injection h with h
   injection h with e1 e2
   subst e1 e2;exact ⟨by omega,by omega,b,c⟩
  ·cases h
theorem zda {H:House} {l:LotS}:zcO H l=true↔¬runs H l:=by
 unfold zcO runs;simp only[Bool.or_eq_true,decide_eq_true_eq,Classical.not_not,or_assoc]
theorem zhG {W:World} {T:Nat→Part} {h pn pc K:Nat} {va vl vb vs:Value} {H:House} (b:HouseAt W T h pn pc va vl vb vs K H) {i j:Nat} {a:Acc} {l:LotS} (g:H.accs[i]? =some a) (k:H.lots[j]? =some l):∃bl ba ma,AtIt W T h pn pc va vl vb vs K H bl ba ma i j a l:=by
 obtain ⟨ba,ma,c,d⟩:=b.accs;obtain ⟨bl,e,f⟩:=b.lots;exact ⟨bl,ba,ma,b,e,f,c,d,g,k⟩
theorem zgo {H:House} (a:HInv H) {j:Nat} {l:LotS} (c:H.lots[j]? =some l) (b:l.closed=false):H.due j=some l.closes:=by
 rw[a.due];unfold zaW;rw[if_neg (by omega)]
 simp[c,b]
def KD:Nat:=4096*4097
theorem zeS {os:List Off} {c:Int} (h:zaZ os=some c):os.length=1:=by
 unfold zaZ at h
 split at h
 ·rfl
 ·cases h
theorem zeD (ls:List LotS):zcq ls≤ls.length:=List.countP_le_length
section
variable {W:World} {T:Nat→Part} {h pn pc K:Nat} {va vl vb vs:Value} {H:House} {o:OrderR} {A:Option Addr} {c:Nat} {R:Nat→Prop}
theorem zsr (F:HouseAt W T h pn pc va vl vb vs K H) (n:HInv H) (J:zad W R (.slice A o.offers.length c) o.offers) (z:∀b,R b→T b=.no) (I:K+KD<maxLen) (d:ze8 H o≠0):
  Calls Tryz.prog 97 #[.pointer (some ⟨h,0,none⟩),o.agg (.slice A o.offers.length c)] W fun e W'=>e=.returned (.tuple #[(),(ze8 H o:Int)])∧Below W W W':=by
 have X:=n.nlen;have O:=n.names;have N:=n.llen;unfold ze8 at d ⊢
 cases hat:atP H o with
 |none=>exact zo7 F o (zlt hat)
 |some al=>
  obtain ⟨a,l⟩:=al;rw[hat] at d;simp only at d ⊢;obtain ⟨f,g,G,y⟩:=zds hat;obtain ⟨V,U,Y,p⟩:=zhG F G y;by_cases hov:zcO H l=true
  ·rw[if_pos hov];exact zo8 p o f g (zda.1 hov)
  ·rw[if_neg hov] at d ⊢;have P:runs H l:=Classical.not_not.1 fun e=>hov (zda.2 e);have t:=n.lots l (mG y);have M:=(zcz t.ok).1;have L:=(gS.1 y).1;have m:=n.accs a (mG G);have S:l.stands.length≤4096:=by have:=t.few;omega
   have D:H.sales.length+1≤1000000:=by have:=n.sales;have:=zeD H.lots;omega
   have C:l.closed=false:=by
    cases hc:l.closed with
    |false=>rfl
    |true=>exact absurd (by simp[zcO,hc]) hov
   unfold KD at I;refine (zlQ (Q:=fun x v E W'=>v=0∧E=kE H o.bidder.toNat o.lot.toNat a l o.offers∧Below x x W') p o f g P M fun x k=>?_).mono ?_
   ·have i:=p.grow k;have j:=zad.grow J k;unfold kE at d;unfold zfV kE;by_cases k1:l.put.kind=1
    ·simp only[if_pos k1] at d ⊢;exact (zrG i o f g j m.1 d).mono fun e W' h=>⟨_,_,h.1,rfl,rfl,h.2⟩
    simp only[if_neg k1] at d ⊢;by_cases k2:l.put.kind=2
    ·simp only[if_pos k2] at d ⊢;refine (zlN i o f g j n.accs (by omega) ((zcz t.ok).2 k2) (zgo n y C) t.bid (by omega) D).mono ?_;rintro e W' (⟨q,r,s⟩|⟨q,r,s⟩)
     ·exact ⟨_,_,r,rfl,rfl,s⟩
     ·exact absurd q d
    simp only[if_neg k2] at d ⊢;by_cases k3:l.put.kind=3
    ·simp only[if_pos k3] at d ⊢;exact (zrL i o f g j z m.1 (by omega) d).mono fun e W' h=>⟨_,_,h.1,rfl,rfl,h.2⟩
    simp only[if_neg k3] at d ⊢;by_cases k4:l.put.kind=4
    ·simp only[if_pos k4] at d ⊢;exact (zr8 i o f g j z m.1 (by omega) ((zdL t.ok).1 k4).1.2 d).mono fun e W' h=>⟨_,_,h.1,rfl,rfl,h.2⟩
    ·simp only[if_neg k4] at d ⊢;refine (zl7 i o f g j z m.1 (by omega) (by omega) (by omega)).mono ?_;rintro e W' (⟨q,r,s⟩|⟨q,r,s⟩)
     ·exact ⟨_,_,r,rfl,rfl,s⟩
     ·exact absurd q d
   ·rintro e W' ⟨v,E,rfl,x,k,rfl,rfl,B⟩;exact ⟨rfl,k.trans (B.mono k.size)⟩
theorem zeO {i:Nat} {a:Acc} {l:LotS} {os:List Off} (h:zgF H i a l os=0):zaZ os=some (zdI os)∧zb2 l.put l.rise (zdP H i a (zdI os))=0:=by
 unfold zgF at h;unfold zdI
 cases hs:zaZ os with
 |none=>rw[hs] at h;cases h
 |some c=>rw[hs] at h;exact ⟨rfl,h⟩
theorem zfp {a:Acc} {l:LotS} {j:Int} {os:List Off} (h:zdY a l j os=0):zaZ os=some (zdI os)∧¬zdI os<l.put.floor∧zdI os≤a.mostH j:=by
 unfold zdY at h;unfold zdI
 cases hs:zaZ os with
 |none=>rw[hs] at h;cases h
 |some c=>
  rw[hs] at h;simp only at h
  split at h
  ·cases h
  ·rename_i b
   unfold zci at h
   split at h
   ·cases h
   ·exact ⟨rfl,b,by show c≤_;omega⟩
theorem ztx (I:HouseAt W T h pn pc va vl vb vs K H) (q:HInv H) (L:zad W R (.slice A o.offers.length c) o.offers) (C:∀b,R b→T b=.no) (J:K+KD<maxLen) (d:ze8 H o=0):
  Calls Tryz.prog 97 #[.pointer (some ⟨h,0,none⟩),o.agg (.slice A o.offers.length c)] W fun e W'=>e=.returned (.tuple #[(zqD H o:Int),()])∧∃T',zaf W' T' h (K+KD) (zgg H o)∧Moves W T W' T':=by
 have Y:=q.nlen;have P:=q.names;have O:=q.llen;unfold ze8 at d;unfold zqD zgg
 cases hat:atP H o with
 |none=>rw[hat] at d;cases d
 |some al=>
  obtain ⟨a,l⟩:=al;rw[hat] at d;simp only at d ⊢;obtain ⟨f,g,G,y⟩:=zds hat;obtain ⟨X,V,Z,x⟩:=zhG I G y;by_cases hov:zcO H l=true
  ·rw[if_pos hov] at d;cases d
  ·rw[if_neg hov] at d;have S:runs H l:=Classical.not_not.1 fun e=>hov (zda.2 e);have t:=q.lots l (mG y);have N:=(zcz t.ok).1;have M:=(gS.1 y).1;have s:=q.accs a (mG G);have U:l.stands.length≤4096:=by have:=t.few;omega
   have E:H.sales.length+1≤1000000:=by have:=q.sales;have:=zeD H.lots;omega
   have D:l.closed=false:=by
    cases hc:l.closed with
    |false=>rfl
    |true=>exact absurd (by simp[zcO,hc]) hov
   unfold KD at J ⊢;refine (zlQ (Q:=fun z v F W'=>v=zrg H o.bidder.toNat a l o.offers∧F=0∧∃T',zaf W' T' h (K+4096*4097) (kH H o.bidder.toNat o.lot.toNat a l o.offers)∧Moves z T W' T') x o f g S N fun z r=>?_).mono ?_
   ·have k:=x.grow r;have m:=zad.grow L r;unfold kE at d;unfold zfV zrg kH;by_cases k1:l.put.kind=1
    ·simp only[if_pos k1] at d ⊢;obtain ⟨i,j⟩:=zeO d;refine (zs8 k o f g m q.accs (by omega) i j t.rise (by omega)).mono ?_;rintro e W' ⟨rfl,T',n,p⟩;exact ⟨_,_,rfl,rfl,rfl,T',n.mono (by omega),p⟩
    simp only[if_neg k1] at d ⊢;by_cases k2:l.put.kind=2
    ·simp only[if_pos k2] at d ⊢;refine (zlN k o f g m q.accs (by omega) ((zcz t.ok).2 k2) (zgo q y D) t.bid (by omega) E).mono ?_;rintro e W' (⟨i,j,n⟩|⟨i,j,T',n,p⟩)
     ·exact absurd d i
     ·exact ⟨_,_,j,rfl,rfl,T',n.mono (by omega),p⟩
    simp only[if_neg k2] at d ⊢;by_cases k3:l.put.kind=3
    ·simp only[if_pos k3] at d ⊢;obtain ⟨i,j,n⟩:=zfp d;refine (zs9 k o f g m C s.1 (by omega) i j n (by omega) (by omega) (by have:=zeS i;omega)).mono ?_;rintro e W' ⟨rfl,T',p,B⟩;refine ⟨_,_,rfl,rfl,rfl,T',?_,B⟩;unfold zeG;rw[if_pos k3];exact p.mono (by omega)
    simp only[if_neg k3] at d ⊢;by_cases k4:l.put.kind=4
    ·simp only[if_pos k4] at d ⊢;refine (ztm k o f g m C s.1 (by omega) ((zdL t.ok).1 k4).1.2 d (by omega) (by omega)).mono ?_;rintro e W' ⟨rfl,T',p,B⟩;refine ⟨_,_,rfl,rfl,rfl,T',?_,B⟩;unfold zeG;rw[if_neg k3,if_pos k4];exact p.mono (by omega)
    ·simp only[if_neg k4] at d ⊢;refine (zl7 k o f g m C s.1 (by omega) (by omega) (by omega)).mono ?_;rintro e W' (⟨i,j,n⟩|⟨i,j,T',n,p⟩)
     ·exact absurd d i
     ·refine ⟨_,_,j,rfl,rfl,T',?_,p⟩;unfold zeG;rw[if_neg k3,if_neg k4];exact n.mono (by omega)
   ·rintro e W' ⟨v,F,rfl,z,r,rfl,rfl,T',i,j⟩;exact ⟨rfl,T',i,(HouseAt.moves (T:=T) r).trans j⟩
end
section
variable {W:World} {T:Nat→Part} {h pn pc K:Nat} {va vl vb vs:Value} {H:House} {o:OrderR} {A:Option Addr} {c:Nat} {R:Nat→Prop}
theorem zrZ (p:HouseAt W T h pn pc va vl vb vs K H) (i:HInv H) (q:K+KD<maxLen) (d:takeE H o≠0):
  Calls Tryz.prog 98 #[.pointer (some ⟨h,0,none⟩),o.agg (.slice A o.offers.length c)] W fun e W'=>e=.returned (.tuple #[(),(takeE H o:Int)])∧Below W W W':=by
 have D:=i.nlen;have x:=i.names;have v:=i.llen;unfold takeE at d ⊢
 cases hat:atP H o with
 |none=>exact znN p o (zlt hat)
 |some al=>
  obtain ⟨a,l⟩:=al;rw[hat] at d;simp only at d ⊢;obtain ⟨f,g,s,j⟩:=zds hat;obtain ⟨C,B,E,b⟩:=zhG p s j;by_cases hov:zcO H l=true
  ·rw[if_pos hov];exact znO b o f g (zda.1 hov)
  ·rw[if_neg hov] at d ⊢;have y:runs H l:=Classical.not_not.1 fun e=>hov (zda.2 e);have r:=i.lots l (mG j);have t:=(gS.1 j).1;have z:l.stands.length≤4096:=by have:=r.few;omega
   unfold KD at q;refine (zkL b o f g y (by omega) (by omega) (by omega)).mono ?_;rintro e W' (⟨k,m,n⟩|⟨k,m,n⟩)
   ·exact ⟨m,n⟩
   ·exact absurd k d
theorem ztj (q:HouseAt W T h pn pc va vl vb vs K H) (d:HInv H) (r:K+KD<maxLen) (b:takeE H o=0):
  Calls Tryz.prog 98 #[.pointer (some ⟨h,0,none⟩),o.agg (.slice A o.offers.length c)] W fun e W'=>e=.returned (.tuple #[(),()])∧∃T',zaf W' T' h (K+KD) (zeT H o)∧Moves W T W' T':=by
 have E:=d.nlen;have y:=d.names;have x:=d.llen;unfold takeE at b;unfold zeT
 cases hat:atP H o with
 |none=>rw[hat] at b;cases b
 |some al=>
  obtain ⟨a,l⟩:=al;rw[hat] at b;simp only at b ⊢;obtain ⟨i,j,t,g⟩:=zds hat;obtain ⟨D,C,F,f⟩:=zhG q t g;by_cases hov:zcO H l=true
  ·rw[if_pos hov] at b;cases b
  ·rw[if_neg hov] at b;have z:runs H l:=Classical.not_not.1 fun e=>hov (zda.2 e);have s:=d.lots l (mG g);have v:=(gS.1 g).1;have B:l.stands.length≤4096:=by have:=s.few;omega
   unfold KD at r ⊢;refine (zkL f o i j z (by omega) (by omega) (by omega)).mono ?_;rintro e W' (⟨k,m,n⟩|⟨k,m,T',n,p⟩)
   ·exact absurd b k
   ·exact ⟨m,T',n.mono (by omega),p⟩
theorem zou {t:Int} (h:zeU H t=0):zae t=true∧H.now≤t:=by
 unfold zeU at h
 split at h
 ·split at h<;>cases h
 ·rename_i a
  refine ⟨?_,by omega⟩
  cases hc:zae t with
  |true=>rfl
  |false=>exact absurd (.inl hc) a
theorem ztk (y:HouseAt W T h pn pc va vl vb vs K H) (a:HInv H) (z:K+KD<maxLen) (B:zeU H o.tick=0):
  Calls Tryz.prog 99 #[.pointer (some ⟨h,0,none⟩),o.agg (.slice A o.offers.length c)] W fun e W'=>e=.returned (.tuple #[(zov H o.tick:Int),()])∧∃T',zaf W' T' h (K+KD) (zd7 H o.tick)∧Moves W T W' T':=by
 have G:=a.nlen;have C:=a.names;have i:=a.llen;obtain ⟨p,q⟩:=zou B;have j:H.sales.length+64*H.lots.length≤1000000:=by have:=a.sales;have:=zeD H.lots;omega
 refine (zlU (f:=zaO) y o _ p q a.due a.accs i j (by unfold KD at z;omega) fun l m _ _=>zrO (a.lots l m) (by omega)).mono ?_;rintro e W' ⟨n,T',rfl,b,r,s⟩;have D:=zlH b;have m:n.length≤4096:=by
  have t:=zhk (N:=4096) b.nodup fun x E=>by
   obtain ⟨d,g,rfl⟩:=List.mem_map.1 E;have k:=((b.mem d).1 g).1;rw[a.due] at k;obtain ⟨F,l,v,_⟩:=zcx k;have:=(gS.1 v).1
   omega
  simpa using t
 unfold zov zd7;rw[D];exact ⟨rfl,T',r.mono (by unfold KD;omega),s⟩
theorem zr3 {t:Int} (h:zeU H t≠0):(zae t=false∨t<H.now)∧zeU H t=if zae t=true then 6 else 2:=by
 unfold zeU at h ⊢
 split at h
 ·rename_i a
  exact ⟨a,if_pos a⟩
 ·exact absurd rfl h
end
theorem zqF {H:House} {o:OrderR} (a:doE H o=0):(zbo H o).book=H.book∧(zbo H o).now=(if o.kind=1∨o.kind=2∨o.kind=3∨o.kind=4∨o.kind=5 then H.now else o.tick):=by
 unfold zbo;by_cases k1:o.kind=1
 ·rw[if_pos k1,if_pos (.inl k1)];exact ⟨rfl,rfl⟩
 rw[if_neg k1];by_cases k2:o.kind=2
 ·rw[if_pos k2,if_pos (.inr (.inl k2))];unfold zb4
  split<;>exact ⟨rfl,rfl⟩
 rw[if_neg k2];by_cases k3:o.kind=3
 ·rw[if_pos k3,if_pos (.inr (.inr (.inl k3)))];exact ⟨rfl,rfl⟩
 rw[if_neg k3];by_cases k4:o.kind=4
 ·rw[if_pos k4,if_pos (.inr (.inr (.inr (.inl k4))))];unfold zgg
  split
  ·exact ⟨rfl,rfl⟩
  ·unfold kH
   split
   ·exact ⟨rfl,rfl⟩
   ·split<;>exact ⟨rfl,rfl⟩
 rw[if_neg k4];by_cases k5:o.kind=5
 ·rw[if_pos k5,if_pos (.inr (.inr (.inr (.inr k5))))];unfold zeT
  split<;>exact ⟨rfl,rfl⟩
 rw[if_neg k5,if_neg (by omega)];unfold zd7 zeV;have:=zcS (f:=zaO) (zgp H.due o.tick) {H with now:=o.tick,due:=zbn H.due o.tick};exact ⟨this.2.2.1,this.2.2.2.1⟩
theorem ztC {W:World} {T:Nat→Part} {h K:Nat} {H:House} (m:zaf W T h K H) (q:HInv H) (o:OrderR) {A:Option Addr} {c:Nat} {R:Nat→Prop} (s:zad W R (.slice A o.offers.length c) o.offers) (v:∀b,b<W.heap.size→R b→T b=.no) (l:doE H o=0→o.offers.length≤1099511627776) (y:K+KD<maxLen) (r:H.book.length≤1000000):
  Calls Tryz.prog 69 #[.pointer (some ⟨h,0,none⟩),o.agg (.slice A o.offers.length c)] W fun e W'=>e=.returned (doA H o).agg∧∃T',zaf W' T' h (K+KD) (doH H o)∧Moves W T W' T':=by
 have n:zad W (fun b=>R b∧b<W.heap.size) (.slice A o.offers.length c) o.offers:=zad.mono s fun b r S=>⟨S,r⟩;have z:∀b,R b∧b<W.heap.size→T b=.no:=fun b r=>v b r.2 r.1;have t:∀{W':World},Below W W W'→∃T',zaf W' T' h (K+KD) H∧Moves W T W' T':=fun r=>⟨T,(m.grow r).mono (Nat.le_add_right _ _),HouseAt.moves r⟩;by_cases hs:zcH o=false
 ·have x:doE H o=2:=by unfold doE;rw[if_pos hs]
  unfold doA doH;rw[x,if_neg (by decide),if_neg (by decide)];exact (zqL m o hs s).mono fun e W' h=>⟨h.1,t h.2⟩
 have d:zcH o=true:=by simpa using hs
 have x:doE H o=zbi H o:=by unfold doE;rw[if_neg hs]
 have M:o.kind=1∨o.kind=2∨o.kind=3∨o.kind=4∨o.kind=5∨o.kind=6:=by
  by_cases g:o.kind=1∨o.kind=2∨o.kind=3∨o.kind=4∨o.kind=5∨o.kind=6
  ·exact g
  ·unfold zcH at d;simp only at d;rw[if_neg (by omega),if_neg (by omega),if_neg (by omega),if_neg (by omega),if_neg (by omega),if_neg (by omega)] at d
   cases d
 have L:=q.names;have J:=q.nlen;have I:=q.llen;have B:∀a∈H.accs,a.Ok:=fun a P=>(q.accs a P).1;by_cases he:zbi H o=0
 ·have l:=l (x.trans he);have G:=(zqF (H:=H) (o:=o) (x.trans he)).1;have i:(zbo H o).book.length≤1000000:=by rw[G];exact r
  unfold doA doH;rw[x,if_pos he,if_pos he]
  rcases M with k|k|k|k|k|k
  ·unfold zbi at he;unfold zfC;have j:zbo H o=zg6 H o.coins o.name:=by unfold zbo;rw[if_pos k]
   rw[if_pos k] at he ⊢;rw[j] at i ⊢;exact zeE 1 (by decide) (by decide) m o k d s v l (K':=K+KD) i fun p ⟨_,_,_,_,_,_,g⟩ f=>(zkM g L o _ he J).mono fun e W' ⟨C,T',D,E⟩=>⟨C,T',D.mono (Nat.le_add_right _ _),E⟩
  ·unfold zbi at he;unfold zfC;have j:zbo H o=zb4 H o.bidder o.coins:=by unfold zbo;rw[if_neg (by omega),if_pos k]
   rw[if_neg (by omega),if_pos k] at he ⊢;rw[j] at i ⊢;exact zeE 2 (by decide) (by decide) m o k d s v l (K':=K+KD) i fun p ⟨_,_,_,_,_,_,g⟩ f=>(zkK g B o _ he).mono fun e W' ⟨C,T',D,E⟩=>⟨C,T',D.mono (Nat.le_add_right _ _),E⟩
  ·unfold zbi at he;unfold zfC;have j:zbo H o=zfl H o.put:=by unfold zbo;rw[if_neg (by omega),if_neg (by omega),if_pos k]
   rw[if_neg (by omega),if_neg (by omega),if_pos k] at he ⊢;rw[j] at i ⊢;exact zeE 3 (by decide) (by decide) m o k d s v l (K':=K+KD) i fun p ⟨_,_,_,_,_,_,g⟩ f=>(zsH g I o _ he).mono fun e W' ⟨C,T',D,E⟩=>⟨C,T',D.mono (Nat.le_add_right _ _),E⟩
  ·unfold zbi at he;unfold zfC;have j:zbo H o=zgg H o:=by unfold zbo;rw[if_neg (by omega),if_neg (by omega),if_neg (by omega),if_pos k]
   rw[if_neg (by omega),if_neg (by omega),if_neg (by omega),if_pos k] at he ⊢;rw[j] at i ⊢;exact zeE 4 (by decide) (by decide) m o k d s v l (K':=K+KD) i fun p ⟨_,_,_,_,_,_,g⟩ f=>ztx g q f z y he
  ·unfold zbi at he;unfold zfC;have j:zbo H o=zeT H o:=by unfold zbo;rw[if_neg (by omega),if_neg (by omega),if_neg (by omega),if_neg (by omega),if_pos k]
   rw[if_neg (by omega),if_neg (by omega),if_neg (by omega),if_neg (by omega),if_pos k] at he ⊢;rw[j] at i ⊢;exact zeE 5 (by decide) (by decide) m o k d s v l (K':=K+KD) i fun p ⟨_,_,_,_,_,_,g⟩ f=>ztj g q y he
  ·unfold zbi at he;unfold zfC;have j:zbo H o=zd7 H o.tick:=by unfold zbo;rw[if_neg (by omega),if_neg (by omega),if_neg (by omega),if_neg (by omega),if_neg (by omega)]
   rw[if_neg (by omega),if_neg (by omega),if_neg (by omega),if_neg (by omega),if_neg (by omega)] at he ⊢;rw[j] at i ⊢;exact zeE 6 (by decide) (by decide) m o k d s v l (K':=K+KD) i fun p ⟨_,_,_,_,_,_,g⟩ f=>ztk g q y he
 ·unfold doA doH;rw[x,if_neg he,if_neg he];have F:(Calls Tryz.prog 69 #[.pointer (some ⟨h,0,none⟩),o.agg (.slice A o.offers.length c)] W fun e W'=>e=.returned (ziC 0 (zbi H o) 0)∧Below W W W')→Calls Tryz.prog 69 #[.pointer (some ⟨h,0,none⟩),o.agg (.slice A o.offers.length c)] W fun e W'=>e=.returned (⟨0,zbi H o,0⟩:AnsR).agg∧∃T',zaf W' T' h (K+KD) H∧Moves W T W' T':=fun U=>U.mono fun e W' h=>⟨h.1,t h.2⟩;refine F ?_;have Q:=he
  rcases M with k|k|k|k|k|k
  ·have j:zbi H o=zcE H o.coins o.name:=by unfold zbi;rw[if_pos k]
   rw[j] at he ⊢;exact zf3 1 (by decide) (by decide) m o k d n he fun p ⟨_,_,_,_,_,_,g⟩ f=>znT g o _ he
  ·have j:zbi H o=zck H o.bidder o.coins:=by unfold zbi;rw[if_neg (by omega),if_pos k]
   rw[j] at he ⊢;exact zf3 2 (by decide) (by decide) m o k d n he fun p ⟨_,_,_,_,_,_,g⟩ f=>znM g B o _ he
  ·have j:zbi H o=zev H o.put:=by unfold zbi;rw[if_neg (by omega),if_neg (by omega),if_pos k]
   rw[j] at he ⊢;exact zf3 3 (by decide) (by decide) m o k d n he fun p ⟨_,_,_,_,_,_,g⟩ f=>zrd g o _ he
  ·have j:zbi H o=ze8 H o:=by unfold zbi;rw[if_neg (by omega),if_neg (by omega),if_neg (by omega),if_pos k]
   rw[j] at he ⊢;exact zf3 4 (by decide) (by decide) m o k d n he fun p ⟨_,_,_,_,_,_,g⟩ f=>zsr g q f z y he
  ·have j:zbi H o=takeE H o:=by unfold zbi;rw[if_neg (by omega),if_neg (by omega),if_neg (by omega),if_neg (by omega),if_pos k]
   rw[j] at he ⊢;exact zf3 5 (by decide) (by decide) m o k d n he fun p ⟨_,_,_,_,_,_,g⟩ f=>zrZ g q y he
  ·have j:zbi H o=zeU H o.tick:=by unfold zbi;rw[if_neg (by omega),if_neg (by omega),if_neg (by omega),if_neg (by omega),if_neg (by omega)]
   rw[j] at he ⊢;obtain ⟨g,N⟩:=zr3 he;refine zf3 6 (by decide) (by decide) m o k d n he fun p ⟨_,_,_,_,_,_,O⟩ f=>?_;rw[N];exact zpk O o _ g
theorem znV:HInv zan:=by
 refine ⟨(fun a h=>by cases h),rfl,zL,zL,?_,(fun l h=>by cases h),lR⟩
 funext n
 show none=zaW [] n
 unfold zaW
 split<;>simp
theorem zkD {a:List LotS} {j:Nat} {l l':LotS} (c:a[j]? =some l):zaW (a.set j l')=upd (zaW a) j (if l'.closed then none else some l'.closes):=by
 funext n
 unfold upd zaW;have b:=(gS.1 c).1;by_cases h0:n<0
 ·rw[if_pos h0,if_pos h0,if_neg (by omega)]
 ·rw[if_neg h0,if_neg h0];by_cases e:n=(j:Int)
  ·subst e;rw[if_pos rfl]
   simp[b]
  ·rw[if_neg e,List.getElem?_set_ne (by omega)]
theorem zh6 {b:List LotS} {j:Nat} {l l':LotS} (a:b[j]? =some l):zcq (b.set j l')+(if l.closed then 1 else 0)=zcq b+(if l'.closed then 1 else 0):=by
 unfold zcq
 induction b generalizing j with
 |nil=>simp at a
 |cons x b ih=>
  cases j with
  |zero=>
   simp only[List.getElem?_cons_zero,Option.some.injEq] at a;subst a;simp only[List.set_cons_zero,List.countP_cons]
   omega
  |succ j=>
   simp only[List.getElem?_cons_succ] at a;have:=ih a;simp only[List.set_cons_succ,List.countP_cons]
   omega
theorem zlZ {N:Nat} {ls:List LotS} (h:∀l∈ls,LotInv N l) {j:Nat} {l':LotS} (hl:LotInv N l'):∀l∈ls.set j l',LotInv N l:=fun l hm=>by
 rcases List.mem_or_eq_of_mem_set hm with h1|h1
 ·exact h l h1
 ·rw[h1];exact hl
theorem HInv.turn {H:House} (c:HInv H) {j:Nat} {l l':LotS} {a:List Acc} (e:H.lots[j]? =some l) (d:zbb a) (b:a.length=H.accs.length) (h:LotInv H.accs.length l') (i:l'.closed=l.closed) {D:Int→Option Int} (g:D=upd H.due j (if l'.closed then none else some l'.closes)):
  HInv {H with accs:=a,lots:=H.lots.set j l',due:=D}:=by
 refine ⟨d,b.trans c.names,c.nlen,by show (H.lots.set j l').length≤4096;rw[List.length_set];exact c.llen,?_,?_,?_⟩
 ·show D=zaW (H.lots.set j l')
  rw[zkD e,←c.due,g]
 ·show ∀x∈H.lots.set j l',LotInv a.length x
  rw[b];exact zlZ c.lots h
 ·show H.sales.length≤64*zcq (H.lots.set j l')
  have f:=zh6 (l':=l') e;rw[i] at f;have k:=c.sales
  omega
theorem upd_same {D:Int→Option Int} {k:Int} {v:Option Int} (h:D k=v):upd D k v=D:=by
 funext n
 unfold upd
 split
 ·rename_i e;rw[e,h]
 ·rfl
theorem znW {H:House} (f:HInv H) {c:Int} {s:ByteArray} (d:zcE H c s=0):HInv (zg6 H c s):=by
 unfold zcE at d
 split at d
 ·cases d
 ·rename_i j
  have b:zah c:=zaK.1 (by simpa using j);unfold zes at d;have n:¬(H.names.length:Int)=4096:=by
   intro e;rw[if_pos e] at d
   split at d
   ·cases d
   ·split at d<;>cases d
  have m:=f.nlen;refine ⟨fun a i=>?_,by show (H.accs++[_]).length=(H.names++[s]).length;simp[f.names],by show (H.names++[s]).length≤4096;simp;omega,f.llen,f.due,fun l g=>(f.lots l g).more (by show _≤(H.accs++[_]).length;simp),f.sales⟩
  rcases List.mem_append.1 i with h|h
  ·exact f.accs a h
  ·rw[List.mem_singleton] at h;subst h;unfold zah at b;exact ⟨⟨b,⟨Int.le_refl _,by show (0:Int)≤_;omega⟩,List.Pairwise.nil,(fun p k=>by cases k),by show (0:Int)≤_;omega⟩,by show (0:Int)+0≤c;omega⟩
theorem znU {H:House} (d:HInv H) {b c:Int} (e:zck H b c=0):HInv (zb4 H b c):=by
 unfold zck at e;unfold zb4
 split at e
 ·cases e
 ·split
  ·rename_i a f
   rw[f] at e;have:=d.accs a (mG f);exact ⟨d.accs.set (zmy this.1 this.2 e),by show (H.accs.set _ _).length=_;rw[List.length_set];exact d.names,d.nlen,d.llen,d.due,fun l g=>(d.lots l g).more (by show _≤(H.accs.set _ _).length;rw[List.length_set];exact lR),d.sales⟩
  ·exact d
theorem zq8 {H:House} (b:HInv H) {p:LotR} (c:zev H p=0):HInv (zfl H p):=by
 unfold zev at c
 split at c
 ·cases c
 ·rename_i e
  split at c
  ·cases c
  ·split at c
   ·cases c
   ·have d:zbO p=true:=by simpa using e
    have i:=b.llen;refine ⟨b.accs,b.names,b.nlen,by show (H.lots++[zcX p]).length≤4096;simp;omega,?_,fun l g=>?_,?_⟩
    ·show upd H.due _ _=zaW (H.lots++[zcX p])
     rw[znG _ _ rfl,←b.due]
     rfl
    ·rcases List.mem_append.1 g with h|h
     ·exact b.lots l h
     ·rw[List.mem_singleton] at h;subst h;exact ⟨d,(fun s a=>by cases a),List.Pairwise.nil,(fun s a=>by cases a),(fun s a=>by cases a),Int.lt_of_lt_of_le (by show (-1:Int)<0;omega) (Int.natCast_nonneg _),(fun _ s a=>by cases a),fun _=>⟨zL,(fun s a=>by cases a)⟩⟩
    ·show H.sales.length≤64*zcq (H.lots++[zcX p])
     have f:=b.sales;unfold zcq at f ⊢;rw[List.countP_append]
     omega
theorem zkX {b:Int}:∀{ss:List Stand},zaS b ss=none→∀s∈ss,s.bidder≠b
 |[],_,s,h=>by cases h
 |x::ss,hp,s,h=>by
  unfold zaS at hp
  split at hp
  ·cases hp
  ·rename_i hx
   rw[Option.map_eq_none_iff] at hp
   rcases List.mem_cons.1 h with rfl|h
   ·exact hx
   ·exact zkX hp s h
theorem zbA {b:Int} {ss:List Stand}:(zbC b ss).Sublist ss:=by
 unfold zbC
 split
 ·exact List.eraseIdx_sublist _ _
 ·exact List.Sublist.refl _
theorem zpQ {b:Int} {ss:List Stand} (o:(ss.map (·.bidder)).Nodup):∀s∈zbC b ss,s.bidder≠b:=by
 unfold zbC
 cases hp:zaS b ss with
 |none=>exact zkX hp
 |some k=>
  intro s p e;obtain ⟨t,j,l,_⟩:=zei hp;obtain ⟨m,n,a⟩:=List.mem_eraseIdx_iff_getElem?.1 p;have d:=(gS.1 j).1;have f:=(gS.1 a).1;have c:=List.pairwise_iff_getElem.1 o;have g:(ss.map (·.bidder))[k]'(by simpa using d)=b:=by
   rw[List.getElem_map,(gS.1 j).2,l]
  have i:(ss.map (·.bidder))[m]'(by simpa using f)=b:=by
   rw[List.getElem_map,(gS.1 a).2,e]
  rcases Nat.lt_or_gt_of_ne n with h|h
  ·exact c m k (by simpa using f) (by simpa using d) h (i.trans g.symm)
  ·exact c k m (by simpa using d) (by simpa using f) h (g.trans i.symm)
theorem zin {b:Int} {ss:List Stand} (hn:(ss.map (·.bidder)).Nodup):((zbC b ss).map (·.bidder)).Nodup:=List.Pairwise.sublist (zbA.map _) hn
theorem zmh {b:Int} {ss:List Stand} (a:(ss.map (·.bidder)).Nodup) (s:Stand) (d:s.bidder=b):((zbC b ss++[s]).map (·.bidder)).Nodup:=by
 rw[List.map_append];refine List.pairwise_append.2 ⟨zin a,by simp,?_⟩;intro x f y c;obtain ⟨t,e,rfl⟩:=List.mem_map.1 f;simp only[List.map_cons,List.map_nil,List.mem_singleton] at c;rw[c,d];exact zpQ a t e
theorem zpP {b:Int} {ss:List Stand}:(zbC b ss).length+(if zaS b ss=none then 0 else 1)=ss.length:=by
 unfold zbC
 cases hp:zaS b ss with
 |none=>simp
 |some k=>
  obtain ⟨t,c,_⟩:=zei hp;have a:=(gS.1 c).1;simp only[List.length_eraseIdx,if_pos a]
  simp
  omega
theorem LotInv.stand {N:Nat} {l:LotS} (h:LotInv N l) {s:Stand} (j:0≤s.bidder∧s.bidder<N) (m:zah s.held) (d:s.offers.length≤64) (n:l.put.kind=4→zcj s.offers=true∧zcB l.put.count l.put.floor (zaD s.offers)=0)
  (g:l.put.kind=5→zas l.put.count s.offers=0∧¬(zaS s.bidder l.stands=none∧32≤l.stands.length)):LotInv N (zfq l s):=by
 refine ⟨h.ok,fun x a=>?_,zmh h.nodup s rfl,fun x a=>?_,fun x a=>?_,h.rise,fun c x a=>?_,fun c=>⟨?_,fun x a=>?_⟩⟩
 ·rcases List.mem_append.1 a with a|a
  ·exact h.bid x (zbA.subset a)
  ·rw[List.mem_singleton] at a;rw[a];exact j
 ·rcases List.mem_append.1 a with a|a
  ·exact h.held x (zbA.subset a)
  ·rw[List.mem_singleton] at a;rw[a];exact m
 ·rcases List.mem_append.1 a with a|a
  ·exact h.offs x (zbA.subset a)
  ·rw[List.mem_singleton] at a;rw[a];exact d
 ·rcases List.mem_append.1 a with a|a
  ·exact h.units c x (zbA.subset a)
  ·rw[List.mem_singleton] at a;rw[a];exact n c
 ·show (zbC s.bidder l.stands++[s]).length≤32
  have o:=(h.pkg c).1;have i:=(g c).2;have f:=zpP (b:=s.bidder) (ss:=l.stands);rw[List.length_append,List.length_singleton];by_cases e:zaS s.bidder l.stands=none
  ·rw[if_pos e] at f;have:¬32≤l.stands.length:=fun k=>i ⟨e,k⟩
   omega
  ·rw[if_neg e] at f
   omega
 ·rcases List.mem_append.1 a with a|a
  ·exact (h.pkg c).2 x (zbA.subset a)
  ·rw[List.mem_singleton] at a;rw[a];exact (g c).1
theorem LotInv.rest {N:Nat} {l:LotS} (h:LotInv N l) (i:Int):LotInv N (zgm l i):=by
 refine ⟨h.ok,fun x a=>h.bid x (zbA.subset a),zin h.nodup,fun x a=>h.held x (zbA.subset a),fun x a=>h.offs x (zbA.subset a),h.rise,fun c x a=>h.units c x (zbA.subset a),fun c=>⟨?_,fun x a=>(h.pkg c).2 x (zbA.subset a)⟩⟩;have d:=(h.pkg c).1;have e:=(zbA (b:=i) (ss:=l.stands)).length_le
 show (zbC i l.stands).length≤32
 omega
theorem LotInv.shut {N:Nat} {l l':LotS} (h:LotInv N l) (hp:l'.put=l.put) (hr:l'.rise=l.rise):LotInv N {l' with closed:=true,stands:=[]}:=
 ⟨by show zbO l'.put=true;rw[hp];exact h.ok,(fun s hs=>by cases hs),List.Pairwise.nil,(fun s hs=>by cases hs),(fun s hs=>by cases hs),by show l'.rise.leader<N;rw[hr];exact h.rise,(fun _ s hs=>by cases hs),fun _=>⟨zL,(fun s hs=>by cases hs)⟩⟩
structure HPre (H:House):Prop where
 accs:zbb H.accs
 names:H.accs.length=H.names.length
 nlen:H.names.length≤4096
 llen:H.lots.length≤4096
 lots:∀l∈H.lots,LotInv H.accs.length l
 sales:H.sales.length≤64*zcq H.lots
theorem HInv.pre {H:House} (h:HInv H):HPre H:=⟨h.accs,h.names,h.nlen,h.llen,h.lots,h.sales⟩
theorem HPre.inv {H:House} (h:HPre H) (hd:H.due=zaW H.lots):HInv H:=⟨h.accs,h.names,h.nlen,h.llen,hd,h.lots,h.sales⟩
theorem zgN {n:Nat} {acs:List Acc} {ss:List Stand} {sl:List SaleR}:(zdn (zcG n acs ss) sl).length=acs.length:=(zgC sl _).trans (zeM n ss acs)
theorem HPre.close {H:House} (a:HPre H) {j:Nat} {l l':LotS} (b:H.lots[j]? =some l) (f:l.closed=false) (g:l'.put=l.put) (h:l'.rise=l.rise) {ss:List SaleR} (k:ss.length≤64) (D:Int→Option Int):
  HPre (zcD {H with lots:=H.lots.set j l',due:=D} j l' ss):=by
 have e:=(gS.1 b).1;have c:=a.llen;refine ⟨?_,?_,a.nlen,?_,?_,?_⟩
 ·exact zfJ _ _ (zfL (by omega) _ _ a.accs)
 ·exact zgN.trans a.names
 ·show ((H.lots.set j l').set j _).length≤4096
  rw[List.length_set,List.length_set];exact c
 ·show ∀x∈(H.lots.set j l').set j _,LotInv (zdn (zcG j H.accs l'.stands) ss).length x
  rw[zgN,List.set_set];exact zlZ a.lots ((a.lots l (mG b)).shut g h)
 ·show (H.sales++ss.map _).length≤64*zcq ((H.lots.set j l').set j _)
  rw[List.set_set,List.length_append,List.length_map];have d:=zh6 (l':={l' with closed:=true,stands:=[]}) b;rw[f] at d;simp only[if_true,Bool.false_eq_true,if_false] at d;have i:=a.sales
  omega
end Ho
end Go.Proofs.YtckdpejdnejhfaaGreat

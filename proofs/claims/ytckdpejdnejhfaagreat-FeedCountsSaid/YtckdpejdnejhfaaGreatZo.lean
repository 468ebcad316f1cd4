/- Joined by program. -/
import Derived.Test.YtckdpejdnejhfaaGreatZl
set_option linter.all false
set_option maxRecDepth 100000
set_option maxHeartbeats 32000000
namespace Go.Proofs.YtckdpejdnejhfaaGreat
open Lib (hid)
namespace Ho
open Go.RowKit Vb Ac
theorem zfb:zbg Tryz.prog 79 151 7 56:=zba Tryz.underlying79 (by omega) (z:=.agg #[(),(),(),(),.int .u32 0,(),()]) (by kernel_rfl) rfl
theorem zaM.form {W:World} {T:Nat→Part} {R:Nat→Prop} {v:Value} {ss:List Stand} (h:zaM W T R v ss):∃A c,v=.slice A ss.length c:=by
 obtain ⟨_,h,_⟩:=h;exact h.form
theorem znm {W:World} {R:Nat→Prop} {A:Option Addr} {n c:Nat} {ss:List SaleR} (h:Sl W R (.slice A n c) n 7 (ss.flatMap SaleR.cells)) {k:Nat} {s:SaleR} (m:ss[k]? =some s) (o:k<n):
  ∃b off,A=some ⟨b,off,none⟩∧R b∧b<W.heap.size∧∀i u,s.cells[i]? =some u→W.cell? ⟨b,off+k*7+i,none⟩=some u:=by
 obtain ⟨_,q,r,p,_,_,f⟩:=h;injection p with d _ _
 subst d;obtain ⟨b,off,d,j,a,e⟩:=f (by omega);refine ⟨b,off,d,j,a,fun i u g=>?_⟩;rw[show off+k*7+i=off+(k*7+i) by omega];have l:i<7:=by
  have:=(gS.1 g).1
  simpa [SaleR.cells] using this
 exact e _ _ ((zme m l).trans g)
theorem zr0 {b m n:Nat} {a:Acc} {w:World} (h:AccAt w b m n a) (i:a.Ok) (v:Int):Calls Tryz.prog 149 #[.pointer (some ⟨b,0,none⟩),v] w fun e w'=>
  (∃er,e=.returned ↑(er:Int))∧AccAt w' b m n (takeA a v)∧Chg (·=b) w w':=by
 refine (zqh h i (v:=v)).mono ?_;rintro e w' (⟨c,rfl,d⟩|⟨c,rfl,f,g⟩)
 ·refine ⟨⟨_,rfl⟩,?_,Chg.of _ d⟩;rw[takeA,if_neg c];exact h.grow d
 ·refine ⟨⟨_,rfl⟩,?_,g⟩;rw[takeA,if_pos c];exact f
def zgz (H:House) (j:Nat) (l:LotS) (sales:List SaleR) (k:Nat):House:=
 {H with accs:=zdn (zcG j H.accs l.stands) (sales.take k),sales:=H.sales++(sales.take k).map (zhv H j)}
theorem zjo {W:World} {T:Nat→Part} {h pn pc K:Nat} {va vl vb vs:Value} {H:House} (hH:HouseAt W T h pn pc va vl vb vs K H) {j:Nat} {l:LotS} (hl:H.lots[j]? =some l) (hst:∀s∈l.stands,0≤s.bidder∧s.bidder<H.accs.length)
  {sales:List SaleR} {R:Nat→Prop} {A:Option Addr} {c:Nat} (hx:Sl W R (.slice A sales.length c) sales.length 7 (sales.flatMap SaleR.cells)) (hR:∀b,R b→T b=.no) (hsa:∀s∈sales,0≤s.bidder∧s.bidder<H.accs.length)
  (hok:zbb H.accs) (o:K+l.stands.length<maxLen) (I:H.sales.length+sales.length≤1000000) (hjm:j≤4096):
  Calls Tryz.prog 125 #[.pointer (some ⟨h,0,none⟩),j,.slice A sales.length c] W fun e W'=>e=.returned (.tuple #[])∧∃T',zaf W' T' h (K+l.stands.length) (zcD H j l sales)∧Moves W T W' T':=by
 obtain ⟨bl,y,hls⟩:=hH.lots;have hjl:=(gS.1 hl).1;have c2:=hH.cells.2.2.1;have hh:=hH.cells.2.2.2.2.2.2;obtain ⟨q,cap,hvl,_,hq,_⟩:=y.ex (by omega);have q0:W.cell? ⟨q,j,none⟩=some (.pointer (some ⟨bl j,0,none⟩)):=by
  have:=y.own;rw[hvl] at this;exact (this.cellAt j (by omega)).trans (zcL hjl)
 rw[hvl] at c2;obtain ⟨v,hTb,hblk,hsta⟩:=hls j l hl;obtain ⟨sA,sc,hsv⟩:=hsta.form;subst hsv;have l14:W.cell? ⟨bl j,14,none⟩=some (.slice sA l.stands.length sc):=hblk.cell 14;have lb:=hblk.lt;have e1:(0:Int)≤(j:Int):=by omega
 obtain ⟨nl,hnl⟩:=nm (H.lots.length);rw[←hnl] at c2 hjl;have e2:(j:Int)<(nl:Int):=by omega
 obtain ⟨n,hn⟩:=nm (l.stands.length);obtain ⟨m,hm⟩:=nm (sales.length);rw[←hn] at l14 o hsta ⊢;rw[←hm] at hx I ⊢;have HH:=hid hH;have HL:=hid hl;have HST:=hid hst;have HX:=hid hx;have HRN:=hid hR;have HSA:=hid hsa;have HOK:=hid hok;have HK:=hid o;have HSM:=hid I;have HJM:=hid hjm;have HROW:=hid y;have HLS:=hid hls;have HVL:=hid hvl;have HN:=hid hn;have HM:=hid hm;have HNL:=hid hnl;have HSTA:=hid hsta;have HTB:=hid hTb;have HBLK:=hid hblk;clear hH hl hst hx hR hsa hok o I hjm y hls hvl hn hm hnl hsta hTb hblk hjl;go_enter Tryz.func125,Tryz.ntmps125;go_wp2_with fail
 have e4:(0:Int)≤(n:Int):=by omega
 go_loopw [24] (fun i wr=>∃k:Nat,k≤n∧i=.int .i64 k∧zcd wr T va (K+k) (zcG j H.accs (l.stands.take k))∧Chg (fun b=>∃i,T b=.acc i) W wr) (fun i _=>n-(intOf i).toNat)
 case atStart=>exact ⟨0,zL,rfl,HH.out.accs,Chg.refl _ _⟩
 case round=>
  obtain ⟨k,hk,rfl,hac,L⟩:=hrel;by_cases hlt:k<n
  ·obtain ⟨s,hs⟩:∃s,l.stands[k]? =some s:=⟨_,gE (by rw[←HN.out];exact hlt)⟩;have I:=mG hs;obtain ⟨sq,scap,uA,uc,hsv,_,hsq,d0,d1,d2,_⟩:=zaM.at_ (HSTA.out.step (T':=T) L (fun x hx=>by rcases hx with e|e<;>rintro ⟨i,k⟩<;>rw[e] at k<;>cases k) fun _ _=>rfl) hs;injection hsv with hv1 hv2 hv3
   subst hv1 hv3;clear hv2;have e5:(0:Int)≤(k:Int):=by omega
   have e6:(k:Int)<(n:Int):=by omega
   have C:=HST.out s I;obtain ⟨i,hi⟩:∃i:Nat,s.bidder=i:=⟨s.bidder.toNat,by omega⟩;rw[hi] at d0 C;have hil:i<H.accs.length:=by omega
   obtain ⟨aa,hacs⟩:=nm (zcG j H.accs (l.stands.take k));have hlen:aa.length=H.accs.length:=by rw[hacs];exact zeM _ _ _
   have hnx:zcG j H.accs (l.stands.take (k+1))=zej j aa s:=by rw[za4 hs,zmO,←hacs]
   rw[←hacs] at hac;obtain ⟨a,ha⟩:∃a,aa[i]? =some a:=⟨_,gE (by omega)⟩;have hnx2:zej j aa s=aa.set i (a.set j 0):=by unfold zej;rw[hi];exact zcf _ ha
   obtain ⟨ba,ma,F,ac⟩:=hac;obtain ⟨g,gcap,S,_,hg,_⟩:=F.ex (by omega);have g0:wr.cell? ⟨g,i,none⟩=some (.pointer (some ⟨ba i,0,none⟩)):=by
    have:=F.own;rw[S] at this;exact (this.cellAt i (by omega)).trans (zcL (by omega))
   have c1:wr.cell? ⟨h,1,none⟩=some va:=cg L HH.out.cells.2.1 hh (fun ⟨i,e⟩=>by have:=HH.out.top;rw[this] at e;cases e);rw[S] at c1;obtain ⟨na,hna⟩:=nm (aa.length);rw[←hna] at c1;have e7:(0:Int)≤(i:Int):=by omega
   have e8:(i:Int)<(na:Int):=by omega
   have ad:h<wr.heap.size:=lL hh L.size;have HC:=hid L;have HNX:=hid (hnx.trans hnx2);have M:=hid (ac i a ha);have HAS:=hid ac;have HRO:=hid F;have HVA:=hid S;have HIL:=hid (show i<aa.length by omega);clear L hs I hi C hil hacs hlen hnx hnx2 ha F ac S hna;obtain ⟨sh,hsh⟩:=nm (s.held);rw[←hsh] at d2;obtain ⟨un,hun⟩:=nm (s.offers.length);rw[←hun] at d1;clear hsh hun;obtain ⟨p,D⟩:=nm (wr.alloc (.cells #[(i:Int),.slice uA un uc,sh] 188));have t:Below wr wr p:=by rw[D];exact qA _
   have N:=hid t;have x0:p.cell? ⟨wr,0,none⟩=some ↑(i:Int):=by
    have:Blk p wr 188 #[(i:Int),.slice uA un uc,sh]:=by rw[D];exact Blk.new _ _ _
    exact this.cell 0
   have xl:wr.heap.size<p.heap.size:=by rw[D];simp
   have g1:p.cell? ⟨g,i,none⟩=some (.pointer (some ⟨ba i,0,none⟩)):=qc t g0 hg;have gl1:g<p.heap.size:=lL hg t.size;have c11:p.cell? ⟨h,1,none⟩=some (.slice (some ⟨g,0,none⟩) na gcap):=qc t c1 ad;have hh1:h<p.heap.size:=lL ad t.size;clear t g0 c1 ad hg;go_wp2_with fail
   rw[←D];clear D;refine zac (Below p p) [10] (by kernel_rfl) (bR.drew) (fun d=>?_);refine Vb.tpD [1,2,3,4,7,8,10] 0 d ?_;refine Vb.tpD [2,3,4,7,8,10] 1 d ?_;refine Vb.tpD [3,4,7,8,10] 2 d ?_;refine Vb.tpD [4,7,8,10] 3 d ?_;have qq:=hid fun (w':World) (f:(Below p p) w')=>And.intro (qc f x0 xl)<|And.intro (qc f c11 hh1)<|qc f g1 gl1;refine Vb.tlD [7,8,10] 4 d qq ?_;refine Vb.tpD [6,7,8,10] 5 d ?_;refine Vb.tlD [7,8,10] 6 d qq ?_;refine Vb.tpD [8,10] 7 d ?_;refine Vb.tl 8 d qq ?_;refine Vb.tp 9 d ?_;refine Vb.stf 10 fun K o=>?_;go_simp;refine (zfm (w:=p.drew) (((M.out.1.grow N.out)).grow bR.drew) (by have:=HK.out;omega) (x:=(j:Int)) (by have:=HJM.out;omega)).mono ?_;rintro e V (⟨h1,_⟩|⟨_,rfl,r,hc3⟩)
   ·omega
   have HA3:=hid r;have X:=hid hc3;clear r hc3;refine o.out _ _ ?_;clear o K
   try simp only[Act.put,pb,pz,ps]
   refine zaa (by kernel_rfl) ?_ _;clear d x0 g1 c11 xl gl1 hh1;have hwr:IntKind.i64.wrap ((k:Int)+1)=(k:Int)+1:=iW _ (by have:=HK.out;unfold maxLen at this;omega);go_wp2_with fail
   go_roundw
   case rel=>
    refine ⟨k+1,by omega,by go_num,?_,?_⟩
    ·have hcB:Chg (fun b=>T b=.acc i) wr V:=((Chg.of _ N.out).grow bR.drew).step X.out fun b _ e=>e▸M.out.2.2;rw[HNX.out];exact ze5 HRO.out HAS.out HIL.out (by omega) HA3.out hcB
    ·exact ((HC.out.grow N.out).grow bR.drew).step X.out fun b _ e=>⟨i,e▸M.out.2.2⟩
   case measure=>simp[intOf];omega
  ·obtain rfl:k=n:=by omega
   have O:l.stands.take k=l.stands:=List.take_of_length_le (by have:=HN.out;omega);rw[O] at hac;have h0:HouseAt wr T h pn pc va vl vb vs (K+k) (zgz H j l sales 0):=by
    have:=zeF HH.out hac L
    simpa [zgz,zdn] using this
   have HH0:=hid h0;have HC0:=hid (L.mono (Y:=fun b=>T b=.sales∨T b=.hs∨∃i,T b=.acc i) fun b _ e=>.inr (.inr e));clear O h0 hac L hk hlt;go_wp2_with fail
   have e9:(0:Int)≤(m:Int):=by omega
   go_loopw [42] (fun i wz=>∃q:Nat,q≤m∧i=.int .i64 q∧∃Tk vsk,HouseAt wz Tk h pn pc va vl vb vsk (K+k) (zgz H j l sales q)∧Chg (fun b=>T b=.sales∨T b=.hs∨∃i,T b=.acc i) W wz∧∀b,b<W.heap.size→Tk b=T b) (fun i _=>m-(intOf i).toNat)
   case atStart=>exact ⟨0,zL,rfl,T,vs,HH0.out,HC0.out,fun _ _=>rfl⟩
   case round=>
    obtain ⟨x,hx,rfl,Tk,vsk,hA,L,hT⟩:=hrel;by_cases hlt:x<m
    ·obtain ⟨s,hs⟩:∃s,sales[x]? =some s:=⟨_,gE (by rw[←HM.out];exact hlt)⟩;have I:=mG hs;have hno:∀b,b<W.heap.size→R b→¬(T b=.sales∨T b=.hs∨∃i,T b=.acc i):=by
      rintro b _ hr (k|k|⟨i,k⟩)<;>rw[HRN.out b hr] at k<;>cases k
     obtain ⟨xb,ae,rfl,_,hxb,Q⟩:=znm (HX.out.keep L.size fun b C hr=>L.block b C (hno b C hr)) hs hlt;have C:=HSA.out s I;obtain ⟨i,hi⟩:∃i:Nat,s.bidder=i:=⟨s.bidder.toNat,by omega⟩;have d0:wr.cell? ⟨xb,ae+x*7,none⟩=some ↑s.number:=Q 0 _ rfl;have d1:wr.cell? ⟨xb,ae+x*7+1,none⟩=some ↑s.lot:=Q 1 _ rfl;have d2:wr.cell? ⟨xb,ae+x*7+2,none⟩=some ↑s.bidder:=Q 2 _ rfl;have d3:wr.cell? ⟨xb,ae+x*7+3,none⟩=some ↑s.coins:=Q 3 _ rfl;have d4:wr.cell? ⟨xb,ae+x*7+4,none⟩=some (.int .u32 s.goods):=Q 4 _ rfl;have d5:wr.cell? ⟨xb,ae+x*7+5,none⟩=some ↑s.count:=Q 5 _ rfl;have d6:wr.cell? ⟨xb,ae+x*7+6,none⟩=some ↑s.tick:=Q 6 _ rfl;rw[hi] at C d2;obtain ⟨z,ab⟩:=nm (zgz H j l sales x);have hMn:zgz H j l sales (x+1)={z with accs:=zfk z.accs s,sales:=z.sales++[zhv H j s]}:=by
      rw[ab];unfold zgz;rw[za4 hs,zmM,List.map_append,List.append_assoc];rfl
     have hlen:z.accs.length=H.accs.length:=by rw[ab];exact (zgC _ _).trans (zeM _ _ _)
     have hokM:zbb z.accs:=by rw[ab];exact zfJ _ _ (zfL (by have:=HJM.out;omega) _ _ HOK.out)
     have hbk:z.book=H.book∧z.now=H.now:=by rw[ab];exact ⟨rfl,rfl⟩
     have hsl:z.sales.length=H.sales.length+x:=by rw[ab];simp[zgz];have:=HM.out;omega
     rw[←ab] at hA;obtain ⟨a,ha⟩:∃a,z.accs[i]? =some a:=⟨_,gE (by omega)⟩;have hpa:zfk z.accs s=z.accs.set i (takeA a s.coins):=by unfold zfk;rw[hi];exact zcf _ ha
     obtain ⟨ba,ma,F,ac⟩:=hA.accs;obtain ⟨g,gcap,S,_,hg,_⟩:=F.ex (by omega);have g0:wr.cell? ⟨g,i,none⟩=some (.pointer (some ⟨ba i,0,none⟩)):=by
      have:=F.own;rw[S] at this;exact (this.cellAt i (by omega)).trans (zcL (by omega))
     have c1:=hA.cells.2.1;rw[S] at c1;obtain ⟨na,hna⟩:=nm (z.accs.length);rw[←hna] at c1;have e7:(0:Int)≤(i:Int):=by omega
     have e8:(i:Int)<(na:Int):=by omega
     have e5:(0:Int)≤(x:Int):=by omega
     have e6:(x:Int)<(m:Int):=by omega
     have ad:=hA.cells.2.2.2.2.2.2;have HA:=hid hA;have HC:=hid L;have HT:=hid hT;have HMN:=hid (hMn.trans (by rw[hpa]));have M:=hid (ac i a ha);have HAO:=hid (hokM a (mG ha)).1;have HAS:=hid ac;have HRO:=hid F;have HIL:=hid (show i<z.accs.length by omega);have HBK:=hid hbk;have HSL:=hid hsl;have HSB:=hid hi;obtain ⟨tn,hnu⟩:=nm (s.number);obtain ⟨tl,hlo⟩:=nm (s.lot);obtain ⟨tc,hco⟩:=nm (s.coins);obtain ⟨tg,hgo⟩:=nm (s.goods);obtain ⟨tt,hct⟩:=nm (s.count);obtain ⟨tk,htk⟩:=nm (s.tick);rw[←hnu] at d0;rw[←hlo] at d1;rw[←hco] at d3;rw[←hgo] at d4;rw[←hct] at d5;rw[←htk] at d6;have HCO:=hid hco;have HGO:=hid hgo;have HCT:=hid hct;clear hA L hT hs I hno Q C hi ab hMn hlen hokM hbk hsl ha hpa F ac S hna hnu hlo hco hgo hct htk;obtain ⟨p,D⟩:=nm (wr.alloc (.cells #[tn,tl,(i:Int),tc,.int .u32 tg,tt,tk] 151));have t:Below wr wr p:=by rw[D];exact qA _
     have N:=hid t;have HX1:=hid (show Blk p wr 151 #[tn,tl,(i:Int),tc,.int .u32 tg,tt,tk] by rw[D];exact Blk.new _ _ _);have x2:p.cell? ⟨wr,2,none⟩=some ↑(i:Int):=HX1.out.cell 2;have x3:p.cell? ⟨wr,3,none⟩=some ↑tc:=HX1.out.cell 3;have xl:=HX1.out.lt;have g1:p.cell? ⟨g,i,none⟩=some (.pointer (some ⟨ba i,0,none⟩)):=qc t g0 hg;have gl1:g<p.heap.size:=lL hg t.size;have c11:p.cell? ⟨h,1,none⟩=some (.slice (some ⟨g,0,none⟩) na gcap):=qc t c1 ad;have hh1:h<p.heap.size:=lL ad t.size;clear t g0 c1 ad hg;go_wp2_with fail
     rw[←D];clear D;refine zac (Below p p) [11] (by kernel_rfl) (bR.drew) (fun d=>?_);refine Vb.tpD [1,2,3,4,7,8,11] 0 d ?_;refine Vb.tpD [2,3,4,7,8,11] 1 d ?_;refine Vb.tpD [3,4,7,8,11] 2 d ?_;refine Vb.tpD [4,7,8,11] 3 d ?_;have qq:=hid fun (w':World) (f:(Below p p) w')=>And.intro (qc f x2 xl)<|And.intro (qc f x3 xl)<|And.intro (qc f c11 hh1)<|qc f g1 gl1;refine Vb.tlD [7,8,11] 4 d qq ?_;refine Vb.tpD [6,7,8,11] 5 d ?_;refine Vb.tlD [7,8,11] 6 d qq ?_;refine Vb.tpD [8,11] 7 d ?_;refine Vb.tl 8 d qq ?_;refine Vb.tpD [10,11] 9 d ?_;refine Vb.tl 10 d qq ?_;refine Vb.stf 11 fun K o=>?_;go_simp;refine (zr0 (w:=p.drew) (((M.out.1.grow N.out)).grow bR.drew) HAO.out tc).mono ?_;rintro e V ⟨⟨er,rfl⟩,r,hc3⟩;have HA3:=hid r;have X:=hid (show Chg (fun b=>b=ba i) p V from ((Chg.refl _ p).grow bR.drew).trans hc3);clear r hc3;refine o.out _ _ ?_;clear o K
     try simp only[Act.put,pb,pz,ps]
     refine zaa (by kernel_rfl) ?_ _;clear d x2 x3 g1 c11 xl gl1 hh1;have hcB:Chg (fun b=>Tk b=.acc i) wr V:=(Chg.of _ N.out).step X.out fun b _ e=>e▸M.out.2.1;have r:=zeF HA.out (ze5 HRO.out HAS.out HIL.out lR HA3.out hcB) (hcB.mono fun b _ e=>⟨i,e⟩);have E:=HX1.out.chg X.out (fun e=>by have:=M.out.1.ltb;omega);obtain ⟨vo,hbrow,_⟩:=r.book;obtain ⟨bA,bc,hvb⟩:=hbrow.form;have c4:=r.cells.2.2.2.2.1;rw[hvb,show ({z with accs:=z.accs.set i (takeA a tc)}:House).book.length=H.book.length from by rw[←HBK.out.1]] at c4;obtain ⟨nb,hnb⟩:=nm (H.book.length);rw[←hnb] at c4;have c3:=r.cells.2.2.2.1;have hh3:=r.cells.2.2.2.2.2.2;have HCAL:=hid (show zar V (fun b=>Tk b=.cal) pc H.now _ from by have:=r.cal;rwa [show ({z with accs:=z.accs.set i (takeA a tc)}:House).now=H.now from HBK.out.2] at this);have HH3:=hid r;have HX3:=hid E;have HCB:=hid hcB;have HNB:=hid hnb;have y0:V.cell? ⟨wr,0,none⟩=some ↑tn:=E.cell 0;have y1:V.cell? ⟨wr,1,none⟩=some ↑tl:=E.cell 1;have y6:V.cell? ⟨wr,6,none⟩=some ↑tk:=E.cell 6;have f0:=E.frozen 0;have f1:=E.frozen 1;have f6:=E.frozen 6;have xl:=E.lt;obtain ⟨J,hnow⟩:=nm (H.now);rw[←hnow] at HCAL;have HNOW:=hid hnow;clear hcB r E hbrow hvb hnb hnow;go_wp2_with fail
     refine zac (Below V V) [6,14,15,16,17,18] (by kernel_rfl) (bR.drew) (fun d=>?_);refine Vb.tpW 6 ?_;refine Vb.tpD [1,2,3,4,5,13,14,15,16,17,18] 0 d ?_;refine Vb.tpD [2,3,4,5,13,14,15,16,17,18] 1 d ?_;refine Vb.tpD [3,4,5,13,14,15,16,17,18] 2 d ?_;refine Vb.tpD [4,5,13,14,15,16,17,18] 3 d ?_;have qq:=hid fun (w':World) (f:(Below V V) w')=>And.intro (qc f c3 hh3)<|qc f c4 hh3;refine Vb.tlD [5,13,14,15,16,17,18] 4 d qq ?_;refine Vb.tpD [13,14,15,16,17,18] 5 d ?_;refine Vb.tpD [8,9,10,11,12,14,15,16,17,18] 7 d ?_;refine Vb.tpD [9,10,11,12,14,15,16,17,18] 8 d ?_;refine Vb.tpD [10,11,12,14,15,16,17,18] 9 d ?_;refine Vb.tpD [11,12,14,15,16,17,18] 10 d ?_;refine Vb.tlD [12,14,15,16,17,18] 11 d qq ?_;refine Vb.tpD [14,15,16,17,18] 13 d ?_;refine Vb.stp 12 fun K o=>?_;go_simp;refine (zc3 (W:=V.drew) (HCAL.out.grow bR.drew)).mono ?_;rintro e W7 ⟨rfl,rfl⟩;refine o.out _ _ ?_ (fun d=>?_)
     ·exact d
     clear o K
     try simp only[Act.put,pb,pz,ps]
     refine Vb.stf 14 fun K o=>?_;go_simp;refine o.out _ _ ?_;clear o K
     try simp only[Act.put,pb,pz,ps]
     refine Vb.tpW 15 ?_;refine Vb.stf 16 fun K o=>?_;go_simp;refine o.out _ _ ?_;clear o K
     try simp only[Act.put,pb,pz,ps]
     refine Vb.tpW 17 ?_;refine Vb.stf 18 fun K o=>?_;go_simp;refine o.out _ _ ?_;clear o K
     try simp only[Act.put,pb,pz,ps]
     refine zaa (by kernel_rfl) ?_ _;clear d y0 y1 y6 f0 f1 f6 c3 c4 hh3;obtain ⟨W4,hW4⟩:=nm ((((V.setCell ⟨wr,0,none⟩ ↑nb).setCell ⟨wr,1,none⟩ ↑j).setCell ⟨wr,6,none⟩ ↑J).drew);rw[←hW4];have hc34:Chg (·=wr.heap.size) V W4:=by rw[hW4];exact (((Chg.set V ⟨wr,0,none⟩ _).trans (Chg.set _ ⟨wr,1,none⟩ _)).trans (Chg.set _ ⟨wr,6,none⟩ _)).grow bR.drew
     have hX4:Blk W4 wr 151 #[nb,j,(i:Int),tc,.int .u32 tg,tt,J]:=by rw[hW4];exact Blk.grow (((HX3.out.set_ 0 _).set_ 1 _).set_ 6 _) bR.drew
     have hnw:Tk wr.heap.size=.no:=HA.out.out _ lR;have B:=HH3.out.keep hc34 (fun b C e=>C (e▸hnw));have c5:=B.cells.2.2.2.2.2.1;have lh:=B.cells.2.2.2.2.2.2;have y:=B.sales;obtain ⟨As,cs,hvs⟩:=y.form;subst hvs;obtain ⟨ns,hns⟩:=nm (z.sales.length);rw[show ({z with accs:=z.accs.set i (takeA a tc)}:House).sales.length=z.sales.length from rfl,←hns] at c5;have G:RowAt W4 (fun b=>Tk b=.sales) 151 7 (.slice As ns cs) ns (z.sales.flatMap SaleR.cells):=by rw[hns];exact y
     have or1:¬(Value.slice As ns cs).ownBlock=some h:=fun e=>by have h3:=G.blk h e;rw[B.top] at h3;cases h3
     have ox1:¬(Value.slice As ns cs).ownBlock=some wr.heap.size:=fun e=>by have h3:=G.blk _ e;rw[hnw] at h3;cases h3
     have HOR:=hid or1;have HX4:=hid hX4;have HH4:=hid B;have HRW:=hid G;have HNS:=hid hns;have HC34:=hid hc34;have HNW:=hid hnw;clear hW4 hc34 hX4 B y G hns hnw;go_wp2_with fail
     obtain ⟨arr,harr⟩:=nm (#[nb,j,(i:Int),tc,.int .u32 tg,tt,J]:Array Value);have HARR:=hid harr;clear harr;refine zac (Chg (fun b=>(Value.slice As ns cs).ownBlock=some b) W4) [12] (by kernel_rfl) ((Chg.refl _ W4).grow bR.drew) (fun d=>?_);refine Vb.tp 0 d ?_;refine Vb.tp 1 d ?_;refine Vb.tp 2 d ?_;refine Vb.tp 3 d ?_;refine Vb.tp 4 d ?_;have qq:=hid fun (w':World) (f:(Chg (fun b=>(Value.slice As ns cs).ownBlock=some b) W4) w')=>cg f c5 lh or1;refine Vb.tl 5 d qq ?_;refine Vb.tx 6 (v:=?_) d ?_ ?_
     rotate_left
     ·intro w' f;refine Eq.trans (zbq 151 (.tmp 10) (by rfl) wr.heap.size (by rfl) 151 #[nb,j,(i:Int),tc,.int .u32 tg,tt,J] (0,0) _ (HX4.out.chg f ox1) Tryz.underlying151 rfl (by kernel_rfl)) ?_;with_reducible rfl
     refine Vb.stp 7 fun K o=>?_;go_simp;refine o.out _ _ ?_ (fun d=>?_)
     ·exact d.grow (qA _)
     clear o K
     try simp only[Act.put,pb,pz,ps]
     refine Vb.stp 8 fun K o=>?_;refine zbR (W4.drew.alloc (.cells #[nb,j,(i:Int),tc,.int .u32 tg,tt,J] 151)) (.tmp 79) (.tmp 81) rfl zfb rfl (.slice As ns cs) ns (z.sales.flatMap SaleR.cells) rfl ((HRW.out.grow bR.drew).grow (qA _)) (.slice (some ⟨W4,0,none⟩) 1 1) 1 [.int .i64 nb,.int .i64 j,.int .i64 i,.int .i64 tc,.int .u32 tg,.int .i64 tt,.int .i64 J] rfl (Sl.lit1 (Blk.new W4.drew 151 #[nb,j,(i:Int),tc,.int .u32 tg,tt,J]) rfl) (by simp[Value.oneCell']) (by have:=HNS.out;have:=HSL.out;have:=HSM.out;omega) (by have:=HNS.out;have:=HSL.out;have:=HSM.out;unfold maxLen;omega) ?_;intro A7 c7 Z hrZ hcZ;refine o.out _ _ ?_ (fun d=>?_)
     ·exact d.trans hcZ
     clear o K
     try simp only[Act.put,pb,pz,ps]
     have HHZ:=hid (((HH4.out.blk.grow bR.drew).alloc (.cells #[nb,j,(i:Int),tc,.int .u32 tg,tt,J] 151)).chg hcZ HOR.out);have HZR:=hid hrZ;have HZC:=hid hcZ;obtain ⟨U,hU⟩:=nm (Z.setCell ⟨h,5,none⟩ (.slice A7 (ns+1) c7));have HU:=hid hU;clear hrZ hcZ hU;refine Vb.tpD [10,11,12] 9 d ?_;refine Vb.tpD [11,12] 10 d ?_;refine Vb.tp 11 d ?_;refine Vb.stf 12 fun K o=>?_;have f5:=HHZ.out.frozen 5;have d5:=HHZ.out.cell 5;go_simp;rw[←HU.out];refine o.out _ _ ?_;clear o K
     try simp only[Act.put,pb,pz,ps]
     refine zaa (by kernel_rfl) ?_ _;clear d c5 lh or1 ox1;have hwr:IntKind.i64.wrap ((x:Int)+1)=(x:Int)+1:=iW _ (by have:=HSM.out;omega);have hcU1:Chg (·=h) Z U:=by rw[HU.out];exact Chg.set Z ⟨h,5,none⟩ _
     have HBU:=hid (show Blk U h 83 #[.pointer (some ⟨pn,0,none⟩),va,vl,.pointer (some ⟨pc,0,none⟩),vb,.slice A7 (ns+1) c7] by rw[HU.out];exact HHZ.out.set_ 5 _);have HCU:=hid hcU1;clear hcU1;go_wp2_with fail
     go_roundw
     case rel=>
      have B:=HH4.out;have hs4:=B.blk.lt;have hcU:Chg (fun b=>Tk b=.sales∨Tk b=.hs) W4 U:=((((Chg.refl _ W4).grow bR.drew).grow (qA _)).step HZC.out fun b _ e=>.inl (HRW.out.blk b e)).step HCU.out fun b _ e=>.inr (e▸B.top);have hrowU:RowAt U (fun b=>Tk b=.sales∨W4.heap.size≤b) 151 7 (.slice A7 (ns+1) c7) (z.sales.length+1) (z.sales.flatMap SaleR.cells++(zhv H j s).cells):=by
       have hce:(zhv H j s).cells=[.int .i64 nb,.int .i64 j,.int .i64 i,.int .i64 tc,.int .u32 tg,.int .i64 tt,.int .i64 J]:=by
        rw[HNB.out,HCO.out,HGO.out,HCT.out,HNOW.out,←HSB.out];rfl
       rw[hce,←HNS.out];refine (HZR.out.chgB HCU.out fun b C e=>?_).mono fun b _ k=>k.elim .inl fun k=>.inr (by rw[World.size_alloc] at k;simp at k;omega)
       rcases HZR.out.blk b C with k|k
       ·rw[e,B.top] at k;cases k
       ·rw[World.size_alloc] at k;simp at k;omega
      obtain ⟨T5,hA5,hM5⟩:=zpW B hrowU hcU HBU.out;refine ⟨x+1,by omega,by go_num,T5,.slice A7 (ns+1) c7,?_,?_,fun b C=>(hM5.tag b (by have:=HC.out.size;have:=N.out.size;have:=X.out.size;have:=HC34.out.size;omega)).trans (HT.out b C)⟩
      ·rw[HMN.out,←HCO.out];exact hA5
      ·refine (((HC.out.grow N.out).step X.out fun b C e=>?_).step HC34.out fun b C e=>?_).step hcU fun b C e=>?_
       ·rw[←HT.out b C,e];exact .inr (.inr ⟨i,M.out.2.1⟩)
       ·have:=HC.out.size;omega
       ·rw[←HT.out b C];exact e.elim .inl fun e=>.inr (.inl e)
     case measure=>simp[intOf];omega
    ·obtain rfl:x=m:=by omega
     have O:sales.take x=sales:=List.take_of_length_le (by have:=HM.out;omega);have hTn:∀b P,T b=P→(∀i,P≠ .acc i)→P≠ .sales→P≠ .hs→¬(T b=.sales∨T b=.hs∨∃i,T b=.acc i):=by
      rintro b P e h1 h2 h3 (k|k|⟨i,k⟩)<;>rw[e] at k
      ·exact h2 k
      ·exact h3 k
      ·exact h1 i k
     have hrz:=RowAt.step HROW.out L (fun b e=>hTn b _ e (by simp) (by simp) (by simp)) hT;have hlz:∀n x,H.lots[n]? =some x→za2 wr Tk n (bl n) x:=fun n x hn=>(HLS.out n x hn).step L (fun b e=>by rcases e with e|e<;>exact hTn b _ e (by simp) (by simp) (by simp)) hT;have hbz:=HBLK.out.chg L (hTn _ _ HTB.out (by simp) (by simp) (by simp));have f13:=hbz.frozen 13;have f14:=hbz.frozen 14;have l13:=hbz.cell 13;have l14:=hbz.cell 14;have HAZ:=hid hA;have HCZ:=hid L;have HTZ:=hid hT;have HRZ:=hid hrz;have HLZ:=hid hlz;have HBZ:=hid hbz;have HALL:=hid O;clear hA L hT hrz hlz hbz O hTn hx hlt;go_wp2_with fail
     obtain ⟨U,hU⟩:=nm ((wr.setCell ⟨bl j,13,none⟩ ↑true).setCell ⟨bl j,14,none⟩ (.slice none 0 0));rw[←hU]
     go_end0
     have htag:Tk (bl j)=.lot j:=(HTZ.out _ lb).trans HTB.out;have hcU:Chg (fun b=>Tk b=.lot j) wr U:=by rw[hU];exact ((Chg.set wr ⟨bl j,13,none⟩ _).trans (Chg.set _ ⟨bl j,14,none⟩ _)).mono fun b _ e=>e▸htag
     have hbU:Blk U (bl j) 145 ((⟨l.put,l.closes,true,[],l.rise,l.price⟩:LotS).cells (.slice none 0 0)).toArray:=by rw[hU];exact (HBZ.out.set_ 13 _).set_ 14 _
     have hfin:=zee HAZ.out (bl:=bl) HRZ.out HLZ.out (j:=j) (gS.1 HL.out).1 (l:=⟨l.put,l.closes,true,[],l.rise,l.price⟩) ⟨.slice none 0 0,htag,hbU,⟨fun _=>.slice none 0 0,RowAt.nil,fun k l hk=>by simp at hk⟩⟩ hcU (fun _ _=>rfl) (fun b C=>HAZ.out.out b (lT hcU.size C));refine ⟨rfl,Tk,⟨pn,pc,va,vl,vb,vsk,?_⟩,(HCZ.out.mono fun b _ e=>?_).step hcU fun b C e=>?_,HTZ.out⟩
     ·have hq:zcD H j l sales={zgz H j l sales x with lots:=H.lots.set j ⟨l.put,l.closes,true,[],l.rise,l.price⟩}:=by
       unfold zcD zgz;rw[HALL.out]
      rw[hq];exact hfin
     ·rcases e with e|e|⟨i,e⟩<;>exact ⟨by rw[e];simp,by rw[e];simp⟩
     ·rw[HTZ.out b C] at e;exact ⟨by rw[e];simp,by rw[e];simp⟩
end Ho
end Go.Proofs.YtckdpejdnejhfaaGreat

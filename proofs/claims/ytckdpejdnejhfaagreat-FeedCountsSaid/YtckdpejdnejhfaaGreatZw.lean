/- Joined by program. -/
import Derived.Test.YtckdpejdnejhfaaGreatZv
import Derived.Test.YtckdpejdnejhfaaGreatZt
import Derived.Test.YtckdpejdnejhfaaGreatZu
set_option linter.all false
set_option maxRecDepth 100000
set_option maxHeartbeats 32000000
namespace Go.Proofs.YtckdpejdnejhfaaGreat
open Lib (hid)
namespace Ho
open Go.RowKit Vb Ac
structure RiseGood (l:LotR) (r:RiseR) (b:RiseB) (q:RiseR):Prop where
 lead:q.leader=b.bidder∨(q.leader=r.leader∧0≤r.leader)
 nn:0≤q.leader
 limit:zah q.limit
 closes:zah q.closes
 now:b.now<q.closes
theorem zgX {l:LotR} {r:RiseR} {b:RiseB} (h:zb2 l r b=0):RiseGood l r b (zgh l r b):=by
 have d:=zjb h;have m:=zhq (zgE d.right);have f:=d.limit;have q:=d.now;have j:=d.closes;have k:=d.who
 have s:=m.extend;have p:=m.last;have t:=m.end_;have n:=m.closes
 have o:zah r.closes∧r.closes≤l.last:=by
  by_cases e:r.leader<0
  ·rw[zio d.right e];exact ⟨n,t⟩
  ·have:=zfn d.right (by omega);unfold zah at p n ⊢
   omega
 have i:0≤r.leader→zah r.limit:=fun e=>(zfn d.right e).1;obtain ⟨g,v⟩:=o;unfold zah at f q s p n g;have c:0≤min (b.now+l.extend) l.last∧min (b.now+l.extend) l.last≤1099511627776:=by omega
 unfold zgh;by_cases g1:r.leader<0
 ·simp only[if_pos g1];by_cases g2:r.closes-b.now<l.extend
  ·rw[if_pos g2];exact ⟨.inl rfl,k,f,c,by show b.now<min _ _;omega⟩
  ·rw[if_neg g2];exact ⟨.inl rfl,k,f,g,j⟩
 ·have a:0≤r.leader:=by omega
  simp only[if_neg g1];by_cases g3:r.leader=b.bidder
  ·simp only[if_pos g3];by_cases g2:r.closes-b.now<l.extend
   ·rw[if_pos g2];exact ⟨.inr ⟨rfl,a⟩,a,f,c,by show b.now<min _ _;omega⟩
   ·rw[if_neg g2];exact ⟨.inr ⟨rfl,a⟩,a,f,g,j⟩
  ·simp only[if_neg g3];by_cases g4:r.limit<b.limit
   ·simp only[if_pos g4];by_cases g2:r.closes-b.now<l.extend
    ·rw[if_pos g2];exact ⟨.inl rfl,k,f,c,by show b.now<min _ _;omega⟩
    ·rw[if_neg g2];exact ⟨.inl rfl,k,f,g,j⟩
   ·simp only[if_neg g4];by_cases g2:r.closes-b.now<l.extend
    ·rw[if_pos g2];exact ⟨.inr ⟨rfl,a⟩,a,i a,c,by show b.now<min _ _;omega⟩
    ·rw[if_neg g2];exact ⟨.inr ⟨rfl,a⟩,a,i a,g,j⟩
theorem HouseAt.more {W:World} {T:Nat→Part} {h pn pc K K':Nat} {va vl vb vs:Value} {H:House} (h1:HouseAt W T h pn pc va vl vb vs K H) (hK:K≤K'):HouseAt W T h pn pc va vl vb vs K' H:=⟨h1.top,h1.blk,h1.names,h1.accs.mono hK,h1.lots,h1.cal,h1.book,h1.sales,h1.out⟩
theorem znX {b:List Acc} {i:Nat} {a:Acc} (h:b[i]? =some a) (x:Int) (c:x.toNat=i) (j:Nat) (v:Int):zcV b x j v=b.set i (holdA a j v):=by
 unfold zcV;rw[c];exact zcf _ h
theorem zpO {b:List Acc} {i:Nat} {a:Acc} (h:b[i]? =some a) (x:Int) (c:x.toNat=i) (j:Nat):zjL b x j=b.set i (a.set j 0):=by
 unfold zjL;rw[c];exact zcf _ h
theorem zet (a:List Acc) (j:Nat) (l:LotS) (r:RiseR):(zaX a j l r).length=a.length:=by
 unfold zaX zjL
 split<;>simp
theorem zg4 {b:List Acc} (h:zbb b) {j:Nat} (d:j≤4096) (l:LotS) (r:RiseR):zbb (zaX b j l r):=by
 unfold zaX
 split
 ·unfold zjL
  cases hs:b[l.rise.leader.toNat]? with
  |none=>rw[List.modify_eq_self (by rw[List.getElem?_eq_none_iff] at hs;exact hs)];exact h
  |some a=>
   rw[zcf _ hs];have c:=h a (mG hs);exact h.set (zew c.1 c.2 (by omega) (by omega))
 ·exact h
theorem zpg {b:List Acc} (h:zbb b) {j:Nat} (c:j≤4096) (x v:Int):zbb (zcV b x j v):=by
 unfold zcV
 cases hs:b[x.toNat]? with
 |none=>rw[List.modify_eq_self (by rw[List.getElem?_eq_none_iff] at hs;exact hs)];exact h
 |some a=>
  rw[zcf _ hs];exact h.set (zq9 (h a (mG hs)) (by omega) v)
theorem zrH {W:World} {T:Nat→Part} {h pn pc K:Nat} {va vl vb vs:Value} {H:House} {bl q n:Nat→Nat} {i j:Nat} {a:Acc} {l:LotS} (d:AtIt W T h pn pc va vl vb vs K H bl q n i j a l) {U V:World} (t:Below W W U) {c:Nat} {m:Acc} (f:H.accs[c]? =some m) (s:AccAt V (q c) (n c) (K+1) (m.set j 0)) (v:Chg (·=n c) U V) {Q:RiseR} (p:l.rise.leader=c) (o:0≤l.rise.leader∧l.rise.leader≠Q.leader):
  HouseAt V T h pn pc va vl vb vs (K+1) {H with accs:=zaX H.accs j l Q}∧Chg (fun b=>∃i,T b=.acc i) W V:=by
 have k:=(Chg.of (·=n c) t).trans v;have g:=ziz d.house d.arow d.accs f s k;have r:zaX H.accs j l Q=H.accs.set c (m.set j 0):=by
  unfold zaX;rw[if_pos o,zpO f];rw[p];rfl
 rw[r];exact ⟨g.1,k.mono fun b _ e=>⟨c,e▸(d.accs c m f).2.2⟩⟩
theorem zpi {d f q w:World} {T:Nat→Part} {h pn pc K:Nat} {va vl vb vs:Value} {H:House} (s:HouseAt d T h pn pc va vl vb vs (K+1) H) {g c:Nat→Nat} (p:RowAt d (fun b=>T b=.accs) 136 1 va H.accs.length (ptrs g H.accs.length)) (k:∀i a,H.accs[i]? =some a→AccAt d (g i) (c i) (K+1) a∧T (g i)=.acc i∧T (c i)=.acc i)
  (y:Below d d w) {i j:Nat} {a:Acc} {r:Int} (o:H.accs[i]? =some a) (z:Chg (·=c i) w f) (t:a.holdE j r≠0→AccAt f (g i) (c i) (K+1+1) a) (v:a.holdE j r=0→AccAt f (g i) (c i) (K+1+1) (a.set j r)) (n:Chg (fun b=>∃i,T b=.acc i) q d) {x:Int} (A:x.toNat=i):
  HouseAt f T h pn pc va vl vb vs (K+2) {H with accs:=zcV H.accs x j r}∧Chg (fun b=>∃i,T b=.acc i) q f:=by
 have m:AccAt f (g i) (c i) (K+1+1) (holdA a j r):=by
  unfold holdA
  split
  ·exact v (by assumption)
  ·exact t (by assumption)
 have l:=(Chg.of (·=c i) y).trans z;rw[znX o x A];exact ⟨(ziz s p k o m l).1,n.trans (l.mono fun b _ e=>⟨i,e▸(k i a o).2.2⟩)⟩
theorem zs8 {W:World} {T:Nat→Part} {h pn pc K:Nat} {va vl vb vs:Value} {H:House} {bl ba ma:Nat→Nat} {i j:Nat} {a:Acc} {l:LotS} (hat:AtIt W T h pn pc va vl vb vs K H bl ba ma i j a l) (o:OrderR) (hoi:o.bidder=i) (hoj:o.lot=j) {A:Option Addr} {c:Nat} {R:Nat→Prop} (hO:zad W R (.slice A o.offers.length c) o.offers) (hAO:zbb H.accs) (hjm:j<4096) {co:Int} (hs:zaZ o.offers=some co) (hb:zb2 l.put l.rise (zdP H i a co)=0) (hld:l.rise.leader<H.accs.length) (f:K+2<maxLen):
  Calls Tryz.prog 214 #[.agg #[],.pointer (some ⟨h,0,none⟩),.pointer (some ⟨bl j,0,none⟩),.pointer (some ⟨ba i,0,none⟩),o.agg (.slice A o.offers.length c)] W fun e W'=>e=.returned (.tuple #[.int .i64 (zgh l.put l.rise (zdP H i a co)).price,()])∧∃T',zaf W' T' h (K+2) (zhV H j l (zgh l.put l.rise (zdP H i a co)))∧Moves W T W' T':=by
 have hok:a.Ok:=(hAO a (mG hat.acc)).1;have L:=zgX hb;have hbc:=fun w=>zsM l.put l.rise (zdP H i a co) (zm7 hok) hb w;obtain ⟨Q,hQ⟩:=nm (zgh l.put l.rise (zdP H i a co));rw[←hQ] at hbc L ⊢;have O:=hid L;have HQL:=hid (show 0≤Q.leader∧Q.leader<H.accs.length by
  refine ⟨L.nn,?_⟩
  rcases L.lead with e|⟨e,_⟩
  ·rw[e];have:=(gS.1 hat.acc).1
   show (i:Int)<_
   omega
  ·rw[e];exact hld)
 have HLD:=hid hld;have HAO:=hid hAO;have HJM:=hid hjm;have HKM:=hid f;have HSN:=hid hs;obtain ⟨er,her⟩:=nm (0:Int);have HER:=hid her;obtain ⟨I,hr0⟩:=nm (Q.leader);obtain ⟨M,hr1⟩:=nm (Q.limit);obtain ⟨r2,hr2⟩:=nm (Q.price);obtain ⟨N,hr3⟩:=nm (Q.closes);have HBID:=hid (show ∀w,Calls Tryz.prog 219 #[l.put.agg,l.rise.agg,(zdP H i a co).agg] w fun e w'=>e=.returned (.tuple #[.agg #[I,M,r2,N],er])∧Below w w w' by
  rw[hr0,hr1,hr2,hr3,her];exact hbc)
 have HQ0:=hid hr0;have HQ1:=hid hr1;have HQ2:=hid hr2;have HQ3:=hid hr3;rw[←hr2];clear hbc her hr0 hr1 hr2 hr3 hs hb hld hAO hjm f L hQ;obtain ⟨W1,hW1⟩:=nm ((W.alloc (.cells #[] 245)).alloc (.cells (o.cells (.slice A o.offers.length c)).toArray 61));have hb1:Below W W W1:=by rw[hW1];exact (qA _).alloc (by simp) _
 have V:Ac.Blk W1 (W.heap.size+1) 61 (o.cells (.slice A o.offers.length c)).toArray:=by rw[hW1];exact Ac.Blk.new' _ _ (by simp)
 have HAT:=hid hat;have HB1:=hid hb1;have HOK:=hid hok;have HOI:=hid hoi;have HOJ:=hid hoj;obtain ⟨okind,oname,ocoins,obidder,olot,⟨kind,opens,closes,start,step,extend,last,floor,fall,count,rule⟩,ooff,otick⟩:=o;simp only at hO hoi hoj;have HO1:=hid (zad.grow hO hb1);have HSI:=hid (zdc (zad.grow hO hb1));simp only[OrderR.agg,OrderR.cells,LotR.cells,List.cons_append,List.nil_append] at hW1 V ⊢;have x16:W1.cell? ⟨W.heap.size+1,16,none⟩=some (.slice A ooff.length c):=V.cell 16;have xl:=V.lt;have HX1:=hid V;clear hat hb1 hok hO V hoi hoj;go_enter Tryz.func214,Tryz.ntmps214;go_wp2_with fail
 rw[←hW1];clear hW1;refine HSI.out.mono ?_;rintro e U ⟨rfl,hb2⟩;have hv:zaV ooff=.tuple #[co,true]:=by have:=HSN.out;unfold zaV;rw[this]
 rw[hv];have HX2:=hid (HX1.out.grow hb2);have HB2:=hid (HB1.out.trans (hb2.mono HB1.out.size));have G:=HAT.out.grow HB2.out;have HAT2:=hid G;obtain ⟨v,htb,ab,_⟩:=G.lots j l G.lot;have HLB:=hid ab;have lb:=ab.lt;have HACC:=hid (G.accs i a G.acc).1;have HCAL:=hid G.house.cal;obtain ⟨c0,c1,c2,c3,c4,c5,hh⟩:=G.house.cells;have x3:U.cell? ⟨W.heap.size+1,3,none⟩=some ↑obidder:=HX2.out.cell 3;have xl2:=HX2.out.lt;rw[HOI.out] at x3;have HR1:=hid (Blk.range ab 0 [.int .i64 l.put.kind,.int .i64 l.put.opens,.int .i64 l.put.closes,.int .i64 l.put.start,.int .i64 l.put.step,.int .i64 l.put.extend,.int .i64 l.put.last,.int .i64 l.put.floor,.int .i64 l.put.fall,.int .i64 l.put.count,.int .i64 l.put.rule] (fun q v hq=>by
  rcases q with _|_|_|_|_|_|_|_|_|_|_|q<;>first|exact hq|(simp at hq)))
 have HR2:=hid (Blk.range ab 15 [.int .i64 l.rise.leader,.int .i64 l.rise.limit,.int .i64 l.rise.price,.int .i64 l.rise.closes] (fun q v hq=>by
  rcases q with _|_|_|_|q<;>first|exact hq|(simp at hq)))
 obtain ⟨now,hnow⟩:=nm (H.now);obtain ⟨fr,hfr⟩:=nm (a.free);have HFREE:=hid (fun (w:World) (hb:Below U U w)=>(show Calls Tryz.prog 164 #[.pointer (some ⟨ba i,0,none⟩)] w fun e W'=>e=.returned ↑fr∧Below w w W' from hfr▸ze4 (HACC.out.grow hb) HOK.out));have HNOW:=hid (fun (w:World) (hb:Below U U w)=>(show Calls Tryz.prog 118 #[.pointer (some ⟨pc,0,none⟩)] w fun e W'=>e=.returned ↑now∧W'=w from hnow▸zc3 (HCAL.out.grow hb)));have HNW:=hid hnow;have HFR:=hid hfr;have y:=hid (show ∀w,Calls Tryz.prog 219 #[l.put.agg,l.rise.agg,.agg #[(i:Int),co,fr,now]] w fun e w'=>e=.returned (.tuple #[.agg #[I,M,r2,N],er])∧Below w w w' by
  rw[hfr,hnow];exact HBID.out)
 have HLL:=hid (show l.put=⟨l.put.kind,l.put.opens,l.put.closes,l.put.start,l.put.step,l.put.extend,l.put.last,l.put.floor,l.put.fall,l.put.count,l.put.rule⟩ from rfl);obtain ⟨LP,hLP⟩:=nm (l.put);obtain ⟨LR,hLR⟩:=nm (l.rise);rw[←hLP] at HR1 y;rw[←hLR] at HR2 y;have HLP:=hid hLP;have HLR:=hid hLR;obtain ⟨pk,po,pcl,ps,pt,pe,pa,pf,pl,pnn,pr⟩:=LP;obtain ⟨ld,li,rp,rc⟩:=LR;simp only[LotR.agg,LotR.cells,RiseR.agg,RiseR.cells] at HR1 HR2 y;have HTB:=hid htb;clear hv hb2 G htb ab hnow hfr hLP hLR HLL x16 xl c0 c1 c2 c4 c5
 go_upto_region 4 with fail
 go_cut [14,15] from 17 to 48 (fun s14 s15 wx=>∃g:Nat,s14=.pointer (some ⟨g,0,none⟩)∧s15=.int .i64 er∧Ac.Blk wx g 143 #[I,M,r2,N]∧Below U U wx∧U.heap.size≤g)
 case first=>
  refine zac (Below U U) [] (by kernel_rfl) (bR.drew) (fun d=>?_);refine tp 0 d ?_;refine tp 1 d ?_;refine tp 2 d ?_;refine tx 3 (v:=?_) d ?_ ?_
  rotate_left
  ·intro w' k;refine Eq.trans (zbp 58 (.tmp 28) (by rfl) (bl j) 0 (by rfl) [.int .i64 pk,.int .i64 po,.int .i64 pcl,.int .i64 ps,.int .i64 pt,.int .i64 pe,.int .i64 pa,.int .i64 pf,.int .i64 pl,.int .i64 pnn,.int .i64 pr] _ (fun q v hq=>qc k (HR1.out q v hq) lb) Tryz.underlying58 rfl (by kernel_rfl)) ?_;with_reducible rfl
  refine tp 4 d ?_;refine tp 5 d ?_;refine tp 6 d ?_;refine tx 7 (v:=?_) d ?_ ?_
  rotate_left
  ·intro w' k;refine Eq.trans (zbp 143 (.tmp 32) (by rfl) (bl j) 15 (by rfl) [.int .i64 ld,.int .i64 li,.int .i64 rp,.int .i64 rc] _ (fun q v hq=>qc k (HR2.out q v hq) lb) Tryz.underlying143 rfl (by kernel_rfl)) ?_;with_reducible rfl
  refine tp 8 d ?_;have X:=hid fun (w':World) (k:(Below U U) w')=>And.intro (qc k x3 xl2)<|qc k c3 hh;refine tl 9 d X ?_;refine tp 10 d ?_;refine tp 11 d ?_;refine tp 13 d ?_;refine tp 14 d ?_;refine tp 15 d ?_;refine tp 16 d ?_;refine tl 17 d X ?_;refine tr [12,24] ?_;refine tc (fun K f=>?_) ?_
  ·go_simp;refine (HFREE.out _ d).mono ?_;rintro e W3 ⟨rfl,hb3⟩;refine f.out _ _ ?_ (fun d=>?_)
   ·exact d.trans (hb3.mono d.size)
   clear f K
   try simp only[Act.put,pb,pz,ps]
   have HS3:=hid d;clear hb3;refine tr [18,24] ?_;refine tc (fun K f=>?_) ?_
   ·go_simp;refine (HNOW.out _ d).mono ?_;rintro e W4 ⟨rfl,ad⟩;rw[ad];clear ad;refine f.out _ _ ?_ (fun d=>?_)
    ·exact d
    clear f K
    try simp only[Act.put,pb,pz,ps]
    refine tp 19 d ?_;refine tr [20,24] ?_;refine tc (fun K f=>?_) ?_
    ·go_simp;refine (y.out _).mono ?_;rintro e W5 ⟨rfl,B⟩;refine f.out _ _ ?_ (fun d=>?_)
     ·exact d.trans (B.mono d.size)
     clear f K
     try simp only[Act.put,pb,pz,ps]
     have HS5:=hid d;clear B;refine tp 21 d ?_;refine tp 22 d ?_;refine tp 23 d ?_;refine stp 24 fun K f=>?_;go_simp;refine f.out _ _ ?_ (fun d=>?_)
     ·exact d.alloc d.size _
     clear f K
     try simp only[Act.put,pb,pz,ps]
     refine stp 25 fun K f=>?_;go_simp;refine f.out _ _ ?_ (fun d=>?_)
     ·exact HS5.out.alloc HS5.out.size _
     clear f K
     try simp only[Act.put,pb,pz,ps]
     refine tp 26 d ?_;refine zaa (by kernel_rfl) ?_ _;have P:=hid d;clear d;go_wp2_with fail
     go_meet
     case rel=>exact ⟨_,rfl,rfl,Ac.Blk.new _ _ _,P.out,HS5.out.size⟩
    refine tc (fun K f=>?_) ?_
    ·go_simp;refine f.out _ _ ?_ (fun d=>?_)
     ·exact d.alloc d.size _
     clear f K
     try simp only[Act.put,pb,pz,ps]
     have D:=hid (Ac.Blk.new W3 143 #[(),(),(),()]);have r:=hid HS3.out.size;refine stp 20 fun K f=>?_;go_simp;refine (y.out _).mono ?_;rintro e W5 ⟨rfl,B⟩;refine f.out _ _ ?_ (fun d=>?_)
     ·exact d.trans (B.mono d.size)
     clear f K
     try simp only[Act.put,pb,pz,ps]
     have HS5:=hid d;have m:=D.out.grow B;have g0:=m.cell 0;have g1:=m.cell 1;have g2:=m.cell 2;have g3:=m.cell 3;have gf:=m.frozen;have D:=hid m;clear m;clear B;refine tp 21 d ?_;refine tp 22 d ?_;refine tp 23 d ?_;refine stp 25 fun K f=>?_;go_simp;refine f.out _ _ ?_ (fun d=>?_)
     ·exact (((d.setCell (p:=⟨W3,0,none⟩) r.out _).setCell (p:=⟨W3,1,none⟩) r.out _).setCell (p:=⟨W3,2,none⟩) r.out _).setCell (p:=⟨W3,3,none⟩) r.out _
     clear f K
     try simp only[Act.put,pb,pz,ps]
     refine tp 26 d ?_;refine zaa (by kernel_rfl) ?_ _;have P:=hid d;clear d;go_wp2_with fail
     go_meet
     case rel=>exact ⟨_,rfl,rfl,(((D.out.set_ 0 ↑I).set_ 1 ↑M).set_ 2 ↑r2).set_ 3 ↑N,P.out,r.out⟩
    exact zaL.nil
   refine tc (fun K f=>?_) ?_
   ·go_simp;refine f.out _ _ ?_ (fun d=>?_)
    ·exact d.alloc d.size _
    clear f K
    try simp only[Act.put,pb,pz,ps]
    have D:=hid (Ac.Blk.new W3 143 #[(),(),(),()]);have r:=hid HS3.out.size;refine stp 18 fun K f=>?_;go_simp;refine (HNOW.out _ d).mono ?_;rintro e W4 ⟨rfl,ad⟩;rw[ad];clear ad;refine f.out _ _ ?_ (fun d=>?_)
    ·exact d
    clear f K
    try simp only[Act.put,pb,pz,ps]
    refine tp 19 d ?_;refine stp 20 fun K f=>?_;go_simp;refine (y.out _).mono ?_;rintro e W5 ⟨rfl,B⟩;refine f.out _ _ ?_ (fun d=>?_)
    ·exact d.trans (B.mono d.size)
    clear f K
    try simp only[Act.put,pb,pz,ps]
    have HS5:=hid d;have m:=D.out.grow B;have g0:=m.cell 0;have g1:=m.cell 1;have g2:=m.cell 2;have g3:=m.cell 3;have gf:=m.frozen;have D:=hid m;clear m;clear B;refine tp 21 d ?_;refine tp 22 d ?_;refine tp 23 d ?_;refine stp 25 fun K f=>?_;go_simp;refine f.out _ _ ?_ (fun d=>?_)
    ·exact (((d.setCell (p:=⟨W3,0,none⟩) r.out _).setCell (p:=⟨W3,1,none⟩) r.out _).setCell (p:=⟨W3,2,none⟩) r.out _).setCell (p:=⟨W3,3,none⟩) r.out _
    clear f K
    try simp only[Act.put,pb,pz,ps]
    refine tp 26 d ?_;refine zaa (by kernel_rfl) ?_ _;have P:=hid d;clear d;go_wp2_with fail
    go_meet
    case rel=>exact ⟨_,rfl,rfl,(((D.out.set_ 0 ↑I).set_ 1 ↑M).set_ 2 ↑r2).set_ 3 ↑N,P.out,r.out⟩
   exact zaL.nil
  refine tc (fun K f=>?_) ?_
  ·go_simp;refine f.out _ _ ?_ (fun d=>?_)
   ·exact d.alloc d.size _
   clear f K
   try simp only[Act.put,pb,pz,ps]
   have D:=hid ((Ac.Blk.new U 143 #[(),(),(),()]).drewN 1);have r:=hid (Nat.le_refl U.heap.size);refine stp 12 fun K f=>?_;go_simp;refine (HFREE.out _ d).mono ?_;rintro e W3 ⟨rfl,hb3⟩;refine f.out _ _ ?_ (fun d=>?_)
   ·exact d.trans (hb3.mono d.size)
   clear f K
   try simp only[Act.put,pb,pz,ps]
   have HS3:=hid d;have D:=hid (D.out.grow hb3);clear hb3;refine stp 18 fun K f=>?_;go_simp;refine (HNOW.out _ d).mono ?_;rintro e W4 ⟨rfl,ad⟩;rw[ad];clear ad;refine f.out _ _ ?_ (fun d=>?_)
   ·exact d
   clear f K
   try simp only[Act.put,pb,pz,ps]
   refine tp 19 d ?_;refine stp 20 fun K f=>?_;go_simp;refine (y.out _).mono ?_;rintro e W5 ⟨rfl,B⟩;refine f.out _ _ ?_ (fun d=>?_)
   ·exact d.trans (B.mono d.size)
   clear f K
   try simp only[Act.put,pb,pz,ps]
   have HS5:=hid d;have m:=D.out.grow B;have g0:=m.cell 0;have g1:=m.cell 1;have g2:=m.cell 2;have g3:=m.cell 3;have gf:=m.frozen;have D:=hid m;clear m;clear B;refine tp 21 d ?_;refine tp 22 d ?_;refine tp 23 d ?_;refine stp 25 fun K f=>?_;go_simp;refine f.out _ _ ?_ (fun d=>?_)
   ·exact (((d.setCell (p:=⟨U,0,none⟩) r.out _).setCell (p:=⟨U,1,none⟩) r.out _).setCell (p:=⟨U,2,none⟩) r.out _).setCell (p:=⟨U,3,none⟩) r.out _
   clear f K
   try simp only[Act.put,pb,pz,ps]
   refine tp 26 d ?_;refine zaa (by kernel_rfl) ?_ _;have P:=hid d;clear d;go_wp2_with fail
   go_meet
   case rel=>exact ⟨_,rfl,rfl,(((D.out.set_ 0 ↑I).set_ 1 ↑M).set_ 2 ↑r2).set_ 3 ↑N,P.out,r.out⟩
  exact zaL.nil
 case rest=>
  obtain ⟨g,rfl,rfl,hgb,hbx,hgg⟩:=hcut;rename World=>wd;have her:=HER.out;subst her;have Z:=HAT2.out.grow hbx;have HGB:=hid hgb;have HBX:=hid (HB2.out.trans (hbx.mono HB2.out.size));have HX3:=hid (HX2.out.grow hbx);have F:=hid Z;have HGG:=hid hgg;have l15:wd.cell? ⟨bl j,15,none⟩=some ↑ld:=qc hbx (HR2.out 0 _ rfl) lb;have lb3:bl j<wd.heap.size:=lL lb hbx.size;have g0:wd.cell? ⟨g,0,none⟩=some ↑I:=hgb.cell 0;have g1:wd.cell? ⟨g,1,none⟩=some ↑M:=hgb.cell 1;have lg:=hgb.lt;obtain ⟨c0,c1,c2,c3,c4,c5,hh⟩:=Z.house.cells;have x4:wd.cell? ⟨W.heap.size+1,4,none⟩=some ↑olot:=HX3.out.cell 4;rw[HOJ.out] at x4;have xl3:=HX3.out.lt;have hro:=Z.arow;have hnn:0<H.accs.length:=by have:=(gS.1 Z.acc).1;omega
  obtain ⟨aq,acap,hva,_,haq,_⟩:=hro.ex hnn;rw[hva] at c1;obtain ⟨na,hna⟩:=nm (H.accs.length);have HNA:=hid hna;have HVA:=hid hva;have hldn:=HLD.out;rw[←HLR.out] at hldn;simp only at hldn;rw[←hna] at c1 hldn;clear hgb hbx Z hro hna hva c0 c2 c4 c5 hgg;obtain ⟨bel,hbel⟩:=nm (decide (0≤ld∧ld≠I):Bool);have HBE:=hid hbel;clear hbel
  go_upto_region 8 with fail
  go_cut [64] from 17 to 123 (fun s wx=>s=.bool bel∧wx=wd)
  case first=>
   by_cases h0:0≤ld
   ·have d1:decide (ld ≥ 0)=true:=decide_eq_true h0;by_cases J:ld=I
    ·have d2:(ld==I)=true:=by simpa using J
     have H1:=hid J;clear J;go_wp2_with fail
     go_meet
     case rel=>exact ⟨by rw[HBE.out,decide_eq_false (fun h=>h.2 H1.out)];simp[H1.out],rfl⟩
    ·have d2:(ld==I)=false:=by simpa using J
     go_wp2_with fail
     go_meet
     case rel=>exact ⟨by rw[HBE.out,decide_eq_true ⟨h0,J⟩];simp[J],rfl⟩
   ·have d1:decide (ld ≥ 0)=false:=decide_eq_false h0;go_wp2_with fail
    go_meet
    case rel=>exact ⟨by rw[HBE.out,decide_eq_false (fun h=>by omega)],rfl⟩
  case rest=>
  obtain ⟨rfl,rfl⟩:=hcut;rename World=>wd
  go_upto_if 64 with fail
  go_cut [] from 17 to 123 (fun wx=>HouseAt wx T h pn pc va vl vb vs (K+1) {H with accs:=zaX H.accs j l Q}∧Chg (fun b=>∃i,T b=.acc i) wd wx)
  case first=>
   by_cases hel:0≤ld∧ld≠I
   ·obtain ⟨en,hen⟩:∃n:Nat,ld=n:=⟨ld.toNat,by omega⟩;have henl:en<na:=by omega
    obtain ⟨ea,hea⟩:∃z,H.accs[en]? =some z:=⟨_,gE (by rw[←HNA.out];exact henl)⟩;have p0:wd.cell? ⟨aq,en,none⟩=some (.pointer (some ⟨ba en,0,none⟩)):=by
     have J:=F.out.arow;rw[HVA.out] at J;exact (J.own.cellAt en (by rw[←HNA.out];omega)).trans (zcL (by rw[←HNA.out];exact henl))
    have HBT:=hid (show bel=true from by rw[HBE.out];exact decide_eq_true hel);have e1:(0:Int)≤(en:Int):=by omega
    have e2:(en:Int)<(na:Int):=by omega
    have HEL:=hid hel;have HEA:=hid hea;subst hen;have HREL:=hid (fun (w:World) (hb:Below wd wd w)=>(show Calls Tryz.prog 123 #[.pointer (some ⟨ba en,0,none⟩),j] w fun e V1=>(∃z,e=.returned z)∧AccAt V1 (ba en) (ma en) (K+1) (ea.set j 0)∧Chg (·=ma en) w V1 from by
     refine (zfm (((F.out.accs en ea HEA.out).1).grow hb) (by have:=HKM.out;omega) (x:=(j:Int)) (by have:=HJM.out;omega)).mono ?_;rintro e V1 (⟨V,_⟩|⟨_,rfl,ha1,S⟩)
     ·omega
     ·exact ⟨⟨_,rfl⟩,ha1,S⟩))
    clear hel hea;have hbt:=HBT.out;subst hbt;go_wp2_with fail
    refine zac (Below wd wd) [10] (by kernel_rfl) (bR.drew) (fun d=>?_);refine tpD [1,2,3,4,6,7,10] 0 d ?_;refine tpD [2,3,4,6,7,10] 1 d ?_;refine tpD [3,4,6,7,10] 2 d ?_;refine tpD [4,6,7,10] 3 d ?_;have X:=hid fun (w':World) (k:(Below wd wd) w')=>And.intro (qc k c1 hh)<|And.intro (qc k p0 haq)<|qc k x4 xl3;refine tlD [6,7,10] 4 d X ?_;refine tpD [6,7,10] 5 d ?_;refine tpD [7,10] 6 d ?_;refine tl 7 d X ?_;refine tpD [9,10] 8 d ?_;refine tl 9 d X ?_;refine stf 10 fun K f=>?_;go_simp;refine (HREL.out _ d).mono ?_;rintro e V1 ⟨⟨z,rfl⟩,ha1,S⟩;refine f.out _ _ ?_;clear f K
    try simp only[Act.put,pb,pz,ps]
    refine zaa (by kernel_rfl) ?_ _;clear d;go_wp2_with fail
    go_meet
    case rel=>exact zrH F.out bR.drew HEA.out ha1 S (by rw[←HLR.out]) (by rw[←HLR.out,←HQ0.out];exact HEL.out)
   ·have HH1:=hid (show HouseAt wd T h pn pc va vl vb vs (K+1) {H with accs:=zaX H.accs j l Q} from by
     have J:zaX H.accs j l Q=H.accs:=by
      unfold zaX;rw[if_neg];rw[←HLR.out,←HQ0.out];exact hel
     rw[J];exact HouseAt.more F.out.house (Nat.le_succ K))
    have hbt:bel=false:=by rw[HBE.out];exact decide_eq_false hel
    subst hbt;clear hel;go_wp2_with fail
    go_meet
    case rel=>exact ⟨HH1.out,Chg.of _ bR⟩
  case rest=>
   rename World=>V1;obtain ⟨hh1,S⟩:=hcut;have HH1:=hid hh1;have HC1:=hid S;have hno:∀x,W.heap.size≤x→T x=.no:=fun x V=>HAT.out.house.out x V;have Y:∀x,W.heap.size≤x→¬∃i,T x=.acc i:=fun x V=>by rw[hno x V];rintro ⟨i,e⟩;cases e
   have hwg:W.heap.size≤g:=lT HB2.out.size HGG.out;have HWG:=hid hwg;have HX1T:=hid Y;have HG1:=hid (HGB.out.chg S (Y g hwg));have HXO1:=hid (HX3.out.chg S (Y _ (by omega)));obtain ⟨ba1,ma1,hro1,has1⟩:=hh1.accs;obtain ⟨qn,hqn⟩:∃n:Nat,I=n:=⟨I.toNat,by have:=HQL.out;rw[←HQ0.out] at this;omega⟩;have hqnl:qn<na:=by have:=HQL.out;rw[←HQ0.out] at this;have:=HNA.out;omega
   have hln1:(zaX H.accs j l Q).length=na:=by rw[zet,HNA.out]
   simp only at hro1 has1;obtain ⟨qa,hqa⟩:∃z,(zaX H.accs j l Q)[qn]? =some z:=⟨_,gE (by omega)⟩;have HQA:=hid hqa;have hqok:=zg4 HAO.out (by have:=HJM.out;omega) l Q qa (mG hqa);have p1:V1.cell? ⟨aq,qn,none⟩=some (.pointer (some ⟨ba1 qn,0,none⟩)):=by
    have J:=hro1;rw[HVA.out,zet] at J;have hq1:qn<H.accs.length:=by have:=HNA.out;omega
    have hq2:qn<H.accs.length*1:=by omega
    exact (J.own.cellAt qn hq2).trans (zcL hq1)
   have laq:aq<V1.heap.size:=lL haq S.size;obtain ⟨k0,k1,k2,k3,k4,k5,lh1⟩:=hh1.cells;rw[HVA.out,←HNA.out] at k1;have y0:V1.cell? ⟨g,0,none⟩=some ↑qn:=by rw[←hqn];exact HG1.out.cell 0
   have y1:V1.cell? ⟨g,1,none⟩=some ↑M:=HG1.out.cell 1;have lg1:=HG1.out.lt;have y4:V1.cell? ⟨W.heap.size+1,4,none⟩=some ↑j:=by rw[←HOJ.out];exact HXO1.out.cell 4
   have lx1:=HXO1.out.lt;have hr1c:=O.out.limit;rw[←HQ1.out] at hr1c;have HR1C:=hid hr1c;have f1:(0:Int)≤(qn:Int):=by omega
   have f2:(qn:Int)<(na:Int):=by omega
   have HQN:=hid hqn;have HRO1:=hid hro1;have HAS1:=hid has1;have HQOK:=hid hqok;have HHOLD:=hid (fun (w:World) (hb:Below V1 V1 w)=>(show Calls Tryz.prog 220 #[.pointer (some ⟨ba1 qn,0,none⟩),j,M] w fun e E=>(∃z,e=.returned z)∧HouseAt E T h pn pc va vl vb vs (K+2) {H with accs:=zcV (zaX H.accs j l Q) I j M}∧Chg (fun b=>∃i,T b=.acc i) wd E from by
    refine (zrb (((HAS1.out qn qa HQA.out).1).grow hb) HQOK.out.1 (by have:=HKM.out;omega) (x:=(j:Int)) (v:=M) (by have:=HJM.out;omega) (by have:=HR1C.out;unfold zah at this;omega)).mono ?_;rintro e E ⟨rfl,ac,ha2,ha3⟩;exact ⟨⟨_,rfl⟩,zpi HH1.out HRO1.out HAS1.out hb HQA.out ac ha2 ha3 HC1.out (by rw[HQN.out];rfl)⟩))
   clear hh1 S hno Y hwg hro1 has1 hqa hqok hr1c k0 k2 k3 k4 k5 hqn hqnl hln1 l15 lb3 g0 g1 lg c1 hh x4 xl3 haq
   go_upto_region 10 with fail
   go_cut [] from 17 to 123 (fun wx=>HouseAt wx T h pn pc va vl vb vs (K+2) {H with accs:=zcV (zaX H.accs j l Q) I j M}∧Chg (fun b=>∃i,T b=.acc i) wd wx)
   case first=>
    refine zac (Below V1 V1) [13] (by kernel_rfl) (bR.drew) (fun d=>?_);refine tpD [1,2,3,4,7,8,13] 0 d ?_;refine tpD [2,3,4,7,8,13] 1 d ?_;refine tpD [3,4,7,8,13] 2 d ?_;refine tpD [4,7,8,13] 3 d ?_;have X:=hid fun (w':World) (k:(Below V1 V1) w')=>And.intro (qc k k1 lh1)<|And.intro (qc k p1 laq)<|And.intro (qc k y4 lx1)<|And.intro (qc k y0 lg1)<|qc k y1 lg1;refine tlD [7,8,13] 4 d X ?_;refine tpD [6,7,8,13] 5 d ?_;refine tlD [7,8,13] 6 d X ?_;refine tpD [8,13] 7 d ?_;refine tl 8 d X ?_;refine tpD [10,13] 9 d ?_;refine tl 10 d X ?_;refine tpD [12,13] 11 d ?_;refine tl 12 d X ?_;refine stf 13 fun K f=>?_;go_simp;refine (HHOLD.out _ d).mono ?_;rintro e E ⟨⟨z,rfl⟩,hR⟩;refine f.out _ _ ?_;clear f K
    try simp only[Act.put,pb,pz,ps]
    refine zaa (by kernel_rfl) ?_ _;clear d;go_wp2_with fail
    go_meet
    case rel=>exact hR
   case rest=>
    rename World=>E;obtain ⟨hh2,ac⟩:=hcut;clear p1 k1 laq lh1 y0 y1 lg1 y4 lx1 f1 f2;have HH2:=hid hh2;have HC2:=hid ac;have Y:=HX1T.out;have hg2:=HGB.out.chg ac (Y g HWG.out);have HG2:=hid hg2;have HXO2:=hid (HX3.out.chg ac (Y _ (by omega)));have hls:∀n z,H.lots[n]? =some z→za2 E T n (bl n) z:=fun n z hn=>(F.out.lots n z hn).step ac (fun x V=>by rintro ⟨i,e⟩;rw[e] at V;rcases V with h|h<;>cases h) (fun _ _=>rfl);have hlr:RowAt E (fun b=>T b=.lots) 138 1 vl H.lots.length (ptrs bl H.lots.length):=F.out.lrow.step ac (fun x V=>by rintro ⟨i,e⟩;rw[e] at V;cases V) (fun _ _=>rfl);have HLS:=hid hls;have HLW:=hid hlr;obtain ⟨vst,htb,C,hst⟩:=hls j l F.out.lot;have HTB2:=hid htb;have HBK:=hid C;have HNE:=hid (show g≠bl j from fun e=>by
     have J:=HAT.out.house.out g HWG.out;rw[e,htb] at J
     cases J)
    have y0:E.cell? ⟨g,0,none⟩=some ↑I:=hg2.cell 0;have y1:E.cell? ⟨g,1,none⟩=some ↑M:=hg2.cell 1;have y2:E.cell? ⟨g,2,none⟩=some ↑r2:=hg2.cell 2;have y3:E.cell? ⟨g,3,none⟩=some ↑N:=hg2.cell 3;have lg2:=hg2.lt;clear hh2 ac Y hg2 hls hlr htb C hst
    go_upto_region 11 with fail
    go_cut [] from 17 to 123 (fun wx=>Chg (·=bl j) E wx∧Ac.Blk wx (bl j) 145 (LotS.cells {l with rise:=⟨I,M,r2,N⟩,closes:=N} vst).toArray)
    case first=>
     have ne1:g≠bl j:=HNE.out;refine zac (Chg (·=bl j) E) [] (by kernel_rfl) ((Chg.refl _ E).grow bR.drew) (fun d=>?_);refine tp 0 d ?_;refine tp 1 d ?_;refine tx 2 (v:=?_) d ?_ ?_
     rotate_left
     ·intro w' k;refine Eq.trans (zbq 143 (.tmp 14) (by rfl) g (by rfl) 143 #[I,M,r2,N] (0,0) _ (HG2.out.chg k HNE.out) Tryz.underlying143 rfl (by kernel_rfl)) ?_;with_reducible rfl
     refine tp 3 d ?_;have X:=hid fun (w':World) (k:(Chg (·=bl j) E) w')=>And.intro (cg k y0 lg2 ne1)<|And.intro (cg k y1 lg2 ne1)<|And.intro (cg k y2 lg2 ne1)<|cg k y3 lg2 ne1;refine tl 4 d X ?_;refine tp 5 d ?_;refine tp 6 d ?_;refine stp 7 fun K f=>?_;have C:=HBK.out;have z15:E.cell? ⟨bl j,15,none⟩=some ↑l.rise.leader:=C.cell 15;have z16:E.cell? ⟨bl j,16,none⟩=some ↑l.rise.limit:=C.cell 16;have z17:E.cell? ⟨bl j,17,none⟩=some ↑l.rise.price:=C.cell 17;have z18:E.cell? ⟨bl j,18,none⟩=some ↑l.rise.closes:=C.cell 18;have f15:E.frozen? ⟨bl j,15,none⟩=false:=C.frozen 15;have f16:E.frozen? ⟨bl j,16,none⟩=false:=C.frozen 16;have f17:E.frozen? ⟨bl j,17,none⟩=false:=C.frozen 17;have f18:E.frozen? ⟨bl j,18,none⟩=false:=C.frozen 18;go_simp;refine f.out _ _ ?_ (fun d=>?_)
     ·exact ((((Chg.set E ⟨bl j,15,none⟩ ↑I).trans (Chg.set _ ⟨bl j,16,none⟩ ↑M)).trans (Chg.set _ ⟨bl j,17,none⟩ ↑r2)).trans (Chg.set _ ⟨bl j,18,none⟩ ↑N)).drewN 1
     clear f K
     try simp only[Act.put,pb,pz,ps]
     refine tp 8 d ?_;refine tp 9 d ?_;refine stp 10 fun K f=>?_;have C:=HBK.out;have z12:E.cell? ⟨bl j,12,none⟩=some ↑l.closes:=C.cell 12;have f12:E.frozen? ⟨bl j,12,none⟩=false:=C.frozen 12;go_simp;refine f.out _ _ ?_ (fun d=>?_)
     ·exact (((((Chg.set E ⟨bl j,15,none⟩ ↑I).trans (Chg.set _ ⟨bl j,16,none⟩ ↑M)).trans (Chg.set _ ⟨bl j,17,none⟩ ↑r2)).trans (Chg.set _ ⟨bl j,18,none⟩ ↑N)).trans (Chg.set _ ⟨bl j,12,none⟩ ↑N)).drewN 1
     clear f K
     try simp only[Act.put,pb,pz,ps]
     refine zaa (by kernel_rfl) ?_ _;have P:=hid d;clear d;go_wp2_with fail
     go_meet
     case rel=>exact ⟨P.out,(((((HBK.out.set_ 15 ↑I).set_ 16 ↑M).set_ 17 ↑r2).set_ 18 ↑N).set_ 12 ↑N).drewN 1⟩
    case rest=>
     rename World=>V3;obtain ⟨hc3,aa⟩:=hcut;have hg3:=HG2.out.chg hc3 HNE.out;have HXO3:=hid (HXO2.out.chg hc3 (fun e=>by
      have J:=HAT.out.house.out (W.heap.size+1) (by omega);rw[e,HTB2.out] at J
      cases J))
     have HC3:=hid hc3;have HBK3:=hid aa;have HG3:=hid hg3;have y0:V3.cell? ⟨g,0,none⟩=some ↑I:=hg3.cell 0;have y1:V3.cell? ⟨g,1,none⟩=some ↑M:=hg3.cell 1;have d14:V3.cell? ⟨bl j,14,none⟩=some vst:=aa.cell 14;have f14:V3.frozen? ⟨bl j,14,none⟩=false:=aa.frozen 14;have lg3:=hg3.lt;have lb3:=aa.lt;clear hc3 aa hg3 y2 y3 lg2
     go_upto_region 13 with fail
     obtain ⟨V4,hV4⟩:=nm (((V3.setCell ⟨bl j,14,none⟩ (.slice (some ⟨V3.heap.size+1,0,none⟩) 1 1)).alloc (.cells #[.int .u32 0,M] 191)).alloc (.cells #[I,.slice (some ⟨V3,0,none⟩) 1 1,M] 188));rw[←hV4];have hQe:Q=⟨I,M,r2,N⟩:=by rw[HQ0.out,HQ1.out,HQ2.out,HQ3.out]
     have hc34:Chg (·=bl j) V3 V4:=by rw[hV4];exact ((Chg.set V3 ⟨bl j,14,none⟩ _).grow (qA _)).grow (qA _)
     have hb4:Ac.Blk V4 (bl j) 145 ((zhW l Q).cells (.slice (some ⟨V3.heap.size+1,0,none⟩) 1 1)).toArray:=by rw[hV4,hQe];exact ((HBK3.out.set_ 14 (.slice (some ⟨V3.heap.size+1,0,none⟩) 1 1)).alloc _).alloc _
     have ho4:Ac.Blk V4 V3.heap.size 191 #[.int .u32 0,Q.limit]:=by rw[hV4,←HQ1.out];exact (Ac.Blk.new' _ _ (by simp[World.setCell])).alloc _
     have hs4:Ac.Blk V4 (V3.heap.size+1) 188 #[Q.leader,.slice (some ⟨V3,0,none⟩) 1 1,Q.limit]:=by rw[hV4,←HQ0.out,←HQ1.out];exact Ac.Blk.new' _ _ (by simp[World.setCell])
     obtain ⟨T4,hh4,hm4⟩:=zsO HH2.out HLW.out HLS.out F.out.lot (l':=zhW l Q) rfl (Nat.le_succ_of_le HC3.out.size) HC3.out.size (by omega) hb4 hs4 ho4 ((HC3.out.trans hc34).mono fun b _ e=>e▸HTB2.out) O.out.limit;have hg4:=HG3.out.chg hc34 HNE.out;have hx4:=HXO3.out.chg hc34 (fun e=>by
      have J:=HAT.out.house.out (W.heap.size+1) (by omega);rw[e,HTB2.out] at J
      cases J)
     have HH4:=hid hh4;have HM4:=hid hm4;have HG4:=hid hg4;have HX4:=hid hx4;obtain ⟨k0,k1,k2,k3,k4,k5,lh4⟩:=hh4.cells;have y3:V4.cell? ⟨g,3,none⟩=some ↑N:=hg4.cell 3;have lg4:=hg4.lt;have y4:V4.cell? ⟨W.heap.size+1,4,none⟩=some ↑j:=by rw[←HOJ.out];exact hx4.cell 4
     have lx4:=hx4.lt;have HSET:=hid (fun (w:World) (hb:Below V4 V4 w)=>(show Calls Tryz.prog 75 #[.pointer (some ⟨pc,0,none⟩),j,N] w fun e V5=>e=.returned ↑()∧V5.cell? ⟨g,2,none⟩=some ↑r2∧∃T',zaf V5 T' h (K+2) (zhV H j l Q)∧Moves W T V5 T' from by
      refine (ziX (HH4.out.cal.grow hb) (n:=(j:Int)) (t:=N) (by omega) (by have:=HJM.out;omega) (by rw[HQ3.out];exact zaK.2 O.out.closes) (by rw[HQ3.out];exact Int.le_of_lt O.out.now)).mono ?_;rintro e V5 ⟨rfl,hcal,hcg⟩;have hgT:¬T4 g=.cal:=by
       have h2:=HG2.out.lt;rw[HM4.out.tag g h2,HAT.out.house.out g HWG.out];intro e
       cases e
      have hcc:Chg (fun b=>T4 b=.cal) V4 V5:=(Chg.of _ hb).step hcg fun _ _ h=>h;obtain ⟨T5,hh5,hm5⟩:=znY HH4.out (hcal.mono fun b _ V=>V.imp id fun h=>lT hb.size h) hcc;refine ⟨rfl,(HG4.out.chg hcc hgT).cell 2,T5,?_,?_⟩
      ·have e1:zhV H j l Q={H with accs:=zcV (zaX H.accs j l Q) I j M,lots:=H.lots.set j (zhW l Q),due:=upd H.due j (some N)}:=by
        unfold zhV;rw[←HQ0.out,←HQ1.out,←HQ3.out]
       rw[e1];exact hh5
      ·refine Moves.trans (Moves.trans ⟨(Chg.of (Own T) HBX.out).trans (HC2.out.mono fun b _ ⟨i,e⟩=>by unfold Own;rw[e];simp),fun _ _=>rfl⟩ HM4.out) hm5))
     clear hV4 hQe hc34 hb4 ho4 hs4 hh4 hm4 hg4 hx4 k0 k1 k2 k4 k5 y0 y1 d14 f14 lg3 lb3
     go_cut [] from 17 to 123 (fun wx=>wx.cell? ⟨g,2,none⟩=some ↑r2∧∃T',zaf wx T' h (K+2) (zhV H j l Q)∧Moves W T wx T')
     case first=>
      refine zac (Below V4 V4) [9] (by kernel_rfl) (bR.drew) (fun d=>?_);refine tpD [1,2,3,4,9] 0 d ?_;refine tpD [2,3,4,9] 1 d ?_;refine tpD [3,4,9] 2 d ?_;refine tpD [4,9] 3 d ?_;have X:=hid fun (w':World) (k:(Below V4 V4) w')=>And.intro (qc k k3 lh4)<|And.intro (qc k y4 lx4)<|qc k y3 lg4;refine tl 4 d X ?_;refine tpD [6,9] 5 d ?_;refine tl 6 d X ?_;refine tpD [8,9] 7 d ?_;refine tl 8 d X ?_;refine stf 9 fun K f=>?_;go_simp;refine (HSET.out _ d).mono ?_;rintro e V5 ⟨rfl,hR⟩;refine f.out _ _ ?_;clear f K
      try simp only[Act.put,pb,pz,ps]
      refine zaa (by kernel_rfl) ?_ _;clear d;go_wp2_with fail
      go_meet
      case rel=>exact hR
     case rest=>
      rename World=>V5;obtain ⟨y2,hR⟩:=hcut;have HR:=hid hR;clear hR;go_wp2_with fail
      go_ret2
      exact ⟨rfl,HR.out⟩
def zc0 (l:LotS):List SaleR:=if l.rise.leader<0∨zbs l.put l.rise=false then [] else [zem l.rise.leader l.rise.price]
theorem zo5 {W:World} {T:Nat→Part} {j b:Nat} {l:LotS} (e:za2 W T j b l):
  Calls Tryz.prog 235 #[.agg #[],.pointer (some ⟨b,0,none⟩)] W (zhE W T j b l []):=by
 obtain ⟨g,c⟩:=nm (W.alloc (.cells #[] 246));have d:Below W W g:=by rw[c];exact qA _
 have a:=hid d;have f:=hid e;clear e d;go_enter Tryz.func235,Tryz.ntmps235;go_wp2_with fail
 rw[←c];go_ret;exact ⟨none,0,rfl,Sl.none0 _ _ _,f.out.step (Chg.of (fun _=>False) a.out) (fun _ _=>id) (fun _ _=>rfl),Chg.of _ a.out⟩
theorem zpT {W:World} {T:Nat→Part} {j b:Nat} {l:LotS} (U:za2 W T j b l):
  Calls Tryz.prog 217 #[.agg #[],.pointer (some ⟨b,0,none⟩)] W (zhE W T j b l (zc0 l)):=by
 obtain ⟨E,x⟩:=nm (W.alloc (.cells #[] 245));have z:Below W W E:=by rw[x];exact qA _
 have k:=hid z;have Z:=hid U;have V:=U.step (W':=E) (T':=T) (Chg.of (fun _=>False) z) (fun _ _=>id) (fun _ _=>rfl);obtain ⟨v,Y,h,_⟩:=V;have O:=h.lt;have n:=hid (Blk.range h 0 [.int .i64 l.put.kind,.int .i64 l.put.opens,.int .i64 l.put.closes,.int .i64 l.put.start,.int .i64 l.put.step,.int .i64 l.put.extend,.int .i64 l.put.last,.int .i64 l.put.floor,.int .i64 l.put.fall,.int .i64 l.put.count,.int .i64 l.put.rule] (fun q v i=>by
  rcases q with _|_|_|_|_|_|_|_|_|_|_|q<;>first|exact i|(simp at i)))
 have o:=hid (Blk.range h 15 [.int .i64 l.rise.leader,.int .i64 l.rise.limit,.int .i64 l.rise.price,.int .i64 l.rise.closes] (fun q v i=>by
  rcases q with _|_|_|_|q<;>first|exact i|(simp at i)))
 obtain ⟨F,c⟩:=nm (zg5 l.put l.rise);obtain ⟨ss,B⟩:=nm (zc0 l);have d:=hid (show ∀w,Calls Tryz.prog 222 #[l.put.agg,l.rise.agg] w fun e N=>e=.returned F∧Below w w N by
  rw[c];exact zrn l.put l.rise)
 rw[←B];have m:=hid c;have G:=hid B;obtain ⟨LP,I⟩:=nm (l.put);obtain ⟨LR,t⟩:=nm (l.rise);rw[←I] at n d;rw[←t] at o d;have r:=hid t;obtain ⟨pk,po,L,ps,pt,pe,pa,pf,pl,M,pr⟩:=LP;obtain ⟨C,li,D,rc⟩:=LR;simp only[LotR.agg,LotR.cells,RiseR.agg,RiseR.cells] at n o d;clear U z h Y c B I t;go_enter Tryz.func217,Tryz.ntmps217
 go_upto_region 1 with fail
 rw[←x];clear x
 go_cut [5,6,7] from 8 to 26 (fun s5 s6 s7 wx=>F=.tuple #[s5,s6,s7]∧Below W W wx)
 case first=>
  by_cases hc:l.rise.leader<0∨zbs l.put l.rise=false
  ·have p:F=.tuple #[(),(),false]:=by rw[m.out];unfold zg5;rw[if_pos hc]
   subst p;clear hc;refine zac (Below E E) [15] (by kernel_rfl) (bR.drew) (fun a=>?_);refine tp 0 a ?_;refine tp 1 a ?_;refine tp 2 a ?_;refine tx 3 (v:=?_) a ?_ ?_
   rotate_left
   ·intro N g;refine Eq.trans (zbp 58 (.tmp 11) (by rfl) b 0 (by rfl) [.int .i64 pk,.int .i64 po,.int .i64 L,.int .i64 ps,.int .i64 pt,.int .i64 pe,.int .i64 pa,.int .i64 pf,.int .i64 pl,.int .i64 M,.int .i64 pr] _ (fun q v i=>qc g (n.out q v i) O) Tryz.underlying58 rfl (by kernel_rfl)) ?_;with_reducible rfl
   refine tp 4 a ?_;refine tp 5 a ?_;refine tp 6 a ?_;refine tx 7 (v:=?_) a ?_ ?_
   rotate_left
   ·intro N g;refine Eq.trans (zbp 143 (.tmp 15) (by rfl) b 15 (by rfl) [.int .i64 C,.int .i64 li,.int .i64 D,.int .i64 rc] _ (fun q v i=>qc g (o.out q v i) O) Tryz.underlying143 rfl (by kernel_rfl)) ?_;with_reducible rfl
   refine stp 8 fun K H=>?_;go_simp;refine (d.out _).mono ?_;rintro e W5 ⟨rfl,A⟩;refine H.out _ _ ?_ (fun a=>?_)
   ·exact a.trans (A.mono a.size)
   clear H K
   try simp only[Act.put,pb,pz,ps]
   refine tp 9 a ?_;refine tp 10 a ?_;refine tp 11 a ?_;refine tp 12 a ?_;refine tp 13 a ?_;refine tp 14 a ?_;refine tpW 15 ?_;refine zaa (by kernel_rfl) ?_ _;have s:=hid a;clear a;go_wp2_with fail
   go_meet
   case rel=>exact ⟨rfl,k.out.trans (s.out.mono k.out.size)⟩
  ·have p:F=.tuple #[C,D,true]:=by rw[m.out];unfold zg5;rw[if_neg hc,←r.out]
   subst p;clear hc;refine zac (Below E E) [15] (by kernel_rfl) (bR.drew) (fun a=>?_);refine tp 0 a ?_;refine tp 1 a ?_;refine tp 2 a ?_;refine tx 3 (v:=?_) a ?_ ?_
   rotate_left
   ·intro N g;refine Eq.trans (zbp 58 (.tmp 11) (by rfl) b 0 (by rfl) [.int .i64 pk,.int .i64 po,.int .i64 L,.int .i64 ps,.int .i64 pt,.int .i64 pe,.int .i64 pa,.int .i64 pf,.int .i64 pl,.int .i64 M,.int .i64 pr] _ (fun q v i=>qc g (n.out q v i) O) Tryz.underlying58 rfl (by kernel_rfl)) ?_;with_reducible rfl
   refine tp 4 a ?_;refine tp 5 a ?_;refine tp 6 a ?_;refine tx 7 (v:=?_) a ?_ ?_
   rotate_left
   ·intro N g;refine Eq.trans (zbp 143 (.tmp 15) (by rfl) b 15 (by rfl) [.int .i64 C,.int .i64 li,.int .i64 D,.int .i64 rc] _ (fun q v i=>qc g (o.out q v i) O) Tryz.underlying143 rfl (by kernel_rfl)) ?_;with_reducible rfl
   refine stp 8 fun K H=>?_;go_simp;refine (d.out _).mono ?_;rintro e W5 ⟨rfl,A⟩;refine H.out _ _ ?_ (fun a=>?_)
   ·exact a.trans (A.mono a.size)
   clear H K
   try simp only[Act.put,pb,pz,ps]
   refine tp 9 a ?_;refine tp 10 a ?_;refine tp 11 a ?_;refine tp 12 a ?_;refine tp 13 a ?_;refine tp 14 a ?_;refine tpW 15 ?_;refine zaa (by kernel_rfl) ?_ _;have s:=hid a;clear a;go_wp2_with fail
   go_meet
   case rel=>exact ⟨rfl,k.out.trans (s.out.mono k.out.size)⟩
 case rest=>
  obtain ⟨c,J⟩:=hcut;have f:=hid J;clear J;by_cases hc:l.rise.leader<0∨zbs l.put l.rise=false
  ·have p:F=.tuple #[(),(),false]:=by rw[m.out];unfold zg5;rw[if_pos hc]
   have X:ss=[]:=by rw[G.out];unfold zc0;rw[if_pos hc]
   rw[p] at c;injection c with c
   injection c with c
   obtain ⟨P,Q,S⟩:u5=.int .i64 0∧u6=.int .i64 0∧u7=.bool false:=by simpa [eq_comm] using c
   subst P Q S X;clear hc p c;go_wp2_with fail
   go_ret;exact ⟨none,0,rfl,Sl.none0 _ _ _,Z.out.step (Chg.of (fun _=>False) f.out) (fun _ _=>id) (fun _ _=>rfl),Chg.of _ f.out⟩
  ·have p:F=.tuple #[C,D,true]:=by rw[m.out];unfold zg5;rw[if_neg hc,←r.out]
   have X:ss=[⟨0,0,C,D,0,0,0⟩]:=by rw[G.out];unfold zc0;rw[if_neg hc,←r.out];rfl
   rw[p] at c;injection c with c
   injection c with c
   obtain ⟨P,Q,S⟩:u5=.int .i64 C∧u6=.int .i64 D∧u7=.bool true:=by simpa [eq_comm] using c
   subst P Q S X;clear hc p c;go_wp2_with fail
   go_ret;obtain ⟨wy,hwy⟩:=nm (wc);refine ⟨some ⟨wc,0,none⟩,1,rfl,(RowAt.of_blk (R:=fun y=>W.heap.size≤y) (Ac.Blk.new wc 151 #[(),(),C,D,.int .u32 0,(),()]) rfl (show 1≤maxLen by unfold maxLen;omega) f.out.size).sl,?_,?_⟩
   ·exact Z.out.step (Chg.of (fun _=>False) (f.out.alloc f.out.size _)) (fun _ _=>id) (fun _ _=>rfl)
   ·exact Chg.of _ (f.out.alloc f.out.size _)
def zgs (H:House) (a:Acc) (l:LotS) (os:List Off):Int:=match zaZ os with|none=>2|some c=>if c<zbJ l.put H.now then 7 else if a.free<zbJ l.put H.now then 8 else 0
def zd2 (H:House) (l:LotS):LotS:={l with price:=zbJ l.put H.now}
def zlk (H:House) (i j:Nat) (l:LotS):House:=zcD {H with lots:=H.lots.set j (zd2 H l),due:=upd H.due j none} j (zd2 H l) [zem i (zbJ l.put H.now)]
theorem zlN {W:World} {T:Nat→Part} {h pn pc K:Nat} {va vl vb vs:Value} {H:House} {bl ba ma:Nat→Nat} {i j:Nat} {a:Acc} {l:LotS} (hat:AtIt W T h pn pc va vl vb vs K H bl ba ma i j a l) (o:OrderR) (hoi:o.bidder=i) (hoj:o.lot=j) {A:Option Addr} {c:Nat} {R:Nat→Prop} (hO:zad W R (.slice A o.offers.length c) o.offers) (hAO:zbb H.accs) (hjm:j≤4096) (hfl:zbd l.put=true) {due:Int} (hdue:H.due j=some due) (hst:∀s∈l.stands,0≤s.bidder∧s.bidder<H.accs.length) (E:K+l.stands.length<maxLen) (hsm:H.sales.length+1≤1000000):
  Calls Tryz.prog 232 #[.agg #[],.pointer (some ⟨h,0,none⟩),.pointer (some ⟨bl j,0,none⟩),.pointer (some ⟨ba i,0,none⟩),o.agg (.slice A o.offers.length c)] W fun e W'=>
   (zgs H a l o.offers≠0∧e=.returned (.tuple #[(),(zgs H a l o.offers:Int)])∧Below W W W')∨
   (zgs H a l o.offers=0∧e=.returned (.tuple #[(zbJ l.put H.now:Int),()])∧∃T',zaf W' T' h (K+l.stands.length) (zlk H i j l)∧Moves W T W' T'):=by
 have hok:a.Ok:=(hAO a (mG hat.acc)).1;obtain ⟨p,hp⟩:=nm (zbJ l.put H.now);have HP:=hid hp;obtain ⟨er,G⟩:=nm (zgs H a l o.offers);rw[←G,←hp];unfold zgs at G;rw[←hp] at G;have D:=hid G;have HAO:=hid hAO;have HJM:=hid hjm;have HFL:=hid hfl;have HDUE:=hid hdue;have HSTD:=hid hst;have HKM:=hid E;have HSM:=hid hsm;clear hp G hAO hjm hfl hdue hst E hsm;obtain ⟨W1,F⟩:=nm ((W.alloc (.cells #[] 246)).alloc (.cells (o.cells (.slice A o.offers.length c)).toArray 61));have S:Below W W W1:=by rw[F];exact (qA _).alloc (by simp) _
 have hx:Ac.Blk W1 (W.heap.size+1) 61 (o.cells (.slice A o.offers.length c)).toArray:=by rw[F];exact Ac.Blk.new' _ _ (by simp)
 have C:=hid hat;have HB1:=hid S;have HOK:=hid hok;have HOI:=hid hoi;have HOJ:=hid hoj;obtain ⟨okind,oname,ocoins,J,olot,⟨kind,opens,closes,start,step,extend,last,floor,fall,count,rule⟩,r,otick⟩:=o;simp only at hO hoi hoj;have HO1:=hid (zad.grow hO S);have HSI:=hid (zdc (zad.grow hO S));simp only at D;simp only[OrderR.agg,OrderR.cells,LotR.cells,List.cons_append,List.nil_append] at F hx ⊢;have x16:W1.cell? ⟨W.heap.size+1,16,none⟩=some (.slice A r.length c):=hx.cell 16;have xl:=hx.lt;have HX1:=hid hx;clear hat S hok hO hx hoi hoj;go_enter Tryz.func232,Tryz.ntmps232;go_wp2_with fail
 rw[←F];clear F;refine HSI.out.mono ?_;rintro e L ⟨rfl,hb2⟩;have HX2:=hid (HX1.out.grow hb2);have M:=hid (HB1.out.trans (hb2.mono HB1.out.size));clear hb2 x16 xl
 cases Y:zaZ r with
 |none=>
  have h2:er=2:=by rw[D.out];simp[Y]
  subst h2;have hv:zaV r=.tuple #[(),false]:=by unfold zaV;rw[Y]
  rw[hv];clear hv Y;go_wp2_with fail
  go_ret2
  exact .inl ⟨by omega,rfl,M.out⟩
 |some co=>
 have hv:zaV r=.tuple #[co,true]:=by unfold zaV;rw[Y]
 rw[hv];have HSN:=hid Y;clear hv Y;have g:=C.out.grow M.out;have HAT2:=hid g;obtain ⟨v,Z,f,_⟩:=g.lots j l g.lot;have HLB:=hid f;have lb:=f.lt;have HACC:=hid (g.accs i a g.acc).1;have HCAL:=hid g.house.cal;obtain ⟨c0,c1,c2,c3,c4,c5,hh⟩:=g.house.cells;have HR1:=hid (Blk.range f 0 [.int .i64 l.put.kind,.int .i64 l.put.opens,.int .i64 l.put.closes,.int .i64 l.put.start,.int .i64 l.put.step,.int .i64 l.put.extend,.int .i64 l.put.last,.int .i64 l.put.floor,.int .i64 l.put.fall,.int .i64 l.put.count,.int .i64 l.put.rule] (fun q v hq=>by
  rcases q with _|_|_|_|_|_|_|_|_|_|_|q<;>first|exact hq|(simp at hq)))
 obtain ⟨now,I⟩:=nm (H.now);obtain ⟨fr,hfr⟩:=nm (a.free);have HFREE:=hid (fun (w:World) (hb:Below L L w)=>(show Calls Tryz.prog 164 #[.pointer (some ⟨ba i,0,none⟩)] w fun e W'=>e=.returned ↑fr∧Below w w W' from hfr▸ze4 (HACC.out.grow hb) HOK.out));have HNOW:=hid (fun (w:World) (hb:Below L L w)=>(show Calls Tryz.prog 118 #[.pointer (some ⟨pc,0,none⟩)] w fun e W'=>e=.returned ↑now∧W'=w from I▸zc3 (HCAL.out.grow hb)));have HPR:=hid (show ∀w,Calls Tryz.prog 236 #[l.put.agg,now] w fun e w'=>∃er,e=.returned (.tuple #[p,(er:Int)])∧Below w w w' by
  rw[I,HP.out];exact znI HFL.out H.now)
 obtain ⟨LP,hLP⟩:=nm (l.put);rw[←hLP] at HR1 HPR;have HLP:=hid hLP;obtain ⟨pk,po,pcl,ps,pt,pe,pa,pf,pl,pnn,pr⟩:=LP;simp only[LotR.agg,LotR.cells] at HR1 HPR;have O:=hid Z;have HFR:=hid hfr;clear g Z f I hfr hLP c0 c1 c2 c4 c5
 go_upto_region 4 with fail
 go_cut [14,15] from 16 to 68 (fun s14 s15 wx=>s14=.int .i64 p∧Below L L wx)
 case first=>
  refine zac (Below L L) [] (by kernel_rfl) (bR.drew) (fun d=>?_);refine tp 0 d ?_;refine tp 1 d ?_;refine tp 2 d ?_;refine tx 3 (v:=?_) d ?_ ?_
  rotate_left
  ·intro w' B;refine Eq.trans (zbp 58 (.tmp 27) (by rfl) (bl j) 0 (by rfl) [.int .i64 pk,.int .i64 po,.int .i64 pcl,.int .i64 ps,.int .i64 pt,.int .i64 pe,.int .i64 pa,.int .i64 pf,.int .i64 pl,.int .i64 pnn,.int .i64 pr] _ (fun q v hq=>qc B (HR1.out q v hq) lb) Tryz.underlying58 rfl (by kernel_rfl)) ?_;with_reducible rfl
  refine tp 4 d ?_;refine tp 5 d ?_;refine tp 6 d ?_;refine tp 7 d ?_;have qq:=hid fun (w':World) (B:(Below L L) w')=>qc B c3 hh;refine tl 8 d qq ?_;refine stp 9 fun K E=>?_;go_simp;refine (HNOW.out _ d).mono ?_;rintro e W4 ⟨rfl,hw4⟩;rw[hw4];clear hw4;refine E.out _ _ ?_ (fun d=>?_)
  ·exact d
  clear E K
  try simp only[Act.put,pb,pz,ps]
  refine stp 10 fun K E=>?_;go_simp;refine (HPR.out _).mono ?_;rintro e W5 ⟨ez,rfl,hb5⟩;refine E.out _ _ ?_ (fun d=>?_)
  ·exact d.trans (hb5.mono d.size)
  clear E K
  try simp only[Act.put,pb,pz,ps]
  refine tp 11 d ?_;refine tp 12 d ?_;refine tp 13 d ?_;refine tp 14 d ?_;refine tp 15 d ?_;refine zaa (by kernel_rfl) ?_ _;have HSF:=hid d;clear d;go_wp2_with fail
  go_meet
  case rel=>exact ⟨rfl,HSF.out⟩
 case rest=>
 rename World=>wd;obtain ⟨rfl,V⟩:=hcut;have HBX:=hid (M.out.trans (V.mono M.out.size));have HX3:=hid (HX2.out.grow V);have HB3:=hid V;clear V;by_cases h7:co<p
 ·have d7:decide (co<p)=true:=decide_eq_true h7;have he:er=7:=by rw[D.out];simp[HSN.out,h7]
  subst he;clear h7;go_wp2_with fail
  go_ret2
  exact .inl ⟨by omega,rfl,HBX.out⟩
 have d7:decide (co<p)=false:=decide_eq_false h7;have H7:=hid h7;clear h7;go_wp2_with fail
 refine (HFREE.out _ HB3.out).mono ?_;rintro e W6 ⟨rfl,hb6⟩;have HB6:=hid (HBX.out.trans (hb6.mono HBX.out.size));have HX6:=hid (HX3.out.grow hb6);clear hb6;by_cases h8:fr<p
 ·have d8:decide (p>fr)=true:=decide_eq_true h8;have he:er=8:=by rw[D.out];simp[HSN.out,H7.out,←HFR.out,h8]
  subst he;clear h8;go_wp2_with fail
  go_ret2
  exact .inl ⟨by omega,rfl,HB6.out⟩
 have d8:decide (p>fr)=false:=decide_eq_false h8;have he:er=0:=by rw[D.out];simp[HSN.out,H7.out,←HFR.out,h8]
 subst he;clear h8;have m:=C.out.grow HB6.out;obtain ⟨v,Z,f,hstd⟩:=m.lots j l m.lot;have d19:W6.cell? ⟨bl j,19,none⟩=some ↑l.price:=f.cell 19;have f19:W6.frozen? ⟨bl j,19,none⟩=false:=f.frozen 19;have lb6:=f.lt;have HBLK:=hid f;have HSTA:=hid hstd;have k:=hid m;clear m Z f hstd
 go_upto_region 10 with fail
 obtain ⟨t,P⟩:=nm (W6.setCell ⟨bl j,19,none⟩ ↑p);rw[←P];have n:Chg (·=bl j) W6 t:=by rw[P];exact Chg.set W6 ⟨bl j,19,none⟩ _
 have hb7:Ac.Blk t (bl j) 145 ((zd2 H l).cells v).toArray:=by rw[P];unfold zd2;rw[←HP.out];exact HBLK.out.set_ 19 ↑p
 have X:Chg (fun b=>T b=.lot j) W6 t:=n.mono fun b _ e=>e▸O.out;have hh7:=zee k.out.house k.out.lrow k.out.lots (gS.1 k.out.lot).1 (U:=t) (T':=T) (l:=zd2 H l) ⟨v,O.out,hb7,zaM.stepB HSTA.out O.out n⟩ X (fun _ _=>rfl) (fun b hb=>k.out.house.out b (lT X.size hb));have hno:∀x,W.heap.size≤x→T x=.no:=fun x hx=>C.out.house.out x hx;have HNO:=hid hno;have aa:=HX6.out.chg n (fun e=>by
  have h1:=hno (W.heap.size+1) (by omega);rw[e,O.out] at h1
  cases h1)
 have HH7:=hid hh7;have HX7:=hid aa;have HC7:=hid X;obtain ⟨k0,k1,k2,k3,k4,k5,lh7⟩:=hh7.cells;have y4:t.cell? ⟨W.heap.size+1,4,none⟩=some ↑olot:=aa.cell 4;rw[HOJ.out] at y4;have lx7:=aa.lt;have HDROP:=hid (fun (w:World) (hb:Below t t w)=>(show Calls Tryz.prog 237 #[.pointer (some ⟨pc,0,none⟩),j] w fun e z=>(e=.returned ↑())∧HouseAt z T h pn pc va vl vb vs K {H with lots:=H.lots.set j (zd2 H l),due:=upd H.due j none}∧Chg (fun b=>T b=.cal) t z from by
  refine (zqm (HH7.out.cal.grow hb) HDUE.out).mono ?_;rintro e z ⟨rfl,hcal,hcg⟩;have hcc:=(Chg.of (fun b=>T b=.cal) hb).trans hcg;exact ⟨rfl,zkP HH7.out hcal hcc,hcc⟩))
 clear P n hb7 X hh7 aa hno k0 k1 k2 k4 k5 d19 f19 lb6
 go_cut [] from 16 to 68 (fun wx=>HouseAt wx T h pn pc va vl vb vs K {H with lots:=H.lots.set j (zd2 H l),due:=upd H.due j none}∧Chg (fun b=>T b=.cal) t wx)
 case first=>
  refine zac (Below t t) [7] (by kernel_rfl) (bR.drew) (fun d=>?_);refine tpD [1,2,3,4,7] 0 d ?_;refine tpD [2,3,4,7] 1 d ?_;refine tpD [3,4,7] 2 d ?_;refine tpD [4,7] 3 d ?_;have qq:=hid fun (w':World) (B:(Below t t) w')=>And.intro (qc B k3 lh7)<|qc B y4 lx7;refine tl 4 d qq ?_;refine tpD [6,7] 5 d ?_;refine tl 6 d qq ?_;refine stf 7 fun K E=>?_;go_simp;refine (HDROP.out _ d).mono ?_;rintro e z ⟨rfl,hR⟩;refine E.out _ _ ?_;clear E K
  try simp only[Act.put,pb,pz,ps]
  refine zaa (by kernel_rfl) ?_ _;clear d;go_wp2_with fail
  go_meet
  case rel=>exact hR
 case rest=>
 rename World=>z;obtain ⟨hh8,hc8⟩:=hcut;have HH8:=hid hh8;have HC8:=hid hc8;have ab:=HX7.out.chg hc8 (by rw[HNO.out _ (by omega)];simp);have y3:z.cell? ⟨W.heap.size+1,3,none⟩=some ↑J:=ab.cell 3;rw[HOI.out] at y3;have y4':z.cell? ⟨W.heap.size+1,4,none⟩=some ↑olot:=ab.cell 4;rw[HOJ.out] at y4';have lx8:=ab.lt;obtain ⟨V9,Q⟩:=nm (z.alloc (.cells #[(),(),i,p,.int .u32 0,(),()] 151));have hb9:Below z z V9:=by rw[Q];exact qA _
 have hs9:Ac.Blk V9 z.heap.size 151 #[(),(),i,p,.int .u32 0,(),()]:=by rw[Q];exact Ac.Blk.new _ _ _
 have hil:=(gS.1 C.out.acc).1;have hjl:=(gS.1 C.out.lot).1;have N:=hid (show Calls Tryz.prog 125 #[.pointer (some ⟨h,0,none⟩),j,.slice (some ⟨z,0,none⟩) 1 1] V9 fun e W'=>e=.returned (.tuple #[])∧∃T',zaf W' T' h (K+l.stands.length) (zlk H i j l)∧Moves W T W' T' from by
  refine (zjo (sales:=[zem i p]) (l:=zd2 H l) (HH8.out.grow hb9) (List.getElem?_set_self hjl) HSTD.out (RowAt.of_blk (R:=fun y=>y=z.heap.size) hs9 rfl (show 1≤maxLen by unfold maxLen;omega) rfl).sl (fun b e=>by rw[e];exact HH8.out.out _ lR) (fun s Y=>by rw[List.mem_singleton] at Y;rw[Y];exact ⟨Int.natCast_nonneg i,Int.ofNat_lt.2 hil⟩) HAO.out HKM.out HSM.out HJM.out).mono ?_;rintro e W' ⟨rfl,T',hH',hM'⟩;refine ⟨rfl,T',?_,Moves.trans ⟨((Chg.of (Own T) HB6.out).trans (HC7.out.mono fun b _ e=>by unfold Own;rw[e];simp)).trans ((HC8.out.mono fun b _ e=>by unfold Own;rw[e];simp).grow hb9),fun _ _=>rfl⟩ hM'⟩;unfold zlk;rw[←HP.out];exact hH')
 clear hh8 hc8 ab hb9 hs9 hil hjl;go_wp2_with fail
 rw[←Q];clear Q;refine N.out.mono ?_;rintro e W' ⟨rfl,hR⟩;have HR:=hid hR;clear hR;go_wp2_with fail
 go_ret2
 exact ⟨rfl,HR.out⟩
theorem znN {W:World} {T:Nat→Part} {h pn pc K:Nat} {va vl vb vs:Value} {H:House} (L:HouseAt W T h pn pc va vl vb vs K H) (o:OrderR) {A:Option Addr} {c:Nat} (M:(o.bidder<0∨(H.accs.length:Int)≤o.bidder)∨(o.lot<0∨(H.lots.length:Int)≤o.lot)):
  Calls Tryz.prog 98 #[.pointer (some ⟨h,0,none⟩),o.agg (.slice A o.offers.length c)] W fun e W'=>e=.returned (.tuple #[(),(4:Int)])∧Below W W W':=by
 obtain ⟨J,a⟩:=nm (W.alloc (.cells (o.cells (.slice A o.offers.length c)).toArray 61));have l:Below W W J:=by rw[a];exact qA _
 have I:Ac.Blk J W.heap.size 61 (o.cells (.slice A o.offers.length c)).toArray:=by rw[a];exact Ac.Blk.new _ _ _
 have b:=zlP (L.grow l) o (.slice A o.offers.length c) M;have s:=hid l;obtain ⟨m,n,i,d,z,⟨x,p,f,r,D,g,y,k,t,j,C⟩,B,q⟩:=o;simp only[OrderR.agg,OrderR.cells,LotR.cells,List.cons_append,List.nil_append] at a I b ⊢;have G:=hid I;have F:=hid b;clear L l I M b;go_enter Tryz.func98,Tryz.ntmps98
 go_wp2_with (refine wpList_load_row rfl 61 (.tmp 3) rfl W.heap.size rfl 61 #[m,.string n,i,d,z,x,p,f,r,D,g,y,k,t,j,C,.slice A B.length c,q] (0,0) _ (by rw[←a];exact G.out) Tryz.underlying61 rfl (by kernel_rfl) ?_)
 rw[←a];clear a;refine F.out.mono ?_;rintro e N ⟨rfl,v⟩;have E:=hid (s.out.trans (v.mono s.out.size));clear v;go_wp2_with fail
 go_ret2
 exact ⟨rfl,E.out⟩
theorem znO {W:World} {T:Nat→Part} {h pn pc K:Nat} {va vl vb vs:Value} {H:House} {bl X Z:Nat→Nat} {i j:Nat} {a:Acc} {l:LotS} (C:AtIt W T h pn pc va vl vb vs K H bl X Z i j a l) (o:OrderR) (E:o.bidder=i) (F:o.lot=j) {A:Option Addr} {c:Nat} (U:¬runs H l):
  Calls Tryz.prog 98 #[.pointer (some ⟨h,0,none⟩),o.agg (.slice A o.offers.length c)] W fun e W'=>e=.returned (.tuple #[(),(6:Int)])∧Below W W W':=by
 obtain ⟨S,d⟩:=nm (W.alloc (.cells (o.cells (.slice A o.offers.length c)).toArray 61));have r:Below W W S:=by rw[d];exact qA _
 have R:Ac.Blk S W.heap.size 61 (o.cells (.slice A o.offers.length c)).toArray:=by rw[d];exact Ac.Blk.new _ _ _
 have b:=C.grow r;have f:=zhQ b.house o (.slice A o.offers.length c) b.arow b.lrow E F (gS.1 b.acc).1 b.lot (b.lots j l b.lot);have z:=hid r;obtain ⟨s,t,n,g,J,⟨G,v,k,y,N,m,I,q,B,p,M⟩,L,x⟩:=o;simp only[OrderR.agg,OrderR.cells,LotR.cells,List.cons_append,List.nil_append] at d R f ⊢;have Q:=hid R;have P:=hid f;have V:=hid (Classical.not_not.1 U);clear C r R U b f E F;go_enter Tryz.func98,Tryz.ntmps98
 go_wp2_with (refine wpList_load_row rfl 61 (.tmp 3) rfl W.heap.size rfl 61 #[s,.string t,n,g,J,G,v,k,y,N,m,I,q,B,p,M,.slice A L.length c,x] (0,0) _ (by rw[←d];exact Q.out) Tryz.underlying61 rfl (by kernel_rfl) ?_)
 rw[←d];clear d;refine P.out.mono ?_;rintro e W2 ⟨D,⟨_,rfl⟩|⟨Y,_⟩⟩
 ·have O:=hid (z.out.trans (D.mono z.out.size));clear D;go_wp2_with fail
  go_ret2
  exact ⟨rfl,O.out⟩
 ·exact absurd V.out Y
def zhM (l:LotS) (i:Int):Int:=if l.put.kind=1∨l.put.kind=2 then 9 else match zaS i l.stands with|none=>4|some _=>0
def zgm (l:LotS) (i:Int):LotS:={l with stands:=zbC i l.stands}
def znF (H:House) (i j:Nat) (a:Acc) (l:LotS):House:={H with accs:=H.accs.set i (a.set j 0),lots:=H.lots.set j (zgm l i)}
theorem zkL {W:World} {T:Nat→Part} {h pn pc K:Nat} {va vl vb vs:Value} {H:House} {bl ba ma:Nat→Nat} {i j:Nat} {a:Acc} {l:LotS} (ak:AtIt W T h pn pc va vl vb vs K H bl ba ma i j a l) (o:OrderR) (hoi:o.bidder=i) (hoj:o.lot=j) {A:Option Addr} {c:Nat} (hr:runs H l) (hjm:j≤4096) (hK:K+1<maxLen) (hsm:l.stands.length≤1000000):
  Calls Tryz.prog 98 #[.pointer (some ⟨h,0,none⟩),o.agg (.slice A o.offers.length c)] W fun e W'=>
   (zhM l i≠0∧e=.returned (.tuple #[(),(zhM l i:Int)])∧Below W W W')∨
   (zhM l i=0∧e=.returned (.tuple #[(),()])∧∃T',zaf W' T' h (K+1) (znF H i j a l)∧Moves W T W' T'):=by
 obtain ⟨er,P⟩:=nm (zhM l i);rw[←P];unfold zhM at P;have af:=hid P;obtain ⟨W1,D⟩:=nm (W.alloc (.cells (o.cells (.slice A o.offers.length c)).toArray 61));have al:Below W W W1:=by rw[D];exact qA _
 have hx:Ac.Blk W1 W.heap.size 61 (o.cells (.slice A o.offers.length c)).toArray:=by rw[D];exact Ac.Blk.new _ _ _
 have f:=ak.grow al;have G:=zhQ f.house o (.slice A o.offers.length c) f.arow f.lrow hoi hoj (gS.1 f.acc).1 f.lot (f.lots j l f.lot);have HB1:=hid al;have E:=hid ak;have HJM:=hid hjm;have HKM:=hid hK;have HSM:=hid hsm;have HOI:=hid hoi;have HOJ:=hid hoj;obtain ⟨okind,oname,S,r,ad,⟨kind,opens,M,start,step,N,last,aj,fall,ai,rule⟩,ooff,otick⟩:=o;simp only at HOI HOJ;simp only[OrderR.agg,OrderR.cells,LotR.cells,List.cons_append,List.nil_append] at D hx G ⊢;have HX1:=hid hx;have HCN:=hid G;have HR:=hid hr;clear ak al hx hr f G hoi hoj P hjm hK hsm;go_enter Tryz.func98,Tryz.ntmps98
 go_wp2_with (refine wpList_load_row rfl 61 (.tmp 3) rfl W.heap.size rfl 61 #[okind,.string oname,S,r,ad,kind,opens,M,start,step,N,last,aj,fall,ai,rule,.slice A ooff.length c,otick] (0,0) _ (by rw[←D];exact HX1.out) Tryz.underlying61 rfl (by kernel_rfl) ?_)
 rw[←D];clear D;refine HCN.out.mono ?_;rintro e W2 ⟨am,⟨Z,_⟩|⟨_,rfl⟩⟩
 ·exact absurd Z HR.out
 have F:=hid (HB1.out.trans (am.mono HB1.out.size));have ah:=hid (HX1.out.grow am);have y:=E.out.grow F.out;have X:=hid y;obtain ⟨v,R,d,hstd⟩:=y.lots j l y.lot;obtain ⟨kk,hkk⟩:=nm (l.put.kind);have l0:W2.cell? ⟨bl j,0,none⟩=some ↑kk:=hkk▸d.cell 0;have lb:=d.lt;have ag:=hid hkk;clear am y R d hstd hkk;by_cases k1:kk=1
 ·have d1:(kk==1)=true:=by simpa using k1
  have he:er=9:=by rw[af.out,if_pos (.inl (ag.out▸k1))]
  have K1:=hid k1;subst he;clear k1;go_wp2_with fail
  go_ret2
  exact .inl ⟨by omega,rfl,F.out⟩
 have d1:(kk==1)=false:=by simpa using k1
 by_cases k2:kk=2
 ·have d2:(kk==2)=true:=by simpa using k2
  have he:er=9:=by rw[af.out,if_pos (.inr (ag.out▸k2))]
  have K2:=hid k2;subst he;clear k2 k1;go_wp2_with fail
  go_ret2
  exact .inl ⟨by omega,rfl,F.out⟩
 have d2:(kk==2)=false:=by simpa using k2
 have HE2:=hid (show er=match zaS i l.stands with|none=>4|some _=>0 by
  rw[af.out,if_neg];rw[←ag.out];exact fun e=>e.elim k1 k2)
 have HPL:=hid (fun w (hb:Below W2 W2 w)=>zhp (((X.out.lots j l X.out.lot)).step (W':=w) (T':=T) (Chg.of (fun _=>False) hb) (fun _ _=>id) (fun _ _=>rfl)) (i:Int));have x3:W2.cell? ⟨W,3,none⟩=some ↑r:=ah.out.cell 3;have xl:=ah.out.lt;rw[HOI.out] at x3;clear k1 k2;go_wp2_with fail
 refine (HPL.out _ bR).mono ?_;rintro e W3 ⟨rfl,an⟩;have ae:=hid (F.out.trans (an.mono F.out.size));have HX3:=hid (ah.out.grow an);clear an l0 lb d1 d2 x3 xl
 cases hpl:zaS (i:Int) l.stands with
 |none=>
  have he:er=4:=by rw[HE2.out,hpl]
  have hp:zbV (i:Int) l.stands=-1:=by unfold zbV;rw[hpl]
  rw[hp];subst he;clear hp hpl;go_wp2_with fail
  go_ret2
  exact .inl ⟨by omega,rfl,ae.out⟩
 |some k=>
 have he:er=0:=by rw[HE2.out,hpl]
 have hp:zbV (i:Int) l.stands=k:=by unfold zbV;rw[hpl]
 rw[hp];subst he;have HRS:=hid (show zbC (i:Int) l.stands=l.stands.eraseIdx k by unfold zbC;rw[hpl]);obtain ⟨sk,hsk,_,_⟩:=zei hpl;have hkl:=(gS.1 hsk).1;have B:=E.out.grow ae.out;have g:=hid B;obtain ⟨v,R,d,vo,Q,hof⟩:=B.lots j l B.lot;obtain ⟨q,I,hq,_⟩:=Q.ex (by omega);subst hq;have t:=hid (zjT Q hof hkl);have HVO:=hid (zhl hof k);have HQQ:=hid (Q.blk q rfl);have HTB:=hid R;obtain ⟨n0,hn0⟩:=nm (l.stands.length);rw[←hn0] at t d;have HBLK:=hid d;obtain ⟨rest,s⟩:=nm (l.stands.eraseIdx k);rw[←s] at t HVO;obtain ⟨m,hm⟩:=nm (rest.length);rw[←hm] at t;have HM:=hid hm;have HRE:=hid s;have l14:W3.cell? ⟨bl j,14,none⟩=some (.slice (some ⟨q,0,none⟩) n0 I):=d.cell 14;have lb:=d.lt;have hwk:IntKind.i64.wrap ((k:Int)+1)=(k:Int)+1:=iW _ (by have:=HSM.out;omega);have hk0:decide ((k:Int)<0)=false:=decide_eq_false (by omega);clear hp hpl hsk hkl B R d Q hof hn0 s hm;go_wp2_with fail
 refine t.out.mono ?_;rintro e W4 ⟨rfl,ac,ao⟩;have C:=HBLK.out.chg ao HQQ.out.2.symm;have f14:=C.frozen 14;have d14:W4.cell? ⟨bl j,14,none⟩=some (.slice (some ⟨q,0,none⟩) n0 I):=C.cell 14;obtain ⟨L,O⟩:=nm (W4.setCell ⟨bl j,14,none⟩ (.slice (some ⟨q,0,none⟩) m I));have J:Chg (·=bl j) W4 L:=by rw[O];exact Chg.set W4 ⟨bl j,14,none⟩ _
 have p:Chg (fun b=>T b=.lot j) W3 L:=(ao.mono (Y:=fun b=>T b=.lot j) fun b _ e=>e▸HQQ.out.1).step J fun b _ e=>e▸HTB.out;have hbV:Ac.Blk L (bl j) 145 ((zgm l i).cells (.slice (some ⟨q,0,none⟩) m I)).toArray:=by rw[O];exact C.set_ 14 _
 have hsV:zaM L T (fun x=>T x=.lot j∧x≠bl j) (.slice (some ⟨q,0,none⟩) m I) (zgm l i).stands:=by
  unfold zgm;rw[HRS.out,←HRE.out];refine ⟨_,?_,HVO.out.step (T':=T) p (fun b e=>by rw[e];simp) fun _ _=>rfl⟩;have:=(ac.chg J fun b _ Z e=>Z.2 e);rw[←HM.out];exact this
 have hh5:=zee g.out.house g.out.lrow g.out.lots (gS.1 g.out.lot).1 (U:=L) (T':=T) (l:=zgm l i) ⟨_,HTB.out,hbV,hsV⟩ p (fun _ _=>rfl) (fun b hb=>g.out.house.out b (lT p.size hb));have aa:RowAt L (fun b=>T b=.accs) 136 1 va H.accs.length (ptrs ba H.accs.length):=g.out.arow.step p (fun b e=>by rw[e];simp) fun _ _=>rfl;have ab:∀n z,H.accs[n]? =some z→AccAt L (ba n) (ma n) K z∧T (ba n)=.acc n∧T (ma n)=.acc n:=fun n z hn=>by
  obtain ⟨Z,h2,h3⟩:=g.out.accs n z hn;exact ⟨Z.chg p (by rw[h2];simp) (by rw[h3];simp),h2,h3⟩
 have hx5:=HX3.out.chg p (fun e=>by
  rw[E.out.house.out _ lR] at e
  cases e)
 have y4:L.cell? ⟨W,4,none⟩=some ↑ad:=hx5.cell 4;rw[HOJ.out] at y4;have HH5:=hid hh5;have HAR5:=hid aa;have V:=hid ab;have HCV:=hid p;have HREL:=hid (show Calls Tryz.prog 123 #[.pointer (some ⟨ba i,0,none⟩),j] L fun e V6=>(∃z,e=.returned z)∧∃T',zaf V6 T' h (K+1) (znF H i j a l)∧Moves W T V6 T' from by
  refine (zfm (V.out i a E.out.acc).1 (by have:=HKM.out;omega) (x:=(j:Int)) (by have:=HJM.out;omega)).mono ?_;rintro e V6 (⟨hx,_⟩|⟨_,rfl,ha1,hc1⟩)
  ·omega
  ·have Z:=ziz HH5.out HAR5.out V.out E.out.acc ha1 hc1;exact ⟨⟨_,rfl⟩,T,⟨_,_,_,_,_,_,Z.1⟩,Moves.trans ⟨(Chg.of (Own T) ae.out).trans (HCV.out.mono fun b _ e=>by unfold Own;rw[e];simp),fun _ _=>rfl⟩ Z.2⟩)
 have HV5:=hid O;clear ac ao C J p hbV hsV hh5 aa ab hx5 O l14 lb
 go_upto_region 10 with fail
 rw[←HV5.out];clear f14 d14;go_wp2_with fail
 refine HREL.out.mono ?_;rintro e V6 ⟨⟨z,rfl⟩,hR⟩;have HRR:=hid hR;clear hR;go_wp2_with fail
 go_ret2
 exact ⟨rfl,HRR.out⟩
structure UnitR where
 (bid place coins:Int)
 deriving DecidableEq
def ztn (u:UnitR):List Value:=[.int .i64 u.bid,.int .i64 u.place,.int .i64 u.coins]
def zca (l:List UnitR):List Value:=l.flatMap ztn
theorem zdw:∀{l:List UnitR} {k:Nat} {d:UnitR},l[k]? =some d→(zca l)[k*3]? =some ↑d.bid∧(zca l)[k*3+1]? =some ↑d.place∧(zca l)[k*3+2]? =some ↑d.coins
 |[],_,_,h=>by simp at h
 |x::l,0,d,h=>by
  obtain rfl:x=d:=by simpa using h
  exact ⟨rfl,rfl,rfl⟩
 |x::l,k+1,d,h=>by
  have:=zdw (l:=l) (k:=k) (d:=d) (by simpa using h);rw[show (k+1)*3=k*3+3 by omega,show k*3+3+1=(k*3+1)+3 by omega,show k*3+3+2=(k*3+2)+3 by omega];exact this
theorem zk4:∀l:List UnitR,(zca l).length=l.length*3
 |[]=>rfl
 |x::l=>by
  show ((zca l).length+1+1+1:Nat)=_
  rw[zk4 l];simp;omega
theorem zk3 (l m:List UnitR):zca (l++m)=zca l++zca m:=by simp[zca]
theorem zfQ:∀(l:List UnitR) (k:Nat) (d:UnitR),zca (l.set k d)=(((zca l).set (k*3) ↑d.bid).set (k*3+1) ↑d.place).set (k*3+2) ↑d.coins
 |[],_,_=>by simp[zca]
 |x::l,0,d=>rfl
 |x::l,k+1,d=>by
  rw[show (k+1)*3=k*3+3 by omega,show k*3+3+1=(k*3+1)+3 by omega,show k*3+3+2=(k*3+2)+3 by omega]
  show [_,_,_]++zca (l.set k d)=_
  rw[zfQ l k d];rfl
def leU (a b:UnitR):Prop:=b.coins<a.coins∨(a.coins=b.coins∧(a.bid<b.bid∨(a.bid=b.bid∧a.place≤b.place)))
instance (a b : UnitR) : Decidable (leU a b) := inferInstanceAs (Decidable (_ ∨ _))
theorem zdK (a b c:UnitR) (h:leU a b) (k:leU b c):leU a c:=by unfold leU at*;omega
theorem zjx (a:UnitR):leU a a:=by unfold leU;omega
theorem zpt (a b:UnitR):leU a b∨leU b a:=by unfold leU;omega
theorem ztM {a b:UnitR} (h:leU a b) (k:leU b a):a=b:=by
 obtain ⟨c,d,e⟩:=a;obtain ⟨f,g,i⟩:=b;unfold leU at*;simp only at h k;obtain rfl:c=f:=by omega
 obtain rfl:d=g:=by omega
 obtain rfl:e=i:=by omega
 rfl
def ltU (a b:UnitR):Bool:=decide (¬leU b a)
theorem zhi {a b:UnitR} (h:ltU a b=true):leU a b:=(zpt a b).resolve_right (by simpa [ltU] using h)
theorem zf8 {a b:UnitR} (h:ltU a b=false):leU b a:=by simpa [ltU] using h
def zjC (x y z:Int):Int:=if x=0 then (if y=0 then z else y) else x
theorem zs3 (a b:UnitR):decide (zjC (-zb5 a.coins b.coins) (zb5 a.bid b.bid) (zb5 a.place b.place)<0)=ltU a b:=by
 unfold zjC zb5 ltU leU;rw[Bool.eq_iff_iff];simp only[decide_eq_true_eq]
 (repeat' split)<;>omega
theorem zty (a b:Int):zb5 a b=-1∨zb5 a b=0∨zb5 a b=1:=by
 unfold zb5
 (repeat' split)<;>simp
def zj7:Value:=.func (.func 268) #[] #[]
structure UnI (W:World) (R:Nat→Prop) (r:Nat) (v:Value) (F:Unit) (l:List UnitR):Prop where
 br:Ac.Blk W r 362 #[v,zj7]
 row:RowAt W (fun b=>R b∧b≠r) 355 3 v l.length (zca l)
 inR:R r
section
variable {W W':World} {R R' X:Nat→Prop} {r:Nat} {v:Value} {F:Unit} {l:List UnitR}
theorem UnI.chg (h:UnI W R r v F l) (hc:Chg X W W') (hX:∀b,b<W.heap.size→R b→¬X b):UnI W' R r v F l:=
 ⟨h.br.chg hc (hX _ h.br.lt h.inR),h.row.chg hc fun b hb hr=>hX b hb hr.1,h.inR⟩
theorem UnI.grow (h:UnI W R r v F l) (hb:Below W W W'):UnI W' R r v F l:=h.chg (Chg.of (fun _=>False) hb) fun _ _ _=>id
theorem UnI.mono (h:UnI W R r v F l) (hR:∀b,b<W.heap.size→R b→R' b):UnI W R' r v F l:=
 ⟨h.br,h.row.mono fun b hb hr=>⟨hR b hb hr.1,hr.2⟩,hR _ h.br.lt h.inR⟩
theorem UnI.at_ (h:UnI W R r v F l) {k:Nat} {d:UnitR} (b:l[k]? =some d):
  ∃q cap,v=.slice (some ⟨q,0,none⟩) l.length cap∧q<W.heap.size∧W.cell? ⟨q,k*3,none⟩=some ↑d.bid∧W.cell? ⟨q,k*3+1,none⟩=some ↑d.place∧W.cell? ⟨q,k*3+2,none⟩=some ↑d.coins∧W.frozen? ⟨q,k*3,none⟩=false∧W.frozen? ⟨q,k*3+1,none⟩=false∧W.frozen? ⟨q,k*3+2,none⟩=false∧l.length≤cap:=by
 have g:=(gS.1 b).1;obtain ⟨q,cap,c,_,f,e⟩:=h.row.ex (by omega);have a:=h.row.own;rw[c] at a;exact ⟨q,cap,c,f,(a.cellAt (k*3) (by omega)).trans (zdw b).1,(a.cellAt (k*3+1) (by omega)).trans (zdw b).2.1,(a.cellAt (k*3+2) (by omega)).trans (zdw b).2.2,a.frozenAt _,a.frozenAt _,a.frozenAt _,e⟩
end
def zfW (i:Nat) (b:List Int):List UnitR:=b.mapIdx fun k c=>⟨i,k,c⟩
def zch (bids:List (List Int)):List (List UnitR):=bids.mapIdx zfW
def zlr (bids:List (List Int)):List UnitR:=(zch bids).flatten
def zbe (bids:List (List Int)):List UnitR:=(zlr bids).mergeSort fun a b=>decide (leU a b)
def zeN (bids:List (List Int)) (p:Nat→Nat):List UnitR:=((zch bids).mapIdx fun i b=>b.drop (p i)).flatten
def zbK (bids:List (List Int)) (p:Nat→Nat):List UnitR:=((zch bids).mapIdx fun i b=>(b[p i]?).toList).flatten
def zbI (p:Nat→Nat) (i:Nat):Nat→Nat:=fun k=>if k=i then p k+1 else p k
theorem zdU {i k:Nat} {b:List Int}:(zfW i b)[k]? =(b[k]?).map fun c=>⟨i,k,c⟩:=by simp[zfW]
theorem zdu {i:Nat} {bids:List (List Int)}:(zch bids)[i]? =(bids[i]?).map (zfW i):=by simp[zch]
def zi4 (b:List Int):Prop:=∀(j k:Nat) (x y:Int),j≤k→b[j]? =some x→b[k]? =some y→y≤x
theorem zhP {α:Type} {L:List (List α)} {i:Nat} {y:List α} (h:L[i]? =some y):L.flatten.Perm (y++(L.eraseIdx i).flatten):=by
 induction L generalizing i with
 |nil=>simp at h
 |cons x L ih=>
  cases i with
  |zero=>
   obtain rfl:x=y:=by simpa using h
   simp
  |succ i=>
   have a:=ih (i:=i) (by simpa using h);rw[List.flatten_cons,List.eraseIdx_cons_succ,List.flatten_cons];refine (List.Perm.append_left x a).trans ?_;rw[←List.append_assoc,←List.append_assoc];exact List.Perm.append_right _ List.perm_append_comm
theorem zf4 {α:Type} {L M:List α} {i:Nat} (a:L.length=M.length) (h:∀j,j≠i→L[j]? =M[j]?):L.eraseIdx i=M.eraseIdx i:=by
 apply List.ext_getElem?
 intro j;rw[List.getElem?_eraseIdx,List.getElem?_eraseIdx]
 split
 ·exact h j (by omega)
 ·exact h (j+1) (by omega)
section
variable {bids:List (List Int)} {p:Nat→Nat} {i:Nat} {u:UnitR} {b:List Int} {pre:List UnitR}
theorem zpB (h:u∈zbK bids p):∃i b c,bids[i]? =some b∧b[p i]? =some c∧u=⟨i,p i,c⟩:=by
 obtain ⟨y,e,d⟩:=List.mem_flatten.1 h;obtain ⟨i,a⟩:=List.getElem?_of_mem e;rw[List.getElem?_mapIdx,zdu] at a
 cases hb:bids[i]? with
 |none=>rw[hb] at a;simp at a
 |some b=>
  rw[hb] at a;simp only[Option.map_some,Option.some.injEq] at a;subst a;rw[Option.mem_toList,zdU] at d
  cases hc:b[p i]? with
  |none=>rw[hc] at d;simp at d
  |some c=>
   rw[hc] at d;simp only[Option.map_some,Option.mem_some,Option.some.injEq] at d;exact ⟨i,b,c,hb,hc,d.symm⟩
theorem zlS {c:Int} (a:bids[i]? =some b) (d:b[p i]? =some c):(⟨i,p i,c⟩:UnitR)∈zbK bids p:=by
 refine List.mem_flatten.2 ⟨((zfW i b)[p i]?).toList,mG (i:=i) ?_,?_⟩
 ·rw[List.getElem?_mapIdx,zdu,a];rfl
 ·rw[Option.mem_toList,zdU,d];rfl
theorem ziP (h:u∈zeN bids p):∃i b k c,bids[i]? =some b∧p i≤k∧b[k]? =some c∧u=⟨i,k,c⟩:=by
 obtain ⟨y,f,e⟩:=List.mem_flatten.1 h;obtain ⟨i,a⟩:=List.getElem?_of_mem f;rw[List.getElem?_mapIdx,zdu] at a
 cases hb:bids[i]? with
 |none=>rw[hb] at a;simp at a
 |some b=>
  rw[hb] at a;simp only[Option.map_some,Option.some.injEq] at a;subst a;obtain ⟨k,d⟩:=List.getElem?_of_mem e;rw[List.getElem?_drop,zdU] at d
  cases hc:b[p i+k]? with
  |none=>rw[hc] at d;simp at d
  |some c=>
   rw[hc] at d;simp only[Option.map_some,Option.some.injEq] at d;exact ⟨i,b,p i+k,c,hb,by omega,hc,d.symm⟩
theorem zn3 (e:∀b∈bids,zi4 b) (f:∀x∈zbK bids p,leU u x):∀x∈zeN bids p,leU u x:=fun x hx=>by
 obtain ⟨i,b,k,c,hb,hk,hc,rfl⟩:=ziP hx;have hlt:p i<b.length:=by have:=(gS.1 hc).1;omega
 obtain ⟨y,a⟩:∃y,b[p i]? =some y:=⟨_,gE hlt⟩;have d:=f _ (zlS hb a);refine zdK _ _ _ d ?_;have g:=e b (mG hb) (p i) k y c hk a hc;unfold leU;simp only[true_and]
 omega
theorem rest_step {c:Int} (d:bids[i]? =some b) (h:b[p i]? =some c):(zeN bids p).Perm (⟨i,p i,c⟩::zeN bids (zbI p i)):=by
 unfold zeN;have e:((zch bids).mapIdx fun i b=>b.drop (p i))[i]? =some ((zfW i b).drop (p i)):=by rw[List.getElem?_mapIdx,zdu,d];rfl
 have f:((zch bids).mapIdx fun j b=>b.drop (zbI p i j))[i]? =some ((zfW i b).drop (p i+1)):=by rw[List.getElem?_mapIdx,zdu,d];simp[zbI]
 have g:(zfW i b).drop (p i)=(⟨i,p i,c⟩:UnitR)::(zfW i b).drop (p i+1):=by
  have a:(zfW i b)[p i]? =some (⟨i,p i,c⟩:UnitR):=by rw[zdU,h];rfl
  rw[List.drop_eq_getElem_cons (gS.1 a).1,(gS.1 a).2]
 refine (zhP e).trans ?_;rw[g,List.cons_append];refine List.Perm.cons (⟨i,p i,c⟩:UnitR) ?_;refine List.Perm.trans ?_ (zhP f).symm;have k:((zch bids).mapIdx fun i b=>b.drop (p i)).eraseIdx i=((zch bids).mapIdx fun j b=>b.drop (zbI p i j)).eraseIdx i:=zf4 (by simp) fun j l=>by
  rw[List.getElem?_mapIdx,List.getElem?_mapIdx]
  simp[zbI,l]
 rw[k]
def zdX (bids:List (List Int)) (p:Nat→Nat) (i:Nat):List UnitR:=(((zch bids).mapIdx fun i b=>(b[p i]?).toList).eraseIdx i).flatten
theorem zlR {c:Int} (a:bids[i]? =some b) (d:b[p i]? =some c):(zbK bids p).Perm (⟨i,p i,c⟩::zdX bids p i):=by
 refine zhP (y:=[(⟨i,p i,c⟩:UnitR)]) ?_;rw[List.getElem?_mapIdx,zdu,a]
 simp[zdU,d]
theorem zih:zdX bids (zbI p i) i=zdX bids p i:=by
 unfold zdX;have a:((zch bids).mapIdx fun j b=>(b[zbI p i j]?).toList).eraseIdx i=((zch bids).mapIdx fun j b=>(b[p j]?).toList).eraseIdx i:=zf4 (by simp) fun j c=>by
  rw[List.getElem?_mapIdx,List.getElem?_mapIdx]
  simp[zbI,c]
 rw[a]
theorem znR {c:Int} (d:bids[i]? =some b) (e:b[p i+1]? =some c):(zbK bids (zbI p i)).Perm (⟨i,((p i+1:Nat):Int),c⟩::zdX bids p i):=by
 have a:=zlR (p:=zbI p i) d (c:=c) (by simp[zbI,e]);rw[zih] at a
 simpa [zbI] using a
theorem znQ (a:bids[i]? =some b) (c:b[p i+1]? =none):(zbK bids (zbI p i)).Perm (zdX bids p i):=by
 rw[←zih];refine zhP (y:=[]) ?_;rw[List.getElem?_mapIdx,zdu,a]
 simp[zdU,zbI,c]
theorem zsX {a:List UnitR} (d:a.Pairwise leU) (b:u∈a) (c:∀x∈a,leU u x):∃rs',a=u::rs':=by
 cases a with
 |nil=>cases b
 |cons y rs'=>
  refine ⟨rs',?_⟩
  rcases List.mem_cons.1 b with e|e
  ·rw[e]
  ·rw[ztM (c y (.head _)) ((List.pairwise_cons.1 d).1 u e)]
theorem zmJ (bids:List (List Int)):(zbe bids).Pairwise leU:=by
 have h:=List.pairwise_mergeSort (le:=fun a b=>decide (leU a b)) (fun a b c d e=>decide_eq_true (zdK a b c (of_decide_eq_true d) (of_decide_eq_true e))) (fun a b=>by rcases zpt a b with h|h<;>simp[h]) (zlr bids);exact h.imp fun h=>of_decide_eq_true h
theorem zpG (bids:List (List Int)):(zbe bids).Perm (zlr bids):=List.mergeSort_perm _ _
structure ComesU (bids:List (List Int)) (pre:List UnitR) (p:Nat→Nat):Prop where
 rest:∃rs,zbe bids=pre++rs∧rs.Perm (zeN bids p)
theorem zg1 (bids:List (List Int)):ComesU bids [] fun _=>0:=⟨_,rfl,by
 have h1:=zpG bids;have h2:zeN bids (fun _=>0)=zlr bids:=by
  unfold zeN zlr
  congr 1
  apply List.ext_getElem?
  intro j;rw[List.getElem?_mapIdx]
  simp
 rw[h2];exact h1⟩
theorem ComesU.step (h:ComesU bids pre p) (k:∀b∈bids,zi4 b) {c:Int} (g:bids[i]? =some b) (j:b[p i]? =some c) (m:∀x∈zbK bids p,leU ⟨i,p i,c⟩ x):ComesU bids (pre++[⟨i,p i,c⟩]) (zbI p i):=by
 obtain ⟨o,e,a⟩:=h.rest;have f:=rest_step g j;have l:o.Pairwise leU:=(List.pairwise_append.1 (e▸zmJ bids)).2.1;obtain ⟨d,rfl⟩:=zsX (u:=⟨i,p i,c⟩) l (a.mem_iff.2 (f.mem_iff.2 (.head _))) fun x n=>zn3 k m x (a.mem_iff.1 n);exact ⟨d,by rw[e];simp,(List.perm_cons _).1 (a.trans f)⟩
theorem ComesU.done (h:ComesU bids pre p) (j:zbK bids p=[]) (n:∀i b,bids[i]? =some b→p i≤b.length):pre=zbe bids:=by
 obtain ⟨o,e,d⟩:=h.rest;have:zeN bids p=[]:=by
  refine List.eq_nil_iff_forall_not_mem.2 fun x l=>?_;obtain ⟨i,b,k,c,f,m,g,rfl⟩:=ziP l;have a:p i<b.length:=by have:=(gS.1 g).1;omega
  have:=zlS (c:=b[p i]) f (gE a);rw[j] at this
  cases this
 rw[this] at d;rw[e,List.Perm.eq_nil d,List.append_nil]
theorem ComesU.come (h:ComesU bids pre p):pre<+:zbe bids:=by
 obtain ⟨b,a,_⟩:=h.rest;exact ⟨b,a.symm⟩
theorem znS (bids:List (List Int)):zbK bids (fun _=>0)=(bids.mapIdx fun i b=>((b.head?).map fun c=>(⟨i,0,c⟩:UnitR)).toList).flatten:=by
 unfold zbK zch
 congr 1
 rw[List.mapIdx_mapIdx];refine List.mapIdx_eq_mapIdx_iff.2 fun i a=>?_;simp only[Function.comp_apply,zdU,List.head?_eq_getElem?]
 rfl
end
end Ho
end Go.Proofs.YtckdpejdnejhfaaGreat

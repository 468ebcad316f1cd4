/- Joined by program. -/
import Derived.Test.YtckdpejdnejhfaaGreatZo
import Derived.Test.YtckdpejdnejhfaaGreatZm
set_option linter.all false
set_option maxRecDepth 100000
set_option maxHeartbeats 32000000
namespace Go.Proofs.YtckdpejdnejhfaaGreat
open Lib (hid)
namespace Ho
open Go.RowKit Vb Ac
def zaI (f:LotS→LotS×List SaleR) (H:House) (d:Du):House:=
 match H.lots[d.2.toNat]? with
 |none=>H
 |some l=>zcD {H with lots:=H.lots.set d.2.toNat (f l).1} d.2.toNat (f l).1 (f l).2
def zaR (f:LotS→LotS×List SaleR) (H:House) (ds:List Du):House:=ds.foldl (zaI f) H
def zeV (f:LotS→LotS×List SaleR) (H:House) (t:Int) (ds:List Du):House:=zaR f {H with now:=t,due:=zbn H.due t} ds
theorem zla (f:LotS→LotS×List SaleR) (H:House) (ds:List Du) (d:Du):zaR f H (ds++[d])=zaI f (zaR f H ds) d:=by simp[zaR]
section
variable {f:LotS→LotS×List SaleR}
theorem zgZ (H:House) (d:Du):(zaI f H d).lots.length=H.lots.length∧(zaI f H d).accs.length=H.accs.length∧(zaI f H d).book=H.book∧(zaI f H d).now=H.now∧(zaI f H d).names=H.names∧(zaI f H d).due=H.due:=by
 unfold zaI
 split
 ·exact ⟨rfl,rfl,rfl,rfl,rfl,rfl⟩
 ·refine ⟨by simp[zcD],?_,rfl,rfl,rfl,rfl⟩;simp only[zcD];rw[zgC,zeM]
theorem zcS (ds:List Du):∀H:House,(zaR f H ds).lots.length=H.lots.length∧(zaR f H ds).accs.length=H.accs.length∧(zaR f H ds).book=H.book∧(zaR f H ds).now=H.now∧(zaR f H ds).names=H.names∧(zaR f H ds).due=H.due:=by
 induction ds with
 |nil=>exact fun H=>⟨rfl,rfl,rfl,rfl,rfl,rfl⟩
 |cons d ds ih=>
  intro H;obtain ⟨a,b,c,e,g,h⟩:=ih (zaI f H d);obtain ⟨i,j,k,l,m,n⟩:=zgZ (f:=f) H d;exact ⟨a.trans i,b.trans j,c.trans k,e.trans l,g.trans m,h.trans n⟩
theorem zg0 {H:House} {d:Du} {n:Nat} (a:n≠d.2.toNat):(zaI f H d).lots[n]? =H.lots[n]? :=by
 unfold zaI
 split
 ·rfl
 ·simp only[zcD];rw[List.getElem?_set_ne (fun e=>a e.symm),List.getElem?_set_ne (fun e=>a e.symm)]
theorem zdH {n:Nat}:∀{ds:List Du} {H:House},(∀d∈ds,d.2.toNat≠n)→(zaR f H ds).lots[n]? =H.lots[n]?
 |[],H,_=>rfl
 |d::ds,H,h=>(zdH (ds:=ds) (H:=zaI f H d) fun x hx=>h x (List.mem_cons_of_mem _ hx)).trans (zg0 fun e=>h d List.mem_cons_self e.symm)
theorem zmz {H:House} (h:zbb H.accs) (b:H.lots.length≤4096) (d:Du):zbb (zaI f H d).accs:=by
 unfold zaI
 split
 ·exact h
 ·rename_i l a
  have:=(gS.1 a).1;exact zfJ _ _ (zfL (by omega) _ _ h)
theorem zh5:∀{ds:List Du} {H:House},zbb H.accs→H.lots.length≤4096→zbb (zaR f H ds).accs
 |[],_,h,_=>h
 |d::ds,H,h,hl=>zh5 (ds:=ds) (zmz h hl d) (by rw[(zgZ H d).1];exact hl)
theorem zka {H:House} {d:Du} (b:∀l,H.lots[d.2.toNat]? =some l→(f l).2.length≤64):(zaI f H d).sales.length≤H.sales.length+64:=by
 unfold zaI
 split
 ·omega
 ·rename_i l a
  have:=b l a
  simp[zcD]
  omega
end
def zem (w p:Int):SaleR:=⟨0,0,w,p,0,0,0⟩
def zhE (W:World) (T:Nat→Part) (j b:Nat) (l':LotS) (sales:List SaleR) (e:Ending) (W':World):Prop:=
 ∃A c,e=.returned (.slice A sales.length c)∧Sl W' (fun b=>W.heap.size≤b) (.slice A sales.length c) sales.length 7 (sales.flatMap SaleR.cells)∧za2 W' T j b l'∧Chg (·=b) W W'
def zeR (k:Int):FuncId:=if k=1 then 217 else if k=2 then 235 else if k=3 then 247 else if k=4 then 259 else 274
theorem zjt {k:Int} (h:1≤k∧k≤5):∃t,zau k=.iface t (.agg #[]):=by
 have a:k=1∨k=2∨k=3∨k=4∨k=5:=by omega
 rcases a with rfl|rfl|rfl|rfl|rfl
 ·exact ⟨245,by simp[zau]⟩
 ·exact ⟨246,by simp[zau]⟩
 ·exact ⟨247,by simp[zau]⟩
 ·exact ⟨248,by simp[zau]⟩
 ·exact ⟨249,by simp[zau]⟩
structure SellsAs (f:LotS→LotS×List SaleR) (N:Nat) (l:LotS):Prop where
 kind:1≤l.put.kind∧l.put.kind≤5
 stands:∀s∈l.stands,0≤s.bidder∧s.bidder<N
 few:l.stands.length≤4096
 keep:(f l).1.stands=l.stands∧(f l).1.put=l.put
 sales:∀s∈(f l).2,0≤s.bidder∧s.bidder<N
 most:(f l).2.length≤64
 run:∀W T j b,za2 W T j b l→(∀x,W.heap.size≤x→T x=.no)→Calls Tryz.prog (zeR l.put.kind) #[.agg #[],.pointer (some ⟨b,0,none⟩)] W (zhE W T j b (f l).1 (f l).2)
theorem zaf.mono {W:World} {T:Nat→Part} {h K K':Nat} {H:House} (b:zaf W T h K H) (c:K≤K'):zaf W T h K' H:=by
 obtain ⟨e,d,f,i,g,j,a⟩:=b;exact ⟨e,d,f,i,g,j,a.top,a.blk,a.names,a.accs.mono c,a.lots,a.cal,a.book,a.sales,a.out⟩
theorem zkP {W U:World} {T:Nat→Part} {h pn pc K:Nat} {va vl vb vs:Value} {H:House} {t:Int} {D:Int→Option Int} (a:HouseAt W T h pn pc va vl vb vs K H) (f:zar U (fun b=>T b=.cal) pc t D) (c:Chg (fun b=>T b=.cal) W U):
  HouseAt U T h pn pc va vl vb vs K {H with now:=t,due:=D}:=by
 have d:∀b P,T b=P→P≠ .cal→¬T b=.cal:=fun b P g j k=>j (g.symm.trans k);refine ⟨a.top,a.blk.chg c (d h _ a.top (by simp)),a.names.step c (fun b e=>d b _ e (by simp)) (fun _ _=>rfl),a.accs.step c (fun b e=>?_) (fun _ _=>rfl),a.lots.step c (fun b e=>?_) (fun _ _=>rfl),f,a.book.step c (fun b e=>?_) (fun _ _=>rfl),a.sales.step c (fun b e=>d b _ e (by simp)) (fun _ _=>rfl),fun b l=>a.out b (lT c.size l)⟩
 ·rcases e with e|⟨i,e⟩<;>exact d b _ e (by simp)
 ·rcases e with e|⟨i,e⟩|e<;>exact d b _ e (by simp)
 ·rcases e with e|e<;>exact d b _ e (by simp)
theorem zoY {ev:Operand→Value} {o:Oper} (a:o.op=.call {callee:=.invoke (.tmp 55) "gavel/house.sell",args:=#[.tmp 53],argTypes:=#[138]}) {k:Int} (l:1≤k∧k≤5) (b:ev (.tmp 55)=zau k) {v:Value} (j:ev (.tmp 53)=v) (w:World):
  (execOp ev o).run Tryz.prog w=.ok (.enter (zeR k) #[.agg #[],v]) w:=by
 have i:k=1∨k=2∨k=3∨k=4∨k=5:=by omega
 have c:(execOp ev o).run Tryz.prog w=(callMethod (zau k) "gavel/house.sell" #[v]).run Tryz.prog w:=by
  simp[execOp,a,resolve,invoke,b,j,go_sem]
 rw[c];clear c a b;have d:(callMethod (zau 1) "gavel/house.sell" #[v]).run Tryz.prog w=.ok (.enter (zeR 1) #[.agg #[],v]) w:=by kernel_rfl
 have e:(callMethod (zau 2) "gavel/house.sell" #[v]).run Tryz.prog w=.ok (.enter (zeR 2) #[.agg #[],v]) w:=by kernel_rfl
 have f:(callMethod (zau 3) "gavel/house.sell" #[v]).run Tryz.prog w=.ok (.enter (zeR 3) #[.agg #[],v]) w:=by kernel_rfl
 have g:(callMethod (zau 4) "gavel/house.sell" #[v]).run Tryz.prog w=.ok (.enter (zeR 4) #[.agg #[],v]) w:=by kernel_rfl
 have h:(callMethod (zau 5) "gavel/house.sell" #[v]).run Tryz.prog w=.ok (.enter (zeR 5) #[.agg #[],v]) w:=by kernel_rfl
 rcases i with rfl|rfl|rfl|rfl|rfl
 ·exact d
 ·exact e
 ·exact f
 ·exact g
 ·exact h
theorem zqa {ops:Array Oper} {K:Act→World→Prop} {c:Prop} {a:Act} {Q:Exit→Act→World→Prop} {w:World} {o:Oper} (b:o.guard=none) (g:o.op=.call {callee:=.invoke (.tmp 55) "gavel/house.sell",args:=#[.tmp 53],argTypes:=#[138]}) {k:Int} (f:1≤k∧k≤5) (i:a.eval (.tmp 55)=zau k) {v:Value} (j:a.eval (.tmp 53)=v)
  (h:Calls Tryz.prog (zeR k) #[.agg #[],v] w fun e w'=>∃r,e=.returned r∧K (a.put o.dst r) w'):
  if Region.wanted o (yielded ops a.tmps)=true then Oper.wp Tryz.prog o a w K Q else c:=by
 have l:Region.wanted o (yielded ops a.tmps)=true:=by simp[Region.wanted,b]
 rw[if_pos l];unfold Oper.wp;rw[zoY g f i j w,Oper.upon_enter];refine h.mono ?_;rintro e w' ⟨r,rfl,d⟩;exact d
theorem zpk {W:World} {T:Nat→Part} {h pn pc K:Nat} {va vl vb vs:Value} {H:House} (F:HouseAt W T h pn pc va vl vb vs K H) (o:OrderR) (vo:Value) (x:zae o.tick=false∨o.tick<H.now):
  Calls Tryz.prog 99 #[.pointer (some ⟨h,0,none⟩),o.agg vo] W fun e W'=>e=.returned (.tuple #[(),(if zae o.tick=true then 6 else 2:Int)])∧Below W W W':=by
 obtain ⟨f,b⟩:=nm (W.alloc (.cells (o.cells vo).toArray 61));have g:Below W W f:=by rw[b];exact qA _
 have r:Blk f W 61 (o.cells vo).toArray:=by rw[b];exact Blk.new _ _ _
 have d:=F.grow g;have j:=hid g;obtain ⟨y,z,s,n,N,⟨L,A,p,B,R,q,M,v,E,t,Q⟩,O,c⟩:=o;simp only at x ⊢;simp only[OrderR.agg,OrderR.cells,LotR.cells,List.cons_append,List.nil_append] at b r ⊢;have S:f.cell? ⟨W,17,none⟩=some ↑c:=r.cell 17;have U:=r.lt;have C:=d.cells.2.2.2.1;have I:=d.blk.lt;have k:=hid (zqr (W:=f.drew) (d.cal.grow bR.drew) x);obtain ⟨D,i⟩:=nm ((if zae c=true then (6:Int) else 2));have m:D≠0:=by rw[i];split<;>decide
 rw[←i] at k ⊢;clear F g r d x i;go_enter Tryz.func99,Tryz.ntmps99;go_wp2_with fail
 rw[←b];clear b;refine zac (Below f f) [] (by kernel_rfl) (bR.drew) (fun a=>?_);refine tp 0 a ?_;refine tp 1 a ?_;refine tp 2 a ?_;refine tp 3 a ?_;have P:=hid fun (X:World) (l:(Below f f) X)=>And.intro (qc l S U)<|qc l C I;refine tl 4 a P ?_;refine tp 5 a ?_;refine tl 6 a P ?_;refine stp 7 fun K G=>?_;go_simp;refine k.out.mono ?_;rintro e Y ⟨rfl,rfl⟩;refine G.out _ _ ?_ (fun a=>?_)
 ·exact a
 clear G K
 try simp only[Act.put,pb,pz,ps]
 refine tp 8 a ?_;refine tp 9 a ?_;refine tp 10 a ?_;refine tp 11 a ?_;refine tp 12 a ?_;refine zaa (by kernel_rfl) ?_ _;have V:=hid a;clear a S C U I;have J:¬D=0:=m;clear m;go_wp2_with fail
 go_ret2
 exact ⟨rfl,j.out.trans (V.out.mono j.out.size)⟩
def znq (W:World) (b:Nat) (kv:Value) (w:World):Prop:=Chg (·=b) W w∧w.cell? ⟨b,11,none⟩=some kv
def ztW (f:LotS→LotS×List SaleR) (W:World) (T:Nat→Part) (h K:Nat) (H:House) (t:Int) (e:Ending) (W':World):Prop:=
 ∃ds T',e=.returned (.tuple #[.int .i64 ds.length,.int .i64 0])∧DueL H.due t ds∧zaf W' T' h (K+4096*ds.length) (zeV f H t ds)∧Moves W T W' T'
theorem zcx {a:List LotS} {n x:Int} (h:zaW a n=some x):0≤n∧∃l,a[n.toNat]? =some l∧l.closed=false∧l.closes=x:=by
 unfold zaW at h
 split at h
 ·cases h
 ·split at h
  ·split at h
   ·cases h
   ·rename_i l c b
    injection h with h
    exact ⟨by omega,l,c,by simpa using b,h⟩
  ·cases h
theorem zlU {f:LotS→LotS×List SaleR} {W:World} {T:Nat→Part} {h pn pc K:Nat} {va vl vb vs:Value} {H:House} (hH:HouseAt W T h pn pc va vl vb vs K H) (o:OrderR) (vo:Value) (ht:zae o.tick=true) (U:H.now≤o.tick)
  (hdue:H.due=zaW H.lots) (hok:zbb H.accs) (hll:H.lots.length≤4096) (y:H.sales.length+64*H.lots.length≤1000000) (N:K+4096*4097<maxLen)
  (hf:∀l∈H.lots,l.closed=false→l.closes≤o.tick→SellsAs f H.accs.length l):
  Calls Tryz.prog 99 #[.pointer (some ⟨h,0,none⟩),o.agg vo] W (ztW f W T h K H o.tick):=by
 obtain ⟨L,O⟩:=nm (W.alloc (.cells (o.cells vo).toArray 61));have hb1:Below W W L:=by rw[O];exact qA _
 have z:Blk L W 61 (o.cells vo).toArray:=by rw[O];exact Blk.new _ _ _
 have M:=hH.grow hb1;have HB1:=hid hb1;obtain ⟨okind,oname,ocoins,obidder,olot,⟨kind,opens,closes,start,step,extend,last,floor,fall,count,rule⟩,ooff,m⟩:=o;simp only at ht U hf ⊢;simp only[OrderR.agg,OrderR.cells,LotR.cells,List.cons_append,List.nil_append] at O z ⊢;have x7:L.cell? ⟨W,17,none⟩=some ↑m:=z.cell 17;have xl:=z.lt;have c3:=M.cells.2.2.2.1;have hl:=M.blk.lt;have HUP:=hid (zr7 (W:=L.drew) (M.cal.grow bR.drew) ht U);have HH1:=hid M;have B:=hid hdue;have HOK:=hid hok;have HLL:=hid hll;have HSL:=hid y;have HKM:=hid N;have HF:=hid hf;clear hH hb1 z M ht U hdue hok hll y N hf;go_enter Tryz.func99,Tryz.ntmps99;go_wp2_with fail
 rw[←O];clear O;refine zac (Below L L) [7,8,9,10,11,12] (by kernel_rfl) (bR.drew) (fun g=>?_);refine tpD [1,2,3,4,7,8,9,10,11,12] 0 g ?_;refine tpD [2,3,4,7,8,9,10,11,12] 1 g ?_;refine tpD [3,4,7,8,9,10,11,12] 2 g ?_;refine tpD [4,7,8,9,10,11,12] 3 g ?_;have Y:=hid fun (w':World) (t:(Below L L) w')=>And.intro (qc t x7 xl)<|qc t c3 hl;refine tlD [7,8,9,10,11,12] 4 g Y ?_;refine tpD [6,7,8,9,10,11,12] 5 g ?_;refine tlD [7,8,9,10,11,12] 6 g Y ?_;refine stf 7 fun K N=>?_;go_simp;refine HUP.out.mono ?_;rintro e W5 ⟨v,a,rfl,X,hdl,hcal,hc⟩;have hc:Chg (fun b=>T b=.cal) L W5:=((Chg.refl _ L).grow bR.drew).trans hc;have HH5:=hid (zkP HH1.out hcal hc);have HM5:=hid (show Moves W T W5 T from ⟨(Chg.of _ HB1.out).trans (hc.mono fun b _ e=>⟨by rw[e];simp,by rw[e];simp⟩),fun _ _=>rfl⟩);have J:=hid X;have D:=hid hdl;obtain ⟨A,c,hv⟩:=X.form;subst hv;have HNO:=hid (show ∀b,L.heap.size≤b→T b=.no from HH1.out.out);clear X hdl hcal hc;refine N.out _ _ ?_;clear N K
 try simp only[Act.put,pb,pz,ps]
 refine tpW 8 ?_;refine tpW 9 ?_;refine tpW 10 ?_;refine tpW 11 ?_;refine tpW 12 ?_;refine zaa (by kernel_rfl) ?_ _;clear g x7 c3 xl hl;obtain ⟨n,hn⟩:=nm (a.length);rw[←hn] at J ⊢;have HN:=hid hn;clear hn;have HNL:=hid (show n≤4096 from by
  have h1:=D.out;have h2:=zfg (a.map (·.2)) ((List.range H.lots.length).map Int.ofNat) h1.nodup (fun x z=>by
   obtain ⟨d,hd,rfl⟩:=List.mem_map.1 z;have h3:=((h1.mem d).1 hd).1;rw[B.out] at h3;obtain ⟨h4,l,h5,_⟩:=zcx h3;have:=(gS.1 h5).1;exact List.mem_map.2 ⟨d.2.toNat,by simpa using this,by simp;omega⟩)
  have:=HLL.out;have:=HN.out
  simp at h2
  omega)
 have HNS:=hid (show H.sales.length+64*n≤1000000 from by
  have h1:=D.out;have h2:=zfg (a.map (·.2)) ((List.range H.lots.length).map Int.ofNat) h1.nodup (fun x z=>by
   obtain ⟨d,hd,rfl⟩:=List.mem_map.1 z;have h3:=((h1.mem d).1 hd).1;rw[B.out] at h3;obtain ⟨h4,l,h5,_⟩:=zcx h3;have:=(gS.1 h5).1;exact List.mem_map.2 ⟨d.2.toNat,by simpa using this,by simp;omega⟩)
  have:=HSL.out;have:=HN.out
  simp at h2
  omega)
 have e4:(0:Int)≤(n:Int):=by omega
 go_wp2_with fail
 go_loopw [26] (fun i wr=>∃(k:Nat) (Tk:Nat→Part),k≤n∧i=.int .i64 k∧zaf wr Tk h (K+4096*k) (zeV f H m (a.take k))∧Moves W T wr Tk∧Moves W5 T wr Tk∧(zeV f H m (a.take k)).sales.length≤H.sales.length+64*k) (fun i _=>n-(intOf i).toNat)
 case atStart=>exact ⟨0,T,zL,rfl,⟨pn,pc,va,vl,vb,vs,HH5.out⟩,HM5.out,HouseAt.moves bR,lR⟩
 case round=>
  obtain ⟨k,Tk,hk,rfl,hA,hM,hM5,y⟩:=hrel;by_cases hlt:k<n
  ·obtain ⟨d,hd⟩:∃d,a[k]? =some d:=⟨_,gE (by rw[←HN.out];exact hlt)⟩;have hdm:=(D.out.mem d).1 (mG hd);have hdu:=hdm.1;rw[B.out] at hdu;obtain ⟨hd0,l,R,hcl,hcx⟩:=zcx hdu;obtain ⟨j,hj⟩:∃j:Nat,d.2=j:=⟨d.2.toNat,by omega⟩;rw[hj,Int.toNat_natCast] at R;have hjl:=(gS.1 R).1;have hSA:=HF.out l (mG R) hcl (by rw[hcx];exact hdm.2);obtain ⟨I,r⟩:=nm (zeV f H m (a.take k));have hnx:zeV f H m (a.take (k+1))=zaI f I d:=by rw[za4 hd,r];exact zla _ _ _ _
   have hkl:I.lots[j]? =some l:=by
    rw[r,←R];unfold zeV;refine zdH fun x z e=>?_;obtain ⟨i,hi,hxi⟩:=List.getElem_of_mem z;have hi2:i<k:=by simp at hi;omega
    have hxo:a[i]? =some x:=by rw[←hxi];simp
    have hx2:=((D.out.mem x).1 (mG hxo)).1;rw[B.out] at hx2;have hx3:=(zcx hx2).1;have:=D.out.nodup;rw[List.nodup_iff_pairwise_ne,List.pairwise_iff_getElem] at this;have hkl2:=(gS.1 hd);have hil2:=(gS.1 hxo);refine this i k (by simpa using hil2.1) (by simpa using hkl2.1) hi2 ?_;simp only[List.getElem_map,hil2.2,hkl2.2]
    omega
   have hcn:zaI f I d=zcD {I with lots:=I.lots.set j (f l).1} j (f l).1 (f l).2:=by
    unfold zaI;rw[hj,Int.toNat_natCast,hkl]
   have Q:=zcS (f:=f) (a.take k) {H with now:=m,due:=zbn H.due m};have hacl:I.accs.length=H.accs.length:=by rw[r];exact Q.2.1
   have hltl:I.lots.length=H.lots.length:=by rw[r];exact Q.1
   have hokk:zbb I.accs:=by rw[r];exact zh5 HOK.out HLL.out
   rw[←r] at hA y;obtain ⟨d1,d2⟩:=d;simp only at hj;subst hj;obtain ⟨rq,rcap,rv,_,rq1,_⟩:=J.out.ex (by omega);injection rv with rv1 rv2 rv3
   subst rv1 rv3;clear rv2;have V:=RowAt.chg J.out hM5.chg (fun b hb hr=>fun ho=>ho.2 (HNO.out b (lT (by simp) hr)));have r0:wr.cell? ⟨rq,k*2,none⟩=some ↑d1:=(V.own.cellAt (k*2) (by have:=V.len;omega)).trans (zb7 hd).1;have r1:wr.cell? ⟨rq,k*2+1,none⟩=some ↑j:=(V.own.cellAt (k*2+1) (by have:=V.len;omega)).trans (zb7 hd).2;have e5:(0:Int)≤(k:Int):=by omega
   have e6:(k:Int)<(n:Int):=by omega
   obtain ⟨pnk,pck,vak,vlk,vbk,vsk,hA⟩:=hA;obtain ⟨G,hw1⟩:=nm (wr.alloc (.cells #[d1,j] 161));have hbw:Below wr wr G:=by rw[hw1];exact qA _
   have hxw:Blk G wr 161 #[d1,j]:=by rw[hw1];exact Blk.new _ _ _
   have hno:Tk wr.heap.size=.no:=hA.out _ lR;have E:=hA.grow hbw;obtain ⟨Z,hro,hls⟩:=E.lots;obtain ⟨q,cap,hvl,hqt,hq,_⟩:=hro.ex (by omega);subst hvl;have q0:G.cell? ⟨q,j,none⟩=some (.pointer (some ⟨Z j,0,none⟩)):=(hro.own.cellAt j (by omega)).trans (zcL (by omega));have S:=hls j l hkl;obtain ⟨lv,F,P,_⟩:=id S;have l11:G.cell? ⟨Z j,11,none⟩=some (zau l.put.kind):=P.cell 11;have lb:=P.lt;have x1:G.cell? ⟨wr,1,none⟩=some ↑j:=hxw.cell 1;have xl1:=hxw.lt;have c2:=E.cells.2.2.1;have lh:=E.cells.2.2.2.2.2.2;obtain ⟨nl,hnl⟩:=nm (I.lots.length);rw[←hnl] at c2;have e7:(0:Int)≤(j:Int):=by omega
   have e8:(j:Int)<(nl:Int):=by omega
   have nx:¬wr.heap.size=Z j:=fun e=>by rw[←e,hno] at F;cases F
   have nh:¬h=Z j:=fun e=>by have:=E.top;rw[e,F] at this;cases this
   have nq:¬q=Z j:=fun e=>by rw[e,F] at hqt;cases hqt
   obtain ⟨kv,hkv⟩:=nm (zau l.put.kind);rw[←hkv] at l11;have HKV:=hid hkv;obtain ⟨kt,hkt⟩:=zjt hSA.kind;rw[←hkv] at hkt;subst hkt;have p:=hid hSA;have HA1:=hid E;have HRO:=hid hro;have HLS:=hid hls;have HLT:=hid S;have HMW:=hid hM;have HM5W:=hid hM5;have HBW:=hid hbw;have HNX:=hid hnx;have HCN:=hid hcn;have HKL:=hid hkl;have HAC:=hid hacl;have HLT2:=hid hltl;have HOKK:=hid hokk;have HSK:=hid y;have HHK:=hid r;have HTB:=hid F;have HJL:=hid hjl;clear hA E hro hls S hM hM5 hbw hnx hcn hkl hacl hltl hokk y r hxw hno hSA hd hdm hdu hd0 R hcl hcx Q V hkv hqt P hnl F hjl;have hS11:=hid l11;go_wp2_with fail
   rw[←hw1];clear hw1 r0 r1 rq1;refine zac (znq G (Z j) (.iface kt (.agg #[]))) [27] (by kernel_rfl) (show znq G (Z j) (.iface kt (.agg #[])) G.drew from ⟨(Chg.refl _ G).grow bR.drew,hS11.out⟩) (fun g=>?_);refine tp 0 g ?_;refine tpD [2,27] 1 g ?_;have Y:=hid fun (w':World) (t:(znq G (Z j) (.iface kt (.agg #[]))) w')=>And.intro (cg t.1 x1 xl1 nx)<|And.intro (cg t.1 c2 lh nh)<|And.intro (cg t.1 q0 hq nq)<|t.2;refine tl 2 g Y ?_;refine tpD [4,5,6,7,10,11,12,13,14,24,25,26,27] 3 g ?_;refine tpD [5,6,7,10,11,12,13,14,24,25,26,27] 4 g ?_;refine tpD [6,7,10,11,12,13,14,24,25,26,27] 5 g ?_;refine tpD [7,10,11,12,13,14,24,25,26,27] 6 g ?_;refine tlD [10,11,12,13,14,24,25,26,27] 7 g Y ?_;refine tpD [9,10,11,12,13,14,24,25,26,27] 8 g ?_;refine tlD [10,11,12,13,14,24,25,26,27] 9 g Y ?_;refine tpD [11,12,13,14,24,25,26,27] 10 g ?_;refine tlD [12,13,14,24,25,26,27] 11 g Y ?_;refine tpD [13,14,24,25,26,27] 12 g ?_;refine tpD [14,24,25,26,27] 13 g ?_;refine tlD [24,25,26,27] 14 g Y ?_;refine tpD [16,17,18,19,22,23,26,27] 15 g ?_;refine tpD [17,18,19,22,23,26,27] 16 g ?_;refine tpD [18,19,22,23,26,27] 17 g ?_;refine tpD [19,22,23,26,27] 18 g ?_;refine tlD [22,23,26,27] 19 g Y ?_;refine tpD [21,22,23,26,27] 20 g ?_;refine tlD [22,23,26,27] 21 g Y ?_;refine tpD [23,26,27] 22 g ?_;refine tlD [26,27] 23 g Y ?_;refine tpD [25,26,27] 24 g ?_;refine tpD [26,27] 25 g ?_;refine stp 26 fun K N=>?_;refine zqa (k:=l.put.kind) rfl rfl p.out.kind HKV.out rfl ?_;refine (p.out.run G.drew Tk j (Z j) (HLT.out.step (Chg.of (fun _=>False) bR.drew) (fun _ _=>id) fun _ _=>rfl) (fun x z=>HA1.out.out x z)).mono ?_;rintro e w2 ⟨A2,c2x,rfl,hs2,hl2,C⟩;refine ⟨_,rfl,?_⟩;have C:Chg (·=Z j) G w2:=((Chg.refl _ G).grow bR.drew).trans C;have HS2:=hid hs2;have HL2:=hid hl2;have HC2:=hid C;clear hs2 hl2 C;refine N.out _ _ ?_ (fun g=>?_)
   ·exact ⟨HC2.out,by obtain ⟨_,_,hb2,_⟩:=HL2.out;refine (hb2.cell 11).trans ?_;show some (zau (f l).1.put.kind)=_;rw[p.out.keep.2,←HKV.out]⟩
   clear N K
   try simp only[Act.put,pb,pz,ps]
   refine stf 27 fun K N=>?_;have hA2:=zee HA1.out HRO.out HLS.out (j:=j) (by have:=HJL.out;have:=HLT2.out;omega) (l:=(f l).1) HL2.out (HC2.out.mono fun b _ e=>e▸HTB.out) (fun _ _=>rfl) (fun b hb=>HA1.out.out b (lT HC2.out.size hb));have hAC:=HAC.out;have hcl2:=zjo hA2 (j:=j) (l:=(f l).1) (by
     show (I.lots.set j (f l).1)[j]? =some (f l).1
     rw[List.getElem?_set_self];have:=HJL.out;have:=HLT2.out;omega) (by rw[p.out.keep.1];intro s hs;have:=p.out.stands s hs;rw[←hAC] at this;exact this) (sales:=(f l).2) HS2.out (fun b hb=>HA1.out.out b (by simpa using hb)) (by intro s hs;have:=p.out.sales s hs;rw[←hAC] at this;exact this) HOKK.out (by rw[p.out.keep.1];have:=p.out.few;have:=HKM.out;have:=HNL.out;omega) (by
     have h1:=HSK.out;have h2:=HNS.out;have h3:=p.out.most
     show I.sales.length+(f l).2.length≤1000000
     omega) (by have:=HJL.out;have:=HLL.out;omega)
   have HCL2:=hid hcl2;clear hA2 hAC hcl2;obtain ⟨ns,hns⟩:=nm ((f l).2.length);rw[←hns] at HCL2;have HNN:=hid hns;rw[←hns];clear hns;go_simp;refine HCL2.out.mono ?_;rintro e w3 ⟨rfl,T3,hH3,hM3⟩;have HH3:=hid hH3;have HM3:=hid hM3;clear hH3 hM3;refine N.out _ _ ?_;clear N K
   try simp only[Act.put,pb,pz,ps]
   refine zaa (by kernel_rfl) ?_ _;clear g x1 xl1 c2 lh q0 hq l11 lb nx nh nq;have hwr:IntKind.i64.wrap ((k:Int)+1)=(k:Int)+1:=iW _ (by have:=HNL.out;omega);go_wp2_with fail
   go_roundw
   case rel=>
    have hm2:Moves wr Tk w3 T3:=(HouseAt.moves HBW.out).trans (Moves.trans ⟨HC2.out.mono fun b _ e=>⟨by rw[e,HTB.out];simp,by rw[e,HTB.out];simp⟩,fun _ _=>rfl⟩ HM3.out);refine ⟨k+1,T3,by omega,by go_num,?_,HMW.out.trans hm2,HM5W.out.trans hm2,?_⟩
    ·rw[HNX.out,HCN.out];exact HH3.out.mono (by rw[p.out.keep.1];have:=p.out.few;omega)
    ·rw[HNX.out];have h1:=zka (f:=f) (H:=I) (d:=(d1,(j:Int))) (fun x z=>by
      rw[Int.toNat_natCast,HKL.out] at z;injection z with e
      rw[←e];exact p.out.most)
     have:=HSK.out
     omega
   case measure=>simp[intOf];omega
  ·obtain rfl:k=n:=by omega
   have hall:a.take k=a:=List.take_of_length_le (by have:=HN.out;omega);rw[hall] at hA;have HA:=hid hA;have HMM:=hid hM;clear hA hM hM5 y hall hlt hk e4;go_wp2_with fail
   go_ret2
   exact ⟨a,Tk,by rw[HN.out];rfl,D.out,by rw[←HN.out];exact HA.out,HMM.out⟩
theorem zbp {P:Program} {o:Oper} {a:Act} {w:World} (c:TypeId) (x:Operand) (h:o.op=.load c x) (b i:Nat) (k:a.eval x=.pointer (some ⟨b,i,none⟩)) (cs:List Value) (d:TypeDesc) (e:w.rangeAt b i cs)
  (j:P.underlying c=some d) (f:d.isRow=true) (g:(P.info? c).map (·.size)=some cs.length):(execOp a.eval o).run P w=.ok (.value (.agg cs.toArray)) w:=by
 unfold execOp;simp only[h,k,Sem.run_bind,Sem.run_pure,Result.andThen_ok,run_loadAt_mid w b i c cs d e j f g]
theorem Blk.range {w:World} {g:Nat} {t:TypeId} {cs:Array Value} (h:Blk w g t cs) (i:Nat) (xs:List Value) (hx:∀j v,xs[j]? =some v→cs[i+j]? =some v):w.rangeAt g i xs:=fun j v hj=>(h.cell (i+j)).trans (hx j v hj)
def zeY (l:LotR):Int:=l.opens+(l.start-l.floor+l.fall-1)/l.fall
def zjh (l:LotR) (t:Int):Int:=if l.fall=0∨t<zeY l then l.start-l.fall*(t-l.opens) else l.floor
def zbJ (l:LotR) (t:Int):Int:=if l.opens≤t∧t<l.closes then zjh l t else 0
structure FallB (l:LotR):Prop where
 opens:zah l.opens
 closes:zah l.closes
 start:zah l.start
 floor:0≤l.floor∧l.floor≤l.start
 fall:zah l.fall
theorem zo0 {l:LotR} (h:zbd l=true):FallB l:=by
 unfold zbd zae zj2 at h;simp only[Bool.and_eq_true,decide_eq_true_eq] at h;obtain ⟨_,⟨⟨⟨⟨a,b⟩,_⟩,c⟩,d⟩,e⟩:=h;exact ⟨a,b,c,d,e⟩
theorem zoZ {l:LotR} (h:FallB l) (d:1≤l.fall):0≤(l.start-l.floor+l.fall-1)/l.fall∧(l.start-l.floor+l.fall-1)/l.fall≤2199023255552:=by
 have a:=h.start;have c:=h.floor;have b:=h.fall
 unfold zah at a b;refine ⟨Int.ediv_nonneg (by omega) (by omega),?_⟩;refine Int.le_trans (Int.ediv_le_self _ (by omega)) (by omega)
theorem zqT {l:LotR} (h:FallB l) {t:Int} (j:l.opens≤t) (i:t<l.closes) (b:l.fall=0∨t<zeY l):0≤l.fall*(t-l.opens)∧l.fall*(t-l.opens)≤l.start-l.floor:=by
 have c:=h.start;have f:=h.floor;have a:=h.fall
 unfold zah at c a;by_cases h0:l.fall=0
 ·rw[h0];omega
 ·have b:=b.resolve_left h0;unfold zeY at b;refine ⟨Int.mul_nonneg a.1 (by omega),?_⟩;have d:t-l.opens+1≤(l.start-l.floor+l.fall-1)/l.fall:=by omega
  have e:=Int.mul_le_mul_of_nonneg_left d a.1;have g:=Int.mul_ediv_self_le (x:=l.start-l.floor+l.fall-1) (k:=l.fall) h0;rw[Int.mul_add] at e
  omega
theorem zo1 {l:LotR} (h:FallB l) (w:World):Calls Tryz.prog 243 #[l.agg] w fun e w'=>e=.returned (.tuple #[(if l.fall=0 then 0 else zeY l:Int),(decide (¬l.fall=0):Bool)])∧Below w w w':=by
 have f:=fun j=>zoZ h j;have m:=h.opens;have n:=h.start;have v:=h.floor;have o:=h.fall
 unfold zah at m n o;unfold zeY;obtain ⟨p,c,g,b,t,i,r,a,fall,k,s⟩:=l;simp only at f m n v o;simp only[LotR.agg,LotR.cells];by_cases j:fall=0
 ·subst j;clear f;go_enter Tryz.func243,Tryz.ntmps243;go_wp2_with fail
  go_ret2
  exact ⟨rfl,qA _⟩
 ·have x:=f (by omega);obtain ⟨q,d⟩:=nm ((b-a+fall-1)/fall);have y:Int.tdiv (b-a+fall-1) fall=q:=by rw[d,Int.tdiv_eq_ediv_of_nonneg (by omega)]
  rw[←d] at x ⊢;clear f d h;have A:IntKind.i64.wrap (b-a)=b-a:=iW _ (by omega);have B:IntKind.i64.wrap (b-a+fall)=b-a+fall:=iW _ (by omega);have C:IntKind.i64.wrap (b-a+fall-1)=b-a+fall-1:=iW _ (by omega);have D:IntKind.i64.wrap q=q:=iW _ (by omega);have E:IntKind.i64.wrap (c+q)=c+q:=iW _ (by omega);have z:decide (fall=0)=false:=decide_eq_false j;go_enter Tryz.func243,Tryz.ntmps243;go_wp2_with fail
  go_quiet (fail)
  go_wp2_with fail
  go_ret2
  exact ⟨rfl,below_drewN (qA _) _⟩
theorem znJ {l:LotR} (h:FallB l) {t:Int} (P:l.opens≤t) (O:t<l.closes) (w:World):Calls Tryz.prog 240 #[l.agg,t] w fun e w'=>e=.returned ↑(zjh l t:Int)∧Below w w w':=by
 have C:=hid (fun w=>zo1 h w);have D:=hid (fun T=>zqT h P O T);have K:=h.opens;have L:=h.start;have S:=h.floor;have M:=h.fall;have N:=h.closes
 unfold zah at K L M N;obtain ⟨z,r⟩:=nm (zjh l t);rw[←r];unfold zjh at r;obtain ⟨R,A⟩:=nm (zeY l);rw[←A] at r C D;obtain ⟨j,opens,closes,b,n,c,k,d,a,f,m⟩:=l;simp only at C D K L S M N r P O;simp only[LotR.agg,LotR.cells] at C ⊢;obtain ⟨Q,g⟩:=nm (w.alloc (.cells #[j,opens,closes,b,n,c,k,d,a,f,m] 58));have B:Blk Q w 58 #[j,opens,closes,b,n,c,k,d,a,f,m]:=by rw[g];exact Blk.new _ _ _
 have y:Below w w Q:=by rw[g];exact qA _
 have x:=hid B;have s:=hid y;have F:=hid r;clear B y h A r;go_enter Tryz.func240,Tryz.ntmps240
 go_wp2_with (refine wpList_load_row rfl 58 (.tmp 2) rfl w.heap.size rfl 58 #[j,opens,closes,b,n,c,k,d,a,f,m] (0,0) _ (by rw[←g];exact x.out) Tryz.underlying58 rfl (by kernel_rfl) ?_)
 rw[←g];clear g;refine (C.out _).mono ?_;rintro e E ⟨rfl,p⟩;have i:=x.out.grow p;have U:E.cell? ⟨w,1,none⟩=some ↑opens:=i.cell 1;have V:E.cell? ⟨w,3,none⟩=some ↑b:=i.cell 3;have X:E.cell? ⟨w,7,none⟩=some ↑d:=i.cell 7;have Y:E.cell? ⟨w,8,none⟩=some ↑a:=i.cell 8;have o:=hid (s.out.trans (p.mono s.out.size));clear i p;by_cases hf:a=0
 ·have G:=D.out (.inl hf);have v:=hid (F.out.trans (if_pos (.inl hf)));have q:decide (¬a=0)=false:=decide_eq_false (by simp[hf]);rw[q,if_pos hf];have H:IntKind.i64.wrap (t-opens)=t-opens:=iW _ (by omega);have I:IntKind.i64.wrap (a*(t-opens))=a*(t-opens):=iW _ (by omega);have J:IntKind.i64.wrap (b-a*(t-opens))=b-a*(t-opens):=iW _ (by omega);clear q G hf;go_wp2_with fail
  go_ret;exact ⟨by rw[v.out];rfl,o.out⟩
 ·have q:decide (¬a=0)=true:=decide_eq_true hf;rw[q,if_neg hf];by_cases hlt:t<R
  ·have G:=D.out (.inr hlt);have v:=hid (F.out.trans (if_pos (.inr hlt)));have H:IntKind.i64.wrap (t-opens)=t-opens:=iW _ (by omega);have I:IntKind.i64.wrap (a*(t-opens))=a*(t-opens):=iW _ (by omega);have J:IntKind.i64.wrap (b-a*(t-opens))=b-a*(t-opens):=iW _ (by omega);clear q G hf;go_wp2_with fail
   go_ret;exact ⟨by rw[v.out];rfl,o.out⟩
  ·have v:=hid (F.out.trans (if_neg (by rintro (e|e);exact hf e;exact hlt e)));clear q hf;go_wp2_with fail
   go_ret;exact ⟨by rw[v.out];rfl,o.out⟩
theorem zo4 (l:LotR) (t:Int) (w:World):Calls Tryz.prog 239 #[l.agg,t] w fun e w'=>e=.returned ↑(decide (l.opens≤t∧t<l.closes):Bool)∧Below w w w':=by
 obtain ⟨z,a⟩:=nm (decide (l.opens≤t∧t<l.closes));rw[←a];obtain ⟨i,opens,closes,g,m,c,j,f,h,d,k⟩:=l;simp only at a;simp only[LotR.agg,LotR.cells];by_cases h1:opens≤t
 ·by_cases h2:t<closes
  ·have b:=hid (a.trans (decide_eq_true ⟨h1,h2⟩));clear a;go_enter Tryz.func239,Tryz.ntmps239;go_wp2_with fail
   go_ret;exact ⟨by rw[b.out];simp[*],qA _⟩
  ·have b:=hid (a.trans (decide_eq_false fun e=>h2 e.2));clear a;go_enter Tryz.func239,Tryz.ntmps239;go_wp2_with fail
   go_ret;exact ⟨by rw[b.out];simp[*],qA _⟩
 ·have b:=hid (a.trans (decide_eq_false fun e=>h1 e.1));clear a;go_enter Tryz.func239,Tryz.ntmps239;go_wp2_with fail
  go_ret;exact ⟨by rw[b.out];simp[*],qA _⟩
theorem znI {l:LotR} (L:zbd l=true) (t:Int) (w:World):Calls Tryz.prog 236 #[l.agg,t] w fun e w'=>∃er,e=.returned (.tuple #[(zbJ l t:Int),(er:Int)])∧Below w w w':=by
 have E:=hid (fun w=>zjj l w);rw[L] at E;have J:=hid (fun w=>zo4 l t w);have F:=hid (fun N O w=>znJ (zo0 L) (t:=t) N O w);obtain ⟨z,o⟩:=nm (zbJ l t);rw[←o];unfold zbJ at o;obtain ⟨P,C⟩:=nm (zjh l t);rw[←C] at o F;obtain ⟨i,c,a,g,m,b,j,f,h,d,k⟩:=l;simp only at E J F o;simp only[LotR.agg,LotR.cells,if_true] at E J F ⊢;obtain ⟨M,n⟩:=nm (w.alloc (.cells #[i,c,a,g,m,b,j,f,h,d,k] 58));have D:Blk M w 58 #[i,c,a,g,m,b,j,f,h,d,k]:=by rw[n];exact Blk.new _ _ _
 have A:Below w w M:=by rw[n];exact qA _
 have x:=hid D;have s:=hid A;clear D A C L;go_enter Tryz.func236,Tryz.ntmps236
 go_wp2_with (refine wpList_load_row rfl 58 (.tmp 2) rfl w.heap.size rfl 58 #[i,c,a,g,m,b,j,f,h,d,k] (0,0) _ (by rw[←n];exact x.out) Tryz.underlying58 rfl (by kernel_rfl) ?_)
 rw[←n];clear n;refine (E.out _).mono ?_;rintro e Q ⟨rfl,q⟩;have y:=hid (x.out.grow q);have v:=hid (s.out.trans (q.mono s.out.size));clear q
 go_wp2_with (refine wpList_load_row rfl 58 (.tmp 2) rfl w.heap.size rfl 58 #[i,c,a,g,m,b,j,f,h,d,k] (0,0) _ y.out Tryz.underlying58 rfl (by kernel_rfl) ?_)
 refine (J.out _).mono ?_;rintro e R ⟨rfl,r⟩;have K:=hid (y.out.grow r);have p:=hid (v.out.trans (r.mono v.out.size));clear r;by_cases hr:c≤t∧t<a
 ·rw[if_pos hr] at o;rw[decide_eq_true hr];have H:=hid o;have I:=hid (F.out hr.1 hr.2);clear o hr
  go_wp2_with (refine wpList_load_row rfl 58 (.tmp 2) rfl w.heap.size rfl 58 #[i,c,a,g,m,b,j,f,h,d,k] (0,0) _ K.out Tryz.underlying58 rfl (by kernel_rfl) ?_)
  refine (I.out _).mono ?_;rintro e S ⟨rfl,B⟩;have G:=hid (p.out.trans (B.mono p.out.size));clear B;go_wp2_with fail
  go_ret2
  exact ⟨0,by rw[H.out];rfl,G.out⟩
 ·rw[if_neg hr] at o;rw[decide_eq_false hr];have H:=hid o;clear o hr;go_wp2_with fail
  go_ret2
  exact ⟨6,by rw[H.out];rfl,p.out⟩
def zck (H:House) (b c:Int):Int:=if b<0∨(H.accs.length:Int)≤b then 4 else match H.accs[b.toNat]? with|some a=>a.bringE c|none=>4
def zb4 (H:House) (b c:Int):House:=match H.accs[b.toNat]? with|some a=>{H with accs:=H.accs.set b.toNat (a.bring c)}|none=>H
def zgi (H:House) (b c:Int):Int:=match H.accs[b.toNat]? with|some a=>a.bud+c|none=>0
theorem zny {a:Acc} {v:Int} (h:a.bringE v≠0):a.bringE v=2:=by
 unfold Acc.bringE at*
 split at h
 ·exact absurd rfl h
 ·rw[if_neg (by assumption)]
theorem znM {W:World} {T:Nat→Part} {h pn pc K:Nat} {va vl vb vs:Value} {H:House} (O:HouseAt W T h pn pc va vl vb vs K H) (s:∀a∈H.accs,a.Ok) (o:OrderR) (vo:Value) (y:zck H o.bidder o.coins≠0):
  Calls Tryz.prog 95 #[.pointer (some ⟨h,0,none⟩),o.agg vo] W fun e W'=>e=.returned (.tuple #[(),(zck H o.bidder o.coins:Int)])∧Below W W W':=by
 obtain ⟨t,d⟩:=nm (W.alloc (.cells (o.cells vo).toArray 61));have k:Below W W t:=by rw[d];exact qA _
 have D:Blk t W 61 (o.cells vo).toArray:=by rw[d];exact Blk.new _ _ _
 have j:=O.grow k;have m:=hid k;obtain ⟨ba,ma,f,q⟩:=j.accs;have p:=j.cells.2.1;have hh:=j.cells.2.2.2.2.2.2;obtain ⟨z,l⟩:=nm (zck H o.bidder o.coins);rw[←l] at y ⊢;obtain ⟨P,Q,g,b,aa,⟨Y,R,E,U,ad,F,Z,M,X,L,ac⟩,ab,S⟩:=o;simp only at l;simp only[OrderR.agg,OrderR.cells,LotR.cells,List.cons_append,List.nil_append] at d D ⊢;have x2:t.cell? ⟨W,2,none⟩=some ↑g:=D.cell 2;have x3:t.cell? ⟨W,3,none⟩=some ↑b:=D.cell 3;unfold zck at l;by_cases hr:b<0∨(H.accs.length:Int)≤b
 ·rw[if_pos hr] at l;subst l;obtain ⟨A,c,C⟩:=f.form;have B:=fun W (p:W.cell? ⟨h,1,none⟩=some (.slice A H.accs.length c))=>zkg (W:=W) p hr;rw[C] at p;have n:=hid (B t p);clear O k D j f q C hr B p y s;go_enter Tryz.func95,Tryz.ntmps95;go_wp2_with fail
  rw[←d];clear d;refine n.out.mono ?_;rintro e W2 ⟨rfl,rfl⟩;go_wp2_with fail
  go_ret2
  exact ⟨rfl,m.out⟩
 ·rw[if_neg hr] at l;obtain ⟨i,hi⟩:∃i:Nat,b=i:=⟨b.toNat,by omega⟩;subst hi;have r:i<H.accs.length:=by omega
  obtain ⟨a,G⟩:∃a,H.accs[i]? =some a:=⟨_,gE r⟩;rw[Int.toNat_natCast,G] at l;simp only at l;subst l;have n:=hid (zjr p f r);have J:=hid (zja (q i a G).1 (s a (mG G)).bud (v:=g));have V:=hid (zny y);have HE:=hid y;clear O k D j f q hr p y s G r;go_enter Tryz.func95,Tryz.ntmps95;go_wp2_with fail
  rw[←d];clear d;refine n.out.mono ?_;rintro e W2 ⟨rfl,rfl⟩;go_wp2_with fail
  refine J.out.mono ?_;rintro e W3 (⟨N,rfl,x⟩|⟨N,_⟩)
  ·have I:=hid (m.out.trans (x.mono m.out.size));rw[V.out];clear x N;go_wp2_with fail
   go_ret2
   exact ⟨by rw[V.out];rfl,I.out⟩
  ·exact absurd N HE.out
theorem zkK {W:World} {T:Nat→Part} {h pn pc K:Nat} {va vl vb vs:Value} {H:House} (hH:HouseAt W T h pn pc va vl vb vs K H) (z:∀a∈H.accs,a.Ok) (o:OrderR) (vo:Value) (l:zck H o.bidder o.coins=0):
  Calls Tryz.prog 95 #[.pointer (some ⟨h,0,none⟩),o.agg vo] W fun e W'=>e=.returned (.tuple #[(zgi H o.bidder o.coins:Int),()])∧∃T',zaf W' T' h K (zb4 H o.bidder o.coins)∧Moves W T W' T':=by
 obtain ⟨A,g⟩:=nm (W.alloc (.cells (o.cells vo).toArray 61));have r:Below W W A:=by rw[g];exact qA _
 have E:Blk A W 61 (o.cells vo).toArray:=by rw[g];exact Blk.new _ _ _
 have k:=hH.grow r;have F:=hid r;obtain ⟨ba,ma,j,q⟩:=k.accs;have Y:=k.cells.2.1;obtain ⟨Q,R,c,d,olot,⟨kind,S,B,V,step,C,last,O,Z,N,rule⟩,ooff,U⟩:=o;simp only at l;simp only[OrderR.agg,OrderR.cells,LotR.cells,List.cons_append,List.nil_append] at g E ⊢;have x2:A.cell? ⟨W,2,none⟩=some ↑c:=E.cell 2;have x3:A.cell? ⟨W,3,none⟩=some ↑d:=E.cell 3;unfold zck at l;by_cases hr:d<0∨(H.accs.length:Int)≤d
 ·rw[if_pos hr] at l;cases l
 ·rw[if_neg hr] at l;obtain ⟨i,hi⟩:∃i:Nat,d=i:=⟨d.toNat,by omega⟩;subst hi;have m:i<H.accs.length:=by omega
  obtain ⟨a,p⟩:∃a,H.accs[i]? =some a:=⟨_,gE m⟩;rw[Int.toNat_natCast,p] at l;simp only at l;have hv:zgi H i c=a.bud+c:=by unfold zgi;rw[Int.toNat_natCast,p]
  have hw:zb4 H i c={H with accs:=H.accs.set i (a.bring c)}:=by unfold zb4;rw[Int.toNat_natCast,p]
  have L:=hid (zjr Y j m);have G:=hid (zja (q i a p).1 (z a (mG p)).bud (v:=c));have HE:=hid l;have I:=hid k;have M:=hid j;have n:=hid q;have J:=hid m;have X:=hid p;have HV:=hid hv;have HW:=hid hw;clear hH r E k j q hr Y l z p m hv hw;go_enter Tryz.func95,Tryz.ntmps95;go_wp2_with fail
  rw[←g];clear g;refine L.out.mono ?_;rintro e W2 ⟨rfl,rfl⟩;go_wp2_with fail
  refine G.out.mono ?_;rintro e W3 (⟨P,_⟩|⟨P,rfl,x,y⟩)
  ·exact absurd HE.out P
  ·have s:=hid x;have t:=hid y;clear x y P;go_wp2_with fail
   refine (zjc (f:=.live (a.bring c)) ⟨_,_,_,rfl,s.out⟩).mono ?_;rintro e W4 ⟨rfl,rfl⟩;go_wp2_with fail
   go_ret2
   refine ⟨by rw[HV.out];rfl,T,?_,?_⟩
   ·rw[HW.out];have D:=(n.out i a X.out).2;have hc:Chg (fun b=>T b=.acc i) W2 W4:=t.out.mono fun b _ e=>e▸D.1;exact ⟨pn,pc,va,vl,vb,vs,zeF I.out (ze5 M.out n.out J.out lR s.out hc) (hc.mono fun b _ e=>⟨i,e⟩)⟩
   ·have D:=(n.out i a X.out).2;exact ⟨(Chg.of _ F.out).step t.out fun b _ e=>by rw[e];exact ⟨by rw[D.1];simp,by rw[D.1];simp⟩,fun _ _=>rfl⟩
abbrev zhI (s:ByteArray) (b hl sp:Int):Value:=.agg #[.string s,.int .i64 b,.int .i64 hl,.int .i64 sp]
theorem zmC {W:World} {T:Nat→Part} {h K:Nat} {H:House} (o:zaf W T h K H) {x:Int} (r:x<0∨(H.accs.length:Int)≤x):
  Calls Tryz.prog 38 #[.pointer (some ⟨h,0,none⟩),x] W fun e W'=>e=.returned (.tuple #[zhI {data:=#[]} 0 0 0,(4:Int)])∧Below W W W':=by
 obtain ⟨q,d⟩:=nm (W.alloc (.cells #[.string {data:=#[]},(),(),()] 112));have f:Below W W q:=by rw[d];exact qA _
 have a:Blk q W 112 #[.string {data:=#[]},(),(),()]:=by rw[d];exact Blk.new _ _ _
 have j:=hid (o.grow f);have l:=hid a;have i:=hid f;obtain ⟨J,I,L,N,M,O,n⟩:=o.grow f;obtain ⟨A,c,g⟩:=n.accs.form;have m:=n.cells.2.1;rw[g] at m;have k:=hid (zkg m r);have B:=a.cell 0;have C:=a.cell 1;have D:=a.cell 2;have E:=a.cell 3;have P:=a.frozen;simp only[List.getElem?_toArray,List.getElem?_cons_zero,List.getElem?_cons_succ] at B C D E;clear o r n g m f a;go_enter Tryz.func38,Tryz.ntmps38;go_wp2_with fail
 rw[←d];clear d;refine (zcU j.out).mono ?_;rintro e F ⟨rfl,rfl⟩;go_wp2_with fail
 refine k.out.mono ?_;rintro e G ⟨rfl,rfl⟩;go_wp2_with fail
 have b:=(((l.out.set_ 0 (.string {data:=#[]})).set_ 1 ↑()).set_ 2 ↑()).set_ 3 ↑();have s:=b.cell 0;have t:=b.cell 1;have y:=b.cell 2;have z:=b.cell 3
 simp at s t y z
 refine bodyPost_ret (v:=.tuple #[zhI {data:=#[]} 0 0 0,(4:Int)]) (by simp[results,Tryz.results38,go_sem,s,t,y,z]) rfl ⟨rfl,?_⟩;exact (((i.out.setCell (p:=⟨W,0,none⟩) lR _).setCell (p:=⟨W,1,none⟩) lR _).setCell (p:=⟨W,2,none⟩) lR _).setCell (p:=⟨W,3,none⟩) lR _
theorem za2.cellsA {W:World} {T:Nat→Part} {n b:Nat} {l:LotS} (h:za2 W T n b l):W.cell? ⟨b,1,none⟩=some ↑l.put.opens∧W.cell? ⟨b,12,none⟩=some ↑l.closes∧W.cell? ⟨b,13,none⟩=some ↑l.closed:=by
 obtain ⟨v,_,h,_⟩:=h;exact ⟨h.cell 1,h.cell 12,h.cell 13⟩
theorem zlP {W:World} {T:Nat→Part} {h pn pc K:Nat} {va vl vb vs:Value} {H:House} (F:HouseAt W T h pn pc va vl vb vs K H) (o:OrderR) (vo:Value) (t:(o.bidder<0∨(H.accs.length:Int)≤o.bidder)∨(o.lot<0∨(H.lots.length:Int)≤o.lot)):
  Calls Tryz.prog 120 #[.pointer (some ⟨h,0,none⟩),o.agg vo] W fun e W'=>e=.returned (.tuple #[.pointer none,.pointer none,(4:Int)])∧Below W W W':=by
 obtain ⟨x,d⟩:=nm (W.alloc (.cells (o.cells vo).toArray 61));have k:Below W W x:=by rw[d];exact qA _
 have r:Blk x W 61 (o.cells vo).toArray:=by rw[d];exact Blk.new _ _ _
 have f:=F.grow k;have l:=hid k;obtain ⟨ba,ma,g,s⟩:=f.accs;have O:=f.cells.2.1;have P:=f.cells.2.2.1;have hh:=f.cells.2.2.2.2.2.2;obtain ⟨A,c,p⟩:=g.form;obtain ⟨Al,cl,q⟩:=f.lots.form;rw[q] at P;obtain ⟨V,n⟩:=nm (H.lots.length);rw[←n] at P t;obtain ⟨G,I,B,a,b,⟨S,J,y,M,Z,z,U,D,Q,C,Y⟩,X,L⟩:=o;simp only at t;simp only[OrderR.agg,OrderR.cells,LotR.cells,List.cons_append,List.nil_append] at d r ⊢;have x3:x.cell? ⟨W,3,none⟩=some ↑a:=r.cell 3;have x4:x.cell? ⟨W,4,none⟩=some ↑b:=r.cell 4;have xl:=r.lt;by_cases h1:a<0∨(H.accs.length:Int)≤a
 ·have m:=O;rw[p] at m;have j:=hid (zkg m h1);clear F k r f g s p q n t h1 m;go_enter Tryz.func120,Tryz.ntmps120;go_wp2_with fail
  rw[←d];clear d;refine j.out.mono ?_;rintro e N ⟨rfl,rfl⟩;go_wp2_with fail
  go_quiet (fail)
  go_wp2_with fail
  refine bodyPost_ret (v:=.tuple #[.pointer none,.pointer none,(4:Int)]) (by simp[results,Tryz.results120,go_sem]) rfl ⟨rfl,below_drewN l.out _⟩
 ·obtain ⟨i,hi⟩:∃i:Nat,a=i:=⟨a.toNat,by omega⟩;subst hi;have j:=hid (zjr O g (show i<H.accs.length by omega));have E:=t.resolve_left h1;clear F k r f g s p q n t h1;by_cases h3:b<0
  ·have b1:decide (b<0)=true:=decide_eq_true h3;clear E h3;go_enter Tryz.func120,Tryz.ntmps120;go_wp2_with fail
   rw[←d];clear d;refine j.out.mono ?_;rintro e N ⟨rfl,rfl⟩;go_wp2_with fail
   go_quiet (fail)
   go_wp2_with fail
   refine bodyPost_ret (v:=.tuple #[.pointer none,.pointer none,(4:Int)]) (by simp[results,Tryz.results120,go_sem]) rfl ⟨rfl,below_drewN l.out _⟩
  ·have b1:decide (b<0)=false:=decide_eq_false h3;have R:=E.resolve_left h3;have b2:decide ((V:Int)≤b)=true:=decide_eq_true R;have b3:decide (b ≥ (V:Int))=true:=b2;clear E h3 R;go_enter Tryz.func120,Tryz.ntmps120;go_wp2_with fail
   rw[←d];clear d;refine j.out.mono ?_;rintro e N ⟨rfl,rfl⟩;go_wp2_with fail
   go_quiet (fail)
   go_wp2_with fail
   refine bodyPost_ret (v:=.tuple #[.pointer none,.pointer none,(4:Int)]) (by simp[results,Tryz.results120,go_sem]) rfl ⟨rfl,below_drewN l.out _⟩
theorem zhQ {W:World} {T:Nat→Part} {h pn pc K:Nat} {va vl vb vs:Value} {H:House} (V:HouseAt W T h pn pc va vl vb vs K H) (o:OrderR) (vo:Value) {G bl:Nat→Nat} (p:RowAt W (fun b=>T b=.accs) 136 1 va H.accs.length (ptrs G H.accs.length))
  (x:RowAt W (fun b=>T b=.lots) 138 1 vl H.lots.length (ptrs bl H.lots.length)) {i j:Nat} (Y:o.bidder=i) (Z:o.lot=j) (z:i<H.accs.length) {l:LotS} (hl:H.lots[j]? =some l) (X:za2 W T j (bl j) l):
  Calls Tryz.prog 120 #[.pointer (some ⟨h,0,none⟩),o.agg vo] W fun e W'=>Below W W W'∧
   ((l.closed=true∨H.now<l.put.opens∨l.closes≤H.now)∧e=.returned (.tuple #[.pointer none,.pointer none,(6:Int)])∨¬(l.closed=true∨H.now<l.put.opens∨l.closes≤H.now)∧e=.returned (.tuple #[.pointer (some ⟨bl j,0,none⟩),.pointer (some ⟨G i,0,none⟩),()])):=by
 obtain ⟨y,d⟩:=nm (W.alloc (.cells (o.cells vo).toArray 61));have a:Below W W y:=by rw[d];exact qA _
 have B:Blk y W 61 (o.cells vo).toArray:=by rw[d];exact Blk.new _ _ _
 have c:=V.grow a;have g:=hid a;have c1:=c.cells.2.1;have c2:=c.cells.2.2.1;have c3:=c.cells.2.2.2.1;have hh:=c.cells.2.2.2.2.2.2;have m:=(gS.1 hl).1;have F:=hid (zjr c1 (p.grow a) z);obtain ⟨q,cap,rfl,_,L,_⟩:=x.ex (by omega);have q0:y.cell? ⟨q,j,none⟩=some (.pointer (some ⟨bl j,0,none⟩)):=qc a ((x.own.cellAt j (by omega)).trans (zcL m)) L;have hq1:q<y.heap.size:=lL L a.size;obtain ⟨l1,M,N⟩:=(X.step (T':=T) (Chg.of (fun _=>False) a) (fun _ _=>id) (fun _ _=>rfl)).cellsA;have n:=hid c.cal;obtain ⟨lo,t⟩:=nm (l.put.opens);obtain ⟨O,r⟩:=nm (l.closes);obtain ⟨ld,s⟩:=nm (l.closed);obtain ⟨now,f⟩:=nm (H.now);obtain ⟨nl,A⟩:=nm (H.lots.length);rw[←A] at c2 m;rw[←t] at l1;rw[←r] at M;rw[←s] at N;rw[←f] at n;rw[←t,←r,←s,←f];obtain ⟨P,Q,E,C,olot,⟨kind,opens,closes,S,step,D,last,J,U,I,rule⟩,ooff,R⟩:=o;simp only at Y Z;subst Y Z;simp only[OrderR.agg,OrderR.cells,LotR.cells,List.cons_append,List.nil_append] at d B ⊢;have x3:y.cell? ⟨W,3,none⟩=some ↑(i:Int):=B.cell 3;have x4:y.cell? ⟨W,4,none⟩=some ↑(j:Int):=B.cell 4;have xl:=B.lt;have b1:decide ((j:Int)<0)=false:=decide_eq_false (by omega);have b2:decide ((nl:Int)≤(j:Int))=false:=decide_eq_false (by omega);have e1:(0:Int)≤(j:Int):=by omega
 have e2:(j:Int)<(nl:Int):=by omega
 have HJL:=hid m;clear V a B c p x z hl X t r s f A m L;go_enter Tryz.func120,Tryz.ntmps120;go_wp2_with fail
 rw[←d];clear d;refine F.out.mono ?_;rintro e W2 ⟨rfl,rfl⟩;go_wp2_with fail
 go_quiet (fail)
 go_wp2_with fail
 go_quiet (fail)
 go_wp2_with fail
 refine (zc3 (W:=_) (n.out.grow (below_drewN bR _))).mono ?_;rintro e W7 ⟨rfl,rfl⟩
 cases hd:ld with
 |true=>
  subst hd;go_wp2_with fail
  refine bodyPost_ret (v:=.tuple #[.pointer none,.pointer none,(6:Int)]) (by simp[results,Tryz.results120,go_sem]) rfl ⟨below_drewN g.out _,rfl⟩
 |false=>
  subst hd;by_cases h1:now<lo
  ·go_wp2_with fail
   refine bodyPost_ret (v:=.tuple #[.pointer none,.pointer none,(6:Int)]) (by simp[results,Tryz.results120,go_sem]) rfl ⟨below_drewN g.out _,.inl ⟨.inr (.inl h1),rfl⟩⟩
  ·by_cases h2:O≤now
   ·have h3:now ≥ O:=h2;go_wp2_with fail
    refine bodyPost_ret (v:=.tuple #[.pointer none,.pointer none,(6:Int)]) (by simp[results,Tryz.results120,go_sem]) rfl ⟨below_drewN g.out _,.inl ⟨.inr (.inr h2),rfl⟩⟩
   ·have h3:¬now ≥ O:=h2;go_wp2_with fail
    refine bodyPost_ret (v:=.tuple #[.pointer (some ⟨bl j,0,none⟩),.pointer (some ⟨G i,0,none⟩),()]) (by simp[results,Tryz.results120,go_sem]) rfl ⟨below_drewN g.out _,.inr ⟨by rintro (k|k|k);cases k;omega;omega,rfl⟩⟩
end Ho
end Go.Proofs.YtckdpejdnejhfaaGreat

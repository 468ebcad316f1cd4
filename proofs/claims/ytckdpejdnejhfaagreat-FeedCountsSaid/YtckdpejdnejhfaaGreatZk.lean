/- Joined by program. -/
import Derived.Test.YtckdpejdnejhfaaGreatZj
set_option linter.all false
set_option maxRecDepth 100000
set_option maxHeartbeats 32000000
namespace Go.Proofs.YtckdpejdnejhfaaGreat
open Lib (hid)
namespace Ho
open Go.RowKit Vb Ac
theorem zm2:zbg Tryz.prog 78 138 1 8:=zba Tryz.underlying78 (by omega) (z:=.pointer none) (by kernel_rfl) rfl
theorem znG (a:List LotS) (l:LotS) (h:l.closed=false):zaW (a++[l])=upd (zaW a) a.length (some l.closes):=by
 funext n
 unfold upd zaW;by_cases h0:n<0
 ·rw[if_pos h0,if_pos h0,if_neg (by omega)]
 ·rw[if_neg h0,if_neg h0];by_cases e:n=a.length
  ·subst e;simp[h]
  ·rw[if_neg e];by_cases hl:n.toNat<a.length
   ·rw[List.getElem?_append_left hl]
   ·rw[List.getElem?_eq_none (by simp;omega),List.getElem?_eq_none (by omega)]
theorem zn7 {l:LotR} (h:zbO l=true):∃t,zau l.kind=.iface t (.agg #[]):=by
 unfold zbO zl1 at h;unfold zau;by_cases h1:l.kind=1
 ·rw[if_pos h1];exact ⟨_,rfl⟩
 ·by_cases h2:l.kind=2
  ·rw[if_neg h1,if_pos h2];exact ⟨_,rfl⟩
  ·by_cases h3:l.kind=3
   ·rw[if_neg h1,if_neg h2,if_pos h3];exact ⟨_,rfl⟩
   ·by_cases h4:l.kind=4
    ·rw[if_neg h1,if_neg h2,if_neg h3,if_pos h4];exact ⟨_,rfl⟩
    ·by_cases h5:l.kind=5
     ·rw[if_neg h1,if_neg h2,if_neg h3,if_neg h4,if_pos h5];exact ⟨_,rfl⟩
     ·simp[h1,h2,h3,h4,h5] at h
theorem zfK (f:Nat→Nat) (n:Nat):ptrs f (n+1)=ptrs f n++[.pointer (some ⟨f n,0,none⟩)]:=by simp[ptrs,List.range_succ]
theorem zeL {f g:Nat→Nat} {n:Nat} (h:∀i,i<n→f i=g i):ptrs f n=ptrs g n:=by
 unfold ptrs;refine List.map_congr_left fun i a=>?_;rw[h i (List.mem_range.1 a)]
theorem zs6 {W U V:World} {T:Nat→Part} {h pn pc K gl d:Nat} {va vl vb vs v':Value} {H:House} {P:LotR} {bl:Nat→Nat} (g:HouseAt W T h pn pc va vl vb vs K H) (A:∀n l,H.lots[n]? =some l→za2 W T n (bl n) l) (q:d=H.lots.length) (y:W.heap.size≤gl) (F:gl<U.heap.size)
  (c:RowAt U (fun b=>(T b=.lots∧b<W.heap.size)∨(W.heap.size≤b∧b≠gl)) 138 1 v' (d+1) (ptrs bl d++[.pointer (some ⟨gl,0,none⟩)])) (r:Chg (fun b=>T b=.hs∨T b=.lots) W U)
  (x:Blk U h 83 #[.pointer (some ⟨pn,0,none⟩),va,v',.pointer (some ⟨pc,0,none⟩),vb,vs]) (z:Blk U gl 145 ((zcX P).cells (.slice none 0 0)).toArray) (o:Chg (fun b=>T b=.cal∧b<W.heap.size) U V)
  (s:zar V (fun b=>(T b=.cal∧b<W.heap.size)∨U.heap.size≤b) pc H.now (upd H.due d (some P.closes))):∃T',zaf V T' h K (zfl H P)∧Moves W T V T':=by
 obtain ⟨T',f⟩:=nm (fun b=>if b<W.heap.size then T b else if b=gl then .lot d else if b<U.heap.size then .lots else if b<V.heap.size then .cal else .no:Nat→Part);have j:∀b,b<W.heap.size→T' b=T b:=fun b m=>by rw[f];simp[m]
 have L:=r.size;have M:=o.size;have a:Chg (fun b=>T b=.hs∨T b=.lots∨T b=.cal) W V:=(r.mono fun b _ e=>e.elim .inl fun e=>.inr (.inl e)).step o fun b _ e=>.inr (.inr e.1);have p:Chg (fun b=>T b=.cal) U V:=o.mono fun b _ e=>e.1;refine ⟨T',⟨pn,pc,va,v',vb,vs,?_⟩,a.mono fun b _ e=>?_,j⟩
 ·refine ⟨(j h g.blk.lt).trans g.top,x.chg p (fun e=>by rw[g.top] at e;cases e),g.names.step a (fun b e=>by rintro (k|k|k)<;>rw[e] at k<;>cases k) j,g.accs.step a (fun b e=>?_) j,?_,?_,g.book.step a (fun b e=>?_) j,g.sales.step a (fun b e=>by rintro (k|k|k)<;>rw[e] at k<;>cases k) j,fun b m=>?_⟩
  ·rcases e with e|⟨i,e⟩<;>rintro (k|k|k)<;>rw[e] at k<;>cases k
  ·refine ⟨fun i=>if i=d then gl else bl i,?_,fun n l t=>?_⟩
   ·have v:(zfl H P).lots.length=d+1:=by simp[zfl,q]
    rw[v,zfK];have D:ptrs (fun i=>if i=d then gl else bl i) d=ptrs bl d:=zeL fun i N=>by simp[show ¬i=d by omega]
    rw[D];simp only[if_true];have E:=c.chgB p (fun b m e=>by
     rcases c.blk b m with k|k
     ·rw[k.1] at e;cases e
     ·have:=g.out b k.1;rw[this] at e;cases e)
    refine ⟨E.own,fun b m=>?_⟩;have B:=c.lt m
    rcases c.blk b m with k|k
    ·exact (j b k.2).trans k.1
    ·rw[f];simp only[show ¬b<W.heap.size by omega,if_false,k.2,B,if_true]
   ·by_cases e:n=d
    ·subst e;have I:l=zcX P:=by
      have:(zfl H P).lots[n]? =some (zcX P):=by simp[zfl,q]
      rw[this] at t;cases t;rfl
     subst I;simp only[if_true];refine ⟨.slice none 0 0,?_,z.chg p (fun e=>by rw[g.out gl y] at e;cases e),⟨fun _=>.slice none 0 0,RowAt.nil,fun k l G=>by simp[zcX] at G⟩⟩;rw[f];simp[show ¬gl<W.heap.size by omega]
    ·simp only[if_neg e];have C:H.lots[n]? =some l:=by
      have v:=(gS.1 t).1;simp only[zfl,List.length_append,List.length_singleton] at v;simp only[zfl] at t
      rwa [List.getElem?_append_left (by omega)] at t
     exact (A n l C).step a (fun b e=>by rcases e with e|e<;>rintro (k|k|k)<;>rw[e] at k<;>cases k) j
  ·show zar V _ pc H.now (upd H.due H.lots.length (some P.closes))
   rw[←q];refine s.mono fun b m J=>?_
   rcases J with k|k
   ·exact (j b k.2).trans k.1
   ·rw[f];simp[show ¬b<W.heap.size by omega,show ¬b=gl by omega,show ¬b<U.heap.size by omega,m]
  ·rcases e with e|e<;>rintro (k|k|k)<;>rw[e] at k<;>cases k
  ·rw[f];simp[show ¬b<W.heap.size by omega,show ¬b=gl by omega,show ¬b<U.heap.size by omega,show ¬b<V.heap.size by omega]
 ·rcases e with e|e|e<;>exact ⟨by rw[e];simp,by rw[e];simp⟩
theorem zsH {W:World} {T:Nat→Part} {h pn pc K:Nat} {va vl vb vs:Value} {H:House} (hH:HouseAt W T h pn pc va vl vb vs K H) (hlen:H.lots.length≤4096) (o:OrderR) (vo:Value) (L:zev H o.put=0):
  Calls Tryz.prog 96 #[.pointer (some ⟨h,0,none⟩),o.agg vo] W fun e W'=>e=.returned (.tuple #[H.lots.length,()])∧∃T',zaf W' T' h K (zfl H o.put)∧Moves W T W' T':=by
 have r:zbO o.put=true:=by
  cases R:zbO o.put with
  |true=>rfl
  |false=>unfold zev at L;rw[if_pos R] at L;cases L
 unfold zev at L;rw[if_neg (by rw[r];simp)] at L;have R:¬o.put.opens<H.now:=fun R=>by rw[if_pos R] at L;cases L
 rw[if_neg R] at L;have h2:¬H.lots.length=4096:=fun h2=>by rw[if_pos h2] at L;cases L
 have hoc:zae o.put.closes=true∧o.put.opens<o.put.closes:=by
  unfold zbO at r;simp only[Bool.and_eq_true,decide_eq_true_eq] at r;exact ⟨r.1.1.2,r.1.2⟩
 obtain ⟨W1,I⟩:=nm (W.alloc (.cells (o.cells vo).toArray 61));have hb1:Below W W W1:=by rw[I];exact qA _
 have hx:Blk W1 W 61 (o.cells vo).toArray:=by rw[I];exact Blk.new _ _ _
 obtain ⟨A,c,hvl⟩:=hH.lots.form;have ab:=fun w=>zjn o.put w;obtain ⟨tk,s⟩:=zn7 r;obtain ⟨bl,hbl,hls⟩:=hH.lots;have HBL:=hid hbl;have HLS:=hid hls;rw[r] at ab;simp only[if_true] at ab;have H0:=hid hH;have H1:=hid (hH.grow hb1);have HB1:=hid hb1;have HX:=hid hx;have HVL:=hid hvl;have HCK:=hid ab;have HOC:=hid hoc;have S:=hid (show H.lots.length<4096 by omega);obtain ⟨okind,oname,ocoins,obidder,olot,⟨N,m,g,Q,ah,x,af,G,ad,F,ag⟩,ooff,otick⟩:=o;simp only at HCK HOC R s;have HKD:=hid s;obtain ⟨P,hP⟩:=nm (⟨N,m,g,Q,ah,x,af,G,ad,F,ag⟩:LotR);have HP:=hid hP;simp only[OrderR.agg,OrderR.cells,LotR.cells,List.cons_append,List.nil_append] at I HX ⊢;rw[←hP];have NOW:=hid (show ¬m<H.now from R);clear hb1 hx ab hvl L r R h2 hoc hlen hP s hbl hls;go_enter Tryz.func96,Tryz.ntmps96;go_wp2_with fail
 rw[←I];refine (HCK.out _).mono ?_;rintro e E ⟨rfl,X⟩;have HB2:=hid (HB1.out.trans (X.mono HB1.out.size));have H2:=hid (H1.out.grow X);have HX2:=hid (HX.out.grow X);clear X I;have x6:E.cell? ⟨W,6,none⟩=some ↑m:=HX2.out.cell 6;have xl:=HX2.out.lt;have c3:=H2.out.cells.2.2.2.1;have c2:E.cell? ⟨h,2,none⟩=some (.slice A H.lots.length c):=H2.out.cells.2.2.1.trans (by rw[HVL.out]);have hl:=H2.out.blk.lt;obtain ⟨now,M⟩:=nm (H.now);have HCAL:=hid (show zar E (fun b=>T b=.cal) pc now H.due by rw[M];exact H2.out.cal);have R:¬m<now:=by have:=NOW.out;omega
 obtain ⟨v,ac⟩:=nm (H.lots.length);have h2:((v:Int)==4096)=false:=by have:=S.out;rw[←ac] at this;simp;omega
 rw[←ac] at c2;have HN:=hid ac;have D:=hid M;clear M ac hH;go_wp2_with fail
 refine zac (Below E E) [] (by kernel_rfl) (bR.drew) (fun a=>?_);refine tp 0 a ?_;refine tp 1 a ?_;have O:=hid fun (w':World) (d:(Below E E) w')=>And.intro (qc d x6 xl)<|qc d c3 hl;refine tl 2 a O ?_;refine tp 3 a ?_;refine tp 4 a ?_;refine tp 5 a ?_;refine tp 6 a ?_;refine tl 7 a O ?_;refine stp 8 fun K q=>?_;go_simp;refine (zc3 (W:=E.drew) (HCAL.out.grow bR.drew)).mono ?_;rintro e W7 ⟨rfl,rfl⟩;refine q.out _ _ ?_ (fun a=>?_)
 ·exact a
 clear q K
 try simp only[Act.put,pb,pz,ps]
 refine tp 9 a ?_;refine tp 10 a ?_;refine zaa (by kernel_rfl) ?_ _;clear a;obtain ⟨f,z⟩:=nm (E.drew);rw[←z];have Y:Below E E f:=by rw[z];exact bR.drew
 have B:=hid (HB2.out.trans (Y.mono HB2.out.size));have H3:=hid (H2.out.grow Y);have i:=hid (HX2.out.grow Y);have y2:f.cell? ⟨h,2,none⟩=some (.slice A v c):=by rw[z];exact c2
 have hl3:h<f.heap.size:=by rw[z];exact hl
 have l:W.heap.size<f.heap.size:=by rw[z];exact xl
 clear c2 c3 x6 hl xl z Y;go_wp2_with fail
 have y5:f.cell? ⟨W,5,none⟩=some ↑N:=i.out.cell 5;have y6:f.cell? ⟨W,6,none⟩=some ↑m:=i.out.cell 6;have y7:f.cell? ⟨W,7,none⟩=some ↑g:=i.out.cell 7;have y8:f.cell? ⟨W,8,none⟩=some ↑Q:=i.out.cell 8;have y9:f.cell? ⟨W,9,none⟩=some ↑ah:=i.out.cell 9;have y10:f.cell? ⟨W,10,none⟩=some ↑x:=i.out.cell 10;have y11:f.cell? ⟨W,11,none⟩=some ↑af:=i.out.cell 11;have y12:f.cell? ⟨W,12,none⟩=some ↑G:=i.out.cell 12;have y13:f.cell? ⟨W,13,none⟩=some ↑ad:=i.out.cell 13;have y14:f.cell? ⟨W,14,none⟩=some ↑F:=i.out.cell 14;have y15:f.cell? ⟨W,15,none⟩=some ↑ag:=i.out.cell 15;have p:=hid (show RowAt f (fun b=>T b=.lots∧b<W.heap.size) 138 1 (.slice A v c) v (ptrs bl v) from by
  have h0:=HBL.out;rw[HVL.out,←HN.out] at h0;exact (h0.mono (R':=fun b=>T b=.lots∧b<W.heap.size) fun b hb hr=>⟨hr,hb⟩).chg (Chg.of (fun _=>False) B.out) fun _ _ _=>id)
 have or1:¬(Value.slice A v c).ownBlock=some h:=fun e=>by have h3:=(p.out.blk h e).1;rw[H0.out.top] at h3;cases h3
 have j:¬(Value.slice A v c).ownBlock=some W.heap.size:=fun e=>by have h3:=(p.out.blk _ e).2;omega
 have HOR:=hid or1;refine zac (Chg (fun b=>(Value.slice A v c).ownBlock=some b) f) [26] (by kernel_rfl) ((Chg.refl _ f).grow bR.drew) (fun a=>?_);refine tp 0 a ?_;refine tp 1 a ?_;refine tp 2 a ?_;refine tp 3 a ?_;refine tp 4 a ?_;have O:=hid fun (w':World) (d:(Chg (fun b=>(Value.slice A v c).ownBlock=some b) f) w')=>And.intro (cg d y2 hl3 or1)<|And.intro (cg d y5 l j)<|And.intro (cg d y6 l j)<|And.intro (cg d y7 l j)<|And.intro (cg d y8 l j)<|And.intro (cg d y9 l j)<|And.intro (cg d y10 l j)<|And.intro (cg d y11 l j)<|And.intro (cg d y12 l j)<|And.intro (cg d y13 l j)<|And.intro (cg d y14 l j)<|cg d y15 l j;refine tl 5 a O ?_;refine tp 6 a ?_;refine tl 7 a O ?_;refine tp 8 a ?_;refine tp 9 a ?_;refine tl 10 a O ?_;refine tp 12 a ?_;refine tp 13 a ?_;refine tl 14 a O ?_;refine tp 15 a ?_;refine tp 16 a ?_;refine tl 17 a O ?_;refine tp 18 a ?_;refine stp 11 fun K q=>?_;go_simp;refine (zcW N _).mono ?_;rintro e w7 ⟨rfl,rfl⟩;rw[HKD.out];refine q.out _ _ ?_ (fun a=>?_)
 ·exact a
 clear q K
 try simp only[Act.put,pb,pz,ps]
 refine tp 19 a ?_;refine stp 20 fun K q=>?_;go_simp;refine q.out _ _ ?_ (fun a=>?_)
 ·exact ((Chg.refl _ f).grow (qA _)).grow bR.drew
 clear q K
 try simp only[Act.put,pb,pz,ps]
 obtain ⟨W4,J⟩:=nm ((f.alloc (.cells ((zcX P).cells (.slice none 0 0)).toArray 145)).drew);have hb4:Below f f W4:=by rw[J];exact (qA _).drew
 have HL4:=hid (show Blk W4 f 145 ((zcX P).cells (.slice none 0 0)).toArray by rw[J];exact Blk.new f _ _);simp only[zcX,LotS.cells,LotR.cells,HP.out,RiseR.cells,HKD.out,List.cons_append,List.nil_append] at J;rw[←J] at a ⊢;clear J;have C:=hid hb4;have HRW:=hid ((p.out.grow hb4).grow (bR.alloc lR (.cells #[.pointer (some ⟨f,0,none⟩)] 138)));clear hb4;refine stp 21 fun K q=>?_;go_simp;refine q.out _ _ ?_ (fun a=>?_)
 ·exact a.grow (qA _)
 clear q K
 try simp only[Act.put,pb,pz,ps]
 refine stp 22 fun K q=>?_;refine zbR (W4.alloc (.cells #[.pointer (some ⟨f,0,none⟩)] 138)) (.tmp 42) (.tmp 58) rfl zm2 rfl (.slice A v c) v (ptrs bl v) rfl HRW.out (.slice (some ⟨W4,0,none⟩) 1 1) 1 [.pointer (some ⟨f,0,none⟩)] rfl (Sl.lit1 (Blk.new W4 138 #[.pointer (some ⟨f,0,none⟩)]) rfl) (by simp[Value.oneCell']) (by have:=S.out;have:=HN.out;omega) (by have:=S.out;have:=HN.out;unfold maxLen;omega) ?_;intro A3 c3 Z hrZ aa;refine q.out _ _ ?_ (fun a=>?_)
 ·exact (a.trans aa)
 clear q K
 try simp only[Act.put,pb,pz,ps]
 have HHZ:=hid (((H3.out.blk.grow C.out).alloc (.cells #[.pointer (some ⟨f,0,none⟩)] 138)).chg aa HOR.out);have HZR:=hid hrZ;have HZC:=hid aa;obtain ⟨U,hU⟩:=nm (Z.setCell ⟨h,2,none⟩ (.slice A3 (v+1) c3));have HU:=hid hU;clear hrZ aa hU;refine tpD [24,25,26] 23 a ?_;refine tpD [25,26] 24 a ?_;refine tp 25 a ?_;refine stf 26 fun K q=>?_;have f2:=HHZ.out.frozen 2;have d2:=HHZ.out.cell 2;go_simp;rw[←HU.out];refine q.out _ _ ?_;clear q K
 try simp only[Act.put,pb,pz,ps]
 refine zaa (by kernel_rfl) ?_ _;clear a y2 y5 y6 y7 y8 y9 y10 y11 y12 y13 y14 y15 j or1 hl3 l;have hU:=HU.out;have hlW:h<W.heap.size:=H0.out.blk.lt;have hxZ:=((i.out.grow C.out).alloc (.cells #[.pointer (some ⟨f,0,none⟩)] 138)).chg HZC.out (fun e=>by have:=(p.out.blk _ e).2;omega);have y:Chg (·=h) Z U:=by rw[hU];exact Chg.set Z ⟨h,2,none⟩ _
 have HXU:=hid (hxZ.chg y (by omega));have HHU:=hid (show Blk U h 83 #[.pointer (some ⟨pn,0,none⟩),va,.slice A3 (v+1) c3,.pointer (some ⟨pc,0,none⟩),vb,vs] by rw[hU];exact HHZ.out.set_ 2 _);have HCU:=hid (show Chg (fun b=>T b=.hs∨T b=.lots) W U from (((Chg.of _ B.out).grow C.out).grow (bR.alloc lR (.cells #[.pointer (some ⟨f,0,none⟩)] 138))).step HZC.out (fun b _ e=>.inr (p.out.blk b e).1)|>.step y (fun b _ e=>.inl (e▸H0.out.top)));have HLZ:=hid ((((HL4.out.alloc (.cells #[.pointer (some ⟨f,0,none⟩)] 138)).chg HZC.out (fun e=>by have:=(p.out.blk _ e).2;have:=B.out.size;omega))).chg y (by have:=B.out.size;omega));have HCALU:=hid (show zar U (fun b=>T b=.cal∧b<W.heap.size) pc now H.due from by rw[D.out];exact H0.out.cal.own.chg HCU.out (fun b _ e=>by rintro (e2|e2)<;>rw[e.1] at e2<;>cases e2));have z7:U.cell? ⟨W,7,none⟩=some ↑g:=HXU.out.cell 7;have xlU:=HXU.out.lt;have z3:U.cell? ⟨h,3,none⟩=some (.pointer (some ⟨pc,0,none⟩)):=HHU.out.cell 3;have hlU:=HHU.out.lt;clear hU hlW hxZ y;go_wp2_with fail
 refine zac (Below U U) [9] (by kernel_rfl) (bR.drew) (fun a=>?_);refine tpD [1,2,3,4,9] 0 a ?_;refine tpD [2,3,4,9] 1 a ?_;refine tpD [3,4,9] 2 a ?_;refine tpD [4,9] 3 a ?_;have O:=hid fun (w':World) (d:(Below U U) w')=>And.intro (qc d z7 xlU)<|qc d z3 hlU;refine tl 4 a O ?_;refine tp 5 a ?_;refine tpD [7,8,9] 6 a ?_;refine tpD [8,9] 7 a ?_;refine tl 8 a O ?_;refine stf 9 fun K q=>?_;go_simp;refine (ziX (W:=U.drew) (HCALU.out.grow bR.drew) (n:=(v:Int)) (t:=g) (by omega) (by have:=S.out;have:=HN.out;omega) HOC.out.1 (by have:=NOW.out;have:=D.out;have:=HOC.out.2;omega)).mono ?_;rintro e V ⟨rfl,ae,hcV⟩;have HCALV:=hid ae;have HCV:=hid hcV;clear ae hcV;refine q.out _ _ ?_;clear q K
 try simp only[Act.put,pb,pz,ps]
 refine zaa (by kernel_rfl) ?_ _;clear a z7 z3 xlU hlU;go_wp2_with fail
 go_ret2
 refine ⟨by rw[←HN.out];rfl,?_⟩;have hgl:W.heap.size≤f.heap.size:=B.out.size;have hrowU:=HZR.out.chgB (show Chg (·=h) Z U by rw[HU.out];exact Chg.set Z ⟨h,2,none⟩ _) (fun b hb e=>by
  rcases HZR.out.blk b hb with k|k
  ·have:=k.1;rw[e,H0.out.top] at this;cases this
  ·have R:=C.out.size;have h2:=H0.out.blk.lt;rw[World.size_alloc] at k;omega)
 have h4:=C.out.size;have h5:=HLZ.out.lt;have h6:f.heap.size<W4.heap.size:=HL4.out.lt;exact zs6 (P:=P) H0.out HLS.out HN.out hgl h5 (hrowU.mono fun b _ k=>k.elim .inl fun k=>.inr (by rw[World.size_alloc] at k;omega)) HCU.out HHU.out HLZ.out (((Chg.refl _ U).grow bR.drew).trans HCV.out) (by rw[←D.out,show P.closes=g by rw[HP.out]];exact HCALV.out.mono fun b _ k=>k.elim .inl .inr)
theorem zcU {W:World} {T:Nat→Part} {h K:Nat} {H:House} (a:zaf W T h K H):Calls Tryz.prog 61 #[.pointer (some ⟨h,0,none⟩)] W fun e W'=>e=.returned ↑false∧W'=W:=by
 obtain ⟨d,c,f,i,g,j,a⟩:=a;have b:=a.cells.2.2.2.1;clear a;go_enter Tryz.func61,Tryz.ntmps61;go_wp2_with fail
 go_ret;exact ⟨rfl,rfl⟩
def zan:House:=⟨[],[],[],0,[],[],fun _=>none⟩
theorem ziI (W:World):Calls Tryz.prog 5 #[] W fun e W'=>∃h T,e=.returned (.pointer (some ⟨h,0,none⟩))∧zaf W' T h 0 zan∧Below W W W'∧∀b,b<W.heap.size→T b=.no:=by
 go_enter Tryz.func5,Tryz.ntmps5;go_wp2_with fail
 refine (zl3 (by decide) (by decide) _).mono ?_;rintro e k ⟨x,rfl,z,p⟩;have B:=hid z;have m:=hid p;clear z p;go_wp2_with fail
 refine (zr4 _).mono ?_;rintro e c ⟨r,rfl,y,q⟩;have A:=hid y;have f:=hid q;clear y q;go_wp2_with fail
 go_ret;have s:=m.out.size;have t:=f.out.size;obtain ⟨n,d⟩:=nm (c.alloc (.cells #[.pointer (some ⟨x,0,none⟩),.slice none 0 0,.slice none 0 0,.pointer (some ⟨r,0,none⟩),.slice none 0 0,.slice none 0 0] 83));have v:n.heap.size=c.heap.size+1:=by rw[d];simp
 have g:Below c c n:=by rw[d];exact qA _
 have E:Blk n c 83 #[.pointer (some ⟨x,0,none⟩),.slice none 0 0,.slice none 0 0,.pointer (some ⟨r,0,none⟩),.slice none 0 0,.slice none 0 0]:=by rw[d];exact Blk.new _ _ _
 rw[←d];obtain ⟨T,o⟩:=nm (fun b=>if b<W.heap.size then .no else if b<k.heap.size then .names else if b<c.heap.size then .cal else if b<n.heap.size then .hs else .no:Nat→Part);refine ⟨c,T,rfl,⟨x,r,.slice none 0 0,.slice none 0 0,.slice none 0 0,.slice none 0 0,?_,E,?_,⟨fun _=>0,fun _=>0,RowAt.nil,fun i a h=>by simp[zan] at h⟩,⟨fun _=>0,RowAt.nil,fun i a h=>by simp[zan] at h⟩,?_,⟨fun _=>.slice none 0 0,RowAt.nil,fun i a h=>by simp[zan] at h⟩,RowAt.nil,fun b l=>?_⟩,m.out.trans ((f.out.mono s).trans (g.mono (by omega))),fun b l=>?_⟩
 ·rw[o];simp[show ¬c.heap.size<W.heap.size by omega,show ¬c.heap.size<k.heap.size by omega,v]
 ·refine ((B.out.mono (R':=fun b=>W.heap.size≤b∧b<k.heap.size) fun b l j=>⟨j,l⟩).grow (f.out.trans (g.mono t))).mono fun b _ j=>?_;rw[o];simp[show ¬b<W.heap.size by omega,j.2]
 ·have C:zar c (fun b=>k.heap.size≤b∧b<c.heap.size) r 0 (fun _=>none):=A.out.mono fun b l j=>⟨j,l⟩;have D:=(C.grow g).mono (R':=fun b=>T b=.cal) fun b _ j=>by
   rw[o];simp[show ¬b<W.heap.size by omega,show ¬b<k.heap.size by omega,j.2]
  exact D
 ·rw[o];simp[show ¬b<W.heap.size by omega,show ¬b<k.heap.size by omega,show ¬b<c.heap.size by omega,show ¬b<n.heap.size by omega]
 ·rw[o];simp[l]
theorem ziW (s:ByteArray) (w:World):(binOp .eql 9 (.string s) (.string {data:=#[]})).run Tryz.prog w=.ok ↑(decide (s.size=0):Bool) w:=by
 go_simp;rw[ByteArray.toList_eq];obtain ⟨⟨x⟩⟩:=s
 cases x with
 |nil=>exact (decide_eq_true (rfl:({data:={toList:=[]}}:ByteArray)=ByteArray.empty)).symm
 |cons a l=>
  refine (decide_eq_false fun h=>?_).symm;have c:=congrArg (fun b:ByteArray=>b.data.toList.length) h;exact Nat.succ_ne_zero _ c
def zaC:LotR:=⟨0,0,0,0,0,0,0,0,0,0,0⟩
theorem isE (s:ByteArray):s.toList.isEmpty=decide (s.size=0):=by
 rw[ByteArray.toList_eq];obtain ⟨⟨x⟩⟩:=s
 cases x<;>simp[ByteArray.size]
def zcH (o:OrderR):Bool:=
 let n:=decide (o.name.size=0);let c:=(o.coins==0);let b:=(o.bidder==0);let l:=(o.lot==0);let p:=decide (o.put=zaC);let f:=((o.offers.length:Int)==0);let t:=(o.tick==0)
 if o.kind=1 then b&&l&&p&&f&&t else if o.kind=2 then n&&l&&p&&f&&t else if o.kind=3 then n&&c&&b&&l&&f&&t else if o.kind=4 then n&&c&&p&&t else if o.kind=5 then n&&c&&p&&f&&t else if o.kind=6 then n&&c&&b&&l&&p&&f else false
theorem ztc (o:OrderR) (A:Option Addr) (c:Nat) (E:o.kind=1) (W:World):Calls Tryz.prog 93 #[o.agg (.slice A o.offers.length c)] W fun e W'=>e=.returned ↑((o.bidder==0)&&(o.lot==0)&&decide (o.put=zaC)&&((o.offers.length:Int)==0)&&(o.tick==0):Bool)∧Below W W W':=by
 obtain ⟨z,m⟩:=nm (((o.bidder==0)&&(o.lot==0)&&decide (o.put=zaC)&&((o.offers.length:Int)==0)&&(o.tick==0)));rw[←m];obtain ⟨y,a,s,d,n,put,p,h⟩:=o;simp only at E m;obtain ⟨J,g⟩:=nm (p.length);obtain ⟨I,f⟩:=nm (decide (put=zaC));have k:=fun W=>zcJ W put zaC;rw[←f] at k;obtain ⟨K,j⟩:=nm (decide (a.size=0));have x:=fun W=>ziW a W;have l:=isE a;rw[←j] at x l;obtain ⟨kind,B,q,C,H,r,F,v,D,t,G⟩:=put;simp only[OrderR.agg,OrderR.cells,LotR.agg,LotR.cells,zaC,List.cons_append,List.nil_append] at k ⊢;rw[←g];rw[←f,←g] at m;subst E;have i:=hid m;clear m f j g
 cases hb:(d==0) with
 |false=>
  have b:=hid (show z=false from i.out.trans (by rw[hb];simp));go_enter Tryz.func93,Tryz.ntmps93;go_wp2_with fail
  go_ret;exact ⟨by rw[b.out];rfl,qA _⟩
 |true=>
  cases hl:(n==0) with
  |false=>
   have b:=hid (show z=false from i.out.trans (by rw[hb,hl];simp));go_enter Tryz.func93,Tryz.ntmps93;go_wp2_with fail
   go_ret;exact ⟨by rw[b.out];rfl,qA _⟩
  |true=>
   cases I with
   |false=>
    have b:=hid (show z=false from i.out.trans (by simp[hb,hl]));go_enter Tryz.func93,Tryz.ntmps93;go_wp2_with fail
    go_ret;exact ⟨by rw[b.out];rfl,qA _⟩
   |true=>
    cases hf:((J:Int)==0) with
    |false=>
     have b:=hid (show z=false from i.out.trans (by rw[hb,hl,hf];simp));go_enter Tryz.func93,Tryz.ntmps93;go_wp2_with fail
     go_ret;exact ⟨by rw[b.out];rfl,qA _⟩
    |true=>
     cases ht:(h==0) with
     |false=>
      have b:=hid (show z=false from i.out.trans (by rw[hb,hl,hf,ht];simp));go_enter Tryz.func93,Tryz.ntmps93;go_wp2_with fail
      go_ret;exact ⟨by rw[b.out];rfl,qA _⟩
     |true=>
      have b:=hid (show z=true from i.out.trans (by rw[hb,hl,hf,ht];rfl));go_enter Tryz.func93,Tryz.ntmps93;go_wp2_with fail
      go_ret;exact ⟨by rw[b.out];rfl,qA _⟩
theorem ztd (o:OrderR) (A:Option Addr) (c:Nat) (E:o.kind=2) (W:World):Calls Tryz.prog 93 #[o.agg (.slice A o.offers.length c)] W fun e W'=>e=.returned ↑(decide (o.name.size=0)&&(o.lot==0)&&decide (o.put=zaC)&&((o.offers.length:Int)==0)&&(o.tick==0):Bool)∧Below W W W':=by
 obtain ⟨z,l⟩:=nm ((decide (o.name.size=0)&&(o.lot==0)&&decide (o.put=zaC)&&((o.offers.length:Int)==0)&&(o.tick==0)));rw[←l];obtain ⟨y,a,s,m,n,put,p,h⟩:=o;simp only at E l;obtain ⟨K,g⟩:=nm (p.length);obtain ⟨J,f⟩:=nm (decide (put=zaC));have j:=fun W=>zcJ W put zaC;rw[←f] at j;obtain ⟨I,d⟩:=nm (decide (a.size=0));have x:=fun W=>ziW a W;have k:=isE a;rw[←d] at x k;obtain ⟨kind,B,q,C,H,r,F,v,D,t,G⟩:=put;simp only[OrderR.agg,OrderR.cells,LotR.agg,LotR.cells,zaC,List.cons_append,List.nil_append] at j ⊢;rw[←g];rw[←f,←d,←g] at l;subst E;have i:=hid l;clear l f d g
 cases I with
 |false=>
  have b:=hid (show z=false from i.out.trans (by simp));go_enter Tryz.func93,Tryz.ntmps93;go_wp2_with fail
  go_ret;exact ⟨by rw[b.out];rfl,qA _⟩
 |true=>
  cases hl:(n==0) with
  |false=>
   have b:=hid (show z=false from i.out.trans (by rw[hl];simp));go_enter Tryz.func93,Tryz.ntmps93;go_wp2_with fail
   go_ret;exact ⟨by rw[b.out];rfl,qA _⟩
  |true=>
   cases J with
   |false=>
    have b:=hid (show z=false from i.out.trans (by simp[hl]));go_enter Tryz.func93,Tryz.ntmps93;go_wp2_with fail
    go_ret;exact ⟨by rw[b.out];rfl,qA _⟩
   |true=>
    cases hf:((K:Int)==0) with
    |false=>
     have b:=hid (show z=false from i.out.trans (by rw[hl,hf];simp));go_enter Tryz.func93,Tryz.ntmps93;go_wp2_with fail
     go_ret;exact ⟨by rw[b.out];rfl,qA _⟩
    |true=>
     cases ht:(h==0) with
     |false=>
      have b:=hid (show z=false from i.out.trans (by rw[hl,hf,ht];simp));go_enter Tryz.func93,Tryz.ntmps93;go_wp2_with fail
      go_ret;exact ⟨by rw[b.out];rfl,qA _⟩
     |true=>
      have b:=hid (show z=true from i.out.trans (by rw[hl,hf,ht];rfl));go_enter Tryz.func93,Tryz.ntmps93;go_wp2_with fail
      go_ret;exact ⟨by rw[b.out];rfl,qA _⟩
theorem zte (o:OrderR) (A:Option Addr) (c:Nat) (F:o.kind=3) (W:World):Calls Tryz.prog 93 #[o.agg (.slice A o.offers.length c)] W fun e W'=>e=.returned ↑(decide (o.name.size=0)&&(o.coins==0)&&(o.bidder==0)&&(o.lot==0)&&((o.offers.length:Int)==0)&&(o.tick==0):Bool)∧Below W W W':=by
 obtain ⟨z,p⟩:=nm ((decide (o.name.size=0)&&(o.coins==0)&&(o.bidder==0)&&(o.lot==0)&&((o.offers.length:Int)==0)&&(o.tick==0)));rw[←p];obtain ⟨B,a,f,d,q,k,r,j⟩:=o;simp only at F p;obtain ⟨K,i⟩:=nm (r.length);obtain ⟨L,l⟩:=nm (decide (k=zaC));have m:=fun W=>zcJ W k zaC;rw[←l] at m;obtain ⟨J,h⟩:=nm (decide (a.size=0));have y:=fun W=>ziW a W;have n:=isE a;rw[←h] at y n;obtain ⟨kind,C,s,D,I,t,G,x,E,v,H⟩:=k;simp only[OrderR.agg,OrderR.cells,LotR.agg,LotR.cells,zaC,List.cons_append,List.nil_append] at m ⊢;rw[←i];rw[←h,←i] at p;subst F;have g:=hid p;clear p l h i
 cases J with
 |false=>
  have b:=hid (show z=false from g.out.trans (by simp));go_enter Tryz.func93,Tryz.ntmps93;go_wp2_with fail
  go_ret;exact ⟨by rw[b.out];rfl,qA _⟩
 |true=>
  cases hc:(f==0) with
  |false=>
   have b:=hid (show z=false from g.out.trans (by rw[hc];simp));go_enter Tryz.func93,Tryz.ntmps93;go_wp2_with fail
   go_ret;exact ⟨by rw[b.out];rfl,qA _⟩
  |true=>
   cases hb:(d==0) with
   |false=>
    have b:=hid (show z=false from g.out.trans (by rw[hc,hb];simp));go_enter Tryz.func93,Tryz.ntmps93;go_wp2_with fail
    go_ret;exact ⟨by rw[b.out];rfl,qA _⟩
   |true=>
    cases hl:(q==0) with
    |false=>
     have b:=hid (show z=false from g.out.trans (by rw[hc,hb,hl];simp));go_enter Tryz.func93,Tryz.ntmps93;go_wp2_with fail
     go_ret;exact ⟨by rw[b.out];rfl,qA _⟩
    |true=>
     cases hf:((K:Int)==0) with
     |false=>
      have b:=hid (show z=false from g.out.trans (by rw[hc,hb,hl,hf];simp));go_enter Tryz.func93,Tryz.ntmps93;go_wp2_with fail
      go_ret;exact ⟨by rw[b.out];rfl,qA _⟩
     |true=>
      cases ht:(j==0) with
      |false=>
       have b:=hid (show z=false from g.out.trans (by rw[hc,hb,hl,hf,ht];simp));go_enter Tryz.func93,Tryz.ntmps93;go_wp2_with fail
       go_ret;exact ⟨by rw[b.out];rfl,qA _⟩
      |true=>
       have b:=hid (show z=true from g.out.trans (by rw[hc,hb,hl,hf,ht];rfl));go_enter Tryz.func93,Tryz.ntmps93;go_wp2_with fail
       go_ret;exact ⟨by rw[b.out];rfl,qA _⟩
theorem ztf (o:OrderR) (A:Option Addr) (c:Nat) (D:o.kind=4) (W:World):Calls Tryz.prog 93 #[o.agg (.slice A o.offers.length c)] W fun e W'=>e=.returned ↑(decide (o.name.size=0)&&(o.coins==0)&&decide (o.put=zaC)&&(o.tick==0):Bool)∧Below W W W':=by
 obtain ⟨z,m⟩:=nm ((decide (o.name.size=0)&&(o.coins==0)&&decide (o.put=zaC)&&(o.tick==0)));rw[←m];obtain ⟨x,a,d,n,F,put,p,h⟩:=o;simp only at D m;obtain ⟨K,k⟩:=nm (p.length);obtain ⟨J,g⟩:=nm (decide (put=zaC));have j:=fun W=>zcJ W put zaC;rw[←g] at j;obtain ⟨I,f⟩:=nm (decide (a.size=0));have v:=fun W=>ziW a W;have l:=isE a;rw[←f] at v l;obtain ⟨kind,y,q,B,H,r,E,t,C,s,G⟩:=put;simp only[OrderR.agg,OrderR.cells,LotR.agg,LotR.cells,zaC,List.cons_append,List.nil_append] at j ⊢;rw[←k];rw[←g,←f] at m;subst D;have i:=hid m;clear m g f k
 cases I with
 |false=>
  have b:=hid (show z=false from i.out.trans (by simp));go_enter Tryz.func93,Tryz.ntmps93;go_wp2_with fail
  go_ret;exact ⟨by rw[b.out];rfl,qA _⟩
 |true=>
  cases hc:(d==0) with
  |false=>
   have b:=hid (show z=false from i.out.trans (by rw[hc];simp));go_enter Tryz.func93,Tryz.ntmps93;go_wp2_with fail
   go_ret;exact ⟨by rw[b.out];rfl,qA _⟩
  |true=>
   cases J with
   |false=>
    have b:=hid (show z=false from i.out.trans (by simp[hc]));go_enter Tryz.func93,Tryz.ntmps93;go_wp2_with fail
    go_ret;exact ⟨by rw[b.out];rfl,qA _⟩
   |true=>
    cases ht:(h==0) with
    |false=>
     have b:=hid (show z=false from i.out.trans (by rw[hc,ht];simp));go_enter Tryz.func93,Tryz.ntmps93;go_wp2_with fail
     go_ret;exact ⟨by rw[b.out];rfl,qA _⟩
    |true=>
     have b:=hid (show z=true from i.out.trans (by rw[hc,ht];rfl));go_enter Tryz.func93,Tryz.ntmps93;go_wp2_with fail
     go_ret;exact ⟨by rw[b.out];rfl,qA _⟩
theorem ztg (o:OrderR) (A:Option Addr) (c:Nat) (D:o.kind=5) (W:World):Calls Tryz.prog 93 #[o.agg (.slice A o.offers.length c)] W fun e W'=>e=.returned ↑(decide (o.name.size=0)&&(o.coins==0)&&decide (o.put=zaC)&&((o.offers.length:Int)==0)&&(o.tick==0):Bool)∧Below W W W':=by
 obtain ⟨z,m⟩:=nm ((decide (o.name.size=0)&&(o.coins==0)&&decide (o.put=zaC)&&((o.offers.length:Int)==0)&&(o.tick==0)));rw[←m];obtain ⟨x,a,d,n,F,put,p,i⟩:=o;simp only at D m;obtain ⟨K,h⟩:=nm (p.length);obtain ⟨J,g⟩:=nm (decide (put=zaC));have k:=fun W=>zcJ W put zaC;rw[←g] at k;obtain ⟨I,f⟩:=nm (decide (a.size=0));have v:=fun W=>ziW a W;have l:=isE a;rw[←f] at v l;obtain ⟨kind,y,q,B,H,r,E,t,C,s,G⟩:=put;simp only[OrderR.agg,OrderR.cells,LotR.agg,LotR.cells,zaC,List.cons_append,List.nil_append] at k ⊢;rw[←h];rw[←g,←f,←h] at m;subst D;have j:=hid m;clear m g f h
 cases I with
 |false=>
  have b:=hid (show z=false from j.out.trans (by simp));go_enter Tryz.func93,Tryz.ntmps93;go_wp2_with fail
  go_ret;exact ⟨by rw[b.out];rfl,qA _⟩
 |true=>
  cases hc:(d==0) with
  |false=>
   have b:=hid (show z=false from j.out.trans (by rw[hc];simp));go_enter Tryz.func93,Tryz.ntmps93;go_wp2_with fail
   go_ret;exact ⟨by rw[b.out];rfl,qA _⟩
  |true=>
   cases J with
   |false=>
    have b:=hid (show z=false from j.out.trans (by simp[hc]));go_enter Tryz.func93,Tryz.ntmps93;go_wp2_with fail
    go_ret;exact ⟨by rw[b.out];rfl,qA _⟩
   |true=>
    cases hf:((K:Int)==0) with
    |false=>
     have b:=hid (show z=false from j.out.trans (by rw[hc,hf];simp));go_enter Tryz.func93,Tryz.ntmps93;go_wp2_with fail
     go_ret;exact ⟨by rw[b.out];rfl,qA _⟩
    |true=>
     cases ht:(i==0) with
     |false=>
      have b:=hid (show z=false from j.out.trans (by rw[hc,hf,ht];simp));go_enter Tryz.func93,Tryz.ntmps93;go_wp2_with fail
      go_ret;exact ⟨by rw[b.out];rfl,qA _⟩
     |true=>
      have b:=hid (show z=true from j.out.trans (by rw[hc,hf,ht];rfl));go_enter Tryz.func93,Tryz.ntmps93;go_wp2_with fail
      go_ret;exact ⟨by rw[b.out];rfl,qA _⟩
theorem zth (o:OrderR) (A:Option Addr) (c:Nat) (E:o.kind=6) (W:World):Calls Tryz.prog 93 #[o.agg (.slice A o.offers.length c)] W fun e W'=>e=.returned ↑(decide (o.name.size=0)&&(o.coins==0)&&(o.bidder==0)&&(o.lot==0)&&decide (o.put=zaC)&&((o.offers.length:Int)==0):Bool)∧Below W W W':=by
 obtain ⟨z,m⟩:=nm ((decide (o.name.size=0)&&(o.coins==0)&&(o.bidder==0)&&(o.lot==0)&&decide (o.put=zaC)&&((o.offers.length:Int)==0)));rw[←m];obtain ⟨x,a,f,d,n,put,p,B⟩:=o;simp only at E m;obtain ⟨K,j⟩:=nm (p.length);obtain ⟨J,i⟩:=nm (decide (put=zaC));have k:=fun W=>zcJ W put zaC;rw[←i] at k;obtain ⟨I,h⟩:=nm (decide (a.size=0));have v:=fun W=>ziW a W;have l:=isE a;rw[←h] at v l;obtain ⟨kind,y,q,C,H,r,F,t,D,s,G⟩:=put;simp only[OrderR.agg,OrderR.cells,LotR.agg,LotR.cells,zaC,List.cons_append,List.nil_append] at k ⊢;rw[←j];rw[←i,←h,←j] at m;subst E;have g:=hid m;clear m i h j
 cases I with
 |false=>
  have b:=hid (show z=false from g.out.trans (by simp));go_enter Tryz.func93,Tryz.ntmps93;go_wp2_with fail
  go_ret;exact ⟨by rw[b.out];rfl,qA _⟩
 |true=>
  cases hc:(f==0) with
  |false=>
   have b:=hid (show z=false from g.out.trans (by rw[hc];simp));go_enter Tryz.func93,Tryz.ntmps93;go_wp2_with fail
   go_ret;exact ⟨by rw[b.out];rfl,qA _⟩
  |true=>
   cases hb:(d==0) with
   |false=>
    have b:=hid (show z=false from g.out.trans (by rw[hc,hb];simp));go_enter Tryz.func93,Tryz.ntmps93;go_wp2_with fail
    go_ret;exact ⟨by rw[b.out];rfl,qA _⟩
   |true=>
    cases hl:(n==0) with
    |false=>
     have b:=hid (show z=false from g.out.trans (by rw[hc,hb,hl];simp));go_enter Tryz.func93,Tryz.ntmps93;go_wp2_with fail
     go_ret;exact ⟨by rw[b.out];rfl,qA _⟩
    |true=>
     cases J with
     |false=>
      have b:=hid (show z=false from g.out.trans (by simp[hc,hb,hl]));go_enter Tryz.func93,Tryz.ntmps93;go_wp2_with fail
      go_ret;exact ⟨by rw[b.out];rfl,qA _⟩
     |true=>
      cases hf:((K:Int)==0) with
      |false=>
       have b:=hid (show z=false from g.out.trans (by rw[hc,hb,hl,hf];simp));go_enter Tryz.func93,Tryz.ntmps93;go_wp2_with fail
       go_ret;exact ⟨by rw[b.out];rfl,qA _⟩
      |true=>
       have b:=hid (show z=true from g.out.trans (by rw[hc,hb,hl,hf];rfl));go_enter Tryz.func93,Tryz.ntmps93;go_wp2_with fail
       go_ret;exact ⟨by rw[b.out];rfl,qA _⟩
theorem ztb (o:OrderR) (A:Option Addr) (c:Nat) (E:(o.kind==1)=false) (F:(o.kind==2)=false) (G:(o.kind==3)=false) (H:(o.kind==4)=false) (I:(o.kind==5)=false) (J:(o.kind==6)=false) (W:World):Calls Tryz.prog 93 #[o.agg (.slice A o.offers.length c)] W fun e W'=>e=.returned ↑false∧Below W W W':=by
 obtain ⟨s,a,p,k,B,f,l,v⟩:=o;simp only at E F G H I J;obtain ⟨M,i⟩:=nm (l.length);obtain ⟨L,h⟩:=nm (decide (f=zaC));have d:=fun W=>zcJ W f zaC;rw[←h] at d;obtain ⟨K,g⟩:=nm (decide (a.size=0));have j:=fun W=>ziW a W;have b:=isE a;rw[←g] at j b;obtain ⟨kind,t,m,x,D,n,z,r,y,q,C⟩:=f;simp only[OrderR.agg,OrderR.cells,LotR.agg,LotR.cells,zaC,List.cons_append,List.nil_append] at d ⊢;rw[←i];clear j b d h g i;go_enter Tryz.func93,Tryz.ntmps93;go_wp2_with fail
 go_ret;exact ⟨rfl,qA _⟩
theorem zhu (o:OrderR) (A:Option Addr) (c:Nat) (W:World):Calls Tryz.prog 93 #[o.agg (.slice A o.offers.length c)] W fun e W'=>e=.returned ↑(zcH o:Bool)∧Below W W W':=by
 unfold zcH
 dsimp only
 by_cases h1:o.kind=1
 ·rw[if_pos h1];exact ztc o A c h1 W
 ·rw[if_neg h1];by_cases h2:o.kind=2
  ·rw[if_pos h2];exact ztd o A c h2 W
  ·rw[if_neg h2];by_cases h3:o.kind=3
   ·rw[if_pos h3];exact zte o A c h3 W
   ·rw[if_neg h3];by_cases h4:o.kind=4
    ·rw[if_pos h4];exact ztf o A c h4 W
    ·rw[if_neg h4];by_cases h5:o.kind=5
     ·rw[if_pos h5];exact ztg o A c h5 W
     ·rw[if_neg h5];by_cases h6:o.kind=6
      ·rw[if_pos h6];exact zth o A c h6 W
      ·rw[if_neg h6];exact ztb o A c (by simpa using h1) (by simpa using h2) (by simpa using h3) (by simpa using h4) (by simpa using h5) (by simpa using h6) W
end Ho
end Go.Proofs.YtckdpejdnejhfaaGreat

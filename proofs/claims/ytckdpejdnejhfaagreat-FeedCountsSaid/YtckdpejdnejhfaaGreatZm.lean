/- Joined by program. -/
import Derived.Test.YtckdpejdnejhfaaGreatZl
import Derived.Deep.MidRow
set_option linter.all false
set_option maxRecDepth 100000
set_option maxHeartbeats 32000000
namespace Go.Proofs.YtckdpejdnejhfaaGreat
open Lib (hid)
namespace Ho
open Go.RowKit Vb Ac
theorem zgk {W:World} {R:Nat→Prop} {vo:Value} {l:List Off} (d:zad W R vo l) (h:l.length≤1099511627776):Calls Tryz.prog 92 #[vo] W fun e W'=>
  ∃A c,e=.returned (.slice A l.length c)∧zad W' (fun b=>W.heap.size≤b) (.slice A l.length c) l∧Below W W W':=by
 refine (zfA (Off.all l) l.length vo R _ d.1 (Off.all_one l) (by omega)).mono ?_;rintro e W' ⟨A,c,rfl,a,f⟩;exact ⟨A,c,rfl,⟨Sl.mono (R:=fun b=>(Value.slice A l.length c).ownBlock=some b) (Sl.of_own a) fun b _ g=>(a.lt b g).1,d.2⟩,f⟩
theorem ze4 {W:World} {b m n:Nat} {a:Acc} (h:AccAt W b m n a) (ho:a.Ok):Calls Tryz.prog 164 #[.pointer (some ⟨b,0,none⟩)] W fun e W'=>e=.returned ↑a.free∧Below W W W':=
 zfc (f:=.live a) ⟨b,m,n,rfl,h⟩ ho
theorem zoJ {W:World} {b m n:Nat} {a:Acc} (h:AccAt W b m n a) {x:Int} (hx:-9223372036854775808≤x∧x≤9223372036854775807):Calls Tryz.prog 143 #[.pointer (some ⟨b,0,none⟩),x] W fun e W'=>e=.returned ↑(atM a.M x:Int)∧W'=W:=
 zlu (f:=.live a) ⟨b,m,n,rfl,h⟩ hx
theorem zko {W:World} {T:Nat→Part} {vo:Nat→Value} {ss:List Stand} (h:zb3 W T vo (ss.map (·.offers))):∀u∈zaF ss vo,u.oneCell'=true:=by
 intro u b;unfold zaF at b;obtain ⟨y,f,a⟩:=List.mem_flatten.1 b;obtain ⟨k,d,rfl⟩:=List.mem_mapIdx.1 f;obtain ⟨⟨_,A,c,e,_⟩,_⟩:=h k (ss[k].offers) (by simp[d]);rw[e] at a;have:u=.int .i64 ss[k].bidder∨u=.slice A ss[k].offers.length c∨u=.int .i64 ss[k].held:=by simpa [Stand.cells] using a
 rcases this with rfl|rfl|rfl<;>rfl
theorem zjT {W:World} {T:Nat→Part} {R:Nat→Prop} {q cap k:Nat} {ss:List Stand} {vo:Nat→Value} (b:RowAt W R 188 3 (.slice (some ⟨q,0,none⟩) ss.length cap) ss.length (zaF ss vo)) (a:zb3 W T vo (ss.map (·.offers))) (c:k<ss.length):
  Calls Tryz.prog 122 #[.slice (some ⟨q,0,none⟩) ss.length cap,k,((k:Int)+1:Int)] W fun e W'=>e=.returned (.slice (some ⟨q,0,none⟩) (ss.eraseIdx k).length cap)∧
   RowAt W' R 188 3 (.slice (some ⟨q,0,none⟩) (ss.eraseIdx k).length cap) (ss.eraseIdx k).length (zaF (ss.eraseIdx k) (fun i=>if i<k then vo i else vo (i+1)))∧Chg (·=q) W W':=by
 have:=zrM b c (j:=k+1) rfl (zko a);rw[ziU,show ss.length-1=(ss.eraseIdx k).length by rw[List.length_eraseIdx,if_pos c]] at this;exact this
def zci (a:Acc) (n v:Int):Int:=if a.mostH n<v then 8 else 0
theorem zgw {W:World} {T:Nat→Part} {h pn pc K:Nat} {va vl vb vs:Value} {H:House} (hH:HouseAt W T h pn pc va vl vb vs K H) {bl:Nat→Nat} (E:RowAt W (fun b=>T b=.lots) 138 1 vl H.lots.length (ptrs bl H.lots.length)) (X:∀n l,H.lots[n]? =some l→za2 W T n (bl n) l)
  {t ma:Nat→Nat} (Z:RowAt W (fun b=>T b=.accs) 136 1 va H.accs.length (ptrs t H.accs.length)) (A:∀i a,H.accs[i]? =some a→AccAt W (t i) (ma i) K a∧T (t i)=.acc i∧T (ma i)=.acc i)
  {i j:Nat} {a:Acc} {l:LotS} (ha:H.accs[i]? =some a) (hl:H.lots[j]? =some l) (o:OrderR) (C:o.bidder=i) (D:o.lot=j) {vo:Value} {R:Nat→Prop} (hO:zad W R vo o.offers) (hR:∀b,R b→T b=.no) {held:Int} (r:a.Ok) (V:j≤4096) (he:a.mostH j<held):
  Calls Tryz.prog 248 #[.pointer (some ⟨bl j,0,none⟩),.pointer (some ⟨t i,0,none⟩),o.agg vo,held] W fun e W'=>e=.returned ↑(8:Int)∧Below W W W':=by
 obtain ⟨d,f⟩:=nm (W.alloc (.cells (o.cells vo).toArray 61));have k:Below W W d:=by rw[f];exact qA _
 have J:Blk d W 61 (o.cells vo).toArray:=by rw[f];exact Blk.new _ _ _
 obtain ⟨v,m⟩:=nm (a.free);obtain ⟨s,g⟩:=nm (atM a.M j);have Y:a.mostH j=v+s:=by rw[m,g];rfl
 have B:-9223372036854775808≤(j:Int)∧(j:Int)≤9223372036854775807:=by omega
 have hwr:IntKind.i64.wrap (v+s)=v+s:=by rw[m,g];exact zhj r j
 have p:=hid ((A i a ha).1);have q:=hid (fun (w:World) (Q:Below d d w)=>(show Calls Tryz.prog 164 #[.pointer (some ⟨t i,0,none⟩)] w fun e W'=>e=.returned ↑v∧Below w w W' from m▸ze4 ((p.out.grow k).grow Q) r));have x:=hid (fun (w:World) (Q:Below d d w)=>(show Calls Tryz.prog 143 #[.pointer (some ⟨t i,0,none⟩),j] w fun e W'=>e=.returned ↑s∧W'=w from g▸zoJ ((p.out.grow k).grow Q) B));have y:=hid k;obtain ⟨aa,ab,L,F,olot,⟨kind,ac,G,ae,step,I,last,O,af,N,rule⟩,ooff,ad⟩:=o;simp only at C D;subst C D;simp only[OrderR.agg,OrderR.cells,LotR.cells,List.cons_append,List.nil_append] at f J ⊢;have x4:d.cell? ⟨W,4,none⟩=some ↑(j:Int):=J.cell 4;have xl:=J.lt;have U:decide (held>v+s)=true:=decide_eq_true (by omega);have hd2:decide (v+s<held)=true:=U;clear hH E X Z A ha hl hO hR r V Y B m g J k he;go_enter Tryz.func248,Tryz.ntmps248;go_wp2_with fail
 rw[←f];clear f;refine zac (Below d d) [] (by kernel_rfl) (bR.drew) (fun c=>?_);refine tp 0 c ?_;refine tp 1 c ?_;refine tp 3 c ?_;refine tp 4 c ?_;have qq:=hid fun (w':World) (P:(Below d d) w')=>qc P x4 xl;refine tl 5 c qq ?_;refine stp 2 fun K z=>?_;go_simp;refine (q.out _ c).mono ?_;rintro e W2 ⟨rfl,S⟩;refine z.out _ _ ?_ (fun c=>?_)
 ·exact c.trans (S.mono c.size)
 clear z K
 try simp only[Act.put,pb,pz,ps]
 refine stp 6 fun K z=>?_;go_simp;refine (x.out _ c).mono ?_;rintro e W2 ⟨rfl,rfl⟩;refine z.out _ _ ?_ (fun c=>?_)
 ·exact c
 clear z K
 try simp only[Act.put,pb,pz,ps]
 refine tp 7 c ?_;refine tp 8 c ?_;refine zaa (by kernel_rfl) ?_ _;have HS:=hid c;clear c;go_wp2_with fail
 go_ret;exact ⟨rfl,y.out.trans (HS.out.mono y.out.size)⟩
theorem zhd {W:World} {T:Nat→Part} {h pn pc K:Nat} {va vl vb vs:Value} {H:House} (hH:HouseAt W T h pn pc va vl vb vs K H) {bl:Nat→Nat} (hrow:RowAt W (fun b=>T b=.lots) 138 1 vl H.lots.length (ptrs bl H.lots.length)) (hls:∀n l,H.lots[n]? =some l→za2 W T n (bl n) l)
  {ba ma:Nat→Nat} (hro:RowAt W (fun b=>T b=.accs) 136 1 va H.accs.length (ptrs ba H.accs.length)) (has:∀i a,H.accs[i]? =some a→AccAt W (ba i) (ma i) K a∧T (ba i)=.acc i∧T (ma i)=.acc i)
  {i j:Nat} {a:Acc} {l:LotS} (ha:H.accs[i]? =some a) (hl:H.lots[j]? =some l) (o:OrderR) (hoi:o.bidder=i) (hoj:o.lot=j) {vo:Value} {R:Nat→Prop} (hO:zad W R vo o.offers) (hR:∀b,R b→T b=.no) {held:Int} (hok:a.Ok) (hjm:j≤4096) (he:held≤a.mostH j) (hc:zah held) (p:K<maxLen) (hsm:l.stands.length≤1000000) (hlo:o.offers.length≤1099511627776):
  Calls Tryz.prog 248 #[.pointer (some ⟨bl j,0,none⟩),.pointer (some ⟨ba i,0,none⟩),o.agg vo,held] W fun e W'=>e=.returned ↑()∧∃T',zaf W' T' h (K+1) (zhw H i j a l ⟨i,o.offers,held⟩)∧Moves W T W' T':=by
 obtain ⟨W1,hW1⟩:=nm (W.alloc (.cells (o.cells vo).toArray 61));have hb1:Below W W W1:=by rw[hW1];exact qA _
 have hx:Blk W1 W 61 (o.cells vo).toArray:=by rw[hW1];exact Blk.new _ _ _
 obtain ⟨fr,hfr⟩:=nm (a.free);obtain ⟨am,ham⟩:=nm (atM a.M j);have hmo:a.mostH j=fr+am:=by rw[hfr,ham];rfl
 have hjx:-9223372036854775808≤(j:Int)∧(j:Int)≤9223372036854775807:=by omega
 have hwr:IntKind.i64.wrap (fr+am)=fr+am:=by rw[hfr,ham];exact zhj hok j
 have X:=hid ((has i a ha).1);have HFREE:=hid (fun (w:World) (hb:Below W1 W1 w)=>(show Calls Tryz.prog 164 #[.pointer (some ⟨ba i,0,none⟩)] w fun e W'=>e=.returned ↑fr∧Below w w W' from hfr▸ze4 ((X.out.grow hb1).grow hb) hok));have HATM:=hid (fun (w:World) (hb:Below W1 W1 w)=>(show Calls Tryz.prog 143 #[.pointer (some ⟨ba i,0,none⟩),j] w fun e W'=>e=.returned ↑am∧W'=w from ham▸zoJ ((X.out.grow hb1).grow hb) hjx));have HB1:=hid hb1;obtain ⟨okind,oname,ocoins,obidder,olot,⟨kind,opens,closes,start,step,extend,last,floor,fall,count,rule⟩,c,otick⟩:=o;simp only at hoi hoj;subst hoi hoj;simp only[OrderR.agg,OrderR.cells,LotR.cells,List.cons_append,List.nil_append] at hW1 hx ⊢;have x4:W1.cell? ⟨W,4,none⟩=some ↑(j:Int):=hx.cell 4;have V:=hx.lt;simp only at hO hlo;have hd1:decide (held>fr+am)=false:=decide_eq_false (by omega);have hd2:decide (fr+am<held)=false:=hd1;have HH:=hid hH;have HROW:=hid hrow;have HLS:=hid hls;have HRO:=hid hro;have HAS:=hid has;have HA:=hid ha;have HL:=hid hl;have HLJ:=hid (hls j l hl);have HO:=hid hO;have HRN:=hid hR;have HAOK:=hid hok;have HJM:=hid hjm;have HLE:=hid he;have HCO:=hid hc;have HKM:=hid p;have HSM:=hid hsm;have HLO:=hid hlo;have HX:=hid hx;have HTA:=hid (has i a ha).2;clear hH hrow hls hro has ha hl hO hR hok hjm hmo hjx hfr ham hx hb1 he hc p hsm hlo;go_enter Tryz.func248,Tryz.ntmps248;go_wp2_with fail
 rw[←hW1];clear hW1;refine zac (Below W1 W1) [] (by kernel_rfl) (bR.drew) (fun d=>?_);refine tp 0 d ?_;refine tp 1 d ?_;refine tp 3 d ?_;refine tp 4 d ?_;have qq:=hid fun (w':World) (A:(Below W1 W1) w')=>qc A x4 V;refine tl 5 d qq ?_;refine stp 2 fun K p=>?_;go_simp;refine (HFREE.out _ d).mono ?_;rintro e W2 ⟨rfl,hb2⟩;refine p.out _ _ ?_ (fun d=>?_)
 ·exact d.trans (hb2.mono d.size)
 clear p K
 try simp only[Act.put,pb,pz,ps]
 refine stp 6 fun K p=>?_;go_simp;refine (HATM.out _ d).mono ?_;rintro e W2 ⟨rfl,rfl⟩;refine p.out _ _ ?_ (fun d=>?_)
 ·exact d
 clear p K
 try simp only[Act.put,pb,pz,ps]
 refine tp 7 d ?_;refine tp 8 d ?_;refine zaa (by kernel_rfl) ?_ _;have HS:=hid d;have x4:W2.cell? ⟨W,4,none⟩=some ↑(j:Int):=qc d x4 V;have V:W.heap.size<W2.heap.size:=lL V d.size;have HB2:=hid (HB1.out.trans (d.mono HB1.out.size));clear d;go_wp2_with fail
 refine (zkO (X.out.grow HB2.out) HAOK.out HKM.out (x:=(j:Int)) (v:=held) (by have:=HJM.out;omega) (by have:=HCO.out;unfold zah at this;omega)).mono ?_;rintro e W3 (⟨h1,_⟩|⟨_,rfl,hA3,hc3⟩)
 ·exact absurd (zhc (by omega) HCO.out HLE.out) h1
 have HA3:=hid hA3;have HC3:=hid (show Chg (fun b=>T b=.acc i) W W3 from (Chg.of _ HB2.out).step hc3 fun b _ e=>e▸HTA.out.2);have HX3:=hid (((HX.out.grow HS.out)).chg hc3 (fun e=>by have:=X.out.ltm;omega));clear hA3 hc3 x4 V;have x3:W3.cell? ⟨W,3,none⟩=some ↑(i:Int):=HX3.out.cell 3;have V:=HX3.out.lt;have hXa:∀x,T x=.lot j∨T x=.old→¬T x=.acc i:=fun x hx e=>by rw[e] at hx;simp at hx
 have HL3:=hid (HLJ.out.step (T':=T) HC3.out hXa fun _ _=>rfl);clear hXa;go_wp2_with fail
 refine (zhp HL3.out (i:Int)).mono ?_;rintro e C ⟨rfl,hb4⟩;have HB4:=hid hb4;clear hb4 x3 V;have hXa:∀x,T x=.lot j∨T x=.old→¬T x=.acc i:=fun x hx e=>by rw[e] at hx;simp at hx
 have HC4:=hid (HC3.out.grow HB4.out);have HX4:=hid (HX3.out.grow HB4.out);have HAC4:=hid ((ze5 HRO.out HAS.out (gS.1 HA.out).1 (Nat.le_succ _) HA3.out HC3.out).step (T':=T) (Chg.of (fun _=>False) HB4.out) (fun _ _=>id) fun _ _=>rfl);have hL4:=HLJ.out.step (T':=T) HC4.out hXa fun _ _=>rfl;clear hXa;obtain ⟨v,htb,hblk,vo',hrw,hof⟩:=hL4;obtain ⟨sA,y,rfl⟩:=hrw.form;have HTB:=hid htb;have HBK:=hid hblk;have ab:=hid hrw;have HOFX:=hid hof;clear htb hblk hrw hof
 cases hpl:zaS (i:Int) l.stands with
 |none=>
  have hpi:zbV (i:Int) l.stands=-1:=by unfold zbV;rw[hpl]
  have HRS:=hid (show zbC (i:Int) l.stands=l.stands by unfold zbC;rw[hpl]);rw[hpi];clear hpi hpl;obtain ⟨g,f⟩:=nm (l.stands);obtain ⟨m,hm⟩:=nm (g.length);have HMR:=hid hm;have HRE:=hid (show zbC (i:Int) l.stands=g by rw[HRS.out,f]);have HMM:=hid (show m≤1000000 by rw[hm,f];exact HSM.out);have z:=hid (show RowAt C (fun x=>T x=.lot j∧x≠bl j) 188 3 (.slice sA m y) m (zaF g vo') by rw[hm,f];exact ab.out);have HVO:=hid (show zb3 C T vo' (g.map (·.offers)) by rw[f];exact HOFX.out);have HVL:=hid (show Blk C (bl j) 145 (l.cells (.slice sA m y)).toArray by rw[hm,f];exact HBK.out);have J:=hid (HC4.out.mono (Y:=fun b=>(∃i,T b=.acc i)∨T b=.lot j) fun b _ e=>.inl ⟨i,e⟩);have L:=hid HX4.out;have HAV:=hid HAC4.out;clear f hm;go_wp2_with fail
  have hXn:∀b,T b=.no→¬((∃i,T b=.acc i)∨T b=.lot j):=by
   rintro b e (⟨i,k⟩|k)<;>rw[e] at k<;>cases k
  have hTx:T W.heap.size=.no:=HH.out.out _ lR;have HOV:=hid (zad.chg HO.out J.out fun b _ hr=>hXn b (HRN.out b hr));clear hXn;have t:=HVL.out;have S:C.cell? ⟨bl j,14,none⟩=some (.slice sA m y):=t.cell 14;have lbV:=t.lt;have x3:C.cell? ⟨W,3,none⟩=some ↑(i:Int):=L.out.cell 3;have x16:C.cell? ⟨W,16,none⟩=some vo:=L.out.cell 16;have V:=L.out.lt;have P:¬(Value.slice sA m y).ownBlock=some (bl j):=fun e=>(z.out.blk _ e).2 rfl;have Q:¬(Value.slice sA m y).ownBlock=some W.heap.size:=fun e=>by have h3:=(z.out.blk _ e).1;rw[hTx] at h3;cases h3
  have HOR:=hid P;clear t hTx;go_wp2_with fail
  refine zac (Chg (fun b=>(Value.slice sA m y).ownBlock=some b) C) [16] (by kernel_rfl) ((Chg.refl _ C).grow bR.drew) (fun d=>?_);refine tp 0 d ?_;refine tp 1 d ?_;refine tp 2 d ?_;refine tp 3 d ?_;have qq:=hid fun (w':World) (A:(Chg (fun b=>(Value.slice sA m y).ownBlock=some b) C) w')=>And.intro (cg A S lbV P)<|And.intro (cg A x3 V Q)<|cg A x16 V Q;refine tl 4 d qq ?_;refine tp 5 d ?_;refine tl 6 d qq ?_;refine tp 7 d ?_;refine tl 8 d qq ?_;refine tp 10 d ?_;refine stp 9 fun K p=>?_;go_simp;refine (zgk (W:=C.drew) (zad.grow HOV.out bR.drew) HLO.out).mono ?_;rintro e D ⟨F,N,rfl,hO6,r⟩;have r:Below C C D:=bR.drew.trans (r.mono lR);refine p.out _ _ ?_ (fun d=>?_)
  ·exact (Chg.refl _ C).grow r
  clear p K
  try simp only[Act.put,pb,pz,ps]
  have HO6:=hid hO6;have G:=hid r;have HRW:=hid ((z.out.grow r).grow (bR.alloc lR (.cells #[(i:Int),.slice F c.length N,held] 188)));clear hO6 r;refine tp 11 d ?_;refine stp 12 fun K p=>?_;go_simp;refine p.out _ _ ?_ (fun d=>?_)
  ·exact d.grow (qA _)
  clear p K
  try simp only[Act.put,pb,pz,ps]
  refine stp 13 fun K p=>?_;refine zbR (D.alloc (.cells #[(i:Int),.slice F c.length N,held] 188)) (.tmp 45) (.tmp 53) rfl ziH rfl (.slice sA m y) m (zaF g vo') rfl HRW.out (.slice (some ⟨D,0,none⟩) 1 1) 1 [.int .i64 (i:Int),.slice F c.length N,.int .i64 held] rfl (Sl.lit1 (Blk.new D 188 #[(i:Int),.slice F c.length N,held]) rfl) (by simp[Value.oneCell']) (by have:=HMM.out;omega) (by have:=HMM.out;unfold maxLen;omega) ?_;intro A7 c7 Z hrZ B;refine p.out _ _ ?_ (fun d=>?_)
  ·exact d.trans B
  clear p K
  try simp only[Act.put,pb,pz,ps]
  have I:=hid (((HVL.out.grow G.out).alloc (.cells #[(i:Int),.slice F c.length N,held] 188)).chg B HOR.out);have HZR:=hid hrZ;have HZC:=hid B;obtain ⟨U,hU⟩:=nm (Z.setCell ⟨bl j,14,none⟩ (.slice A7 (m+1) c7));have HU:=hid hU;clear hrZ B hU;refine tpD [15,16] 14 d ?_;refine tp 15 d ?_;refine stf 16 fun K p=>?_;have f14:=I.out.frozen 14;have d14:Z.cell? ⟨bl j,14,none⟩=some (.slice sA m y):=I.out.cell 14;go_simp;rw[←HU.out];refine p.out _ _ ?_;clear p K
  try simp only[Act.put,pb,pz,ps]
  refine zaa (by kernel_rfl) ?_ _;clear d S lbV x3 x16 V P Q;go_wp2_with fail
  go_ret;refine ⟨rfl,?_⟩;have E:Chg (·=bl j) Z U:=by rw[HU.out];exact Chg.set Z ⟨bl j,14,none⟩ _
  have hbU:Blk U (bl j) 145 ((zfq l ⟨(i:Int),c,held⟩).cells (.slice A7 (m+1) c7)).toArray:=by rw[HU.out];exact I.out.set_ 14 _
  have hlW:=HLJ.out.lt;have hs6:=G.out.size;have hsV:=J.out.size;have O:RowAt U (fun b=>(T b=.lot j∧b≠bl j)∨D.heap.size≤b) 188 3 (.slice A7 (m+1) c7) (g.length+1) (zaF g vo'++(⟨(i:Int),c,held⟩:Stand).cells (.slice F c.length N)):=by
   rw[←HMR.out];refine (HZR.out.chgB E fun b hb e=>?_).mono fun b _ k=>k.elim .inl fun k=>.inr (by rw[World.size_alloc] at k;omega)
   rcases HZR.out.blk b hb with k|k
   ·exact k.2 e
   ·rw[World.size_alloc] at k;omega
  have hcU:Chg (fun b=>T b=.lot j) D U:=(((Chg.refl _ D).grow (qA _)).step HZC.out fun b _ e=>(z.out.blk b e).1).step E fun b _ e=>e▸HTB.out;exact zk0 HH.out HROW.out HLS.out HL.out (l':=zfq l ⟨(i:Int),c,held⟩) (by show zbC (i:Int) l.stands++_=_;rw[HRE.out]) HAV.out J.out HVO.out G.out (s:=⟨(i:Int),c,held⟩) (show zad D (fun b=>C.heap.size≤b) (.slice F c.length N) c from HO6.out) O hcU hbU
 |some k=>
  have hpi:zbV (i:Int) l.stands=(k:Int):=by unfold zbV;rw[hpl]
  obtain ⟨sk,hsk,_,_⟩:=zei hpl;have hkl:=(gS.1 hsk).1;have HRS:=hid (show zbC (i:Int) l.stands=l.stands.eraseIdx k by unfold zbC;rw[hpl]);rw[hpi];obtain ⟨q,cap,hq,_⟩:=ab.out.ex (by omega);injection hq with hq1 hq2 hq3
  subst hq1 hq3;clear hq2 hpi hpl hsk;have aa:=hid (zjT ab.out HOFX.out hkl);obtain ⟨g,f⟩:=nm (l.stands.eraseIdx k);obtain ⟨vx,hvx⟩:=nm ((fun i=>if i<k then vo' i else vo' (i+1)):Nat→Value);rw[←f,←hvx] at aa;have hml:g.length≤1000000:=by have:=HSM.out;rw[f,List.length_eraseIdx];split<;>omega
  have HRE:=hid (show zbC (i:Int) l.stands=g by rw[HRS.out,f]);obtain ⟨m,hm⟩:=nm (g.length);rw[←hm] at aa;have HMR:=hid hm;have HMM:=hid (show m≤1000000 by rw[hm];exact hml);have HVO4:=hid (show zb3 C T vx (g.map (·.offers)) by rw[f,hvx];exact zhl HOFX.out k);obtain ⟨n0,hn0⟩:=nm (l.stands.length);have S:C.cell? ⟨bl j,14,none⟩=some (.slice (some ⟨q,0,none⟩) n0 y):=(HBK.out.cell 14).trans (by rw[hn0];rfl);have HRQ:=hid (ab.out.blk q rfl);rw[←hn0] at aa;have hwk:IntKind.i64.wrap ((k:Int)+1)=(k:Int)+1:=iW _ (by have:=HSM.out;omega);have lb4:=HBK.out.lt;have HBK5:=hid (show Blk C (bl j) 145 (l.cells (.slice (some ⟨q,0,none⟩) n0 y)).toArray by rw[hn0];exact HBK.out);clear f hvx hm hml hn0 hkl;go_wp2_with fail
  refine aa.out.mono ?_;rintro e W5 ⟨rfl,hrw5,hc5⟩;have hbk5:=HBK5.out.chg hc5 HRQ.out.2.symm;have f14:=hbk5.frozen 14;have d14:W5.cell? ⟨bl j,14,none⟩=some (.slice (some ⟨q,0,none⟩) n0 y):=hbk5.cell 14;obtain ⟨V5,hV5⟩:=nm (W5.setCell ⟨bl j,14,none⟩ (.slice (some ⟨q,0,none⟩) m y));have hc55:Chg (·=bl j) W5 V5:=by rw[hV5];exact Chg.set W5 ⟨bl j,14,none⟩ _
  have hcV:Chg (fun b=>T b=.lot j) C V5:=(hc5.mono (Y:=fun b=>T b=.lot j) fun b _ e=>e▸HRQ.out.1).step hc55 fun b _ e=>e▸HTB.out;have hXo:∀b,T b=.old→¬T b=.lot j:=fun b e=>by rw[e];simp
  have z:=hid (hrw5.chg hc55 fun b _ h1 e=>h1.2 e);have HVO:=hid (HVO4.out.step (T':=T) hcV hXo fun _ _=>rfl);have HVL:=hid (show Blk V5 (bl j) 145 (l.cells (.slice (some ⟨q,0,none⟩) m y)).toArray by rw[hV5];exact hbk5.set_ 14 _);have J:=hid ((HC4.out.mono (Y:=fun b=>(∃i,T b=.acc i)∨T b=.lot j) fun b _ e=>.inl ⟨i,e⟩).step hcV fun b _ e=>.inr e);have L:=hid (HX4.out.chg hcV (fun e=>by rw[HH.out.out _ lR] at e;cases e));have HAV:=hid (HAC4.out.step (T':=T) hcV (fun b e=>by rcases e with e|⟨i,e⟩<;>rw[e]<;>simp) fun _ _=>rfl);have HV5:=hid hV5;clear hrw5 hc5 hbk5 hc55 hcV hXo hV5 S lb4;go_wp2_with fail
  rw[←HV5.out];clear f14 d14;have hXn:∀b,T b=.no→¬((∃i,T b=.acc i)∨T b=.lot j):=by
   rintro b e (⟨i,k⟩|k)<;>rw[e] at k<;>cases k
  have hTx:T W.heap.size=.no:=HH.out.out _ lR;have HOV:=hid (zad.chg HO.out J.out fun b _ hr=>hXn b (HRN.out b hr));clear hXn;have t:=HVL.out;have S:V5.cell? ⟨bl j,14,none⟩=some (.slice (some ⟨q,0,none⟩) m y):=t.cell 14;have lbV:=t.lt;have x3:V5.cell? ⟨W,3,none⟩=some ↑(i:Int):=L.out.cell 3;have x16:V5.cell? ⟨W,16,none⟩=some vo:=L.out.cell 16;have V:=L.out.lt;have P:¬(Value.slice (some ⟨q,0,none⟩) m y).ownBlock=some (bl j):=fun e=>(z.out.blk _ e).2 rfl;have Q:¬(Value.slice (some ⟨q,0,none⟩) m y).ownBlock=some W.heap.size:=fun e=>by have h3:=(z.out.blk _ e).1;rw[hTx] at h3;cases h3
  have HOR:=hid P;clear t hTx;go_wp2_with fail
  refine zac (Chg (fun b=>(Value.slice (some ⟨q,0,none⟩) m y).ownBlock=some b) V5) [16] (by kernel_rfl) ((Chg.refl _ V5).grow bR.drew) (fun d=>?_);refine tp 0 d ?_;refine tp 1 d ?_;refine tp 2 d ?_;refine tp 3 d ?_;have qq:=hid fun (w':World) (A:(Chg (fun b=>(Value.slice (some ⟨q,0,none⟩) m y).ownBlock=some b) V5) w')=>And.intro (cg A S lbV P)<|And.intro (cg A x3 V Q)<|cg A x16 V Q;refine tl 4 d qq ?_;refine tp 5 d ?_;refine tl 6 d qq ?_;refine tp 7 d ?_;refine tl 8 d qq ?_;refine tp 10 d ?_;refine stp 9 fun K p=>?_;go_simp;refine (zgk (W:=V5.drew) (zad.grow HOV.out bR.drew) HLO.out).mono ?_;rintro e D ⟨F,N,rfl,hO6,r⟩;have r:Below V5 V5 D:=bR.drew.trans (r.mono lR);refine p.out _ _ ?_ (fun d=>?_)
  ·exact (Chg.refl _ V5).grow r
  clear p K
  try simp only[Act.put,pb,pz,ps]
  have HO6:=hid hO6;have G:=hid r;have HRW:=hid ((z.out.grow r).grow (bR.alloc lR (.cells #[(i:Int),.slice F c.length N,held] 188)));clear hO6 r;refine tp 11 d ?_;refine stp 12 fun K p=>?_;go_simp;refine p.out _ _ ?_ (fun d=>?_)
  ·exact d.grow (qA _)
  clear p K
  try simp only[Act.put,pb,pz,ps]
  refine stp 13 fun K p=>?_;refine zbR (D.alloc (.cells #[(i:Int),.slice F c.length N,held] 188)) (.tmp 45) (.tmp 53) rfl ziH rfl (.slice (some ⟨q,0,none⟩) m y) m (zaF g vx) rfl HRW.out (.slice (some ⟨D,0,none⟩) 1 1) 1 [.int .i64 (i:Int),.slice F c.length N,.int .i64 held] rfl (Sl.lit1 (Blk.new D 188 #[(i:Int),.slice F c.length N,held]) rfl) (by simp[Value.oneCell']) (by have:=HMM.out;omega) (by have:=HMM.out;unfold maxLen;omega) ?_;intro A7 c7 Z hrZ B;refine p.out _ _ ?_ (fun d=>?_)
  ·exact d.trans B
  clear p K
  try simp only[Act.put,pb,pz,ps]
  have I:=hid (((HVL.out.grow G.out).alloc (.cells #[(i:Int),.slice F c.length N,held] 188)).chg B HOR.out);have HZR:=hid hrZ;have HZC:=hid B;obtain ⟨U,hU⟩:=nm (Z.setCell ⟨bl j,14,none⟩ (.slice A7 (m+1) c7));have HU:=hid hU;clear hrZ B hU;refine tpD [15,16] 14 d ?_;refine tp 15 d ?_;refine stf 16 fun K p=>?_;have f14:=I.out.frozen 14;have d14:Z.cell? ⟨bl j,14,none⟩=some (.slice (some ⟨q,0,none⟩) m y):=I.out.cell 14;go_simp;rw[←HU.out];refine p.out _ _ ?_;clear p K
  try simp only[Act.put,pb,pz,ps]
  refine zaa (by kernel_rfl) ?_ _;clear d S lbV x3 x16 V P Q;go_wp2_with fail
  go_ret;refine ⟨rfl,?_⟩;have E:Chg (·=bl j) Z U:=by rw[HU.out];exact Chg.set Z ⟨bl j,14,none⟩ _
  have hbU:Blk U (bl j) 145 ((zfq l ⟨(i:Int),c,held⟩).cells (.slice A7 (m+1) c7)).toArray:=by rw[HU.out];exact I.out.set_ 14 _
  have hlW:=HLJ.out.lt;have hs6:=G.out.size;have hsV:=J.out.size;have O:RowAt U (fun b=>(T b=.lot j∧b≠bl j)∨D.heap.size≤b) 188 3 (.slice A7 (m+1) c7) (g.length+1) (zaF g vx++(⟨(i:Int),c,held⟩:Stand).cells (.slice F c.length N)):=by
   rw[←HMR.out];refine (HZR.out.chgB E fun b hb e=>?_).mono fun b _ k=>k.elim .inl fun k=>.inr (by rw[World.size_alloc] at k;omega)
   rcases HZR.out.blk b hb with k|k
   ·exact k.2 e
   ·rw[World.size_alloc] at k;omega
  have hcU:Chg (fun b=>T b=.lot j) D U:=(((Chg.refl _ D).grow (qA _)).step HZC.out fun b _ e=>(z.out.blk b e).1).step E fun b _ e=>e▸HTB.out;exact zk0 HH.out HROW.out HLS.out HL.out (l':=zfq l ⟨(i:Int),c,held⟩) (by show zbC (i:Int) l.stands++_=_;rw[HRE.out]) HAV.out J.out HVO.out G.out (s:=⟨(i:Int),c,held⟩) (show zad D (fun b=>V5.heap.size≤b) (.slice F c.length N) c from HO6.out) O hcU hbU
structure AtIt (W:World) (T:Nat→Part) (h pn pc:Nat) (va vl vb vs:Value) (K:Nat) (H:House) (bl ba ma:Nat→Nat) (i j:Nat) (a:Acc) (l:LotS):Prop where
 house:HouseAt W T h pn pc va vl vb vs K H
 lrow:RowAt W (fun b=>T b=.lots) 138 1 vl H.lots.length (ptrs bl H.lots.length)
 lots:∀n l,H.lots[n]? =some l→za2 W T n (bl n) l
 arow:RowAt W (fun b=>T b=.accs) 136 1 va H.accs.length (ptrs ba H.accs.length)
 accs:∀i a,H.accs[i]? =some a→AccAt W (ba i) (ma i) K a∧T (ba i)=.acc i∧T (ma i)=.acc i
 acc:H.accs[i]? =some a
 lot:H.lots[j]? =some l
theorem AtIt.grow {W W':World} {T:Nat→Part} {h pn pc K:Nat} {va vl vb vs:Value} {H:House} {bl ba ma:Nat→Nat} {i j:Nat} {a:Acc} {l:LotS} (hx:AtIt W T h pn pc va vl vb vs K H bl ba ma i j a l) (hb:Below W W W'):AtIt W' T h pn pc va vl vb vs K H bl ba ma i j a l:=
 ⟨hx.house.grow hb,hx.lrow.grow hb,fun n l hn=>(hx.lots n l hn).step (Chg.of (fun _=>False) hb) (fun _ _=>id) (fun _ _=>rfl),hx.arow.grow hb,fun i a hi=>⟨(hx.accs i a hi).1.grow hb,(hx.accs i a hi).2⟩,hx.acc,hx.lot⟩
theorem HouseAt.moves {W W':World} {T:Nat→Part} (hb:Below W W W'):Moves W T W' T:=⟨Chg.of _ hb,fun _ _=>rfl⟩
def zdY (a:Acc) (l:LotS) (j:Int) (os:List Off):Int:=match zaZ os with|none=>2|some c=>if c<l.put.floor then 7 else zci a j c
theorem zit {os:List Off} {c:Int} (h:zaZ os=some c):zah c:=by
 unfold zaZ at h
 split at h
 ·split at h
  ·rename_i a
   cases h
   exact zaK.1 a.2
  ·cases h
 ·cases h
theorem zrL {W:World} {T:Nat→Part} {h pn pc K:Nat} {va vl vb vs:Value} {H:House} {bl ba ma:Nat→Nat} {i j:Nat} {a:Acc} {l:LotS} (z:AtIt W T h pn pc va vl vb vs K H bl ba ma i j a l) (o:OrderR) (V:o.bidder=i) (X:o.lot=j) {A:Option Addr} {c:Nat} {R:Nat→Prop} (hO:zad W R (.slice A o.offers.length c) o.offers) (hR:∀b,R b→T b=.no) (Y:a.Ok) (U:j≤4096) (he:zdY a l j o.offers≠0):
  Calls Tryz.prog 244 #[.agg #[],.pointer (some ⟨h,0,none⟩),.pointer (some ⟨bl j,0,none⟩),.pointer (some ⟨ba i,0,none⟩),o.agg (.slice A o.offers.length c)] W fun e W'=>e=.returned (.tuple #[(),(zdY a l j o.offers:Int)])∧Below W W W':=by
 obtain ⟨P,p⟩:=nm ((W.alloc (.cells #[] 247)).alloc (.cells (o.cells (.slice A o.offers.length c)).toArray 61));have k:Below W W P:=by rw[p];exact (qA _).alloc (by simp) _
 have hx:Blk P (W.heap.size+1) 61 (o.cells (.slice A o.offers.length c)).toArray:=by rw[p];exact Blk.new' _ _ (by simp)
 obtain ⟨v,htb,q,_⟩:=z.lots j l z.lot;have l7:W.cell? ⟨bl j,7,none⟩=some ↑l.put.floor:=q.cell 7;have lb:=q.lt;obtain ⟨fl,E⟩:=nm (l.put.floor);rw[←E] at l7;have HAT:=hid z;have O:=hid k;have HRN:=hid hR;have HOK:=hid Y;have HJM:=hid U;have HOI:=hid V;have HOJ:=hid X;have HO1:=hid (zad.grow hO k);obtain ⟨oo,Z⟩:=nm (o);have t:=hid Z;obtain ⟨I,J,B,s,olot,⟨kind,L,x,N,step,y,last,D,Q,C,rule⟩,g,M⟩:=o;simp only at hO;have HSI:=hid (zdc (zad.grow hO k));simp only[OrderR.agg,OrderR.cells,LotR.cells,List.cons_append,List.nil_append] at p hx ⊢;have x16:P.cell? ⟨W.heap.size+1,16,none⟩=some (.slice A g.length c):=hx.cell 16;have l71:P.cell? ⟨bl j,7,none⟩=some ↑fl:=qc k l7 lb;have G:bl j<P.heap.size:=lL lb k.size;have xl:=hx.lt;have HX1:=hid hx;clear z k hR Y U V X hO htb q hx l7 lb Z;obtain ⟨er,d⟩:=nm (zdY a l j g);rw[←d] at he ⊢;have HE:=hid he;unfold zdY at d;clear he;go_enter Tryz.func244,Tryz.ntmps244;go_wp2_with fail
 rw[←p];clear p;refine HSI.out.mono ?_;rintro e W2 ⟨rfl,m⟩;have l72:W2.cell? ⟨bl j,7,none⟩=some ↑fl:=qc m l71 G;have lb2:bl j<W2.heap.size:=lL G m.size;have HX2:=hid (HX1.out.grow m);have n:=hid (O.out.trans (m.mono O.out.size));have HO2:=hid (zad.grow HO1.out m);clear m l71 G x16 xl
 cases hs:zaZ g with
 |none=>
  rw[hs] at d;simp only at d;subst d;have hv:zaV g=.tuple #[(),false]:=by unfold zaV;rw[hs]
  rw[hv];clear hv hs;go_wp2_with fail
  go_ret2
  exact ⟨rfl,n.out⟩
 |some co=>
  rw[hs] at d;simp only at d;have hv:zaV g=.tuple #[co,true]:=by unfold zaV;rw[hs]
  rw[hv];rw[←E] at d;clear hv hs E;by_cases hf:co<fl
  ·rw[if_pos hf] at d;subst d;go_wp2_with fail
   go_ret2
   exact ⟨rfl,n.out⟩
  ·rw[if_neg hf] at d;have F:a.mostH j<co:=by
    unfold zci at d
    split at d
    ·assumption
    ·exact absurd d HE.out
   have h8:er=8:=by rw[d];unfold zci;rw[if_pos F]
   subst h8;have HST:=hid F;clear d F
   go_wp2_with (refine wpList_load_row rfl 61 (.tmp 9) rfl (W.heap.size+1) rfl 61 #[I,.string J,B,s,olot,kind,L,x,N,step,y,last,D,Q,C,rule,.slice A g.length c,M] (0,0) _ HX2.out Tryz.underlying61 rfl (by kernel_rfl) ?_)
   have f:=HAT.out.grow n.out;have r:=zgw f.house f.lrow f.lots f.arow f.accs f.acc f.lot oo (by rw[t.out];exact HOI.out) (by rw[t.out];exact HOJ.out) (vo:=.slice A g.length c) (by rw[t.out];exact HO2.out) HRN.out HOK.out HJM.out HST.out;rw[t.out] at r;refine r.mono ?_;clear r f;rintro e W3 ⟨rfl,S⟩;have HB3:=hid (n.out.trans (S.mono n.out.size));clear S;go_wp2_with fail
   go_ret2
   exact ⟨rfl,HB3.out⟩
theorem zs9 {W:World} {T:Nat→Part} {h pn pc K:Nat} {va vl vb vs:Value} {H:House} {bl ba ma:Nat→Nat} {i j:Nat} {a:Acc} {l:LotS} (x:AtIt W T h pn pc va vl vb vs K H bl ba ma i j a l) (o:OrderR) (V:o.bidder=i) (X:o.lot=j) {A:Option Addr} {c:Nat} {R:Nat→Prop} (hO:zad W R (.slice A o.offers.length c) o.offers) (hR:∀b,R b→T b=.no) (Y:a.Ok) (S:j≤4096) {z:Int} (hs:zaZ o.offers=some z) (hf:¬z<l.put.floor) (ab:z≤a.mostH j) (hK:K<maxLen) (aa:l.stands.length≤1000000) (U:o.offers.length≤1099511627776):
  Calls Tryz.prog 244 #[.agg #[],.pointer (some ⟨h,0,none⟩),.pointer (some ⟨bl j,0,none⟩),.pointer (some ⟨ba i,0,none⟩),o.agg (.slice A o.offers.length c)] W fun e W'=>e=.returned (.tuple #[(),()])∧∃T',zaf W' T' h (K+1) (zhw H i j a l ⟨i,o.offers,z⟩)∧Moves W T W' T':=by
 obtain ⟨N,n⟩:=nm ((W.alloc (.cells #[] 247)).alloc (.cells (o.cells (.slice A o.offers.length c)).toArray 61));have g:Below W W N:=by rw[n];exact (qA _).alloc (by simp) _
 have hx:Blk N (W.heap.size+1) 61 (o.cells (.slice A o.offers.length c)).toArray:=by rw[n];exact Blk.new' _ _ (by simp)
 obtain ⟨v,htb,p,_⟩:=x.lots j l x.lot;have l7:W.cell? ⟨bl j,7,none⟩=some ↑l.put.floor:=p.cell 7;have lb:=p.lt;obtain ⟨fl,C⟩:=nm (l.put.floor);rw[←C] at l7;have HAT:=hid x;have L:=hid g;have HRN:=hid hR;have HOK:=hid Y;have HJM:=hid S;have HOI:=hid V;have HOJ:=hid X;have HO1:=hid (zad.grow hO g);obtain ⟨oo,Z⟩:=nm (o);have m:=hid Z;obtain ⟨E,F,y,r,olot,⟨kind,G,s,J,step,t,last,floor,O,B,rule⟩,f,I⟩:=o;simp only at hO;have HSI:=hid (zdc (zad.grow hO g));simp only[OrderR.agg,OrderR.cells,LotR.cells,List.cons_append,List.nil_append] at n hx ⊢;have x16:N.cell? ⟨W.heap.size+1,16,none⟩=some (.slice A f.length c):=hx.cell 16;have l71:N.cell? ⟨bl j,7,none⟩=some ↑fl:=qc g l7 lb;have D:bl j<N.heap.size:=lL lb g.size;have xl:=hx.lt;have HX1:=hid hx;clear x g hR Y S V X hO htb p hx l7 lb Z;have HS:=hid hs;have HFL:=hid (show ¬z<fl by rw[C];exact hf);have hf':¬z<fl:=HFL.out;have HST:=hid ab;have HKM:=hid hK;have HSM:=hid aa;have HLO:=hid U;clear hf ab hK aa U C hs;go_enter Tryz.func244,Tryz.ntmps244;go_wp2_with fail
 rw[←n];clear n;refine HSI.out.mono ?_;rintro e W2 ⟨rfl,k⟩;have l72:W2.cell? ⟨bl j,7,none⟩=some ↑fl:=qc k l71 D;have lb2:bl j<W2.heap.size:=lL D k.size;have HX2:=hid (HX1.out.grow k);have M:=hid (L.out.trans (k.mono L.out.size));have HO2:=hid (zad.grow HO1.out k);clear k l71 D x16 xl;have hv:zaV f=.tuple #[z,true]:=by have:=HS.out;unfold zaV;rw[this]
 rw[hv];clear hv
 go_wp2_with (refine wpList_load_row rfl 61 (.tmp 9) rfl (W.heap.size+1) rfl 61 #[E,.string F,y,r,olot,kind,G,s,J,step,t,last,floor,O,B,rule,.slice A f.length c,I] (0,0) _ HX2.out Tryz.underlying61 rfl (by kernel_rfl) ?_)
 have d:=HAT.out.grow M.out;have q:=zhd d.house d.lrow d.lots d.arow d.accs d.acc d.lot oo (by rw[m.out];exact HOI.out) (by rw[m.out];exact HOJ.out) (vo:=.slice A f.length c) (by rw[m.out];exact HO2.out) HRN.out HOK.out HJM.out HST.out (zit HS.out) HKM.out HSM.out (by rw[m.out];exact HLO.out);rw[m.out] at q;refine q.mono ?_;clear q d;rintro e W3 ⟨rfl,T',P,Q⟩;have HH3:=hid P;have HM3:=hid ((HouseAt.moves (T:=T) M.out).trans Q);clear P Q;go_wp2_with fail
 go_ret2
 exact ⟨rfl,T',HH3.out,HM3.out⟩
structure AnsR where
 (number err value:Int)
 deriving DecidableEq
def AnsR.cells (a:AnsR):List Value:=[.int .i64 a.number,.int .i64 a.err,.int .i64 a.value]
abbrev AnsR.agg (a:AnsR):Value:=.agg #[.int .i64 a.number,.int .i64 a.err,.int .i64 a.value]
theorem ziS {W:World} {R:Nat→Prop} {A:Option Addr} {n c:Nat} {os:List OrderR} {vo:Nat→Value} (h:Sl W R (.slice A n c) n 18 (zaz os vo)) {k:Nat} {o:OrderR} (m:os[k]? =some o) (p:k<n):
  ∃q off,A=some ⟨q,off,none⟩∧R q∧q<W.heap.size∧W.rangeAt q (off+k*18) (o.cells (vo k)):=by
 obtain ⟨_,s,t,r,_,_,f⟩:=h;injection r with d _ _
 subst d;obtain ⟨b,off,d,j,a,e⟩:=f (by omega);refine ⟨b,off,d,j,a,fun i u g=>?_⟩;rw[show off+k*18+i=off+(k*18+i) by omega];have l:i<18:=by
  have:=(gS.1 g).1
  simpa [OrderR.cells,LotR.cells] using this
 refine e _ _ ((flat_get (n:=18) (xs:=os.mapIdx fun k o=>o.cells (vo k)) (zdM fun _ _=>rfl) ?_ l).trans g);rw[List.getElem?_mapIdx,m]
 rfl
end Ho
end Go.Proofs.YtckdpejdnejhfaaGreat

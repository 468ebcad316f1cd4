/- Joined by program. -/
import Derived.Test.YthoaidfpgijbfaaGreatZbg
import Derived.Test.YthoaidfpgijbfaaGreatZai
import Derived.Test.YthoaidfpgijbfaaGreatZv
set_option linter.all false
set_option maxRecDepth 100000
set_option maxHeartbeats 32000000
namespace Go.Proofs.YthoaidfpgijbfaaGreat
open Lib (hid)
namespace Ho
open Go.RowKit Vb Ac
def zbA (t:Int):OrderR:=⟨6,zlP,0,0,0,zaz,[],t⟩
theorem zu3 {H:House} (b:CInv H) {t:Int} (a:¬t<H.now) (g:¬1099511627776<t):doE H (zbA t)=0:=by
 have f:zc6 (zbA t)=true:=rfl;have d:=b.now;unfold zai at d;have c:zah t=true:=zaJ.2 ⟨by omega,by omega⟩;unfold doE;rw[f,if_neg (by decide)]
 show zeI H t=0
 unfold zeI;rw[if_neg];rintro (e|e)
 ·rw[c] at e;cases e
 ·exact a e
theorem zl5 {H:House} (f:CInv H) {t:Int} (b:¬t<H.now) (c:¬1099511627776<t):doA H (zbA t)=⟨H.book.length,0,zcm H t⟩∧doH H (zbA t)={zbf H t with book:=H.book++[zbA t]}:=by
 have a:=zu3 f b c;refine ⟨zoa a,?_⟩;unfold doH;rw[if_pos a];have d:zbk H (zbA t)=zbf H t:=rfl;rw[d];have e:(zbf H t).book=H.book:=by
  unfold zbf zc1;rw[(zcc _ _).2.2.1]
 rw[e]
theorem zu4 {H:House} (h:HInv H) (c:CInv H) {f l:Int} (p:¬f<H.now) (q:¬l<f) (g:¬1099511627776<l):
  doA H (zbA l)=⟨H.book.length,0,zcm H l⟩∧doA H (zbA f)=⟨H.book.length,0,zcm H f⟩∧(∃n,doA (doH H (zbA f)) (zbA l)=⟨n,0,zcm H l-zcm H f⟩)∧TwinH (doH H (zbA l)) (doH (doH H (zbA f)) (zbA l)):=by
 obtain ⟨i,j⟩:=zl5 c (t:=l) (by omega) g;obtain ⟨k,e⟩:=zl5 c (t:=f) p (by omega);have d:=zl1 h c (zbA f);have a:(doH H (zbA f)).now=f:=by
  rw[e]
  show (zbf H f).now=f
  unfold zbf zc1;rw[(zcc _ _).2.2.2.1]
 obtain ⟨m,o⟩:=zl5 d (t:=l) (by rw[a];exact q) g;obtain ⟨b,r⟩:=zu0 h (t:=f) (u:=l) (by omega) (H.book++[zbA f]);rw[←e] at b r;refine ⟨i,k,⟨(doH H (zbA f)).book.length,m.trans ?_⟩,?_⟩
 ·rw[show zcm H l-zcm H f=zcm (doH H (zbA f)) l by omega]
 ·rw[j,o];exact ⟨b.names,b.accs,b.lots,b.sales⟩
structure TimeAt (W0:World) (lo h g:Nat) (wr:World) (T Tg:Nat→Part) (K Kg:Nat) (H Hg:House):Prop where
 hh:zaf wr T h K H
 gg:zaf wr Tg g Kg Hg
 apart:∀b,(Tg b=.no∨T b=.no)∨(T b=.old∧Tg b=.old)
 far:∀b,b<lo→T b=.no∧¬Own Tg b
 bel:Below lo W0 wr
section
variable {W0 wr w':World} {lo h g:Nat} {T Tg T':Nat→Part} {K Kg K':Nat} {H Hg H':House}
theorem TimeAt.grow (h0:TimeAt W0 lo h g wr T Tg K Kg H Hg) (hb:Below wr wr w') (hlo:lo≤wr.heap.size):TimeAt W0 lo h g w' T Tg K Kg H Hg:=
 ⟨h0.hh.grow hb,h0.gg.grow hb,h0.apart,h0.far,h0.bel.trans (hb.mono hlo)⟩
theorem TimeAt.notG (a:TimeAt W0 lo h g wr T Tg K Kg H Hg) {b:Nat} (c:Tg b≠ .no):¬Own T b:=by
 unfold Own
 rcases a.apart b with (e|e)|⟨e,_⟩
 ·exact absurd e c
 ·rw[e];simp
 ·rw[e];simp
theorem TimeAt.notH (a:TimeAt W0 lo h g wr T Tg K Kg H Hg) {b:Nat} (c:T b≠ .no):¬Own Tg b:=by
 unfold Own
 rcases a.apart b with (e|e)|⟨_,e⟩
 ·rw[e];simp
 ·exact absurd e c
 ·rw[e];simp
theorem TimeAt.moveH (a:TimeAt W0 lo h g wr T Tg K Kg H Hg) (d:lo≤wr.heap.size) (f:zaf w' T' h K' H') (e:Moves wr T w' T'):TimeAt W0 lo h g w' T' Tg K' Kg H' Hg:=by
 refine ⟨f,a.gg.keep e.chg fun b c=>a.notG c,fun b=>?_,fun b c=>⟨(e.tag b (lL c d)).trans (a.far b c).1,(a.far b c).2⟩,a.bel.trans (e.chg.below d fun b c=>za9 (a.far b c).1)⟩;by_cases hlt:b<wr.heap.size
 ·rw[e.tag b hlt];exact a.apart b
 ·exact .inl (.inl (a.gg.out b (by omega)))
theorem TimeAt.moveG (a:TimeAt W0 lo h g wr T Tg K Kg H Hg) (d:lo≤wr.heap.size) (f:zaf w' T' g K' H') (e:Moves wr Tg w' T'):TimeAt W0 lo h g w' T T' K K' H H':=by
 refine ⟨a.hh.keep e.chg fun b c=>a.notH c,f,fun b=>?_,fun b c=>⟨(a.far b c).1,?_⟩,a.bel.trans (e.chg.below d fun b c=>(a.far b c).2)⟩
 ·by_cases hlt:b<wr.heap.size
  ·rw[e.tag b hlt];exact a.apart b
  ·exact .inl (.inr (a.hh.out b (by omega)))
 ·unfold Own;rw[e.tag b (lL c d)];exact (a.far b c).2
end
theorem TwinH.sale {A B:House} (h:TwinH A B):A.sales.length=B.sales.length∧zbw A.sales=zbw B.sales∧∀(i:Nat) (x y:SaleR),A.sales[i]? =some x→B.sales[i]? =some y→x.lot=y.lot∧x.bidder=y.bidder∧x.coins=y.coins∧x.goods=y.goods∧x.count=y.count:=by
 have c:=h.sales;refine ⟨by simpa using congrArg List.length c,?_,fun i x y e f=>?_⟩
 ·have a:∀b:List SaleR,zbw b=((b.map fun s=>(s.lot,s.bidder,s.coins,s.goods,s.count)).map fun p=>p.2.2.1).foldr (·+·) 0:=by
   intro b
   induction b with
   |nil=>rfl
   |cons x b ih=>simp only[zbw,List.map_cons,List.foldr_cons,ih]
  rw[a,a,c]
 ·have d:=congrArg (fun l=>l[i]?) c;simp only[List.getElem?_map,e,f,Option.map_some,Option.some.injEq,Prod.mk.injEq] at d;exact d
end Ho
namespace Ho
open Go.RowKit Vb Ac
attribute [local go_sem] Oper.semAt_some
theorem zpC {H:House} (a:HInv H) (t:Int):0≤zcm H t∧zcm H t≤4096:=by
 obtain ⟨e,b⟩:∃e,DueL H.due t e:=by rw[a.due];exact zf5 _ _
 unfold zcm;rw[zdG b];have g:=zfl (N:=H.lots.length) b.nodup fun x j=>by
  obtain ⟨d,c,rfl⟩:=List.mem_map.1 j;have f:=((b.mem d).1 c).1;rw[a.due] at f;obtain ⟨h,l,i,_⟩:=zcQ f;have:=(gS.1 i).1;exact ⟨h,by omega⟩
 rw[List.length_map] at g;have:=a.llen
 omega
structure TReach (H:House):Prop where
 inv:HInv H
 cinv:CInv H
 pre:SPre H
theorem TReach.next {H:House} (h:TReach H) {o:OrderR} (hwf:∀x∈o.offers,x.wf):TReach (doH H o):=⟨zf6 h.inv o,zl1 h.inv h.cinv o,zpA h.inv h.pre hwf⟩
theorem zos:TReach zb1:=⟨zhO,zlu,zlA⟩
theorem zqZ (s:ByteArray) (a b c:Int) (W:World):(binOp .neq 62 (.agg #[.string s,a,b,c]) (.agg #[.string s,a,b,c])).run Tryz.prog W=.ok ↑false W:=by
 have d:Tryz.prog.underlying 62=some (.struct (Tryz.prog.fieldsOf 62)):=by kernel_rfl
 have e:Tryz.prog.stoodInHeld 62=false:=by kernel_rfl
 rw[run_neq_struct,show (10000:Nat)=9999+1 from rfl,run_equalIn_agg W 9999 62 _ _ d e];have u1:=Tryz.underlying9;have f:=Tryz.isAgg9;have h:=Tryz.sizeOf9;have u2:=Tryz.underlying2;have g:=Tryz.isAgg2;have i:=Tryz.sizeOf2;simp only[Program.fieldsOf,Tryz.underlying62];go_simp
theorem zl6 {os:List OrderR} {v:Value} {f l:Int} {W:World} (hos:zqK W v os):
  Calls Tryz.prog 5 #[v,.agg #[f,l]] W fun e W'=>e=.returned ↑true∧Below W W W':=by
 obtain ⟨vo,hrow,hoff⟩:=hos;obtain ⟨hlen,A,cap,rfl,hnc,hcap,_⟩:=id hrow;obtain ⟨n,hn⟩:=nm (os.length);rw[←hn] at hrow hnc ⊢;have HROW:=hid hrow;have HOFF:=hid hoff;have HN:=hid hn;have HNB:=hid (show n≤maxLen from lT hnc hcap);clear hrow hoff hn hlen hnc hcap;go_enter Tryz.func5,Tryz.ntmps5;obtain ⟨W1,hW1⟩:=nm (W.alloc (.cells #[f,l] 58));have HB1:=hid (show Below W W W1 by rw[hW1];exact qA _);have HX:=hid (show Ac.Blk W1 W.heap.size 58 #[f,l] by rw[hW1];exact Ac.Blk.new W _ _);have F:W1.heap.size=W.heap.size+1:=by rw[hW1];simp
 go_wp2_with fail
 rw[←hW1];clear hW1;refine (zgf W1).mono ?_;rintro e W2 ⟨h,T,rfl,hH,s,E⟩;rw[F] at E;have HH:=hid hH;have HB2:=hid (HB1.out.trans (s.mono HB1.out.size));have U:=hid (HX.out.grow s);have HNO:=hid E;have hnm:=HNB.out;unfold maxLen at hnm;clear hH s E F
 go_upto_block 0 with fail
 go_cut [] from 6 to 37 (fun wx=>∃(Z:Nat→Part) (K:Nat) (H:House),zaf wx Z h K H∧(∀b,b<W.heap.size+1→Z b=.no)∧TReach H∧H.book.length≤80∧K≤80*KD∧Below W W wx∧Ac.Blk wx W.heap.size 58 #[f,l])
 case first=>
  go_wp2_with fail
  go_loopw [6] (fun i wr=>∃(k:Nat) (Z:Nat→Part) (K:Nat) (H:House),k≤n∧k≤80∧i=.int .i64 k∧zaf wr Z h K H∧(∀b,b<W.heap.size+1→Z b=.no)∧TReach H∧H.book.length≤k∧K≤k*KD∧Below W W wr∧Ac.Blk wr W.heap.size 58 #[f,l]) (fun i _=>80-(intOf i).toNat)
  case atStart=>exact ⟨0,T,0,zb1,zL,by omega,rfl,HH.out,HNO.out,zos,lR,zL,HB2.out,U.out⟩
  case round=>
   obtain ⟨k,Z,K,H,hk,hk80,rfl,hh,E,hre,L,hK,D,X⟩:=hrel;have HL:=hid hh;have HNK:=hid E;have d:=hid hre;have I:=hid L;have HKK:=hid hK;have HB:=hid D;have HXW:=hid X;clear hh E hre L hK D X;by_cases hgo:k<n∧k<80
   ·obtain ⟨m,hl1⟩:=hgo;obtain ⟨o,ho⟩:∃o,os[k]? =some o:=⟨_,gE (by rw[←HN.out];exact m)⟩;obtain ⟨q,off,hA,hqR,hq,hrg⟩:=zgn HROW.out ho m;subst hA;obtain ⟨oA,oc,hoA⟩:=zdJ (HOFF.out k o ho);have HOF:=hid (hoA▸HOFF.out k o ho);rw[hoA] at hrg;have HCS:=hid (show ∀w,Below W W w→w.rangeAt q (off+k*18) (o.cells (.slice oA o.offers.length oc)) from fun w D j v hj=>qc D (hrg j v hj) hq);have e5:(0:Int)≤(k:Int):=by omega
    have e6:(k:Int)<(n:Int):=by omega
    have e7:(k:Int)<80:=by omega
    have hwr:IntKind.i64.wrap ((k:Int)+1)=(k:Int)+1:=iW _ (by omega);have HKM:=hid (show K+KD<maxLen from by
     have h1:=HKK.out;have h2:=Nat.mul_le_mul_right KD hk80;unfold KD maxLen at*
     omega)
    clear ho hoA hrg
    go_wp2_with (refine wpList_load_mid rfl 36 (.tmp 35) rfl q (off+k*18) rfl (o.cells (.slice oA o.offers.length oc)) _ (HCS.out _ HB.out) Tryz.underlying36 rfl (by kernel_rfl) ?_)
    refine (zgA HL.out d.out.inv o (A:=oA) (c:=oc) (R:=fun b=>b<W.heap.size) (zae.grow HOF.out HB.out) (fun b _ hr=>HNK.out b (by omega)) (fun he=>by have:=zfn d.out.inv he;omega) HKM.out (by have:=I.out;omega)).mono ?_;rintro e w2 ⟨rfl,T2,hH2,hm2⟩;have HH2:=hid hH2;have HM2:=hid hm2;clear hH2 hm2;go_wp2_with fail
    go_roundw
    case rel=>
     have hsz:=HB.out.size;have hxl:=HXW.out.lt;refine ⟨k+1,T2,K+KD,doH H o,by omega,by omega,by go_num,HH2.out,fun b D=>(HM2.out.tag b (by omega)).trans (HNK.out b D),d.out.next HOF.out.2,?_,?_,HB.out.trans (HM2.out.chg.below hsz fun b D=>za9 (HNK.out b (by omega))),HXW.out.chg HM2.out.chg (za9 (HNK.out _ (by omega)))⟩
     ·rw[zdI];have:=I.out
      split<;>simp<;>omega
     ·have h1:=HKK.out;rw[Nat.add_mul]
      omega
    case measure=>simp[intOf];omega
   ·have hend:=Nat.mul_le_mul_right KD hk80;have hfin:zaf wr Z h K H∧(∀b,b<W.heap.size+1→Z b=.no)∧TReach H∧H.book.length≤80∧K≤80*KD∧Below W W wr∧Ac.Blk wr W.heap.size 58 #[f,l]:=by
     have h1:=I.out;have h2:=HKK.out;exact ⟨HL.out,HNK.out,d.out,by omega,by omega,HB.out,HXW.out⟩
    have HFIN:=hid hfin;clear hend hfin;by_cases m:k<n
    ·have e6:(k:Int)<(n:Int):=by omega
     have e7:decide ((k:Int)<80)=false:=decide_eq_false (by omega);go_wp2_with fail
     go_meet
     case rel=>exact ⟨Z,K,H,HFIN.out⟩
    ·have e6:decide ((k:Int)<(n:Int))=false:=decide_eq_false (by omega);go_wp2_with fail
     go_meet
     case rel=>exact ⟨Z,K,H,HFIN.out⟩
 case rest=>
  obtain ⟨Z,K,H,hh,E,hre,L,hK,D,X⟩:=hcut;rename World=>V;have HH:=hid hh;have HNO:=hid E;have d:=hid hre;have I:=hid L;have HKK:=hid hK;have HB:=hid D;have HX:=hid X;clear hh E hre L hK D X;go_wp2_with fail
  refine (zmN HH.out d.out.inv d.out.cinv (by have:=I.out;omega)).mono ?_;rintro e w1 ⟨g,Tg,rfl,hG,hTg,hgs,hb1⟩;have hsz:=HB.out.size;have hxl:=HX.out.lt;have HT:=hid (show TimeAt W W.heap.size h g w1 Z Tg K K H H from by
   refine ⟨HH.out.grow hb1,hG,fun b=>?_,fun b D=>⟨HNO.out b (by omega),?_⟩,HB.out.trans (hb1.mono hsz)⟩
   ·by_cases m:b<V.heap.size
    ·have h1:=hTg b m;by_cases h2:Z b=.old
     ·rw[if_pos h2] at h1;exact .inr ⟨h2,h1⟩
     ·rw[if_neg h2] at h1;exact .inl (.inl h1)
    ·exact .inl (.inr (HH.out.out b (by omega)))
   ·unfold Own;rw[hTg b (by omega),HNO.out b (by omega)]
    simp)
  have hXo:Tg W.heap.size=.no:=by rw[hTg _ hxl,HNO.out _ (by omega)];rfl
  have HXO:=hid hXo;have HX1:=hid (HX.out.grow hb1);have F:W.heap.size<w1.heap.size:=HX1.out.lt;have x0:w1.cell? ⟨W,0,none⟩=some ↑f:=HX1.out.cell 0;have x1:w1.cell? ⟨W,1,none⟩=some ↑l:=HX1.out.cell 1;have HNW:=hid (fun k:Nat=>zkv (HT.out.hh.grow (below_drewN bR k)));have Y:=hid (fun (w:World)=>zlQ w);clear hG hTg hb1;obtain ⟨nw,hnw⟩:=nm (H.now);rw[←hnw] at HNW;have HNN:=hid hnw;clear hnw;by_cases hc1:f<nw
  ·have t1:decide (f<nw)=true:=decide_eq_true hc1
   go_upto_region 11 with fail
   go_quiet ((go_at_call 19;exact zep (HNW.out _)))
   go_wp2_with fail
   refine (Y.out _).mono ?_;rintro e w5 ⟨rfl,p⟩;have HB5:=hid ((below_drewN HT.out.bel nq).trans (p.mono (Nat.le_of_lt F)));clear p;go_wp2_with fail
   go_ret;exact ⟨rfl,HB5.out⟩
  have t1:decide (f<nw)=false:=decide_eq_false hc1;by_cases hc2:l<f
  ·have t2:decide (l<f)=true:=decide_eq_true hc2
   go_upto_region 11 with fail
   go_quiet ((go_at_call 19;exact zep (HNW.out _)))
   go_wp2_with fail
   refine (Y.out _).mono ?_;rintro e w5 ⟨rfl,p⟩;have HB5:=hid ((below_drewN HT.out.bel nq).trans (p.mono (Nat.le_of_lt F)));clear p;go_wp2_with fail
   go_ret;exact ⟨rfl,HB5.out⟩
  have t2:decide (l<f)=false:=decide_eq_false hc2;by_cases hc3:1099511627776<l
  ·have t3:decide ((1099511627776:Int)<l)=true:=decide_eq_true hc3
   go_upto_region 11 with fail
   go_quiet ((go_at_call 19;exact zep (HNW.out _)))
   go_wp2_with fail
   refine (Y.out _).mono ?_;rintro e w5 ⟨rfl,p⟩;have HB5:=hid ((below_drewN HT.out.bel nq).trans (p.mono (Nat.le_of_lt F)));clear p;go_wp2_with fail
   go_ret;exact ⟨rfl,HB5.out⟩
  have t3:decide ((1099511627776:Int)<l)=false:=decide_eq_false hc3;obtain ⟨hA,hB,⟨bn,hC⟩,htw⟩:=zu4 d.out.inv d.out.cinv (by rw[←HNN.out];exact hc1) hc2 hc3;have hvl:=zpC d.out.inv l;have hvf:=zpC d.out.inv f;have HKM:=hid (show K+KD+KD+KD<maxLen from by
   have h1:=HKK.out;unfold KD maxLen at*
   omega)
  have HDA:=hid hA;have HDB:=hid hB;have HDC:=hid hC;have HTW:=hid htw;obtain ⟨vl,hvl'⟩:=nm (zcm H l);obtain ⟨vf,hvf'⟩:=nm (zcm H f);rw[←hvl'] at HDA HDC hvl;rw[←hvf'] at HDB HDC hvf;obtain ⟨bk,L⟩:=nm (H.book.length:Int);rw[←L] at HDA HDB;have HDO:=hid (fun (w:World) (T:Nat→Part) (h K:Nat) (H:House) (t:Int) (hH:zaf w T h K H) (hI:HInv H) (hK:K+KD<maxLen) (D:H.book.length≤1000000)=>
   show Calls Tryz.prog 9 #[.pointer (some ⟨h,0,none⟩),.agg #[(6:Int),.string {data:=#[]},(),(),(),(),(),(),(),(),(),(),(),(),(),(),.slice none 0 0,t]] w fun e W'=>e=.returned (doA H (zbA t)).agg∧∃T',zaf W' T' h (K+KD) (doH H (zbA t))∧Moves w T W' T' from
    zgA hH hI (zbA t) (A:=none) (c:=0) (R:=fun _=>False) ⟨Sl.none0 _ _ _,fun o h=>by cases h⟩ (fun _ _ h=>h.elim) (fun _=>zL) hK D)
  clear hA hB hC htw hvl' hvf' L
  go_upto_region 11 with fail
  go_quiet ((go_at_call 19;exact zep (HNW.out _)))
  have HT2:=hid (HT.out.grow (below_drewN bR nq) (Nat.le_of_lt F));have U:=hid (HX1.out.drewN nq);obtain ⟨w2,hw2⟩:=nm (w1.drewN nq);rw[←hw2] at HT2 U ⊢;have HS2:=hid (show W.heap.size<w2.heap.size from by rw[hw2];exact F);have y0:w2.cell? ⟨W,0,none⟩=some ↑f:=U.out.cell 0;have y1:w2.cell? ⟨W,1,none⟩=some ↑l:=U.out.cell 1;clear hw2 x0 x1 F t1 t2 t3 HT HX1 HNW;have HN2:=hid (show Z W.heap.size=.no∧Tg W.heap.size=.no from ⟨HNO.out _ (by omega),HXO.out⟩);go_wp2_with fail
  refine (HDO.out _ _ _ _ _ l HT2.out.hh d.out.inv (by have:=HKM.out;omega) (by have:=I.out;omega)).mono ?_;rintro e w3 ⟨rfl,T3,hh,B⟩;rw[HDA.out];have HT3:=hid (HT2.out.moveH (Nat.le_of_lt HS2.out) hh B);have HX3:=hid (U.out.chg B.chg (za9 (HN2.out.1)));have HN3:=hid (show _∧_ from ⟨(B.tag _ U.out.lt).trans HN2.out.1,HN2.out.2⟩);clear hh B;obtain ⟨w4,hw4⟩:=nm (w3.alloc (.cells #[bk,(),vl] 27));have J:Below w3 w3 w4:=by rw[hw4];exact qA _
  have HPA4:=hid (show Ac.Blk w4 w3.heap.size 27 #[bk,(),vl] by rw[hw4];exact Ac.Blk.new _ _ _);have P:=hid (show _∧_ from ⟨HT3.out.hh.out _ lR,HT3.out.gg.out _ lR⟩);have HT4:=hid (HT3.out.grow J (Nat.le_of_lt HX3.out.lt));have HX4:=hid (HX3.out.grow J);have HN4:=HN3;have HS4:=hid HX4.out.lt;have y04:w4.cell? ⟨W,0,none⟩=some ↑f:=HX4.out.cell 0;have y14:w4.cell? ⟨W,1,none⟩=some ↑l:=HX4.out.cell 1;clear J
  go_upto_region 14 with fail
  rw[←hw4];clear hw4;go_wp2_with fail
  refine (HDO.out _ _ _ _ _ f HT4.out.gg d.out.inv (by have:=HKM.out;omega) (by have:=I.out;omega)).mono ?_;rintro e w5 ⟨rfl,T5,hh,B⟩;rw[HDB.out];have HT5:=hid (HT4.out.moveG (Nat.le_of_lt HS4.out) hh B);have HX5:=hid (HX4.out.chg B.chg (za9 (HN4.out.2)));have HN5:=hid (show _∧_ from ⟨HN4.out.1,(B.tag _ HX4.out.lt).trans HN4.out.2⟩);have HPA5:=hid (HPA4.out.chg B.chg (za9 (P.out.2)));have HMPA5:=hid (show _∧_ from ⟨P.out.1,(B.tag _ HPA4.out.lt).trans P.out.2⟩);clear hh B;obtain ⟨w6,hw6⟩:=nm (w5.alloc (.cells #[bk,(),vf] 27));have hb6:Below w5 w5 w6:=by rw[hw6];exact qA _
  have HPB6:=hid (show Ac.Blk w6 w5.heap.size 27 #[bk,(),vf] by rw[hw6];exact Ac.Blk.new _ _ _);have S:=hid (show _∧_ from ⟨HT5.out.hh.out _ lR,HT5.out.gg.out _ lR⟩);have HT6:=hid (HT5.out.grow hb6 (Nat.le_of_lt HX5.out.lt));have HX6:=hid (HX5.out.grow hb6);have HN6:=HN5;have HPA6:=hid (HPA5.out.grow hb6);have Q:=HMPA5;have HS6:=hid HX6.out.lt;have y06:w6.cell? ⟨W,0,none⟩=some ↑f:=HX6.out.cell 0;have y16:w6.cell? ⟨W,1,none⟩=some ↑l:=HX6.out.cell 1;clear hb6
  go_upto_region 15 with fail
  rw[←hw6];clear hw6;go_wp2_with fail
  refine (HDO.out _ _ _ _ _ l HT6.out.gg (zf6 d.out.inv (zbA f)) (by have:=HKM.out;omega) (by rw[zdI];have:=I.out;split<;>simp<;>omega)).mono ?_;rintro e w7 ⟨rfl,T7,hh,B⟩;rw[HDC.out];have HT7:=hid (HT6.out.moveG (Nat.le_of_lt HS6.out) hh B);have HX7:=hid (HX6.out.chg B.chg (za9 (HN6.out.2)));have HN7:=hid (show _∧_ from ⟨HN6.out.1,(B.tag _ HX6.out.lt).trans HN6.out.2⟩);have HPA7:=hid (HPA6.out.chg B.chg (za9 (Q.out.2)));have HMPA7:=hid (show _∧_ from ⟨Q.out.1,(B.tag _ HPA6.out.lt).trans Q.out.2⟩);have HPB7:=hid (HPB6.out.chg B.chg (za9 (S.out.2)));have HMPB7:=hid (show _∧_ from ⟨S.out.1,(B.tag _ HPB6.out.lt).trans S.out.2⟩);clear hh B;obtain ⟨w8,hw8⟩:=nm (w7.alloc (.cells #[bn,(),(vl-vf:Int)] 27));have hb8:Below w7 w7 w8:=by rw[hw8];exact qA _
  have HPC8:=hid (show Ac.Blk w8 w7.heap.size 27 #[bn,(),(vl-vf:Int)] by rw[hw8];exact Ac.Blk.new _ _ _);have HMPC8:=hid (show _∧_ from ⟨HT7.out.hh.out _ lR,HT7.out.gg.out _ lR⟩);have HT8:=hid (HT7.out.grow hb8 (Nat.le_of_lt HX7.out.lt));have HX8:=hid (HX7.out.grow hb8);have HN8:=HN7;have HPA8:=hid (HPA7.out.grow hb8);have HMPA8:=HMPA7;have HPB8:=hid (HPB7.out.grow hb8);have HMPB8:=HMPB7;have HS8:=hid HX8.out.lt;clear hb8
  go_upto_region 16 with fail
  rw[←hw8];clear hw8;have r:=hid (d.out.next (o:=zbA l) fun x X=>by cases X);have HRC:=hid ((d.out.next (o:=zbA f) fun x X=>by cases X).next (o:=zbA l) fun x X=>by cases X);obtain ⟨A2,hA2⟩:=nm (doH H (zbA l));obtain ⟨C2,hC2⟩:=nm (doH (doH H (zbA f)) (zbA l));rw[←hA2,←hC2] at HT8 HTW;rw[←hA2] at r;rw[←hC2] at HRC;clear hA2 hC2;obtain ⟨tl,tc,ts⟩:=HTW.out.sale;have hsl:A2.sales.length≤1000000:=by have h1:=r.out.inv.sales;have h2:zb5 A2.lots≤A2.lots.length:=List.countP_le_length;have h3:=r.out.inv.llen;omega
  obtain ⟨sn,hsn⟩:=nm (A2.sales.length);have HSL:=hid hsl;have HSN:=hid hsn;have HTL:=hid tl;have HTC:=hid tc;have HTS:=hid ts;clear tl tc ts hsl hsn;go_wp2_with fail
  refine (zez HT8.out.hh HSL.out).mono ?_;rintro e w9 ⟨xA,xc,rfl,hrx,hb9⟩;rw[←HSN.out] at hrx ⊢;have HRX:=hid hrx;have HB9:=hid hb9;have HT9:=hid (HT8.out.grow hb9 (Nat.le_of_lt HS8.out));clear hrx hb9;go_wp2_with fail
  refine (zez HT9.out.gg (by rw[←HTL.out];exact HSL.out)).mono ?_;rintro e wa ⟨yA,yc,rfl,hry,hba⟩;rw[←HTL.out,←HSN.out] at hry ⊢;have HRY:=hid hry;have O:=hid (HB9.out.trans (hba.mono HB9.out.size));have HTa:=hid (HT9.out.grow hba (lT (Nat.le_of_lt HS8.out) HB9.out.size));have HRX2:=hid (HRX.out.grow hba);clear hry hba;have pa1:wa.cell? ⟨w3,1,none⟩=some ↑():=(HPA8.out.grow O.out).cell 1;have pa2:wa.cell? ⟨w3,2,none⟩=some ↑vl:=(HPA8.out.grow O.out).cell 2;have pb1:wa.cell? ⟨w5,1,none⟩=some ↑():=(HPB8.out.grow O.out).cell 1;have pb2:wa.cell? ⟨w5,2,none⟩=some ↑vf:=(HPB8.out.grow O.out).cell 2;have pc1:wa.cell? ⟨w7,1,none⟩=some ↑():=(HPC8.out.grow O.out).cell 1;have pc2:wa.cell? ⟨w7,2,none⟩=some ↑(vl-vf:Int):=(HPC8.out.grow O.out).cell 2;have wv:IntKind.i64.wrap (vf+(vl-vf))=vl:=by rw[show vf+(vl-vf)=vl by omega];exact iW _ (by omega)
  have HLO:=hid (show W.heap.size≤wa.heap.size from lT (Nat.le_of_lt HS8.out) O.out.size);go_wp2_with fail
  refine (zgQ HTa.out.hh HSL.out r.out.pre.pays).mono ?_;rintro e wb ⟨rfl,hbb⟩;have HTb:=hid (HTa.out.grow hbb HLO.out);have HBb:=hid hbb;clear hbb pa1 pa2 pb1 pb2 pc1 pc2 wv;go_wp2_with fail
  refine (zgQ HTb.out.gg (by rw[←HTL.out];exact HSL.out) HRC.out.pre.pays).mono ?_;rintro e wd ⟨rfl,hbd⟩;rw[←HTC.out];have HBd:=hid (HBb.out.trans (hbd.mono HBb.out.size));have HTd:=hid (HTb.out.grow hbd (lT HLO.out HBb.out.size));have HRX3:=hid (HRX2.out.grow HBd.out);have HRY3:=hid (HRY.out.grow HBd.out);have HLd:=hid (lT HLO.out HBd.out.size);have hsm:sn≤1000000:=by rw[HSN.out];exact HSL.out
  clear hbd
  go_upto_block 2 with fail
  go_wp2_with fail
  go_loopw [13] (fun i wr=>∃k:Nat,k≤sn∧i=.int .i64 k∧Below wd wd wr) (fun i _=>sn-(intOf i).toNat)
  case atStart=>exact ⟨0,zL,rfl,bR⟩
  case round=>
   obtain ⟨k,hk,rfl,D⟩:=hrel;have HBk:=hid D;clear D;have wk:IntKind.i64.wrap ((k:Int)+1)=(k:Int)+1:=iW _ (by omega);by_cases m:k<sn
   ·obtain ⟨x,X⟩:∃x,A2.sales[k]? =some x:=⟨_,gE (by rw[←HSN.out];exact m)⟩;obtain ⟨y,hy⟩:∃y,C2.sales[k]? =some y:=⟨_,gE (by rw[←HTL.out,←HSN.out];exact m)⟩;obtain ⟨q1,q2,q3,q4,q5⟩:=HTS.out k x y X hy;obtain ⟨bx,ox,hxA,_,hbx,hcx⟩:=zf1 HRX3.out.sl X m;obtain ⟨by_,oy,hyA,_,hby,hcy⟩:=zf1 HRY3.out.sl hy m;subst hxA hyA;have gx:=fun (j:Nat) (u:Value) (h:x.cells[j]? =some u)=>qc HBk.out (hcx j u h) hbx;have gy:=fun (j:Nat) (u:Value) (h:y.cells[j]? =some u)=>qc HBk.out (hcy j u h) hby;have x1:=gx 1 _ rfl;have x2:=gx 2 _ rfl;have x3:=gx 3 _ rfl;have x4:=gx 4 _ rfl;have x5:=gx 5 _ rfl;have z1:=gy 1 _ rfl;have z2:=gy 2 _ rfl;have z3:=gy 3 _ rfl;have z4:=gy 4 _ rfl;have z5:=gy 5 _ rfl;rw[←q1] at z1;rw[←q2] at z2;rw[←q3] at z3;rw[←q4] at z4;rw[←q5] at z5;have i1:(0:Int)≤(k:Int):=by omega
    have i2:(k:Int)<(sn:Int):=by omega
    clear X hy q1 q2 q3 q4 q5 hcx hcy gx gy
    go_upto_region 22 with fail
    go_quiet (fail)
    go_wp2_with fail
    go_roundw
    case rel=>exact ⟨k+1,by omega,by go_num,below_drewN HBk.out _⟩
    case measure=>simp[intOf];omega
   ·have HTk:=hid (HTd.out.grow HBk.out HLd.out);have HLk:=hid (lT HLd.out HBk.out.size);rename World=>V2;obtain ⟨N,hN⟩:=nm (A2.accs.length);have HNL:=hid hN;have hBI:=fun (w:World) (hw:Below V2 V2 w)=>ziX (HTk.out.hh.grow hw);rw[←hN] at hBI;have HBI:=hid hBI;have hNb:N≤4096:=by have h1:=r.out.inv.names;have h2:=r.out.inv.nlen;omega
    clear hBI hN
    go_upto_block 4 with fail
    go_wp2_with fail
    go_loopw [14] (fun i wr=>∃k:Nat,k≤N∧i=.int .i64 k∧Below V2 V2 wr) (fun i _=>N-(intOf i).toNat)
    case atStart=>exact ⟨0,zL,rfl,bR⟩
    case round=>
     obtain ⟨i,hi,rfl,D⟩:=hrel;have C:=hid D;clear D;by_cases m:i<N
     ·obtain ⟨a,ha⟩:∃a,A2.accs[i]? =some a:=⟨_,gE (by rw[←HNL.out];exact m)⟩;obtain ⟨G,hnm⟩:∃G,A2.names[i]? =some G:=⟨_,gE (by rw[←r.out.inv.names,←HNL.out];exact m)⟩;have HBD:=hid (zfJ (HTk.out.hh.grow C.out) (fun a ha=>(r.out.inv.accs a ha).1) ha hnm);have HBG:=hid (fun (w:World) (hw:Below V2 V2 w)=>zfJ (HTk.out.gg.grow hw) (fun a ha=>(HRC.out.inv.accs a ha).1) (HTW.out.accs▸ha) (HTW.out.names▸hnm));obtain ⟨z1,hz1⟩:=nm (a.bud);obtain ⟨z2,hz2⟩:=nm (zas a.M);obtain ⟨z3,hz3⟩:=nm (a.sp);rw[←hz1,←hz2,←hz3] at HBD HBG;have w3':IntKind.i64.wrap ((i:Int)+1)=(i:Int)+1:=iW _ (by omega);have i1:(0:Int)≤(i:Int):=by omega
      have i2:(i:Int)<(N:Int):=by omega
      clear ha hnm hz1 hz2 hz3;go_wp2_with fail
      refine (HBI.out _ C.out).mono ?_;rintro e u1 ⟨rfl,hu1⟩;rw[hu1];clear hu1;go_wp2_with fail
      refine HBD.out.mono ?_;rintro e u2 ⟨rfl,s⟩;obtain ⟨u3,hu3⟩:=nm (u2.alloc (.cells #[.string G,z1,z2,z3] 62));have hb3:Below u2 u2 u3:=by rw[hu3];exact qA _
      have HX3':=hid (show Ac.Blk u3 u2.heap.size 62 #[.string G,z1,z2,z3] by rw[hu3];exact Ac.Blk.new _ _ _);have z:=hid ((C.out.trans (s.mono C.out.size)).trans (hb3.mono (lT C.out.size s.size)));clear s hb3
      go_upto_region 28 with fail
      rw[←hu3];clear hu3;go_wp2_with fail
      refine (HBG.out _ z.out).mono ?_;rintro e u4 ⟨rfl,J⟩;obtain ⟨u5,hu5⟩:=nm (u4.alloc (.cells #[.string G,z1,z2,z3] 62));have p:Below u4 u4 u5:=by rw[hu5];exact qA _
      have HX5':=hid (show Ac.Blk u5 u4.heap.size 62 #[.string G,z1,z2,z3] by rw[hu5];exact Ac.Blk.new _ _ _);have HX4':=hid ((HX3'.out.grow J).grow p);have HB5':=hid ((z.out.trans (J.mono z.out.size)).trans (p.mono (lT z.out.size J.size)));clear J p
      go_upto_region 29 with fail
      rw[←hu5];clear hu5;have hq:=fun w=>zqZ G z1 z2 z3 w
      go_wp2_with (first
       |(refine wpList_load_row rfl 62 (.tmp 15) rfl u2.heap.size rfl 62 #[.string G,z1,z2,z3] (0,0) _ HX4'.out Tryz.underlying62 rfl (by kernel_rfl) ?_)
       |(refine wpList_load_row rfl 62 (.tmp 17) rfl u4.heap.size rfl 62 #[.string G,z1,z2,z3] (0,0) _ HX5'.out Tryz.underlying62 rfl (by kernel_rfl) ?_))
      go_roundw
      case rel=>exact ⟨i+1,by omega,by go_num,HB5'.out⟩
      case measure=>simp[intOf];omega
     ·have i2:¬(i:Int)<(N:Int):=by omega
      go_wp2_with fail
      refine (HBI.out _ C.out).mono ?_;rintro e u1 ⟨rfl,hu1⟩;rw[hu1];clear hu1;go_wp2_with fail
      refine (zmS (HTk.out.hh.grow C.out) r.out.inv r.out.pre).mono ?_;rintro e u2 ⟨rfl,s⟩;have HB2':=hid (C.out.trans (s.mono C.out.size));clear s;go_wp2_with fail
      refine (Y.out _).mono ?_;rintro e u3 ⟨rfl,hb3⟩;have z:=hid (HB2'.out.trans (hb3.mono HB2'.out.size));clear hb3;go_wp2_with fail
      go_ret;exact ⟨rfl,HTk.out.bel.trans (z.out.mono HLk.out)⟩
end Ho
end Go.Proofs.YthoaidfpgijbfaaGreat

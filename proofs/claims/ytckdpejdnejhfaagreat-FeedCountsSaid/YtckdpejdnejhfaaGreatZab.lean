/- Joined by program. -/
import Derived.Test.YtckdpejdnejhfaaGreatZaa
set_option linter.all false
set_option maxRecDepth 100000
set_option maxHeartbeats 32000000
namespace Go.Proofs.YtckdpejdnejhfaaGreat
open Lib (hid)
namespace Ho
open Go.RowKit Vb Ac
def zfX (l:LotS):List (List Off):=l.stands.map (·.offers)
def zhU (l:LotS):List Int:=if l.put.rule=2 then zaN l.put.count (zfX l) (zfX l).length else zcP l.put.count (zfX l)
def za7 (x:Stand×Int×Int):List SaleR:=if 0≤x.2.1 then [⟨0,0,x.1.bidder,x.2.2,((x.1.offers[x.2.1.toNat]?.map (·.g)).getD 0:Nat),0,0⟩] else []
def zgb (l:LotS):List (Stand×Int×Int):=l.stands.zip ((zai l.put.count (zfX l)).zip (zhU l))
def zdt (l:LotS):List SaleR:=(zgb l).flatMap za7
theorem zpn {n:Int} {bs:List (List Off)} (d:1≤n∧n≤10) (f:bs.length≤32) (a:∀l∈bs,zas n l=0):zaj n bs=0:=by
 unfold zaj;rw[if_neg (by omega),if_neg]
 ·exact zdp n bs a
 ·rintro (e|e)
  ·omega
  ·rw[List.any_eq_true] at e;obtain ⟨l,c,b⟩:=e;have:=(zeB (a l c)).1;unfold zbN at b;simp only[decide_eq_true_eq] at b
   omega
theorem zkn:∀zs:List (Stand×Int×Int),(zs.flatMap za7).length≤zs.length
 |[]=>lR
 |z::zs=>by
  rw[List.flatMap_cons,List.length_append,List.length_cons];have h1:=zkn zs;have h2:(za7 z).length≤1:=by unfold za7;split<;>simp
  omega
theorem zpL {W4 wr Z:World} {f:List (Stand×Int×Int)} {b:List SaleR} {q n a z o k:Nat} {v m:Option Addr} {x:Stand×Int×Int} {l p:Int} {E:Value}
  (D:(f.take (q+1)).flatMap za7=b++za7 x) (C:za7 x=[⟨0,0,l,p,k,0,0⟩]) (s:a=b.length) (g:Below W4 W4 wr)
  (t:RowAt Z (fun y=>W4.heap.size≤y∨y=((wr.alloc (.cells #[(),(),l,p,.int .u32 k,(),()] 151)).drew).heap.size) 151 7 (.slice m (a+1) o) (a+1) (b.flatMap SaleR.cells++[.int .i64 0,.int .i64 0,.int .i64 l,.int .i64 p,.int .u32 k,.int .i64 0,.int .i64 0]))
  (r:Chg (fun y=>(Value.slice v a z).ownBlock=some y) wr Z) (h:∀y,(Value.slice v a z).ownBlock=some y→W4.heap.size≤y) (G:q+1≤n) (F:E=.int .i64 ((q+1:Nat):Int)):
  ∃(d:Nat) (A:Option Addr) (c:Nat),d≤n∧E=.int .i64 d∧Value.slice m (a+1) o=.slice A ((f.take d).flatMap za7).length c∧RowAt Z (fun x=>W4.heap.size≤x) 151 7 (.slice A ((f.take d).flatMap za7).length c) ((f.take d).flatMap za7).length (((f.take d).flatMap za7).flatMap SaleR.cells)∧Below W4 W4 Z:=by
 have B:((f.take (q+1)).flatMap za7).length=a+1:=by rw[D,C,List.length_append,←s];rfl
 have i:=g.size;refine ⟨q+1,m,o,G,F,by rw[B],?_,(g.trans (bR.mono i)).trans (r.below i fun y j e=>by have:=h y e;omega)⟩;rw[B,D,C,List.flatMap_append];refine t.mono fun y _ j=>j.elim id fun j=>?_;rw[j];have:wr.heap.size≤((wr.alloc (.cells #[(),(),l,p,.int .u32 k,(),()] 151)).drew).heap.size:=(((Below.refl wr.heap.size wr).alloc lR _).drew).size
 omega
theorem zpN {W:World} {T:Nat→Part} {j b:Nat} {l:LotS} (hL:za2 W T j b l) (hT:∀x,W.heap.size≤x→T x=.no) (hck:∀s∈l.stands,zas l.put.count s.offers=0) (hct:1≤l.put.count∧l.put.count≤10) (hn:l.stands.length≤32):
  Calls Tryz.prog 274 #[.agg #[],.pointer (some ⟨b,0,none⟩)] W (zhE W T j b l (zdt l)):=by
 obtain ⟨W1,hW1⟩:=nm (W.alloc (.cells #[] 249));have hb1:Below W W W1:=by rw[hW1];exact qA _
 have hs1:W1.heap.size=W.heap.size+1:=by rw[hW1];simp
 have HI:=hid (show zaj l.put.count (zfX l)=0 from zpn hct (by simpa [zfX] using hn) (fun x hx=>by
  obtain ⟨s,J,rfl⟩:=List.mem_map.1 hx;exact hck s J))
 obtain ⟨v,htb,r,hst⟩:=hL;obtain ⟨sA,sc,hsv⟩:=hst.form;subst hsv;obtain ⟨n,hnn⟩:=nm (l.stands.length);rw[←hnn] at hst r;obtain ⟨C,hctq⟩:=nm (l.put.count);obtain ⟨ru,hru⟩:=nm (l.put.rule);have hbk1:=r.grow hb1;have l9:W.cell? ⟨b,9,none⟩=some ↑C:=hctq▸r.cell 9;have l14:W1.cell? ⟨b,14,none⟩=some (.slice sA n sc):=hbk1.cell 14;have lb:=r.lt;have lb1:=hbk1.lt;have HTB:=hid htb;have HBLK:=hid r;have HST:=hid hst;have HTN:=hid hT;have HCT:=hid hctq;have HRU:=hid hru;have HN:=hid hnn;have hnb:n≤32:=by omega
 have HB1:=hid hb1;obtain ⟨U,hU⟩:=nm (W1.alloc (.cells #[C,.slice none 0 0] 368));have hbU:Below W1 W1 U:=by rw[hU];exact qA _
 have HBU:=hid (hb1.trans (hbU.mono hb1.size));have HGU:=hid (show Ac.Blk U (W.heap.size+1) 368 #[C,.slice none 0 0] by rw[hU];exact Ac.Blk.new' _ _ hs1.symm);have HSW:=hid hs1;have l14U:=qc hbU l14 lb1;clear htb r hst hT hctq hru hn hnn hb1 hct hck hbk1 hbU hs1;go_enter Tryz.func274,Tryz.ntmps274
 go_upto_region 2 with fail
 rw[←hW1,←hU];clear hW1 hU l9 l14;go_wp2_with fail
 have e4:(0:Int)≤(n:Int):=by omega
 go_loopw [25] (fun i wr=>∃(k:Nat) (S:Option Addr) (O:Nat) (vs:List Value),k≤n∧i=.int .i64 k∧Ac.Blk wr (W.heap.size+1) 368 #[C,.slice S k O]∧RowAt wr (fun x=>W.heap.size+1<x) 59 1 (.slice S k O) k vs∧(∀q s,q<k→l.stands[q]? =some s→∃u,vs[q]? =some u∧zad W (fun b=>T b=.old) u s.offers)∧Below W W wr) (fun i _=>n-(intOf i).toNat)
 case atStart=>exact ⟨0,none,0,[],zL,rfl,HGU.out,RowAt.nil,fun q s hq=>absurd hq (by omega),HBU.out⟩
 case round=>
  obtain ⟨k,S,O,vs,hk,rfl,B,d,hvs,hb⟩:=hrel;by_cases hlt:k<n
  ·obtain ⟨s,J⟩:∃s,l.stands[k]? =some s:=⟨_,gE (by rw[←HN.out];exact hlt)⟩;obtain ⟨sq,scap,uA,uc,hsv,hsR,hsq,d0',d1',d2',hof⟩:=zaM.at_ HST.out J;injection hsv with hv1 hv2 hv3
   subst hv1 hv3;clear hv2;obtain ⟨sb,Q⟩:=nm (s.bidder);obtain ⟨sh,hsh⟩:=nm (s.held);obtain ⟨un,hun⟩:=nm (s.offers.length);rw[←Q] at d0';rw[←hun] at d1' hof;rw[←hsh] at d2';have d0:=qc hb d0' hsq;have d1:=qc hb d1' hsq;have d2:=qc hb d2' hsq;have g1:wr.cell? ⟨W.heap.size+1,1,none⟩=some (.slice S k O):=B.cell 1;have lg1:=B.lt;have e5:(0:Int)≤(k:Int):=by omega
   have e6:(k:Int)<(n:Int):=by omega
   have hwr:IntKind.i64.wrap ((k:Int)+1)=(k:Int)+1:=iW _ (by omega);have HSZ:=hid hb.size;have HB:=hid hb;have HGI:=hid ((B.alloc (.cells #[sb,.slice uA un uc,sh] 188)).alloc (.cells #[.slice uA un uc] 59));have HRW:=hid ((d.grow ((Below.refl wr.heap.size wr).alloc lR (.cells #[sb,.slice uA un uc,sh] 188))).grow (bR.alloc lR (.cells #[.slice uA un uc] 59)));have HOB:=hid (fun y (e:(Value.slice S k O).ownBlock=some y)=>(show W.heap.size+1<y from d.blk y e));have HVS:=hid hvs;have HOF:=hid hof;have HS:=hid J;have HVL:=hid (show vs.length=k by have:=d.len;omega);have HK:=hid hk;clear d0' d1' d2' hb B d hvs hof J Q hsh hun hsR
   go_wp2_with (at_builtin;go_must (refine zby _ (.tmp 30) (.tmp 33) rfl zke rfl (.slice S k O) k vs rfl HRW.out (.slice (some ⟨wr.heap.size+1,0,none⟩) 1 1) 1 [.slice uA un uc] rfl (Sl.lit1 (Ac.Blk.new' 59 #[.slice uA un uc] (by simp)) rfl) (by simp[Value.oneCell']) (by omega) (by unfold maxLen;omega) ?_);intro z A Z hrZ H;have HGZ:=hid (HGI.out.chg H (fun e=>by have:=HOB.out _ e;omega));have g1:Z.cell? ⟨W.heap.size+1,1,none⟩=some (.slice S k O):=HGZ.out.cell 1;have f1:Z.frozen? ⟨W.heap.size+1,1,none⟩=false:=HGZ.out.frozen 1;have HRZ:=hid hrZ;have HCZ:=hid H;clear hrZ H)
   go_roundw
   case rel=>
    have hrz:=HRZ.out;have hsz:=HSZ.out;have hvl:=HVL.out;refine ⟨k+1,z,A,vs++[.slice uA un uc],by omega,by go_num,HGZ.out.set_ 1 (.slice z (k+1) A),?_,fun q s' hq hs'=>?_,?_⟩
    ·refine (hrz.chgB (Chg.set Z ⟨W.heap.size+1,1,none⟩ _) fun y V e=>?_).mono fun y _ V=>V.elim id fun V=>?_
     ·rcases hrz.blk y V with h|h
      ·have e':y=W.heap.size+1:=e
       omega
      ·have e':y=W.heap.size+1:=e;rw[h] at e'
       simp at e'
       have:=HGI.out.lt
       simp at this
       omega
     ·rw[V]
      simp
      omega
    ·by_cases hq':q<k
     ·obtain ⟨u,hu,ho⟩:=HVS.out q s' hq' hs';exact ⟨u,by rw[List.getElem?_append_left (by omega)];exact hu,ho⟩
     ·obtain rfl:q=k:=by omega
      rw[HS.out] at hs';injection hs' with hs'
      subst hs';exact ⟨_,by rw[List.getElem?_append_right (by omega)];simp[hvl],HOF.out⟩
    ·exact (((HB.out.alloc hsz _).alloc (by simp;omega) _).trans (HCZ.out.below (by simp;omega) fun y V e=>by have:=HOB.out y e;omega)).setCell (p:=⟨W.heap.size+1,1,none⟩) (by simp) _
   case measure=>simp[intOf];omega
  ·obtain rfl:n=k:=by omega
   obtain ⟨L,hbs⟩:=nm (zfX l);have hbn:L.length=n:=by rw[hbs,HN.out];simp[zfX]
   have hbuys:zav wr (fun _=>True) (.slice S n O) L:=by
    refine ⟨vs,by rw[hbn];exact (d.sl).mono fun _ _ _=>trivial,fun q x hq=>?_⟩;rw[hbs] at hq;unfold zfX at hq;rw[List.getElem?_map] at hq;obtain ⟨s,J,rfl⟩:=Option.map_eq_some_iff.1 hq;obtain ⟨u,hu,ho⟩:=hvs q s (by have:=(gS.1 J).1;rw[HN.out];exact this) J;exact ⟨u,hu,(zad.grow ho (bR.trans (hb.mono lR))).mono fun _ _ _=>trivial⟩
   have HBUY:=hid hbuys;have HII:=hid (show zaj C L=0 by rw[hbs,HCT.out];exact HI.out);have HBS:=hid hbs;have HBN:=hid hbn;have HBE:=hid hb;have HGE:=hid B;have g0:wr.cell? ⟨W.heap.size+1,0,none⟩=some ↑C:=B.cell 0;have g1:wr.cell? ⟨W.heap.size+1,1,none⟩=some (.slice S n O):=B.cell 1;have lg:=B.lt;have HRE:=hid d;have HVE:=hid hvs;have HCOS:=hid (show Calls Tryz.prog 277 #[.agg #[C,.slice S n O]] wr fun e w'=>∃A1 c1 A2 c2 wo,e=.returned (.tuple #[.agg #[.slice A1 n c1,(wo:Int),.slice A2 n c2],()])∧Sl w' (fun _=>True) (.slice A1 n c1) n 1 (Vb.ints (zai C L))∧Sl w' (fun _=>True) (.slice A2 n c2) n 1 (Vb.ints (zcP C L))∧Below wr wr w' from by
    refine (zqJ C L _ _ wr HBUY.out HII.out).mono ?_;rintro e w' ⟨A1,c1,A2,c2,rfl,h1,h2,h3⟩;rw[HBN.out] at h1 h2 ⊢;exact ⟨A1,c1,A2,c2,_,rfl,(Sl.of_own h1).any,(Sl.of_own h2).any,h3⟩)
   clear hbuys hbs hbn hb B d hvs;go_wp2_with fail
   refine HCOS.out.mono ?_;rintro e W2 ⟨A1,c1,A2,c2,wo,rfl,F,hpy,hb2⟩;have HCH:=hid F;have HPY:=hid hpy;have HB2:=hid hb2;clear F hpy g0 g1 lg
   go_upto_region 9 with fail
   obtain ⟨W3,hW3⟩:=nm (W2.alloc (.cells #[.slice A1 n c1,(wo:Int),.slice A2 n c2] 370));rw[←hW3];have hb23:Below W2 W2 W3:=by rw[hW3];exact qA _
   have HP3:=hid (show Ac.Blk W3 W2.heap.size 370 #[.slice A1 n c1,(wo:Int),.slice A2 n c2] by rw[hW3];exact Ac.Blk.new _ _ _);have D:=hid (HB2.out.trans (hb23.mono HB2.out.size));have HB3:=hid (HBE.out.trans (D.out.mono HBE.out.size));have HBW:=hid hb23;have I:=HGE.out.grow D.out;have M:=HBLK.out.grow HB3.out;have l10:W3.cell? ⟨b,10,none⟩=some ↑ru:=HRU.out▸M.cell 10;have lb3:=M.lt;have g0:W3.cell? ⟨W.heap.size+1,0,none⟩=some ↑C:=I.cell 0;have g1:W3.cell? ⟨W.heap.size+1,1,none⟩=some (.slice S n O):=I.cell 1;have lg:=I.lt;have HG3:=hid I;have HBL3:=hid M;obtain ⟨pp,hpp⟩:=nm (zhU l);have HPP:=hid hpp;have HPAY:=hid (show Calls Tryz.prog 278 #[.agg #[C,.slice S n O]] W3 fun e w'=>∃Ap cp,e=.returned (.tuple #[.slice Ap n cp,()])∧Sl w' (fun _=>True) (.slice Ap n cp) n 1 (Vb.ints (zaN C L L.length))∧Below W3 W3 w' from by
    refine (znE C L _ _ W3 (HBUY.out.grow D.out) HII.out).mono ?_;rintro e w' ⟨A1,c1,rfl,h1,h3⟩;rw[HBN.out] at h1 ⊢;exact ⟨A1,c1,rfl,(Sl.of_own h1).any,h3⟩)
   clear hW3 hb23 I M hpp
   go_upto_if 49 with fail
   go_cut [10] from 12 to 91 (fun s wx=>∃Ap cp,s=.slice Ap n cp∧Sl wx (fun _=>True) (.slice Ap n cp) n 1 (Vb.ints pp)∧Below W3 W3 wx)
   case first=>
    by_cases h2:ru=2
    ·have d2:(ru==2)=true:=by simpa using h2
     have HPQ:=hid (show pp=zaN C L L.length by rw[HPP.out];unfold zhU;rw[←HRU.out,if_pos h2,←HCT.out,←HBS.out]);clear h2;go_wp2_with fail
     refine HPAY.out.mono ?_;rintro e W4 ⟨Ap,cp,rfl,hsl,m⟩;have HSL:=hid hsl;have g:=hid m;clear hsl m;go_wp2_with fail
     go_meet
     case rel=>exact ⟨Ap,cp,rfl,by rw[HPQ.out];exact HSL.out,g.out⟩
    ·have d2:(ru==2)=false:=by simpa using h2
     have HPQ:=hid (show pp=zcP C L by rw[HPP.out];unfold zhU;rw[←HRU.out,if_neg h2,←HCT.out,←HBS.out]);clear h2;go_wp2_with fail
     go_meet
     case rel=>exact ⟨A2,c2,rfl,by rw[HPQ.out];exact HPY.out.grow HBW.out,bR⟩
   case rest=>
   rename World=>W4;obtain ⟨Ap,cp,rfl,hsl,m⟩:=hcut;have HSL:=hid hsl;have g:=hid (HB3.out.trans (m.mono HB3.out.size));have HBR4:=hid (D.out.trans (m.mono D.out.size));have hp4:=HP3.out.grow m;have p0:W4.cell? ⟨W2,0,none⟩=some (.slice A1 n c1):=hp4.cell 0;have lp:=hp4.lt;have HG4:=hid (HG3.out.grow m);have X:=hid (HBL3.out.grow m);have HCH4:=hid ((HCH.out.grow HBW.out).grow m);obtain ⟨ch,F⟩:=nm (zai C L);rw[←F] at HCH4;have HCL:=hid (show ch.length=n by rw[F,zoL,HBN.out]);have HCQ:=hid F;have HPL:=hid (show pp.length=n by have:=HSL.out.1;simpa [Vb.ints] using this);obtain ⟨zz,hzz⟩:=nm (zgb l);have HZZ:=hid (show zz=l.stands.zip (ch.zip pp) by rw[hzz];unfold zgb;rw[F,←HCT.out,←HBS.out,HPP.out]);have HZS:=hid (show zdt l=zz.flatMap za7 by rw[hzz];rfl);have HRE4:=hid (HRE.out.grow HBR4.out);clear hsl m hp4 l10 lb3 g0 g1 lg F hzz;go_wp2_with fail
   go_loopw [11,58] (fun t i wq=>∃(q:Nat) (z:Option Addr) (A:Nat),q≤n∧i=.int .i64 q∧t=.slice z ((zz.take q).flatMap za7).length A∧RowAt wq (fun x=>W4.heap.size≤x) 151 7 (.slice z ((zz.take q).flatMap za7).length A) ((zz.take q).flatMap za7).length (((zz.take q).flatMap za7).flatMap SaleR.cells)∧Below W4 W4 wq) (fun _ i _=>n-(intOf i).toNat)
   case atStart=>exact ⟨0,none,0,zL,rfl,rfl,RowAt.nil,bR⟩
   case round=>
    obtain ⟨q,z,A,hq,rfl,rfl,d,f⟩:=hrel;obtain ⟨sq0,N⟩:=nm ((zz.take q).flatMap za7);rw[←N] at d ⊢;obtain ⟨R,hls⟩:=nm (sq0.length);rw[←hls] at d ⊢;have HLS:=hid (show R≤4096 by
     rw[hls,N];have h1:=zkn (zz.take q);have h2:=List.length_take_le q zz
     omega)
    have HS0:=hid N;have E:=hid hls;have HRQ:=hid d;have Y:=hid f;have hsz9:=f.size;clear N hls;by_cases hlq:q<n
    ·obtain ⟨s,J⟩:∃s,l.stands[q]? =some s:=⟨_,gE (by rw[←HN.out];exact hlq)⟩;obtain ⟨c,hc⟩:∃c,ch[q]? =some c:=⟨_,gE (by rw[HCL.out];exact hlq)⟩;obtain ⟨p,hp⟩:∃p,pp[q]? =some p:=⟨_,gE (by rw[HPL.out];exact hlq)⟩;have HZT:=hid (show (zz.take (q+1)).flatMap za7=sq0++za7 (s,c,p) by
      have h1:zz[q]? =some (s,c,p):=by
       rw[HZZ.out,List.getElem?_zip_eq_some];exact ⟨J,by rw[List.getElem?_zip_eq_some];exact ⟨hc,hp⟩⟩
      rw[za4 h1,List.flatMap_append,←HS0.out]
      simp)
     obtain ⟨cb,co,x,hA1,lcb,hx,hcc⟩:=Sl.int_at HCH4.out hlq;subst hA1;obtain rfl:x=c:=by
      rw[hc] at hx;injection hx with hx
      exact hx.symm
     have w0:=qc f hcc lcb;have lw0:cb<wr.heap.size:=by omega
     have e7:(0:Int)≤(q:Int):=by omega
     have e8:(q:Int)<(n:Int):=by omega
     have hwq:IntKind.i64.wrap ((q:Int)+1)=(q:Int)+1:=iW _ (by omega);by_cases hx0:0≤x
     ·have dx:decide (x ≥ 0)=true:=decide_eq_true hx0;have hcg:=hc;rw[HCQ.out] at hcg
      rcases zeC L (allOf C) q x hcg with e|⟨jn,l',o,hj,hl',ho⟩
      ·omega
      rw[HBS.out] at hl';unfold zfX at hl';rw[List.getElem?_map,J] at hl';injection hl' with hl'
      subst hl';have hun:=(gS.1 ho).1;obtain ⟨u,hu,huo⟩:=HVE.out q s hlq J;obtain ⟨⟨_,uA,uc,rfl,_⟩,_⟩:=id huo;obtain ⟨ub,uo,rfl,lub,o0,_⟩:=zgB huo.1 ho hun;obtain ⟨gb,gc,hg,_,lgb,_⟩:=HRE4.out.ex (by omega);injection hg with hg1 hg2 I
      subst hg1 I;clear hg2;have v1:W4.cell? ⟨gb,q,none⟩=some (.slice (some ⟨ub,uo,none⟩) s.offers.length uc):=(HRE4.out.own.cellAt q (by omega)).trans hu;obtain ⟨pb,po,y,hAp,lpb,V,hpc⟩:=Sl.int_at HSL.out hlq;subst hAp;have hyp:p=y:=by
       rw[hp] at V;injection V with V
      subst hyp;obtain ⟨sq,scap,_,_,hsv,hsR,hsq,d0,_,_,_⟩:=zaM.at_ HST.out J;injection hsv with hv1 hv2 hv3
      subst hv1 hv3;clear hv2;obtain ⟨sb,Q⟩:=nm (s.bidder);rw[←Q] at d0;obtain ⟨un,hunn⟩:=nm (s.offers.length);rw[←hunn] at v1 hun;obtain ⟨og,oc⟩:=o;simp only at o0;have HRO:=hid (show za7 (s,x,p)=[⟨0,0,sb,p,og,0,0⟩] by
       unfold za7;rw[if_pos hx0];have h1:x.toNat=jn:=by omega
       simp only;rw[h1,ho,Q]
       rfl)
      have hszW:=g.out.size;have lbW:=X.out.lt;have lg4:=HG4.out.lt;have G:∀y,(Value.slice z R A).ownBlock=some y→W4.heap.size≤y:=fun y e=>HRQ.out.blk y e;have b14:wr.cell? ⟨b,14,none⟩=some (.slice (some ⟨sq,0,none⟩) n sc):=(X.out.grow f).cell 14;have g1:wr.cell? ⟨W.heap.size+1,1,none⟩=some (.slice (some ⟨gb,0,none⟩) n O):=(HG4.out.grow f).cell 1;have d0w:=qc f ((g.out.cell (p:=⟨sq,q*3,none⟩) hsq).trans d0) (by show sq<_;omega);have v1w:=qc f v1 lgb;have pw:=qc f hpc lpb;have o0w:=qc f ((g.out.cell (p:=⟨ub,uo+jn*2,none⟩) lub).trans o0) (by show ub<_;omega);have n1:b<wr.heap.size∧¬(Value.slice z R A).ownBlock=some b:=⟨by omega,fun e=>by have:=G _ e;omega⟩;have n2:W.heap.size+1<wr.heap.size∧¬(Value.slice z R A).ownBlock=some (W.heap.size+1):=⟨by omega,fun e=>by have:=G _ e;omega⟩;have n3:sq<wr.heap.size∧¬(Value.slice z R A).ownBlock=some sq:=⟨by omega,fun e=>by have:=G _ e;omega⟩;have n4:gb<wr.heap.size∧¬(Value.slice z R A).ownBlock=some gb:=⟨by omega,fun e=>by have:=G _ e;omega⟩;have n5:pb<wr.heap.size∧¬(Value.slice z R A).ownBlock=some pb:=⟨by omega,fun e=>by have:=G _ e;omega⟩;have n6:ub<wr.heap.size∧¬(Value.slice z R A).ownBlock=some ub:=⟨by omega,fun e=>by have:=G _ e;omega⟩;subst hj;have e9:(0:Int)≤(jn:Int):=by omega
      have e10:(jn:Int)<(un:Int):=by omega
      have HRS:=hid (HRQ.out.grow (((Below.refl wr.heap.size wr).alloc lR (.cells #[(),(),sb,(p:Int),.int .u32 og,(),()] 151)).drew));have HOWN:=hid G;have HN6:=hid n6;clear d f J hc hp hx hcg ho hu huo o0 V hpc d0 v1 Q hunn hsR G hcc hx0;go_wp2_with fail
      refine zac (Chg (fun y=>(Value.slice z R A).ownBlock=some y) wr) [] (by kernel_rfl) ((Chg.refl _ wr).grow bR.drew) (fun a=>?_);refine tp 0 a ?_;refine tp 1 a ?_;refine tp 2 a ?_;refine tp 3 a ?_;have qq:=hid fun (w':World) (P:(Chg (fun y=>(Value.slice z R A).ownBlock=some y) wr) w')=>And.intro (cg P b14 n1.1 n1.2)<|And.intro (cg P d0w n3.1 n3.2)<|And.intro (cg P g1 n2.1 n2.2)<|And.intro (cg P v1w n4.1 n4.2)<|And.intro (cg P pw n5.1 n5.2)<|cg P o0w n6.1 n6.2;refine tl 4 a qq ?_;refine tp 5 a ?_;refine tp 6 a ?_;refine tp 7 a ?_;refine tl 8 a qq ?_;refine tp 9 a ?_;refine tp 10 a ?_;refine tp 11 a ?_;refine tl 12 a qq ?_;refine tp 13 a ?_;refine tl 14 a qq ?_;refine tp 15 a ?_;refine tp 16 a ?_;refine tl 17 a qq ?_;refine tp 18 a ?_;refine tp 19 a ?_;refine tp 20 a ?_;refine tl 21 a qq ?_;refine tp 22 a ?_;refine stp 23 fun K hK=>?_;go_simp;refine hK.out _ _ ?_ (fun a=>?_)
      ·exact a.grow (qA _)
      clear hK K
      try simp only[Act.put,pb,pz,ps]
      refine stp 24 fun K hK=>?_;refine zbR ((wr.alloc (.cells #[(),(),sb,(p:Int),.int .u32 og,(),()] 151)).drew) (.tmp 65) (.tmp 88) rfl zfb rfl (.slice z R A) R (sq0.flatMap SaleR.cells) rfl HRS.out (.slice (some ⟨wr,0,none⟩) 1 1) 1 [.int .i64 0,.int .i64 0,.int .i64 sb,.int .i64 p,.int .u32 og,.int .i64 0,.int .i64 0] rfl (Sl.lit1 (Ac.Blk.new wr 151 #[(),(),sb,(p:Int),.int .u32 og,(),()]) rfl) (by simp[Value.oneCell']) (by have:=HLS.out;omega) (by have:=HLS.out;unfold maxLen;omega) ?_;intro A4 c4 Z hrZ H;refine hK.out _ _ ?_ (fun a=>?_)
      ·exact a.step H fun _ _ h=>h
      clear hK K
      try simp only[Act.put,pb,pz,ps]
      have HRZ:=hid hrZ;have HCZ:=hid (show Chg (fun y=>(Value.slice z R A).ownBlock=some y) wr Z from (((Chg.refl _ wr).grow (qA _)).grow bR.drew).trans H);clear hrZ H;refine tp 25 a ?_;refine zaa (by kernel_rfl) ?_ _;clear a;go_wp2_with fail
      go_roundw
      case rel=>exact zpL HZT.out HRO.out E.out Y.out HRZ.out HCZ.out HOWN.out (by omega) (by go_num)
      case measure=>simp[intOf];omega
     ·have dx:decide (x ≥ 0)=false:=decide_eq_false hx0;have HRO:=hid (show za7 (s,x,p)=[] by unfold za7;rw[if_neg hx0]);clear d f J hc hp hx hcc hx0;go_wp2_with fail
      go_roundw
      case rel=>
       refine ⟨q+1,z,A,by omega,by go_num,?_,?_,Y.out⟩
       ·rw[HZT.out,HRO.out,List.append_nil,←E.out]
       ·rw[HZT.out,HRO.out,List.append_nil,←E.out];exact HRQ.out
      case measure=>simp[intOf];omega
    ·obtain rfl:q=n:=by omega
     have hfin:sq0=zdt l:=by
      rw[HS0.out,HZS.out,List.take_of_length_le (by rw[HZZ.out,List.length_zip];have:=HN.out;omega)]
     have HFIN:=hid hfin;clear d f hfin;go_wp2_with fail
     go_ret;refine ⟨z,A,?_,?_,⟨.slice sA q sc,HTB.out,?_,HST.out.step (Chg.of (fun _=>False) (g.out.trans (Y.out.mono g.out.size))) (fun _ _=>id) (fun _ _=>rfl)⟩,Chg.of _ (g.out.trans (Y.out.mono g.out.size))⟩
     ·rw[←HFIN.out,←E.out];rfl
     ·rw[←HFIN.out,←E.out];exact HRQ.out.sl.mono fun y _ V=>by have:=g.out.size;omega
     ·exact X.out.grow Y.out
theorem zl2 {a:Acc} (h:a.Ok) (x:Int):a.mostH x≤1099511627776:=by
 have c:=h.bud;have d:=h.sp;have e:=zgd x h.rise;have f:=HOk.nn (M:=zcl a.M x) ⟨zgG x h.rise,fun p b=>h.each p ((List.mem_filter.1 b).1),by
  have:=zco (l:=a.M) fun p b=>by have:=(h.each p b).2.2;omega
  have g:0≤atM a.M x:=by
   unfold atM
   split
   ·rename_i p b
    have:=(h.each p (List.mem_of_find?_eq_some b)).2.2
    omega
   ·omega
  have:=h.sum
  omega⟩
 unfold zah at c d;unfold Acc.mostH Acc.free
 omega
def zep (a:Acc) (l:LotS) (j:Int) (os:List Off):Int:=
 if l.put.count<os.length then 2 else if zcj os=false then 2 else if zcB l.put.count l.put.floor (zaD os)≠0 then zcB l.put.count l.put.floor (zaD os) else zci a j (zaB (zaD os))
theorem zde (os:List Off):(zaD os).length=os.length:=by simp[zaD]
theorem zfS {a:Acc} {l:LotS} {j:Int} {os:List Off} (h:zep a l j os=0):¬l.put.count<os.length∧zcj os=true∧zcB l.put.count l.put.floor (zaD os)=0∧zaB (zaD os)≤a.mostH j:=by
 unfold zep at h
 split at h
 ·cases h
 ·split at h
  ·cases h
  ·split at h
   ·rename_i b;exact absurd h b
   ·rename_i c d b
    refine ⟨c,by simpa using d,by simpa using b,?_⟩;unfold zci at h
    split at h
    ·cases h
    ·omega
theorem zr8 {W:World} {T:Nat→Part} {h pn pc K:Nat} {va vl vb vs:Value} {H:House} {bl ba ma:Nat→Nat} {i j:Nat} {a:Acc} {l:LotS} (J:AtIt W T h pn pc va vl vb vs K H bl ba ma i j a l) (o:OrderR) (hoi:o.bidder=i) (hoj:o.lot=j) {A:Option Addr} {c:Nat} {R:Nat→Prop} (hO:zad W R (.slice A o.offers.length c) o.offers) (hR:∀b,R b→T b=.no) (hok:a.Ok) (hjm:j≤4096) (V:l.put.count≤64) (he:zep a l j o.offers≠0):
  Calls Tryz.prog 256 #[.agg #[],.pointer (some ⟨h,0,none⟩),.pointer (some ⟨bl j,0,none⟩),.pointer (some ⟨ba i,0,none⟩),o.agg (.slice A o.offers.length c)] W fun e W'=>e=.returned (.tuple #[(),(zep a l j o.offers:Int)])∧Below W W W':=by
 obtain ⟨p,z⟩:=nm ((W.alloc (.cells #[] 248)).alloc (.cells (o.cells (.slice A o.offers.length c)).toArray 61));have s:Below W W p:=by rw[z];exact (qA _).alloc (by simp) _
 have hx:Ac.Blk p (W.heap.size+1) 61 (o.cells (.slice A o.offers.length c)).toArray:=by rw[z];exact Ac.Blk.new' _ _ (by simp)
 obtain ⟨v,htb,r,_⟩:=J.lots j l J.lot;have l7:W.cell? ⟨bl j,7,none⟩=some ↑l.put.floor:=r.cell 7;have l9:W.cell? ⟨bl j,9,none⟩=some ↑l.put.count:=r.cell 9;have lb:=r.lt;obtain ⟨fl,Y⟩:=nm (l.put.floor);obtain ⟨G,X⟩:=nm (l.put.count);rw[←Y] at l7;rw[←X] at l9 V;have HAT:=hid J;have D:=hid s;have HRN:=hid hR;have HOK:=hid hok;have HJM:=hid hjm;have HOI:=hid hoi;have HOJ:=hid hoj;have HO1:=hid (zad.grow hO s);obtain ⟨oo,hoo⟩:=nm (o);have E:=hid hoo;obtain ⟨okind,oname,M,C,olot,⟨kind,opens,F,start,step,I,last,S,fall,count,rule⟩,d,otick⟩:=o;simp only at hO;simp only[OrderR.agg,OrderR.cells,LotR.cells,List.cons_append,List.nil_append] at z hx ⊢;have N:p.cell? ⟨W.heap.size+1,16,none⟩=some (.slice A d.length c):=hx.cell 16;have l71:p.cell? ⟨bl j,7,none⟩=some ↑fl:=qc s l7 lb;have L:p.cell? ⟨bl j,9,none⟩=some ↑G:=qc s l9 lb;have t:bl j<p.heap.size:=lL lb s.size;have xl:=hx.lt;have HX1:=hid hx;clear J s hR hok hjm hoi hoj hO htb r hx l7 l9 lb hoo;obtain ⟨er,f⟩:=nm (zep a l j d);rw[←f] at he ⊢;have HE:=hid he;unfold zep at f;rw[←Y,←X] at f;have HCM:=hid V;clear he Y X V;obtain ⟨n,hnn⟩:=nm (d.length);have HNN:=hid hnn;go_enter Tryz.func256,Tryz.ntmps256;go_wp2_with fail
 rw[←z];clear z hnn;by_cases hc1:G<(d.length:Int)
 ·have HR:=hid (f.trans (if_pos hc1));clear f;have d1:decide ((d.length:Int)>G)=true:=decide_eq_true hc1;refine zac (Below p p) [] (by kernel_rfl) (bR.drew) (fun g=>?_);refine tp 0 g ?_;have O:=hid fun (w':World) (q:(Below p p) w')=>And.intro (qc q N xl)<|qc q L t;refine tl 1 g O ?_;refine tp 2 g ?_;refine tp 3 g ?_;refine tp 4 g ?_;refine tp 5 g ?_;refine tp 6 g ?_;refine tl 7 g O ?_;refine tp 8 g ?_;refine zaa (by kernel_rfl) ?_ _;clear g;go_wp2_with fail
  go_ret2
  exact ⟨by rw[HR.out];rfl,D.out.drew⟩
 ·rw[if_neg hc1] at f;have d1:decide ((d.length:Int)>G)=false:=decide_eq_false hc1;have HLN:=hid (show d.length≤64 by have:=HCM.out;omega);have HR:=hid f;clear f;refine zac (Below p p) [] (by kernel_rfl) (bR.drew) (fun g=>?_);refine tp 0 g ?_;have O:=hid fun (w':World) (q:(Below p p) w')=>And.intro (qc q N xl)<|qc q L t;refine tl 1 g O ?_;refine tp 2 g ?_;refine tp 3 g ?_;refine tp 4 g ?_;refine tp 5 g ?_;refine tp 6 g ?_;refine tl 7 g O ?_;refine tp 8 g ?_;refine zaa (by kernel_rfl) ?_ _;have HBQ:=hid (D.out.drew);have x16q:p.drew.cell? ⟨W.heap.size+1,16,none⟩=some (.slice A d.length c):=N;clear g N;go_wp2_with fail
  refine (zgx (zad.grow HO1.out bR.drew) HLN.out).mono ?_;rintro e y ⟨hb2,hor⟩;have m:Below p p y:=bR.drew.trans (hb2.mono lR);have l72:y.cell? ⟨bl j,7,none⟩=some ↑fl:=qc m l71 t;have l92:y.cell? ⟨bl j,9,none⟩=some ↑G:=qc m L t;have lb2:bl j<y.heap.size:=lL t m.size;have HX2:=hid (HX1.out.grow m);have x:=hid (D.out.trans (m.mono D.out.size));have HO2:=hid (zad.grow HO1.out m);clear hb2 m l71 L t x16q xl;have f:=HR.out
  rcases hor with ⟨hw,rfl⟩|⟨hw,A2,c2,rfl,hrow⟩
  ·have Q:=hid (f.trans (if_pos hw));clear f hw;go_wp2_with fail
   go_ret2
   exact ⟨by rw[Q.out];rfl,x.out⟩
  ·rw[if_neg (by rw[hw];decide)] at f;obtain ⟨ue,ac⟩:=nm (zcB G fl (zaD d));have aa:=hrow.sl;rw[←zde d] at aa;have P:=hid (fun (w:World)=>zeW G fl (W:=w) (b:=zaD d) (A:=A2) (c:=c2) (R:=fun _=>True));rw[←ac] at f;have HSL:=hid aa;have HUE:=hid ac;have Q:=hid f;have HWL:=hid (zde d);clear f hw hrow aa ac P;obtain ⟨si,Z⟩:=nm (zaB (zaD d));have HSI:=hid Z;rw[←Z];clear Z;have P:=hid (show ∀w,Below y y w→Calls Tryz.prog 261 #[G,fl,.slice A2 d.length c2] w fun e W'=>e=.returned ↑ue∧W'=w from fun w hw=>by
    have U:=zeW G fl (HSL.out.grow hw) (by rw[HWL.out];have:=HLN.out;omega);rw[HWL.out,←HUE.out] at U;exact U)
   go_wp2_with fail
   refine zac (Below y y) [] (by kernel_rfl) (bR.drew) (fun g=>?_);refine tp 0 g ?_;refine tp 1 g ?_;refine tp 2 g ?_;refine tp 3 g ?_;have O:=hid fun (w':World) (q:(Below y y) w')=>And.intro (qc q l72 lb2)<|qc q l92 lb2;refine tl 4 g O ?_;refine tp 5 g ?_;refine tp 6 g ?_;refine tp 7 g ?_;refine tp 8 g ?_;refine tl 9 g O ?_;refine tp 10 g ?_;refine stp 11 fun K hK=>?_;go_simp;refine (P.out y.drew g).mono ?_;rintro e W3 ⟨rfl,rfl⟩;refine hK.out _ _ ?_ (fun g=>?_)
   ·exact g
   clear hK K
   try simp only[Act.put,pb,pz,ps]
   refine tp 12 g ?_;refine zaa (by kernel_rfl) ?_ _;clear g;have f:=Q.out;by_cases hz:ue=0
   ·rw[if_neg (by simpa using hz)] at f;have ab:a.mostH j<si:=by
     have U:=HE.out;rw[f,←HSI.out] at U;unfold zci at U
     split at U
     ·assumption
     ·exact absurd rfl U
    have h8:er=8:=by rw[f,←HSI.out];unfold zci;rw[if_pos ab]
    subst h8;subst hz;have HST:=hid ab;clear f ab
    go_wp2_with (refine wpList_load_row rfl 61 (.tmp 9) rfl (W.heap.size+1) rfl 61 #[okind,.string oname,M,C,olot,kind,opens,F,start,step,I,last,S,fall,count,rule,.slice A d.length c,otick] (0,0) _ HX2.out Tryz.underlying61 rfl (by kernel_rfl) ?_)
    have k:=HAT.out.grow (x.out.drew);have B:=zgw k.house k.lrow k.lots k.arow k.accs k.acc k.lot oo (by rw[E.out];exact HOI.out) (by rw[E.out];exact HOJ.out) (vo:=.slice A d.length c) (by rw[E.out];exact zad.grow HO2.out bR.drew) HRN.out HOK.out HJM.out HST.out;rw[E.out] at B;refine B.mono ?_;clear B k;rintro e W3 ⟨rfl,hb3⟩;have HB3:=hid (x.out.drew.trans (hb3.mono x.out.drew.size));clear hb3;go_wp2_with fail
    go_ret2
    exact ⟨rfl,HB3.out⟩
   ·rw[if_pos hz] at f;have HR3:=hid f;have hue0:(ue==0)=false:=by simpa using hz
    clear f;go_wp2_with fail
    go_ret2
    exact ⟨by rw[HR3.out];rfl,x.out.drew⟩
theorem ztm {W:World} {T:Nat→Part} {h pn pc K:Nat} {va vl vb vs:Value} {H:House} {bl ba ma:Nat→Nat} {i j:Nat} {a:Acc} {l:LotS} (D:AtIt W T h pn pc va vl vb vs K H bl ba ma i j a l) (o:OrderR) (hoi:o.bidder=i) (hoj:o.lot=j) {A:Option Addr} {c:Nat} {R:Nat→Prop} (hO:zad W R (.slice A o.offers.length c) o.offers) (hR:∀b,R b→T b=.no) (N:a.Ok) (hjm:j≤4096) (hcm:l.put.count≤64) (he:zep a l j o.offers=0) (hK:K<maxLen) (hsm:l.stands.length≤1000000):
  Calls Tryz.prog 256 #[.agg #[],.pointer (some ⟨h,0,none⟩),.pointer (some ⟨bl j,0,none⟩),.pointer (some ⟨ba i,0,none⟩),o.agg (.slice A o.offers.length c)] W fun e W'=>e=.returned (.tuple #[(),()])∧∃T',zaf W' T' h (K+1) (zhw H i j a l ⟨i,o.offers,zaB (zaD o.offers)⟩)∧Moves W T W' T':=by
 obtain ⟨n,t⟩:=nm ((W.alloc (.cells #[] 248)).alloc (.cells (o.cells (.slice A o.offers.length c)).toArray 61));have p:Below W W n:=by rw[t];exact (qA _).alloc (by simp) _
 have hx:Ac.Blk n (W.heap.size+1) 61 (o.cells (.slice A o.offers.length c)).toArray:=by rw[t];exact Ac.Blk.new' _ _ (by simp)
 obtain ⟨v,htb,m,_⟩:=D.lots j l D.lot;have l7:W.cell? ⟨bl j,7,none⟩=some ↑l.put.floor:=m.cell 7;have l9:W.cell? ⟨bl j,9,none⟩=some ↑l.put.count:=m.cell 9;have lb:=m.lt;obtain ⟨fl,M⟩:=nm (l.put.floor);obtain ⟨ct,L⟩:=nm (l.put.count);rw[←M] at l7;rw[←L] at l9 hcm;have HAT:=hid D;have G:=hid p;have HRN:=hid hR;have HOK:=hid N;have HJM:=hid hjm;have HOI:=hid hoi;have HOJ:=hid hoj;have HO1:=hid (zad.grow hO p);obtain ⟨oo,hoo⟩:=nm (o);have q:=hid hoo;obtain ⟨S,U,E,z,olot,⟨kind,V,B,Y,step,C,last,J,fall,count,rule⟩,d,X⟩:=o;simp only at hO;simp only[OrderR.agg,OrderR.cells,LotR.cells,List.cons_append,List.nil_append] at t hx ⊢;have Z:n.cell? ⟨W.heap.size+1,16,none⟩=some (.slice A d.length c):=hx.cell 16;have l71:n.cell? ⟨bl j,7,none⟩=some ↑fl:=qc p l7 lb;have Q:n.cell? ⟨bl j,9,none⟩=some ↑ct:=qc p l9 lb;have y:bl j<n.heap.size:=lL lb p.size;have xl:=hx.lt;have HX1:=hid hx;obtain ⟨k1,k2,k3,k4⟩:=zfS he;simp only at k1 k2 k3 k4;rw[←L] at k1 k3;rw[←M] at k3;have HU3:=hid k3;have HST:=hid k4;have HKM:=hid hK;have HSM:=hid hsm;have F:d.length≤64:=by omega
 have I:=hid F;have HSC:=hid (show zah (zaB (zaD d)) by
  have h1:=zc4 k3;have h2:=zjZ h1.coins;have h6:=zl2 N j;unfold zah
  omega)
 have HW2:=hid k2;have d1:decide ((d.length:Int)>ct)=false:=decide_eq_false k1;clear D p hR N hjm hoi hoj hO htb m hx l7 l9 lb hoo he M L hcm hK hsm k1 k2 k3 k4 F;go_enter Tryz.func256,Tryz.ntmps256;go_wp2_with fail
 rw[←t];clear t;refine zac (Below n n) [] (by kernel_rfl) (bR.drew) (fun f=>?_);refine tp 0 f ?_;have qq:=hid fun (w':World) (s:(Below n n) w')=>And.intro (qc s Z xl)<|qc s Q y;refine tl 1 f qq ?_;refine tp 2 f ?_;refine tp 3 f ?_;refine tp 4 f ?_;refine tp 5 f ?_;refine tp 6 f ?_;refine tl 7 f qq ?_;refine tp 8 f ?_;refine zaa (by kernel_rfl) ?_ _;have HBQ:=hid (G.out.drew);have x16q:n.drew.cell? ⟨W.heap.size+1,16,none⟩=some (.slice A d.length c):=Z;clear f Z;go_wp2_with fail
 refine (zgx (zad.grow HO1.out bR.drew) I.out).mono ?_;rintro e r ⟨hb2,hor⟩;have k:Below n n r:=bR.drew.trans (hb2.mono lR);have l72:r.cell? ⟨bl j,7,none⟩=some ↑fl:=qc k l71 y;have l92:r.cell? ⟨bl j,9,none⟩=some ↑ct:=qc k Q y;have lb2:bl j<r.heap.size:=lL y k.size;have HX2:=hid (HX1.out.grow k);have HB2:=hid (G.out.trans (k.mono G.out.size));have HO2:=hid (zad.grow HO1.out k);clear hb2 k l71 Q y x16q xl
 rcases hor with ⟨hw,rfl⟩|⟨hw,A2,c2,rfl,hrow⟩
 ·have:=HW2.out;rw[hw] at this
  cases this
 ·have P:=hrow.sl;rw[←zde d] at P;have HSL:=hid P;have HWL:=hid (zde d);clear hw hrow P;obtain ⟨si,O⟩:=nm (zaB (zaD d));have HSI:=hid O;rw[←O];clear O;have HCK:=hid (show ∀w,Below r r w→Calls Tryz.prog 261 #[ct,fl,.slice A2 d.length c2] w fun e W'=>e=.returned ↑()∧W'=w from fun w hw=>by
   have h1:=zeW ct fl (HSL.out.grow hw) (by rw[HWL.out];have:=I.out;omega);rw[HWL.out,HU3.out] at h1;exact h1)
  go_wp2_with fail
  refine zac (Below r r) [] (by kernel_rfl) (bR.drew) (fun f=>?_);refine tp 0 f ?_;refine tp 1 f ?_;refine tp 2 f ?_;refine tp 3 f ?_;have qq:=hid fun (w':World) (s:(Below r r) w')=>And.intro (qc s l72 lb2)<|qc s l92 lb2;refine tl 4 f qq ?_;refine tp 5 f ?_;refine tp 6 f ?_;refine tp 7 f ?_;refine tp 8 f ?_;refine tl 9 f qq ?_;refine tp 10 f ?_;refine stp 11 fun K hK=>?_;go_simp;refine (HCK.out r.drew f).mono ?_;rintro e W3 ⟨rfl,rfl⟩;refine hK.out _ _ ?_ (fun f=>?_)
  ·exact f
  clear hK K
  try simp only[Act.put,pb,pz,ps]
  refine tp 12 f ?_;refine zaa (by kernel_rfl) ?_ _;clear f
  go_wp2_with (refine wpList_load_row rfl 61 (.tmp 9) rfl (W.heap.size+1) rfl 61 #[S,.string U,E,z,olot,kind,V,B,Y,step,C,last,J,fall,count,rule,.slice A d.length c,X] (0,0) _ HX2.out Tryz.underlying61 rfl (by kernel_rfl) ?_)
  have g:=HAT.out.grow (HB2.out.drew);have x:=zhd g.house g.lrow g.lots g.arow g.accs g.acc g.lot oo (by rw[q.out];exact HOI.out) (by rw[q.out];exact HOJ.out) (vo:=.slice A d.length c) (by rw[q.out];exact zad.grow HO2.out bR.drew) HRN.out HOK.out HJM.out HST.out HSC.out HKM.out HSM.out (by rw[q.out];have:=I.out;show d.length≤1099511627776;omega);rw[q.out,←HSI.out] at x;refine x.mono ?_;clear x g;rintro e W3 ⟨rfl,T',hH3,hM3⟩;have HH3:=hid hH3;have HM3:=hid ((HouseAt.moves (T:=T) HB2.out.drew).trans hM3);clear hH3 hM3;go_wp2_with fail
  go_ret2
  refine ⟨rfl,T',?_,HM3.out⟩;rw[←HSI.out];exact HH3.out
theorem zdV (a:Int) (w:World):Calls Tryz.prog 188 #[a] w fun e w'=>e=.returned ↑false∧w'=w:=by
 go_enter Tryz.func188,Tryz.ntmps188;go_wp2_with fail
 go_ret
 simp
theorem zlA (a b:Int) (w:World):Calls Tryz.prog 269 #[a,b] w fun e w'=>e=.returned ↑(zb5 a b:Int)∧w'=w:=by
 obtain ⟨c,h⟩:=nm (zb5 a b);rw[←h];have g:=hid h;clear h;by_cases h1:a<b
 ·have d:=hid (show c=-1 from g.out.trans (if_pos h1));go_enter Tryz.func269,Tryz.ntmps269;go_wp2_with fail
  refine (zdV a _).mono ?_;rintro e f ⟨rfl,rfl⟩;go_wp2_with fail
  refine (zdV b _).mono ?_;rintro e f ⟨rfl,rfl⟩;go_wp2_with fail
  go_ret;exact ⟨by rw[d.out];rfl,rfl⟩
 ·by_cases h2:b<a
  ·have d:=hid (show c=1 from g.out.trans ((if_neg h1).trans (if_pos h2)));go_enter Tryz.func269,Tryz.ntmps269;go_wp2_with fail
   refine (zdV a _).mono ?_;rintro e f ⟨rfl,rfl⟩;go_wp2_with fail
   refine (zdV b _).mono ?_;rintro e f ⟨rfl,rfl⟩;go_wp2_with fail
   go_ret;exact ⟨by rw[d.out];rfl,rfl⟩
  ·have d:=hid (show c=0 from g.out.trans ((if_neg h1).trans (if_neg h2)));go_enter Tryz.func269,Tryz.ntmps269;go_wp2_with fail
   refine (zdV a _).mono ?_;rintro e f ⟨rfl,rfl⟩;go_wp2_with fail
   refine (zdV b _).mono ?_;rintro e f ⟨rfl,rfl⟩;go_wp2_with fail
   go_ret;exact ⟨by rw[d.out];rfl,rfl⟩
theorem zs2 {g:Nat} {x y z:Int} {w:World} (h:Ac.Blk w g 3 #[x,y,z]):Calls Tryz.prog 133 #[.slice (some ⟨g,0,none⟩) 3 3] w fun e w'=>e=.returned ↑(zjC x y z:Int)∧w'=w:=by
 have a:w.cell? ⟨g,0,none⟩=some ↑x:=h.cell 0;have b:w.cell? ⟨g,1,none⟩=some ↑y:=h.cell 1;have c:w.cell? ⟨g,2,none⟩=some ↑z:=h.cell 2;unfold zjC;clear h;by_cases h1:x=0
 ·subst h1;rw[if_pos rfl];by_cases h2:y=0
  ·subst h2;rw[if_pos rfl];by_cases h3:z=0
   ·subst h3;go_enter Tryz.func133,Tryz.ntmps133;go_wp2_with fail
    go_rounds 4
    go_ret;exact ⟨rfl,rfl⟩
   ·go_enter Tryz.func133,Tryz.ntmps133;go_wp2_with fail
    go_rounds 4
    go_ret;exact ⟨rfl,rfl⟩
  ·rw[if_neg h2];go_enter Tryz.func133,Tryz.ntmps133;go_wp2_with fail
   go_rounds 4
   go_ret;exact ⟨rfl,rfl⟩
 ·rw[if_neg h1];go_enter Tryz.func133,Tryz.ntmps133;go_wp2_with fail
  go_rounds 4
  go_ret;exact ⟨rfl,rfl⟩
abbrev UnitR.agg (u:UnitR):Value:=.agg #[.int .i64 u.bid,.int .i64 u.place,.int .i64 u.coins]
theorem znu (a b:UnitR) (w:World):Calls Tryz.prog 268 #[a.agg,b.agg] w fun e w'=>e=.returned ↑(ltU a b:Bool)∧Below w w w':=by
 obtain ⟨D,k⟩:=nm (zb5 a.coins b.coins);obtain ⟨M,l⟩:=nm (zb5 a.bid b.bid);obtain ⟨N,m⟩:=nm (zb5 a.place b.place);have n:=zs3 a b;rw[←k,←l,←m] at n;have O:IntKind.i64.wrap (-D)=-D:=by rw[k];rcases zty a.coins b.coins with h|h|h<;>rw[h]<;>decide
 have p:=hid k.symm;have q:=hid l.symm;have r:=hid m.symm;have E:=hid n.symm;clear k l m n;obtain ⟨v,x,y⟩:=a;obtain ⟨A,B,C⟩:=b;simp only[UnitR.agg] at p q r ⊢;rw[E.out];obtain ⟨z,G⟩:=nm (zjC (-D) M N);have F:=hid G;go_enter Tryz.func268,Tryz.ntmps268;obtain ⟨d,j⟩:=nm ((w.alloc (.cells #[v,x,y] 355)).alloc (.cells #[A,B,C] 355));have s:=hid (show Ac.Blk d w.heap.size 355 #[v,x,y] by rw[j];exact (Ac.Blk.new w _ _).alloc _);have t:=hid (show Ac.Blk d (w.heap.size+1) 355 #[A,B,C] by rw[j];exact Ac.Blk.new' _ _ (by simp));have L:=hid (show Below w w d by rw[j];exact (qA _).alloc (by simp) _);have P:d.cell? ⟨w,0,none⟩=some ↑v:=s.out.cell 0;have Q:d.cell? ⟨w,1,none⟩=some ↑x:=s.out.cell 1;have R:d.cell? ⟨w,2,none⟩=some ↑y:=s.out.cell 2;have S:d.cell? ⟨w.heap.size+1,0,none⟩=some ↑A:=t.out.cell 0;have T:d.cell? ⟨w.heap.size+1,1,none⟩=some ↑B:=t.out.cell 1;have U:d.cell? ⟨w.heap.size+1,2,none⟩=some ↑C:=t.out.cell 2;have H:=s.out.lt;have I:=t.out.lt;rw[←G];clear G;go_wp2_with fail
 rw[←j];clear j;refine zac (Below d d) [] (by kernel_rfl) (bR.drew) (fun c=>?_);refine tp 0 c ?_;have o:=hid fun (w':World) (i:(Below d d) w')=>And.intro (qc i P H)<|And.intro (qc i Q H)<|And.intro (qc i R H)<|And.intro (qc i S I)<|And.intro (qc i T I)<|qc i U I;refine tl 1 c o ?_;refine tp 2 c ?_;refine tl 3 c o ?_;refine tp 6 c ?_;refine tl 7 c o ?_;refine tp 8 c ?_;refine tl 9 c o ?_;refine tp 11 c ?_;refine tl 12 c o ?_;refine tp 13 c ?_;refine tl 14 c o ?_;refine stp 4 fun K f=>?_;go_simp;refine (zed y C _).mono ?_;rintro e J ⟨rfl,rfl⟩;rw[p.out];refine f.out _ _ ?_ (fun c=>?_)
 ·exact c
 clear f K
 try simp only[Act.put,pb,pz,ps]
 refine tp 5 c ?_;refine stp 10 fun K f=>?_;go_simp;refine (zlA v A _).mono ?_;rintro e J ⟨rfl,rfl⟩;rw[q.out];refine f.out _ _ ?_ (fun c=>?_)
 ·exact c
 clear f K
 try simp only[Act.put,pb,pz,ps]
 refine stp 15 fun K f=>?_;go_simp;refine (zlA x B _).mono ?_;rintro e J ⟨rfl,rfl⟩;rw[r.out];refine f.out _ _ ?_ (fun c=>?_)
 ·exact c
 clear f K
 try simp only[Act.put,pb,pz,ps]
 refine stp 16 fun K f=>?_;go_simp;refine f.out _ _ ?_ (fun c=>?_)
 ·exact c.alloc (by simp) _
 clear f K
 try simp only[Act.put,pb,pz,ps]
 refine stp 17 fun K f=>?_;go_simp;refine (zs2 (w:=(d.alloc (.cells #[(-D:Int),M,N] 3)).drew) (g:=d.heap.size) (Ac.Blk.new d _ _)).mono ?_;rintro e J ⟨rfl,rfl⟩;rw[←F.out];refine f.out _ _ ?_ (fun c=>?_)
 ·exact c
 clear f K
 try simp only[Act.put,pb,pz,ps]
 refine tp 18 c ?_;refine tp 19 c ?_;refine zaa (by kernel_rfl) ?_ _;go_wp2_with fail
 go_ret;exact ⟨rfl,L.out.trans ((c).mono L.out.size)⟩
theorem zml {W:World} {R:Nat→Prop} {r:Nat} {v:Value} {F:Unit} {l:List UnitR} (h:UnI W R r v F l):
  Calls Tryz.prog 270 #[.pointer (some ⟨r,0,none⟩)] W fun e W'=>e=.returned ↑l.length∧W'=W:=by
 obtain ⟨A,a,rfl⟩:=h.row.form;have b:W.cell? ⟨r,0,none⟩=some (.slice A l.length a):=h.br.cell 0;clear h;go_enter Tryz.func270,Tryz.ntmps270;go_wp2_with fail
 go_ret;exact ⟨rfl,rfl⟩
theorem zeo {W:World} {R:Nat→Prop} {r:Nat} {v:Value} {F:Unit} {l:List UnitR} (h:UnI W R r v F l) {i j:Nat} {a b:UnitR} (t:l[i]? =some a) (x:l[j]? =some b):
  Calls Tryz.prog 312 #[.pointer (some ⟨r,0,none⟩),i,j] W fun e W'=>e=.returned ↑(ltU a b:Bool)∧Below W W W':=by
 obtain ⟨q,s,rfl,n,C,D,E,_,_,_,B⟩:=h.at_ t;obtain ⟨q',y,g,_,G,H,I,_,_,_,_⟩:=h.at_ x;injection g with g _ hv2
 injection g with g
 injection g with g _ _
 subst g hv2;have M:W.cell? ⟨r,0,none⟩=some (.slice (some ⟨q,0,none⟩) l.length s):=h.br.cell 0;have L:W.cell? ⟨r,1,none⟩=some zj7:=h.br.cell 1;have J:=h.br.lt;have li:=(gS.1 t).1;have lj:=(gS.1 x).1;have V:(0:Int)≤(i:Int):=by omega
 have X:(i:Int)<(l.length:Int):=by omega
 have Y:(0:Int)≤(j:Int):=by omega
 have Z:(j:Int)<(l.length:Int):=by omega
 have k:=hid (znu a b);obtain ⟨c,A⟩:=nm (ltU a b);rw[←A] at k ⊢;obtain ⟨O,P,Q⟩:=a;obtain ⟨S,T,U⟩:=b;simp only[UnitR.agg] at C D E G H I k;unfold zj7 at L;clear h t x A;go_enter Tryz.func312,Tryz.ntmps312;go_wp2_with fail
 refine zac (Below W W) [] (by kernel_rfl) (bR.drew) (fun d=>?_);refine tp 0 d ?_;refine tp 1 d ?_;refine tp 2 d ?_;have o:=hid fun (N:World) (f:(Below W W) N)=>And.intro (qc f M J)<|And.intro (qc f L J)<|And.intro (qc f C n)<|And.intro (qc f D n)<|And.intro (qc f E n)<|And.intro (qc f G n)<|And.intro (qc f H n)<|qc f I n;refine tl 3 d o ?_;refine tp 4 d ?_;refine tp 5 d ?_;refine tp 6 d ?_;refine tl 7 d o ?_;refine tp 8 d ?_;refine tp 9 d ?_;refine tl 10 d o ?_;refine tp 11 d ?_;refine tp 12 d ?_;refine tp 13 d ?_;refine tl 14 d o ?_;refine tp 15 d ?_;refine tp 16 d ?_;refine tl 17 d o ?_;refine stp 18 fun K z=>?_;go_simp;refine (k.out _).mono ?_;rintro e w7 ⟨rfl,m⟩;refine z.out _ _ ?_ (fun d=>?_)
 ·exact (Below.refl W.heap.size W).drew.trans (m.mono (by simp))
 clear z K
 try simp only[Act.put,pb,pz,ps]
 have p:=hid ((Below.refl W.heap.size W).drew.trans (m.mono (by simp)));clear m;refine tp 19 d ?_;refine zaa (by kernel_rfl) ?_ _;clear d;go_wp2_with fail
 go_ret;exact ⟨rfl,p.out⟩
theorem zeq {W:World} {R:Nat→Prop} {r:Nat} {v:Value} {F:Unit} {l:List UnitR} (h:UnI W R r v F l) {i j:Nat} {a b:UnitR} (E:l[i]? =some a) (G:l[j]? =some b):
  Calls Tryz.prog 315 #[.pointer (some ⟨r,0,none⟩),i,j] W fun e W'=>e=.returned (.tuple #[])∧(∃F',UnI W' R r v F' (swp l i j))∧Chg R W W':=by
 obtain ⟨q,z,B,x,P,Q,S,I,J,L,ab⟩:=h.at_ E;obtain ⟨q',aa,g,_,T,X,Y,fj0,fj1,fj2,_⟩:=h.at_ G;rw[B] at g;injection g with g _ hv2
 injection g with g
 injection g with g _ _
 subst g hv2;have r0:W.cell? ⟨r,0,none⟩=some (.slice (some ⟨q,0,none⟩) l.length z):=(h.br.cell 0).trans (by rw[B];rfl);have lr:=h.br.lt;have li:=(gS.1 E).1;have lj:=(gS.1 G).1;have e1:(0:Int)≤(i:Int):=by omega
 have e2:(i:Int)<(l.length:Int):=by omega
 have e3:(0:Int)≤(j:Int):=by omega
 have e4:(j:Int)<(l.length:Int):=by omega
 have m:=h.row;rw[B] at m;have s:=m.blk q rfl;obtain ⟨V,n⟩:=nm (((W.setCell ⟨q,i*3,none⟩ ↑b.bid).setCell ⟨q,i*3+1,none⟩ ↑b.place).setCell ⟨q,i*3+2,none⟩ ↑b.coins);have c:RowAt V (fun b=>R b∧b≠r) 355 3 (.slice (some ⟨q,0,none⟩) l.length z) l.length (zca (l.set i b)):=by
  rw[n,zfQ];exact ((m.set (i*3) _).set (i*3+1) _).set (i*3+2) _
 obtain ⟨U,C⟩:=nm ((((V.setCell ⟨q,j*3,none⟩ ↑a.bid).setCell ⟨q,j*3+1,none⟩ ↑a.place).setCell ⟨q,j*3+2,none⟩ ↑a.coins).drew);have M:V.frozen? ⟨q,j*3,none⟩=false:=c.own.frozenAt _;have N:V.frozen? ⟨q,j*3+1,none⟩=false:=c.own.frozenAt _;have O:V.frozen? ⟨q,j*3+2,none⟩=false:=c.own.frozenAt _;obtain ⟨d,D⟩:∃d,(l.set i b)[j]? =some d:=⟨_,gE (by simpa using lj)⟩;have v0:V.cell? ⟨q,j*3,none⟩=some ↑d.bid:=(c.own.cellAt (j*3) (by omega)).trans (zdw D).1;have v1:V.cell? ⟨q,j*3+1,none⟩=some ↑d.place:=(c.own.cellAt (j*3+1) (by omega)).trans (zdw D).2.1;have v2:V.cell? ⟨q,j*3+2,none⟩=some ↑d.coins:=(c.own.cellAt (j*3+2) (by omega)).trans (zdw D).2.2;have t:Chg (·=q) W U:=by
  rw[C,n];exact ((((((Chg.set W ⟨q,i*3,none⟩ _).trans (Chg.set _ ⟨q,i*3+1,none⟩ _)).trans (Chg.set _ ⟨q,i*3+2,none⟩ _)).trans (Chg.set _ ⟨q,j*3,none⟩ _)).trans (Chg.set _ ⟨q,j*3+1,none⟩ _)).trans (Chg.set _ ⟨q,j*3+2,none⟩ _)).grow bR.drew
 have o:RowAt U (fun b=>R b∧b≠r) 355 3 v (swp l i j).length (zca (swp l i j)):=by
  have h1:=c.set (j*3) ↑a.bid;have h2:=h1.set (j*3+1) ↑a.place;have h3:=RowAt.grow (h2.set (j*3+2) ↑a.coins) bR.drew;rw[zd0,B,C,zmj E G,zfQ];exact h3
 have p:=hid (show UnI U R r v F (swp l i j)∧Chg R W U from ⟨⟨h.br.chg t (Ne.symm s.2),o,h.inR⟩,t.mono fun b _ e=>e▸s.1⟩);have Z:=hid C;obtain ⟨a1,a2,a3⟩:=a;obtain ⟨b1,b2,b3⟩:=b;simp only at P Q S T X Y Z n;have H:=hid n;clear D c n h E G B m s C t o;go_enter Tryz.func315,Tryz.ntmps315;go_wp2_with fail
 refine zac (Below W W) [9,25,26,27] (by kernel_rfl) (bR.drew) (fun f=>?_);refine tpW 9 ?_;refine tpD [1,2,3,24,25,26,27] 0 f ?_;refine tpD [2,3,24,25,26,27] 1 f ?_;refine tpD [3,24,25,26,27] 2 f ?_;have y:=hid fun (w':World) (k:(Below W W) w')=>And.intro (qc k r0 lr)<|And.intro (qc k P x)<|And.intro (qc k Q x)<|And.intro (qc k S x)<|And.intro (qc k T x)<|And.intro (qc k X x)<|qc k Y x;refine tlD [24,25,26,27] 3 f y ?_;refine tpD [24,25,26,27] 4 f ?_;refine tpD [6,7,8,24,25,26,27] 5 f ?_;refine tpD [7,8,24,25,26,27] 6 f ?_;refine tpD [8,24,25,26,27] 7 f ?_;refine tlD [24,25,26,27] 8 f y ?_;refine tpD [11,12,13,15,16,24,25,26,27] 10 f ?_;refine tpD [12,13,15,16,24,25,26,27] 11 f ?_;refine tpD [13,15,16,24,25,26,27] 12 f ?_;refine tlD [15,16,24,25,26,27] 13 f y ?_;refine tpD [15,16,24,25,26,27] 14 f ?_;refine tpD [16,24,25,26,27] 15 f ?_;refine tlD [24,25,26,27] 16 f y ?_;refine tpD [18,19,20,22,23,24,25,26,27] 17 f ?_;refine tpD [19,20,22,23,24,25,26,27] 18 f ?_;refine tpD [20,22,23,24,25,26,27] 19 f ?_;refine tlD [22,23,24,25,26,27] 20 f y ?_;refine tpD [22,23,24,25,26,27] 21 f ?_;refine tpD [23,24,25,26,27] 22 f ?_;refine tlD [24,25,26,27] 23 f y ?_;refine tpD [25,26,27] 24 f ?_;refine stf 25 fun K A=>?_;go_simp;refine A.out _ _ ?_;clear A K
 try simp only[Act.put,pb,pz,ps]
 refine tpW 26 ?_;refine stf 27 fun K A=>?_;rw[←H.out];clear f;go_simp;rw[←Z.out];refine A.out _ _ ?_;clear A K
 try simp only[Act.put,pb,pz,ps]
 refine zaa (by kernel_rfl) ?_ _;clear v0 v1 v2 M N O I J L r0 P Q S T X Y;go_wp2_with fail
 go_end0
 exact ⟨rfl,⟨F,p.out.1⟩,p.out.2⟩
theorem zsB:zbg Tryz.prog 360 355 3 24:=zba Tryz.underlying360 (by omega) (z:=.agg #[(),(),()]) (by kernel_rfl) rfl
abbrev zfR (u:UnitR):Value:=.iface 355 u.agg
theorem zqv {W:World} {R:Nat→Prop} {r:Nat} {v:Value} {F:Unit} {l:List UnitR} (h:UnI W R r v F l) {d:UnitR} (O:l.length≤1099511627776):
  Calls Tryz.prog 314 #[.pointer (some ⟨r,0,none⟩),zfR d] W fun e W'=>e=.returned (.tuple #[])∧(∃v' F',UnI W' (fun b=>R b∨W.heap.size≤b) r v' F' (l++[d]))∧Chg R W W':=by
 obtain ⟨A,s,C⟩:=h.row.form;obtain ⟨g,i,j⟩:=d;unfold zfR;simp only[UnitR.agg];have V:∀w,(Instr.typeAssert (.iface 355 (.agg #[g,i,j])) 20 355 false).run Tryz.prog w=.ok (.agg #[g,i,j]) w:=fun w=>by kernel_rfl
 have Q:W.cell? ⟨r,0,none⟩=some (.slice A l.length s):=(h.br.cell 0).trans (by rw[C];rfl);have P:=h.br.lt;have a:=h.row;rw[C] at a;have D:=hid (RowAt.grow a (((Below.refl W.heap.size W).alloc lR (.cells #[g,i,j] 355)).drew));have B:¬v.ownBlock=some r:=fun e=>(h.row.blk r e).2 rfl;have M:=hid C;have J:=hid h;have L:=hid O;have E:=hid B;clear h O a C;go_enter Tryz.func314,Tryz.ntmps314;go_wp2_with fail
 refine zac (Chg (fun b=>v.ownBlock=some b) W) [11] (by kernel_rfl) ((Chg.refl _ W).grow bR.drew) (fun c=>?_);refine tp 0 c ?_;refine tp 1 c ?_;refine tp 2 c ?_;refine tp 3 c ?_;have X:=hid fun (w':World) (G:(Chg (fun b=>v.ownBlock=some b) W) w')=>cg G Q P B;refine tl 4 c X ?_;refine tp 5 c ?_;refine stp 6 fun K f=>?_;go_simp;refine f.out _ _ ?_ (fun c=>?_)
 ·exact c
 clear f K
 try simp only[Act.put,pb,pz,ps]
 refine stp 7 fun K f=>?_;go_simp;refine f.out _ _ ?_ (fun c=>?_)
 ·exact c.grow (qA _)
 clear f K
 try simp only[Act.put,pb,pz,ps]
 refine stp 8 fun K f=>?_;refine zbR ((W.alloc (.cells #[g,i,j] 355)).drew) (.tmp 8) (.tmp 11) rfl zsB rfl (.slice A l.length s) l.length (zca l) rfl D.out (.slice (some ⟨W,0,none⟩) 1 1) 1 [.int .i64 g,.int .i64 i,.int .i64 j] rfl (Sl.lit1 (Ac.Blk.new W 355 #[g,i,j]) rfl) (by simp[Value.oneCell']) (by have:=L.out;omega) (by have:=L.out;unfold maxLen;omega) ?_;intro I N Z z m;refine f.out _ _ ?_ (fun c=>?_)
 ·exact (c.step (Y:=fun b=>v.ownBlock=some b) (by rw[M.out];exact m) fun _ _ h=>h)
 clear f K
 try simp only[Act.put,pb,pz,ps]
 have p:=hid z;have n:=hid (show Chg (fun b=>v.ownBlock=some b) W Z from (((Chg.refl _ W).grow (qA _)).grow bR.drew).trans (by rw[M.out];exact m));clear z m;have k:=hid (J.out.br.chg n.out E.out);obtain ⟨U,x⟩:=nm (Z.setCell ⟨r,0,none⟩ (.slice I (l.length+1) N));have o:=hid x;clear x;refine tpD [10,11] 9 c ?_;refine tp 10 c ?_;refine stf 11 fun K f=>?_;have f0:=k.out.frozen 0;have c0:=k.out.cell 0;go_simp;rw[←o.out];refine f.out _ _ ?_;clear f K
 try simp only[Act.put,pb,pz,ps]
 refine zaa (by kernel_rfl) ?_ _;clear c Q P;go_wp2_with fail
 go_end0
 have x:=o.out;have t:=J.out;have y:Chg (·=r) Z U:=by rw[x];exact Chg.set Z ⟨r,0,none⟩ _
 have a:=p.out.chgB y (fun b H e=>by
  have S:W.heap.size≤((W.alloc (.cells #[g,i,j] 355)).drew).heap.size:=by simp[World.drew]
  have T:=t.br.lt
  rcases p.out.blk b H with q|q
  ·exact q.2 e
  ·omega)
 refine ⟨rfl,⟨.slice I (l.length+1) N,F,?_,?_,.inl t.inR⟩,(n.out.mono fun b _ e=>(t.row.blk b e).1).step y fun b _ e=>e▸t.inR⟩
 ·rw[x];exact k.out.set_ 0 _
 ·have:=a.mono (R':=fun b=>(R b∨W.heap.size≤b)∧b≠r) (fun b _ H=>by
   have S:W.heap.size≤((W.alloc (.cells #[g,i,j] 355)).drew).heap.size:=by simp[World.drew]
   have T:=t.br.lt
   rcases H with q|q
   ·exact ⟨.inl q.1,q.2⟩
   ·exact ⟨.inr (by omega),by omega⟩)
  rw[List.length_append,zk3];exact this
theorem zsb {W:World} {R:Nat→Prop} {r:Nat} {v:Value} {F:Unit} {l:List UnitR} {d:UnitR} (h:UnI W R r v F (l++[d])):
  Calls Tryz.prog 313 #[.pointer (some ⟨r,0,none⟩)] W fun e W'=>e=.returned (zfR d)∧(∃v' F',UnI W' R r v' F' l)∧Chg R W W':=by
 have Z:(l++[d])[l.length]? =some d:=by simp
 obtain ⟨q,f,J,P,Q,S,T,_,_,_,X⟩:=h.at_ Z;have g:(l++[d]).length=l.length+1:=by simp
 have r0:W.cell? ⟨r,0,none⟩=some (.slice (some ⟨q,0,none⟩) (l.length+1) f):=(h.br.cell 0).trans (by rw[J,g];rfl);have c:=h.row;rw[J,g,zk3] at c;have s:RowAt W (fun b=>R b∧b≠r) 355 3 (.slice (some ⟨q,0,none⟩) l.length f) l.length (zca l):=⟨ownsRow_pop (zk4 l) c.own,c.blk⟩;have lr:=h.br.lt;have E:q≠r:=(c.blk q rfl).2;obtain ⟨z,A,B⟩:=d;unfold zfR;simp only at Q S T;simp only[UnitR.agg];obtain ⟨k,o⟩:=nm ((W.alloc (.cells #[z,A,B] 355)).drew);have t:Below W W k:=by rw[o];exact (qA _).drew
 have D:Ac.Blk k W.heap.size 355 #[z,A,B]:=by rw[o];exact Ac.Blk.new W _ _
 have C:=h.grow t;have s0:k.cell? ⟨r,0,none⟩=some (.slice (some ⟨q,0,none⟩) (l.length+1) f):=(C.br.cell 0).trans (by rw[J,g];rfl);have sf:∀i,k.frozen? ⟨r,i,none⟩=false:=C.br.frozen;have G:=C.br.lt;have Y:∀w,(Instr.makeInterface 355 (.agg #[z,A,B])).run Tryz.prog w=.ok (.iface 355 (.agg #[z,A,B])) w:=fun w=>by kernel_rfl
 obtain ⟨U,I⟩:=nm ((k.setCell ⟨r,0,none⟩ (.slice (some ⟨q,0,none⟩) l.length f)).drew);have m:Chg (·=r) k U:=by rw[I];exact (Chg.set k ⟨r,0,none⟩ _).grow bR.drew
 have x:Chg (·=r) W U:=(Chg.of _ t).trans m;have HU:=hid I;have L:=hid x;have n:=hid (D.chg m (by have:=h.br.lt;show ¬W.heap.size=r;omega));have M:=hid (s.chgB x (fun b hb=>by cases hb;exact E));have N:=hid (show Ac.Blk U r 362 #[.slice (some ⟨q,0,none⟩) l.length f,zj7] by rw[I];exact (C.br.set_ 0 (.slice (some ⟨q,0,none⟩) l.length f)).drewN 1);clear m x I;have H:=hid h;have O:=hid o;have hw1:IntKind.i64.wrap (l.length:Int)=l.length:=by
  have:=c.max;unfold maxLen at this;exact iW _ (by omega)
 have e1:(0:Int)≤(l.length:Int):=by omega
 have e2:(l.length:Int)<(l.length:Int)+1:=by omega
 have e3:l.length≤f:=by omega
 clear o h C s D t Z g c E J;go_enter Tryz.func313,Tryz.ntmps313;go_wp2_with fail
 refine zac (Below W W) [13] (by kernel_rfl) (bR.drew) (fun a=>?_);refine tp 0 a ?_;refine tp 1 a ?_;refine tp 2 a ?_;have y:=hid fun (V:World) (j:(Below W W) V)=>And.intro (qc j r0 lr)<|And.intro (qc j Q P)<|And.intro (qc j S P)<|qc j T P;refine tl 3 a y ?_;refine tp 4 a ?_;refine tp 5 a ?_;refine tp 6 a ?_;refine tl 7 a y ?_;refine tp 8 a ?_;refine tp 9 a ?_;refine tp 10 a ?_;refine tl 11 a y ?_;refine stp 12 fun K p=>?_;go_simp;refine p.out _ _ ?_ (fun a=>?_)
 ·exact a.alloc lR _
 clear p K
 try simp only[Act.put,pb,pz,ps]
 refine stf 13 fun K p=>?_;go_simp;rw[←O.out];refine p.out _ _ ?_;clear p K
 try simp only[Act.put,pb,pz,ps]
 refine zaa (by kernel_rfl) ?_ _;clear a r0 Q S T lr;go_wp2_with fail
 refine zac (Below k k) [14] (by kernel_rfl) (bR.drew) (fun a=>?_);refine tp 0 a ?_;refine tp 1 a ?_;refine tp 2 a ?_;refine tp 3 a ?_;have y:=hid fun (V:World) (j:(Below k k) V)=>qc j s0 G;refine tl 4 a y ?_;refine tp 5 a ?_;refine tp 6 a ?_;refine tp 7 a ?_;refine tl 8 a y ?_;refine tp 9 a ?_;refine tp 10 a ?_;refine tl 11 a y ?_;refine tpD [13,14] 12 a ?_;refine tp 13 a ?_;refine stf 14 fun K p=>?_;go_simp;rw[←HU.out];refine p.out _ _ ?_;clear p K
 try simp only[Act.put,pb,pz,ps]
 refine zaa (by kernel_rfl) ?_ _;clear a s0 sf G;have x0:U.cell? ⟨W,0,none⟩=some ↑z:=n.out.cell 0;have x1:U.cell? ⟨W,1,none⟩=some ↑A:=n.out.cell 1;have x2:U.cell? ⟨W,2,none⟩=some ↑B:=n.out.cell 2;have lx:=n.out.lt;go_wp2_with fail
 go_ret;exact ⟨rfl,⟨_,F,N.out,M.out,H.out.inR⟩,L.out.mono fun b _ e=>e▸H.out.inR⟩
abbrev zh1 (r:Nat):Value:=.iface 357 (.pointer (some ⟨r,0,none⟩))
def gU (l:List UnitR):Nat→UnitR:=fun k=>l.getD k ⟨0,0,0⟩
theorem znK {l:List UnitR} {k:Nat} {d:UnitR} (h:l[k]? =some d):gU l k=d:=by simp[gU,h]
theorem zdk {l:List UnitR} {k:Nat} (h:k<l.length):l[k]? =some (gU l k):=by simp[gU,h]
def zbv (W:World) (R:Nat→Prop) (r:Nat) (l:List UnitR):Prop:=∃v F,UnI W R r v F l
theorem znp {W:World} {R:Nat→Prop} {r:Nat} {l:List UnitR} (h:zbv W R r l) {n j:Nat} (S:l.length≤1099511627776) (L:n≤l.length) (V:j<n) (Y:UpF leU (gU l) n j):
  Calls Tryz.prog 127 #[zh1 r,j] W fun e W'=>e=.returned (.tuple #[])∧(∃l',zbv W' R r l'∧l'.Perm l∧zao leU (gU l') n∧∀k,n≤k→l'[k]? =l[k]?)∧Chg R W W':=by
 have HB:=hid S;have HH:=hid h;have J:=hid Y;have O:=hid L;have HJ:=hid V;clear h Y L V S;go_enter Tryz.func127,Tryz.ntmps127;go_wp2_with fail
 go_loopw [1] (fun s wr=>∃(k:Nat) (l':List UnitR),s=.int .i64 k∧k<n∧zbv wr R r l'∧l'.Perm l∧UpF leU (gU l') n k∧(∀q,n≤q→l'[q]? =l[q]?)∧Chg R W wr) (fun s _=>(intOf s).toNat)
 case atStart=>exact ⟨j,l,rfl,HJ.out,HH.out,List.Perm.refl _,J.out,fun _ _=>rfl,Chg.refl _ _⟩
 case round=>
  obtain ⟨k,l',rfl,hk,X,M,z,A,U⟩:=hrel;have b:=M.length_eq;have P:=hid X;have E:=hid M;have I:=hid z;have G:=hid A;have N:=hid U;have g:=O.out;have kl:k<l'.length:=by omega
  have D:=hid (zdk kl);have p:=hid b;clear X M z A U b g;by_cases h0:k=0
  ·subst h0;have hw:IntKind.i64.wrap (IntKind.i64.wrap (((0:Nat):Int)-1))=-1:=by decide
   go_wp2_with fail
   go_end0
   exact ⟨rfl,⟨l',P.out,E.out,I.out.top,G.out⟩,N.out⟩
  ·obtain ⟨i,K⟩:=nm ((k-1)/2);have a:i<k:=by omega
   have hb:=HB.out;have g:=p.out;have hw1:IntKind.i64.wrap ((k:Int)-1)=(k:Int)-1:=iW _ (by omega);have hw2:IntKind.i64.wrap (((k:Int)-1).tdiv 2)=(i:Int):=by rw[zlO (by omega),←K];exact iW _ (by omega)
   have hne:((i:Int)==(k:Int))=false:=by simp;omega
   have C:=hid K;have o:=hid a;have Z:i<l'.length:=by omega
   have c:=hid (zdk Z);clear K a hb g Z kl;obtain ⟨v,F,T⟩:=P.out;have Q:=hid T;clear T;go_wp2_with fail
   refine (zeo Q.out D.out c.out).mono ?_;rintro e w1 ⟨rfl,f⟩;have t:=hid (Q.out.grow f);have m:=hid (N.out.grow f);clear f
   cases hlt:ltU (gU l' k) (gU l' i) with
   |false=>
    have d:=hid (zf8 hlt);clear hlt;go_wp2_with fail
    go_end0
    exact ⟨rfl,⟨l',⟨v,F,t.out⟩,E.out,I.out.stop (by rw[←C.out];exact d.out),G.out⟩,m.out⟩
   |true=>
    have d:=hid (zhi hlt);clear hlt;go_wp2_with fail
    refine (zeq t.out c.out D.out).mono ?_;rintro e w2 ⟨rfl,⟨F2,x⟩,y⟩;have H:=hid x;have B:=hid (m.out.trans y);clear x y;go_wp2_with fail
    go_roundw
    case rel=>
     have hl:=p.out;have L:=O.out;have a:=o.out;refine ⟨i,swp l' i k,rfl,by omega,⟨v,F2,H.out⟩,(zbS _ _ _).trans E.out,?_,fun q A=>?_,B.out⟩
     ·have:=UpF.step zdK I.out (by omega) hk (by rw[←C.out];exact d.out);rw[←C.out] at this;rw[show gU (swp l' i k)=swF (gU l') i k from swp_get (by omega) (by omega) _];exact this
     ·rw[zb9 c.out D.out,if_neg (by omega),if_neg (by omega)];exact G.out q A
    case measure=>
     have a:=o.out
     simp[intOf];omega
def zoF (W:World) (R:Nat→Prop) (r:Nat) (l:List UnitR) (n i0:Nat) (e:Ending) (W':World):Prop:=
 ∃(b:Bool) (l':List UnitR),e=.returned (.bool b)∧zbv W' R r l'∧l'.Perm l∧(∀q,n≤q→l'[q]? =l[q]?)∧(b=true→zao leU (gU l') n)∧(b=false→l'=l∧UpF leU (gU l) n i0)∧Chg R W W'
theorem zfP {W W':World} {R:Nat→Prop} {r:Nat} {l l':List UnitR} {n i0 i:Nat} (f:i0≤i) (a:i≠i0→leU (gU l' ((i-1)/2)) (gU l' i)) (b:i=i0→l'=l) (c:UpF leU (gU l') n i)
  (k:zbv W' R r l') (g:l'.Perm l) (j:∀q,n≤q→l'[q]? =l[q]?) (d:Chg R W W'):zoF W R r l n i0 (.returned ↑(decide (i0<i):Bool)) W':=by
 refine ⟨_,l',rfl,k,g,j,fun h=>?_,fun h=>?_,d⟩
 ·have:i≠i0:=by have:=of_decide_eq_true h;omega
  exact c.stop (a this)
 ·have:i=i0:=by have:=of_decide_eq_false h;omega
  have e:=b this;subst e this;exact ⟨rfl,c⟩
theorem zk2 {W:World} {R:Nat→Prop} {r:Nat} {l:List UnitR} (h:zbv W R r l) {n i0:Nat} (hB:l.length≤1099511627776) (hn:n≤l.length) (hi:i0≤n) (hu:DnF leU (gU l) n i0):
  Calls Tryz.prog 126 #[zh1 r,i0,n] W fun e W'=>zoF W R r l n i0 e W':=by
 have HB:=hid hB;have HH:=hid h;have HUP:=hid hu;have HN:=hid hn;have HI0:=hid hi;clear h hu hn hi hB;go_enter Tryz.func126,Tryz.ntmps126;go_wp2_with fail
 go_loopw [7] (fun s wr=>∃(i:Nat) (b:List UnitR),s=.int .i64 i∧(i0≤i∧i≤n)∧zbv wr R r b∧b.Perm l∧DnF leU (gU b) n i∧(i≠i0→leU (gU b ((i-1)/2)) (gU b i))∧(i=i0→b=l)∧(∀q,n≤q→b[q]? =l[q]?)∧Chg R W wr) (fun s _=>n-(intOf s).toNat)
 case atStart=>exact ⟨i0,l,rfl,⟨lR,HI0.out⟩,HH.out,List.Perm.refl _,HUP.out,fun h=>absurd rfl h,fun _=>rfl,fun _ _=>rfl,Chg.refl _ _⟩
 case round=>
  obtain ⟨i,b,rfl,J,hr,C,V,T,U,L,K⟩:=hrel;have D:=C.length_eq;have B:=hid J.1;have HIN:=hid J.2;have HR:=hid hr;have HP:=hid C;have HU:=hid V;have N:=hid T;have O:=hid U;have HQ:=hid L;have HC:=hid K;have Z:=hid D;have hb:=HB.out;have hnl:=HN.out;have hw1:IntKind.i64.wrap (2*(i:Int))=2*(i:Int):=iW _ (by omega);have hw2:IntKind.i64.wrap (2*(i:Int)+1)=2*(i:Int)+1:=iW _ (by omega);have hw3:IntKind.i64.wrap (2*(i:Int)+1+1)=2*(i:Int)+2:=by rw[show 2*(i:Int)+1+1=2*(i:Int)+2 by omega];exact iW _ (by omega)
  by_cases Y:n≤2*i+1
  ·have g1:(n:Int)≤2*(i:Int)+1:=by omega
   have H1:=hid Y;clear hr C V L K D J T U hb hnl Y;go_wp2_with fail
   go_ret;exact zfP B.out N.out O.out (HU.out.stop fun k Q S C=>by have:=H1.out;omega) HR.out HP.out HQ.out HC.out
  ·have g1:¬(n:Int)≤2*(i:Int)+1:=by omega
   have g2:¬2*(i:Int)+1<0:=by omega
   have il:i<b.length:=by omega
   have jl:2*i+1<b.length:=by omega
   have M:=hid (zdk il);have t:=hid (zdk jl);have H1:=hid (show 2*i+1<n by omega);obtain ⟨v,F,hT⟩:=hr;have HT:=hid hT;by_cases h2:2*i+2<n
   ·have g3:2*(i:Int)+2<(n:Int):=by omega
    have j2l:2*i+2<b.length:=by omega
    have H:=hid (zdk j2l);have H2:=hid h2;clear C V L K D J T U hb hnl Y h2 il jl j2l hT;go_wp2_with fail
    refine (zeo (i:=2*i+2) (j:=2*i+1) HT.out H.out t.out).mono ?_;rintro e w3 ⟨rfl,hb3⟩;have P:=hid (HT.out.grow hb3);have HC3:=hid (HC.out.grow hb3);clear hb3
    cases hlt:ltU (gU b (2*i+2)) (gU b (2*i+1)) with
    |true=>
     obtain ⟨c,K⟩:=nm (2*i+2);have x:=hid (zhi hlt);rw[←K] at H x;have d:=H;have E:2*(i:Int)+2=(c:Int):=by omega
     have Y:=H1.out;have h2:=H2.out;have o:=hid (show 0<c∧c<n∧(c-1)/2=i by omega);have p:=hid (show ∀k,0<k→k<n→(k-1)/2=i→leU (gU b c) (gU b k) from fun k Q S C=>by
      rcases (by omega:k=2*i+1∨k=c) with e|e
      ·rw[e];exact x.out
      ·rw[e];exact zjx _)
     rw[E] at hw3 g3 ⊢;clear hlt K Y h2 t H;go_wp2_with fail
     refine (zeo P.out d.out M.out).mono ?_;rintro e w5 ⟨rfl,g⟩;have y:=hid (P.out.grow g);have m:=hid (HC3.out.grow g);clear g
     cases hlt:ltU (gU b c) (gU b i) with
     |false=>
      have f:=hid (zf8 hlt);clear hlt;go_wp2_with fail
      go_ret;exact zfP B.out N.out O.out (HU.out.stop fun k Q S C=>zdK _ _ _ f.out (p.out k Q S C)) ⟨v,F,y.out⟩ HP.out HQ.out m.out
     |true=>
      have f:=hid (zhi hlt);clear hlt;go_wp2_with fail
      refine (zeq y.out M.out d.out).mono ?_;rintro e w6 ⟨rfl,⟨F6,z⟩,A⟩;have I:=hid z;have G:=hid (m.out.trans A);clear z A;go_wp2_with fail
      go_roundw
      case rel=>
       have hg:=B.out;have a:=o.out;have hl:=Z.out;have hn:=HN.out;obtain ⟨s1,s2⟩:=DnF.step HU.out a.2.2 a.1 a.2.1 f.out p.out;have X:gU (swp b i c)=swF (gU b) i c:=swp_get (by omega) (by omega) _;exact ⟨c,swp b i c,rfl,by omega,⟨v,F6,I.out⟩,(zbS _ _ _).trans HP.out,by rw[X];exact s1,fun _=>by rw[X];exact s2,fun e=>by omega,fun q L=>by rw[zb9 M.out d.out,if_neg (by omega),if_neg (by omega)];exact HQ.out q L,G.out⟩
      case measure=>
       have a:=o.out
       simp[intOf];omega
    |false=>
     obtain ⟨c,K⟩:=nm (2*i+1);have x:=hid (zf8 hlt);rw[←K] at t x;have d:=t;have E:2*(i:Int)+1=(c:Int):=by omega
     have Y:=H1.out;have h2:=H2.out;have o:=hid (show 0<c∧c<n∧(c-1)/2=i by omega);have p:=hid (show ∀k,0<k→k<n→(k-1)/2=i→leU (gU b c) (gU b k) from fun k Q S C=>by
      rcases (by omega:k=c∨k=2*i+2) with e|e
      ·rw[e];exact zjx _
      ·rw[e];exact x.out)
     rw[E] at hw2 g1 g2 ⊢;clear hlt K Y h2 t H;go_wp2_with fail
     refine (zeo P.out d.out M.out).mono ?_;rintro e w5 ⟨rfl,g⟩;have y:=hid (P.out.grow g);have m:=hid (HC3.out.grow g);clear g
     cases hlt:ltU (gU b c) (gU b i) with
     |false=>
      have f:=hid (zf8 hlt);clear hlt;go_wp2_with fail
      go_ret;exact zfP B.out N.out O.out (HU.out.stop fun k Q S C=>zdK _ _ _ f.out (p.out k Q S C)) ⟨v,F,y.out⟩ HP.out HQ.out m.out
     |true=>
      have f:=hid (zhi hlt);clear hlt;go_wp2_with fail
      refine (zeq y.out M.out d.out).mono ?_;rintro e w6 ⟨rfl,⟨F6,z⟩,A⟩;have I:=hid z;have G:=hid (m.out.trans A);clear z A;go_wp2_with fail
      go_roundw
      case rel=>
       have hg:=B.out;have a:=o.out;have hl:=Z.out;have hn:=HN.out;obtain ⟨s1,s2⟩:=DnF.step HU.out a.2.2 a.1 a.2.1 f.out p.out;have X:gU (swp b i c)=swF (gU b) i c:=swp_get (by omega) (by omega) _;exact ⟨c,swp b i c,rfl,by omega,⟨v,F6,I.out⟩,(zbS _ _ _).trans HP.out,by rw[X];exact s1,fun _=>by rw[X];exact s2,fun e=>by omega,fun q L=>by rw[zb9 M.out d.out,if_neg (by omega),if_neg (by omega)];exact HQ.out q L,G.out⟩
      case measure=>
       have a:=o.out
       simp[intOf];omega
   ·have g3:¬2*(i:Int)+2<(n:Int):=by omega
    obtain ⟨c,a⟩:=nm (2*i+1);rw[←a] at t;have d:=t;have E:2*(i:Int)+1=(c:Int):=by omega
    have o:=hid (show 0<c∧c<n∧(c-1)/2=i by omega);have p:=hid (show ∀k,0<k→k<n→(k-1)/2=i→leU (gU b c) (gU b k) from fun k Q S C=>by
     rcases (by omega:k=c) with e
     rw[e];exact zjx _)
    have hw3':IntKind.i64.wrap ((c:Int)+1)=2*(i:Int)+2:=by rw[←E];exact hw3
    rw[E] at hw2 g1 g2;clear hw3 C V L K D J T U hb hnl Y h2 il jl hT a t;go_wp2_with fail
    refine (zeo HT.out d.out M.out).mono ?_;rintro e w5 ⟨rfl,g⟩;have y:=hid (HT.out.grow g);have m:=hid (HC.out.grow g);clear g
    cases hlt:ltU (gU b c) (gU b i) with
    |false=>
     have f:=hid (zf8 hlt);clear hlt;go_wp2_with fail
     go_ret;exact zfP B.out N.out O.out (HU.out.stop fun k Q S C=>zdK _ _ _ f.out (p.out k Q S C)) ⟨v,F,y.out⟩ HP.out HQ.out m.out
    |true=>
     have f:=hid (zhi hlt);clear hlt;go_wp2_with fail
     refine (zeq y.out M.out d.out).mono ?_;rintro e w6 ⟨rfl,⟨F6,z⟩,A⟩;have I:=hid z;have G:=hid (m.out.trans A);clear z A;go_wp2_with fail
     go_roundw
     case rel=>
      have hg:=B.out;have a:=o.out;have hl:=Z.out;have hn:=HN.out;obtain ⟨s1,s2⟩:=DnF.step HU.out a.2.2 a.1 a.2.1 f.out p.out;have X:gU (swp b i c)=swF (gU b) i c:=swp_get (by omega) (by omega) _;exact ⟨c,swp b i c,rfl,by omega,⟨v,F6,I.out⟩,(zbS _ _ _).trans HP.out,by rw[X];exact s1,fun _=>by rw[X];exact s2,fun e=>by omega,fun q L=>by rw[zb9 M.out d.out,if_neg (by omega),if_neg (by omega)];exact HQ.out q L,G.out⟩
     case measure=>
      have a:=o.out
      simp[intOf];omega
theorem zoy {W:World} {R:Nat→Prop} {r:Nat} {l:List UnitR} (h:zbv W R r l):Calls Tryz.prog 270 #[.pointer (some ⟨r,0,none⟩)] W fun e W'=>e=.returned ↑l.length∧W'=W:=by
 obtain ⟨v,F,h⟩:=h;exact zml h
theorem ztV {W:World} {R:Nat→Prop} {r:Nat} {l:List UnitR} (h:zbv W R r l) {i j:Nat} (f:i<l.length) (g:j<l.length):
  Calls Tryz.prog 315 #[.pointer (some ⟨r,0,none⟩),i,j] W fun e W'=>e=.returned (.tuple #[])∧zbv W' R r (swp l i j)∧Chg R W W':=by
 obtain ⟨v,F,h⟩:=h;refine (zeq h (zdk f) (zdk g)).mono ?_;rintro e W' ⟨d,⟨a,b⟩,c⟩;exact ⟨d,⟨v,a,b⟩,c⟩
theorem zt6 {W:World} {R:Nat→Prop} {r:Nat} {l:List UnitR} (h:zbv W R r l) {n:Nat} (m:l.length=n+1):
  Calls Tryz.prog 313 #[.pointer (some ⟨r,0,none⟩)] W fun e W'=>e=.returned (zfR (gU l n))∧zbv W' R r (l.take n)∧Chg R W W':=by
 have i:l=l.take n++[gU l n]:=by
  have b:=List.take_append_drop n l;rw[List.drop_eq_getElem_cons (by omega),List.drop_eq_nil_of_le (by omega)] at b;have a:=zdk (l:=l) (k:=n) (by omega);rw[gE (by omega)] at a;rw[Option.some.inj a] at b;exact b.symm
 obtain ⟨v,F,h⟩:=h;rw[i] at h;have a:=zsb h;refine a.mono ?_;rintro e W' ⟨g,⟨j,c,d⟩,f⟩;exact ⟨g,⟨j,c,d⟩,f⟩
theorem zm9 {l:List UnitR} {n k:Nat} (h:k<n):gU (l.take n) k=gU l k:=by simp[gU,List.getD_eq_getElem?_getD,List.getElem?_take,h]
theorem zow {l:List UnitR} {n:Nat} (h:zao leU (gU l) n):zao leU (gU (l.take n)) n:=fun k h0 hk=>by
 rw[zm9 hk,zm9 (by omega)];exact h k h0 hk
theorem zoA {l a:List UnitR} {n:Nat} (e:a.Perm l) (f:a.length=n+1):l.Perm (gU a n::a.take n):=by
 have b:=List.take_append_drop n a;rw[List.drop_eq_getElem_cons (by omega),List.drop_eq_nil_of_le (by omega)] at b;have c:=zdk (l:=a) (k:=n) (by omega);rw[gE (by omega)] at c;rw[Option.some.inj c] at b;have d:(a.take n++[gU a n]).Perm (gU a n::a.take n):=List.perm_append_singleton _ _;rw[b] at d;exact e.symm.trans d
theorem zox {W:World} {R:Nat→Prop} {r:Nat} {l:List UnitR} (h:zbv W R r l) (x:zao leU (gU l) l.length) {d:UnitR} (y:l.length<1099511627776):
  Calls Tryz.prog 105 #[zh1 r,zfR d] W fun e W'=>e=.returned (.tuple #[])∧(∃l',zbv W' (fun b=>R b∨W.heap.size≤b) r l'∧l'.Perm (l++[d])∧zao leU (gU l') l'.length)∧Chg R W W':=by
 obtain ⟨v,F,t⟩:=h;have H:=hid t;have C:=hid x;have s:=hid y;have P:IntKind.i64.wrap (l.length:Int)=(l.length:Int):=iW _ (by omega);clear t x y;go_enter Tryz.func105,Tryz.ntmps105;go_wp2_with fail
 refine (zqv H.out (d:=d) (Nat.le_of_lt s.out)).mono ?_;rintro e L ⟨rfl,⟨K,B,f⟩,i⟩;have c:=hid f;have o:=hid i;clear f i;have J:((l++[d]).length:Int)=(l.length:Int)+1:=by simp
 go_wp2_with fail
 refine (zml c.out).mono ?_;rintro e M ⟨rfl,rfl⟩;rw[J];go_wp2_with fail
 refine (znp (l:=l++[d]) (n:=(l++[d]).length) ⟨K,B,c.out⟩ (by have:=s.out;simp;omega) lR (j:=l.length) (by simp) ?_).mono ?_
 ·have:=zao.push (g:=gU (l++[d])) C.out (fun k I=>by simp[gU,List.getD_eq_getElem?_getD,List.getElem?_append_left I])
  simpa using this
 rintro e N ⟨rfl,⟨l',A,q,z,_⟩,m⟩;have a:=q.length_eq;have G:=hid A;have D:=hid q;have E:=hid (show zao leU (gU l') l'.length by rw[a];exact z);have p:=hid (o.out.step m fun b O h=>h.elim id fun h=>by omega);clear A q z m a;go_wp2_with fail
 go_end0
 exact ⟨rfl,⟨l',G.out,D.out,E.out⟩,p.out⟩
theorem zqu {W:World} {R:Nat→Prop} {r:Nat} {l:List UnitR} (h:zbv W R r l) (V:zao leU (gU l) l.length) (Y:l.length≤1099511627776) (Q:0<l.length):
  Calls Tryz.prog 148 #[zh1 r] W fun e W'=>e=.returned (zfR (gU l 0))∧(∃l',zbv W' R r l'∧l.Perm (gU l 0::l')∧zao leU (gU l') l'.length)∧Chg R W W':=by
 obtain ⟨n,A⟩:∃n,l.length=n+1:=⟨l.length-1,by omega⟩;have U:=hid h;have HH:=hid V;have HN:=hid Y;have q:=hid A;have hw:IntKind.i64.wrap (n:Int)=(n:Int):=iW _ (by omega);have X:(l.length:Int)=(n:Int)+1:=by omega
 clear h V Y Q A;go_enter Tryz.func148,Tryz.ntmps148;go_wp2_with fail
 refine (zoy U.out).mono ?_;rintro e W2 ⟨rfl,rfl⟩;rw[X];clear X;go_wp2_with fail
 refine (ztV (i:=0) (j:=n) U.out (by have:=q.out;omega) (by have:=q.out;omega)).mono ?_;rintro e W3 ⟨rfl,C,t⟩;have N:=hid C;have H:=hid t;have F:=zd0 l 0 n;have hL:=q.out;have S:gU (swp l 0 n)=swF (gU l) 0 n:=swp_get (by omega) (by omega) _;have y:DnF leU (gU (swp l 0 n)) n 0:=by
  rcases Nat.eq_zero_or_pos n with e|e
  ·subst e;exact ⟨fun k Q T=>by omega,fun k Q T=>by omega⟩
  ·exact zao.dn (f:=gU l) zdK (HH.out.less (by omega)) (fun k T hkn=>by rw[S,zdR (by omega) T]) e
 have K:=hid y;have m:=hid F;have Z:=hid S;clear C t F hL S y;go_wp2_with fail
 refine (zk2 (i0:=0) (n:=n) N.out (by have:=HN.out;have:=m.out;omega) (by have:=q.out;have:=m.out;omega) (zL) K.out).mono ?_;rintro e W4 ⟨b,p,rfl,D,o,B,G,z,v⟩;have a:zao leU (gU p) n:=by
  cases b with
  |true=>exact G rfl
  |false=>obtain ⟨e,hu⟩:=z rfl;rw[e];exact hu.top
 have d:p.length=n+1:=by rw[o.length_eq,m.out,q.out]
 have c:gU p n=gU l 0:=by
  have h1:=B n lR;have h2:gU p n=gU (swp l 0 n) n:=by simp[gU,List.getD_eq_getElem?_getD,h1]
  rw[h2,Z.out,zgK]
 have O:=hid D;have M:=hid (o.trans (zbS l 0 n));have I:=hid (H.out.trans v);have L:=hid a;have g:=hid d;have s:=hid c;clear D o B G z v a d c;go_wp2_with fail
 refine (zt6 O.out g.out).mono ?_;rintro e W5 ⟨rfl,E,x⟩;have P:=hid E;have J:=hid (I.out.trans x);rw[s.out];clear E x;go_wp2_with fail
 go_ret;refine ⟨rfl,⟨p.take n,P.out,?_,?_⟩,J.out⟩
 ·have:=zoA M.out g.out
  rwa [s.out] at this
 ·have:=g.out;rw[show (p.take n).length=n by simp;omega];exact zow L.out
theorem zqt {W:World} {R:Nat→Prop} {r:Nat} {l:List UnitR} (h:zbv W R r l) {i:Nat} (D:DnF leU (gU l) l.length i) (F:l.length≤1099511627776) (E:i<l.length):
  Calls Tryz.prog 104 #[zh1 r,i] W fun e W'=>e=.returned (.tuple #[])∧(∃l',zbv W' R r l'∧l'.Perm l∧zao leU (gU l') l'.length)∧Chg R W W':=by
 have C:=hid h;have H:=hid D;have B:=hid F;have A:=hid E;clear h D F E;go_enter Tryz.func104,Tryz.ntmps104;go_wp2_with fail
 refine (zoy C.out).mono ?_;rintro e L ⟨rfl,rfl⟩;go_wp2_with fail
 refine (zk2 C.out B.out lR (Nat.le_of_lt A.out) H.out).mono ?_;rintro e M ⟨b,K,rfl,g,d,q,j,c,a⟩;have n:=hid g;have m:=hid d;have k:=hid a
 cases b with
 |true=>
  have I:=hid (j rfl);clear g d q j c a;go_wp2_with fail
  go_end0
  exact ⟨rfl,⟨K,n.out,m.out,by rw[m.out.length_eq];exact I.out⟩,k.out⟩
 |false=>
  obtain ⟨e,G⟩:=c rfl;subst e;have J:=hid G;clear g d q j c a G;go_wp2_with fail
  refine (znp n.out B.out lR A.out J.out).mono ?_;rintro e N ⟨rfl,⟨z,s,f,p,_⟩,o⟩;have y:=hid s;have x:=hid f;have v:=hid (show zao leU (gU z) z.length by rw[f.length_eq];exact p);have t:=hid (k.out.trans o);clear s f p o;go_wp2_with fail
  go_end0
  exact ⟨rfl,⟨z,y.out,x.out,v.out⟩,t.out⟩
end Ho
end Go.Proofs.YtckdpejdnejhfaaGreat

/- Joined by program. -/
import Derived.Test.YthoaidfpgijbfaaGreatZbf
import Derived.Deep.CutBlock
set_option linter.all false
set_option maxRecDepth 100000
set_option maxHeartbeats 32000000
namespace Go.Proofs.YthoaidfpgijbfaaGreat
open Lib (hid)
namespace Ho
open Go.RowKit Vb Ac
section
variable {W:World} {T:Nat→Part} {h K:Nat} {H:House}
theorem ztf (d:zaf W T h K H):Calls Tryz.prog 39 #[.pointer (some ⟨h,0,none⟩)] W fun e W'=>e=.returned ↑H.lots.length∧W'=W:=by
 obtain ⟨m,l,n,p,o,q,b⟩:=id d;obtain ⟨j,f,_⟩:=b.lots;obtain ⟨A,c,g⟩:=f.form;have k:W.cell? ⟨h,2,none⟩=some (.slice A H.lots.length c):=g▸b.cells.2.2.1;have i:=hid d;clear d b f g;go_enter Tryz.func39,Tryz.ntmps39;go_wp2_with fail
 refine (zbL i.out).mono ?_;rintro e r ⟨rfl,a⟩;rw[a];clear a;go_wp2_with fail
 go_ret;exact ⟨rfl,rfl⟩
theorem ziX (d:zaf W T h K H):Calls Tryz.prog 21 #[.pointer (some ⟨h,0,none⟩)] W fun e W'=>e=.returned ↑H.accs.length∧W'=W:=by
 obtain ⟨k,j,l,n,m,o,b⟩:=id d;obtain ⟨A,c,f⟩:=b.accs.form;have i:W.cell? ⟨h,1,none⟩=some (.slice A H.accs.length c):=f▸b.cells.2.1;have g:=hid d;clear d b f;go_enter Tryz.func21,Tryz.ntmps21;go_wp2_with fail
 refine (zbL g.out).mono ?_;rintro e p ⟨rfl,a⟩;rw[a];clear a;go_wp2_with fail
 go_ret;exact ⟨rfl,rfl⟩
end
theorem zu1 {W:World} {lo:Nat} {A:Option Addr} {c:Nat} {ss:List Stand} (h:zcd W lo (.slice A ss.length c) ss) {k:Nat} {s:Stand} (e:ss[k]? =some s):
  ∃q off,A=some ⟨q,off,none⟩∧lo≤q∧q<W.heap.size∧W.cell? ⟨q,off+k*3,none⟩=some ↑s.bidder∧W.cell? ⟨q,off+k*3+2,none⟩=some ↑s.held:=by
 obtain ⟨vo,m,_⟩:=h;obtain ⟨_,o,p,n,_,_,d⟩:=m.sl;injection n with b _ _
 subst b;have r:=(gS.1 e).1;obtain ⟨q,off,b,l,f,g⟩:=d (by omega);refine ⟨q,off,b,l,f,?_,?_⟩
 ·have a:=zdp (vo:=vo) (i:=0) e (by omega);rw[Nat.add_zero] at a;exact g _ _ (a.trans rfl)
 ·have a:=zdp (vo:=vo) (i:=2) e (by omega);have j:=g _ _ (a.trans (show (s.cells (vo k))[2]? =some ↑s.held from rfl))
  rwa [←Nat.add_assoc] at j
end Ho
namespace Ho
open Go.RowKit Go.Shelf Vb Ac
attribute [local go_sem] Oper.semAt_some
theorem ztg (n:Nat):madeCells #[()] n=(zaX (List.replicate n 0)).toArray:=by
 rw[ziO]
 congr 1
 unfold zcK
 congr 1
 apply List.ext_getElem?
 intro i;rw[List.getElem?_map,List.getElem?_replicate];by_cases h:i<n
 ·rw[if_pos h,List.getElem?_range h];rfl
 ·rw[if_neg h,List.getElem?_eq_none (by simp;omega)];rfl
def zcV (ls:List LotS) (N:Nat) (ss:List Stand):List Int:=((zdK ls)++ss).foldl ziW (List.replicate N 0)
theorem zop {ls:List LotS} {N:Nat} {ss:List Stand} (a:∀s∈zdK ls,0≤s.bidder) (b:∀s∈ss,0≤s.bidder) {i:Nat} (c:i<N):(zcV ls N ss)[i]? =some (za5 (zdK ls++ss) i):=by
 unfold zcV;rw[zpB _ _ i 0 (fun s d=>(List.mem_append.1 d).elim (a s) (b s)) (by rw[List.getElem?_replicate,if_pos c]),Int.zero_add]
theorem zoq {H:House} (e:HInv H) (h:SPre H) {k m:Nat} {l:LotS} (j:H.lots[k]? =some l) {i:Nat} (f:i<H.accs.length):0≤za5 (zdK (H.lots.take k)++l.stands.take m) i∧za5 (zdK (H.lots.take k)++l.stands.take m) i≤1099511627776:=by
 have b:∀s∈zdK H.lots,0≤s.held:=fun s c=>by
  obtain ⟨x,n,c⟩:=List.mem_flatMap.1 c;exact ((e.lots x n).held s c).1
 have a:zdK H.lots=(zdK (H.lots.take k)++l.stands.take m)++(l.stands.drop m++zdK (H.lots.drop (k+1))):=by
  have g:H.lots=H.lots.take k++(l::H.lots.drop (k+1)):=by
   have d:=(gS.1 j);rw[←d.2,←List.drop_eq_getElem_cons d.1,List.take_append_drop]
  conv=>lhs;rw[g]
  unfold zdK;rw[List.flatMap_append,List.flatMap_cons,List.append_assoc,←List.append_assoc (l.stands.take m),List.take_append_drop]
 have d:=zon e h (gE f);have o:=(e.accs _ (List.getElem_mem f)).1.sum;rw[a,zhf] at d;rw[a] at b;have p:=zlB (fun s c=>b s (List.mem_append_left _ c)) i;have q:=zlB (fun s c=>b s (List.mem_append_right _ c)) i
 omega
theorem zor {N:Nat}:∀{acs:List Acc},zba acs→0≤zbg acs∧zbg acs≤1099511627776*acs.length
 |[],_=>by simp[zbg]
 |a::acs,h=>by
  have h1:=zor (N:=N) (acs:=acs) fun x hx=>h x (.tail _ hx);have h2:=(h a (.head _)).1.sp;unfold zai at h2;simp only[zbg,List.length_cons]
  omega
theorem zqX {ls:List LotS} {N m a:Nat} {l:LotS} {s:Stand} {x:Int} (d:l.stands[m]? =some s) (c:s.bidder=a) (b:(zcV ls N (l.stands.take m))[a]? =some x):zcV ls N (l.stands.take (m+1))=(zcV ls N (l.stands.take m)).set a (x+s.held):=by
 unfold zcV at b ⊢;rw[zaw d,←List.append_assoc,ztd];unfold ziW;rw[c,Int.toNat_natCast];exact zbP _ b
theorem zqY {ls:List LotS} {N k:Nat} {l:LotS} (a:ls[k]? =some l):zcV (ls.take (k+1)) N []=zcV (ls.take k) N l.stands:=by
 unfold zcV zdK;rw[zaw a,List.flatMap_append,List.append_nil]
 simp
theorem zmS {W:World} {T:Nat→Part} {h K:Nat} {H:House} (hH:zaf W T h K H) (hI:HInv H) (c:SPre H):
  Calls Tryz.prog 10 #[.pointer (some ⟨h,0,none⟩)] W fun e W'=>e=.returned ↑true∧Below W W W':=by
 obtain ⟨N,hN⟩:=nm (H.accs.length);obtain ⟨L,hL⟩:=nm (H.lots.length);have hNb:N≤4096:=by have p:=hI.names;have h2:=hI.nlen;omega
 have hLb:L≤4096:=by have p:=hI.llen;omega
 have hTB:=fun (w:World) (hw:Below W W w)=>zgQ (hH.grow hw) (by have p:=hI.sales;have h2:zb5 H.lots≤H.lots.length:=List.countP_le_length;omega) c.pays;have HTB:=hid hTB;have o:=hid hN;have HLL:=hid hL;have ac:=fun (w:World) (hw:Below W W w)=>ziX (hH.grow hw);rw[←hN] at ac;have HBI:=hid ac;have ad:=fun (w:World) (hw:Below W W w)=>ztf (hH.grow hw);rw[←hL] at ad;have HLO:=hid ad;have HH:=hid hH;have D:=hid hI;have HS:=hid c;have hmk:∀V:World,(Instr.makeSlice 49 ↑(N:Int) ↑(N:Int)).run Tryz.prog V=.ok (.slice (some ⟨V,0,none⟩) N N) (V.alloc (.cells (madeCells #[()] N) 2)):=fun V=>
  run_make_row' (P:=Tryz.prog) 49 2 ↑() 8 Tryz.underlying49 (by kernel_rfl) rfl .i64 .i64 N (by omega) (by omega) V
 clear hTB hN hL ac ad hH hI c;go_enter Tryz.func10,Tryz.ntmps10;go_wp2_with fail
 refine (HBI.out _ bR).mono ?_;rintro e w1 ⟨rfl,j⟩;rw[j];clear j;obtain ⟨V,hV⟩:=nm (W.alloc (.cells (madeCells #[()] N) 2));have HBV:=hid (show Below W W V by rw[hV];exact qA _);have HGH:=hid (show Ac.Blk V W.heap.size 2 (zaX (zcV (H.lots.take 0) N [])).toArray by
  rw[hV,ztg];exact Ac.Blk.new _ _ _)
 go_upto_block 0 with fail
 rw[←hV];clear hV;go_wp2_with fail
 go_loopw [5] (fun i wr=>∃k:Nat,k≤L∧i=.int .i64 k∧Below W W wr∧Ac.Blk wr W.heap.size 2 (zaX (zcV (H.lots.take k) N [])).toArray) (fun i _=>L-(intOf i).toNat)
 case atStart=>exact ⟨0,zL,rfl,HBV.out,HGH.out⟩
 case round=>
  obtain ⟨k,hk,rfl,hb,X⟩:=hrel;have HB:=hid hb;have HG:=hid X;clear hb X;by_cases hlt:k<L
  ·obtain ⟨l,hl⟩:∃l,H.lots[k]? =some l:=⟨_,gE (by rw[←HLL.out];exact hlt)⟩;have G:=D.out.lots l (mG hl);have HL:=hid hl;have ab:=hid G;obtain ⟨n,hn⟩:=nm (l.stands.length);have hnb:n≤4096:=by
    have p:=G.few;have h2:=o.out
    omega
   have HST:=hid (fun (w:World) (hw:Below W W w)=>zp1 (HH.out.grow hw) hl (by omega) (fun s d=>by have:=G.offs s d;omega));rw[←hn] at HST;have HN:=hid hn;have e5:(0:Int)≤(k:Int):=by omega
   have e6:(k:Int)<(L:Int):=by omega
   have wk:IntKind.i64.wrap ((k:Int)+1)=(k:Int)+1:=iW _ (by omega);clear hl G hn;go_wp2_with fail
   refine (HLO.out _ HB.out).mono ?_;rintro e w1 ⟨rfl,j⟩;rw[j];clear j;go_wp2_with fail
   refine (HST.out _ HB.out).mono ?_;rintro e Z ⟨sA,sc,rfl,hfr,v⟩;have HFR:=hid hfr;have HB2:=hid (HB.out.trans (v.mono HB.out.size));have HG2:=hid (HG.out.grow v);have hgr:W.heap.size<wr.heap.size:=HG.out.lt;have HGR:=hid hgr;clear hfr v hgr;go_wp2_with fail
   go_loopw [8] (fun i ws=>∃m:Nat,m≤n∧i=.int .i64 m∧Chg (·=W.heap.size) Z ws∧Ac.Blk ws W.heap.size 2 (zaX (zcV (H.lots.take k) N (l.stands.take m))).toArray) (fun i _=>n-(intOf i).toNat)
   case atStart=>exact ⟨0,zL,rfl,Chg.refl _ _,HG2.out⟩
   case round=>
    obtain ⟨m,hm,rfl,hc,X⟩:=hrel;have HC:=hid hc;have F:=hid X;have HBI2:=hid (show Below W W wr from HB2.out.trans (hc.below (B:=W.heap.size) (by have:=HB2.out.size;omega) fun b hb e=>by omega));clear hc X;by_cases hmn:m<n
    ·obtain ⟨s,d⟩:∃s,l.stands[m]? =some s:=⟨_,gE (by rw[←HN.out];exact hmn)⟩;obtain ⟨q,off,hA,hlo,hq,c0,c2⟩:=zu1 (HN.out▸HFR.out) d;subst hA;have hbd:=ab.out.bid s (mG d);obtain ⟨f,J⟩:∃f:Nat,s.bidder=f:=⟨s.bidder.toNat,(Int.toNat_of_nonneg hbd.1).symm⟩;rw[J] at c0 hbd;have hbN:f<N:=by have:=o.out;omega
     have Q:¬q=W.heap.size:=by have:=HGR.out;omega
     have s0:wr.cell? ⟨q,off+m*3,none⟩=some ↑f:=cg HC.out c0 hq Q;have s2:wr.cell? ⟨q,off+m*3+2,none⟩=some ↑s.held:=cg HC.out c2 hq Q;have R:=zop (N:=N) (ls:=H.lots.take k) (ss:=l.stands.take m) (fun s d=>by
      obtain ⟨x,Y,d⟩:=List.mem_flatMap.1 d;exact ((D.out.lots x (List.mem_of_mem_take Y)).bid s d).1) (fun s d=>(ab.out.bid s (List.mem_of_mem_take d)).1) hbN
     have hle:=zoq D.out HS.out HL.out (m:=m) (i:=f) (by have:=o.out;omega);have g:=zoq D.out HS.out HL.out (m:=m+1) (i:=f) (by have:=o.out;omega);rw[zaw d,←List.append_assoc,zhf] at g;have p:za5 [s] f=s.held:=by
      simp only[za5];rw[if_pos J,Int.add_zero]
     rw[p] at g;obtain ⟨x,Y⟩:=nm (za5 (zdK (H.lots.take k)++l.stands.take m) f);rw[←Y] at R hle g;have z:=ab.out.held s (mG d);obtain ⟨y,hy⟩:=nm (s.held);rw[←hy] at s2 g z;unfold zai at z;have g0:wr.cell? ⟨W,f,none⟩=some ↑x:=(F.out.cell f).trans (by simp[zaX,R]);have gf:=F.out.frozen f;have wx:IntKind.i64.wrap (x+y)=x+y:=iW _ (by omega);have wm:IntKind.i64.wrap ((m:Int)+1)=(m:Int)+1:=iW _ (by omega);have i1:(0:Int)≤(m:Int):=by omega
     have i2:(m:Int)<(n:Int):=by omega
     have j1:(0:Int)≤(f:Int):=by omega
     have j2:(f:Int)<(N:Int):=by omega
     have t1:decide ((f:Int)<0)=false:=decide_eq_false (by omega);have t2:decide ((N:Int)≤(f:Int))=false:=decide_eq_false (by omega);have t3:decide (y<0)=false:=decide_eq_false (by omega);have HSM:=hid d;have HBN:=hid J;have HTL:=hid R;have HY:=hid hy;have lq:q<wr.heap.size:=lL hq HC.out.size;clear d J hle g p Y z c0 c2 hbd R hy hlo;go_wp2_with fail
     refine zad (Chg (·=W.heap.size) wr) [] (by kernel_rfl) ((Chg.refl _ wr).grow bR.drew) (fun c=>?_);refine tp 0 c ?_;refine tp 1 c ?_;refine tp 2 c ?_;refine tp 3 c ?_;refine tp 4 c ?_;have qq:=hid fun (w':World) (hSw:(Chg (·=W.heap.size) wr) w')=>And.intro (cg hSw s0 lq Q)<|cg hSw s2 lq Q;refine tl 5 c qq ?_;refine tp 6 c ?_;refine tp 7 c ?_;refine tp 8 c ?_;refine tp 9 c ?_;refine tp 10 c ?_;refine tl 11 c qq ?_;refine tp 12 c ?_;refine tp 14 c ?_;refine tp 15 c ?_;refine tp 16 c ?_;refine tp 17 c ?_;refine tl 18 c qq ?_;refine stp 13 fun K hK=>?_;go_simp;refine hK.out _ _ ?_ (fun c=>?_)
     ·exact c
     clear hK K
     try simp only[Act.put,pb,pz,ps]
     refine tp 19 c ?_;refine tp 20 c ?_;refine stp 21 fun K hK=>?_;go_simp;refine hK.out _ _ ?_ (fun c=>?_)
     ·exact c.trans (Chg.set _ ⟨W,f,none⟩ _)
     clear hK K
     try simp only[Act.put,pb,pz,ps]
     refine zac (by kernel_rfl) ?_ _;go_wp2_with fail
     go_roundw
     case rel=>
      refine ⟨m+1,by omega,by go_num,(HC.out.trans (Chg.set wr ⟨W,f,none⟩ _)).grow bR.drew,?_⟩;have p:=F.out.set_ f ↑(x+y:Int);have h2:=zqX HSM.out HBN.out HTL.out;rw[←HY.out] at h2;rw[zkq,←h2] at p;exact p.drewN 1
     case measure=>simp[intOf];omega
    ·go_wp2_with fail
     go_roundw
     case rel=>
      have hmn:m=l.stands.length:=by have:=HN.out;omega
      refine ⟨k+1,by omega,by go_num,HBI2.out,?_⟩;have p:=F.out;rw[hmn,List.take_length,←zqY HL.out] at p;exact p
     case measure=>simp[intOf];omega
  ·have hkL:k=H.lots.length:=by have:=HLL.out;omega
   have HG3:=hid (show Ac.Blk wr W.heap.size 2 (zaX (zcV H.lots N [])).toArray by
    have p:=HG.out
    rwa [hkL,List.take_length] at p)
   clear hkL;go_wp2_with fail
   refine (HLO.out _ HB.out).mono ?_;rintro e w1 ⟨rfl,j⟩;rw[j];clear j;rename World=>V3;go_wp2_with fail
   go_loopw [3,9] (fun sp i wr=>∃k:Nat,k≤N∧i=.int .i64 k∧sp=.int .i64 (zbg (H.accs.take k))∧Below W W wr∧Ac.Blk wr W.heap.size 2 (zaX (zcV H.lots N [])).toArray) (fun _ i _=>N-(intOf i).toNat)
   case atStart=>exact ⟨0,zL,rfl,rfl,HB.out,HG3.out⟩
   case round=>
    obtain ⟨i,hi,rfl,rfl,hb,X⟩:=hrel;have r:=hid hb;have aa:=hid X;clear hb X;by_cases hlt:i<N
    ·obtain ⟨a,ha⟩:∃a,H.accs[i]? =some a:=⟨_,gE (by rw[←o.out];exact hlt)⟩;obtain ⟨U,hnm⟩:∃U,H.names[i]? =some U:=⟨_,gE (by rw[←D.out.names,←o.out];exact hlt)⟩;have t:=D.out.accs a (mG ha);have a1:=t.1.bud;have a2:=t.1.sp;have a3:=t.1.sum;have a4:=HOk.nn t.1.h;have a5:=t.2
     unfold zai at a1 a2;unfold Acc.Fine at a5;have O:=zop (N:=N) (ls:=H.lots) (ss:=[]) (i:=i) (fun s d=>by
      obtain ⟨x,Y,d⟩:=List.mem_flatMap.1 d;exact ((D.out.lots x Y).bid s d).1) (fun s d=>by cases d) hlt
     rw[List.append_nil,zon D.out HS.out ha] at O;have HBD:=hid (zfJ (HH.out.grow r.out) (fun a ha=>(D.out.accs a ha).1) ha hnm);have hsl:=zor (N:=N) (acs:=H.accs.take i) (fun x Y=>D.out.accs x (List.mem_of_mem_take Y));rw[List.length_take] at hsl;obtain ⟨C,z⟩:=nm (zas a.M);rw[←z] at HBD a3 a4 a5 O;obtain ⟨su,hsu⟩:=nm (zbg (H.accs.take i));rw[←hsu] at hsl ⊢;have g0:wr.cell? ⟨W,i,none⟩=some ↑C:=(aa.out.cell i).trans (by simp[zaX,O]);have lg:=aa.out.lt;have w1:IntKind.i64.wrap (C+a.sp)=C+a.sp:=iW _ (by omega);have Z:IntKind.i64.wrap (su+a.sp)=su+a.sp:=iW _ (by omega);have w3:IntKind.i64.wrap ((i:Int)+1)=(i:Int)+1:=iW _ (by omega);have i1:(0:Int)≤(i:Int):=by omega
     have i2:(i:Int)<(N:Int):=by omega
     have t1:decide (C<0)=false:=decide_eq_false (by omega);have t2:decide (a.sp<0)=false:=decide_eq_false (by omega);have t3:decide (a.bud<C+a.sp)=false:=decide_eq_false (by omega);have HA:=hid ha;have HSU:=hid hsu;clear t ha hnm O hsl a1 a2 a3 a4 a5 z hsu;go_wp2_with fail
     refine HBD.out.mono ?_;rintro e Z ⟨rfl,v⟩;have E:=hid v;clear v;obtain ⟨w3,S⟩:=nm (Z.alloc (.cells #[.string U,a.bud,C,a.sp] 62));have I:Below wr wr w3:=by rw[S];exact E.out.alloc E.out.size _
     have A:Ac.Blk w3 Z.heap.size 62 #[.string U,a.bud,C,a.sp]:=by rw[S];exact Ac.Blk.new _ _ _
     have HB6:=hid (r.out.trans (I.mono r.out.size));have HG6:=hid (aa.out.grow I);have b1:w3.cell? ⟨Z,1,none⟩=some ↑a.bud:=A.cell 1;have b2:w3.cell? ⟨Z,2,none⟩=some ↑C:=A.cell 2;have b3:w3.cell? ⟨Z,3,none⟩=some ↑a.sp:=A.cell 3;have g3:w3.cell? ⟨W,i,none⟩=some ↑C:=qc I g0 lg;have lb:=A.lt;clear A I g0;have hne:decide (C=C)=true:=by simp
     go_upto_region 19 with fail
     rw[←S];clear S
     go_quiet (fail)
     go_wp2_with fail
     go_roundw
     case rel=>
      refine ⟨i+1,by omega,by go_num,?_,below_drewN HB6.out _,HG6.out.drewN _⟩;rw[zaw HA.out,ziU,HSU.out]
      simp[zbg]
     case measure=>simp[intOf];omega
    ·have hiN:i=H.accs.length:=by have:=o.out;omega
     have HSP:=hid (show zbg (H.accs.take i)=zbw H.sales by rw[hiN,List.take_length];exact HS.out.spent);clear hiN;go_wp2_with fail
     refine (HTB.out _ r.out).mono ?_;rintro e w5 ⟨rfl,hb5⟩;have E:=hid (r.out.trans (hb5.mono r.out.size));clear hb5;rw[HSP.out];have hte:((zbw H.sales)==(zbw H.sales))=true:=by simp
     go_wp2_with fail
     go_ret;exact ⟨rfl,E.out⟩
end Ho
end Go.Proofs.YthoaidfpgijbfaaGreat

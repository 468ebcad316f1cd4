/- Joined by program. -/
import Derived.Test.YtckdpejdnejhfaaGreatZb
set_option linter.all false
set_option maxRecDepth 100000
set_option maxHeartbeats 32000000
namespace Go.Proofs.YtckdpejdnejhfaaGreat
open Lib (hid)
namespace Ho
open Go.RowKit Vb Ac
open Go.MapKept (IsKey)
def zdg (g:Nat):Value:=.func (.func 103) #[] #[.pointer (some ⟨g,0,none⟩)]
theorem zfF {W:World} {p r g m:Nat} {now k i:Int} {F:Int→Option Int} (l:Blk W p 182 #[now,.pointer (some ⟨r,0,none⟩),.map (some m)]) (j:Blk W g 74 #[.pointer (some ⟨p,0,none⟩)]) (c:zbh (.int .i64) (.int .i64) W m F):
  Calls Tryz.prog 103 #[k,i,.pointer (some ⟨g,0,none⟩)] W fun e W'=>e=.returned (.tuple #[])∧zbh (.int .i64) (.int .i64) W' m (upd F k (if i<0 then none else some i))∧Chg (·=m) W W':=by
 have o:W.cell? ⟨g,0,none⟩=some (.pointer (some ⟨p,0,none⟩)):=j.cell 0;have q:W.cell? ⟨p,2,none⟩=some (.map (some m)):=l.cell 2;by_cases h:i<0
 ·rw[if_pos h];obtain ⟨W',n,a,b⟩:=c.del (P:=Tryz.prog) (mty:=180) (kt:=2) (et:=3) zhT zhR Tryz.underlying180 Tryz.underlying2 k 0 2;have d:=hid a;have f:=hid b;clear l j c a b;go_enter Tryz.func103,Tryz.ntmps103;go_wp2_with fail
  go_end0
  exact ⟨rfl,d.out,f.out⟩
 ·rw[if_neg h];obtain ⟨W',n,a,b⟩:=c.put (P:=Tryz.prog) (mty:=180) (kt:=2) (et:=3) zhT zhR Tryz.underlying180 Tryz.underlying2 k i;have d:=hid a;have f:=hid b;clear l j c a b;go_enter Tryz.func103,Tryz.ntmps103;go_wp2_with fail
  go_end0
  exact ⟨rfl,d.out,f.out⟩
theorem zmb {W:World} {R:Nat→Prop} {p r g m:Nat} {now:Int} {v:Value} {F:Int→Option Int} {l:List Du} (h:TickI W R p r g m now v F l):
  Calls Tryz.prog 174 #[.pointer (some ⟨r,0,none⟩)] W fun e W'=>e=.returned ↑l.length∧W'=W:=by
 obtain ⟨A,a,rfl⟩:=h.row.form;have b:W.cell? ⟨r,0,none⟩=some (.slice A l.length a):=h.br.cell 0;clear h;go_enter Tryz.func174,Tryz.ntmps174;go_wp2_with fail
 go_ret;exact ⟨rfl,rfl⟩
theorem zek {W:World} {R:Nat→Prop} {p r g m:Nat} {now:Int} {v:Value} {F:Int→Option Int} {l:List Du} (h:TickI W R p r g m now v F l) {i j:Nat} {a b:Du} (z:l[i]? =some a) (A:l[j]? =some b):
  Calls Tryz.prog 210 #[.pointer (some ⟨r,0,none⟩),i,j] W fun e W'=>e=.returned ↑(ltD a b:Bool)∧Below W W W':=by
 obtain ⟨q,y,rfl,s,I,J,_,_,H⟩:=h.at_ z;obtain ⟨q',D,f,_,L,M,_,_,_⟩:=h.at_ A;injection f with f _ hv2
 injection f with f
 injection f with f _ _
 subst f hv2;have O:W.cell? ⟨r,0,none⟩=some (.slice (some ⟨q,0,none⟩) l.length y):=h.br.cell 0;have N:=h.br.lt;have Z:=(gS.1 z).1;have lj:=(gS.1 A).1;have U:(0:Int)≤(i:Int):=by omega
 have V:(i:Int)<(l.length:Int):=by omega
 have X:(0:Int)≤(j:Int):=by omega
 have Y:(j:Int)<(l.length:Int):=by omega
 have C:=hid (zni a b);have k:∀w,Calls Tryz.prog 111 #[.agg #[a.1,a.2],.agg #[b.1,b.2]] w fun e B=>e=.returned ↑(zeu a b:Int)∧Below w w B:=zpH a b;have k:=hid k;obtain ⟨c,G⟩:=nm (zeu a b);rw[←G] at C k;obtain ⟨P,Q⟩:=a;obtain ⟨S,T⟩:=b;simp only at I J L M k;clear h z A G;go_enter Tryz.func210,Tryz.ntmps210;go_wp2_with fail
 refine zac (Below W W) [] (by kernel_rfl) (bR.drew) (fun d=>?_);refine tp 0 d ?_;refine tp 1 d ?_;refine tp 2 d ?_;have t:=hid fun (B:World) (n:(Below W W) B)=>And.intro (qc n O N)<|And.intro (qc n I s)<|And.intro (qc n J s)<|And.intro (qc n L s)<|qc n M s;refine tl 3 d t ?_;refine tp 4 d ?_;refine tp 5 d ?_;refine tl 6 d t ?_;refine tp 7 d ?_;refine tp 8 d ?_;refine tp 9 d ?_;refine tl 10 d t ?_;refine tp 11 d ?_;refine tp 12 d ?_;refine tl 13 d t ?_;refine stp 14 fun K E=>?_;go_simp;refine (k.out _).mono ?_;rintro e w7 ⟨rfl,o⟩;refine E.out _ _ ?_ (fun d=>?_)
 ·exact (Below.refl W.heap.size W).drew.trans (o.mono (by simp))
 clear E K
 try simp only[Act.put,pb,pz,ps]
 have x:=hid ((Below.refl W.heap.size W).drew.trans (o.mono (by simp)));clear o;refine tp 15 d ?_;refine tp 16 d ?_;refine zaa (by kernel_rfl) ?_ _;clear d;go_wp2_with fail
 go_ret;exact ⟨by rw[←C.out];rfl,x.out⟩
theorem zmj {α:Type} {l:List α} {i j:Nat} {a b:α} (c:l[i]? =some a) (d:l[j]? =some b):swp l i j=(l.set i b).set j a:=by simp[swp,c,d]
theorem zb9 {α:Type} {l:List α} {i j:Nat} {a b:α} (c:l[i]? =some a) (d:l[j]? =some b) (k:Nat):(swp l i j)[k]? =if k=j then some a else if k=i then some b else l[k]? :=by
 have e:=(gS.1 c).1;have f:=(gS.1 d).1;rw[zmj c d,List.getElem?_set,List.getElem?_set,List.length_set];by_cases e1:j=k
 ·subst e1;simp[f]
 ·by_cases e2:i=k
  ·subst e2;simp[e1,e,show ¬i=j from fun h=>e1 h.symm]
  ·simp[e1,e2,show ¬k=j from fun h=>e1 h.symm,show ¬k=i from fun h=>e2 h.symm]
theorem zel {W:World} {R:Nat→Prop} {p r g m:Nat} {now:Int} {v:Value} {F:Int→Option Int} {l:List Du} (h:TickI W R p r g m now v F l) {i j:Nat} {a b:Du} (hi:l[i]? =some a) (Q:l[j]? =some b):
  Calls Tryz.prog 213 #[.pointer (some ⟨r,0,none⟩),i,j] W fun e W'=>e=.returned (.tuple #[])∧(∃F',TickI W' R p r g m now v F' (swp l i j))∧Chg R W W':=by
 obtain ⟨q,P,hv,hq,i0,i1,fi0,fi1,hcap⟩:=h.at_ hi;obtain ⟨q',cap',y,_,j0,j1,fj0,fj1,_⟩:=h.at_ Q;rw[hv] at y;injection y with y _ hv2
 injection y with y
 injection y with y _ _
 subst y hv2;have r0:W.cell? ⟨r,0,none⟩=some (.slice (some ⟨q,0,none⟩) l.length P):=(h.br.cell 0).trans (by rw[hv];rfl);have lr:=h.br.lt;have li:=(gS.1 hi).1;have lj:=(gS.1 Q).1;have e1:(0:Int)≤(i:Int):=by omega
 have e2:(i:Int)<(l.length:Int):=by omega
 have e3:(0:Int)≤(j:Int):=by omega
 have e4:(j:Int)<(l.length:Int):=by omega
 have x:=h.row;rw[hv] at x;have hRq:=x.blk q rfl;obtain ⟨V,I⟩:=nm ((W.setCell ⟨q,i*2,none⟩ ↑b.1).setCell ⟨q,i*2+1,none⟩ ↑b.2);have n:RowAt V (fun b=>R b∧b≠p∧b≠r∧b≠g) 161 2 (.slice (some ⟨q,0,none⟩) l.length P) l.length (zbu (l.set i b)):=by
  rw[I,zfD];exact (x.set (i*2) _).set (i*2+1) _
 have vl:∃d,(l.set i b)[j]? =some d:=⟨_,gE (by simpa using lj)⟩;obtain ⟨d,hd⟩:=vl;have v0:V.cell? ⟨q,j*2,none⟩=some ↑d.1:=(n.own.cellAt (j*2) (by omega)).trans (zb7 hd).1;have v1:V.cell? ⟨q,j*2+1,none⟩=some ↑d.2:=(n.own.cellAt (j*2+1) (by omega)).trans (zb7 hd).2;have fv0:V.frozen? ⟨q,j*2,none⟩=false:=n.own.frozenAt _;have fv1:V.frozen? ⟨q,j*2+1,none⟩=false:=n.own.frozenAt _;obtain ⟨U,hU⟩:=nm (((V.setCell ⟨q,j*2,none⟩ ↑a.1).setCell ⟨q,j*2+1,none⟩ ↑a.2).drew);have C:Chg (·=q) W U:=by
  rw[hU,I];exact ((((Chg.set W ⟨q,i*2,none⟩ _).trans (Chg.set _ ⟨q,i*2+1,none⟩ _)).trans (Chg.set _ ⟨q,j*2,none⟩ _)).trans (Chg.set _ ⟨q,j*2+1,none⟩ _)).grow bR.drew
 have J:RowAt U (fun b=>R b∧b≠p∧b≠r∧b≠g) 161 2 v (swp l i j).length (zbu (swp l i j)):=by
  have h1:=n.set (j*2) ↑a.1;have h2:=RowAt.grow (h1.set (j*2+1) ↑a.2) bR.drew;rw[zd0,hv,hU,zmj hi Q,zfD];exact h2
 have B:q≠p∧q≠r∧q≠g:=hRq.2;have hnm:q≠m:=h.map.not_row (hv▸x) (by rw[hv];rfl);have X:=h.bp.chg C (Ne.symm B.1);have aa:=h.br.chg C (Ne.symm B.2.1);have T:=h.bg.chg C (Ne.symm B.2.2);have hmU:=h.map.chg C (Ne.symm hnm);have ai:(swp l i j)[i]? =some b:=by
  rw[zb9 hi Q];by_cases e:i=j
  ·subst e;rw[hi] at Q;cases Q;simp
  ·simp[e]
 have aj:(swp l i j)[j]? =some a:=by rw[zb9 hi Q];simp
 have HU:=hid hU;have HRU:=hid J;have O:=hid X;have o:=hid aa;have M:=hid T;have N:=hid hmU;have HCU:=hid C;have HRq:=hid hRq.1;have HNM:=hid hnm;have HAI:=hid ai;have HAJ:=hid aj;have HV:=hid hv;have H:=hid h;have HI:=hid hi;have HJ:=hid Q;obtain ⟨a1,a2⟩:=a;obtain ⟨b1,b2⟩:=b;simp only at i0 i1 j0 j1 HU I;have HV1:=hid I;clear hd n I h hi Q hv x hRq hU C J B hnm X aa T hmU ai aj;go_enter Tryz.func213,Tryz.ntmps213;go_wp2_with fail
 refine zac (Below W W) [9,25,26,27] (by kernel_rfl) (bR.drew) (fun f=>?_);refine tpW 9 ?_;refine tpD [1,2,3,24,25,26,27] 0 f ?_;refine tpD [2,3,24,25,26,27] 1 f ?_;refine tpD [3,24,25,26,27] 2 f ?_;have qq:=hid fun (w':World) (c:(Below W W) w')=>And.intro (qc c r0 lr)<|And.intro (qc c i0 hq)<|And.intro (qc c i1 hq)<|And.intro (qc c j0 hq)<|qc c j1 hq;refine tlD [24,25,26,27] 3 f qq ?_;refine tpD [24,25,26,27] 4 f ?_;refine tpD [6,7,8,24,25,26,27] 5 f ?_;refine tpD [7,8,24,25,26,27] 6 f ?_;refine tpD [8,24,25,26,27] 7 f ?_;refine tlD [24,25,26,27] 8 f qq ?_;refine tpD [11,12,13,15,16,24,25,26,27] 10 f ?_;refine tpD [12,13,15,16,24,25,26,27] 11 f ?_;refine tpD [13,15,16,24,25,26,27] 12 f ?_;refine tlD [15,16,24,25,26,27] 13 f qq ?_;refine tpD [15,16,24,25,26,27] 14 f ?_;refine tpD [16,24,25,26,27] 15 f ?_;refine tlD [24,25,26,27] 16 f qq ?_;refine tpD [18,19,20,22,23,24,25,26,27] 17 f ?_;refine tpD [19,20,22,23,24,25,26,27] 18 f ?_;refine tpD [20,22,23,24,25,26,27] 19 f ?_;refine tlD [22,23,24,25,26,27] 20 f qq ?_;refine tpD [22,23,24,25,26,27] 21 f ?_;refine tpD [23,24,25,26,27] 22 f ?_;refine tlD [24,25,26,27] 23 f qq ?_;refine tpD [25,26,27] 24 f ?_;refine stf 25 fun K G=>?_;go_simp;refine G.out _ _ ?_;clear G K
 try simp only[Act.put,pb,pz,ps]
 refine tpW 26 ?_;refine stf 27 fun K G=>?_;rw[←HV1.out];clear f;go_simp;rw[←HU.out];refine G.out _ _ ?_;clear G K
 try simp only[Act.put,pb,pz,ps]
 refine zaa (by kernel_rfl) ?_ _;clear v0 v1 fv0 fv1 fi0 fi1 r0 i0 i1 j0 j1;have r0:U.cell? ⟨r,0,none⟩=some (.slice (some ⟨q,0,none⟩) l.length P):=(o.out.cell 0).trans (by rw[HV.out];rfl);have r1:U.cell? ⟨r,1,none⟩=some (zdg g):=o.out.cell 1;have z:=o.out.lt;have hlen:(swp l i j).length=l.length:=zd0 l i j;have t:=HRU.out;rw[HV.out,hlen] at t;have qi:U.cell? ⟨q,i*2+1,none⟩=some ↑b2:=(t.own.cellAt (i*2+1) (by omega)).trans (zb7 HAI.out).2;have qj:U.cell? ⟨q,j*2+1,none⟩=some ↑a2:=(t.own.cellAt (j*2+1) (by omega)).trans (zb7 HAJ.out).2;have lq:q<U.heap.size:=t.lt rfl;have HQJ:=hid qj;clear t hlen qj;go_wp2_with fail
 refine zac (Below U U) [13] (by kernel_rfl) (bR.drew) (fun f=>?_);refine tpD [1,2,3,13] 0 f ?_;refine tpD [2,3,13] 1 f ?_;refine tpD [3,13] 2 f ?_;refine tx 3 (v:=?_) f ?_ ?_
 rotate_left
 ·intro w' c;have q0:=qc c r0 z;have L:=qc c r1 z;have q2:=qc c qi lq;unfold zdg at L;go_simp;try with_reducible rfl
 refine tpD [5,6,7,9,10,11,13] 4 f ?_;refine tpD [6,7,9,10,11,13] 5 f ?_;refine tpD [7,9,10,11,13] 6 f ?_;refine txD [9,10,11,13] 7 (v:=?_) f ?_ ?_
 rotate_left
 ·intro w' c;have q0:=qc c r0 z;have L:=qc c r1 z;have q2:=qc c qi lq;unfold zdg at L;go_simp;try with_reducible rfl
 refine tpD [9,10,11,13] 8 f ?_;refine tpD [10,11,13] 9 f ?_;refine tpD [11,13] 10 f ?_;refine tx 11 (v:=?_) f ?_ ?_
 rotate_left
 ·intro w' c;have q0:=qc c r0 z;have L:=qc c r1 z;have q2:=qc c qi lq;unfold zdg at L;go_simp;try with_reducible rfl
 refine tp 12 f ?_;refine stf 13 fun K G=>?_;go_simp;refine (zfF (W:=U.drew) O.out M.out N.out).mono ?_;rintro e Y ⟨rfl,hmY,hcY⟩;rw[if_neg (show ¬(i:Int)<0 by omega)] at hmY;have HMY:=hid hmY;have s:=hid (show Chg (·=m) U Y from ((Chg.refl _ U).grow bR.drew).trans hcY);clear hmY hcY;refine G.out _ _ ?_;clear G K
 try simp only[Act.put,pb,pz,ps]
 refine zaa (by kernel_rfl) ?_ _;have nq:q≠m:=HNM.out;have nr:r≠m:=N.out.not_cells o.out;have np:p≠m:=N.out.not_cells O.out;have ng:g≠m:=N.out.not_cells M.out;have s0:Y.cell? ⟨r,0,none⟩=some (.slice (some ⟨q,0,none⟩) l.length P):=((o.out.chg s.out nr).cell 0).trans (by rw[HV.out];rfl);have s1:Y.cell? ⟨r,1,none⟩=some (zdg g):=(o.out.chg s.out nr).cell 1;have A:=(o.out.chg s.out nr).lt;have S:q<Y.heap.size:=lL lq s.out.size;have HRY:=hid (HRU.out.chgB s.out (fun b hb=>by rw[HV.out] at hb;cases hb;exact nq));have E:=HRY.out;rw[HV.out,zd0] at E;have yj:Y.cell? ⟨q,j*2+1,none⟩=some ↑a2:=(E.own.cellAt (j*2+1) (by omega)).trans (zb7 HAJ.out).2;have HPY:=hid (O.out.chg s.out np);have HGY:=hid (M.out.chg s.out ng);clear E;clear r0 r1 qi z lq f;go_wp2_with fail
 refine zac (Below Y Y) [13] (by kernel_rfl) (bR.drew) (fun f=>?_);refine tpD [1,2,3,13] 0 f ?_;refine tpD [2,3,13] 1 f ?_;refine tpD [3,13] 2 f ?_;refine tx 3 (v:=?_) f ?_ ?_
 rotate_left
 ·intro w' c;have q0:=qc c s0 A;have L:=qc c s1 A;have q2:=qc c yj S;unfold zdg at L;go_simp;try with_reducible rfl
 refine tpD [5,6,7,9,10,11,13] 4 f ?_;refine tpD [6,7,9,10,11,13] 5 f ?_;refine tpD [7,9,10,11,13] 6 f ?_;refine txD [9,10,11,13] 7 (v:=?_) f ?_ ?_
 rotate_left
 ·intro w' c;have q0:=qc c s0 A;have L:=qc c s1 A;have q2:=qc c yj S;unfold zdg at L;go_simp;try with_reducible rfl
 refine tpD [9,10,11,13] 8 f ?_;refine tpD [10,11,13] 9 f ?_;refine tpD [11,13] 10 f ?_;refine tx 11 (v:=?_) f ?_ ?_
 rotate_left
 ·intro w' c;have q0:=qc c s0 A;have L:=qc c s1 A;have q2:=qc c yj S;unfold zdg at L;go_simp;try with_reducible rfl
 refine tp 12 f ?_;refine stf 13 fun K G=>?_;go_simp;refine (zfF (W:=Y.drew) HPY.out HGY.out HMY.out).mono ?_;rintro e Z ⟨rfl,hmZ,hcZ⟩;rw[if_neg (show ¬(j:Int)<0 by omega)] at hmZ;have HMZ:=hid hmZ;have D:=hid (show Chg (·=m) U Z from s.out.trans (((Chg.refl _ Y).grow bR.drew).trans hcZ));clear hmZ hcZ;refine G.out _ _ ?_;clear G K
 try simp only[Act.put,pb,pz,ps]
 refine zaa (by kernel_rfl) ?_ _;clear f s0 s1 yj A S;go_wp2_with fail
 go_end0
 have h0:=H.out;have hs:=zbF.swap h0.idx (i:=i) (j:=j) (a:=a2) (b:=b2) (ms:=(swp l i j).map (·.2)) (by rw[List.getElem?_map,HI.out];rfl) (by rw[List.getElem?_map,HJ.out];rfl) (fun k=>by rw[List.getElem?_map,zb9 HI.out HJ.out];(repeat' split)<;>simp);refine ⟨rfl,⟨_,O.out.chg D.out np,o.out.chg D.out nr,M.out.chg D.out ng,HRU.out.chgB D.out (fun b hb=>by rw[HV.out] at hb;cases hb;exact nq),HMZ.out,hs,h0.inR,fun d hd=>h0.ok d ((zbS l i j).subset hd),h0.ne⟩,(HCU.out.mono fun b _ e=>e▸HRq.out).step D.out fun b _ e=>e▸h0.inR.2.2.2⟩
theorem zjg:zbg Tryz.prog 158 161 2 16:=zba Tryz.underlying158 (by omega) (z:=.agg #[(),()]) (by kernel_rfl) rfl
abbrev zfY (d:Du):Value:=.iface 161 (.agg #[.int .i64 d.1,.int .i64 d.2])
theorem zpS {W:World} {R:Nat→Prop} {p r g m:Nat} {now:Int} {v:Value} {F:Int→Option Int} {l:List Du} (h:TickI W R p r g m now v F l) {d:Du} (hd:zkc d) (hF:F d.2=none) (hn:l.length≤1099511627776):
  Calls Tryz.prog 212 #[.pointer (some ⟨r,0,none⟩),zfY d] W fun e W'=>e=.returned (.tuple #[])∧(∃v' F',TickI W' (fun b=>R b∨W.heap.size≤b) p r g m now v' F' (l++[d]))∧Chg R W W':=by
 obtain ⟨A,L,hv⟩:=h.row.form;obtain ⟨t,k⟩:=d;unfold zfY;have hta:∀w,(Instr.typeAssert (.iface 161 (.agg #[t,k])) 20 161 false).run Tryz.prog w=.ok (.agg #[t,k]) w:=fun w=>by kernel_rfl
 obtain ⟨s,B⟩:=nm (W.alloc (.cells #[t,k] 161));have M:Below W W s:=by rw[B];exact qA _
 have y:Blk s W 161 #[t,k]:=by rw[B];exact Blk.new _ _ _
 have G:=h.grow M;have nr:r≠m:=h.map.not_cells h.br;have np:p≠m:=h.map.not_cells h.bp;have ng:g≠m:=h.map.not_cells h.bg;have nD:W.heap.size≠m:=by have:=h.map.lt;omega
 have nv:∀b,v.ownBlock=some b→b≠m:=fun b hb=>h.map.not_row h.row hb;have P:s.cell? ⟨r,0,none⟩=some (.slice A l.length L):=(G.br.cell 0).trans (by rw[hv];rfl);have r1:s.cell? ⟨r,1,none⟩=some (zdg g):=G.br.cell 1;have x0:s.cell? ⟨W,0,none⟩=some ↑t:=y.cell 0;have Q:s.cell? ⟨W,1,none⟩=some ↑k:=y.cell 1;have D:=G.br.lt;have H:=y.lt;have HV:=hid hv;have HD:=hid hd;have HF:=hid hF;have HH:=hid h;have E:=hid G;have I:=hid y;have S:=hid M;have HW1:=hid B;have HN:=hid hn;have X:=hid nr;have NP:=hid np;have NG:=hid ng;have ND:=hid nD;have NV:=hid nv;clear hd hF h G y M nr np ng nD nv hn;go_enter Tryz.func212,Tryz.ntmps212;go_wp2_with fail
 rw[←B];clear B;go_wp2_with fail
 refine zac (Below s s) [11] (by kernel_rfl) (bR.drew) (fun c=>?_);refine tpD [1,2,3,11] 0 c ?_;refine tpD [2,3,11] 1 c ?_;refine tpD [3,11] 2 c ?_;refine tx 3 (v:=?_) c ?_ ?_
 rotate_left
 ·intro w' a;have q0:=qc a P D;have q1:=qc a r1 D;have q2:=qc a Q H;unfold zdg at q1;go_simp;try with_reducible rfl
 refine tpD [5,11] 4 c ?_;refine tx 5 (v:=?_) c ?_ ?_
 rotate_left
 ·intro w' a;have q0:=qc a P D;have q1:=qc a r1 D;have q2:=qc a Q H;unfold zdg at q1;go_simp;try with_reducible rfl
 refine tpD [7,8,9,10,11] 6 c ?_;refine tpD [8,9,10,11] 7 c ?_;refine tpD [9,10,11] 8 c ?_;refine txD [10,11] 9 (v:=?_) c ?_ ?_
 rotate_left
 ·intro w' a;have q0:=qc a P D;have q1:=qc a r1 D;have q2:=qc a Q H;unfold zdg at q1;go_simp;try with_reducible rfl
 refine tp 10 c ?_;refine stf 11 fun K z=>?_;go_simp;refine (zfF (W:=s.drew) E.out.bp E.out.bg E.out.map).mono ?_;rintro e Y ⟨rfl,O,hcY⟩;rw[if_neg (show ¬(l.length:Int)<0 by omega)] at O;have HMY:=hid O;have f:=hid (show Chg (·=m) s Y from ((Chg.refl _ s).grow bR.drew).trans hcY);clear O hcY;refine z.out _ _ ?_;clear z K
 try simp only[Act.put,pb,pz,ps]
 refine zaa (by kernel_rfl) ?_ _;clear c P r1 x0 Q D H;have P:Y.cell? ⟨r,0,none⟩=some (.slice A l.length L):=((E.out.br.chg f.out X.out).cell 0).trans (by rw[HV.out];rfl);have rf:∀i,Y.frozen? ⟨r,i,none⟩=false:=(E.out.br.chg f.out X.out).frozen;have x0:Y.cell? ⟨W,0,none⟩=some ↑t:=(I.out.chg f.out ND.out).cell 0;have Q:Y.cell? ⟨W,1,none⟩=some ↑k:=(I.out.chg f.out ND.out).cell 1;have D:=(E.out.br.chg f.out X.out).lt;have H:=(I.out.chg f.out ND.out).lt;have HRY:=hid (E.out.row.chgB f.out NV.out);have o:=HRY.out;rw[HV.out] at o;have HRS:=hid (RowAt.grow o ((bR.alloc lR (.cells #[t,k] 161)).drew));clear o;have HYL:=hid (lT S.out.size f.out.size);have or1:¬v.ownBlock=some r:=fun e=>(HH.out.row.blk r e).2.2.1 rfl;have ox1:¬v.ownBlock=some W.heap.size:=fun e=>by have:=HH.out.row.lt e;omega
 go_wp2_with fail
 refine zac (Chg (fun b=>v.ownBlock=some b) Y) [10] (by kernel_rfl) ((Chg.refl _ Y).grow bR.drew) (fun c=>?_);refine tp 0 c ?_;refine tp 1 c ?_;refine tp 2 c ?_;refine tp 3 c ?_;have qq:=hid fun (w':World) (a:(Chg (fun b=>v.ownBlock=some b) Y) w')=>And.intro (cg a P D or1)<|And.intro (cg a x0 H ox1)<|cg a Q H ox1;refine tl 4 c qq ?_;refine tl 5 c qq ?_;refine stp 6 fun K z=>?_;go_simp;refine z.out _ _ ?_ (fun c=>?_)
 ·exact c.grow (qA _)
 clear z K
 try simp only[Act.put,pb,pz,ps]
 refine stp 7 fun K z=>?_;refine zbR ((Y.alloc (.cells #[t,k] 161)).drew) (.tmp 23) (.tmp 25) rfl zjg rfl (.slice A l.length L) l.length (zbu l) rfl HRS.out (.slice (some ⟨Y,0,none⟩) 1 1) 1 [.int .i64 t,.int .i64 k] rfl (Sl.lit1 (Blk.new Y 161 #[t,k]) rfl) (by simp[Value.oneCell']) (by have:=HN.out;omega) (by have:=HN.out;unfold maxLen;omega) ?_;intro A3 c3 Z hrZ N;refine z.out _ _ ?_ (fun c=>?_)
 ·exact (c.step (Y:=fun b=>v.ownBlock=some b) (by rw[HV.out];exact N) fun _ _ h=>h)
 clear z K
 try simp only[Act.put,pb,pz,ps]
 have V:=hid hrZ;have n:=hid (show Chg (fun b=>v.ownBlock=some b) Y Z from (((Chg.refl _ Y).grow (qA _)).grow bR.drew).trans (by rw[HV.out];exact N));clear hrZ N;have J:=hid ((E.out.br.chg f.out X.out).chg n.out or1);obtain ⟨U,hU⟩:=nm (Z.setCell ⟨r,0,none⟩ (.slice A3 (l.length+1) c3));have T:=hid hU;clear hU;refine tpD [9,10] 8 c ?_;refine tp 9 c ?_;refine stf 10 fun K z=>?_;have f0:=J.out.frozen 0;have c0:=J.out.cell 0;go_simp;rw[←T.out];refine z.out _ _ ?_;clear z K
 try simp only[Act.put,pb,pz,ps]
 refine zaa (by kernel_rfl) ?_ _;clear c P x0 Q D H rf;go_wp2_with fail
 go_end0
 have hU:=T.out;have j:=HH.out;have G:=E.out;have C:Chg (·=r) Z U:=by rw[hU];exact Chg.set Z ⟨r,0,none⟩ _
 have opv:¬v.ownBlock=some p:=fun e=>(j.row.blk p e).2.1 rfl;have ogv:¬v.ownBlock=some g:=fun e=>(j.row.blk g e).2.2.2 rfl;have omv:¬v.ownBlock=some m:=fun e=>NV.out m e rfl;have hlW:W.heap.size≤((Y.alloc (.cells #[t,k] 161)).drew).heap.size:=lT HYL.out (by simp[World.drew]);have lp:=j.bp.lt;have D:=j.br.lt;have lg:=j.bg.lt;have hrow:=V.out.chgB C (fun b hb e=>by
  rcases V.out.blk b hb with q|q
  ·exact q.2.2.1 e
  ·omega)
 refine ⟨rfl,⟨.slice A3 (l.length+1) c3,upd F k (some (l.length:Int)),((G.bp.chg f.out NP.out).chg n.out opv).chg C j.ne.1,?_,((G.bg.chg f.out NG.out).chg n.out ogv).chg C (fun e=>j.ne.2.2 e.symm),?_,(HMY.out.chg n.out omv).chg C (fun e=>X.out e.symm),?_,⟨.inl j.inR.1,.inl j.inR.2.1,.inl j.inR.2.2.1,.inl j.inR.2.2.2⟩,?_,j.ne⟩,?_⟩
 ·rw[hU];exact J.out.set_ 0 _
 ·have:=hrow.mono (R':=fun b=>(R b∨W.heap.size≤b)∧b≠p∧b≠r∧b≠g) (fun b _ hb=>by
   rcases hb with q|q
   ·exact ⟨.inl q.1,q.2⟩
   ·exact ⟨.inr (by omega),by omega,by omega,by omega⟩)
  rw[List.length_append,zg3];exact this
 ·rw[List.map_append];have:=j.idx.snoc HF.out
  rwa [List.length_map] at this
 ·intro x hx
  rcases List.mem_append.1 hx with hx|hx
  ·exact j.ok x hx
  ·rw[List.mem_singleton.1 hx];exact HD.out
 ·exact (((Chg.of R S.out).step f.out fun b _ e=>e▸j.inR.2.2.2).step n.out fun b _ e=>(j.row.blk b e).1).step C fun b _ e=>e▸j.inR.2.1
end Ho
end Go.Proofs.YtckdpejdnejhfaaGreat

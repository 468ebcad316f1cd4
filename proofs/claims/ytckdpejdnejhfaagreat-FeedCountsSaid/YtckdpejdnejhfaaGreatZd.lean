/- Joined by program. -/
import Derived.Test.YtckdpejdnejhfaaGreatZc
set_option linter.all false
set_option maxRecDepth 100000
set_option maxHeartbeats 32000000
namespace Go.Proofs.YtckdpejdnejhfaaGreat
open Lib (hid)
namespace Ho
open Go.RowKit Vb Ac
open Go.MapKept (IsKey)
theorem zrK {W:World} {R:Nat→Prop} {p r g m:Nat} {now:Int} {v:Value} {F:Int→Option Int} {l:List Du} {d:Du} (h:TickI W R p r g m now v F (l++[d])):
  Calls Tryz.prog 211 #[.pointer (some ⟨r,0,none⟩)] W fun e W'=>e=.returned (zfY d)∧(∃v' F',TickI W' R p r g m now v' F' l)∧Chg R W W':=by
 have hk:(l++[d])[l.length]? =some d:=by simp
 obtain ⟨q,k,X,hq,i0,i1,_,_,hcap⟩:=h.at_ hk;have n:(l++[d]).length=l.length+1:=by simp
 have r0:W.cell? ⟨r,0,none⟩=some (.slice (some ⟨q,0,none⟩) (l.length+1) k):=(h.br.cell 0).trans (by rw[X,n];rfl);have f:=h.row;rw[X,n,zg3] at f;have z:RowAt W (fun b=>R b∧b≠p∧b≠r∧b≠g) 161 2 (.slice (some ⟨q,0,none⟩) l.length k) l.length (zbu l):=⟨ownsRow_pop (zkC l) f.own,f.blk⟩;have O:=h.br.lt;have nr:r≠m:=h.map.not_cells h.br;have np:p≠m:=h.map.not_cells h.bp;have ng:g≠m:=h.map.not_cells h.bg;have nq:q≠m:=h.map.not_row h.row (by rw[X];rfl);have nW:W.heap.size≠m:=by have:=h.map.lt;omega
 have J:q≠r:=(f.blk q rfl).2.2.1;obtain ⟨T,D⟩:=d;unfold zfY;simp only at i0 i1;obtain ⟨s,B⟩:=nm ((W.alloc (.cells #[T,D] 161)).drew);have C:Below W W s:=by rw[B];exact (qA _).drew
 have E:Blk s W 161 #[T,D]:=by rw[B];exact Blk.new W _ _
 have N:=h.grow C;have s0:s.cell? ⟨r,0,none⟩=some (.slice (some ⟨q,0,none⟩) (l.length+1) k):=(N.br.cell 0).trans (by rw[X,n];rfl);have sf:∀i,s.frozen? ⟨r,i,none⟩=false:=N.br.frozen;have Z:=N.br.lt;have hint:∀w,(Instr.makeInterface 161 (.agg #[T,D])).run Tryz.prog w=.ok (.iface 161 (.agg #[T,D])) w:=fun w=>by kernel_rfl
 obtain ⟨U,hU⟩:=nm ((s.setCell ⟨r,0,none⟩ (.slice (some ⟨q,0,none⟩) l.length k)).drew);have y:Chg (·=r) s U:=by rw[hU];exact (Chg.set s ⟨r,0,none⟩ _).grow bR.drew
 have o:Chg (·=r) W U:=(Chg.of _ C).trans y;have HU:=hid hU;have HCU:=hid o;have Q:=hid (h.bp.chg o h.ne.1);have P:=hid (h.bg.chg o (fun e=>h.ne.2.2 e.symm));have HMU:=hid (h.map.chg o (fun e=>nr e.symm));have A:=hid (E.chg y (by have:=h.br.lt;show ¬W.heap.size=r;omega));have HQU:=hid (z.chgB o (fun b hb=>by cases hb;exact J));have S:=hid (show Blk U r 202 #[.slice (some ⟨q,0,none⟩) l.length k,zdg g] by rw[hU];exact (N.br.set_ 0 (.slice (some ⟨q,0,none⟩) l.length k)).drewN 1);clear y o hU;have H:=hid h;have H1:=hid N;have HP:=hid z;have HD1:=hid E;have HB1:=hid C;have HW1:=hid B;have NR:=hid nr;have NP:=hid np;have NG:=hid ng;have NQ:=hid nq;have NW:=hid nW;have NQR:=hid J;have hw1:IntKind.i64.wrap (l.length:Int)=l.length:=by
  have:=f.max;unfold maxLen at this;exact iW _ (by omega)
 have e1:(0:Int)≤(l.length:Int):=by omega
 have e2:(l.length:Int)<(l.length:Int)+1:=by omega
 have e3:l.length≤k:=by omega
 clear B h N z E C nr np ng nq nW hk n f J X;go_enter Tryz.func211,Tryz.ntmps211;go_wp2_with fail
 refine zac (Below W W) [13] (by kernel_rfl) (bR.drew) (fun a=>?_);refine tp 0 a ?_;refine tp 1 a ?_;refine tp 2 a ?_;have L:=hid fun (w':World) (c:(Below W W) w')=>And.intro (qc c r0 O)<|And.intro (qc c i0 hq)<|qc c i1 hq;refine tl 3 a L ?_;refine tp 4 a ?_;refine tp 5 a ?_;refine tp 6 a ?_;refine tl 7 a L ?_;refine tp 8 a ?_;refine tp 9 a ?_;refine tp 10 a ?_;refine tl 11 a L ?_;refine stp 12 fun K t=>?_;go_simp;refine t.out _ _ ?_ (fun a=>?_)
 ·exact a.alloc lR _
 clear t K
 try simp only[Act.put,pb,pz,ps]
 refine stf 13 fun K t=>?_;go_simp;rw[←HW1.out];refine t.out _ _ ?_;clear t K
 try simp only[Act.put,pb,pz,ps]
 refine zaa (by kernel_rfl) ?_ _;clear a r0 i0 i1 O;go_wp2_with fail
 refine zac (Below s s) [14] (by kernel_rfl) (bR.drew) (fun a=>?_);refine tp 0 a ?_;refine tp 1 a ?_;refine tp 2 a ?_;refine tp 3 a ?_;have L:=hid fun (w':World) (c:(Below s s) w')=>qc c s0 Z;refine tl 4 a L ?_;refine tp 5 a ?_;refine tp 6 a ?_;refine tp 7 a ?_;refine tl 8 a L ?_;refine tp 9 a ?_;refine tp 10 a ?_;refine tl 11 a L ?_;refine tpD [13,14] 12 a ?_;refine tp 13 a ?_;refine stf 14 fun K t=>?_;go_simp;rw[←HU.out];refine t.out _ _ ?_;clear t K
 try simp only[Act.put,pb,pz,ps]
 refine zaa (by kernel_rfl) ?_ _;clear a s0 sf Z;have G:=S.out;have r1:U.cell? ⟨r,1,none⟩=some (zdg g):=G.cell 1;have O:=G.lt;have x1:U.cell? ⟨W,1,none⟩=some ↑D:=A.out.cell 1;have lx:=A.out.lt;clear G;go_wp2_with fail
 refine zac (Below U U) [6] (by kernel_rfl) (bR.drew) (fun a=>?_);refine tpD [1,2,3,6] 0 a ?_;refine tpD [2,3,6] 1 a ?_;refine tpD [3,6] 2 a ?_;refine tx 3 (v:=?_) a ?_ ?_
 rotate_left
 ·intro w' c;have q1:=qc c r1 O;have q2:=qc c x1 lx;unfold zdg at q1;go_simp;try with_reducible rfl
 refine tpD [5,6] 4 a ?_;refine tx 5 (v:=?_) a ?_ ?_
 rotate_left
 ·intro w' c;have q1:=qc c r1 O;have q2:=qc c x1 lx;unfold zdg at q1;go_simp;try with_reducible rfl
 refine stf 6 fun K t=>?_;go_simp;refine (zfF (W:=U.drew) Q.out P.out HMU.out).mono ?_;rintro e Y ⟨rfl,I,V⟩;rw[if_pos (show (-1:Int)<0 by omega)] at I;have HMY:=hid I;have j:=hid (show Chg (·=m) U Y from ((Chg.refl _ U).grow bR.drew).trans V);clear I V;refine t.out _ _ ?_;clear t K
 try simp only[Act.put,pb,pz,ps]
 refine zaa (by kernel_rfl) ?_ _;clear a r1 O x1 lx;have x0:Y.cell? ⟨W,0,none⟩=some ↑T:=(A.out.chg j.out NW.out).cell 0;have x1:Y.cell? ⟨W,1,none⟩=some ↑D:=(A.out.chg j.out NW.out).cell 1;go_wp2_with fail
 go_ret;have M:=H.out;refine ⟨rfl,⟨_,upd F D none,Q.out.chg j.out NP.out,S.out.chg j.out NR.out,P.out.chg j.out NG.out,HQU.out.chgB j.out (fun b hb=>by cases hb;exact NQ.out),HMY.out,?_,M.inR,fun x hx=>M.ok x (List.mem_append_left _ hx),M.ne⟩,(HCU.out.mono fun b _ e=>e▸M.inR.2.1).step j.out fun b _ e=>e▸M.inR.2.2.2⟩;have:=M.idx;rw[List.map_append] at this;exact zbF.pop this
end Ho
namespace Ho
open Go.RowKit Vb Ac
abbrev zhr (r:Nat):Value:=.iface 179 (.pointer (some ⟨r,0,none⟩))
def gD (l:List Du):Nat→Du:=fun k=>l.getD k (0,0)
theorem zll {l:List Du} {k:Nat} {d:Du} (h:l[k]? =some d):gD l k=d:=by simp[gD,h]
theorem zcT {l:List Du} {k:Nat} (h:k<l.length):l[k]? =some (gD l k):=by simp[gD,h]
def zaP (W:World) (R:Nat→Prop) (p r g m:Nat) (now:Int) (l:List Du):Prop:=∃v F,TickI W R p r g m now v F l
theorem zlO {k:Nat} (h:0<k):((k:Int)-1).tdiv 2=((k-1)/2:Nat):=by
 rw[show (k:Int)-1=((k-1:Nat):Int) by omega,Int.ofNat_tdiv];rfl
theorem zmm {W:World} {R:Nat→Prop} {p r g m:Nat} {now:Int} {l:List Du} (h:zaP W R p r g m now l) {n j:Nat} (V:l.length≤1099511627776) (O:n≤l.length) (Z:j<n) (hu:UpF leD (gD l) n j):
  Calls Tryz.prog 127 #[zhr r,j] W fun e W'=>e=.returned (.tuple #[])∧(∃l',zaP W' R p r g m now l'∧l'.Perm l∧zao leD (gD l') n∧∀k,n≤k→l'[k]? =l[k]?)∧Chg R W W':=by
 have HB:=hid V;have HH:=hid h;have M:=hid hu;have S:=hid O;have HJ:=hid Z;clear h hu O Z V;go_enter Tryz.func127,Tryz.ntmps127;go_wp2_with fail
 go_loopw [1] (fun s wr=>∃(k:Nat) (l':List Du),s=.int .i64 k∧k<n∧zaP wr R p r g m now l'∧l'.Perm l∧UpF leD (gD l') n k∧(∀q,n≤q→l'[q]? =l[q]?)∧Chg R W wr) (fun s _=>(intOf s).toNat)
 case atStart=>exact ⟨j,l,rfl,HJ.out,HH.out,List.Perm.refl _,M.out,fun _ _=>rfl,Chg.refl _ _⟩
 case round=>
  obtain ⟨k,l',rfl,hk,hr,P,C,D,Y⟩:=hrel;have b:=P.length_eq;have T:=hid hr;have I:=hid P;have L:=hid C;have J:=hid D;have Q:=hid Y;have o:=S.out;have kl:k<l'.length:=by omega
  have H:=hid (zcT kl);have y:=hid b;clear hr P C D Y b o;by_cases h0:k=0
  ·subst h0;have hw:IntKind.i64.wrap (IntKind.i64.wrap (((0:Nat):Int)-1))=-1:=by decide
   go_wp2_with fail
   go_end0
   exact ⟨rfl,⟨l',T.out,I.out,L.out.top,J.out⟩,Q.out⟩
  ·obtain ⟨i,N⟩:=nm ((k-1)/2);have a:i<k:=by omega
   have hb:=HB.out;have o:=y.out;have hw1:IntKind.i64.wrap ((k:Int)-1)=(k:Int)-1:=iW _ (by omega);have hw2:IntKind.i64.wrap (((k:Int)-1).tdiv 2)=(i:Int):=by rw[zlO (by omega),←N];exact iW _ (by omega)
   have hne:((i:Int)==(k:Int))=false:=by simp;omega
   have G:=hid N;have x:=hid a;have il:i<l'.length:=by omega
   have c:=hid (zcT il);clear N a hb o il kl;obtain ⟨v,F,X⟩:=T.out;have U:=hid X;clear X;go_wp2_with fail
   refine (zek U.out H.out c.out).mono ?_;rintro e w1 ⟨rfl,f⟩;have z:=hid (U.out.grow f);have t:=hid (Q.out.grow f);clear f
   cases hlt:ltD (gD l' k) (gD l' i) with
   |false=>
    have d:=hid (zf7 hlt);clear hlt;go_wp2_with fail
    go_end0
    exact ⟨rfl,⟨l',⟨v,F,z.out⟩,I.out,L.out.stop (by rw[←G.out];exact d.out),J.out⟩,t.out⟩
   |true=>
    have d:=hid (zhh hlt);clear hlt;go_wp2_with fail
    refine (zel z.out c.out H.out).mono ?_;rintro e w2 ⟨rfl,⟨F2,A⟩,B⟩;have K:=hid A;have E:=hid (t.out.trans B);clear A B;go_wp2_with fail
    go_roundw
    case rel=>
     have hl:=y.out;have O:=S.out;have a:=x.out;refine ⟨i,swp l' i k,rfl,by omega,⟨v,F2,K.out⟩,(zbS _ _ _).trans I.out,?_,fun q D=>?_,E.out⟩
     ·have:=UpF.step zdl L.out (by omega) hk (by rw[←G.out];exact d.out);rw[←G.out] at this;rw[show gD (swp l' i k)=swF (gD l') i k from swp_get (by omega) (by omega) _];exact this
     ·rw[zb9 c.out H.out,if_neg (by omega),if_neg (by omega)];exact J.out q D
    case measure=>
     have a:=x.out
     simp[intOf];omega
def zsg (W:World) (R:Nat→Prop) (p r g m:Nat) (now:Int) (l:List Du) (n i0:Nat) (e:Ending) (W':World):Prop:=
 ∃(b:Bool) (l':List Du),e=.returned (.bool b)∧zaP W' R p r g m now l'∧l'.Perm l∧(∀q,n≤q→l'[q]? =l[q]?)∧(b=true→zao leD (gD l') n)∧(b=false→l'=l∧UpF leD (gD l) n i0)∧Chg R W W'
theorem zgl {W W':World} {R:Nat→Prop} {p r g m:Nat} {now:Int} {l l':List Du} {n i0 i:Nat} (f:i0≤i) (a:i≠i0→leD (gD l' ((i-1)/2)) (gD l' i)) (b:i=i0→l'=l) (c:UpF leD (gD l') n i)
  (o:zaP W' R p r g m now l') (j:l'.Perm l) (k:∀q,n≤q→l'[q]? =l[q]?) (d:Chg R W W'):zsg W R p r g m now l n i0 (.returned ↑(decide (i0<i):Bool)) W':=by
 refine ⟨_,l',rfl,o,j,k,fun h=>?_,fun h=>?_,d⟩
 ·have:i≠i0:=by have:=of_decide_eq_true h;omega
  exact c.stop (a this)
 ·have:i=i0:=by have:=of_decide_eq_false h;omega
  have e:=b this;subst e this;exact ⟨rfl,c⟩
theorem ziG {W:World} {R:Nat→Prop} {p r g m:Nat} {now:Int} {l:List Du} (h:zaP W R p r g m now l) {n i0:Nat} (hB:l.length≤1099511627776) (hn:n≤l.length) (hi:i0≤n) (hu:DnF leD (gD l) n i0):
  Calls Tryz.prog 126 #[zhr r,i0,n] W fun e W'=>zsg W R p r g m now l n i0 e W':=by
 have HB:=hid hB;have HH:=hid h;have HUP:=hid hu;have HN:=hid hn;have HI0:=hid hi;clear h hu hn hi hB;go_enter Tryz.func126,Tryz.ntmps126;go_wp2_with fail
 go_loopw [7] (fun s wr=>∃(i:Nat) (b:List Du),s=.int .i64 i∧(i0≤i∧i≤n)∧zaP wr R p r g m now b∧b.Perm l∧DnF leD (gD b) n i∧(i≠i0→leD (gD b ((i-1)/2)) (gD b i))∧(i=i0→b=l)∧(∀q,n≤q→b[q]? =l[q]?)∧Chg R W wr) (fun s _=>n-(intOf s).toNat)
 case atStart=>exact ⟨i0,l,rfl,⟨lR,HI0.out⟩,HH.out,List.Perm.refl _,HUP.out,fun h=>absurd rfl h,fun _=>rfl,fun _ _=>rfl,Chg.refl _ _⟩
 case round=>
  obtain ⟨i,b,rfl,M,hr,G,Z,X,Y,O,N⟩:=hrel;have H:=G.length_eq;have E:=hid M.1;have HIN:=hid M.2;have HR:=hid hr;have HP:=hid G;have HU:=hid Z;have Q:=hid X;have S:=hid Y;have HQ:=hid O;have HC:=hid N;have HLN:=hid H;have hb:=HB.out;have hnl:=HN.out;have hw1:IntKind.i64.wrap (2*(i:Int))=2*(i:Int):=iW _ (by omega);have hw2:IntKind.i64.wrap (2*(i:Int)+1)=2*(i:Int)+1:=iW _ (by omega);have hw3:IntKind.i64.wrap (2*(i:Int)+1+1)=2*(i:Int)+2:=by rw[show 2*(i:Int)+1+1=2*(i:Int)+2 by omega];exact iW _ (by omega)
  by_cases h1:n≤2*i+1
  ·have g1:(n:Int)≤2*(i:Int)+1:=by omega
   have H1:=hid h1;clear hr G Z O N H M X Y hb hnl h1;go_wp2_with fail
   go_ret;exact zgl E.out Q.out S.out (HU.out.stop fun k U V G=>by have:=H1.out;omega) HR.out HP.out HQ.out HC.out
  ·have g1:¬(n:Int)≤2*(i:Int)+1:=by omega
   have g2:¬2*(i:Int)+1<0:=by omega
   have il:i<b.length:=by omega
   have jl:2*i+1<b.length:=by omega
   have P:=hid (zcT il);have z:=hid (zcT jl);have H1:=hid (show 2*i+1<n by omega);obtain ⟨v,F,hT⟩:=hr;have HT:=hid hT;by_cases h2:2*i+2<n
   ·have g3:2*(i:Int)+2<(n:Int):=by omega
    have j2l:2*i+2<b.length:=by omega
    have K:=hid (zcT j2l);have H2:=hid h2;clear G Z O N H M X Y hb hnl h1 h2 il jl j2l hT;go_wp2_with fail
    refine (zek (i:=2*i+2) (j:=2*i+1) HT.out K.out z.out).mono ?_;rintro e w3 ⟨rfl,hb3⟩;have T:=hid (HT.out.grow hb3);have HC3:=hid (HC.out.grow hb3);clear hb3
    cases hlt:ltD (gD b (2*i+2)) (gD b (2*i+1)) with
    |true=>
     obtain ⟨c,N⟩:=nm (2*i+2);have A:=hid (zhh hlt);rw[←N] at K A;have d:=K;have I:2*(i:Int)+2=(c:Int):=by omega
     have h1:=H1.out;have h2:=H2.out;have x:=hid (show 0<c∧c<n∧(c-1)/2=i by omega);have y:=hid (show ∀k,0<k→k<n→(k-1)/2=i→leD (gD b c) (gD b k) from fun k U V G=>by
      rcases (by omega:k=2*i+1∨k=c) with e|e
      ·rw[e];exact A.out
      ·rw[e];exact zhf _)
     rw[I] at hw3 g3 ⊢;clear hlt N h1 h2 z K;go_wp2_with fail
     refine (zek T.out d.out P.out).mono ?_;rintro e w5 ⟨rfl,o⟩;have B:=hid (T.out.grow o);have t:=hid (HC3.out.grow o);clear o
     cases hlt:ltD (gD b c) (gD b i) with
     |false=>
      have f:=hid (zf7 hlt);clear hlt;go_wp2_with fail
      go_ret;exact zgl E.out Q.out S.out (HU.out.stop fun k U V G=>zdl _ _ _ f.out (y.out k U V G)) ⟨v,F,B.out⟩ HP.out HQ.out t.out
     |true=>
      have f:=hid (zhh hlt);clear hlt;go_wp2_with fail
      refine (zel B.out P.out d.out).mono ?_;rintro e w6 ⟨rfl,⟨F6,C⟩,D⟩;have L:=hid C;have J:=hid (t.out.trans D);clear C D;go_wp2_with fail
      go_roundw
      case rel=>
       have hg:=E.out;have a:=x.out;have hl:=HLN.out;have hn:=HN.out;obtain ⟨s1,s2⟩:=DnF.step HU.out a.2.2 a.1 a.2.1 f.out y.out;have es:gD (swp b i c)=swF (gD b) i c:=swp_get (by omega) (by omega) _;exact ⟨c,swp b i c,rfl,by omega,⟨v,F6,L.out⟩,(zbS _ _ _).trans HP.out,by rw[es];exact s1,fun _=>by rw[es];exact s2,fun e=>by omega,fun q O=>by rw[zb9 P.out d.out,if_neg (by omega),if_neg (by omega)];exact HQ.out q O,J.out⟩
      case measure=>
       have a:=x.out
       simp[intOf];omega
    |false=>
     obtain ⟨c,N⟩:=nm (2*i+1);have A:=hid (zf7 hlt);rw[←N] at z A;have d:=z;have I:2*(i:Int)+1=(c:Int):=by omega
     have h1:=H1.out;have h2:=H2.out;have x:=hid (show 0<c∧c<n∧(c-1)/2=i by omega);have y:=hid (show ∀k,0<k→k<n→(k-1)/2=i→leD (gD b c) (gD b k) from fun k U V G=>by
      rcases (by omega:k=c∨k=2*i+2) with e|e
      ·rw[e];exact zhf _
      ·rw[e];exact A.out)
     rw[I] at hw2 g1 g2 ⊢;clear hlt N h1 h2 z K;go_wp2_with fail
     refine (zek T.out d.out P.out).mono ?_;rintro e w5 ⟨rfl,o⟩;have B:=hid (T.out.grow o);have t:=hid (HC3.out.grow o);clear o
     cases hlt:ltD (gD b c) (gD b i) with
     |false=>
      have f:=hid (zf7 hlt);clear hlt;go_wp2_with fail
      go_ret;exact zgl E.out Q.out S.out (HU.out.stop fun k U V G=>zdl _ _ _ f.out (y.out k U V G)) ⟨v,F,B.out⟩ HP.out HQ.out t.out
     |true=>
      have f:=hid (zhh hlt);clear hlt;go_wp2_with fail
      refine (zel B.out P.out d.out).mono ?_;rintro e w6 ⟨rfl,⟨F6,C⟩,D⟩;have L:=hid C;have J:=hid (t.out.trans D);clear C D;go_wp2_with fail
      go_roundw
      case rel=>
       have hg:=E.out;have a:=x.out;have hl:=HLN.out;have hn:=HN.out;obtain ⟨s1,s2⟩:=DnF.step HU.out a.2.2 a.1 a.2.1 f.out y.out;have es:gD (swp b i c)=swF (gD b) i c:=swp_get (by omega) (by omega) _;exact ⟨c,swp b i c,rfl,by omega,⟨v,F6,L.out⟩,(zbS _ _ _).trans HP.out,by rw[es];exact s1,fun _=>by rw[es];exact s2,fun e=>by omega,fun q O=>by rw[zb9 P.out d.out,if_neg (by omega),if_neg (by omega)];exact HQ.out q O,J.out⟩
      case measure=>
       have a:=x.out
       simp[intOf];omega
   ·have g3:¬2*(i:Int)+2<(n:Int):=by omega
    obtain ⟨c,a⟩:=nm (2*i+1);rw[←a] at z;have d:=z;have I:2*(i:Int)+1=(c:Int):=by omega
    have x:=hid (show 0<c∧c<n∧(c-1)/2=i by omega);have y:=hid (show ∀k,0<k→k<n→(k-1)/2=i→leD (gD b c) (gD b k) from fun k U V G=>by
     rcases (by omega:k=c) with e
     rw[e];exact zhf _)
    have hw3':IntKind.i64.wrap ((c:Int)+1)=2*(i:Int)+2:=by rw[←I];exact hw3
    rw[I] at hw2 g1 g2;clear hw3 G Z O N H M X Y hb hnl h1 h2 il jl hT a z;go_wp2_with fail
    refine (zek HT.out d.out P.out).mono ?_;rintro e w5 ⟨rfl,o⟩;have B:=hid (HT.out.grow o);have t:=hid (HC.out.grow o);clear o
    cases hlt:ltD (gD b c) (gD b i) with
    |false=>
     have f:=hid (zf7 hlt);clear hlt;go_wp2_with fail
     go_ret;exact zgl E.out Q.out S.out (HU.out.stop fun k U V G=>zdl _ _ _ f.out (y.out k U V G)) ⟨v,F,B.out⟩ HP.out HQ.out t.out
    |true=>
     have f:=hid (zhh hlt);clear hlt;go_wp2_with fail
     refine (zel B.out P.out d.out).mono ?_;rintro e w6 ⟨rfl,⟨F6,C⟩,D⟩;have L:=hid C;have J:=hid (t.out.trans D);clear C D;go_wp2_with fail
     go_roundw
     case rel=>
      have hg:=E.out;have a:=x.out;have hl:=HLN.out;have hn:=HN.out;obtain ⟨s1,s2⟩:=DnF.step HU.out a.2.2 a.1 a.2.1 f.out y.out;have es:gD (swp b i c)=swF (gD b) i c:=swp_get (by omega) (by omega) _;exact ⟨c,swp b i c,rfl,by omega,⟨v,F6,L.out⟩,(zbS _ _ _).trans HP.out,by rw[es];exact s1,fun _=>by rw[es];exact s2,fun e=>by omega,fun q O=>by rw[zb9 P.out d.out,if_neg (by omega),if_neg (by omega)];exact HQ.out q O,J.out⟩
     case measure=>
      have a:=x.out
      simp[intOf];omega
theorem zaP.grow {W W':World} {R:Nat→Prop} {p r g m:Nat} {now:Int} {l:List Du} (h:zaP W R p r g m now l) (a:Below W W W'):zaP W' R p r g m now l:=by
 obtain ⟨v,F,h⟩:=h;exact ⟨v,F,h.grow a⟩
theorem zjO {W:World} {R:Nat→Prop} {p r g m:Nat} {now:Int} {l:List Du} (h:zaP W R p r g m now l):Calls Tryz.prog 174 #[.pointer (some ⟨r,0,none⟩)] W fun e W'=>e=.returned ↑l.length∧W'=W:=by
 obtain ⟨v,F,h⟩:=h;exact zmb h
theorem zpU {W:World} {R:Nat→Prop} {p r g m:Nat} {now:Int} {l:List Du} (h:zaP W R p r g m now l) {i j:Nat} (f:i<l.length) (k:j<l.length):
  Calls Tryz.prog 213 #[.pointer (some ⟨r,0,none⟩),i,j] W fun e W'=>e=.returned (.tuple #[])∧zaP W' R p r g m now (swp l i j)∧Chg R W W':=by
 obtain ⟨v,F,h⟩:=h;refine (zel h (zcT f) (zcT k)).mono ?_;rintro e W' ⟨d,⟨a,b⟩,c⟩;exact ⟨d,⟨v,a,b⟩,c⟩
theorem zol {W:World} {R:Nat→Prop} {p r g m:Nat} {now:Int} {l:List Du} (h:zaP W R p r g m now l) {n:Nat} (q:l.length=n+1):
  Calls Tryz.prog 211 #[.pointer (some ⟨r,0,none⟩)] W fun e W'=>e=.returned (zfY (gD l n))∧zaP W' R p r g m now (l.take n)∧Chg R W W':=by
 have j:l=l.take n++[gD l n]:=by
  have b:=List.take_append_drop n l;rw[List.drop_eq_getElem_cons (by omega),List.drop_eq_nil_of_le (by omega)] at b;have a:=zcT (l:=l) (k:=n) (by omega);rw[gE (by omega)] at a;rw[Option.some.inj a] at b;exact b.symm
 obtain ⟨v,F,h⟩:=h;rw[j] at h;have a:=zrK h;refine a.mono ?_;rintro e W' ⟨i,⟨o,c,d⟩,f⟩;exact ⟨i,⟨o,c,d⟩,f⟩
theorem zm8 {l:List Du} {n k:Nat} (h:k<n):gD (l.take n) k=gD l k:=by simp[gD,List.getD_eq_getElem?_getD,List.getElem?_take,h]
theorem zhb {l:List Du} {n:Nat} (h:zao leD (gD l) n):zao leD (gD (l.take n)) n:=fun k h0 hk=>by
 rw[zm8 hk,zm8 (by omega)];exact h k h0 hk
theorem zho {l a:List Du} {n:Nat} (e:a.Perm l) (f:a.length=n+1):l.Perm (gD a n::a.take n):=by
 have b:=List.take_append_drop n a;rw[List.drop_eq_getElem_cons (by omega),List.drop_eq_nil_of_le (by omega)] at b;have c:=zcT (l:=a) (k:=n) (by omega);rw[gE (by omega)] at c;rw[Option.some.inj c] at b;have d:(a.take n++[gD a n]).Perm (gD a n::a.take n):=List.perm_append_singleton _ _;rw[b] at d;exact e.symm.trans d
theorem zpj {W:World} {R:Nat→Prop} {p r g m:Nat} {now:Int} {l:List Du} (h:zaP W R p r g m now l) (C:zao leD (gD l) l.length) {d:Du} (B:zkc d) (A:d.2∉l.map (·.2)) (D:l.length<1099511627776):
  Calls Tryz.prog 105 #[zhr r,zfY d] W fun e W'=>e=.returned (.tuple #[])∧(∃l',zaP W' (fun b=>R b∨W.heap.size≤b) p r g m now l'∧l'.Perm (l++[d])∧zao leD (gD l') l'.length)∧Chg R W W':=by
 obtain ⟨v,F,x⟩:=h;have f:=(x.idx.no d.2).2 A;have O:=hid x;have J:=hid f;have K:=hid C;have I:=hid B;have z:=hid D;have Y:IntKind.i64.wrap (l.length:Int)=(l.length:Int):=iW _ (by omega);clear x f A C B D;go_enter Tryz.func105,Tryz.ntmps105;go_wp2_with fail
 refine (zpS O.out I.out J.out (Nat.le_of_lt z.out)).mono ?_;rintro e T ⟨rfl,⟨S,H,i⟩,o⟩;have c:=hid i;have s:=hid o;clear i o;have Q:((l++[d]).length:Int)=(l.length:Int)+1:=by simp
 go_wp2_with fail
 refine (zmb c.out).mono ?_;rintro e U ⟨rfl,rfl⟩;rw[Q];go_wp2_with fail
 refine (zmm (l:=l++[d]) (n:=(l++[d]).length) ⟨S,H,c.out⟩ (by have:=z.out;simp;omega) lR (j:=l.length) (by simp) ?_).mono ?_
 ·have:=zao.push (g:=gD (l++[d])) K.out (fun k P=>by simp[gD,List.getD_eq_getElem?_getD,List.getElem?_append_left P])
  simpa using this
 rintro e V ⟨rfl,⟨l',G,y,E,_⟩,q⟩;have a:=y.length_eq;have N:=hid G;have L:=hid y;have M:=hid (show zao leD (gD l') l'.length by rw[a];exact E);have t:=hid (s.out.step q fun b X h=>h.elim id fun h=>by omega);clear G y E q a;go_wp2_with fail
 go_end0
 exact ⟨rfl,⟨l',N.out,L.out,M.out⟩,t.out⟩
theorem zrc {W:World} {R:Nat→Prop} {p r g m:Nat} {now:Int} {l:List Du} (h:zaP W R p r g m now l) (Z:zao leD (gD l) l.length) (hn:l.length≤1099511627776) (U:0<l.length):
  Calls Tryz.prog 148 #[zhr r] W fun e W'=>e=.returned (zfY (gD l 0))∧(∃l',zaP W' R p r g m now l'∧l.Perm (gD l 0::l')∧zao leD (gD l') l'.length)∧Chg R W W':=by
 obtain ⟨n,D⟩:∃n,l.length=n+1:=⟨l.length-1,by omega⟩;have Y:=hid h;have HH:=hid Z;have HN:=hid hn;have v:=hid D;have hw:IntKind.i64.wrap (n:Int)=(n:Int):=iW _ (by omega);have hl:(l.length:Int)=(n:Int)+1:=by omega
 clear h Z hn U D;go_enter Tryz.func148,Tryz.ntmps148;go_wp2_with fail
 refine (zjO Y.out).mono ?_;rintro e W2 ⟨rfl,rfl⟩;rw[hl];clear hl;go_wp2_with fail
 refine (zpU (i:=0) (j:=n) Y.out (by have:=v.out;omega) (by have:=v.out;omega)).mono ?_;rintro e W3 ⟨rfl,F,y⟩;have Q:=hid F;have K:=hid y;have I:=zd0 l 0 n;have hL:=v.out;have V:gD (swp l 0 n)=swF (gD l) 0 n:=swp_get (by omega) (by omega) _;have B:DnF leD (gD (swp l 0 n)) n 0:=by
  rcases Nat.eq_zero_or_pos n with e|e
  ·subst e;exact ⟨fun k U X=>by omega,fun k U X=>by omega⟩
  ·exact zao.dn (f:=gD l) zdl (HH.out.less (by omega)) (fun k X hkn=>by rw[V,zdR (by omega) X]) e
 have N:=hid B;have q:=hid I;have HG:=hid V;clear F y I hL V B;go_wp2_with fail
 refine (ziG (i0:=0) (n:=n) Q.out (by have:=HN.out;have:=q.out;omega) (by have:=v.out;have:=q.out;omega) (zL) N.out).mono ?_;rintro e W4 ⟨b,t,rfl,G,s,E,J,C,z⟩;have a:zao leD (gD t) n:=by
  cases b with
  |true=>exact J rfl
  |false=>obtain ⟨e,hu⟩:=C rfl;rw[e];exact hu.top
 have d:t.length=n+1:=by rw[s.length_eq,q.out,v.out]
 have c:gD t n=gD l 0:=by
  have h1:=E n lR;have h2:gD t n=gD (swp l 0 n) n:=by simp[gD,List.getD_eq_getElem?_getD,h1]
  rw[h2,HG.out,zgK]
 have S:=hid G;have P:=hid (s.trans (zbS l 0 n));have L:=hid (K.out.trans z);have O:=hid a;have o:=hid d;have x:=hid c;clear G s E J C z a d c;go_wp2_with fail
 refine (zol S.out o.out).mono ?_;rintro e W5 ⟨rfl,H,A⟩;have T:=hid H;have M:=hid (L.out.trans A);rw[x.out];clear H A;go_wp2_with fail
 go_ret;refine ⟨rfl,⟨t.take n,T.out,?_,?_⟩,M.out⟩
 ·have:=zho P.out o.out
  rwa [x.out] at this
 ·have:=o.out;rw[show (t.take n).length=n by simp;omega];exact zhb O.out
theorem zq6 {W:World} {R:Nat→Prop} {p r g m:Nat} {now:Int} {l:List Du} (h:zaP W R p r g m now l) {i:Nat} (G:DnF leD (gD l) l.length i) (I:l.length≤1099511627776) (H:i<l.length):
  Calls Tryz.prog 104 #[zhr r,i] W fun e W'=>e=.returned (.tuple #[])∧(∃l',zaP W' R p r g m now l'∧l'.Perm l∧zao leD (gD l') l'.length)∧Chg R W W':=by
 have F:=hid h;have K:=hid G;have E:=hid I;have D:=hid H;clear h G I H;go_enter Tryz.func104,Tryz.ntmps104;go_wp2_with fail
 refine (zjO F.out).mono ?_;rintro e O ⟨rfl,rfl⟩;go_wp2_with fail
 refine (ziG F.out E.out lR (Nat.le_of_lt D.out) K.out).mono ?_;rintro e P ⟨b,N,rfl,j,d,v,k,c,a⟩;have q:=hid j;have o:=hid d;have n:=hid a
 cases b with
 |true=>
  have L:=hid (k rfl);clear j d v k c a;go_wp2_with fail
  go_end0
  exact ⟨rfl,⟨N,q.out,o.out,by rw[o.out.length_eq];exact L.out⟩,n.out⟩
 |false=>
  obtain ⟨e,J⟩:=c rfl;subst e;have M:=hid J;clear j d v k c a J;go_wp2_with fail
  refine (zmm q.out E.out lR D.out M.out).mono ?_;rintro e Q ⟨rfl,⟨C,x,f,t,_⟩,s⟩;have B:=hid x;have A:=hid f;have z:=hid (show zao leD (gD C) C.length by rw[f.length_eq];exact t);have y:=hid (n.out.trans s);clear x f t s;go_wp2_with fail
  go_end0
  exact ⟨rfl,⟨C,B.out,A.out,z.out⟩,y.out⟩
theorem zmG {W:World} {R:Nat→Prop} {p r g m:Nat} {now:Int} {l:List Du} (h:zaP W R p r g m now l) {i:Nat} (hh:zao leD (gD l) l.length) (hn:l.length≤1099511627776) (hi:i<l.length):
  Calls Tryz.prog 241 #[zhr r,i] W fun e W'=>e=.returned (zfY (gD l i))∧(∃l',zaP W' R p r g m now l'∧l.Perm (gD l i::l')∧zao leD (gD l') l'.length)∧Chg R W W':=by
 obtain ⟨n,O⟩:∃n,l.length=n+1:=⟨l.length-1,by omega⟩;have X:=hid h;have HH:=hid hh;have HN:=hid hn;have y:=hid O;have HI:=hid hi;have hw:IntKind.i64.wrap (n:Int)=(n:Int):=iW _ (by omega);have Z:(l.length:Int)=(n:Int)+1:=by omega
 clear h hh hn O hi;by_cases hin:n=i
 ·subst hin;go_enter Tryz.func241,Tryz.ntmps241;go_wp2_with fail
  refine (zjO X.out).mono ?_;rintro e W2 ⟨rfl,rfl⟩;rw[Z];clear Z;go_wp2_with fail
  refine (zol X.out y.out).mono ?_;rintro e Y ⟨rfl,c,a⟩;have q:=hid c;have o:=hid a;clear c a;go_wp2_with fail
  go_ret;refine ⟨rfl,⟨l.take n,q.out,zho (List.Perm.refl _) y.out,?_⟩,o.out⟩;have:=y.out;rw[show (l.take n).length=n by simp;omega];exact zhb (HH.out.less (by omega))
 ·have hne:((n:Int)==(i:Int))=false:=by simp;omega
  have B:=hid (show i<n by have:=HI.out;have:=y.out;omega);clear hin;have V:∀(F:World) (x:List Du),zaP F R p r g m now x→x.Perm l→zao leD (gD x) n→x[n]? =some (gD l i)→Chg R W F→
    Calls Tryz.prog 211 #[.pointer (some ⟨r,0,none⟩)] F fun e W'=>e=.returned (zfY (gD l i))∧(∃l',zaP W' R p r g m now l'∧l.Perm (gD l i::l')∧zao leD (gD l') l'.length)∧Chg R W W':=by
   intro F x v d hh4 hl4 s;have A:x.length=n+1:=by rw[d.length_eq,y.out]
   have t:gD x n=gD l i:=zll hl4;refine (zol v A).mono ?_;rintro e Y ⟨rfl,c,a⟩;rw[t];refine ⟨rfl,⟨x.take n,c,?_,?_⟩,s.trans a⟩
   ·have:=zho d A
    rwa [t] at this
   ·rw[show (x.take n).length=n by simp;omega];exact zhb hh4
  have K:=hid V;clear V;go_enter Tryz.func241,Tryz.ntmps241;go_wp2_with fail
  refine (zjO X.out).mono ?_;rintro e W2 ⟨rfl,rfl⟩;rw[Z];clear Z;go_wp2_with fail
  refine (zpU (i:=i) (j:=n) X.out HI.out (by have:=y.out;omega)).mono ?_;rintro e W3 ⟨rfl,S,L⟩;have U:=zd0 l i n;have hI:=HI.out;have hL:=y.out;have hg:gD (swp l i n)=swF (gD l) i n:=swp_get (by omega) (by omega) _;have ac:=hid (show DnF leD (gD (swp l i n)) n i from zao.dn (f:=gD l) zdl (HH.out.less (by omega)) (fun k hk hkn=>by rw[hg,zdR (by omega) hk]) B.out);have HTL:=hid (show (swp l i n)[n]? =some (gD l i) by rw[zcT (by omega),hg,zgK]);have HR3:=hid S;have aa:=hid L;have z:=hid U;clear S L U hI hL hg;go_wp2_with fail
  refine (ziG HR3.out (by have:=HN.out;have:=z.out;omega) (by have:=y.out;have:=z.out;omega) (Nat.le_of_lt B.out) ac.out).mono ?_;rintro e F ⟨b,x,rfl,v,d,D,E,C,s⟩;have J:=hid v;have H:=hid (d.trans (zbS l i n));have G:=hid (aa.out.trans s);have I:=hid ((D n lR).trans HTL.out)
  cases b with
  |true=>
   have HT:=hid (E rfl);clear v d D E C s;go_wp2_with fail
   refine (K.out F x J.out H.out HT.out I.out G.out).mono ?_;rintro e Y ⟨rfl,c,a⟩;have q:=hid c;have o:=hid a;clear c a;go_wp2_with fail
   go_ret;exact ⟨rfl,q.out,o.out⟩
  |false=>
   obtain ⟨e,hu⟩:=C rfl;subst e;have HU:=hid hu;clear v d D E C s hu;go_wp2_with fail
   refine (zmm J.out (by have:=HN.out;have:=z.out;omega) (by have:=y.out;have:=z.out;omega) B.out HU.out).mono ?_;rintro e Y ⟨rfl,⟨l5,c,P,N,Q⟩,a⟩;have q:=hid c;have HP5:=hid (P.trans H.out);have ad:=hid N;have HQ5:=hid ((Q n lR).trans I.out);have o:=hid (G.out.trans a);clear c P N a Q;go_wp2_with fail
   refine (K.out Y l5 q.out HP5.out ad.out HQ5.out o.out).mono ?_;rintro e W6 ⟨rfl,T,M⟩;have HR6:=hid T;have ab:=hid M;clear T M;go_wp2_with fail
   go_ret;exact ⟨rfl,HR6.out,ab.out⟩
end Ho
namespace Vb
open Go.RowKit
open Go.Maps (Keyed)
open Go.WideElems (Fit)
theorem zfg {α:Type}:∀(l L:List α),l.Nodup→(∀x∈l,x∈L)→l.length≤L.length
 |[],_,_,_=>zL
 |x::l,L,hn,hs=>by
  obtain ⟨s,t,rfl⟩:=List.append_of_mem (hs x (by simp));have h1:=List.nodup_cons.1 hn;have:=zfg l (s++t) h1.2 (fun y hy=>by
   have:=hs y (by simp[hy]);simp only[List.mem_append,List.mem_cons] at this ⊢
   rcases this with h|rfl|h
   ·exact .inl h
   ·exact absurd hy h1.1
   ·exact .inr h)
  simp only[List.length_append,List.length_cons] at this ⊢
  omega
def za3 (P:Program) (kt et:TypeId) (w:World) (b:Nat) (Good:Value→Value→Prop):Prop:=
 ∃es clock,w.heap[b]? =some (.map es clock)∧Fit (H:=Unit) P kt (plainElem P et) es clock∧∀x∈es.toList,Good x.key x.val
section
variable {P:Program} {kt et:TypeId} {w w':World} {b:Nat} {Good:Value→Value→Prop}
theorem za3.lt (h:za3 P kt et w b Good):b<w.heap.size:=by
 obtain ⟨d,a,c,_⟩:=h;exact (Array.getElem?_eq_some_iff.1 c).1
theorem za3.of_block (h:za3 P kt et w b Good) (g:w'.heap[b]? =w.heap[b]?):za3 P kt et w' b Good:=by
 obtain ⟨c,a,d,e,f⟩:=h;exact ⟨c,a,g.trans d,e,f⟩
theorem za3.made (w:World):za3 P kt et (w.alloc (.map #[] 0)) w.heap.size Good:=
 ⟨#[],0,(MapKept.heap_alloc w _).1,⟨by simp,MapKept.stamped_empty 0,by simp⟩,by simp⟩
theorem za3.grow (h:za3 P kt et w b Good) (hb:Below w w w'):za3 P kt et w' b Good:=h.of_block (hb.block b h.lt)
theorem za3.alloc (h:za3 P kt et w b Good) (o:Obj):za3 P kt et (w.alloc o) b Good:=h.of_block (Below.heap_alloc w o b h.lt)
theorem za3.drew (h:za3 P kt et w b Good):za3 P kt et w.drew b Good:=h
theorem za3.grown {row:Option Nat} (h:za3 P kt et w b Good) (hg:w.grownBy w' row) (hne:some b≠row):za3 P kt et w' b Good:=h.of_block (hg.block b h.lt hne)
theorem za3.setCell (h:za3 P kt et w b Good) {p:Addr} (hne:b≠p.block) (u:Value):za3 P kt et (w.setCell p u) b Good:=h.of_block (Below.heap_setCell w p u b hne)
theorem za3.not_cells (h:za3 P kt et w b Good) {p:Addr} {v:Value} (d:w.cell? p=some v):p.block≠b:=by
 rintro rfl;obtain ⟨e,a,c,_⟩:=h
 simp[World.cell?,c] at d
theorem za3.look {t:TypeId} {q:IntKind} (h:za3 P kt et w b Good) (K:Keyed P kt) (x:P.underlying t=some (.map kt et)) (z:∀W,(zeroValue et).run P W=.ok (.int q 0) W)
  {a:Value} {C:Lit} (d:keyOf P kt a=some C) (c:Bool):
  (∀W:World,W.heap[b]? =w.heap[b]? →(Instr.lookup t (.map (some b)) a c).run P W=.ok (if c then .tuple #[.int q 0,false] else .int q 0) W)∨
  ∃v,(∀W:World,W.heap[b]? =w.heap[b]? →(Instr.lookup t (.map (some b)) a c).run P W=.ok (if c then .tuple #[v,true] else v) W)∧Good a v:=by
 obtain ⟨m,l,r,F,A⟩:=h;by_cases hin:∃g∈m.toList,g.key=a
 ·obtain ⟨g,e,f⟩:=hin;refine .inr ⟨g.val,fun W n=>?_,by rw[←f];exact A g e⟩
  rcases Maps.fit_look c K x (z W) (n.trans r) F d with ⟨_,h2,_⟩|⟨e1,y,h1,h2,h3,_⟩
  ·exact absurd f (h2 g e)
  ·have:e1=g:=by
    have B:=F.stamped.2.2;obtain ⟨i,o,rfl⟩:=List.getElem_of_mem h1;obtain ⟨j,p,rfl⟩:=List.getElem_of_mem e;have k:(m.toList.map (·.key))[i]'(by simpa using o)=(m.toList.map (·.key))[j]'(by simpa using p):=by simp only[List.getElem_map];rw[h2,f]
    have s:=List.pairwise_iff_getElem.1 B;have:i=j:=by
     rcases Nat.lt_trichotomy i j with h|h|h
     ·exact absurd k (s i j (by simpa using o) (by simpa using p) h)
     ·exact h
     ·exact absurd k.symm (s j i (by simpa using p) (by simpa using o) h)
    subst this
    rfl
   rw[h3,this]
 ·refine .inl fun W n=>?_
  rcases Maps.fit_look c K x (z W) (n.trans r) F d with ⟨h1,_⟩|⟨e1,y,h1,h2,h3,_⟩
  ·exact h1
  ·exact absurd ⟨e1,h1,h2⟩ hin
theorem za3.store {t:TypeId} {q:IntKind} (h:za3 P kt et w b Good) (K:Keyed P kt) (D:P.underlying t=some (.map kt et)) (o:P.underlying et=some (.int q))
  {L:List Value} (A:∀k v,Good k v→k∈L) (J:L.length<maxLen) {d:Value} {I:Lit} (f:keyOf P kt d=some I) {c:Int} (E:(Lit.int q c).wf=true) (p:Good d (.int q c)):
  ∃w',(Instr.mapUpdate t (.map (some b)) d (.int q c)).run P w=.ok () w'∧za3 P kt et w' b Good∧w.grownBy w' (some b):=by
 obtain ⟨s,l,n,F,y⟩:=h;have C:s.size≤L.length:=by
  have:=zfg (s.toList.map (·.key)) L F.stamped.2.2 (fun x r=>by
   obtain ⟨e,o,rfl⟩:=List.mem_map.1 r;exact A _ _ (y e o))
  simpa using this
 obtain ⟨m,a,j,z,_,_,_,g⟩:=Maps.fit_store (R':=plainElem P et) (H:=Unit) K D n F (by omega) (fun _ _ _ _ G=>G) f (plainElem_int o E);refine ⟨_,j,⟨m,a,ChangeMaps.heap_setBlock_same n _,z,fun x r=>?_⟩,⟨rfl,rfl,rfl,by simp[ChangeMaps.setBlock],fun i _ B=>ChangeMaps.heap_setBlock_other n _ (fun e=>B (by rw[e]))⟩⟩
 rcases g x r with ⟨h1,_⟩|⟨h1,h2⟩
 ·exact y x h1
 ·rw[h1,h2];exact p
end
end Vb
namespace Ho
open Go.RowKit Vb Ac
open Go.MapKept (IsKey)
def zar (W:World) (R:Nat→Prop) (p:Nat) (now:Int) (D:Int→Option Int):Prop:=
 ∃r g m l,zaP W R p r g m now l∧zao leD (gD l) l.length∧(∀d:Du,d∈l↔D d.2=some d.1)∧∀d∈l,d.2<4096
section
variable {W W':World} {R R' X:Nat→Prop} {p:Nat} {now:Int} {D:Int→Option Int}
theorem zaP.chg {r g m:Nat} {l:List Du} (h:zaP W R p r g m now l) (c:Chg X W W') (a:∀b,b<W.heap.size→R b→¬X b):zaP W' R p r g m now l:=by
 obtain ⟨v,F,h⟩:=h;exact ⟨v,F,h.chg c a⟩
theorem zaP.mono {r g m:Nat} {l:List Du} (h:zaP W R p r g m now l) (a:∀b,b<W.heap.size→R b→R' b):zaP W R' p r g m now l:=by
 obtain ⟨v,F,h⟩:=h;exact ⟨v,F,h.mono a⟩
theorem zar.chg (h:zar W R p now D) (d:Chg X W W') (c:∀b,b<W.heap.size→R b→¬X b):zar W' R p now D:=by
 obtain ⟨r,g,m,l,h,a⟩:=h;exact ⟨r,g,m,l,h.chg d c,a⟩
theorem zar.grow (h:zar W R p now D) (hb:Below W W W'):zar W' R p now D:=h.chg (Chg.of (fun _=>False) hb) fun _ _ _=>id
theorem zar.mono (h:zar W R p now D) (c:∀b,b<W.heap.size→R b→R' b):zar W R' p now D:=by
 obtain ⟨r,g,m,l,h,a⟩:=h;exact ⟨r,g,m,l,h.mono c,a⟩
theorem zar.lt (h:zar W R p now D):p<W.heap.size:=by
 obtain ⟨r,g,m,l,⟨v,F,h⟩,_⟩:=h;exact h.bp.lt
theorem zar.cell (h:zar W R p now D):W.cell? ⟨p,0,none⟩=some ↑now∧∃r,W.cell? ⟨p,1,none⟩=some (.pointer (some ⟨r,0,none⟩)):=by
 obtain ⟨r,g,m,l,⟨v,F,h⟩,_⟩:=h;exact ⟨h.bp.cell 0,r,h.bp.cell 1⟩
theorem zbF.nodup {κ:Type} {ns:List κ} {F:κ→Option Int} (h:zbF ns F):ns.Nodup:=by
 rw[List.nodup_iff_pairwise_ne,List.pairwise_iff_getElem];intro i j a c b e;have:=h.inj (i:=i) (j:=j) (x:=ns[i]) (by simp[a]) (by rw[e];simp[c])
 omega
theorem zaP.small {r g m:Nat} {l:List Du} (h:zaP W R p r g m now l) (b:∀d∈l,d.2<4096):l.length≤4096:=by
 obtain ⟨v,F,h⟩:=h;have:=zfg (l.map (·.2)) ((List.range 4096).map Int.ofNat) h.idx.nodup (fun x c=>by
  obtain ⟨d,a,rfl⟩:=List.mem_map.1 c;have e:=b d a;have f:=(h.ok d a).2.1;exact List.mem_map.2 ⟨d.2.toNat,by simp;omega,by simp;omega⟩)
 simpa using this
end
theorem zcv {W:World} {R:Nat→Prop} {p:Nat} {now:Int} {D:Int→Option Int} (h:zar W R p now D):Calls Tryz.prog 88 #[.pointer (some ⟨p,0,none⟩)] W fun e W'=>e=.returned ↑false∧W'=W:=by
 obtain ⟨_,r,a⟩:=h.cell;clear h;go_enter Tryz.func88,Tryz.ntmps88;go_wp2_with fail
 go_ret;exact ⟨rfl,rfl⟩
theorem zc3 {W:World} {R:Nat→Prop} {p:Nat} {now:Int} {D:Int→Option Int} (h:zar W R p now D):Calls Tryz.prog 118 #[.pointer (some ⟨p,0,none⟩)] W fun e W'=>e=.returned ↑now∧W'=W:=by
 have a:=h.cell.1;have H:=hid h;clear h;go_enter Tryz.func118,Tryz.ntmps118;go_wp2_with fail
 refine (zcv H.out).mono ?_;rintro e b ⟨rfl,rfl⟩;go_wp2_with fail
 go_ret;exact ⟨rfl,rfl⟩
theorem zdD (t:Int) (w:World):Calls Tryz.prog 73 #[t] w fun e w'=>e=.returned ↑(zae t:Bool)∧w'=w:=by
 have h:∃b1 b2,b1=decide (0≤t)∧b2=decide (t≤1099511627776):=⟨_,_,rfl,rfl⟩;unfold zae;by_cases h1:0≤t
 ·by_cases h2:t≤1099511627776
  ·rw[decide_eq_true h1,decide_eq_true h2];go_enter Tryz.func73,Tryz.ntmps73;go_wp2_with fail
   go_ret;exact ⟨rfl,rfl⟩
  ·rw[decide_eq_true h1,decide_eq_false h2];go_enter Tryz.func73,Tryz.ntmps73;go_wp2_with fail
   go_ret;exact ⟨rfl,rfl⟩
 ·rw[decide_eq_false h1];go_enter Tryz.func73,Tryz.ntmps73;go_wp2_with fail
  go_ret;exact ⟨rfl,rfl⟩
theorem zkJ (now:Int) (W:World):Calls Tryz.prog 74 #[now] W fun e W'=>∃p,e=.returned (.pointer (some ⟨p,0,none⟩))∧zar W' (fun b=>W.heap.size≤b) p now (fun _=>none)∧Below W W W':=by
 have d:=@run_makeMap Tryz.prog;have c:∀(fn:Fn) (first cap:Array Value) (w:World),(Instr.makeFunc fn first cap).run Tryz.prog w=.ok (.func fn first cap) w:=fun _ _ _ _=>rfl;go_enter Tryz.func74,Tryz.ntmps74;go_wp2_with fail
 go_ret;refine ⟨_,rfl,⟨W.heap.size+1+1+1,W.heap.size+1+1,W.heap.size,[],⟨.slice none 0 0,fun _=>none,?_,?_,?_,RowAt.nil,?_,zbF.nil,⟨by omega,by omega,by omega,lR⟩,by simp,⟨by omega,by omega,by omega⟩⟩,fun k f a=>by simp at a,by simp,by simp⟩,?_⟩
 ·exact ((Blk.new' _ _ (by simp)).alloc _).alloc _
 ·exact Blk.new' _ _ (by simp)
 ·exact (Blk.new' _ _ (by simp)).alloc _
 ·exact (((zbh.made W).grow (qA _)).grow (qA _)).grow (qA _)
 ·exact (((qA _).alloc (by simp) _).alloc (by simp;omega) _).alloc (by simp;omega) _
theorem zf9 (now:Int) (f:zae now=true) (W:World):Calls Tryz.prog 37 #[now,.slice none 0 0] W fun e W'=>∃p,e=.returned (.tuple #[.pointer (some ⟨p,0,none⟩),()])∧zar W' (fun b=>W.heap.size≤b) p now (fun _=>none)∧Below W W W':=by
 have j:=hid f;clear f;go_enter Tryz.func37,Tryz.ntmps37;go_wp2_with fail
 refine (zdD now _).mono ?_;rintro e k ⟨rfl,rfl⟩;rw[j.out];go_wp2_with fail
 go_loopw [6,17] (fun s i wr=>s=.bool false∧i=.int .i64 0∧wr=k) (fun _ _ _=>0)
 case atStart=>exact ⟨rfl,rfl,rfl⟩
 case round=>
  obtain ⟨rfl,rfl,a⟩:=hrel;rw[a];go_wp2_with fail
  refine (zkJ now _).mono ?_;rintro e l ⟨p,rfl,c,d⟩;have h:=hid c;have g:=hid d;clear c d;go_wp2_with fail
  go_loopw [43] (fun i wr=>i=.int .i64 0∧wr=l) (fun _ _=>0)
  case atStart=>exact ⟨rfl,rfl⟩
  case round=>
   obtain ⟨rfl,a⟩:=hrel;rw[a];go_wp2_with fail
   exact bodyPost_ret (v:=.tuple #[.pointer (some ⟨p,0,none⟩),()]) (by simp[results,Tryz.results37,go_sem]) rfl ⟨p,rfl,h.out,g.out⟩
theorem zr4 (W:World):Calls Tryz.prog 20 #[()] W fun e W'=>∃p,e=.returned (.tuple #[.pointer (some ⟨p,0,none⟩),()])∧zar W' (fun b=>W.heap.size≤b) p 0 (fun _=>none)∧Below W W W':=by
 go_enter Tryz.func20,Tryz.ntmps20;go_wp2_with fail
 refine (zf9 0 rfl _).mono ?_;rintro e g ⟨p,rfl,a,c⟩;have f:=hid a;have d:=hid c;clear a c;go_wp2_with fail
 exact bodyPost_ret (v:=.tuple #[.pointer (some ⟨p,0,none⟩),()]) (by simp[results,Tryz.results20,go_sem]) rfl ⟨p,rfl,f.out,d.out⟩
theorem zjA {l:List Du} {F:Int→Option Int} (o:zbF (l.map (·.2)) F) {k:Nat} {b d x:Du} (c:l[k]? =some b) (g:d.2=b.2):x∈l.set k d↔x=d∨(x∈l∧x.2≠d.2):=by
 have m:=(gS.1 c).1
 constructor
 ·intro h;obtain ⟨q,a⟩:=List.mem_iff_getElem?.1 h;rw[List.getElem?_set] at a;by_cases e:k=q
  ·subst e;rw[if_pos rfl] at a;simp[m] at a;exact .inl a.symm
  ·rw[if_neg e] at a;refine .inr ⟨mG a,fun n=>e ?_⟩;exact o.inj (i:=k) (j:=q) (x:=b.2) (by rw[List.getElem?_map,c];rfl) (by rw[List.getElem?_map,a];simp[n,g])
 ·rintro (rfl|⟨h,f⟩)
  ·exact List.mem_set m _
  ·obtain ⟨q,a⟩:=List.mem_iff_getElem?.1 h;have e:k≠q:=by rintro rfl;rw[c] at a;cases a;exact f g.symm
   refine mG (i:=q) ?_;rw[List.getElem?_set,if_neg e];exact a
theorem ziX {W:World} {R:Nat→Prop} {p:Nat} {now:Int} {D:Int→Option Int} (h:zar W R p now D) {n t:Int} (hn:0≤n) (O:n<4096) (ht:zae t=true) (J:now≤t):
  Calls Tryz.prog 75 #[.pointer (some ⟨p,0,none⟩),n,t] W fun e W'=>e=.returned ↑()∧zar W' (fun b=>R b∨W.heap.size≤b) p now (upd D n (some t))∧Chg R W W':=by
 have h':=h;obtain ⟨r,g,m,l,hr,hh,hm,G⟩:=h';have Q:=hr.small G;obtain ⟨v,F,a⟩:=hr;have p0:W.cell? ⟨p,0,none⟩=some ↑now:=a.bp.cell 0;have p1:W.cell? ⟨p,1,none⟩=some (.pointer (some ⟨r,0,none⟩)):=a.bp.cell 1;have p2:W.cell? ⟨p,2,none⟩=some (.map (some m)):=a.bp.cell 2;have c:=(a.map.look (P:=Tryz.prog) (mty:=180) (kt:=2) (et:=3) zhT zhR Tryz.underlying180 Tryz.underlying2 (by kernel_rfl) n).1;have g1:¬n<0:=by omega
 have g2:¬t<now:=by omega
 have H:0≤t∧t≤1099511627776:=by simpa [zae] using ht
 have hint1:∀w,(Instr.makeInterface 179 (.pointer (some ⟨r,0,none⟩))).run Tryz.prog w=.ok (zhr r) w:=fun w=>by kernel_rfl
 have hint2:∀w,(Instr.makeInterface 161 (.agg #[t,n])).run Tryz.prog w=.ok (zfY (t,n)) w:=fun w=>by kernel_rfl
 have HC:=hid h;have HT:=hid a;have HH:=hid hh;have HM:=hid hm;have X:=hid G;have Z:=hid Q;have aa:=hid ht;have HTB:=hid H;have M:=hid (show 0≤n∧n<4096 from ⟨hn,O⟩)
 cases hF:F n with
 |none=>
  rw[hF] at c;simp only[Option.getD_none,Option.isSome_none] at c;have HF:=hid hF;clear h a hh hm G Q ht H hn O J hF;go_enter Tryz.func75,Tryz.ntmps75;go_wp2_with fail
  refine (zcv HC.out).mono ?_;rintro e w1 ⟨rfl,rfl⟩;go_wp2_with fail
  refine (zdD t _).mono ?_;rintro e w1 ⟨rfl,rfl⟩;rw[aa.out];go_wp2_with fail
  refine (zpj ⟨v,F,HT.out⟩ HH.out (d:=(t,n)) ⟨HTB.out,by have:=M.out;simp only;omega⟩ ((HT.out.idx.no n).1 HF.out) (by have:=Z.out;omega)).mono ?_;rintro e w3 ⟨rfl,⟨l',C,B,A⟩,z⟩;have N:=hid C;have E:=hid B;have L:=hid A;have K:=hid z;clear C B A z;go_wp2_with fail
  go_ret;refine ⟨rfl,⟨r,g,m,l',N.out,L.out,fun d=>?_,fun d hd=>?_⟩,K.out⟩
  ·rw[E.out.mem_iff,List.mem_append,List.mem_singleton];unfold upd;by_cases e:d.2=n
   ·rw[if_pos e]
    constructor
    ·rintro (h|rfl)
     ·exact absurd (List.mem_map.2 ⟨d,h,e⟩) ((HT.out.idx.no n).1 HF.out)
     ·rfl
    ·intro h
     right
     injection h with h
     exact Prod.ext h.symm e
   ·rw[if_neg e]
    constructor
    ·rintro (h|rfl)
     ·exact (HM.out d).1 h
     ·exact absurd rfl e
    ·exact fun h=>.inl ((HM.out d).2 h)
  ·rcases List.mem_append.1 (E.out.mem_iff.1 hd) with h|h
   ·exact X.out d h
   ·rw[List.mem_singleton.1 h];exact M.out.2
 |some i=>
  obtain ⟨k,rfl,T⟩:=(a.idx n i).1 hF;rw[List.getElem?_map] at T
  cases hd0:l[k]? with
  |none=>rw[hd0] at T;cases T
  |some d0=>
   rw[hd0] at T;have x:d0.2=n:=by simpa using T
   obtain ⟨q,cap,hv,hq,i0,i1,fi0,_,hcap⟩:=a.at_ hd0;have y:=(gS.1 hd0).1;rw[hF] at c;simp only[Option.getD_some,Option.isSome_some] at c;have r0:W.cell? ⟨r,0,none⟩=some (.slice (some ⟨q,0,none⟩) l.length cap):=(a.br.cell 0).trans (by rw[hv];rfl);have e1:(0:Int)≤(k:Int):=by omega
   have e2:(k:Int)<(l.length:Int):=by omega
   obtain ⟨U,hU⟩:=nm (W.setCell ⟨q,k*2,none⟩ ↑t);have o:Chg (·=q) W U:=by rw[hU];exact Chg.set W ⟨q,k*2,none⟩ _
   have s:=a.row;rw[hv] at s;obtain ⟨ab,S,nqr,nqg⟩:=s.blk q rfl;have nqm:q≠m:=a.map.not_row a.row (by rw[hv];rfl);have I:(l.set k (t,n)).map (·.2)=l.map (·.2):=by
    rw[List.map_set]
    apply List.ext_getElem?
    intro j;rw[List.getElem?_set];by_cases e:k=j
    ·subst e;simp[y];simpa [gE y,x] using (show (l[k]).2=n from by rw[gE y] at hd0;cases hd0;exact x).symm
    ·rw[if_neg e]
   have ac:TickI U R p r g m now v F (l.set k (t,n)):=by
    refine ⟨a.bp.chg o (fun e=>S e.symm),a.br.chg o (fun e=>nqr e.symm),a.bg.chg o (fun e=>nqg e.symm),?_,a.map.chg o (fun e=>nqm e.symm),by rw[I];exact a.idx,a.inR,fun d hd=>?_,a.ne⟩
    ·rw[List.length_set,hv,hU,zfD];have h3:=s.set (k*2) ↑t;have h4:((zbu l).set (k*2) ↑t).set (k*2+1) ↑n=(zbu l).set (k*2) ↑t:=by
      apply List.ext_getElem?
      intro j;by_cases e:k*2+1=j
      ·subst e;have h5:=(zb7 hd0).2;rw[x] at h5;rw[List.getElem?_set_self (by rw[List.length_set];exact (gS.1 h5).1),List.getElem?_set_ne (by omega),h5]
      ·rw[List.getElem?_set_ne e]
     rw[h4];exact h3
    ·rcases (zjA a.idx hd0 (d:=(t,n)) x.symm).1 hd with rfl|⟨h,_⟩
     ·exact ⟨H,by simp only;omega⟩
     ·exact a.ok d h
   have HTU:=hid ac;have HCU:=hid (o.mono (Y:=R) fun b _ e=>e▸ab);have HU:=hid hU;have HD0:=hid hd0;have HDN:=hid x;have HKL:=hid y;have HUP:=hid (show U.cell? ⟨p,1,none⟩=some (.pointer (some ⟨r,0,none⟩)) from (a.bp.chg o (fun e=>S e.symm)).cell 1);have V:=hid (show DnF leD (gD (l.set k (t,n))) (l.set k (t,n)).length k from by
    rw[List.length_set];exact zao.dn (f:=gD l) zdl hh (fun j hj hjl=>by simp[gD,List.getD_eq_getElem?_getD,List.getElem?_set,show ¬k=j from fun e=>hj e.symm]) y)
   clear h a hh hm G Q ht H hn O J hF T hd0 hv hU o s ab S nqr nqg nqm I ac y x;go_enter Tryz.func75,Tryz.ntmps75;go_wp2_with fail
   refine (zcv HC.out).mono ?_;rintro e w1 ⟨rfl,rfl⟩;go_wp2_with fail
   refine (zdD t _).mono ?_;rintro e w1 ⟨rfl,rfl⟩;rw[aa.out];go_wp2_with fail
   rw[←HU.out];refine (zq6 ⟨v,F,HTU.out⟩ V.out (by rw[List.length_set];have:=Z.out;omega) (by rw[List.length_set];exact HKL.out)).mono ?_;rintro e w3 ⟨rfl,⟨l',C,B,A⟩,z⟩;have N:=hid C;have E:=hid B;have L:=hid A;have K:=hid (HCU.out.trans z);clear C B A z;go_wp2_with fail
   go_ret;have hms:∀d,d∈l'↔d=(t,n)∨(d∈l∧d.2≠n):=fun d=>E.out.mem_iff.trans (zjA HT.out.idx HD0.out (d:=(t,n)) HDN.out.symm);refine ⟨rfl,zar.mono (R:=R) ⟨r,g,m,l',N.out,L.out,fun d=>?_,fun d hd=>?_⟩ (fun b _ h=>.inl h),K.out⟩
   ·rw[hms];unfold upd;by_cases e:d.2=n
    ·rw[if_pos e]
     constructor
     ·rintro (rfl|⟨_,h⟩)
      ·rfl
      ·exact absurd e h
     ·intro h
      left
      injection h with h
      exact Prod.ext h.symm e
    ·rw[if_neg e]
     constructor
     ·rintro (rfl|⟨h,_⟩)
      ·exact absurd rfl e
      ·exact (HM.out d).1 h
     ·exact fun h=>.inr ⟨(HM.out d).2 h,e⟩
   ·rcases (hms d).1 hd with rfl|⟨h,_⟩
    ·exact M.out.2
    ·exact X.out d h
theorem zqq {W:World} {R:Nat→Prop} {p r g m:Nat} {now:Int} {l:List Du} (h:zaP W R p r g m now l):Calls Tryz.prog 88 #[.pointer (some ⟨p,0,none⟩)] W fun e W'=>e=.returned ↑false∧W'=W:=by
 obtain ⟨v,F,h⟩:=h;have a:W.cell? ⟨p,1,none⟩=some (.pointer (some ⟨r,0,none⟩)):=h.bp.cell 1;clear h;go_enter Tryz.func88,Tryz.ntmps88;go_wp2_with fail
 go_ret;exact ⟨rfl,rfl⟩
theorem zsm {W:World} {R:Nat→Prop} {p r g m:Nat} {now:Int} {l:List Du} (h:zaP W R p r g m now l):Calls Tryz.prog 165 #[.pointer (some ⟨p,0,none⟩)] W fun e W'=>e=.returned ↑l.length∧W'=W:=by
 have H:=hid h;obtain ⟨v,F,h⟩:=h;have b:W.cell? ⟨p,1,none⟩=some (.pointer (some ⟨r,0,none⟩)):=h.bp.cell 1;clear h;go_enter Tryz.func165,Tryz.ntmps165;go_wp2_with fail
 refine (zqq H.out).mono ?_;rintro e a ⟨rfl,rfl⟩;go_wp2_with fail
 refine (zjO H.out).mono ?_;rintro e a ⟨rfl,rfl⟩;go_wp2_with fail
 go_ret;exact ⟨rfl,rfl⟩
theorem zqp {W:World} {R:Nat→Prop} {p r g m:Nat} {now:Int} {l:List Du} (h:zaP W R p r g m now l):
  Calls Tryz.prog 147 #[.pointer (some ⟨p,0,none⟩)] W fun e W'=>e=.returned (.tuple #[.agg #[.int .i64 (gD l 0).1,.int .i64 (gD l 0).2],(decide (0<l.length):Bool)])∧Below W W W':=by
 obtain ⟨n,b⟩:=nm (W.alloc (.cells #[(),()] 161));have c:Below W W n:=by rw[b];exact qA _
 have a:Blk n W 161 #[(),()]:=by rw[b];exact Blk.new W _ _
 have y:=h.grow c;have K:=a.cell 0;have L:=a.cell 1;have Q:=a.frozen;simp only[List.getElem?_toArray,List.getElem?_cons_zero,List.getElem?_cons_succ] at K L;have z:=hid y;have f:=hid c
 rcases Nat.eq_zero_or_pos l.length with e|e
 ·have H:l=[]:=List.eq_nil_of_length_eq_zero e;subst H;have j:=((a.set_ 0 ↑()).set_ 1 ↑()).cell 0;have k:=((a.set_ 0 ↑()).set_ 1 ↑()).cell 1
  simp at j k
  clear h y c e a;go_enter Tryz.func147,Tryz.ntmps147;go_wp2_with fail
  rw[←b];clear b;refine (zsm z.out).mono ?_;rintro e J ⟨rfl,rfl⟩;have G:(([]:List Du).length:Int)=0:=rfl;rw[G];go_wp2_with fail
  refine bodyPost_ret (v:=.tuple #[.agg #[(),()],false]) (by simp[results,Tryz.results147,go_sem,j,k]) rfl ⟨rfl,?_⟩;exact (f.out.setCell (p:=⟨W,0,none⟩) lR _).setCell (p:=⟨W,1,none⟩) lR _
 ·obtain ⟨v,F,o⟩:=y;obtain ⟨q,s,C,O,D,E,_,_,A⟩:=o.at_ (zcT e);have M:n.cell? ⟨p,1,none⟩=some (.pointer (some ⟨r,0,none⟩)):=o.bp.cell 1;have P:n.cell? ⟨r,0,none⟩=some (.slice (some ⟨q,0,none⟩) l.length s):=(o.br.cell 0).trans (by rw[C];rfl);obtain ⟨d,B⟩:=nm (gD l 0);rw[←B] at D E ⊢;obtain ⟨t,x⟩:=d;simp only[Nat.zero_mul,Nat.zero_add] at D E;have j:=((a.set_ 0 ↑t).set_ 1 ↑x).cell 0;have k:=((a.set_ 0 ↑t).set_ 1 ↑x).cell 1
  simp at j k
  have N:(0:Int)<(l.length:Int):=by omega
  have i:decide (0<l.length)=true:=decide_eq_true e;have I:((l.length:Int)==0)=false:=by rw[beq_eq_false_iff_ne];omega
  rw[i];clear h c e a o C B;go_enter Tryz.func147,Tryz.ntmps147;go_wp2_with fail
  rw[←b];clear b;refine (zsm z.out).mono ?_;rintro e J ⟨rfl,rfl⟩;go_wp2_with fail
  refine bodyPost_ret (v:=.tuple #[.agg #[t,x],true]) (by simp[results,Tryz.results147,go_sem,j,k]) rfl ⟨rfl,?_⟩;exact (f.out.setCell (p:=⟨W,0,none⟩) lR _).setCell (p:=⟨W,1,none⟩) lR _
theorem TickI.setNow {W:World} {R:Nat→Prop} {p r g m:Nat} {now:Int} {v:Value} {F:Int→Option Int} {l:List Du} (h:TickI W R p r g m now v F l) (t:Int):TickI (W.setCell ⟨p,0,none⟩ ↑t) R p r g m t v F l:=by
 have a:=Chg.set W ⟨p,0,none⟩ ↑t;exact ⟨h.bp.set_ 0 _,h.br.chg a (fun e=>h.ne.1 e.symm),h.bg.chg a (fun e=>h.ne.2.1 e.symm),h.row.chgB a (fun b c e=>(h.row.blk b c).2.1 e),h.map.chg a (fun e=>h.map.not_cells h.bp e.symm),h.idx,h.inR,h.ok,h.ne⟩
def zbn (D:Int→Option Int) (t:Int):Int→Option Int:=fun n=>match D n with|some x=>if x≤t then none else some x|none=>none
structure DueL (D:Int→Option Int) (t:Int) (outs:List Du):Prop where
 sorted:outs.Pairwise leD
 mem:∀d:Du,d∈outs↔D d.2=some d.1∧d.1≤t
 nodup:(outs.map (·.2)).Nodup
theorem zqr {W:World} {R:Nat→Prop} {p:Nat} {now:Int} {D:Int→Option Int} (h:zar W R p now D) {t:Int} (b:zae t=false∨t<now):
  Calls Tryz.prog 124 #[.pointer (some ⟨p,0,none⟩),t] W fun e W'=>e=.returned (.tuple #[.slice none 0 0,(if zae t=true then 6 else 2:Int)])∧W'=W:=by
 have g:=h.cell.1;have d:=hid h;clear h
 cases hb:zae t with
 |false=>
  have a:=hid hb;clear hb b;go_enter Tryz.func124,Tryz.ntmps124;go_wp2_with fail
  refine (zcv d.out).mono ?_;rintro e c ⟨rfl,rfl⟩;go_wp2_with fail
  refine (zdD t _).mono ?_;rintro e c ⟨rfl,rfl⟩;rw[a.out];go_wp2_with fail
  go_ret2
  exact ⟨rfl,rfl⟩
 |true=>
  have f:t<now:=b.resolve_left (by rw[hb];simp);have a:=hid hb;clear hb b;go_enter Tryz.func124,Tryz.ntmps124;go_wp2_with fail
  refine (zcv d.out).mono ?_;rintro e c ⟨rfl,rfl⟩;go_wp2_with fail
  refine (zdD t _).mono ?_;rintro e c ⟨rfl,rfl⟩;rw[a.out];go_wp2_with fail
  go_ret2
  exact ⟨rfl,rfl⟩
theorem zsy {W:World} {g:Nat} {d:Du} (h:Blk W g 161 #[d.1,d.2]):W.cell? ⟨g,0,none⟩=some ↑d.1∧W.cell? ⟨g,1,none⟩=some ↑d.2:=⟨h.cell 0,h.cell 1⟩
theorem zaP.cells {W:World} {R:Nat→Prop} {p r g m:Nat} {now:Int} {l:List Du} (h:zaP W R p r g m now l):W.cell? ⟨p,1,none⟩=some (.pointer (some ⟨r,0,none⟩))∧R p:=by
 obtain ⟨v,F,h⟩:=h;exact ⟨h.bp.cell 1,h.inR.1⟩
structure UpI (W0:World) (R:Nat→Prop) (p r g m:Nat) (t:Int) (l:List Du) (gb:Nat) (v:Value) (outs l':List Du) (W:World):Prop where
 row:RowAt W (fun b=>W0.heap.size≤b∧b≠gb) 161 2 v outs.length (zbu outs)
 box:Blk W gb 161 #[.int .i64 (gD l' 0).1,.int .i64 (gD l' 0).2]
 gb:W0.heap.size≤gb
 cal:zaP W R p r g m t l'
 heap:zao leD (gD l') l'.length
 perm:l.Perm (outs++l')
 sorted:outs.Pairwise leD
 least:∀x∈outs,∀y∈l',leD x y
 till:∀x∈outs,x.1≤t
 chg:Chg R W0 W
def ztX (W:World) (R:Nat→Prop) (p r g m:Nat) (t:Int) (l:List Du) (e:Ending) (W':World):Prop:=
 ∃v outs l',e=.returned (.tuple #[v,.int .i64 0])∧RowAt W' (fun b=>W.heap.size≤b) 161 2 v outs.length (zbu outs)∧zaP W' R p r g m t l'∧zao leD (gD l') l'.length∧
   l.Perm (outs++l')∧outs.Pairwise leD∧(∀x∈outs,x.1≤t)∧(∀x∈l',t<x.1)∧Chg R W W'
theorem zr6 {W:World} {R:Nat→Prop} (hR:∀b,R b→b<W.heap.size) {p r g m:Nat} {now:Int} {l:List Du} (hr:zaP W R p r g m now l) (hh:zao leD (gD l) l.length) (hsm:l.length≤4096) {t:Int} (ht:zae t=true) (hnow:now≤t):
  Calls Tryz.prog 124 #[.pointer (some ⟨p,0,none⟩),t] W fun e W'=>ztX W R p r g m t l e W':=by
 have K:=hid hR;have HR:=hid hr;have HH:=hid hh;have HSM:=hid hsm;have HT:=hid ht;obtain ⟨v0,F0,G⟩:=hr;have p0:W.cell? ⟨p,0,none⟩=some ↑now:=G.bp.cell 0;have pf:W.frozen? ⟨p,0,none⟩=false:=G.bp.frozen 0;obtain ⟨U,hU⟩:=nm (W.setCell ⟨p,0,none⟩ ↑t);have hcU:Chg R W U:=by rw[hU];exact (Chg.set W ⟨p,0,none⟩ _).mono fun b _ e=>e▸G.inR.1
 have hTU:zaP U R p r g m t l:=by rw[hU];exact ⟨v0,F0,G.setNow t⟩
 have HU:=hid hU;have HCU:=hid hcU;have HTU:=hid hTU;have g2:¬t<now:=by omega
 clear hh hsm ht G hU hcU hTU hR;go_enter Tryz.func124,Tryz.ntmps124;go_wp2_with fail
 refine (zqq HR.out).mono ?_;rintro e w1 ⟨rfl,rfl⟩;go_wp2_with fail
 refine (zdD t _).mono ?_;rintro e w1 ⟨rfl,rfl⟩;rw[HT.out];go_wp2_with fail
 rw[←HU.out];clear p0 pf;refine (zqp HTU.out).mono ?_;rintro e w2 ⟨rfl,af⟩;have HC2:=hid (HCU.out.grow af);have HT2:=hid (HTU.out.grow af);have hs2:=HC2.out.size;clear af;go_wp2_with fail
 obtain ⟨w3,Q⟩:=nm (w2.alloc (.cells #[.int .i64 (gD l 0).1,.int .i64 (gD l 0).2] 161));have ag:Below w2 w2 w3:=by rw[Q];exact qA _
 have HI3:=hid (show UpI w1 R p r g m t l w2.heap.size (.slice none 0 0) [] l w3 from ⟨RowAt.nil,by rw[Q];exact Blk.new _ _ _,hs2,HT2.out.grow ag,HH.out,by simp,List.Pairwise.nil,by simp,by simp,HC2.out.grow ag⟩);rw[←Q];clear Q ag
 go_loopw [6,7,8] (fun o b k wr=>∃(A:Option Addr) (c S:Nat) (a C:List Du),o=.slice A a.length c∧b=.pointer (some ⟨S,0,none⟩)∧k=.bool (decide (0<C.length))∧UpI w1 R p r g m t l S (.slice A a.length c) a C wr) (fun o _ _ _=>l.length-(match o with| .slice _ n _=>n|_=>0))
 case atStart=>exact ⟨none,0,w2.heap.size,[],l,rfl,rfl,rfl,HI3.out⟩
 case round=>
  obtain ⟨A,c,S,a,C,rfl,rfl,rfl,i⟩:=hrel;obtain ⟨b0,b1⟩:=zsy i.box;have f:=hid i
  rcases Nat.eq_zero_or_pos C.length with e0|e0
  ·have H:decide (0<C.length)=false:=decide_eq_false (by omega);have E0:=hid (List.eq_nil_of_length_eq_zero e0);rw[H];clear i e0;go_wp2_with fail
   go_ret2
   exact ⟨_,a,C,rfl,f.out.row.mono (fun b _ h=>h.1),f.out.cal,f.out.heap,f.out.perm,f.out.sorted,f.out.till,by rw[E0.out];simp,f.out.chg⟩
  ·have H:decide (0<C.length)=true:=decide_eq_true e0;rw[H];have E0:=hid e0;by_cases s:(gD C 0).1≤t
   ·have aa:=hid s;obtain ⟨d,T⟩:=nm (gD C 0);have HD:=hid T;rw[←T] at b0 b1 s;obtain ⟨D,E⟩:=d;simp only at b0 b1 s;have V:=i.perm.length_eq;have ab:=hid V;have L:=hid (i.row.grow (bR.alloc lR (.cells #[D,E] 161)));have HSO:=hid (show a.length<4096 by have:=HSM.out;have:=ab.out;rw[List.length_append] at this;omega);clear i e0 T V;have HRP:=hid HR.out.cells.2
    go_wp2_with (at_builtin;go_must (refine zby _ (.tmp 44) (.tmp 46) rfl zjg rfl (.slice A a.length c) a.length (zbu a) rfl L.out (.slice (some ⟨wr,0,none⟩) 1 1) 1 [.int .i64 D,.int .i64 E] rfl (Sl.lit1 (Blk.new wr 161 #[D,E]) rfl) (by simp[Value.oneCell']) (by have:=HSO.out;omega) (by have:=HSO.out;unfold maxLen;omega) ?_);intro A3 c3 Z hrZ ak;have ae:zaP Z R p r g m t C:=(f.out.cal.grow (bR.alloc lR (.cells #[D,E] 161))).chg ak (fun b F q I=>by have:=(L.out.blk b I).1;have:=K.out b q;omega);have c1:=ae.cells.1;have HTZ:=hid ae;have HRZ:=hid hrZ;have Y:=hid ak;clear ae hrZ ak)
    refine (zrc HTZ.out f.out.heap (by have:=HSM.out;have:=ab.out;rw[List.length_append] at this;omega) E0.out).mono ?_;rintro e j ⟨rfl,⟨l2,hr2,hp2,hh2⟩,P⟩;have hsz:j.heap.size ≥ wr.heap.size+1:=lT (lT (by simp) Y.out.size) P.size;have hgb:=f.out.box.lt;have ah:Blk j S 161 #[D,E]:=by
     have q:=f.out.box;rw[←HD.out] at q;refine ((q.alloc _).chg Y.out (fun I=>(L.out.blk S I).2 rfl)).chg P (fun I=>?_);have:=K.out S I;have:=f.out.gb
     omega
    obtain ⟨W6,N⟩:=nm (j.alloc (.cells #[D,E] 161));have ai:Below j j W6:=by rw[N];exact qA _
    have HB6:=hid ai;have HX6:=hid (show Blk W6 j 161 #[D,E] by rw[N];exact Blk.new _ _ _);have HR2:=hid (hr2.grow ai);have J:=hid hp2;have HH2:=hid hh2;have HC5:=hid P;have ac:=hid hsz;have y0:j.cell? ⟨S,0,none⟩=some ↑D:=ah.cell 0;have y1:j.cell? ⟨S,1,none⟩=some ↑E:=ah.cell 1;clear hr2 hp2 hh2 P hsz hgb ah ai b0 b1 c1;go_wp2_with fail
    rw[←N];clear N y0 y1;refine (zqp HR2.out).mono ?_;rintro e W7 ⟨rfl,O⟩;have M:=hid (HX6.out.grow O);have HR7:=hid (HR2.out.grow O);have HB7:=hid (HB6.out.trans (O.mono HB6.out.size));clear O;have x0:W7.cell? ⟨j,0,none⟩=some ↑D:=M.out.cell 0;have x1:W7.cell? ⟨j,1,none⟩=some ↑E:=M.out.cell 1;have xf:=M.out.frozen;obtain ⟨W8,hW8⟩:=nm ((W7.setCell ⟨j,0,none⟩ (.int .i64 (gD l2 0).1)).setCell ⟨j,1,none⟩ (.int .i64 (gD l2 0).2));have ad:=hid hW8;clear hW8;go_wp2_with fail
    rw[←ad.out];go_roundw
    case rel=>
     have i:=f.out;have s:=aa.out;have T:=HD.out;have aj:Chg (·=j.heap.size) W7 W8:=by rw[ad.out];exact (Chg.set W7 ⟨j,0,none⟩ _).trans (Chg.set _ ⟨j,1,none⟩ _)
     have hcR:∀b,b<W7.heap.size→R b→¬b=j.heap.size:=fun b _ F e=>by have q:=K.out b F;have I:=ac.out;have h3:=i.chg.size;omega
     have v:=(HRZ.out.chg (X:=R) HC5.out (fun b F q I=>by
      have h3:=K.out b I
      rcases q with q|q
      ·exact absurd q.1 (by omega)
      ·have h4:=i.chg.size;rw[q] at h3;simp at h3;omega))
     have B:∀b,(Value.slice A3 (a.length+1) c3).ownBlock=some b→b<j.heap.size:=fun b F=>v.lt F;have al:RowAt W8 (fun b=>w1.heap.size≤b∧b≠j.heap.size) 161 2 (.slice A3 (a.length+1) c3) (a.length+1) (zbu a++[.int .i64 D,.int .i64 E]):=by
      refine ⟨((v.grow HB7.out).chgB aj (fun b F e=>by have:=B b F;omega)).own,fun b F=>⟨?_,by have:=B b F;omega⟩⟩
      rcases v.blk b F with h|h
      ·exact h.1
      ·have h3:=i.chg.size;rw[h];simp;omega
     refine ⟨A3,c3,j.heap.size,a++[(D,E)],l2,by simp,rfl,rfl,?_⟩;refine ⟨?_,?_,?_,HR7.out.chg aj hcR,HH2.out,?_,?_,?_,?_,?_⟩
     ·rw[List.length_append,zg3];exact al
     ·rw[ad.out];exact (M.out.set_ 0 _).set_ 1 _
     ·have I:=ac.out;have h3:=i.chg.size;omega
     ·have q:(a++C).Perm (a++((D,E)::l2)):=(List.Perm.refl _).append (by have:=J.out;rwa [←T] at this);rw[List.append_assoc];exact i.perm.trans q
     ·rw[List.pairwise_append];refine ⟨i.sorted,by simp,fun x z y hy=>?_⟩;rw[List.mem_singleton.1 hy,T];exact i.least x z _ (J.out.mem_iff.2 (.head _))
     ·intro x z y hy
      rcases List.mem_append.1 z with z|z
      ·exact i.least x z y (J.out.mem_iff.2 (.tail _ hy))
      ·rw[List.mem_singleton.1 z,T];obtain ⟨k,hk⟩:=List.mem_iff_getElem?.1 (J.out.mem_iff.2 (.tail _ hy):y∈C);have q:=zao.least zdl zhf i.heap k (gS.1 hk).1
       rwa [zll hk] at q
     ·intro x z
      rcases List.mem_append.1 z with z|z
      ·exact i.till x z
      ·rw[List.mem_singleton.1 z,T];exact s
     ·have hs:=i.chg.size;refine ((((i.chg.grow (bR.alloc lR (.cells #[D,E] 161))).step Y.out fun b F h=>?_).trans HC5.out).grow HB7.out).step aj fun b F e=>?_
      ·have:=(L.out.blk b h).1;omega
      ·have:=ac.out;omega
    case measure=>
     have hm:=ab.out;have he:=E0.out;rw[List.length_append] at hm
     simp;omega
   ·have aa:=hid s;have hle':¬(gD C 0).1≤t:=s;clear i e0;go_wp2_with fail
    go_ret2
    refine ⟨_,a,C,rfl,f.out.row.mono (fun b _ h=>h.1),f.out.cal,f.out.heap,f.out.perm,f.out.sorted,f.out.till,fun x z=>?_,f.out.chg⟩;obtain ⟨k,hk⟩:=List.mem_iff_getElem?.1 z;have q:=zao.least zdl zhf f.out.heap k (gS.1 hk).1;rw[zll hk] at q;have I:=aa.out;unfold leD at q
    omega
theorem zar.own {W:World} {R:Nat→Prop} {p:Nat} {now:Int} {D:Int→Option Int} (h:zar W R p now D):zar W (fun b=>R b∧b<W.heap.size) p now D:=h.mono fun b hb hr=>⟨hr,hb⟩
theorem zr7 {W:World} {R:Nat→Prop} {p:Nat} {now:Int} {D:Int→Option Int} (h:zar W R p now D) {t:Int} (K:zae t=true) (j:now≤t):
  Calls Tryz.prog 124 #[.pointer (some ⟨p,0,none⟩),t] W fun e W'=>∃v outs,e=.returned (.tuple #[v,()])∧RowAt W' (fun b=>W.heap.size≤b) 161 2 v outs.length (zbu outs)∧DueL D t outs∧zar W' R p t (zbn D t)∧Chg R W W':=by
 obtain ⟨r,g,m,l,y,H,I,i⟩:=h.own;have q:(l.map (·.2)).Nodup:=by
  obtain ⟨v,F,C⟩:=y;exact C.idx.nodup
 refine (zr6 (fun b h=>h.2) y H (y.small i) K j).mono ?_;rintro e W' ⟨v,outs,A,rfl,k,z,o,s,J,f,c,E⟩;have a:∀d,D d.2=some d.1↔d∈outs∨d∈A:=fun d=>by rw[←I d,s.mem_iff,List.mem_append]
 refine ⟨v,outs,rfl,k,⟨J,fun d=>?_,?_⟩,zar.mono (R:=fun b=>R b∧b<W.heap.size) ⟨r,g,m,A,z,o,fun d=>?_,fun d G=>i d (s.mem_iff.2 (List.mem_append_right _ G))⟩ (fun b _ h=>h.1),E.mono fun b _ h=>h.1⟩
 ·rw[a]
  constructor
  ·exact fun h=>⟨.inl h,f d h⟩
  ·rintro ⟨h|h,n⟩
   ·exact h
   ·have:=c d h;omega
 ·have:=(s.map (·.2)).nodup q;rw[List.map_append] at this;exact (List.nodup_append.1 this).1
 ·unfold zbn
  constructor
  ·intro h;have B:=(a d).2 (.inr h);rw[B];simp only;rw[if_neg (by have:=c d h;omega)]
  ·intro h
   cases hD:D d.2 with
   |none=>rw[hD] at h;cases h
   |some x=>
    rw[hD] at h;simp only at h;by_cases hx:x≤t
    ·rw[if_pos hx] at h;cases h
    ·rw[if_neg hx] at h;injection h with h
     subst h
     rcases (a d).1 hD with n|n
     ·exact absurd (f d n) hx
     ·exact n
theorem zqm {W:World} {R:Nat→Prop} {p:Nat} {now:Int} {D:Int→Option Int} (h:zar W R p now D) {n t:Int} (L:D n=some t):
  Calls Tryz.prog 237 #[.pointer (some ⟨p,0,none⟩),n] W fun e W'=>e=.returned ↑()∧zar W' R p now (upd D n none)∧Chg R W W':=by
 have X:=h;obtain ⟨r,g,m,l,O,N,J,f⟩:=X;have x:=O.small f;have b:(t,n)∈l:=(J (t,n)).2 L;obtain ⟨k,I⟩:=List.mem_iff_getElem?.1 b;obtain ⟨v,F,c⟩:=O;have M:F n=some (k:Int):=c.idx.at_ (by rw[List.getElem?_map,I];rfl);have p1:W.cell? ⟨p,1,none⟩=some (.pointer (some ⟨r,0,none⟩)):=c.bp.cell 1;have p2:W.cell? ⟨p,2,none⟩=some (.map (some m)):=c.bp.cell 2;have a:=(c.map.look (P:=Tryz.prog) (mty:=180) (kt:=2) (et:=3) zhT zhR Tryz.underlying180 Tryz.underlying2 (by kernel_rfl) n).1;rw[M] at a;simp only[Option.getD_some,Option.isSome_some] at a;have H:∀w,(Instr.makeInterface 179 (.pointer (some ⟨r,0,none⟩))).run Tryz.prog w=.ok (zhr r) w:=fun w=>by kernel_rfl
 have Q:=hid h;have U:=hid (show zaP W R p r g m now l from ⟨v,F,c⟩);have V:=hid c.idx.nodup;have S:=hid N;have T:=hid J;have B:=hid f;have G:=hid x;have K:=hid I;clear h c N J f x b I M L;go_enter Tryz.func237,Tryz.ntmps237;go_wp2_with fail
 refine (zcv Q.out).mono ?_;rintro e w1 ⟨rfl,rfl⟩;go_wp2_with fail
 refine (zmG U.out S.out (by have:=G.out;omega) (gS.1 K.out).1).mono ?_;rintro e w3 ⟨rfl,⟨Z,s,q,j⟩,i⟩;have E:=hid s;have C:=hid q;have A:=hid j;have z:=hid i;clear s q j i;go_wp2_with fail
 go_ret;have y:=C.out;rw[zll K.out] at y;have o:=(y.map (·.2)).nodup V.out;rw[List.map_cons,List.nodup_cons] at o;refine ⟨rfl,⟨r,g,m,Z,E.out,A.out,fun d=>?_,fun d Y=>B.out d (y.mem_iff.2 (.tail _ Y))⟩,z.out⟩;unfold upd;by_cases e:d.2=n
 ·rw[if_pos e]
  constructor
  ·intro h;exact absurd (List.mem_map.2 ⟨d,h,e⟩) o.1
  ·intro h;cases h
 ·rw[if_neg e,←T.out d,y.mem_iff,List.mem_cons]
  constructor
  ·exact fun h=>.inr h
  ·rintro (rfl|h)
   ·exact absurd rfl e
   ·exact h
end Ho
end Go.Proofs.YtckdpejdnejhfaaGreat

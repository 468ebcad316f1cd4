/- Joined by program. -/
import Derived.Test.YtckdpejdnejhfaaGreatZk
import Derived.Laws.Tables
import Derived.Laws.Rows
import Derived.Deep.RegionLaw
import Derived.Lib.SliceRun
set_option linter.all false
set_option maxRecDepth 100000
set_option maxHeartbeats 32000000
namespace Go.Proofs.YtckdpejdnejhfaaGreat
open Lib (hid)
namespace Ho
open Go.RowKit Vb Ac
theorem zm1:zbg Tryz.prog 77 136 1 8:=zba Tryz.underlying77 (by omega) (z:=.pointer none) (by kernel_rfl) rfl
def zcE (H:House) (c:Int) (s:ByteArray):Int:=if zae c=false then 2 else zes H.names 4096 s
def zg6 (H:House) (c:Int) (s:ByteArray):House:={H with names:=H.names++[s],accs:=H.accs++[⟨c,0,[]⟩]}
theorem zaK {c:Int}:zae c=true↔zah c:=by simp[zae,zah]
theorem zoT {W d W4 U:World} {T:Nat→Part} {h pn pc K n o A:Nat} {va vl vb vs v':Value} {H:House} {a:Acc} {s:ByteArray} {bs ms:Nat→Nat} (r:HouseAt W T h pn pc va vl vb vs K H)
  (C:∀i a,H.accs[i]? =some a→AccAt W (bs i) (ms i) K a∧T (bs i)=.acc i∧T (ms i)=.acc i) (M:n=H.accs.length)
  (y:Chg (fun b=>T b=.names) W d) (J:zaw d (fun b=>(T b=.names∧b<W.heap.size)∨W.heap.size≤b) pn 4096 (H.names++[s])) (v:Below d d W4) (g:AccAt W4 o A 0 a) (Q:d.heap.size≤o) (S:d.heap.size≤A)
  (j:RowAt U (fun b=>(T b=.accs∧b<W.heap.size)∨W4.heap.size≤b) 136 1 v' (n+1) (ptrs bs n++[.pointer (some ⟨o,0,none⟩)])) (q:Chg (fun b=>(T b=.accs∨T b=.hs)∧b<W.heap.size) W4 U)
  (D:Blk U h 83 #[.pointer (some ⟨pn,0,none⟩),v',vl,.pointer (some ⟨pc,0,none⟩),vb,vs]):∃T',zaf U T' h K {H with names:=H.names++[s],accs:=H.accs++[a]}∧Moves W T U T':=by
 obtain ⟨T',f⟩:=nm (fun b=>if b<W.heap.size then T b else if b<d.heap.size then .names else if b<W4.heap.size then .acc n else if b<U.heap.size then .accs else .no:Nat→Part);have l:∀b,b<W.heap.size→T' b=T b:=fun b p=>by rw[f];simp[p]
 have V:=y.size;have X:=v.size;have Y:=q.size;have F:=g.ltb;have G:=g.ltm;have m:Chg (fun b=>(T b=.accs∨T b=.hs)∧b<W.heap.size) d U:=(Chg.of _ v).trans q;have c:Chg (fun b=>T b=.names∨T b=.accs∨T b=.hs) W U:=(y.mono fun b _ e=>.inl e).step m fun b _ e=>.inr e.1;refine ⟨T',⟨pn,pc,v',vl,vb,vs,?_⟩,c.mono fun b _ e=>?_,l⟩
 ·refine ⟨(l h r.blk.lt).trans r.top,D,?_,⟨fun i=>if i=n then o else bs i,fun i=>if i=n then A else ms i,?_,fun i x z=>?_⟩,r.lots.step c (fun b e=>?_) l,r.cal.step c (fun b e=>by rintro (k|k|k)<;>rw[e] at k<;>cases k) l,r.book.step c (fun b e=>?_) l,r.sales.step c (fun b e=>by rintro (k|k|k)<;>rw[e] at k<;>cases k) l,fun b p=>?_⟩
  ·refine zaw.mono (zaw.chg (R:=fun b=>((T b=.names∧b<W.heap.size)∨W.heap.size≤b)∧b<d.heap.size) (J.mono fun b p t=>⟨t,p⟩) m fun b _ t e=>?_) fun b _ t=>?_
   ·rcases t.1 with k|k
    ·rw[k.1] at e;rcases e.1 with e|e<;>cases e
    ·have:=e.2;omega
   ·rcases t.1 with k|k
    ·exact (l b k.2).trans k.1
    ·rw[f];simp[show ¬b<W.heap.size by omega,t.2]
  ·have B:(H.accs++[a]).length=n+1:=by simp[M]
   show RowAt U _ _ 1 v' (H.accs++[a]).length (ptrs _ (H.accs++[a]).length)
   rw[B,zfK];have P:ptrs (fun i=>if i=n then o else bs i) n=ptrs bs n:=zeL fun i z=>by simp[show ¬i=n by omega]
   rw[P];simp only[if_true];refine ⟨j.own,fun b p=>?_⟩;have I:=j.lt p
   rcases j.blk b p with k|k
   ·exact (l b k.2).trans k.1
   ·rw[f];simp[show ¬b<W.heap.size by omega,show ¬b<d.heap.size by omega,show ¬b<W4.heap.size by omega,I]
  ·by_cases e:i=n
   ·subst e;have Z:x=a:=by
     have:(H.accs++[a])[i]? =some a:=by simp[M]
     rw[this] at z;cases z;rfl
    subst Z;simp only[if_true];refine ⟨(g.chg q (fun e=>by have:=e.2;omega) (fun e=>by have:=e.2;omega)).mono (zL),?_,?_⟩
    ·rw[f];simp[show ¬o<W.heap.size by omega,show ¬o<d.heap.size by omega,F]
    ·rw[f];simp[show ¬A<W.heap.size by omega,show ¬A<d.heap.size by omega,G]
   ·simp only[if_neg e];have E:H.accs[i]? =some x:=by
     have B:=(gS.1 z).1;simp only[List.length_append,List.length_singleton] at B
     rwa [List.getElem?_append_left (by omega)] at z
    obtain ⟨L,N,O⟩:=C i x E;exact ⟨L.chg c (fun k=>by rw[N] at k;rcases k with k|k|k<;>cases k) (fun k=>by rw[O] at k;rcases k with k|k|k<;>cases k),(l _ L.ltb).trans N,(l _ L.ltm).trans O⟩
  ·rcases e with e|⟨i,e⟩|e<;>rintro (k|k|k)<;>rw[e] at k<;>cases k
  ·rcases e with e|e<;>rintro (k|k|k)<;>rw[e] at k<;>cases k
  ·rw[f];simp[show ¬b<W.heap.size by omega,show ¬b<d.heap.size by omega,show ¬b<W4.heap.size by omega,show ¬b<U.heap.size by omega]
 ·rcases e with e|e|e<;>exact ⟨by rw[e];simp,by rw[e];simp⟩
theorem zaw.own {W:World} {R:Nat→Prop} {p:Nat} {most:Int} {ns:List ByteArray} (h:zaw W R p most ns):zaw W (fun b=>R b∧b<W.heap.size) p most ns:=h.mono fun b hb hr=>⟨hr,hb⟩
theorem znT {W:World} {T:Nat→Part} {h pn pc K:Nat} {va vl vb vs:Value} {H:House} (k:HouseAt W T h pn pc va vl vb vs K H) (o:OrderR) (vo:Value) (n:zcE H o.coins o.name≠0):
  Calls Tryz.prog 94 #[.pointer (some ⟨h,0,none⟩),o.agg vo] W fun e W'=>e=.returned (.tuple #[(),(zcE H o.coins o.name:Int)])∧Below W W W':=by
 obtain ⟨q,c⟩:=nm (W.alloc (.cells (o.cells vo).toArray 61));have d:Below W W q:=by rw[c];exact qA _
 have l:Blk q W 61 (o.cells vo).toArray:=by rw[c];exact Blk.new _ _ _
 obtain ⟨z,g⟩:=nm (zcE H o.coins o.name);rw[←g] at n ⊢;unfold zcE at g;have H1:=hid (k.grow d);have i:=hid d;have U:=(k.grow d).cells.1;have V:=(k.grow d).cells.2.2.2.2.2.2;have x:=hid (k.grow d).names;obtain ⟨B,f,a,p,M,⟨J,C,r,E,Q,t,L,A,G,y,P⟩,N,D⟩:=o;simp only at g;simp only[OrderR.agg,OrderR.cells,LotR.cells,List.cons_append,List.nil_append] at c l ⊢;have Z:q.cell? ⟨W,1,none⟩=some (.string f):=l.cell 1;have x2:q.cell? ⟨W,2,none⟩=some ↑a:=l.cell 2;have xl:=l.lt
 cases hc:zae a with
 |false=>
  rw[hc,if_pos rfl] at g;subst g;have v:=hid hc;clear k d l hc n;go_enter Tryz.func94,Tryz.ntmps94;go_wp2_with fail
  rw[←c];clear c;refine (zce a _).mono ?_;rintro e j ⟨rfl,rfl⟩;rw[v.out];go_wp2_with fail
  go_ret2
  exact ⟨rfl,i.out⟩
 |true=>
  rw[hc,if_neg (by simp)] at g;have v:=hid hc;have F:=hid g;have R:=hid n;have X:(z==0)=false:=by simpa using n
  clear k d l hc n g;go_enter Tryz.func94,Tryz.ntmps94;go_wp2_with fail
  rw[←c];clear c;refine (zce a _).mono ?_;rintro e j ⟨rfl,rfl⟩;rw[v.out];go_wp2_with fail
  refine zac (Below j j) [] (by kernel_rfl) (bR.drew) (fun b=>?_);refine tp 0 b ?_;refine tp 1 b ?_;refine tp 2 b ?_;refine tp 3 b ?_;have O:=hid fun (Y:World) (m:(Below j j) Y)=>And.intro (qc m Z xl)<|qc m U V;refine tl 4 b O ?_;refine tp 5 b ?_;refine tl 6 b O ?_;refine stp 7 fun K I=>?_;go_simp;refine (zrt (W:=j.drew) (x.out.grow bR.drew) (s:=f) (by rw[←F.out];exact R.out)).mono ?_;rintro e W7 ⟨rfl,rfl⟩;rw[←F.out];refine I.out _ _ ?_ (fun b=>?_)
  ·exact b
  clear I K
  try simp only[Act.put,pb,pz,ps]
  refine tp 8 b ?_;refine tp 9 b ?_;refine tp 10 b ?_;refine tp 11 b ?_;refine tp 12 b ?_;refine zaa (by kernel_rfl) ?_ _;have S:=hid b;clear b;go_wp2_with fail
  go_ret2
  exact ⟨rfl,i.out.trans (S.out.mono i.out.size)⟩
theorem zkM {W:World} {T:Nat→Part} {h pn pc K:Nat} {va vl vb vs:Value} {H:House} (I:HouseAt W T h pn pc va vl vb vs K H) (y:H.accs.length=H.names.length) (o:OrderR) (vo:Value) (J:zcE H o.coins o.name=0) (ad:H.names.length≤4096):
  Calls Tryz.prog 94 #[.pointer (some ⟨h,0,none⟩),o.agg vo] W fun e W'=>e=.returned (.tuple #[H.names.length,()])∧∃T',zaf W' T' h K (zg6 H o.coins o.name)∧Moves W T W' T':=by
 obtain ⟨W1,g⟩:=nm (W.alloc (.cells (o.cells vo).toArray 61));have i:Below W W W1:=by rw[g];exact qA _
 have hx:Blk W1 W 61 (o.cells vo).toArray:=by rw[g];exact Blk.new _ _ _
 have hc:zae o.coins=true:=by
  cases t:zae o.coins with
  |true=>rfl
  |false=>unfold zcE at J;rw[if_pos t] at J;cases J
 have x:zes H.names 4096 o.name=0:=by
  unfold zcE at J;rwa [if_neg (by rw[hc];simp)] at J
 obtain ⟨bs,ms,l,X⟩:=I.accs;obtain ⟨A,c,G⟩:=l.form;have z:=hid I;have L:=hid i;have HX:=hid hx;have c0:=(I.grow i).cells.1;have hl:=(I.grow i).cells.2.2.2.2.2.2;have HNM:=hid (zaw.grow I.names.own i);obtain ⟨n,hn⟩:=nm (H.accs.length);have HN:=hid hn;have d:=hid (show RowAt W (fun b=>T b=.accs∧b<W.heap.size) 136 1 (.slice A n c) n (ptrs bs n) by rw[hn,←G];exact l.mono fun b hb hr=>⟨hr,hb⟩);have P:=hid (show va=.slice A n c by rw[hn];exact G);have HAS:=hid X;have B:=hid y;have C:=hid ad;have q:=hid x;have HC:=hid hc;obtain ⟨okind,m,a,ae,olot,⟨kind,opens,closes,start,step,extend,last,floor,fall,count,rule⟩,ooff,otick⟩:=o;simp only at q HC;simp only[OrderR.agg,OrderR.cells,LotR.cells,List.cons_append,List.nil_append] at g HX ⊢;have x1:W1.cell? ⟨W,1,none⟩=some (.string m):=HX.out.cell 1;have xl:=HX.out.lt;clear I i hx hc x J l X G hn y ad;go_enter Tryz.func94,Tryz.ntmps94;go_wp2_with fail
 rw[←g];clear g;refine (zce a _).mono ?_;rintro e Q ⟨rfl,rfl⟩;rw[HC.out];go_wp2_with fail
 refine zac (Below Q Q) [7,8,9,10,11,12] (by kernel_rfl) (bR.drew) (fun v=>?_);refine tpD [1,2,3,4,7,8,9,10,11,12] 0 v ?_;refine tpD [2,3,4,7,8,9,10,11,12] 1 v ?_;refine tpD [3,4,7,8,9,10,11,12] 2 v ?_;refine tpD [4,7,8,9,10,11,12] 3 v ?_;have qq:=hid fun (w':World) (V:(Below Q Q) w')=>And.intro (qc V x1 xl)<|qc V c0 hl;refine tlD [7,8,9,10,11,12] 4 v qq ?_;refine tpD [6,7,8,9,10,11,12] 5 v ?_;refine tlD [7,8,9,10,11,12] 6 v qq ?_;refine stf 7 fun K hK=>?_;go_simp;refine (znc (W:=Q.drew) (HNM.out.grow bR.drew) (s:=m) q.out (by have:=C.out;omega)).mono ?_;rintro e R ⟨rfl,ab,D⟩;have N:=hid ab;have HX3:=hid (Blk.chg (HX.out.grow bR.drew) D (fun e=>by have:=e.2;omega));have f:=hid (show Chg (fun b=>T b=.names∧b<W.heap.size) W R from ((Chg.of _ L.out).grow bR.drew).trans D);clear ab D;refine hK.out _ _ ?_;clear hK K
 try simp only[Act.put,pb,pz,ps]
 refine tpW 8 ?_;refine tpW 9 ?_;refine tpW 10 ?_;refine tpW 11 ?_;refine tpW 12 ?_;refine zaa (by kernel_rfl) ?_ _;clear v c0 x1 xl hl;have hs3:=f.out.size;have Y:=z.out.blk.chg f.out (fun e=>by rw[z.out.top] at e;cases e.1);have M:=hid Y;have x2:R.cell? ⟨W,2,none⟩=some ↑a:=HX3.out.cell 2;clear Y hs3;go_wp2_with fail
 refine (zsW a _).mono ?_;rintro e S ⟨j,(⟨t,rfl⟩|⟨t,rfl,hA⟩)⟩
 ·exact absurd (zaK.1 HC.out) t
 ·have HB4:=hid j;have HA4:=hid hA;have r:=hid (M.out.grow j);have y1:S.cell? ⟨h,1,none⟩=some (.slice A n c):=(r.out.cell 1).trans (by rw[P.out];rfl);have HR4:=hid ((d.out.chg f.out (fun b _ t h2=>by rw[t.1] at h2;cases h2.1)).grow j);have HS4:=hid (show W.heap.size≤S.heap.size from lT f.out.size j.size);have HOH:=hid (show ¬(Value.slice A n c).ownBlock=some h from fun e=>by have h3:=(d.out.blk h e).1;rw[z.out.top] at h3;cases h3);clear j t hA x2
  go_wp2_with (at_builtin;go_must (refine zby _ (.tmp 39) (.tmp 41) rfl zm1 rfl (.slice A n c) n (ptrs bs n) rfl (HR4.out.grow (qA _)) (.slice (some ⟨S,0,none⟩) 1 1) 1 [.pointer (some ⟨R.heap.size+1,0,none⟩)] rfl (Sl.lit1 (Blk.new S 136 #[.pointer (some ⟨R.heap.size+1,0,none⟩)]) rfl) (by simp[Value.oneCell']) (by have:=B.out;have:=HN.out;have:=C.out;omega) (by have:=B.out;have:=HN.out;have:=C.out;unfold maxLen;omega) ?_);intro A3 c3 Z ac E;have p:=(r.out.alloc (.cells #[.pointer (some ⟨R.heap.size+1,0,none⟩)] 136)).chg E HOH.out;have f1:=p.frozen 1;have z1:=p.cell 1;have HBZ:=hid p;have O:=hid ac;have HCZ:=hid E;clear p ac E)
  go_ret2
  obtain ⟨U,hU⟩:=nm (Z.setCell ⟨h,1,none⟩ (.slice A3 (n+1) c3));rw[←hU];refine ⟨by rw[←B.out,←HN.out];rfl,?_⟩;have aa:Chg (·=h) Z U:=by rw[hU];exact Chg.set Z ⟨h,1,none⟩ _
  have hlW:h<W.heap.size:=z.out.blk.lt;have F:=O.out.chgB aa (fun b hb e=>by
   rcases O.out.blk b hb with k|k
   ·have:=k.1;rw[e,z.out.top] at this;cases this
   ·have t:=HS4.out;rw[World.size_alloc] at k;omega)
  exact zoT (n:=n) z.out HAS.out HN.out (f.out.mono fun b _ e=>e.1) (N.out.mono fun b _ k=>k.elim (fun k=>.inl k) (fun k=>.inr (lT L.out.size k))) HB4.out HA4.out (by omega) lR
   (F.mono fun b _ k=>k.elim .inl (fun k=>.inr (by rw[World.size_alloc] at k;omega)))
   ((((Chg.refl _ S).grow (qA _)).step HCZ.out fun b _ e=>⟨.inl (d.out.blk b e).1,(d.out.blk b e).2⟩).step aa fun b _ e=>⟨.inr (e▸z.out.top),by omega⟩)
   (by rw[hU,P.out] at*;exact HBZ.out.set_ 1 _)
end Ho
namespace Vb
open Go.RowKit
theorem zi8 (all:Nat):∀l:List Off,(∀o∈l,zcN all o=false)→zbB all l=none
 |[],_=>rfl
 |o::l,h=>by simp[zbB,h o (by simp),zi8 all l (fun x hx=>h x (by simp[hx]))]
theorem zi9 (all:Nat):∀(l:List Off) (k:Nat) (o:Off),l[k]? =some o→zcN all o=true→(∀j x,j<k→l[j]? =some x→zcN all x=false)→zbB all l=some k
 |[],k,o,h,_,_=>by simp at h
 |x::l,0,o,h,hb,_=>by simp at h;subst h;simp[zbB,hb]
 |x::l,k+1,o,h,hb,hn=>by
  have h0:=hn 0 x (by omega) rfl;have:=zi9 all l k o (by simpa using h) hb (fun j y hj hy=>hn (j+1) y (by omega) (by simpa using hy))
  simp[zbB,h0,this]
theorem zkQ (a:Nat) (r:a<4294967296) (l:List Off) (v:Value) (R:Nat→Prop) (b:Nat) (w:World) (Q:zad w R v l) (M:w.cell? ⟨b,0,none⟩=some (.int .u32 a)):
  Calls Tryz.prog 282 #[v,.func (.func 280) #[] #[.pointer (some ⟨b,0,none⟩)]] w fun e w'=>e=.returned ↑(ze7 a l:Int)∧Below w w w':=by
 obtain ⟨⟨n,A,P,rfl,G,y,d⟩,H⟩:=Q;unfold maxLen at y;have X:l.length≤9223372036854775807:=by omega
 have D:=World.block_lt_of_cell? w _ M;have N:=hid d;have S:=hid n;clear d n;go_enter Tryz.func282,Tryz.ntmps282
 go_wp2
 go_loopw [8] (fun i wr=>∃k:Nat,k≤l.length∧i=.int .i64 k∧Below w w wr∧∀j x,j<k→l[j]? =some x→zcN a x=false) (fun i _=>l.length-(intOf i).toNat)
 case atStart=>exact ⟨0,zL,rfl,bR,fun j x F=>by omega⟩
 case round=>
  obtain ⟨k,V,rfl,m,z⟩:=hrel;have C:=hid z;clear z;by_cases hlt:k<l.length
  ·obtain ⟨L,B,rfl,_,t,p⟩:=N.out (by omega);have q:l[k]? =some l[k]:=gE hlt;obtain ⟨o,h⟩:=nm (l[k]);rw[←h] at q;have T:wr.cell? ⟨L,B+k*2,none⟩=some (.int .u32 o.g):=(m.cell t).trans (p _ _ (Off.all_fst l k o q));have U:wr.cell? ⟨L,B+k*2+1,none⟩=some ↑o.c:=(m.cell t).trans (p _ _ (Off.all_snd l k o q));have E:wr.cell? ⟨b,0,none⟩=some (.int .u32 a):=(m.cell D).trans M;have I:=H o (by rw[h];exact List.getElem_mem hlt);clear p;have K:=hid q;have O:=hid h;clear q h
   go_wp2_with (go_at_call 280;refine (zsq a r o I b _ E).mono ?_;rintro e Y ⟨rfl,s⟩)
   ·go_ret;refine ⟨zcM ?_,m.trans (s.mono m.size)⟩;have f:zcN a o=true:=by assumption
    unfold ze7;rw[zi9 a l k o K.out f C.out]
   ·have f:zcN a o=false:=by assumption
    go_roundw
    case rel=>
     refine ⟨k+1,by omega,by go_num,m.trans (s.mono m.size),fun j x F J=>?_⟩;by_cases hjk:j<k
     ·exact C.out j x hjk J
     ·obtain rfl:j=k:=by omega
      rw[K.out] at J
      cases J
      exact f
    case measure=>simp[intOf];omega
  ·go_wp2
   go_ret;refine ⟨zcM ?_,m⟩;unfold ze7;rw[zi8 a l (fun o q=>?_)];obtain ⟨j,F,rfl⟩:=List.getElem_of_mem q;exact C.out j _ (by omega) (gE F)
def zeb (n:Int) (l:List Off):Int:=if n<1∨10<n then 0 else if 8<l.length then 0 else match zbB (2 ^ n.toNat-1) l with|some k=>k|none=>0
def zas (n:Int) (l:List Off):Int:=if n<1∨10<n then 2 else if 8<l.length then 3 else match zbB (2 ^ n.toNat-1) l with|some _=>180|none=>0
theorem zec (n:Int) (l:List Off) (v:Value) (R:Nat→Prop) (w:World) (D:zad w R v l):
  Calls Tryz.prog 275 #[n,v] w fun e w'=>e=.returned (.tuple #[(zeb n l:Int),(zas n l:Int)])∧Below w w w':=by
 have p:=D;obtain ⟨⟨q,A,E,rfl,x,o,b⟩,y⟩:=D;unfold maxLen at o;have C:=hid p;clear q b y p;by_cases hn:n<1∨10<n
 ·have g:zeb n l=0:=by unfold zeb;rw[if_pos hn]
  have f:zas n l=2:=by unfold zas;rw[if_pos hn]
  have d:=hid g;have c:=hid f;clear g f
  rcases hn with hn|hn
  all_goals
   go_enter Tryz.func275,Tryz.ntmps275
   go_wp2_with (go_at_call 279;refine (zdT n _).mono ?_;rintro e w' ⟨rfl,rfl⟩)
   all_goals go_ret2
   all_goals rw[d.out,c.out]
   all_goals exact ⟨rfl,qA _⟩
 ·have F:1≤n∧n≤10:=by omega
  have t:zf2 n=0:=by unfold zf2;rw[if_neg (by omega)]
  have r:allOf n=2 ^ n.toNat-1:=by unfold allOf;rw[if_neg (by omega)]
  obtain ⟨G,H⟩:=F;obtain ⟨h,a⟩:=nm (allOf n);have j:=ziB n;rw[←a] at j r;have z:=hid r;have m:=hid a;by_cases h8:8<l.length
  ·have g:zeb n l=0:=by unfold zeb;rw[if_neg hn,if_pos h8]
   have f:zas n l=3:=by unfold zas;rw[if_neg hn,if_pos h8]
   have d:=hid g;have c:=hid f;clear g f r a hn;go_enter Tryz.func275,Tryz.ntmps275
   go_wp2_with (go_at_call 279;refine (zdT n _).mono ?_;rintro e w' ⟨rfl,rfl⟩;rw[t])
   go_ret2
   rw[d.out,c.out];exact ⟨rfl,qA _⟩
  ·have g:zeb n l=match zbB h l with|some k=>(k:Int)|none=>0:=by unfold zeb;rw[if_neg hn,if_neg h8,←z.out]
   have f:zas n l=match zbB h l with|some _=>180|none=>0:=by unfold zas;rw[if_neg hn,if_neg h8,←z.out]
   have d:=hid g;have c:=hid f;clear g f r hn;have B:=hid t;clear t a
   cases hb:zbB h l with
   |none=>
    have s:ze7 h l=-1:=by unfold ze7;rw[hb]
    rw[hb] at d c;clear hb;go_enter Tryz.func275,Tryz.ntmps275
    go_wp2_with (first|(go_at_call 279;refine (zdT n _).mono ?_;rintro e w' ⟨rfl,rfl⟩;rw[B.out,←m.out])|(go_at_call 282;refine (zkQ h j l _ R w.heap.size _ (C.out.alloc _) (by simp)).mono ?_;rintro e I ⟨rfl,i⟩))
    go_ret2
    rw[d.out,c.out];exact ⟨rfl,(qA _).trans (i.mono (by simp))⟩
   |some k=>
    have s:ze7 h l=k:=by unfold ze7;rw[hb]
    rw[hb] at d c;clear hb;go_enter Tryz.func275,Tryz.ntmps275
    go_wp2_with (first|(go_at_call 279;refine (zdT n _).mono ?_;rintro e w' ⟨rfl,rfl⟩;rw[B.out,←m.out])|(go_at_call 282;refine (zkQ h j l _ R w.heap.size _ (C.out.alloc _) (by simp)).mono ?_;rintro e I ⟨rfl,i⟩))
    go_ret2
    rw[d.out,c.out];exact ⟨rfl,(qA _).trans (i.mono (by simp))⟩
def zav (w:World) (R:Nat→Prop) (v:Value) (bs:List (List Off)):Prop:=
 ∃vs:List Value,Sl w R v bs.length 1 vs∧∀(k:Nat) (l:List Off),bs[k]? =some l→∃u,vs[k]? =some u∧zad w R u l
theorem zav.grow {w w':World} {R:Nat→Prop} {v:Value} {bs:List (List Off)} (h:zav w R v bs) (a:Below w w w'):zav w' R v bs:=by
 obtain ⟨e,d,c⟩:=h;exact ⟨e,d.grow a,fun k l b=>let ⟨u,hu,hl⟩:=c k l b;⟨u,hu,hl.grow a⟩⟩
theorem zav.drew {w:World} {R:Nat→Prop} {v:Value} {bs:List (List Off)} (h:zav w R v bs):zav w.drew R v bs:=h
theorem zav.alloc {w:World} {R:Nat→Prop} {v:Value} {bs:List (List Off)} (h:zav w R v bs) (o:Obj):zav (w.alloc o) R v bs:=by
 obtain ⟨d,c,b⟩:=h;exact ⟨d,c.alloc o,fun k l a=>let ⟨u,hu,hl⟩:=b k l a;⟨u,hu,hl.alloc o⟩⟩
def zbN (l:List Off):Bool:=decide (8<l.length)
def zdm:List (List Off)→Option Nat
 |[]=>none
 |l::bs=>if zbN l then some 0 else (zdm bs).map (·+1)
def zf6 (bs:List (List Off)):Int:=match zdm bs with|some k=>k|none=>-1
theorem zid:∀bs:List (List Off),(∀l∈bs,zbN l=false)→zdm bs=none
 |[],_=>rfl
 |o::l,h=>by simp[zdm,h o (by simp),zid l (fun x hx=>h x (by simp[hx]))]
theorem zie:∀(bs:List (List Off)) (k:Nat) (l:List Off),bs[k]? =some l→zbN l=true→(∀j x,j<k→bs[j]? =some x→zbN x=false)→zdm bs=some k
 |[],k,o,h,_,_=>by simp at h
 |x::l,0,o,h,hb,_=>by simp at h;subst h;simp[zdm,hb]
 |x::l,k+1,o,h,hb,hn=>by
  have h0:=hn 0 x (by omega) rfl;have:=zie l k o (by simpa using h) hb (fun j y hj hy=>hn (j+1) y (by omega) (by simpa using hy))
  simp[zdm,h0,this]
theorem zro (A:Option Addr) (n c:Nat) (w:World):
  Calls Tryz.prog 308 #[.slice A n c] w fun e w'=>e=.returned ↑(decide (8<n):Bool)∧w=w':=by
 go_enter Tryz.func308,Tryz.ntmps308
 go_wp2
 go_ret;exact ⟨ziR (by rw[Bool.eq_iff_iff];simp;omega),rfl⟩
theorem zld (bs:List (List Off)) (v:Value) (R:Nat→Prop) (w:World) (E:zav w R v bs):
  Calls Tryz.prog 310 #[v,.func (.func 308) #[] #[]] w fun e w'=>e=.returned ↑(zf6 bs:Int)∧w=w':=by
 obtain ⟨M,⟨c,A,C,rfl,q,d,a⟩,m⟩:=E;unfold maxLen at d;have L:bs.length≤9223372036854775807:=by omega
 have z:=hid a;have H:=hid c;have B:=hid m;clear a c m;go_enter Tryz.func310,Tryz.ntmps310
 go_wp2
 go_loop [8] (fun i=>∃k:Nat,k≤bs.length∧i=.int .i64 k∧∀j x,j<k→bs[j]? =some x→zbN x=false) (fun i=>bs.length-(intOf i).toNat)
 case atStart=>exact ⟨0,zL,rfl,fun j x p=>by omega⟩
 case round=>
  obtain ⟨k,K,rfl,g⟩:=hrel;have n:=hid g;clear g;by_cases hlt:k<bs.length
  ·obtain ⟨I,F,rfl,_,D,f⟩:=z.out (by omega);obtain ⟨l,h⟩:∃l,bs[k]? =some l:=⟨_,gE hlt⟩;obtain ⟨u,y,⟨_,G,t,rfl,_⟩,_⟩:=B.out k l h;have J:=f _ _ y;clear f y;have s:=hid h;clear h
   go_wp2_with (go_at_call 308;refine (zro _ _ _ _).mono ?_;rintro e N ⟨rfl,rfl⟩)
   ·go_ret;have b:zbN l=true:=by unfold zbN;simp;assumption
    refine ⟨zcM ?_,rfl⟩;unfold zf6;rw[zie bs k l s.out b n.out]
   ·have b:zbN l=false:=by unfold zbN;simp;omega
    go_round
    case rel=>
     refine ⟨k+1,by omega,by go_num,fun j x p r=>?_⟩;by_cases hjk:j<k
     ·exact n.out j x hjk r
     ·obtain rfl:j=k:=by omega
      rw[s.out] at r
      cases r
      exact b
    case measure=>simp[intOf];omega
  ·go_wp2
   go_ret;refine ⟨zcM ?_,rfl⟩;unfold zf6;rw[zid bs (fun o h=>?_)];obtain ⟨j,p,rfl⟩:=List.getElem_of_mem h;exact n.out j _ (by omega) (gE p)
theorem zn6 (bs:List (List Off)):decide (0≤zf6 bs)=bs.any zbN:=by
 have h:∀bs:List (List Off),(zdm bs).isSome=bs.any zbN:=by
  intro bs
  induction bs with
  |nil=>rfl
  |cons l bs ih=>by_cases h:zbN l=true<;>simp[zdm,h,ih]
 rw[←h,Bool.eq_iff_iff];unfold zf6
 cases zdm bs<;>simp
theorem zg2 (bs:List (List Off)) (v:Value) (R:Nat→Prop) (w:World) (b:zav w R v bs):
  Calls Tryz.prog 309 #[v,.func (.func 308) #[] #[]] w fun e w'=>e=.returned ↑(bs.any zbN:Bool)∧w=w':=by
 have a:=zn6 bs;rw[←a];clear a;go_enter Tryz.func309,Tryz.ntmps309
 go_wp2_with (go_at_call 310;refine (zld bs v R _ b).mono ?_;rintro e c ⟨rfl,rfl⟩)
 go_ret;exact ⟨rfl,rfl⟩
def zcy (n:Int):List (List Off)→Int
 |[]=>0
 |l::bs=>if zas n l≠0 then zas n l else zcy n bs
def zaj (n:Int) (bs:List (List Off)):Int:=if n<1∨10<n then 2 else if 32<bs.length∨bs.any zbN=true then 3 else zcy n bs
theorem zdp (n:Int):∀bs:List (List Off),(∀l∈bs,zas n l=0)→zcy n bs=0
 |[],_=>rfl
 |o::l,h=>by simp[zcy,h o (by simp),zdp n l (fun x hx=>h x (by simp[hx]))]
theorem zgP (n:Int):∀(bs:List (List Off)) (k:Nat) (l:List Off),bs[k]? =some l→zas n l≠0→(∀j x,j<k→bs[j]? =some x→zas n x=0)→zcy n bs=zas n l
 |[],k,o,h,_,_=>by simp at h
 |x::l,0,o,h,hb,_=>by simp at h;subst h;simp[zcy,hb]
 |x::l,k+1,o,h,hb,hn=>by
  have h0:=hn 0 x (by omega) rfl;have:=zgP n l k o (by simpa using h) hb (fun j y hj hy=>hn (j+1) y (by omega) (by simpa using hy))
  simp[zcy,h0,this]
theorem zcr (n:Int) (bs:List (List Off)) (v:Value) (R:Nat→Prop) (w:World) (H:zav w R v bs):
  Calls Tryz.prog 305 #[.agg #[n,v]] w fun e w'=>e=.returned ↑(zaj n bs:Int)∧Below w w w':=by
 obtain ⟨vs,⟨y,A,r,rfl,K,s,b⟩,D⟩:=id H;unfold maxLen at s;have Y:bs.length≤9223372036854775807:=by omega
 have N:=hid H;have S:=hid b;have T:=hid D;clear H b D y;by_cases hn:n<1∨10<n
 ·have d:zaj n bs=2:=by unfold zaj;rw[if_pos hn]
  have g:=hid d;clear d
  rcases hn with hn|hn
  all_goals
   go_enter Tryz.func305,Tryz.ntmps305
   go_wp2
   all_goals go_ret
   all_goals rw[g.out]
   all_goals exact ⟨rfl,qA _⟩
 ·by_cases h32:32<bs.length
  ·have d:zaj n bs=3:=by unfold zaj;rw[if_neg hn,if_pos (Or.inl h32)]
   have g:=hid d;clear d;have I:1≤n:=by omega
   have J:n≤10:=by omega
   clear hn;go_enter Tryz.func305,Tryz.ntmps305
   go_wp2
   all_goals go_ret
   all_goals rw[g.out]
   all_goals exact ⟨rfl,qA _⟩
  ·have I:1≤n:=by omega
   have J:n≤10:=by omega
   cases hany:bs.any zbN with
   |true=>
    have d:zaj n bs=3:=by unfold zaj;rw[if_neg hn,if_pos (Or.inr hany)]
    have g:=hid d;clear d hn;go_enter Tryz.func305,Tryz.ntmps305
    go_wp2_with (go_at_call 309;refine (zg2 bs _ R _ (N.out.alloc _)).mono ?_;rintro e M ⟨rfl,rfl⟩)
    all_goals go_ret
    all_goals rw[g.out]
    all_goals exact ⟨rfl,qA _⟩
   |false=>
    have d:zaj n bs=zcy n bs:=by unfold zaj;rw[if_neg hn,if_neg (by rw[hany];simp;omega)]
    have g:=hid d;clear d hn;go_enter Tryz.func305,Tryz.ntmps305
    go_wp2_with (go_at_call 309;refine (zg2 bs _ R _ (N.out.alloc _)).mono ?_;rintro e M ⟨rfl,rfl⟩)
    go_loopw [31] (fun i wr=>∃k:Nat,k≤bs.length∧i=.int .i64 k∧Below (w.heap.size+1) (w.alloc (.cells #[n,.slice A bs.length r] 368)) wr∧∀j x,j<k→bs[j]? =some x→zas n x=0) (fun i _=>bs.length-(intOf i).toNat)
    case atStart=>exact ⟨0,zL,rfl,bR,fun j x G=>by omega⟩
    case round=>
     obtain ⟨k,hk,rfl,m,z⟩:=hrel;have E:=hid z;clear z;have c:Below w w wr:=(qA _).trans (m.mono (by omega));have U:wr.cell? ⟨w,0,none⟩=some ↑n:=qc m (by simp) (by simp);have V:wr.cell? ⟨w,1,none⟩=some (.slice A bs.length r):=qc m (by simp) (by simp);by_cases hlt:k<bs.length
     ·obtain ⟨bb,Z,rfl,_,F,t⟩:=S.out (by omega);obtain ⟨l,B⟩:∃l,bs[k]? =some l:=⟨_,gE hlt⟩;obtain ⟨u,Q,C⟩:=T.out k l B;have c0:=(c.cell F).trans (t _ _ Q);have q:=hid (C.grow c);obtain ⟨⟨_,A',P,rfl,_⟩,_⟩:=C;clear t Q;have O:=hid B;clear B;have p:=hid m;have a:=hid c;clear m c;by_cases hce:zas n l=0
      ·have f:=hid hce;clear hce
       go_wp2_with (go_at_call 275;refine (zec n l _ R _ q.out).mono ?_;rintro e M ⟨rfl,h⟩;rw[f.out])
       go_roundw
       case rel=>
        refine ⟨k+1,by omega,by go_num,p.out.trans (h.mono (by have:=p.out.size;simp at this;omega)),fun j x G L=>?_⟩;by_cases hjk:j<k
        ·exact E.out j x hjk L
        ·obtain rfl:j=k:=by omega
         rw[O.out] at L
         cases L
         exact f.out
       case measure=>simp[intOf];omega
      ·have X:(zas n l !=0)=true:=by simpa using hce
       have f:=hid hce;clear hce
       go_wp2_with (go_at_call 275;refine (zec n l _ R _ q.out).mono ?_;rintro e M ⟨rfl,h⟩)
       go_ret;refine ⟨zcM ?_,a.out.trans (h.mono a.out.size)⟩;rw[g.out,zgP n bs k l O.out f.out E.out]
     ·have a:=hid c;clear m c
      go_wp2
      go_ret;refine ⟨zcM ?_,a.out⟩;rw[g.out,zdp n bs (fun o B=>?_)];obtain ⟨j,G,rfl⟩:=List.getElem_of_mem B;exact E.out j _ (by omega) (gE G)
theorem zoV:zbg Tryz.prog 59 191 2 16:=zba Tryz.underlying59 (by omega) (z:=.agg #[.int .u32 0,()]) (by kernel_rfl) rfl
theorem zke:zbg Tryz.prog 366 59 1 24:=zba Tryz.underlying366 (by omega) (z:=.slice none 0 0) (by kernel_rfl) rfl
theorem zg7:zbg Tryz.prog 340 2 1 8:=zba Tryz.underlying340 (by omega) (z:=.int .i64 0) (by kernel_rfl) rfl
theorem zlL:zbg Tryz.prog 36 3 1 8:=zba Tryz.underlying36 (by omega) (z:=.int .i64 0) (by kernel_rfl) rfl
theorem Off.all_one (l:List Off):∀u∈Off.all l,u.oneCell'=true:=by
 intro u b;simp only[Off.all,List.mem_flatMap] at b;obtain ⟨o,_,a⟩:=b
 simp[Off.cells] at a
 rcases a with rfl|rfl<;>rfl
theorem zfA (xs:List Value) (n:Nat) (v:Value) (R:Nat→Prop) (w:World) (j:Sl w R v n 2 xs) (p:∀u∈xs,u.oneCell'=true) (y:n*16≤140737488355328):
  Calls Tryz.prog 92 #[v] w fun e w'=>∃A' cap',e=.returned (.slice A' n cap')∧w'.ownsRow w.heap.size 191 2 (.slice A' n cap') n xs∧Below w w w':=by
 obtain ⟨f,A,i,rfl,k,m,d⟩:=id j;have l:=hid j;clear j d;have z:=fun (W:World) (a:Option Addr)=>Lib.run_eql_slice_nil (P:=Tryz.prog) W 59 191 a n i 0 0 Tryz.underlying59
 cases A with
 |none=>
  have s:n=0:=by
   obtain ⟨_,A,c,h,_,_,q⟩:=l.out;injection h with hA _ _
   subst hA
   rcases Nat.eq_zero_or_pos n with h0|h0
   ·exact h0
   ·obtain ⟨b,x,h,_⟩:=q h0
    cases h
  subst s;have t:xs=[]:=List.eq_nil_of_length_eq_zero (by simpa using f);subst t;go_enter Tryz.func92,Tryz.ntmps92
  go_wp2
  go_ret;exact ⟨none,0,rfl,World.ownsRow_nil _ _ _ _,bR⟩
 |some ad=>
  clear f;go_enter Tryz.func92,Tryz.ntmps92
  go_wp2_with (at_builtin;refine zbj _ rfl (.tmp 5) (.tmp 6) zoV rfl w.heap.size (.slice (some ⟨w,0,none⟩) 0 0) 0 [] rfl (World.ownsRow_lit w #[] 0 lR (zL) rfl) R _ n xs rfl (l.out.alloc _) p (by omega) (by unfold maxLen;omega) (by simp) ?_;intro A' cap' B g r o)
  go_ret;refine ⟨A',cap',by simp,by simpa using g,(qA _).grown r (by simp) (by simp[Value.ownBlock])⟩
end Vb
namespace Ho
open Go.RowKit Vb Ac
theorem Chg.setRow (W:World) (g:Nat) (cs:Array Value):Chg (·=g) W (W.setRow g cs):=⟨rfl,rfl,rfl,by simp,fun k _ hn=>setRow_other W g k cs hn⟩
theorem Blk.setRow {W:World} {g:Nat} {t:TypeId} {old:Array Value} (h:Blk W g t old) (cs:Array Value):Blk (W.setRow g cs) g t cs:=setRow_heap W g old cs t (0,0) h
theorem zmE {W:World} {R:Nat→Prop} (o:OrderR) {vo:Value} (hO:zad W R vo o.offers) (hn:o.offers.length≤1099511627776):Calls Tryz.prog 100 #[o.agg vo] W fun e W'=>
  ∃A c,e=.returned (o.agg (.slice A o.offers.length c))∧zad W' (fun b=>W.heap.size≤b) (.slice A o.offers.length c) o.offers∧Below W W W':=by
 have Z:=hid hO;have O:=hid hn;obtain ⟨j,l,g,a,v,⟨s,m,d,p,y,f,t,i,r,h,x⟩,q,n⟩:=o;simp only at Z O ⊢;simp only[OrderR.agg,OrderR.cells,LotR.cells,List.cons_append,List.nil_append];obtain ⟨T,C⟩:=nm ((W.alloc (.cells #[j,.string l,g,a,v,s,m,d,p,y,f,t,i,r,h,x,vo,n] 61)).alloc (.cells #[(),.string {data:=#[]},(),(),(),(),(),(),(),(),(),(),(),(),(),(),.slice none 0 0,()] 61));have J:Below W W T:=by rw[C];exact (qA _).alloc (by simp) _
 have hx:Blk T W 61 #[j,.string l,g,a,v,s,m,d,p,y,f,t,i,r,h,x,vo,n]:=by rw[C];exact (Blk.new W _ _).alloc _
 have hy:Blk T (W.heap.size+1) 61 #[(),.string {data:=#[]},(),(),(),(),(),(),(),(),(),(),(),(),(),(),.slice none 0 0,()]:=by rw[C];exact Blk.new' _ _ (by simp)
 have x16:T.cell? ⟨W,16,none⟩=some vo:=hx.cell 16;have G:=hid J;have HX:=hid hx;have HY:=hid hy;have aa:=hid (zad.grow Z.out J);clear hO hn J hx hy;go_enter Tryz.func100,Tryz.ntmps100;go_wp2_with fail
 rw[←C];clear C;refine (zfA (Off.all q) q.length vo R _ aa.out.1 (Off.all_one q) (by have:=O.out;omega)).mono ?_;rintro e U ⟨A,c,rfl,F,E⟩;have HOWN:=hid F;have I:=hid (HX.out.grow E);have ac:=hid (HY.out.grow E);have Y:=hid (G.out.trans (E.mono G.out.size));have x16:U.cell? ⟨W,16,none⟩=some vo:=I.out.cell 16;have f16:U.frozen? ⟨W,16,none⟩=false:=I.out.frozen 16;obtain ⟨X,D⟩:=nm (U.setCell ⟨W,16,none⟩ (.slice A q.length c));have M:Blk X W 61 #[j,.string l,g,a,v,s,m,d,p,y,f,t,i,r,h,x,(.slice A q.length c),n]:=by rw[D];exact I.out.set_ 16 _
 have K:Chg (·=W.heap.size) U X:=by rw[D];exact Chg.set U ⟨W,16,none⟩ _
 have N:=ac.out.chg K (by omega);have z:=hid K;have Q:=hid D;rw[D] at M N;have ab:=hid M;have S:=hid N;have H:=hid F;have P:=hid E.size;clear F E M K N D
 go_wp2_with (first
  |(refine wpList_load_row rfl 61 (.tmp 1) rfl W.heap.size rfl 61 #[j,.string l,g,a,v,s,m,d,p,y,f,t,i,r,h,x,(.slice A q.length c),n] (0,0) _ ab.out Tryz.underlying61 rfl (by kernel_rfl) ?_)
  |(refine wpList_store_row rfl 61 (.tmp 2) (.tmp 7) rfl (W.heap.size+1) #[j,.string l,g,a,v,s,m,d,p,y,f,t,i,r,h,x,(.slice A q.length c),n] rfl rfl 61 #[(),.string {data:=#[]},(),(),(),(),(),(),(),(),(),(),(),(),(),(),.slice none 0 0,()] S.out (by kernel_rfl) rfl (by simp[Value.oneCell']) ?_))
 rw[←Q.out];have V:Blk (X.setRow (W.heap.size+1) #[j,.string l,g,a,v,s,m,d,p,y,f,t,i,r,h,x,(.slice A q.length c),n]) (W.heap.size+1) 61 #[j,.string l,g,a,v,s,m,d,p,y,f,t,i,r,h,x,(.slice A q.length c),n]:=Blk.setRow (by have:=S.out;rwa [←Q.out] at this) _;have L:=Chg.setRow X (W.heap.size+1) #[j,.string l,g,a,v,s,m,d,p,y,f,t,i,r,h,x,(.slice A q.length c),n];have hsz:=G.out.size;have hs2:W.heap.size+1<T.heap.size:=HY.out.lt;refine bodyPost_ret (results_cell_row rfl _ _ (W.heap.size+1) 61 #[j,.string l,g,a,v,s,m,d,p,y,f,t,i,r,h,x,(.slice A q.length c),n] (0,0) _ rfl V Tryz.underlying61 rfl (by kernel_rfl)) rfl ⟨A,c,rfl,?_,?_⟩
 ·refine ⟨Sl.mono (R:=fun b=>(Value.slice A q.length c).ownBlock=some b) (Sl.keep (Sl.of_own H.out) (lT z.out.size L.size) fun b hb hr=>?_) (fun b _ hr=>lT hsz (H.out.lt b hr).1),Z.out.2⟩;have hle:=(H.out.lt b hr).1;rw[L.block b (lL hb z.out.size) (by omega)];exact z.out.block b hb (by omega)
 ·exact ((Y.out.trans (z.out.below (B:=W.heap.size) (by have:=P.out;omega) (fun k hk e=>by omega))).trans (L.below (B:=W.heap.size) (by have:=P.out;have:=z.out.size;omega) (fun k hk e=>by omega)))
theorem zlM:zbg Tryz.prog 46 61 18 168:=zba Tryz.underlying46 (by omega) (z:=.agg #[(),.string {data:=#[]},(),(),(),(),(),(),(),(),(),(),(),(),(),(),.slice none 0 0,()]) (by kernel_rfl) rfl
theorem zbq {P:Program} {o:Oper} {a:Act} {w:World} (b:TypeId) (x:Operand) (i:o.op=.load b x) (g:Nat) (k:a.eval x=.pointer (some ⟨g,0,none⟩)) (t:TypeId) (cs:Array Value) (c:Nat×Nat) (d:TypeDesc) (f:w.heap[g]? =some (.cells cs t c))
  (j:P.underlying b=some d) (e:(match d with| .struct _| .array _ _=>true|_=>false)=true) (h:(P.info? b).map (·.size)=some cs.size):(execOp a.eval o).run P w=.ok (.value (.agg cs)) w:=by
 unfold execOp;simp only[i,k,Instr.loadAt,Instr.sureAddr,Sem.run_bind,Sem.run_pure,Result.andThen_ok,run_loadVar_row w g t b cs c d f j e h]
theorem zif {α β:Type} (l:List α) (x:α) (f:Nat→α→β):(l++[x]).mapIdx f=l.mapIdx f++[f l.length x]:=by simp
theorem zgQ {α β:Type} {l:List α} {f g:Nat→α→β} (h:∀i x,i<l.length→f i x=g i x):l.mapIdx f=l.mapIdx g:=by
 apply List.ext_getElem?
 intro i;simp only[List.getElem?_mapIdx];by_cases hi:i<l.length
 ·rw[gE hi];simp[h i _ hi]
 ·rw[List.getElem?_eq_none (by omega)];rfl
theorem zjE (os:List OrderR) (o:OrderR) (vo:Nat→Value) (v:Value):zaz (os++[o]) (fun k=>if k=os.length then v else vo k)=zaz os vo++o.cells v:=by
 unfold zaz;rw[zif,List.flatten_append];simp only[if_true,List.flatten_cons,List.flatten_nil,List.append_nil]
 congr 2
 exact zgQ fun i x a=>by simp[show ¬i=os.length by omega]
theorem zqE {W j U:World} {T:Nat→Part} {h pn pc K n:Nat} {va vl vb vs v' C:Value} {H:House} {o:OrderR} {vo:Nat→Value} (m:HouseAt W T h pn pc va vl vb vs K H) (B:zb3 W T vo (H.book.map (·.offers))) (A:n=H.book.length)
  (r:Below W W j) (s:zad j (fun b=>W.heap.size≤b) C o.offers)
  (c:RowAt U (fun b=>(T b=.book∧b<W.heap.size)∨j.heap.size≤b) 61 18 v' (n+1) (zaz H.book vo++o.cells C)) (q:Chg (fun b=>(T b=.book∨T b=.hs)∧b<W.heap.size) j U)
  (x:Blk U h 83 #[.pointer (some ⟨pn,0,none⟩),va,vl,.pointer (some ⟨pc,0,none⟩),v',vs]):∃T',zaf U T' h K {H with book:=H.book++[o]}∧Moves W T U T':=by
 obtain ⟨T',g⟩:=nm (fun b=>if b<W.heap.size then T b else if b<j.heap.size then .old else if b<U.heap.size then .book else .no:Nat→Part);have f:∀b,b<W.heap.size→T' b=T b:=fun b p=>by rw[g];simp[p]
 have F:=r.size;have G:=q.size;have a:Chg (fun b=>T b=.book∨T b=.hs) W U:=(Chg.of _ r).step q fun b _ e=>e.1;refine ⟨T',⟨pn,pc,va,vl,v',vs,?_⟩,a.mono fun b _ e=>?_,f⟩
 ·refine ⟨(f h m.blk.lt).trans m.top,x,m.names.step a (fun b e=>by rintro (k|k)<;>rw[e] at k<;>cases k) f,m.accs.step a (fun b e=>?_) f,m.lots.step a (fun b e=>?_) f,m.cal.step a (fun b e=>by rintro (k|k)<;>rw[e] at k<;>cases k) f,⟨fun k=>if k=n then C else vo k,?_,fun k l D=>?_⟩,m.sales.step a (fun b e=>by rintro (k|k)<;>rw[e] at k<;>cases k) f,fun b p=>?_⟩
  ·rcases e with e|⟨i,e⟩<;>rintro (k|k)<;>rw[e] at k<;>cases k
  ·rcases e with e|⟨i,e⟩|e<;>rintro (k|k)<;>rw[e] at k<;>cases k
  ·show RowAt U _ _ 18 v' (H.book++[o]).length (zaz (H.book++[o]) _)
   rw[A,zjE,List.length_append,List.length_singleton];rw[A] at c;refine ⟨c.own,fun b p=>?_⟩;have z:=c.lt p
   rcases c.blk b p with k|k
   ·exact (f b k.2).trans k.1
   ·rw[g];simp[show ¬b<W.heap.size by omega,show ¬b<j.heap.size by omega,z]
  ·by_cases e:k=n
   ·subst e;have E:l=o.offers:=by
     have:((H.book++[o]).map (·.offers))[k]? =some o.offers:=by simp[A]
     have d:((H.book++[o]).map (·.offers))[k]? =some l:=D;rw[this] at d;cases d;rfl
    subst E;simp only[if_true];refine zad.mono (zad.chg (zad.mono (R':=fun b=>W.heap.size≤b∧b<j.heap.size) s fun b p t=>⟨t,p⟩) q fun b _ t e=>by have:=e.2;omega) fun b _ t=>?_;rw[g];simp[show ¬b<W.heap.size by omega,t.2]
   ·simp only[if_neg e];have y:(H.book.map (·.offers))[k]? =some l:=by
     have d:((H.book++[o]).map (·.offers))[k]? =some l:=D;have v:=(gS.1 d).1;simp only[List.length_map,List.length_append,List.length_singleton] at v;rw[List.map_append,List.getElem?_append_left (by simp;omega)] at d;exact d
    have v:=zb3.step (T':=T') B a (fun b e=>by rintro (k|k)<;>rw[e] at k<;>cases k) f;exact v k l y
  ·rw[g];simp[show ¬b<W.heap.size by omega,show ¬b<j.heap.size by omega,show ¬b<U.heap.size by omega]
 ·rcases e with e|e<;>exact ⟨by rw[e];simp,by rw[e];simp⟩
theorem zcL {f:Nat→Nat} {n i:Nat} (h:i<n):(ptrs f n)[i]? =some (.pointer (some ⟨f i,0,none⟩)):=by simp[ptrs,h]
section
variable {W W':World} {T:Nat→Part} {h pn pc K K':Nat} {va vl vb vs:Value} {H:House}
theorem zkg {A:Option Addr} {n c:Nat} (c1:W.cell? ⟨h,1,none⟩=some (.slice A n c)) {x:Int} (a:x<0∨(n:Int)≤x):Calls Tryz.prog 76 #[.pointer (some ⟨h,0,none⟩),x] W fun e W'=>e=.returned (.tuple #[.pointer none,(4:Int)])∧W'=W:=by
 by_cases h0:x<0
 ·go_enter Tryz.func76,Tryz.ntmps76;go_wp2_with fail
  go_ret2
  exact ⟨rfl,rfl⟩
 ·have b:(n:Int)≤x:=a.resolve_left h0;clear a;go_enter Tryz.func76,Tryz.ntmps76;go_wp2_with fail
  go_ret2
  exact ⟨rfl,rfl⟩
theorem zjr {R:Nat→Prop} {n i:Nat} {f:Nat→Nat} (c1:W.cell? ⟨h,1,none⟩=some va) (a:RowAt W R 136 1 va n (ptrs f n)) (c:i<n):Calls Tryz.prog 76 #[.pointer (some ⟨h,0,none⟩),i] W fun e W'=>e=.returned (.tuple #[.pointer (some ⟨f i,0,none⟩),()])∧W'=W:=by
 obtain ⟨q,b,rfl,_,_,_⟩:=a.ex (by omega);have j:W.cell? ⟨q,i,none⟩=some (.pointer (some ⟨f i,0,none⟩)):=(a.own.cellAt i (by omega)).trans (zcL c);have d:(0:Int)≤(i:Int):=by omega
 have g:(i:Int)<(n:Int):=by omega
 clear a;go_enter Tryz.func76,Tryz.ntmps76;go_wp2_with fail
 go_ret2
 exact ⟨rfl,rfl⟩
theorem ze5 {c:List Acc} {d l:Nat→Nat} (h:RowAt W (fun b=>T b=.accs) 136 1 va c.length (ptrs d c.length)) (f:∀i a,c[i]? =some a→AccAt W (d i) (l i) K a∧T (d i)=.acc i∧T (l i)=.acc i)
  {i:Nat} {a:Acc} (s:i<c.length) (y:K≤K') (z:AccAt W' (d i) (l i) K' a) (r:Chg (fun b=>T b=.acc i) W W'):zcd W' T va K' (c.set i a):=by
 refine ⟨d,l,?_,fun j x g=>?_⟩
 ·rw[List.length_set];exact h.chg r fun b _ t o=>by rw[t] at o;cases o
 ·rw[List.getElem?_set] at g;by_cases e:i=j
  ·subst e;rw[if_pos rfl,if_pos s] at g
   cases g
   obtain ⟨m,n⟩:∃m,c[i]? =some m:=⟨_,gE s⟩;exact ⟨z,(f i m n).2⟩
  ·rw[if_neg e] at g;obtain ⟨v,p,q⟩:=f j x g;exact ⟨(v.chg r (fun k=>by rw[p] at k;cases k;exact e rfl) (fun k=>by rw[q] at k;cases k;exact e rfl)).mono y,p,q⟩
theorem zeF (a:HouseAt W T h pn pc va vl vb vs K H) {d:List Acc} (f:zcd W' T va K' d) (c:Chg (fun b=>∃i,T b=.acc i) W W'):HouseAt W' T h pn pc va vl vb vs K' {H with accs:=d}:=by
 refine ⟨a.top,a.blk.chg c (fun ⟨i,k⟩=>by rw[a.top] at k;cases k),a.names.step c (fun b e=>by rintro ⟨i,k⟩;rw[e] at k;cases k) (fun _ _=>rfl),f,a.lots.step c (fun b e=>?_) (fun _ _=>rfl),
  a.cal.step c (fun b e=>by rintro ⟨i,k⟩;rw[e] at k;cases k) (fun _ _=>rfl),a.book.step c (fun b e=>?_) (fun _ _=>rfl),a.sales.step c (fun b e=>by rintro ⟨i,k⟩;rw[e] at k;cases k) (fun _ _=>rfl),fun b g=>a.out b (lT c.size g)⟩
 ·rcases e with e|⟨i,e⟩|e<;>rintro ⟨i,k⟩<;>rw[e] at k<;>cases k
 ·rcases e with e|e<;>rintro ⟨i,k⟩<;>rw[e] at k<;>cases k
end
def zej (n:Nat) (acs:List Acc) (s:Stand):List Acc:=acs.modify s.bidder.toNat fun a=>a.set n 0
def zcG (n:Nat) (acs:List Acc) (ss:List Stand):List Acc:=ss.foldl (zej n) acs
def takeA (a:Acc) (v:Int):Acc:=if a.takeE v=0 then a.take v else a
def zfk (acs:List Acc) (s:SaleR):List Acc:=acs.modify s.bidder.toNat fun a=>takeA a s.coins
def zdn (acs:List Acc) (ss:List SaleR):List Acc:=ss.foldl zfk acs
def zhv (H:House) (n:Nat) (s:SaleR):SaleR:={s with number:=H.book.length,lot:=n,tick:=H.now}
def zcD (H:House) (n:Nat) (l:LotS) (sales:List SaleR):House:=
 {H with accs:=zdn (zcG n H.accs l.stands) sales,sales:=H.sales++sales.map (zhv H n),lots:=H.lots.set n {l with closed:=true,stands:=[]}}
theorem zoi (n:Nat) (a:List Acc) (s:Stand):(zej n a s).length=a.length:=by simp[zej]
theorem zeM (n:Nat) (ss:List Stand):∀acs:List Acc,(zcG n acs ss).length=acs.length:=by
 induction ss with
 |nil=>intro acs;rfl
 |cons s ss ih=>intro acs;exact (ih _).trans (zoi n acs s)
theorem zgC (ss:List SaleR):∀acs:List Acc,(zdn acs ss).length=acs.length:=by
 induction ss with
 |nil=>intro acs;rfl
 |cons s ss ih=>intro acs;exact (ih _).trans (by simp[zfk])
theorem zmO (n:Nat) (a:List Acc) (ss:List Stand) (s:Stand):zcG n a (ss++[s])=zej n (zcG n a ss) s:=by simp[zcG]
theorem zmM (a:List Acc) (ss:List SaleR) (s:SaleR):zdn a (ss++[s])=zfk (zdn a ss) s:=by simp[zdn]
theorem zcf {α:Type} {l:List α} {i:Nat} {a:α} (f:α→α) (h:l[i]? =some a):l.modify i f=l.set i (f a):=by
 apply List.ext_getElem?
 intro j;have b:=(gS.1 h).1;rw[List.getElem?_modify,List.getElem?_set];by_cases e:i=j
 ·subst e;rw[gE b] at h;injection h with h
  simp[b,h]
 ·simp[e]
theorem za4 {α:Type} {l:List α} {k:Nat} {x:α} (h:l[k]? =some x):l.take (k+1)=l.take k++[x]:=by rw[List.take_add_one,h];rfl
def zbb (acs:List Acc):Prop:=∀a∈acs,a.Ok∧a.Fine
theorem zbb.set {acs:List Acc} (h:zbb acs) {i:Nat} {a:Acc} (ha:a.Ok∧a.Fine):zbb (acs.set i a):=fun x hx=>by
 rcases List.mem_or_eq_of_mem_set hx with h1|h1
 ·exact h x h1
 ·rw[h1];exact ha
theorem zfL {n:Nat} (hn:(n:Int)≤9223372036854775807):∀(ss:List Stand) (acs:List Acc),zbb acs→zbb (zcG n acs ss)
 |[],_,h=>h
 |s::ss,acs,h=>by
  refine zfL hn ss _ ?_;unfold zej
  cases hs:acs[s.bidder.toNat]? with
  |none=>rw[List.modify_eq_self (by rw[List.getElem?_eq_none_iff] at hs;exact hs)];exact h
  |some a=>
   rw[zcf _ hs];have ha:=h a (mG hs);exact h.set (zew ha.1 ha.2 (by omega) hn)
theorem zrY {a:Acc} (h:a.Ok∧a.Fine) (v:Int):(takeA a v).Ok∧(takeA a v).Fine:=by
 unfold takeA
 split
 ·exact zos h.1 h.2 (by assumption)
 ·exact h
theorem zfJ:∀(ss:List SaleR) (acs:List Acc),zbb acs→zbb (zdn acs ss)
 |[],_,h=>h
 |s::ss,acs,h=>by
  refine zfJ ss _ ?_;unfold zfk
  cases hs:acs[s.bidder.toNat]? with
  |none=>rw[List.modify_eq_self (by rw[List.getElem?_eq_none_iff] at hs;exact hs)];exact h
  |some a=>
   rw[zcf _ hs];exact h.set (zrY (h a (mG hs)) _)
theorem flat_get {n:Nat}:∀{xs:List (List Value)} {k i:Nat} {x:List Value},(∀y∈xs,y.length=n)→xs[k]? =some x→i<n→xs.flatten[k*n+i]? =x[i]?
 |[],_,_,_,_,h,_=>by simp at h
 |y::ys,0,i,x,hl,h,hi=>by
  obtain rfl:y=x:=by simpa using h
  rw[List.flatten_cons,List.getElem?_append_left (by have:=hl y (.head _);omega)]
  congr 1;omega
 |y::ys,k+1,i,x,hl,h,hi=>by
  have a:=hl y (.head _);rw[List.flatten_cons,List.getElem?_append_right (by rw[a,Nat.succ_mul];omega),show (k+1)*n+i-y.length=k*n+i by rw[a,Nat.succ_mul];omega];exact flat_get (fun z b=>hl z (.tail _ b)) (by simpa using h) hi
theorem zdM {α:Type} {l:List α} {f:Nat→α→List Value} {n:Nat} (h:∀i x,(f i x).length=n):∀y∈l.mapIdx f,y.length=n:=fun y hy=>by
 obtain ⟨i,hi,rfl⟩:=List.mem_mapIdx.1 hy;exact h _ _
theorem zey {ss:List Stand} {vo:Nat→Value} {k i:Nat} {s:Stand} (hk:ss[k]? =some s) (hi:i<3):(zaF ss vo)[k*3+i]? =(s.cells (vo k))[i]? :=
 flat_get (zdM fun _ _=>rfl) (by rw[List.getElem?_mapIdx,hk];rfl) hi
theorem zme {ss:List SaleR} {k i:Nat} {s:SaleR} (b:ss[k]? =some s) (a:i<7):(ss.flatMap SaleR.cells)[k*7+i]? =s.cells[i]? :=by
 rw[List.flatMap_def];exact flat_get (fun y c=>by obtain ⟨x,_,rfl⟩:=List.mem_map.1 c;rfl) (by rw[List.getElem?_map,b];rfl) a
section
variable {W W' U:World} {T T':Nat→Part} {h pn pc K:Nat} {va vl vb vs v v':Value} {H:House}
theorem zaM.at_ {R:Nat→Prop} {ss:List Stand} (j:zaM W T R v ss) {k:Nat} {s:Stand} (a:ss[k]? =some s):
  ∃q cap uA uc,v=.slice (some ⟨q,0,none⟩) ss.length cap∧R q∧q<W.heap.size∧W.cell? ⟨q,k*3,none⟩=some ↑s.bidder∧W.cell? ⟨q,k*3+1,none⟩=some (.slice uA s.offers.length uc)∧W.cell? ⟨q,k*3+2,none⟩=some ↑s.held∧zad W (fun b=>T b=.old) (.slice uA s.offers.length uc) s.offers:=by
 obtain ⟨m,c,f⟩:=j;have l:=(gS.1 a).1;obtain ⟨q,cap,rfl,g,h,_⟩:=c.ex (by omega);have d:=f k s.offers (by rw[List.getElem?_map,a];rfl);obtain ⟨⟨_,uA,uc,e,_⟩,_⟩:=id d;rw[e] at d;refine ⟨q,cap,uA,uc,rfl,g,h,?_,?_,?_,d⟩
 ·exact (c.own.cellAt (k*3) (by omega)).trans (zey (i:=0) a (by omega))
 ·refine (c.own.cellAt (k*3+1) (by omega)).trans ((zey (i:=1) a (by omega)).trans ?_);rw[e];rfl
 ·exact (c.own.cellAt (k*3+2) (by omega)).trans (zey (i:=2) a (by omega))
theorem zpW (f:HouseAt W T h pn pc va vl vb vs K H) {s:SaleR} (c:RowAt U (fun b=>T b=.sales∨W.heap.size≤b) 151 7 v' (H.sales.length+1) (H.sales.flatMap SaleR.cells++s.cells)) (a:Chg (fun b=>T b=.sales∨T b=.hs) W U)
  (l:Blk U h 83 #[.pointer (some ⟨pn,0,none⟩),va,vl,.pointer (some ⟨pc,0,none⟩),vb,v']):∃T',HouseAt U T' h pn pc va vl vb v' K {H with sales:=H.sales++[s]}∧Moves W T U T':=by
 obtain ⟨T',g⟩:=nm (fun b=>if b<W.heap.size then T b else if b<U.heap.size then .sales else .no:Nat→Part);have d:∀b,b<W.heap.size→T' b=T b:=fun b j=>by rw[g];simp[j]
 have n:=a.size;refine ⟨T',?_,a.mono fun b _ e=>?_,d⟩
 ·refine ⟨(d h f.blk.lt).trans f.top,l,f.names.step a (fun b e=>by rintro (k|k)<;>rw[e] at k<;>cases k) d,f.accs.step a (fun b e=>?_) d,f.lots.step a (fun b e=>?_) d,f.cal.step a (fun b e=>by rintro (k|k)<;>rw[e] at k<;>cases k) d,f.book.step a (fun b e=>?_) d,?_,fun b j=>?_⟩
  ·rcases e with e|⟨i,e⟩<;>rintro (k|k)<;>rw[e] at k<;>cases k
  ·rcases e with e|⟨i,e⟩|e<;>rintro (k|k)<;>rw[e] at k<;>cases k
  ·rcases e with e|e<;>rintro (k|k)<;>rw[e] at k<;>cases k
  ·show RowAt U _ _ 7 v' (H.sales++[s]).length ((H.sales++[s]).flatMap SaleR.cells)
   rw[List.length_append,List.length_singleton,List.flatMap_append,List.flatMap_singleton];refine ⟨c.own,fun b j=>?_⟩;have m:=c.lt j;by_cases hbW:b<W.heap.size
   ·rw[d b hbW];exact (c.blk b j).resolve_right (by omega)
   ·rw[g];simp[hbW,m]
  ·rw[g];simp[show ¬b<W.heap.size by omega,show ¬b<U.heap.size by omega]
 ·rcases e with e|e<;>exact ⟨by rw[e];simp,by rw[e];simp⟩
theorem zee (c:HouseAt W T h pn pc va vl vb vs K H) {bl:Nat→Nat} (p:RowAt W (fun b=>T b=.lots) 138 1 vl H.lots.length (ptrs bl H.lots.length)) (q:∀n l,H.lots[n]? =some l→za2 W T n (bl n) l)
  {j:Nat} (t:j<H.lots.length) {l:LotS} (v:za2 U T' j (bl j) l) (g:Chg (fun b=>T b=.lot j) W U) (f:∀b,b<W.heap.size→T' b=T b) (o:∀b,U.heap.size≤b→T' b=.no):
  HouseAt U T' h pn pc va vl vb vs K {H with lots:=H.lots.set j l}:=by
 have d:∀b P,T b=P→P≠ .lot j→¬T b=.lot j:=fun b P m r s=>r (m.symm.trans s);refine ⟨(f h c.blk.lt).trans c.top,c.blk.chg g (d h _ c.top (by simp)),c.names.step g (fun b e=>d b _ e (by simp)) f,c.accs.step g (fun b e=>?_) f,⟨bl,?_,fun n x a=>?_⟩,c.cal.step g (fun b e=>d b _ e (by simp)) f,c.book.step g (fun b e=>?_) f,c.sales.step g (fun b e=>d b _ e (by simp)) f,o⟩
 ·rcases e with e|⟨i,e⟩<;>exact d b _ e (by simp)
 ·show RowAt U _ _ 1 vl (H.lots.set j l).length (ptrs bl (H.lots.set j l).length)
  rw[List.length_set];exact RowAt.step p g (fun b e=>d b _ e (by simp)) f
 ·rw[List.getElem?_set] at a;by_cases e:j=n
  ·subst e;rw[if_pos rfl,if_pos t] at a
   cases a
   exact v
  ·rw[if_neg e] at a;refine (q n x a).step g (fun b m=>?_) f
   rcases m with m|m
   ·exact d b _ m (by simpa using fun k=>e k.symm)
   ·exact d b _ m (by simp)
 ·rcases e with e|e<;>exact d b _ e (by simp)
end
end Ho
namespace Ho
open Go.RowKit Go.Lib Vb Ac
def zff (cs:Array Value):Nat→List Value→Array Value
 |_,[]=>cs
 |o,v::r=>zff (cs.setIfInBounds o v) (o+1) r
theorem zef:∀(vs:List Value) (cs:Array Value) (o:Nat),(zff cs o vs).size=cs.size
 |[],_,_=>rfl
 |v::r,cs,o=>(zef r _ _).trans (by simp)
theorem ziJ:∀(vs:List Value) (cs:Array Value) (o k:Nat),o+vs.length≤cs.size→(zff cs o vs)[k]? =if o≤k∧k<o+vs.length then vs[k-o]? else cs[k]?
 |[],cs,o,k,_=>by rw[if_neg (by simp only[List.length_nil];omega)];rfl
 |v::r,cs,o,k,h=>by
  simp only[List.length_cons] at h ⊢
  show (zff (cs.setIfInBounds o v) (o+1) r)[k]? =_
  rw[ziJ r _ _ k (by simp;omega)];by_cases h1:o+1≤k∧k<o+1+r.length
  ·rw[if_pos h1,if_pos (by omega),show k-o=(k-(o+1))+1 by omega];simp
  ·rw[if_neg h1,Array.getElem?_setIfInBounds];by_cases h2:o=k
   ·subst h2;rw[if_pos rfl,if_pos (by omega),if_pos (by omega)];simp
   ·rw[if_neg h2,if_neg (by omega)]
theorem ze9 {q:Nat} {t:TypeId}:∀(vs:List Value) {W:World} {cs:Array Value} (o:Nat),Blk W q t cs→Blk (W.setCells q o vs) q t (zff cs o vs)
 |[],_,_,_,h=>h
 |v::r,_,_,o,h=>ze9 r (o+1) (h.set_ o v)
theorem zdG (q:Nat):∀(vs:List Value) (W:World) (o:Nat),Chg (·=q) W (W.setCells q o vs)
 |[],W,_=>Chg.refl _ W
 |v::r,W,o=>(Chg.set W ⟨q,o,none⟩ v).trans (zdG q r _ (o+1))
theorem zgR {P:Program} (w:World) (t e p:TypeId) (z:Value) (m:P.underlying t=some (.slice e)) (n:∀w,(zeroValue e).run P w=.ok z w) (d:∀u∈z.cells.toList,u.oneCell'=true) (b o c:Nat)
  (g:∀j,j<z.cells.size→(w.cell? ⟨b,o+j,none⟩).isSome=true) (h:∀j,j<z.cells.size→w.frozen? ⟨b,o+j,none⟩=false):
  (Builtin.clear_ #[t] p #[.slice (some ⟨b,o,none⟩) 1 c]).run P w=.ok (.tuple #[]) (w.setCells b o z.cells.toList):=by
 have f:(Builtin.zeroCells z.cells 1).toList=z.cells.toList:=by
  simp[Builtin.zeroCells]
  apply List.ext_getElem
  ·simp
  ·intro i d q;have l:i % z.cells.size=i:=Nat.mod_eq_of_lt (by simpa using d);have k:i<z.cells.size:=by simpa using d
   simp[l,k]
 have a:=run_storeCells_cells (P:=P) b o z.cells.toList 0 w (by simpa using g) (by simpa using h) d;simp only[Nat.add_zero] at a
 simp[Builtin.clear_,run_underlying m,n,f,a]
abbrev zSt:Value:=.agg #[.int .i64 0,.slice none 0 0,.int .i64 0]
theorem ztp (w:World):(zeroValue 188).run Tryz.prog w=.ok zSt w:=Tryz.zeroValue188 w
theorem zrM {W:World} {R:Nat→Prop} {q n cap i j:Nat} {xs:List Value} (h:RowAt W R 188 3 (.slice (some ⟨q,0,none⟩) n cap) n xs) (hi:i<n) (C:j=i+1) (h1:∀u∈xs,u.oneCell'=true):
  Calls Tryz.prog 122 #[.slice (some ⟨q,0,none⟩) n cap,i,j] W fun e W'=>e=.returned (.slice (some ⟨q,0,none⟩) (n-1) cap)∧
   RowAt W' R 188 3 (.slice (some ⟨q,0,none⟩) (n-1) cap) (n-1) (xs.take (i*3)++xs.drop (i*3+3))∧Chg (·=q) W W':=by
 obtain ⟨v,I⟩:=h.own
 rcases I with ⟨hv,_⟩|⟨g,cap',cur,hv,_,hg,hnc,hcm,p,r⟩
 ·cases hv
 injection hv with e1 e2 e3
 injection e1 with e1
 injection e1 with e1
 subst e1 e3;clear e2;have f:Blk W q 188 cur:=hg;obtain ⟨i0,V,hz0,Y,hz2⟩:=info_parts (P:=Tryz.prog) (e:=188) (z:=zSt) (size:=3) (bytes:=40) (by kernel_rfl);obtain ⟨a,c⟩:=nm (xs.drop (i*3+3));have y:a.length=(n-j)*3:=by rw[c,List.length_drop];omega
 have d:∀k,k<n*3→W.cell? ⟨q,k,none⟩=xs[k]? :=fun k D=>h.own.cellAt k D;obtain ⟨A,hA,J⟩:∃A:Addr,(if cap=j then (some ⟨q,0,none⟩:Option Addr) else some ⟨q,j*3,none⟩)=some A∧Hid (∀t u,a[t]? =some u→W.drew.cell? (A.add t)=some u):=by
  by_cases hcp:cap=j
  ·refine ⟨⟨q,0,none⟩,by simp[hcp],fun t u B=>?_⟩;have:=(gS.1 B).1
   omega
  ·refine ⟨⟨q,j*3,none⟩,by simp[hcp],fun t u B=>?_⟩;have ht:=(gS.1 B).1;rw[Addr.add_lit];refine (d _ (by omega)).trans ?_;rw[c,List.getElem?_drop] at B;rw[←B];congr 1;omega
 have s2:Hid (∀u∈a,u.oneCell'=true):=by rw[c];exact fun u B=>h1 u (List.mem_of_mem_drop B)
 have s:∀k,k<cap*3→(W.cell? ⟨q,k,none⟩).isSome=true:=fun k D=>by
  rw[f.cell k,Array.getElem?_eq_getElem (by omega)];rfl
 have s3:Hid (∀t,t<a.length→(W.drew.cell? ⟨q,0+i*3+t,none⟩).isSome=true∧W.drew.frozen? ⟨q,0+i*3+t,none⟩=false):=fun t ht=>⟨s _ (by omega),f.frozen _⟩;obtain ⟨E,m⟩:=nm (W.drew.setCells q (0+i*3) a);have l:Blk E q 188 (zff cur (i*3) a):=by rw[m,Nat.zero_add];exact ze9 a (i*3) (Blk.grow f bR.drew)
 have G:Chg (·=q) W E:=by rw[m];exact ((Chg.refl _ W).grow bR.drew).trans (zdG _ _ _ _)
 obtain ⟨T,o⟩:=nm (E.setCells q ((i+(n-j))*3) zSt.cells.toList);have F:Blk T q 188 (zff (zff cur (i*3) a) ((n-1)*3) zSt.cells.toList):=by rw[o,show (i+(n-j))*3=(n-1)*3 by omega];exact ze9 _ _ l
 have H:Chg (·=q) W T:=by rw[o];exact G.trans (zdG _ _ _ _)
 have hcl:∀ty,(Builtin.clear_ #[141] ty #[.slice (some ⟨q,(i+(n-j))*3,none⟩) (n-(i+(n-j))) (cap-(i+(n-j)))]).run Tryz.prog E=.ok (.tuple #[]) T:=fun ty=>by
  rw[o,show n-(i+(n-j))=1 by omega];refine zgR E _ _ ty zSt Tryz.underlying141 ztp (show ∀u∈[Value.int .i64 0,.slice none 0 0,.int .i64 0],u.oneCell'=true by simp[Value.oneCell']) q _ _ (fun j C=>?_) fun j _=>l.frozen _;have C:j<3:=C;rw[l.cell,Array.getElem?_eq_getElem (by rw[zef];omega)];rfl
 have L:=hid F;have M:=hid H;have HN:=hid y;have S:=hid m;have HH:=hid h;have O:=hid c;have N:=hid p;have Q:=hid r;have hic:i≤cap:=by omega
 have hjc:j≤cap:=by omega
 have hne:¬i=j:=by omega
 have hij:i≤j:=by omega
 have hjn:j≤n:=by omega
 have HJ:=hid C;clear F H y m h c p r G o l d s f h1 hg v C;go_enter Tryz.func122,Tryz.ntmps122;go_wp2_with fail
 refine zac (Below W W) [6,7] (by kernel_rfl) (bR.drew) (fun x=>?_);refine tpD [2,6,7] 0 x ?_;refine tpD [2,6,7] 1 x ?_;refine tp 2 x ?_;refine tpD [5,6,7] 3 x ?_;refine tpD [5,6,7] 4 x ?_;refine tp 5 x ?_;refine stf 6 fun K hK=>?_;refine step_append_room rfl (.tmp 22) (.tmp 25) 141 rfl 188 i0 3 Tryz.underlying141 V Y q 0 i cap (by simp[Act.eval]) A (n-j) (cap-j) a (by simp[Act.eval]) HN.out J.out s2.out (by omega) s3.out ?_;rw[←S.out];refine hK.out _ _ ?_;clear hK K
 try simp only[Act.put,pb,pz,ps]
 refine tpW 7 ?_;refine zaa (by kernel_rfl) ?_ _;clear x;go_wp2_with fail
 go_ret;have C:=HJ.out;have p:=N.out;have r:=Q.out;have y:=HN.out;have X:=O.out;have v:=HH.out.len;refine ⟨by rw[show i+(n-j)=n-1 by omega];rfl,⟨⟨?_,.inr ⟨q,cap,_,rfl,zL,L.out,by omega,hcm,?_,?_⟩⟩,fun b hb=>HH.out.blk b hb⟩,M.out⟩
 ·rw[List.length_append,List.length_take,List.length_drop];omega
 ·rw[zef,zef];exact p
 ·apply List.ext_getElem?
  intro k;have Z:zSt.cells.toList.length=3:=rfl;have U:∀k,k<(n-1)*3→(zff (zff cur (i*3) a) ((n-1)*3) zSt.cells.toList)[k]? =(zff cur (i*3) a)[k]? :=fun k D=>by
   rw[ziJ _ _ _ k (by rw[zef,Z];omega),if_neg (by omega)]
  by_cases D:k<(n-1)*3
  ·rw[List.getElem?_take,if_pos D,Array.getElem?_toList,U k D,ziJ _ _ _ k (by omega)];by_cases hk2:k<i*3
   ·rw[if_neg (by omega),List.getElem?_append_left (by rw[List.length_take];omega),List.getElem?_take,if_pos hk2,←r,List.getElem?_take,if_pos (by omega),Array.getElem?_toList]
   ·rw[if_pos (by omega),List.getElem?_append_right (by rw[List.length_take];omega),List.length_take,X]
    congr 1;omega
  ·rw[List.getElem?_eq_none (by rw[List.length_take];omega),List.getElem?_eq_none (by rw[List.length_append,List.length_take,List.length_drop];omega)]
end Ho
namespace Ho
open Go.RowKit Vb Ac
def zaS (b:Int):List Stand→Option Nat
 |[]=>none
 |s::l=>if s.bidder=b then some 0 else (zaS b l).map (·+1)
def zbV (b:Int) (l:List Stand):Int:=match zaS b l with|some k=>k|none=>-1
theorem zim {b:Int}:∀{l:List Stand} {k:Nat} {s:Stand},l[k]? =some s→s.bidder=b→(∀j x,j<k→l[j]? =some x→¬x.bidder=b)→zaS b l=some k
 |[],k,s,h,_,_=>by simp at h
 |x::l,0,s,h,hb,_=>by simp at h;subst h;simp[zaS,hb]
 |x::l,k+1,s,h,hb,hn=>by
  have h0:=hn 0 x (by omega) rfl;have:=zim (l:=l) (k:=k) (by simpa using h) hb (fun j y hj hy=>hn (j+1) y (by omega) (by simpa using hy))
  simp[zaS,h0,this]
theorem zil {b:Int}:∀{l:List Stand},(∀(j:Nat) (x:Stand),l[j]? =some x→¬x.bidder=b)→zaS b l=none
 |[],_=>rfl
 |x::l,h=>by
  have h0:=h 0 x rfl
  simp[zaS,h0,zil (fun j y hy=>h (j+1) y (by simpa using hy))]
theorem zei {b:Int}:∀{l:List Stand} {k:Nat},zaS b l=some k→∃s,l[k]? =some s∧s.bidder=b∧∀j x,j<k→l[j]? =some x→¬x.bidder=b
 |[],k,h=>by simp[zaS] at h
 |x::l,k,h=>by
  unfold zaS at h
  split at h
  ·cases h
   exact ⟨x,rfl,by assumption,fun j y hj=>by omega⟩
  ·rename_i hx
   obtain ⟨m,hm,rfl⟩:=Option.map_eq_some_iff.1 h;obtain ⟨s,h1,h2,h3⟩:=zei hm;refine ⟨s,by simpa using h1,h2,fun j y hj hy=>?_⟩
   rcases j with _|j
   ·simp at hy;subst hy;exact hx
   ·exact h3 j y (by omega) (by simpa using hy)
theorem zjI (x d y:Int) (A:Option Addr) (n c g:Nat) (w:World) (a:w.cell? ⟨g,0,none⟩=some ↑y):
  Calls Tryz.prog 142 #[.agg #[x,.slice A n c,d],.pointer (some ⟨g,0,none⟩)] w fun e w'=>e=.returned ↑(decide (x=y):Bool)∧Below w w w':=by
 have b:=World.block_lt_of_cell? w _ a;have f:(w.alloc (.cells #[x,.slice A n c,d] 188)).cell? ⟨g,0,none⟩=some ↑y:=by rw[World.cell?_alloc_old _ _ _ (Nat.ne_of_lt b)];exact a
 go_enter Tryz.func142,Tryz.ntmps142
 go_wp2
 go_ret;exact ⟨rfl,qA _⟩
theorem znZ {w:World} {T:Nat→Part} {R:Nat→Prop} {A:Option Addr} {c:Nat} {l:List Stand} (r:zaM w T R (.slice A l.length c) l) {g:Nat} {y:Int} (M:w.cell? ⟨g,0,none⟩=some ↑y):
  Calls Tryz.prog 141 #[.slice A l.length c,.func (.func 142) #[] #[.pointer (some ⟨g,0,none⟩)]] w fun e w'=>e=.returned ↑(zbV y l:Int)∧Below w w w':=by
 have N:=World.block_lt_of_cell? w _ M;have O:l.length≤9223372036854775807:=by obtain ⟨_,h,_⟩:=r;have:=h.max;unfold maxLen at this;omega
 have C:=hid r;have Y:=hid M;clear r M;obtain ⟨n,P⟩:=nm (l.length);rw[←P] at C O ⊢;have U:=hid P;clear P;go_enter Tryz.func141,Tryz.ntmps141
 go_wp2
 go_loopw [8] (fun i wr=>∃k:Nat,k≤n∧i=.int .i64 k∧Below w w wr∧∀j x,j<k→l[j]? =some x→¬x.bidder=y) (fun i _=>n-(intOf i).toNat)
 case atStart=>exact ⟨0,zL,rfl,bR,fun j x hj=>by omega⟩
 case round=>
  obtain ⟨k,hk,rfl,o,E⟩:=hrel;have m:=hid E;have v:=hid o;clear E;by_cases hltk:k<n
  ·obtain ⟨s,S⟩:∃s,l[k]? =some s:=⟨_,gE (by rw[←U.out];exact hltk)⟩;obtain ⟨q,Z,uA,uc,hv,_,Q,J,K,L,_⟩:=zaM.at_ C.out S;injection hv with hv1 hv2 hv3
   subst hv1 hv3;clear hv2;have J:=qc o J Q;have K:=qc o K Q;have L:=qc o L Q;have D:wr.cell? ⟨g,0,none⟩=some ↑y:=qc o Y.out N;have V:=hid S;have z:=hid D;obtain ⟨H,p⟩:=nm (s.bidder);obtain ⟨X,F⟩:=nm (s.held);obtain ⟨un,G⟩:=nm (s.offers.length);rw[←p] at J;rw[←G] at K;rw[←F] at L;have B:=hid p;clear S D o p F G;by_cases hbad:H=y
   ·have a:decide (H=y)=true:=decide_eq_true hbad;have b:=hid hbad;have I:=hid a;clear hbad a;go_wp2_with fail
    refine (zjI H X y uA un uc g _ z.out).mono ?_;rintro e w1 ⟨rfl,d⟩;rw[I.out];have f:=hid d;clear d;go_wp2_with fail
    go_ret;refine ⟨zcM ?_,v.out.trans (f.out.mono v.out.size)⟩;unfold zbV;rw[zim V.out (B.out.symm.trans b.out) m.out]
   ·have a:decide (H=y)=false:=decide_eq_false hbad;have b:=hid hbad;have I:=hid a;clear hbad a;go_wp2_with fail
    refine (zjI H X y uA un uc g _ z.out).mono ?_;rintro e w1 ⟨rfl,d⟩;rw[I.out];have f:=hid d;clear d;have hwr:IntKind.i64.wrap ((k:Int)+1)=(k:Int)+1:=iW _ (by omega);go_wp2_with fail
    go_roundw
    case rel=>
     refine ⟨k+1,by omega,by go_num,v.out.trans (f.out.mono v.out.size),fun j x hj t=>?_⟩;by_cases hjk:j<k
     ·exact m.out j x hjk t
     ·obtain rfl:j=k:=by omega
      rw[V.out] at t
      cases t
      rw[←B.out];exact b.out
    case measure=>simp[intOf];omega
  ·clear o
   go_wp2
   go_ret;refine ⟨zcM ?_,v.out⟩;unfold zbV;rw[zil (fun j x t=>m.out j x (by have:=(gS.1 t).1;have:=U.out;omega) t)]
theorem zhp {W:World} {T:Nat→Part} {n b:Nat} {l:LotS} (h:za2 W T n b l) (y:Int):
  Calls Tryz.prog 121 #[.pointer (some ⟨b,0,none⟩),y] W fun e W'=>e=.returned ↑(zbV y l.stands:Int)∧Below W W W':=by
 obtain ⟨o,a⟩:=nm (W.alloc (.cells #[y] 3));have d:Below W W o:=by rw[a];exact qA _
 have q:o.cell? ⟨W,0,none⟩=some ↑y:=by
  have:Blk o W 3 #[y]:=by rw[a];exact Blk.new _ _ _
  exact this.cell 0
 obtain ⟨v,_,f,g⟩:=h.step (T':=T) (Chg.of (fun _=>False) d) (fun _ _=>id) (fun _ _=>rfl);obtain ⟨A,c,rfl⟩:∃A c,v=.slice A l.stands.length c:=by obtain ⟨_,h,_⟩:=g;exact h.form
 have s:W.cell? ⟨b,14,none⟩=some (.slice A l.stands.length c):=(d.cell (p:=⟨b,14,none⟩) h.lt).symm.trans (f.cell 14);have t:=h.lt;have m:=hid g;have r:=hid q;have i:=hid d;clear f g q d h;go_enter Tryz.func121,Tryz.ntmps121;go_wp2_with fail
 rw[←a];clear a;refine (znZ m.out r.out).mono ?_;rintro e x ⟨rfl,j⟩;have k:=hid (i.out.trans (j.mono i.out.size));clear j;go_wp2_with fail
 go_ret;exact ⟨rfl,k.out⟩
def zaZ:List Off→Option Int
 |[o]=>if o.g=0∧zae o.c=true then some o.c else none
 |_=>none
def zaV (l:List Off):Value:=match zaZ l with|some c=>.tuple #[.int .i64 c,.bool true]|none=>.tuple #[.int .i64 0,.bool false]
theorem zdc {W:World} {R:Nat→Prop} {A:Option Addr} {c:Nat} {l:List Off} (p:zad W R (.slice A l.length c) l):
  Calls Tryz.prog 218 #[.slice A l.length c] W fun e W'=>e=.returned (zaV l)∧Below W W W':=by
 by_cases h1:l.length=1
 ·obtain ⟨o,rfl⟩:=List.length_eq_one_iff.1 h1;obtain ⟨⟨_,B,C,y,_,_,t⟩,k⟩:=p;injection y with hA _ _
  subst hA;obtain ⟨b,j,rfl,_,D,i⟩:=t (by simp);have r:W.cell? ⟨b,j,none⟩=some (.int .u32 o.g):=i 0 _ rfl;have s:W.cell? ⟨b,j+1,none⟩=some ↑o.c:=i 1 _ rfl;obtain ⟨m,a⟩:=o;simp only at r s;clear i k h1
  show Calls _ _ #[.slice _ 1 c] _ _
  by_cases hg:m=0
  ·subst hg;have d:zaV [⟨0,a⟩]=.tuple #[(if zae a=true then a else 0:Int),(zae a:Bool)]:=by
    unfold zaV zaZ
    cases h:zae a<;>simp[h]
   rw[d]
   cases hco:zae a with
   |true=>
    have f:=hid hco;clear hco d;go_enter Tryz.func218,Tryz.ntmps218;go_wp2_with fail
    refine (zce a _).mono ?_;rintro e z ⟨rfl,rfl⟩;rw[f.out];go_wp2_with fail
    go_ret2
    exact ⟨rfl,bR⟩
   |false=>
    have f:=hid hco;clear hco d;go_enter Tryz.func218,Tryz.ntmps218;go_wp2_with fail
    refine (zce a _).mono ?_;rintro e z ⟨rfl,rfl⟩;rw[f.out];go_wp2_with fail
    go_ret2
    exact ⟨rfl,bR⟩
  ·have d:zaV [⟨m,a⟩]=.tuple #[(),false]:=by
    unfold zaV zaZ
    simp[hg]
   rw[d];have v:¬(m:Int)=0:=by omega
   go_enter Tryz.func218,Tryz.ntmps218;go_wp2_with fail
   go_ret2
   exact ⟨rfl,bR⟩
 ·have d:zaV l=.tuple #[(),false]:=by
   unfold zaV zaZ
   match l,h1 with
   |[],_=>rfl
   |[_],h=>exact absurd rfl h
   |_::_::_,_=>rfl
  rw[d];obtain ⟨n,q⟩:=nm (l.length);rw[←q] at h1 ⊢;have x:¬(n:Int)=1:=by omega
  clear p d q;go_enter Tryz.func218,Tryz.ntmps218;go_wp2_with fail
  go_ret2
  exact ⟨rfl,bR⟩
theorem ziH:zbg Tryz.prog 141 188 3 40:=zba Tryz.underlying141 (by omega) (z:=.agg #[(),.slice none 0 0,()]) (by kernel_rfl) rfl
def zbC (b:Int) (ss:List Stand):List Stand:=match zaS b ss with|some k=>ss.eraseIdx k|none=>ss
def zfq (l:LotS) (s:Stand):LotS:={l with stands:=zbC s.bidder l.stands++[s]}
def zhw (H:House) (i j:Nat) (a:Acc) (l:LotS) (s:Stand):House:={H with accs:=H.accs.set i (a.set j s.held),lots:=H.lots.set j (zfq l s)}
theorem zfN (ss:List Stand) (s:Stand) (vo:Nat→Value) (v:Value):zaF (ss++[s]) (fun k=>if k=ss.length then v else vo k)=zaF ss vo++s.cells v:=by
 unfold zaF;rw[zif,List.flatten_append];simp only[if_true,List.flatten_cons,List.flatten_nil,List.append_nil]
 congr 2
 exact zgQ fun i x a=>by simp[show ¬i=ss.length by omega]
theorem zkH {n:Nat}:∀{xs:List (List Value)} (k:Nat),(∀y∈xs,y.length=n)→xs.flatten.take (k*n)=(xs.take k).flatten
 |[],k,_=>by simp
 |y::ys,0,_=>by simp
 |y::ys,k+1,h=>by
  have hy:=h y (.head _);rw[List.flatten_cons,List.take_succ_cons,List.flatten_cons,List.take_append,List.take_of_length_le (by rw[hy,Nat.succ_mul];omega),hy,show (k+1)*n-n=k*n by rw[Nat.succ_mul];omega,zkH k fun z hz=>h z (.tail _ hz)]
theorem zkG {n:Nat}:∀{xs:List (List Value)} (k:Nat),(∀y∈xs,y.length=n)→xs.flatten.drop (k*n)=(xs.drop k).flatten
 |[],k,_=>by simp
 |y::ys,0,_=>by simp
 |y::ys,k+1,h=>by
  have hy:=h y (.head _);rw[List.flatten_cons,List.drop_succ_cons,List.drop_append,List.drop_eq_nil_of_le (by rw[hy,Nat.succ_mul];omega),hy,show (k+1)*n-n=k*n by rw[Nat.succ_mul];omega,zkG k fun z hz=>h z (.tail _ hz),List.nil_append]
theorem ziU (ss:List Stand) (vo:Nat→Value) (k:Nat):(zaF ss vo).take (k*3)++(zaF ss vo).drop (k*3+3)=zaF (ss.eraseIdx k) (fun i=>if i<k then vo i else vo (i+1)):=by
 unfold zaF;have a:∀y∈ss.mapIdx (fun k s=>Stand.cells s (vo k)),y.length=3:=zdM fun _ _=>rfl;rw[show k*3+3=(k+1)*3 by omega,zkH k a,zkG (k+1) a,←List.flatten_append,←List.eraseIdx_eq_take_drop_succ]
 congr 1
 apply List.ext_getElem?
 intro i;rw[List.getElem?_mapIdx,List.getElem?_eraseIdx,List.getElem?_eraseIdx];by_cases h:i<k
 ·simp only[h,if_true,List.getElem?_mapIdx]
 ·simp only[h,if_false,List.getElem?_mapIdx]
theorem zhl {W:World} {T:Nat→Part} {vo:Nat→Value} {ss:List Stand} (h:zb3 W T vo (ss.map (·.offers))) (k:Nat):zb3 W T (fun i=>if i<k then vo i else vo (i+1)) ((ss.eraseIdx k).map (·.offers)):=fun i l hi=>by
 rw[List.getElem?_map,List.getElem?_eraseIdx] at hi;by_cases e:i<k
 ·rw[if_pos e] at hi
  show zad W _ (if i<k then vo i else vo (i+1)) l
  rw[if_pos e];exact h i l (by rw[List.getElem?_map];exact hi)
 ·rw[if_neg e] at hi
  show zad W _ (if i<k then vo i else vo (i+1)) l
  rw[if_neg e];exact h (i+1) l (by rw[List.getElem?_map];exact hi)
theorem zk0 {W V q U:World} {T:Nat→Part} {h pn pc K:Nat} {va vl vb vs v' vc:Value} {H:House} (f:HouseAt W T h pn pc va vl vb vs K H) {bl:Nat→Nat}
  (J:RowAt W (fun b=>T b=.lots) 138 1 vl H.lots.length (ptrs bl H.lots.length)) (A:∀n l,H.lots[n]? =some l→za2 W T n (bl n) l) {j K':Nat} {l l':LotS} {s:Stand} {a:List Stand} {vo:Nat→Value} {C:List Acc} (S:H.lots[j]? =some l) (G:l'.stands=a++[s])
  (N:zcd V T va K' C) (F:Chg (fun b=>(∃i,T b=.acc i)∨T b=.lot j) W V) (Z:zb3 V T vo (a.map (·.offers))) (E:Below V V q) (I:zad q (fun b=>V.heap.size≤b) vc s.offers)
  (B:RowAt U (fun b=>(T b=.lot j∧b≠bl j)∨q.heap.size≤b) 188 3 v' (a.length+1) (zaF a vo++s.cells vc)) (y:Chg (fun b=>T b=.lot j) q U) (O:Blk U (bl j) 145 (l'.cells v').toArray):
  ∃T',zaf U T' h K' {H with accs:=C,lots:=H.lots.set j l'}∧Moves W T U T':=by
 obtain ⟨T',m⟩:=nm (fun b=>if b<V.heap.size then T b else if b<q.heap.size then .old else if b<U.heap.size then .lot j else .no:Nat→Part);have p:∀b,b<V.heap.size→T' b=T b:=fun b r=>by rw[m];simp[r]
 have hsV:=F.size;have hs6:=E.size;have hsU:=y.size;have g:∀b,b<W.heap.size→T' b=T b:=fun b r=>p b (by omega);have v:Chg (fun b=>T b=.lot j) V U:=(Chg.of _ E).trans y;have c:Chg (fun b=>(∃i,T b=.acc i)∨T b=.lot j) W U:=F.step v fun b _ e=>.inr e;have X:=(gS.1 S).1;have Q:T (bl j)=.lot j:=by obtain ⟨_,h,_⟩:=A j l S;exact h
 have R:bl j<W.heap.size:=(A j l S).lt;have t:∀b P,T b=P→(∀i,P≠ .acc i)→P≠ .lot j→¬((∃i,T b=.acc i)∨T b=.lot j):=by
  rintro b P e M h2 (⟨i,k⟩|k)<;>rw[e] at k
  ·exact M i k
  ·exact h2 k
 refine ⟨T',⟨pn,pc,va,vl,vb,vs,?_⟩,c.mono fun b _ e=>?_,g⟩
 ·refine ⟨(g h f.blk.lt).trans f.top,f.blk.chg c (t h _ f.top (by simp) (by simp)),f.names.step c (fun b e=>t b _ e (by simp) (by simp)) g,N.step v (fun b e=>?_) p,⟨bl,?_,fun n x hx=>?_⟩,f.cal.step c (fun b e=>t b _ e (by simp) (by simp)) g,f.book.step c (fun b e=>?_) g,f.sales.step c (fun b e=>t b _ e (by simp) (by simp)) g,fun b r=>?_⟩
  ·rcases e with e|⟨i,e⟩<;>rw[e]<;>simp
  ·show RowAt U _ _ 1 vl (H.lots.set j l').length (ptrs bl (H.lots.set j l').length)
   rw[List.length_set];exact RowAt.step J c (fun b e=>t b _ e (by simp) (by simp)) g
  ·have d:(H.lots.set j l')[n]? =some x:=hx;rw[List.getElem?_set] at d;by_cases e:j=n
   ·subst e;rw[if_pos rfl,if_pos X] at d
    cases d
    refine ⟨v',(g _ R).trans Q,O,⟨fun k=>if k=a.length then vc else vo k,?_,fun k o z=>?_⟩⟩
    ·rw[G,zfN,List.length_append,List.length_singleton];refine ⟨B.own,fun b r=>?_⟩;have Y:=B.lt r
     rcases B.blk b r with k|k
     ·by_cases hbV:b<V.heap.size
      ·exact ⟨(p b hbV).trans k.1,k.2⟩
      ·have:=f.out b (by omega);rw[this] at k;cases k.1
     ·refine ⟨?_,by omega⟩;rw[m];simp[show ¬b<V.heap.size by omega,show ¬b<q.heap.size by omega,Y]
    ·rw[G,List.map_append] at z;by_cases e:k=a.length
     ·subst e;rw[List.getElem?_append_right (by simp)] at z
      simp at z
      subst z;simp only[if_true];refine zad.mono (zad.chg (zad.mono (R':=fun b=>V.heap.size≤b∧b<q.heap.size) I fun b r L=>⟨L,r⟩) y fun b _ L e=>by have:=f.out b (by omega);rw[this] at e;cases e) fun b _ L=>?_;rw[m];simp[show ¬b<V.heap.size by omega,L.2]
     ·simp only[if_neg e];have M:=(gS.1 z).1
      simp at M
      rw[List.getElem?_append_left (by simp;omega)] at z;exact zb3.step Z v (fun b e=>by rw[e];simp) p k o z
   ·rw[if_neg e] at d;refine (A n x d).step c (fun b D=>?_) g
    rcases D with D|D
    ·exact t b _ D (by simp) (by simpa using fun k=>e k.symm)
    ·exact t b _ D (by simp) (by simp)
  ·rcases e with e|e<;>exact t b _ e (by simp) (by simp)
  ·rw[m];simp[show ¬b<V.heap.size by omega,show ¬b<q.heap.size by omega,show ¬b<U.heap.size by omega]
 ·rcases e with ⟨i,e⟩|e<;>exact ⟨by rw[e];simp,by rw[e];simp⟩
end Ho
end Go.Proofs.YtckdpejdnejhfaaGreat

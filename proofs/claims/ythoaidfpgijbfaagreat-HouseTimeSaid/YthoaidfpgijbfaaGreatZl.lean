/- Joined by program: HrF Index Check Inst Inst2 Types HrG HrH HrJ HrM HrN HrR HrS HrT HrU. -/
import Derived.Test.YthoaidfpgijbfaaGreatZk
import Derived.Test.YthoaidfpgijbfaaGreatZj
import Derived.Test.YthoaidfpgijbfaaGreatZa
import Derived.Laws.Tables
import Derived.Laws.Rows
import Derived.Deep.RegionLaw
import Derived.Lib.SliceRun
set_option linter.all false
set_option maxRecDepth 100000
set_option maxHeartbeats 32000000
namespace Go.Proofs.YthoaidfpgijbfaaGreat
open Lib (hid)
namespace Ho
open Go.RowKit Vb Ac
theorem zo9:zbE Tryz.prog 87 133 1 8:=zbs Tryz.underlying87 (by omega) (z:=.pointer none) (by kernel_rfl) rfl
def zdn (H:House) (c:Int) (s:ByteArray):Int:=if zah c=false then 2 else zfs H.names 4096 s
def zgg (H:House) (c:Int) (s:ByteArray):House:={H with names:=H.names++[s],accs:=H.accs++[⟨c,0,[]⟩]}
theorem zaJ {c:Int}:zah c=true↔zai c:=by simp[zah,zai]
theorem zrB {W d W4 U:World} {T:Nat→Part} {h pn pc K n o A:Nat} {va vl vb vs v':Value} {H:House} {a:Acc} {s:ByteArray} {bs ms:Nat→Nat} (r:HouseAt W T h pn pc va vl vb vs K H)
  (C:∀i a,H.accs[i]? =some a→AccAt W (bs i) (ms i) K a∧T (bs i)=.acc i∧T (ms i)=.acc i) (M:n=H.accs.length)
  (y:Chg (fun b=>T b=.names) W d) (J:zat d (fun b=>(T b=.names∧b<W.heap.size)∨W.heap.size≤b) pn 4096 (H.names++[s])) (v:Below d d W4) (g:AccAt W4 o A 0 a) (Q:d.heap.size≤o) (S:d.heap.size≤A)
  (j:RowAt U (fun b=>(T b=.accs∧b<W.heap.size)∨W4.heap.size≤b) 133 1 v' (n+1) (ptrs bs n++[.pointer (some ⟨o,0,none⟩)])) (q:Chg (fun b=>(T b=.accs∨T b=.hs)∧b<W.heap.size) W4 U)
  (D:Blk U h 92 #[.pointer (some ⟨pn,0,none⟩),v',vl,.pointer (some ⟨pc,0,none⟩),vb,vs]):∃T',zaf U T' h K {H with names:=H.names++[s],accs:=H.accs++[a]}∧Moves W T U T':=by
 obtain ⟨T',f⟩:=nm (fun b=>if b<W.heap.size then T b else if b<d.heap.size then .names else if b<W4.heap.size then .acc n else if b<U.heap.size then .accs else .no:Nat→Part);have l:∀b,b<W.heap.size→T' b=T b:=fun b p=>by rw[f];simp[p]
 have V:=y.size;have X:=v.size;have Y:=q.size;have F:=g.ltb;have G:=g.ltm;have m:Chg (fun b=>(T b=.accs∨T b=.hs)∧b<W.heap.size) d U:=(Chg.of _ v).trans q;have c:Chg (fun b=>T b=.names∨T b=.accs∨T b=.hs) W U:=(y.mono fun b _ e=>.inl e).step m fun b _ e=>.inr e.1;refine ⟨T',⟨pn,pc,v',vl,vb,vs,?_⟩,c.mono fun b _ e=>?_,l⟩
 ·refine ⟨(l h r.blk.lt).trans r.top,D,?_,⟨fun i=>if i=n then o else bs i,fun i=>if i=n then A else ms i,?_,fun i x z=>?_⟩,r.lots.step c (fun b e=>?_) l,r.cal.step c (fun b e=>by rintro (k|k|k)<;>rw[e] at k<;>cases k) l,r.book.step c (fun b e=>?_) l,r.sales.step c (fun b e=>by rintro (k|k|k)<;>rw[e] at k<;>cases k) l,fun b p=>?_⟩
  ·refine zat.mono (zat.chg (R:=fun b=>((T b=.names∧b<W.heap.size)∨W.heap.size≤b)∧b<d.heap.size) (J.mono fun b p t=>⟨t,p⟩) m fun b _ t e=>?_) fun b _ t=>?_
   ·rcases t.1 with k|k
    ·rw[k.1] at e;rcases e.1 with e|e<;>cases e
    ·have:=e.2;omega
   ·rcases t.1 with k|k
    ·exact (l b k.2).trans k.1
    ·rw[f];simp[show ¬b<W.heap.size by omega,t.2]
  ·have B:(H.accs++[a]).length=n+1:=by simp[M]
   show RowAt U _ _ 1 v' (H.accs++[a]).length (ptrs _ (H.accs++[a]).length)
   rw[B,zgK];have P:ptrs (fun i=>if i=n then o else bs i) n=ptrs bs n:=zfF fun i z=>by simp[show ¬i=n by omega]
   rw[P];simp only[if_true];refine ⟨j.own,fun b p=>?_⟩;have I:=j.lt p
   rcases j.blk b p with k|k
   ·exact (l b k.2).trans k.1
   ·rw[f];simp[show ¬b<W.heap.size by omega,show ¬b<d.heap.size by omega,show ¬b<W4.heap.size by omega,I]
  ·by_cases e:i=n
   ·subst e;have Z:x=a:=by
     have:(H.accs++[a])[i]? =some a:=by simp[M]
     rw[this] at z;cases z;rfl
    subst Z;simp only[if_true];refine ⟨(g.chg q (fun e=>by have:=e.2;omega) (fun e=>by have:=e.2;omega)).mono (zL),?_,?_⟩
    ·rw[f];simp[show ¬o<W.heap.size by omega,show ¬o<d.heap.size by omega,F]
    ·rw[f];simp[show ¬A<W.heap.size by omega,show ¬A<d.heap.size by omega,G]
   ·simp only[if_neg e];have E:H.accs[i]? =some x:=by
     have B:=(gS.1 z).1;simp only[List.length_append,List.length_singleton] at B
     rwa [List.getElem?_append_left (by omega)] at z
    obtain ⟨L,N,O⟩:=C i x E;exact ⟨L.chg c (fun k=>by rw[N] at k;rcases k with k|k|k<;>cases k) (fun k=>by rw[O] at k;rcases k with k|k|k<;>cases k),(l _ L.ltb).trans N,(l _ L.ltm).trans O⟩
  ·rcases e with e|⟨i,e⟩|e<;>rintro (k|k|k)<;>rw[e] at k<;>cases k
  ·rcases e with e|e<;>rintro (k|k|k)<;>rw[e] at k<;>cases k
  ·rw[f];simp[show ¬b<W.heap.size by omega,show ¬b<d.heap.size by omega,show ¬b<W4.heap.size by omega,show ¬b<U.heap.size by omega]
 ·rcases e with e|e|e<;>exact ⟨by rw[e];simp,by rw[e];simp⟩
theorem zat.own {W:World} {R:Nat→Prop} {p:Nat} {most:Int} {ns:List ByteArray} (h:zat W R p most ns):zat W (fun b=>R b∧b<W.heap.size) p most ns:=h.mono fun b hb hr=>⟨hr,hb⟩
theorem zpS {W:World} {T:Nat→Part} {h pn pc K:Nat} {va vl vb vs:Value} {H:House} (k:HouseAt W T h pn pc va vl vb vs K H) (o:OrderR) (vo:Value) (n:zdn H o.coins o.name≠0):
  Calls Tryz.prog 32 #[.pointer (some ⟨h,0,none⟩),o.agg vo] W fun e W'=>e=.returned (.tuple #[(),(zdn H o.coins o.name:Int)])∧Below W W W':=by
 obtain ⟨q,c⟩:=nm (W.alloc (.cells (o.cells vo).toArray 36));have d:Below W W q:=by rw[c];exact qA _
 have l:Blk q W 36 (o.cells vo).toArray:=by rw[c];exact Blk.new _ _ _
 obtain ⟨z,g⟩:=nm (zdn H o.coins o.name);rw[←g] at n ⊢;unfold zdn at g;have H1:=hid (k.grow d);have i:=hid d;have U:=(k.grow d).cells.1;have V:=(k.grow d).cells.2.2.2.2.2.2;have x:=hid (k.grow d).names;obtain ⟨B,f,a,p,M,⟨J,C,r,E,Q,t,L,A,G,y,P⟩,N,D⟩:=o;simp only at g;simp only[OrderR.agg,OrderR.cells,LotR.cells,List.cons_append,List.nil_append] at c l ⊢;have Z:q.cell? ⟨W,1,none⟩=some (.string f):=l.cell 1;have x2:q.cell? ⟨W,2,none⟩=some ↑a:=l.cell 2;have xl:=l.lt
 cases hc:zah a with
 |false=>
  rw[hc,if_pos rfl] at g;subst g;have v:=hid hc;clear k d l hc n;go_enter Tryz.func32,Tryz.ntmps32;go_wp2_with fail
  rw[←c];clear c;refine (zcM a _).mono ?_;rintro e j ⟨rfl,rfl⟩;rw[v.out];go_wp2_with fail
  go_ret2
  exact ⟨rfl,i.out⟩
 |true=>
  rw[hc,if_neg (by simp)] at g;have v:=hid hc;have F:=hid g;have R:=hid n;have X:(z==0)=false:=by simpa using n
  clear k d l hc n g;go_enter Tryz.func32,Tryz.ntmps32;go_wp2_with fail
  rw[←c];clear c;refine (zcM a _).mono ?_;rintro e j ⟨rfl,rfl⟩;rw[v.out];go_wp2_with fail
  refine zad (Below j j) [] (by kernel_rfl) (bR.drew) (fun b=>?_);refine tp 0 b ?_;refine tp 1 b ?_;refine tp 2 b ?_;refine tp 3 b ?_;have O:=hid fun (Y:World) (m:(Below j j) Y)=>And.intro (qc m Z xl)<|qc m U V;refine tl 4 b O ?_;refine tp 5 b ?_;refine tl 6 b O ?_;refine stp 7 fun K I=>?_;go_simp;refine (ztE (W:=j.drew) (x.out.grow bR.drew) (s:=f) (by rw[←F.out];exact R.out)).mono ?_;rintro e W7 ⟨rfl,rfl⟩;rw[←F.out];refine I.out _ _ ?_ (fun b=>?_)
  ·exact b
  clear I K
  try simp only[Act.put,pb,pz,ps]
  refine tp 8 b ?_;refine tp 9 b ?_;refine tp 10 b ?_;refine tp 11 b ?_;refine tp 12 b ?_;refine zac (by kernel_rfl) ?_ _;have S:=hid b;clear b;go_wp2_with fail
  go_ret2
  exact ⟨rfl,i.out.trans (S.out.mono i.out.size)⟩
theorem zil {W:World} {T:Nat→Part} {h pn pc K:Nat} {va vl vb vs:Value} {H:House} (I:HouseAt W T h pn pc va vl vb vs K H) (y:H.accs.length=H.names.length) (o:OrderR) (vo:Value) (J:zdn H o.coins o.name=0) (ad:H.names.length≤4096):
  Calls Tryz.prog 32 #[.pointer (some ⟨h,0,none⟩),o.agg vo] W fun e W'=>e=.returned (.tuple #[H.names.length,()])∧∃T',zaf W' T' h K (zgg H o.coins o.name)∧Moves W T W' T':=by
 obtain ⟨W1,g⟩:=nm (W.alloc (.cells (o.cells vo).toArray 36));have i:Below W W W1:=by rw[g];exact qA _
 have hx:Blk W1 W 36 (o.cells vo).toArray:=by rw[g];exact Blk.new _ _ _
 have hc:zah o.coins=true:=by
  cases t:zah o.coins with
  |true=>rfl
  |false=>unfold zdn at J;rw[if_pos t] at J;cases J
 have x:zfs H.names 4096 o.name=0:=by
  unfold zdn at J;rwa [if_neg (by rw[hc];simp)] at J
 obtain ⟨bs,ms,l,X⟩:=I.accs;obtain ⟨A,c,G⟩:=l.form;have z:=hid I;have L:=hid i;have HX:=hid hx;have c0:=(I.grow i).cells.1;have hl:=(I.grow i).cells.2.2.2.2.2.2;have HNM:=hid (zat.grow I.names.own i);obtain ⟨n,hn⟩:=nm (H.accs.length);have HN:=hid hn;have d:=hid (show RowAt W (fun b=>T b=.accs∧b<W.heap.size) 133 1 (.slice A n c) n (ptrs bs n) by rw[hn,←G];exact l.mono fun b hb hr=>⟨hr,hb⟩);have P:=hid (show va=.slice A n c by rw[hn];exact G);have HAS:=hid X;have B:=hid y;have C:=hid ad;have q:=hid x;have HC:=hid hc;obtain ⟨okind,m,a,ae,olot,⟨kind,opens,closes,start,step,extend,last,floor,fall,count,rule⟩,ooff,otick⟩:=o;simp only at q HC;simp only[OrderR.agg,OrderR.cells,LotR.cells,List.cons_append,List.nil_append] at g HX ⊢;have x1:W1.cell? ⟨W,1,none⟩=some (.string m):=HX.out.cell 1;have xl:=HX.out.lt;clear I i hx hc x J l X G hn y ad;go_enter Tryz.func32,Tryz.ntmps32;go_wp2_with fail
 rw[←g];clear g;refine (zcM a _).mono ?_;rintro e Q ⟨rfl,rfl⟩;rw[HC.out];go_wp2_with fail
 refine zad (Below Q Q) [7,8,9,10,11,12] (by kernel_rfl) (bR.drew) (fun v=>?_);refine tpD [1,2,3,4,7,8,9,10,11,12] 0 v ?_;refine tpD [2,3,4,7,8,9,10,11,12] 1 v ?_;refine tpD [3,4,7,8,9,10,11,12] 2 v ?_;refine tpD [4,7,8,9,10,11,12] 3 v ?_;have qq:=hid fun (w':World) (V:(Below Q Q) w')=>And.intro (qc V x1 xl)<|qc V c0 hl;refine tlD [7,8,9,10,11,12] 4 v qq ?_;refine tpD [6,7,8,9,10,11,12] 5 v ?_;refine tlD [7,8,9,10,11,12] 6 v qq ?_;refine stf 7 fun K hK=>?_;go_simp;refine (zo3 (W:=Q.drew) (HNM.out.grow bR.drew) (s:=m) q.out (by have:=C.out;omega)).mono ?_;rintro e R ⟨rfl,ab,D⟩;have N:=hid ab;have HX3:=hid (Blk.chg (HX.out.grow bR.drew) D (fun e=>by have:=e.2;omega));have f:=hid (show Chg (fun b=>T b=.names∧b<W.heap.size) W R from ((Chg.of _ L.out).grow bR.drew).trans D);clear ab D;refine hK.out _ _ ?_;clear hK K
 try simp only[Act.put,pb,pz,ps]
 refine tpW 8 ?_;refine tpW 9 ?_;refine tpW 10 ?_;refine tpW 11 ?_;refine tpW 12 ?_;refine zac (by kernel_rfl) ?_ _;clear v c0 x1 xl hl;have hs3:=f.out.size;have Y:=z.out.blk.chg f.out (fun e=>by rw[z.out.top] at e;cases e.1);have M:=hid Y;have x2:R.cell? ⟨W,2,none⟩=some ↑a:=HX3.out.cell 2;clear Y hs3;go_wp2_with fail
 refine (zvr a _).mono ?_;rintro e S ⟨j,(⟨t,rfl⟩|⟨t,rfl,hA⟩)⟩
 ·exact absurd (zaJ.1 HC.out) t
 ·have HB4:=hid j;have HA4:=hid hA;have r:=hid (M.out.grow j);have y1:S.cell? ⟨h,1,none⟩=some (.slice A n c):=(r.out.cell 1).trans (by rw[P.out];rfl);have HR4:=hid ((d.out.chg f.out (fun b _ t h2=>by rw[t.1] at h2;cases h2.1)).grow j);have HS4:=hid (show W.heap.size≤S.heap.size from lT f.out.size j.size);have HOH:=hid (show ¬(Value.slice A n c).ownBlock=some h from fun e=>by have h3:=(d.out.blk h e).1;rw[z.out.top] at h3;cases h3);clear j t hA x2
  go_wp2_with (at_builtin;go_must (refine zb6 _ (.tmp 39) (.tmp 41) rfl zo9 rfl (.slice A n c) n (ptrs bs n) rfl (HR4.out.grow (qA _)) (.slice (some ⟨S,0,none⟩) 1 1) 1 [.pointer (some ⟨R.heap.size+1,0,none⟩)] rfl (Sl.lit1 (Blk.new S 133 #[.pointer (some ⟨R.heap.size+1,0,none⟩)]) rfl) (by simp[Value.oneCell']) (by have:=B.out;have:=HN.out;have:=C.out;omega) (by have:=B.out;have:=HN.out;have:=C.out;unfold maxLen;omega) ?_);intro A3 c3 Z ac E;have p:=(r.out.alloc (.cells #[.pointer (some ⟨R.heap.size+1,0,none⟩)] 133)).chg E HOH.out;have f1:=p.frozen 1;have z1:=p.cell 1;have HBZ:=hid p;have O:=hid ac;have HCZ:=hid E;clear p ac E)
  go_ret2
  obtain ⟨U,hU⟩:=nm (Z.setCell ⟨h,1,none⟩ (.slice A3 (n+1) c3));rw[←hU];refine ⟨by rw[←B.out,←HN.out];rfl,?_⟩;have aa:Chg (·=h) Z U:=by rw[hU];exact Chg.set Z ⟨h,1,none⟩ _
  have hlW:h<W.heap.size:=z.out.blk.lt;have F:=O.out.chgB aa (fun b hb e=>by
   rcases O.out.blk b hb with k|k
   ·have:=k.1;rw[e,z.out.top] at this;cases this
   ·have t:=HS4.out;rw[World.size_alloc] at k;omega)
  exact zrB (n:=n) z.out HAS.out HN.out (f.out.mono fun b _ e=>e.1) (N.out.mono fun b _ k=>k.elim (fun k=>.inl k) (fun k=>.inr (lT L.out.size k))) HB4.out HA4.out (by omega) lR
   (F.mono fun b _ k=>k.elim .inl (fun k=>.inr (by rw[World.size_alloc] at k;omega)))
   ((((Chg.refl _ S).grow (qA _)).step HCZ.out fun b _ e=>⟨.inl (d.out.blk b e).1,(d.out.blk b e).2⟩).step aa fun b _ e=>⟨.inr (e▸z.out.top),by omega⟩)
   (by rw[hU,P.out] at*;exact HBZ.out.set_ 1 _)
end Ho
namespace Vb
open Go.RowKit
theorem zkS (all:Nat):∀l:List Off,(∀o∈l,zdv all o=false)→zbZ all l=none
 |[],_=>rfl
 |o::l,h=>by simp[zbZ,h o (by simp),zkS all l (fun x hx=>h x (by simp[hx]))]
theorem zkT (all:Nat):∀(l:List Off) (k:Nat) (o:Off),l[k]? =some o→zdv all o=true→(∀j x,j<k→l[j]? =some x→zdv all x=false)→zbZ all l=some k
 |[],k,o,h,_,_=>by simp at h
 |x::l,0,o,h,hb,_=>by simp at h;subst h;simp[zbZ,hb]
 |x::l,k+1,o,h,hb,hn=>by
  have h0:=hn 0 x (by omega) rfl;have:=zkT all l k o (by simpa using h) hb (fun j y hj hy=>hn (j+1) y (by omega) (by simpa using hy))
  simp[zbZ,h0,this]
theorem zmg (a:Nat) (r:a<4294967296) (l:List Off) (v:Value) (R:Nat→Prop) (b:Nat) (w:World) (Q:zae w R v l) (M:w.cell? ⟨b,0,none⟩=some (.int .u32 a)):
  Calls Tryz.prog 316 #[v,.func (.func 314) #[] #[.pointer (some ⟨b,0,none⟩)]] w fun e w'=>e=.returned ↑(zge a l:Int)∧Below w w w':=by
 obtain ⟨⟨n,A,P,rfl,G,y,d⟩,H⟩:=Q;unfold maxLen at y;have X:l.length≤9223372036854775807:=by omega
 have D:=World.block_lt_of_cell? w _ M;have N:=hid d;have S:=hid n;clear d n;go_enter Tryz.func316,Tryz.ntmps316
 go_wp2
 go_loopw [8] (fun i wr=>∃k:Nat,k≤l.length∧i=.int .i64 k∧Below w w wr∧∀j x,j<k→l[j]? =some x→zdv a x=false) (fun i _=>l.length-(intOf i).toNat)
 case atStart=>exact ⟨0,zL,rfl,bR,fun j x F=>by omega⟩
 case round=>
  obtain ⟨k,V,rfl,m,z⟩:=hrel;have C:=hid z;clear z;by_cases hlt:k<l.length
  ·obtain ⟨L,B,rfl,_,t,p⟩:=N.out (by omega);have q:l[k]? =some l[k]:=gE hlt;obtain ⟨o,h⟩:=nm (l[k]);rw[←h] at q;have T:wr.cell? ⟨L,B+k*2,none⟩=some (.int .u32 o.g):=(m.cell t).trans (p _ _ (Off.all_fst l k o q));have U:wr.cell? ⟨L,B+k*2+1,none⟩=some ↑o.c:=(m.cell t).trans (p _ _ (Off.all_snd l k o q));have E:wr.cell? ⟨b,0,none⟩=some (.int .u32 a):=(m.cell D).trans M;have I:=H o (by rw[h];exact List.getElem_mem hlt);clear p;have K:=hid q;have O:=hid h;clear q h
   go_wp2_with (go_at_call 314;refine (zvt a r o I b _ E).mono ?_;rintro e Y ⟨rfl,s⟩)
   ·go_ret;refine ⟨zdr ?_,m.trans (s.mono m.size)⟩;have f:zdv a o=true:=by assumption
    unfold zge;rw[zkT a l k o K.out f C.out]
   ·have f:zdv a o=false:=by assumption
    go_roundw
    case rel=>
     refine ⟨k+1,by omega,by go_num,m.trans (s.mono m.size),fun j x F J=>?_⟩;by_cases hjk:j<k
     ·exact C.out j x hjk J
     ·obtain rfl:j=k:=by omega
      rw[K.out] at J
      cases J
      exact f
    case measure=>simp[intOf];omega
  ·go_wp2
   go_ret;refine ⟨zdr ?_,m⟩;unfold zge;rw[zkS a l (fun o q=>?_)];obtain ⟨j,F,rfl⟩:=List.getElem_of_mem q;exact C.out j _ (by omega) (gE F)
def zfb (n:Int) (l:List Off):Int:=if n<1∨10<n then 0 else if 8<l.length then 0 else match zbZ (2 ^ n.toNat-1) l with|some k=>k|none=>0
def zaA (n:Int) (l:List Off):Int:=if n<1∨10<n then 2 else if 8<l.length then 3 else match zbZ (2 ^ n.toNat-1) l with|some _=>180|none=>0
theorem zfc (n:Int) (l:List Off) (v:Value) (R:Nat→Prop) (w:World) (D:zae w R v l):
  Calls Tryz.prog 309 #[n,v] w fun e w'=>e=.returned (.tuple #[(zfb n l:Int),(zaA n l:Int)])∧Below w w w':=by
 have p:=D;obtain ⟨⟨q,A,E,rfl,x,o,b⟩,y⟩:=D;unfold maxLen at o;have C:=hid p;clear q b y p;by_cases hn:n<1∨10<n
 ·have g:zfb n l=0:=by unfold zfb;rw[if_pos hn]
  have f:zaA n l=2:=by unfold zaA;rw[if_pos hn]
  have d:=hid g;have c:=hid f;clear g f
  rcases hn with hn|hn
  all_goals
   go_enter Tryz.func309,Tryz.ntmps309
   go_wp2_with (go_at_call 313;refine (zeL n _).mono ?_;rintro e w' ⟨rfl,rfl⟩)
   all_goals go_ret2
   all_goals rw[d.out,c.out]
   all_goals exact ⟨rfl,qA _⟩
 ·have F:1≤n∧n≤10:=by omega
  have t:zhk n=0:=by unfold zhk;rw[if_neg (by omega)]
  have r:allOf n=2 ^ n.toNat-1:=by unfold allOf;rw[if_neg (by omega)]
  obtain ⟨G,H⟩:=F;obtain ⟨h,a⟩:=nm (allOf n);have j:=zhv n;rw[←a] at j r;have z:=hid r;have m:=hid a;by_cases h8:8<l.length
  ·have g:zfb n l=0:=by unfold zfb;rw[if_neg hn,if_pos h8]
   have f:zaA n l=3:=by unfold zaA;rw[if_neg hn,if_pos h8]
   have d:=hid g;have c:=hid f;clear g f r a hn;go_enter Tryz.func309,Tryz.ntmps309
   go_wp2_with (go_at_call 313;refine (zeL n _).mono ?_;rintro e w' ⟨rfl,rfl⟩;rw[t])
   go_ret2
   rw[d.out,c.out];exact ⟨rfl,qA _⟩
  ·have g:zfb n l=match zbZ h l with|some k=>(k:Int)|none=>0:=by unfold zfb;rw[if_neg hn,if_neg h8,←z.out]
   have f:zaA n l=match zbZ h l with|some _=>180|none=>0:=by unfold zaA;rw[if_neg hn,if_neg h8,←z.out]
   have d:=hid g;have c:=hid f;clear g f r hn;have B:=hid t;clear t a
   cases hb:zbZ h l with
   |none=>
    have s:zge h l=-1:=by unfold zge;rw[hb]
    rw[hb] at d c;clear hb;go_enter Tryz.func309,Tryz.ntmps309
    go_wp2_with (first|(go_at_call 313;refine (zeL n _).mono ?_;rintro e w' ⟨rfl,rfl⟩;rw[B.out,←m.out])|(go_at_call 316;refine (zmg h j l _ R w.heap.size _ (C.out.alloc _) (by simp)).mono ?_;rintro e I ⟨rfl,i⟩))
    go_ret2
    rw[d.out,c.out];exact ⟨rfl,(qA _).trans (i.mono (by simp))⟩
   |some k=>
    have s:zge h l=k:=by unfold zge;rw[hb]
    rw[hb] at d c;clear hb;go_enter Tryz.func309,Tryz.ntmps309
    go_wp2_with (first|(go_at_call 313;refine (zeL n _).mono ?_;rintro e w' ⟨rfl,rfl⟩;rw[B.out,←m.out])|(go_at_call 316;refine (zmg h j l _ R w.heap.size _ (C.out.alloc _) (by simp)).mono ?_;rintro e I ⟨rfl,i⟩))
    go_ret2
    rw[d.out,c.out];exact ⟨rfl,(qA _).trans (i.mono (by simp))⟩
def zaB (w:World) (R:Nat→Prop) (v:Value) (bs:List (List Off)):Prop:=
 ∃vs:List Value,Sl w R v bs.length 1 vs∧∀(k:Nat) (l:List Off),bs[k]? =some l→∃u,vs[k]? =some u∧zae w R u l
theorem zaB.grow {w w':World} {R:Nat→Prop} {v:Value} {bs:List (List Off)} (h:zaB w R v bs) (a:Below w w w'):zaB w' R v bs:=by
 obtain ⟨e,d,c⟩:=h;exact ⟨e,d.grow a,fun k l b=>let ⟨u,hu,hl⟩:=c k l b;⟨u,hu,hl.grow a⟩⟩
theorem zaB.drew {w:World} {R:Nat→Prop} {v:Value} {bs:List (List Off)} (h:zaB w R v bs):zaB w.drew R v bs:=h
theorem zaB.alloc {w:World} {R:Nat→Prop} {v:Value} {bs:List (List Off)} (h:zaB w R v bs) (o:Obj):zaB (w.alloc o) R v bs:=by
 obtain ⟨d,c,b⟩:=h;exact ⟨d,c.alloc o,fun k l a=>let ⟨u,hu,hl⟩:=b k l a;⟨u,hu,hl.alloc o⟩⟩
def zck (l:List Off):Bool:=decide (8<l.length)
def zd0:List (List Off)→Option Nat
 |[]=>none
 |l::bs=>if zck l then some 0 else (zd0 bs).map (·+1)
def zhl (bs:List (List Off)):Int:=match zd0 bs with|some k=>k|none=>-1
theorem zjv:∀bs:List (List Off),(∀l∈bs,zck l=false)→zd0 bs=none
 |[],_=>rfl
 |o::l,h=>by simp[zd0,h o (by simp),zjv l (fun x hx=>h x (by simp[hx]))]
theorem zjw:∀(bs:List (List Off)) (k:Nat) (l:List Off),bs[k]? =some l→zck l=true→(∀j x,j<k→bs[j]? =some x→zck x=false)→zd0 bs=some k
 |[],k,o,h,_,_=>by simp at h
 |x::l,0,o,h,hb,_=>by simp at h;subst h;simp[zd0,hb]
 |x::l,k+1,o,h,hb,hn=>by
  have h0:=hn 0 x (by omega) rfl;have:=zjw l k o (by simpa using h) hb (fun j y hj hy=>hn (j+1) y (by omega) (by simpa using hy))
  simp[zd0,h0,this]
theorem ztS (A:Option Addr) (n c:Nat) (w:World):
  Calls Tryz.prog 342 #[.slice A n c] w fun e w'=>e=.returned ↑(decide (8<n):Bool)∧w=w':=by
 go_enter Tryz.func342,Tryz.ntmps342
 go_wp2
 go_ret;exact ⟨zj1 (by rw[Bool.eq_iff_iff];simp;omega),rfl⟩
theorem zm0 (bs:List (List Off)) (v:Value) (R:Nat→Prop) (w:World) (E:zaB w R v bs):
  Calls Tryz.prog 344 #[v,.func (.func 342) #[] #[]] w fun e w'=>e=.returned ↑(zhl bs:Int)∧w=w':=by
 obtain ⟨M,⟨c,A,C,rfl,q,d,a⟩,m⟩:=E;unfold maxLen at d;have L:bs.length≤9223372036854775807:=by omega
 have z:=hid a;have H:=hid c;have B:=hid m;clear a c m;go_enter Tryz.func344,Tryz.ntmps344
 go_wp2
 go_loop [8] (fun i=>∃k:Nat,k≤bs.length∧i=.int .i64 k∧∀j x,j<k→bs[j]? =some x→zck x=false) (fun i=>bs.length-(intOf i).toNat)
 case atStart=>exact ⟨0,zL,rfl,fun j x p=>by omega⟩
 case round=>
  obtain ⟨k,K,rfl,g⟩:=hrel;have n:=hid g;clear g;by_cases hlt:k<bs.length
  ·obtain ⟨I,F,rfl,_,D,f⟩:=z.out (by omega);obtain ⟨l,h⟩:∃l,bs[k]? =some l:=⟨_,gE hlt⟩;obtain ⟨u,y,⟨_,G,t,rfl,_⟩,_⟩:=B.out k l h;have J:=f _ _ y;clear f y;have s:=hid h;clear h
   go_wp2_with (go_at_call 342;refine (ztS _ _ _ _).mono ?_;rintro e N ⟨rfl,rfl⟩)
   ·go_ret;have b:zck l=true:=by unfold zck;simp;assumption
    refine ⟨zdr ?_,rfl⟩;unfold zhl;rw[zjw bs k l s.out b n.out]
   ·have b:zck l=false:=by unfold zck;simp;omega
    go_round
    case rel=>
     refine ⟨k+1,by omega,by go_num,fun j x p r=>?_⟩;by_cases hjk:j<k
     ·exact n.out j x hjk r
     ·obtain rfl:j=k:=by omega
      rw[s.out] at r
      cases r
      exact b
    case measure=>simp[intOf];omega
  ·go_wp2
   go_ret;refine ⟨zdr ?_,rfl⟩;unfold zhl;rw[zjv bs (fun o h=>?_)];obtain ⟨j,p,rfl⟩:=List.getElem_of_mem h;exact n.out j _ (by omega) (gE p)
theorem zpT (bs:List (List Off)):decide (0≤zhl bs)=bs.any zck:=by
 have h:∀bs:List (List Off),(zd0 bs).isSome=bs.any zck:=by
  intro bs
  induction bs with
  |nil=>rfl
  |cons l bs ih=>by_cases h:zck l=true<;>simp[zd0,h,ih]
 rw[←h,Bool.eq_iff_iff];unfold zhl
 cases zd0 bs<;>simp
theorem zim (bs:List (List Off)) (v:Value) (R:Nat→Prop) (w:World) (b:zaB w R v bs):
  Calls Tryz.prog 343 #[v,.func (.func 342) #[] #[]] w fun e w'=>e=.returned ↑(bs.any zck:Bool)∧w=w':=by
 have a:=zpT bs;rw[←a];clear a;go_enter Tryz.func343,Tryz.ntmps343
 go_wp2_with (go_at_call 344;refine (zm0 bs v R _ b).mono ?_;rintro e c ⟨rfl,rfl⟩)
 go_ret;exact ⟨rfl,rfl⟩
def zde (n:Int):List (List Off)→Int
 |[]=>0
 |l::bs=>if zaA n l≠0 then zaA n l else zde n bs
def zak (n:Int) (bs:List (List Off)):Int:=if n<1∨10<n then 2 else if 32<bs.length∨bs.any zck=true then 3 else zde n bs
theorem zd6 (n:Int):∀bs:List (List Off),(∀l∈bs,zaA n l=0)→zde n bs=0
 |[],_=>rfl
 |o::l,h=>by simp[zde,h o (by simp),zd6 n l (fun x hx=>h x (by simp[hx]))]
theorem zhY (n:Int):∀(bs:List (List Off)) (k:Nat) (l:List Off),bs[k]? =some l→zaA n l≠0→(∀j x,j<k→bs[j]? =some x→zaA n x=0)→zde n bs=zaA n l
 |[],k,o,h,_,_=>by simp at h
 |x::l,0,o,h,hb,_=>by simp at h;subst h;simp[zde,hb]
 |x::l,k+1,o,h,hb,hn=>by
  have h0:=hn 0 x (by omega) rfl;have:=zhY n l k o (by simpa using h) hb (fun j y hj hy=>hn (j+1) y (by omega) (by simpa using hy))
  simp[zde,h0,this]
theorem zc7 (n:Int) (bs:List (List Off)) (v:Value) (R:Nat→Prop) (w:World) (H:zaB w R v bs):
  Calls Tryz.prog 339 #[.agg #[n,v]] w fun e w'=>e=.returned ↑(zak n bs:Int)∧Below w w w':=by
 obtain ⟨vs,⟨y,A,r,rfl,K,s,b⟩,D⟩:=id H;unfold maxLen at s;have Y:bs.length≤9223372036854775807:=by omega
 have N:=hid H;have S:=hid b;have T:=hid D;clear H b D y;by_cases hn:n<1∨10<n
 ·have d:zak n bs=2:=by unfold zak;rw[if_pos hn]
  have g:=hid d;clear d
  rcases hn with hn|hn
  all_goals
   go_enter Tryz.func339,Tryz.ntmps339
   go_wp2
   all_goals go_ret
   all_goals rw[g.out]
   all_goals exact ⟨rfl,qA _⟩
 ·by_cases h32:32<bs.length
  ·have d:zak n bs=3:=by unfold zak;rw[if_neg hn,if_pos (Or.inl h32)]
   have g:=hid d;clear d;have I:1≤n:=by omega
   have J:n≤10:=by omega
   clear hn;go_enter Tryz.func339,Tryz.ntmps339
   go_wp2
   all_goals go_ret
   all_goals rw[g.out]
   all_goals exact ⟨rfl,qA _⟩
  ·have I:1≤n:=by omega
   have J:n≤10:=by omega
   cases hany:bs.any zck with
   |true=>
    have d:zak n bs=3:=by unfold zak;rw[if_neg hn,if_pos (Or.inr hany)]
    have g:=hid d;clear d hn;go_enter Tryz.func339,Tryz.ntmps339
    go_wp2_with (go_at_call 343;refine (zim bs _ R _ (N.out.alloc _)).mono ?_;rintro e M ⟨rfl,rfl⟩)
    all_goals go_ret
    all_goals rw[g.out]
    all_goals exact ⟨rfl,qA _⟩
   |false=>
    have d:zak n bs=zde n bs:=by unfold zak;rw[if_neg hn,if_neg (by rw[hany];simp;omega)]
    have g:=hid d;clear d hn;go_enter Tryz.func339,Tryz.ntmps339
    go_wp2_with (go_at_call 343;refine (zim bs _ R _ (N.out.alloc _)).mono ?_;rintro e M ⟨rfl,rfl⟩)
    go_loopw [31] (fun i wr=>∃k:Nat,k≤bs.length∧i=.int .i64 k∧Below (w.heap.size+1) (w.alloc (.cells #[n,.slice A bs.length r] 286)) wr∧∀j x,j<k→bs[j]? =some x→zaA n x=0) (fun i _=>bs.length-(intOf i).toNat)
    case atStart=>exact ⟨0,zL,rfl,bR,fun j x G=>by omega⟩
    case round=>
     obtain ⟨k,hk,rfl,m,z⟩:=hrel;have E:=hid z;clear z;have c:Below w w wr:=(qA _).trans (m.mono (by omega));have U:wr.cell? ⟨w,0,none⟩=some ↑n:=qc m (by simp) (by simp);have V:wr.cell? ⟨w,1,none⟩=some (.slice A bs.length r):=qc m (by simp) (by simp);by_cases hlt:k<bs.length
     ·obtain ⟨bb,Z,rfl,_,F,t⟩:=S.out (by omega);obtain ⟨l,B⟩:∃l,bs[k]? =some l:=⟨_,gE hlt⟩;obtain ⟨u,Q,C⟩:=T.out k l B;have c0:=(c.cell F).trans (t _ _ Q);have q:=hid (C.grow c);obtain ⟨⟨_,A',P,rfl,_⟩,_⟩:=C;clear t Q;have O:=hid B;clear B;have p:=hid m;have a:=hid c;clear m c;by_cases hce:zaA n l=0
      ·have f:=hid hce;clear hce
       go_wp2_with (go_at_call 309;refine (zfc n l _ R _ q.out).mono ?_;rintro e M ⟨rfl,h⟩;rw[f.out])
       go_roundw
       case rel=>
        refine ⟨k+1,by omega,by go_num,p.out.trans (h.mono (by have:=p.out.size;simp at this;omega)),fun j x G L=>?_⟩;by_cases hjk:j<k
        ·exact E.out j x hjk L
        ·obtain rfl:j=k:=by omega
         rw[O.out] at L
         cases L
         exact f.out
       case measure=>simp[intOf];omega
      ·have X:(zaA n l !=0)=true:=by simpa using hce
       have f:=hid hce;clear hce
       go_wp2_with (go_at_call 309;refine (zfc n l _ R _ q.out).mono ?_;rintro e M ⟨rfl,h⟩)
       go_ret;refine ⟨zdr ?_,a.out.trans (h.mono a.out.size)⟩;rw[g.out,zhY n bs k l O.out f.out E.out]
     ·have a:=hid c;clear m c
      go_wp2
      go_ret;refine ⟨zdr ?_,a.out⟩;rw[g.out,zd6 n bs (fun o B=>?_)];obtain ⟨j,G,rfl⟩:=List.getElem_of_mem B;exact E.out j _ (by omega) (gE G)
theorem zrC:zbE Tryz.prog 34 106 2 16:=zbs Tryz.underlying34 (by omega) (z:=.agg #[.int .u32 0,()]) (by kernel_rfl) rfl
theorem zlJ:zbE Tryz.prog 284 34 1 24:=zbs Tryz.underlying284 (by omega) (z:=.slice none 0 0) (by kernel_rfl) rfl
theorem zin:zbE Tryz.prog 49 2 1 8:=zbs Tryz.underlying49 (by omega) (z:=.int .i64 0) (by kernel_rfl) rfl
theorem znB:zbE Tryz.prog 245 3 1 8:=zbs Tryz.underlying245 (by omega) (z:=.int .i64 0) (by kernel_rfl) rfl
theorem Off.all_one (l:List Off):∀u∈Off.all l,u.oneCell'=true:=by
 intro u b;simp only[Off.all,List.mem_flatMap] at b;obtain ⟨o,_,a⟩:=b
 simp[Off.cells] at a
 rcases a with rfl|rfl<;>rfl
theorem zgL (xs:List Value) (n:Nat) (v:Value) (R:Nat→Prop) (w:World) (j:Sl w R v n 2 xs) (p:∀u∈xs,u.oneCell'=true) (y:n*16≤140737488355328):
  Calls Tryz.prog 91 #[v] w fun e w'=>∃A' cap',e=.returned (.slice A' n cap')∧w'.ownsRow w.heap.size 106 2 (.slice A' n cap') n xs∧Below w w w':=by
 obtain ⟨f,A,i,rfl,k,m,d⟩:=id j;have l:=hid j;clear j d;have z:=fun (W:World) (a:Option Addr)=>Lib.run_eql_slice_nil (P:=Tryz.prog) W 34 106 a n i 0 0 Tryz.underlying34
 cases A with
 |none=>
  have s:n=0:=by
   obtain ⟨_,A,c,h,_,_,q⟩:=l.out;injection h with hA _ _
   subst hA
   rcases Nat.eq_zero_or_pos n with h0|h0
   ·exact h0
   ·obtain ⟨b,x,h,_⟩:=q h0
    cases h
  subst s;have t:xs=[]:=List.eq_nil_of_length_eq_zero (by simpa using f);subst t;go_enter Tryz.func91,Tryz.ntmps91
  go_wp2
  go_ret;exact ⟨none,0,rfl,World.ownsRow_nil _ _ _ _,bR⟩
 |some ad=>
  clear f;go_enter Tryz.func91,Tryz.ntmps91
  go_wp2_with (at_builtin;refine zbF _ rfl (.tmp 5) (.tmp 6) zrC rfl w.heap.size (.slice (some ⟨w,0,none⟩) 0 0) 0 [] rfl (World.ownsRow_lit w #[] 0 lR (zL) rfl) R _ n xs rfl (l.out.alloc _) p (by omega) (by unfold maxLen;omega) (by simp) ?_;intro A' cap' B g r o)
  go_ret;refine ⟨A',cap',by simp,by simpa using g,(qA _).grown r (by simp) (by simp[Value.ownBlock])⟩
end Vb
namespace Ho
open Go.RowKit Vb Ac
theorem Chg.setRow (W:World) (g:Nat) (cs:Array Value):Chg (·=g) W (W.setRow g cs):=⟨rfl,rfl,rfl,by simp,fun k _ hn=>setRow_other W g k cs hn⟩
theorem Blk.setRow {W:World} {g:Nat} {t:TypeId} {old:Array Value} (h:Blk W g t old) (cs:Array Value):Blk (W.setRow g cs) g t cs:=setRow_heap W g old cs t (0,0) h
theorem zjx {W:World} {R:Nat→Prop} (o:OrderR) {vo:Value} (hO:zae W R vo o.offers) (hn:o.offers.length≤1099511627776):Calls Tryz.prog 38 #[o.agg vo] W fun e W'=>
  ∃A c,e=.returned (o.agg (.slice A o.offers.length c))∧zae W' (fun b=>W.heap.size≤b) (.slice A o.offers.length c) o.offers∧Below W W W':=by
 have Z:=hid hO;have O:=hid hn;obtain ⟨j,l,g,a,v,⟨s,m,d,p,y,f,t,i,r,h,x⟩,q,n⟩:=o;simp only at Z O ⊢;simp only[OrderR.agg,OrderR.cells,LotR.cells,List.cons_append,List.nil_append];obtain ⟨T,C⟩:=nm ((W.alloc (.cells #[j,.string l,g,a,v,s,m,d,p,y,f,t,i,r,h,x,vo,n] 36)).alloc (.cells #[(),.string {data:=#[]},(),(),(),(),(),(),(),(),(),(),(),(),(),(),.slice none 0 0,()] 36));have J:Below W W T:=by rw[C];exact (qA _).alloc (by simp) _
 have hx:Blk T W 36 #[j,.string l,g,a,v,s,m,d,p,y,f,t,i,r,h,x,vo,n]:=by rw[C];exact (Blk.new W _ _).alloc _
 have hy:Blk T (W.heap.size+1) 36 #[(),.string {data:=#[]},(),(),(),(),(),(),(),(),(),(),(),(),(),(),.slice none 0 0,()]:=by rw[C];exact Blk.new' _ _ (by simp)
 have x16:T.cell? ⟨W,16,none⟩=some vo:=hx.cell 16;have G:=hid J;have HX:=hid hx;have HY:=hid hy;have aa:=hid (zae.grow Z.out J);clear hO hn J hx hy;go_enter Tryz.func38,Tryz.ntmps38;go_wp2_with fail
 rw[←C];clear C;refine (zgL (Off.all q) q.length vo R _ aa.out.1 (Off.all_one q) (by have:=O.out;omega)).mono ?_;rintro e U ⟨A,c,rfl,F,E⟩;have HOWN:=hid F;have I:=hid (HX.out.grow E);have ac:=hid (HY.out.grow E);have Y:=hid (G.out.trans (E.mono G.out.size));have x16:U.cell? ⟨W,16,none⟩=some vo:=I.out.cell 16;have f16:U.frozen? ⟨W,16,none⟩=false:=I.out.frozen 16;obtain ⟨X,D⟩:=nm (U.setCell ⟨W,16,none⟩ (.slice A q.length c));have M:Blk X W 36 #[j,.string l,g,a,v,s,m,d,p,y,f,t,i,r,h,x,(.slice A q.length c),n]:=by rw[D];exact I.out.set_ 16 _
 have K:Chg (·=W.heap.size) U X:=by rw[D];exact Chg.set U ⟨W,16,none⟩ _
 have N:=ac.out.chg K (by omega);have z:=hid K;have Q:=hid D;rw[D] at M N;have ab:=hid M;have S:=hid N;have H:=hid F;have P:=hid E.size;clear F E M K N D
 go_wp2_with (first
  |(refine wpList_load_row rfl 36 (.tmp 1) rfl W.heap.size rfl 36 #[j,.string l,g,a,v,s,m,d,p,y,f,t,i,r,h,x,(.slice A q.length c),n] (0,0) _ ab.out Tryz.underlying36 rfl (by kernel_rfl) ?_)
  |(refine wpList_store_row rfl 36 (.tmp 2) (.tmp 7) rfl (W.heap.size+1) #[j,.string l,g,a,v,s,m,d,p,y,f,t,i,r,h,x,(.slice A q.length c),n] rfl rfl 36 #[(),.string {data:=#[]},(),(),(),(),(),(),(),(),(),(),(),(),(),(),.slice none 0 0,()] S.out (by kernel_rfl) rfl (by simp[Value.oneCell']) ?_))
 rw[←Q.out];have V:Blk (X.setRow (W.heap.size+1) #[j,.string l,g,a,v,s,m,d,p,y,f,t,i,r,h,x,(.slice A q.length c),n]) (W.heap.size+1) 36 #[j,.string l,g,a,v,s,m,d,p,y,f,t,i,r,h,x,(.slice A q.length c),n]:=Blk.setRow (by have:=S.out;rwa [←Q.out] at this) _;have L:=Chg.setRow X (W.heap.size+1) #[j,.string l,g,a,v,s,m,d,p,y,f,t,i,r,h,x,(.slice A q.length c),n];have hsz:=G.out.size;have hs2:W.heap.size+1<T.heap.size:=HY.out.lt;refine bodyPost_ret (results_cell_row rfl _ _ (W.heap.size+1) 36 #[j,.string l,g,a,v,s,m,d,p,y,f,t,i,r,h,x,(.slice A q.length c),n] (0,0) _ rfl V Tryz.underlying36 rfl (by kernel_rfl)) rfl ⟨A,c,rfl,?_,?_⟩
 ·refine ⟨Sl.mono (R:=fun b=>(Value.slice A q.length c).ownBlock=some b) (Sl.keep (Sl.of_own H.out) (lT z.out.size L.size) fun b hb hr=>?_) (fun b _ hr=>lT hsz (H.out.lt b hr).1),Z.out.2⟩;have hle:=(H.out.lt b hr).1;rw[L.block b (lL hb z.out.size) (by omega)];exact z.out.block b hb (by omega)
 ·exact ((Y.out.trans (z.out.below (B:=W.heap.size) (by have:=P.out;omega) (fun k hk e=>by omega))).trans (L.below (B:=W.heap.size) (by have:=P.out;have:=z.out.size;omega) (fun k hk e=>by omega)))
theorem znC:zbE Tryz.prog 22 36 18 168:=zbs Tryz.underlying22 (by omega) (z:=.agg #[(),.string {data:=#[]},(),(),(),(),(),(),(),(),(),(),(),(),(),(),.slice none 0 0,()]) (by kernel_rfl) rfl
theorem zbm {P:Program} {o:Oper} {a:Act} {w:World} (b:TypeId) (x:Operand) (i:o.op=.load b x) (g:Nat) (k:a.eval x=.pointer (some ⟨g,0,none⟩)) (t:TypeId) (cs:Array Value) (c:Nat×Nat) (d:TypeDesc) (f:w.heap[g]? =some (.cells cs t c))
  (j:P.underlying b=some d) (e:(match d with| .struct _| .array _ _=>true|_=>false)=true) (h:(P.info? b).map (·.size)=some cs.size):(execOp a.eval o).run P w=.ok (.value (.agg cs)) w:=by
 unfold execOp;simp only[i,k,Instr.loadAt,Instr.sureAddr,Sem.run_bind,Sem.run_pure,Result.andThen_ok,run_loadVar_row w g t b cs c d f j e h]
theorem zjy {α β:Type} (l:List α) (x:α) (f:Nat→α→β):(l++[x]).mapIdx f=l.mapIdx f++[f l.length x]:=by simp
theorem zhZ {α β:Type} {l:List α} {f g:Nat→α→β} (h:∀i x,i<l.length→f i x=g i x):l.mapIdx f=l.mapIdx g:=by
 apply List.ext_getElem?
 intro i;simp only[List.getElem?_mapIdx];by_cases hi:i<l.length
 ·rw[gE hi];simp[h i _ hi]
 ·rw[List.getElem?_eq_none (by omega)];rfl
theorem zkU (os:List OrderR) (o:OrderR) (vo:Nat→Value) (v:Value):zaI (os++[o]) (fun k=>if k=os.length then v else vo k)=zaI os vo++o.cells v:=by
 unfold zaI;rw[zjy,List.flatten_append];simp only[if_true,List.flatten_cons,List.flatten_nil,List.append_nil]
 congr 2
 exact zhZ fun i x a=>by simp[show ¬i=os.length by omega]
theorem ztT {W j U:World} {T:Nat→Part} {h pn pc K n:Nat} {va vl vb vs v' C:Value} {H:House} {o:OrderR} {vo:Nat→Value} (m:HouseAt W T h pn pc va vl vb vs K H) (B:zcE W T vo (H.book.map (·.offers))) (A:n=H.book.length)
  (r:Below W W j) (s:zae j (fun b=>W.heap.size≤b) C o.offers)
  (c:RowAt U (fun b=>(T b=.book∧b<W.heap.size)∨j.heap.size≤b) 36 18 v' (n+1) (zaI H.book vo++o.cells C)) (q:Chg (fun b=>(T b=.book∨T b=.hs)∧b<W.heap.size) j U)
  (x:Blk U h 92 #[.pointer (some ⟨pn,0,none⟩),va,vl,.pointer (some ⟨pc,0,none⟩),v',vs]):∃T',zaf U T' h K {H with book:=H.book++[o]}∧Moves W T U T':=by
 obtain ⟨T',g⟩:=nm (fun b=>if b<W.heap.size then T b else if b<j.heap.size then .old else if b<U.heap.size then .book else .no:Nat→Part);have f:∀b,b<W.heap.size→T' b=T b:=fun b p=>by rw[g];simp[p]
 have F:=r.size;have G:=q.size;have a:Chg (fun b=>T b=.book∨T b=.hs) W U:=(Chg.of _ r).step q fun b _ e=>e.1;refine ⟨T',⟨pn,pc,va,vl,v',vs,?_⟩,a.mono fun b _ e=>?_,f⟩
 ·refine ⟨(f h m.blk.lt).trans m.top,x,m.names.step a (fun b e=>by rintro (k|k)<;>rw[e] at k<;>cases k) f,m.accs.step a (fun b e=>?_) f,m.lots.step a (fun b e=>?_) f,m.cal.step a (fun b e=>by rintro (k|k)<;>rw[e] at k<;>cases k) f,⟨fun k=>if k=n then C else vo k,?_,fun k l D=>?_⟩,m.sales.step a (fun b e=>by rintro (k|k)<;>rw[e] at k<;>cases k) f,fun b p=>?_⟩
  ·rcases e with e|⟨i,e⟩<;>rintro (k|k)<;>rw[e] at k<;>cases k
  ·rcases e with e|⟨i,e⟩|e<;>rintro (k|k)<;>rw[e] at k<;>cases k
  ·show RowAt U _ _ 18 v' (H.book++[o]).length (zaI (H.book++[o]) _)
   rw[A,zkU,List.length_append,List.length_singleton];rw[A] at c;refine ⟨c.own,fun b p=>?_⟩;have z:=c.lt p
   rcases c.blk b p with k|k
   ·exact (f b k.2).trans k.1
   ·rw[g];simp[show ¬b<W.heap.size by omega,show ¬b<j.heap.size by omega,z]
  ·by_cases e:k=n
   ·subst e;have E:l=o.offers:=by
     have:((H.book++[o]).map (·.offers))[k]? =some o.offers:=by simp[A]
     have d:((H.book++[o]).map (·.offers))[k]? =some l:=D;rw[this] at d;cases d;rfl
    subst E;simp only[if_true];refine zae.mono (zae.chg (zae.mono (R':=fun b=>W.heap.size≤b∧b<j.heap.size) s fun b p t=>⟨t,p⟩) q fun b _ t e=>by have:=e.2;omega) fun b _ t=>?_;rw[g];simp[show ¬b<W.heap.size by omega,t.2]
   ·simp only[if_neg e];have y:(H.book.map (·.offers))[k]? =some l:=by
     have d:((H.book++[o]).map (·.offers))[k]? =some l:=D;have v:=(gS.1 d).1;simp only[List.length_map,List.length_append,List.length_singleton] at v;rw[List.map_append,List.getElem?_append_left (by simp;omega)] at d;exact d
    have v:=zcE.step (T':=T') B a (fun b e=>by rintro (k|k)<;>rw[e] at k<;>cases k) f;exact v k l y
  ·rw[g];simp[show ¬b<W.heap.size by omega,show ¬b<j.heap.size by omega,show ¬b<U.heap.size by omega]
 ·rcases e with e|e<;>exact ⟨by rw[e];simp,by rw[e];simp⟩
theorem zcA {f:Nat→Nat} {n i:Nat} (h:i<n):(ptrs f n)[i]? =some (.pointer (some ⟨f i,0,none⟩)):=by simp[ptrs,h]
section
variable {W W':World} {T:Nat→Part} {h pn pc K K':Nat} {va vl vb vs:Value} {H:House}
theorem zpa {A:Option Addr} {n c:Nat} (c1:W.cell? ⟨h,1,none⟩=some (.slice A n c)) {x:Int} (a:x<0∨(n:Int)≤x):Calls Tryz.prog 60 #[.pointer (some ⟨h,0,none⟩),x] W fun e W'=>e=.returned (.tuple #[.pointer none,(4:Int)])∧W'=W:=by
 by_cases h0:x<0
 ·go_enter Tryz.func60,Tryz.ntmps60;go_wp2_with fail
  go_ret2
  exact ⟨rfl,rfl⟩
 ·have b:(n:Int)≤x:=a.resolve_left h0;clear a;go_enter Tryz.func60,Tryz.ntmps60;go_wp2_with fail
  go_ret2
  exact ⟨rfl,rfl⟩
theorem zio {R:Nat→Prop} {n i:Nat} {f:Nat→Nat} (c1:W.cell? ⟨h,1,none⟩=some va) (a:RowAt W R 133 1 va n (ptrs f n)) (c:i<n):Calls Tryz.prog 60 #[.pointer (some ⟨h,0,none⟩),i] W fun e W'=>e=.returned (.tuple #[.pointer (some ⟨f i,0,none⟩),()])∧W'=W:=by
 obtain ⟨q,b,rfl,_,_,_⟩:=a.ex (by omega);have j:W.cell? ⟨q,i,none⟩=some (.pointer (some ⟨f i,0,none⟩)):=(a.own.cellAt i (by omega)).trans (zcA c);have d:(0:Int)≤(i:Int):=by omega
 have g:(i:Int)<(n:Int):=by omega
 clear a;go_enter Tryz.func60,Tryz.ntmps60;go_wp2_with fail
 go_ret2
 exact ⟨rfl,rfl⟩
theorem zvC (g:zaf W T h K H) {i:Nat} {l:LotS} (f:H.lots[i]? =some l):Calls Tryz.prog 92 #[.pointer (some ⟨h,0,none⟩),i] W fun e W'=>(∃b,e=.returned (.tuple #[.pointer (some ⟨b,0,none⟩),()])∧za2 W T i b l)∧W'=W:=by
 have k:=hid g;obtain ⟨v,t,y,A,z,B,d⟩:=g;obtain ⟨n,a,c⟩:=d.lots;have j:=(gS.1 f).1;have p:=d.cells.2.2.1;obtain ⟨q,o,rfl,_,_,_⟩:=a.ex (by omega);have x:W.cell? ⟨q,i,none⟩=some (.pointer (some ⟨n i,0,none⟩)):=(a.own.cellAt i (by omega)).trans (zcA j);have r:(0:Int)≤(i:Int):=by omega
 have s:(i:Int)<(H.lots.length:Int):=by omega
 have m:=hid (c i l f);clear d a c f j;go_enter Tryz.func92,Tryz.ntmps92;go_wp2_with fail
 refine (zbL k.out).mono ?_;rintro e C ⟨rfl,rfl⟩;go_wp2_with fail
 go_ret2
 exact ⟨⟨_,rfl,m.out⟩,rfl⟩
theorem zgh {acs:List Acc} {c h:Nat→Nat} (g:RowAt W (fun b=>T b=.accs) 133 1 va acs.length (ptrs c acs.length)) (d:∀i a,acs[i]? =some a→AccAt W (c i) (h i) K a∧T (c i)=.acc i∧T (h i)=.acc i)
  {i:Nat} {a:Acc} (r:i<acs.length) (v:K≤K') (y:AccAt W' (c i) (h i) K' a) (q:Chg (fun b=>T b=.acc i) W W'):zcs W' T va K' (acs.set i a):=by
 refine ⟨c,h,?_,fun j x f=>?_⟩
 ·rw[List.length_set];exact g.chg q fun b _ s n=>by rw[s] at n;cases n
 ·rw[List.getElem?_set] at f;by_cases e:i=j
  ·subst e;rw[if_pos rfl,if_pos r] at f
   cases f
   obtain ⟨l,m⟩:∃l,acs[i]? =some l:=⟨_,gE r⟩;exact ⟨y,(d i l m).2⟩
  ·rw[if_neg e] at f;obtain ⟨t,o,p⟩:=d j x f;exact ⟨(t.chg q (fun k=>by rw[o] at k;cases k;exact e rfl) (fun k=>by rw[p] at k;cases k;exact e rfl)).mono v,o,p⟩
theorem zfG (a:HouseAt W T h pn pc va vl vb vs K H) {acs:List Acc} (d:zcs W' T va K' acs) (c:Chg (fun b=>∃i,T b=.acc i) W W'):HouseAt W' T h pn pc va vl vb vs K' {H with accs:=acs}:=by
 refine ⟨a.top,a.blk.chg c (fun ⟨i,k⟩=>by rw[a.top] at k;cases k),a.names.step c (fun b e=>by rintro ⟨i,k⟩;rw[e] at k;cases k) (fun _ _=>rfl),d,a.lots.step c (fun b e=>?_) (fun _ _=>rfl),
  a.cal.step c (fun b e=>by rintro ⟨i,k⟩;rw[e] at k;cases k) (fun _ _=>rfl),a.book.step c (fun b e=>?_) (fun _ _=>rfl),a.sales.step c (fun b e=>by rintro ⟨i,k⟩;rw[e] at k;cases k) (fun _ _=>rfl),fun b f=>a.out b (lT c.size f)⟩
 ·rcases e with e|⟨i,e⟩|e<;>rintro ⟨i,k⟩<;>rw[e] at k<;>cases k
 ·rcases e with e|e<;>rintro ⟨i,k⟩<;>rw[e] at k<;>cases k
end
def zcF (n:Nat) (acs:List Acc) (s:Stand):List Acc:=acs.modify s.bidder.toNat fun a=>a.set n 0
def zbC (n:Nat) (acs:List Acc) (ss:List Stand):List Acc:=ss.foldl (zcF n) acs
def takeA (a:Acc) (v:Int):Acc:=if a.takeE v=0 then a.take v else a
def zdo (acs:List Acc) (s:SaleR):List Acc:=acs.modify s.bidder.toNat fun a=>takeA a s.coins
def zbU (acs:List Acc) (ss:List SaleR):List Acc:=ss.foldl zdo acs
def zgi (H:House) (n:Nat) (s:SaleR):SaleR:={s with number:=H.book.length,lot:=n,tick:=H.now}
def zc8 (H:House) (n:Nat) (l:LotS) (sales:List SaleR):House:=
 {H with accs:=zbU (zbC n H.accs l.stands) sales,sales:=H.sales++sales.map (zgi H n),lots:=H.lots.set n {l with closed:=true,stands:=[]}}
theorem zpU (n:Nat) (acs:List Acc) (s:Stand):(zcF n acs s).length=acs.length:=by simp[zcF]
theorem zet (n:Nat) (ss:List Stand):∀acs:List Acc,(zbC n acs ss).length=acs.length:=by
 induction ss with
 |nil=>intro acs;rfl
 |cons s ss ih=>intro acs;exact (ih _).trans (zpU n acs s)
theorem zfH (ss:List SaleR):∀acs:List Acc,(zbU acs ss).length=acs.length:=by
 induction ss with
 |nil=>intro acs;rfl
 |cons s ss ih=>intro acs;exact (ih _).trans (by simp[zdo])
theorem zoC (n:Nat) (acs:List Acc) (ss:List Stand) (s:Stand):zbC n acs (ss++[s])=zcF n (zbC n acs ss) s:=by simp[zbC]
theorem zoD (acs:List Acc) (ss:List SaleR) (s:SaleR):zbU acs (ss++[s])=zdo (zbU acs ss) s:=by simp[zbU]
theorem zbP {α:Type} {l:List α} {i:Nat} {a:α} (f:α→α) (h:l[i]? =some a):l.modify i f=l.set i (f a):=by
 apply List.ext_getElem?
 intro j;have b:=(gS.1 h).1;rw[List.getElem?_modify,List.getElem?_set];by_cases e:i=j
 ·subst e;rw[gE b] at h;injection h with h
  simp[b,h]
 ·simp[e]
theorem zaw {α:Type} {l:List α} {k:Nat} {x:α} (h:l[k]? =some x):l.take (k+1)=l.take k++[x]:=by rw[List.take_add_one,h];rfl
def zba (acs:List Acc):Prop:=∀a∈acs,a.Ok∧a.Fine
theorem zba.set {acs:List Acc} (h:zba acs) {i:Nat} {a:Acc} (ha:a.Ok∧a.Fine):zba (acs.set i a):=fun x hx=>by
 rcases List.mem_or_eq_of_mem_set hx with h1|h1
 ·exact h x h1
 ·rw[h1];exact ha
theorem zfd {n:Nat} (hn:(n:Int)≤9223372036854775807):∀(ss:List Stand) (acs:List Acc),zba acs→zba (zbC n acs ss)
 |[],_,h=>h
 |s::ss,acs,h=>by
  refine zfd hn ss _ ?_;unfold zcF
  cases hs:acs[s.bidder.toNat]? with
  |none=>rw[List.modify_eq_self (by rw[List.getElem?_eq_none_iff] at hs;exact hs)];exact h
  |some a=>
   rw[zbP _ hs];have ha:=h a (mG hs);exact h.set (zft ha.1 ha.2 (by omega) hn)
theorem ztU {a:Acc} (h:a.Ok∧a.Fine) (v:Int):(takeA a v).Ok∧(takeA a v).Fine:=by
 unfold takeA
 split
 ·exact zpP h.1 h.2 (by assumption)
 ·exact h
theorem zgM:∀(ss:List SaleR) (acs:List Acc),zba acs→zba (zbU acs ss)
 |[],_,h=>h
 |s::ss,acs,h=>by
  refine zgM ss _ ?_;unfold zdo
  cases hs:acs[s.bidder.toNat]? with
  |none=>rw[List.modify_eq_self (by rw[List.getElem?_eq_none_iff] at hs;exact hs)];exact h
  |some a=>
   rw[zbP _ hs];exact h.set (ztU (h a (mG hs)) _)
theorem flat_get {n:Nat}:∀{xs:List (List Value)} {k i:Nat} {x:List Value},(∀y∈xs,y.length=n)→xs[k]? =some x→i<n→xs.flatten[k*n+i]? =x[i]?
 |[],_,_,_,_,h,_=>by simp at h
 |y::ys,0,i,x,hl,h,hi=>by
  obtain rfl:y=x:=by simpa using h
  rw[List.flatten_cons,List.getElem?_append_left (by have:=hl y (.head _);omega)]
  congr 1;omega
 |y::ys,k+1,i,x,hl,h,hi=>by
  have a:=hl y (.head _);rw[List.flatten_cons,List.getElem?_append_right (by rw[a,Nat.succ_mul];omega),show (k+1)*n+i-y.length=k*n+i by rw[a,Nat.succ_mul];omega];exact flat_get (fun z b=>hl z (.tail _ b)) (by simpa using h) hi
theorem zeu {α:Type} {l:List α} {f:Nat→α→List Value} {n:Nat} (h:∀i x,(f i x).length=n):∀y∈l.mapIdx f,y.length=n:=fun y hy=>by
 obtain ⟨i,hi,rfl⟩:=List.mem_mapIdx.1 hy;exact h _ _
theorem zdp {ss:List Stand} {vo:Nat→Value} {k i:Nat} {s:Stand} (hk:ss[k]? =some s) (hi:i<3):(zaN ss vo)[k*3+i]? =(s.cells (vo k))[i]? :=
 flat_get (zeu fun _ _=>rfl) (by rw[List.getElem?_mapIdx,hk];rfl) hi
theorem ziq {ss:List SaleR} {k i:Nat} {s:SaleR} (b:ss[k]? =some s) (a:i<7):(ss.flatMap SaleR.cells)[k*7+i]? =s.cells[i]? :=by
 rw[List.flatMap_def];exact flat_get (fun y c=>by obtain ⟨x,_,rfl⟩:=List.mem_map.1 c;rfl) (by rw[List.getElem?_map,b];rfl) a
section
variable {W W' U:World} {T T':Nat→Part} {h pn pc K:Nat} {va vl vb vs v v':Value} {H:House}
theorem zaG.at_ {R:Nat→Prop} {ss:List Stand} (j:zaG W T R v ss) {k:Nat} {s:Stand} (a:ss[k]? =some s):
  ∃q cap uA uc,v=.slice (some ⟨q,0,none⟩) ss.length cap∧R q∧q<W.heap.size∧W.cell? ⟨q,k*3,none⟩=some ↑s.bidder∧W.cell? ⟨q,k*3+1,none⟩=some (.slice uA s.offers.length uc)∧W.cell? ⟨q,k*3+2,none⟩=some ↑s.held∧zae W (fun b=>T b=.old) (.slice uA s.offers.length uc) s.offers:=by
 obtain ⟨m,c,f⟩:=j;have l:=(gS.1 a).1;obtain ⟨q,cap,rfl,g,h,_⟩:=c.ex (by omega);have d:=f k s.offers (by rw[List.getElem?_map,a];rfl);obtain ⟨⟨_,uA,uc,e,_⟩,_⟩:=id d;rw[e] at d;refine ⟨q,cap,uA,uc,rfl,g,h,?_,?_,?_,d⟩
 ·exact (c.own.cellAt (k*3) (by omega)).trans (zdp (i:=0) a (by omega))
 ·refine (c.own.cellAt (k*3+1) (by omega)).trans ((zdp (i:=1) a (by omega)).trans ?_);rw[e];rfl
 ·exact (c.own.cellAt (k*3+2) (by omega)).trans (zdp (i:=2) a (by omega))
theorem zrD (f:HouseAt W T h pn pc va vl vb vs K H) {s:SaleR} (c:RowAt U (fun b=>T b=.sales∨W.heap.size≤b) 44 7 v' (H.sales.length+1) (H.sales.flatMap SaleR.cells++s.cells)) (a:Chg (fun b=>T b=.sales∨T b=.hs) W U)
  (l:Blk U h 92 #[.pointer (some ⟨pn,0,none⟩),va,vl,.pointer (some ⟨pc,0,none⟩),vb,v']):∃T',HouseAt U T' h pn pc va vl vb v' K {H with sales:=H.sales++[s]}∧Moves W T U T':=by
 obtain ⟨T',g⟩:=nm (fun b=>if b<W.heap.size then T b else if b<U.heap.size then .sales else .no:Nat→Part);have d:∀b,b<W.heap.size→T' b=T b:=fun b j=>by rw[g];simp[j]
 have n:=a.size;refine ⟨T',?_,a.mono fun b _ e=>?_,d⟩
 ·refine ⟨(d h f.blk.lt).trans f.top,l,f.names.step a (fun b e=>by rintro (k|k)<;>rw[e] at k<;>cases k) d,f.accs.step a (fun b e=>?_) d,f.lots.step a (fun b e=>?_) d,f.cal.step a (fun b e=>by rintro (k|k)<;>rw[e] at k<;>cases k) d,f.book.step a (fun b e=>?_) d,?_,fun b j=>?_⟩
  ·rcases e with e|⟨i,e⟩<;>rintro (k|k)<;>rw[e] at k<;>cases k
  ·rcases e with e|⟨i,e⟩|e<;>rintro (k|k)<;>rw[e] at k<;>cases k
  ·rcases e with e|e<;>rintro (k|k)<;>rw[e] at k<;>cases k
  ·show RowAt U _ _ 7 v' (H.sales++[s]).length ((H.sales++[s]).flatMap SaleR.cells)
   rw[List.length_append,List.length_singleton,List.flatMap_append,List.flatMap_singleton];refine ⟨c.own,fun b j=>?_⟩;have m:=c.lt j;by_cases hbW:b<W.heap.size
   ·rw[d b hbW];exact (c.blk b j).resolve_right (by omega)
   ·rw[g];simp[hbW,m]
  ·rw[g];simp[show ¬b<W.heap.size by omega,show ¬b<U.heap.size by omega]
 ·rcases e with e|e<;>exact ⟨by rw[e];simp,by rw[e];simp⟩
theorem zfe (c:HouseAt W T h pn pc va vl vb vs K H) {bl:Nat→Nat} (p:RowAt W (fun b=>T b=.lots) 135 1 vl H.lots.length (ptrs bl H.lots.length)) (q:∀n l,H.lots[n]? =some l→za2 W T n (bl n) l)
  {j:Nat} (t:j<H.lots.length) {l:LotS} (v:za2 U T' j (bl j) l) (g:Chg (fun b=>T b=.lot j) W U) (f:∀b,b<W.heap.size→T' b=T b) (o:∀b,U.heap.size≤b→T' b=.no):
  HouseAt U T' h pn pc va vl vb vs K {H with lots:=H.lots.set j l}:=by
 have d:∀b P,T b=P→P≠ .lot j→¬T b=.lot j:=fun b P m r s=>r (m.symm.trans s);refine ⟨(f h c.blk.lt).trans c.top,c.blk.chg g (d h _ c.top (by simp)),c.names.step g (fun b e=>d b _ e (by simp)) f,c.accs.step g (fun b e=>?_) f,⟨bl,?_,fun n x a=>?_⟩,c.cal.step g (fun b e=>d b _ e (by simp)) f,c.book.step g (fun b e=>?_) f,c.sales.step g (fun b e=>d b _ e (by simp)) f,o⟩
 ·rcases e with e|⟨i,e⟩<;>exact d b _ e (by simp)
 ·show RowAt U _ _ 1 vl (H.lots.set j l).length (ptrs bl (H.lots.set j l).length)
  rw[List.length_set];exact RowAt.step p g (fun b e=>d b _ e (by simp)) f
 ·rw[List.getElem?_set] at a;by_cases e:j=n
  ·subst e;rw[if_pos rfl,if_pos t] at a
   cases a
   exact v
  ·rw[if_neg e] at a;refine (q n x a).step g (fun b m=>?_) f
   rcases m with m|m
   ·exact d b _ m (by simpa using fun k=>e k.symm)
   ·exact d b _ m (by simp)
 ·rcases e with e|e<;>exact d b _ e (by simp)
end
end Ho
namespace Ho
open Go.RowKit Go.Lib Vb Ac
def zgj (cs:Array Value):Nat→List Value→Array Value
 |_,[]=>cs
 |o,v::r=>zgj (cs.setIfInBounds o v) (o+1) r
theorem zff:∀(vs:List Value) (cs:Array Value) (o:Nat),(zgj cs o vs).size=cs.size
 |[],_,_=>rfl
 |v::r,cs,o=>(zff r _ _).trans (by simp)
theorem zj8:∀(vs:List Value) (cs:Array Value) (o k:Nat),o+vs.length≤cs.size→(zgj cs o vs)[k]? =if o≤k∧k<o+vs.length then vs[k-o]? else cs[k]?
 |[],cs,o,k,_=>by rw[if_neg (by simp only[List.length_nil];omega)];rfl
 |v::r,cs,o,k,h=>by
  simp only[List.length_cons] at h ⊢
  show (zgj (cs.setIfInBounds o v) (o+1) r)[k]? =_
  rw[zj8 r _ _ k (by simp;omega)];by_cases h1:o+1≤k∧k<o+1+r.length
  ·rw[if_pos h1,if_pos (by omega),show k-o=(k-(o+1))+1 by omega];simp
  ·rw[if_neg h1,Array.getElem?_setIfInBounds];by_cases h2:o=k
   ·subst h2;rw[if_pos rfl,if_pos (by omega),if_pos (by omega)];simp
   ·rw[if_neg h2,if_neg (by omega)]
theorem zgk {q:Nat} {t:TypeId}:∀(vs:List Value) {W:World} {cs:Array Value} (o:Nat),Blk W q t cs→Blk (W.setCells q o vs) q t (zgj cs o vs)
 |[],_,_,_,h=>h
 |v::r,_,_,o,h=>zgk r (o+1) (h.set_ o v)
theorem zgl (q:Nat):∀(vs:List Value) (W:World) (o:Nat),Chg (·=q) W (W.setCells q o vs)
 |[],W,_=>Chg.refl _ W
 |v::r,W,o=>(Chg.set W ⟨q,o,none⟩ v).trans (zgl q r _ (o+1))
theorem zm1 {P:Program} (w:World) (t e p:TypeId) (z:Value) (m:P.underlying t=some (.slice e)) (n:∀w,(zeroValue e).run P w=.ok z w) (d:∀u∈z.cells.toList,u.oneCell'=true) (b o c:Nat)
  (g:∀j,j<z.cells.size→(w.cell? ⟨b,o+j,none⟩).isSome=true) (h:∀j,j<z.cells.size→w.frozen? ⟨b,o+j,none⟩=false):
  (Builtin.clear_ #[t] p #[.slice (some ⟨b,o,none⟩) 1 c]).run P w=.ok (.tuple #[]) (w.setCells b o z.cells.toList):=by
 have f:(Builtin.zeroCells z.cells 1).toList=z.cells.toList:=by
  simp[Builtin.zeroCells]
  apply List.ext_getElem
  ·simp
  ·intro i d q;have l:i % z.cells.size=i:=Nat.mod_eq_of_lt (by simpa using d);have k:i<z.cells.size:=by simpa using d
   simp[l,k]
 have a:=run_storeCells_cells (P:=P) b o z.cells.toList 0 w (by simpa using g) (by simpa using h) d;simp only[Nat.add_zero] at a
 simp[Builtin.clear_,run_underlying m,n,f,a]
abbrev zSt:Value:=.agg #[.int .i64 0,.slice none 0 0,.int .i64 0]
theorem zvD (w:World):(zeroValue 103).run Tryz.prog w=.ok zSt w:=Tryz.zeroValue103 w
theorem ztV {W:World} {R:Nat→Prop} {q n c i j:Nat} {xs:List Value} (h:RowAt W R 103 3 (.slice (some ⟨q,0,none⟩) n c) n xs) (hi:i<n) (D:j=i+1) (h1:∀u∈xs,u.oneCell'=true):
  Calls Tryz.prog 87 #[.slice (some ⟨q,0,none⟩) n c,i,j] W fun e W'=>e=.returned (.slice (some ⟨q,0,none⟩) (n-1) c)∧
   RowAt W' R 103 3 (.slice (some ⟨q,0,none⟩) (n-1) c) (n-1) (xs.take (i*3)++xs.drop (i*3+3))∧Chg (·=q) W W':=by
 obtain ⟨x,J⟩:=h.own
 rcases J with ⟨hv,_⟩|⟨g,cap',cur,hv,_,hg,hnc,hcm,r,s⟩
 ·cases hv
 injection hv with e1 e2 e3
 injection e1 with e1
 injection e1 with e1
 subst e1 e3;clear e2;have l:Blk W q 103 cur:=hg;obtain ⟨i0,X,hz0,Z,hz2⟩:=info_parts (P:=Tryz.prog) (e:=103) (z:=zSt) (size:=3) (bytes:=40) (by kernel_rfl);obtain ⟨a,d⟩:=nm (xs.drop (i*3+3));have B:a.length=(n-j)*3:=by rw[d,List.length_drop];omega
 have f:∀k,k<n*3→W.cell? ⟨q,k,none⟩=xs[k]? :=fun k E=>h.own.cellAt k E;obtain ⟨A,hA,L⟩:∃A:Addr,(if c=j then (some ⟨q,0,none⟩:Option Addr) else some ⟨q,j*3,none⟩)=some A∧Hid (∀t u,a[t]? =some u→W.drew.cell? (A.add t)=some u):=by
  by_cases hcp:c=j
  ·refine ⟨⟨q,0,none⟩,by simp[hcp],fun t u C=>?_⟩;have:=(gS.1 C).1
   omega
  ·refine ⟨⟨q,j*3,none⟩,by simp[hcp],fun t u C=>?_⟩;have ht:=(gS.1 C).1;rw[Addr.add_lit];refine (f _ (by omega)).trans ?_;rw[d,List.getElem?_drop] at C;rw[←C];congr 1;omega
 have s2:Hid (∀u∈a,u.oneCell'=true):=by rw[d];exact fun u C=>h1 u (List.mem_of_mem_drop C)
 have v:∀k,k<c*3→(W.cell? ⟨q,k,none⟩).isSome=true:=fun k E=>by
  rw[l.cell k,Array.getElem?_eq_getElem (by omega)];rfl
 have s3:Hid (∀t,t<a.length→(W.drew.cell? ⟨q,0+i*3+t,none⟩).isSome=true∧W.drew.frozen? ⟨q,0+i*3+t,none⟩=false):=fun t ht=>⟨v _ (by omega),l.frozen _⟩;obtain ⟨F,o⟩:=nm (W.drew.setCells q (0+i*3) a);have m:Blk F q 103 (zgj cur (i*3) a):=by rw[o,Nat.zero_add];exact zgk a (i*3) (Blk.grow l bR.drew)
 have H:Chg (·=q) W F:=by rw[o];exact ((Chg.refl _ W).grow bR.drew).trans (zgl _ _ _ _)
 obtain ⟨U,p⟩:=nm (F.setCells q ((i+(n-j))*3) zSt.cells.toList);have G:Blk U q 103 (zgj (zgj cur (i*3) a) ((n-1)*3) zSt.cells.toList):=by rw[p,show (i+(n-j))*3=(n-1)*3 by omega];exact zgk _ _ m
 have I:Chg (·=q) W U:=by rw[p];exact H.trans (zgl _ _ _ _)
 have hcl:∀ty,(Builtin.clear_ #[99] ty #[.slice (some ⟨q,(i+(n-j))*3,none⟩) (n-(i+(n-j))) (c-(i+(n-j)))]).run Tryz.prog F=.ok (.tuple #[]) U:=fun ty=>by
  rw[p,show n-(i+(n-j))=1 by omega];refine zm1 F _ _ ty zSt Tryz.underlying99 zvD (show ∀u∈[Value.int .i64 0,.slice none 0 0,.int .i64 0],u.oneCell'=true by simp[Value.oneCell']) q _ _ (fun j D=>?_) fun j _=>m.frozen _;have D:j<3:=D;rw[m.cell,Array.getElem?_eq_getElem (by rw[zff];omega)];rfl
 have M:=hid G;have N:=hid I;have HN:=hid B;have T:=hid o;have HH:=hid h;have Q:=hid d;have O:=hid r;have S:=hid s;have hic:i≤c:=by omega
 have hjc:j≤c:=by omega
 have hne:¬i=j:=by omega
 have hij:i≤j:=by omega
 have hjn:j≤n:=by omega
 have HJ:=hid D;clear G I B o h d r s H p m f v l h1 hg x D;go_enter Tryz.func87,Tryz.ntmps87;go_wp2_with fail
 refine zad (Below W W) [6,7] (by kernel_rfl) (bR.drew) (fun y=>?_);refine tpD [2,6,7] 0 y ?_;refine tpD [2,6,7] 1 y ?_;refine tp 2 y ?_;refine tpD [5,6,7] 3 y ?_;refine tpD [5,6,7] 4 y ?_;refine tp 5 y ?_;refine stf 6 fun K hK=>?_;refine step_append_room rfl (.tmp 22) (.tmp 25) 99 rfl 103 i0 3 Tryz.underlying99 X Z q 0 i c (by simp[Act.eval]) A (n-j) (c-j) a (by simp[Act.eval]) HN.out L.out s2.out (by omega) s3.out ?_;rw[←T.out];refine hK.out _ _ ?_;clear hK K
 try simp only[Act.put,pb,pz,ps]
 refine tpW 7 ?_;refine zac (by kernel_rfl) ?_ _;clear y;go_wp2_with fail
 go_ret;have D:=HJ.out;have r:=O.out;have s:=S.out;have B:=HN.out;have Y:=Q.out;have x:=HH.out.len;refine ⟨by rw[show i+(n-j)=n-1 by omega];rfl,⟨⟨?_,.inr ⟨q,c,_,rfl,zL,M.out,by omega,hcm,?_,?_⟩⟩,fun b hb=>HH.out.blk b hb⟩,N.out⟩
 ·rw[List.length_append,List.length_take,List.length_drop];omega
 ·rw[zff,zff];exact r
 ·apply List.ext_getElem?
  intro k;have aa:zSt.cells.toList.length=3:=rfl;have V:∀k,k<(n-1)*3→(zgj (zgj cur (i*3) a) ((n-1)*3) zSt.cells.toList)[k]? =(zgj cur (i*3) a)[k]? :=fun k E=>by
   rw[zj8 _ _ _ k (by rw[zff,aa];omega),if_neg (by omega)]
  by_cases E:k<(n-1)*3
  ·rw[List.getElem?_take,if_pos E,Array.getElem?_toList,V k E,zj8 _ _ _ k (by omega)];by_cases hk2:k<i*3
   ·rw[if_neg (by omega),List.getElem?_append_left (by rw[List.length_take];omega),List.getElem?_take,if_pos hk2,←s,List.getElem?_take,if_pos (by omega),Array.getElem?_toList]
   ·rw[if_pos (by omega),List.getElem?_append_right (by rw[List.length_take];omega),List.length_take,Y]
    congr 1;omega
  ·rw[List.getElem?_eq_none (by rw[List.length_take];omega),List.getElem?_eq_none (by rw[List.length_append,List.length_take,List.length_drop];omega)]
end Ho
namespace Ho
open Go.RowKit Vb Ac
def zbb (b:Int):List Stand→Option Nat
 |[]=>none
 |s::l=>if s.bidder=b then some 0 else (zbb b l).map (·+1)
def zct (b:Int) (l:List Stand):Int:=match zbb b l with|some k=>k|none=>-1
theorem zjz {b:Int}:∀{l:List Stand} {k:Nat} {s:Stand},l[k]? =some s→s.bidder=b→(∀j x,j<k→l[j]? =some x→¬x.bidder=b)→zbb b l=some k
 |[],k,s,h,_,_=>by simp at h
 |x::l,0,s,h,hb,_=>by simp at h;subst h;simp[zbb,hb]
 |x::l,k+1,s,h,hb,hn=>by
  have h0:=hn 0 x (by omega) rfl;have:=zjz (l:=l) (k:=k) (by simpa using h) hb (fun j y hj hy=>hn (j+1) y (by omega) (by simpa using hy))
  simp[zbb,h0,this]
theorem zjA {b:Int}:∀{l:List Stand},(∀(j:Nat) (x:Stand),l[j]? =some x→¬x.bidder=b)→zbb b l=none
 |[],_=>rfl
 |x::l,h=>by
  have h0:=h 0 x rfl
  simp[zbb,h0,zjA (fun j y hy=>h (j+1) y (by simpa using hy))]
theorem zeg {b:Int}:∀{l:List Stand} {k:Nat},zbb b l=some k→∃s,l[k]? =some s∧s.bidder=b∧∀j x,j<k→l[j]? =some x→¬x.bidder=b
 |[],k,h=>by simp[zbb] at h
 |x::l,k,h=>by
  unfold zbb at h
  split at h
  ·cases h
   exact ⟨x,rfl,by assumption,fun j y hj=>by omega⟩
  ·rename_i hx
   obtain ⟨m,hm,rfl⟩:=Option.map_eq_some_iff.1 h;obtain ⟨s,h1,h2,h3⟩:=zeg hm;refine ⟨s,by simpa using h1,h2,fun j y hj hy=>?_⟩
   rcases j with _|j
   ·simp at hy;subst hy;exact hx
   ·exact h3 j y (by omega) (by simpa using hy)
theorem zkV (x d y:Int) (A:Option Addr) (n c g:Nat) (w:World) (a:w.cell? ⟨g,0,none⟩=some ↑y):
  Calls Tryz.prog 128 #[.agg #[x,.slice A n c,d],.pointer (some ⟨g,0,none⟩)] w fun e w'=>e=.returned ↑(decide (x=y):Bool)∧Below w w w':=by
 have b:=World.block_lt_of_cell? w _ a;have f:(w.alloc (.cells #[x,.slice A n c,d] 103)).cell? ⟨g,0,none⟩=some ↑y:=by rw[World.cell?_alloc_old _ _ _ (Nat.ne_of_lt b)];exact a
 go_enter Tryz.func128,Tryz.ntmps128
 go_wp2
 go_ret;exact ⟨rfl,qA _⟩
theorem zpV {w:World} {T:Nat→Part} {R:Nat→Prop} {A:Option Addr} {c:Nat} {l:List Stand} (r:zaG w T R (.slice A l.length c) l) {g:Nat} {y:Int} (M:w.cell? ⟨g,0,none⟩=some ↑y):
  Calls Tryz.prog 127 #[.slice A l.length c,.func (.func 128) #[] #[.pointer (some ⟨g,0,none⟩)]] w fun e w'=>e=.returned ↑(zct y l:Int)∧Below w w w':=by
 have N:=World.block_lt_of_cell? w _ M;have O:l.length≤9223372036854775807:=by obtain ⟨_,h,_⟩:=r;have:=h.max;unfold maxLen at this;omega
 have C:=hid r;have Y:=hid M;clear r M;obtain ⟨n,P⟩:=nm (l.length);rw[←P] at C O ⊢;have U:=hid P;clear P;go_enter Tryz.func127,Tryz.ntmps127
 go_wp2
 go_loopw [8] (fun i wr=>∃k:Nat,k≤n∧i=.int .i64 k∧Below w w wr∧∀j x,j<k→l[j]? =some x→¬x.bidder=y) (fun i _=>n-(intOf i).toNat)
 case atStart=>exact ⟨0,zL,rfl,bR,fun j x hj=>by omega⟩
 case round=>
  obtain ⟨k,hk,rfl,o,E⟩:=hrel;have m:=hid E;have v:=hid o;clear E;by_cases hltk:k<n
  ·obtain ⟨s,S⟩:∃s,l[k]? =some s:=⟨_,gE (by rw[←U.out];exact hltk)⟩;obtain ⟨q,Z,uA,uc,hv,_,Q,J,K,L,_⟩:=zaG.at_ C.out S;injection hv with hv1 hv2 hv3
   subst hv1 hv3;clear hv2;have J:=qc o J Q;have K:=qc o K Q;have L:=qc o L Q;have D:wr.cell? ⟨g,0,none⟩=some ↑y:=qc o Y.out N;have V:=hid S;have z:=hid D;obtain ⟨H,p⟩:=nm (s.bidder);obtain ⟨X,F⟩:=nm (s.held);obtain ⟨un,G⟩:=nm (s.offers.length);rw[←p] at J;rw[←G] at K;rw[←F] at L;have B:=hid p;clear S D o p F G;by_cases hbad:H=y
   ·have a:decide (H=y)=true:=decide_eq_true hbad;have b:=hid hbad;have I:=hid a;clear hbad a;go_wp2_with fail
    refine (zkV H X y uA un uc g _ z.out).mono ?_;rintro e w1 ⟨rfl,d⟩;rw[I.out];have f:=hid d;clear d;go_wp2_with fail
    go_ret;refine ⟨zdr ?_,v.out.trans (f.out.mono v.out.size)⟩;unfold zct;rw[zjz V.out (B.out.symm.trans b.out) m.out]
   ·have a:decide (H=y)=false:=decide_eq_false hbad;have b:=hid hbad;have I:=hid a;clear hbad a;go_wp2_with fail
    refine (zkV H X y uA un uc g _ z.out).mono ?_;rintro e w1 ⟨rfl,d⟩;rw[I.out];have f:=hid d;clear d;have hwr:IntKind.i64.wrap ((k:Int)+1)=(k:Int)+1:=iW _ (by omega);go_wp2_with fail
    go_roundw
    case rel=>
     refine ⟨k+1,by omega,by go_num,v.out.trans (f.out.mono v.out.size),fun j x hj t=>?_⟩;by_cases hjk:j<k
     ·exact m.out j x hjk t
     ·obtain rfl:j=k:=by omega
      rw[V.out] at t
      cases t
      rw[←B.out];exact b.out
    case measure=>simp[intOf];omega
  ·clear o
   go_wp2
   go_ret;refine ⟨zdr ?_,v.out⟩;unfold zct;rw[zjA (fun j x t=>m.out j x (by have:=(gS.1 t).1;have:=U.out;omega) t)]
theorem zir {W:World} {T:Nat→Part} {n b:Nat} {l:LotS} (h:za2 W T n b l) (y:Int):
  Calls Tryz.prog 86 #[.pointer (some ⟨b,0,none⟩),y] W fun e W'=>e=.returned ↑(zct y l.stands:Int)∧Below W W W':=by
 obtain ⟨o,a⟩:=nm (W.alloc (.cells #[y] 3));have d:Below W W o:=by rw[a];exact qA _
 have q:o.cell? ⟨W,0,none⟩=some ↑y:=by
  have:Blk o W 3 #[y]:=by rw[a];exact Blk.new _ _ _
  exact this.cell 0
 obtain ⟨v,_,f,g⟩:=h.step (T':=T) (Chg.of (fun _=>False) d) (fun _ _=>id) (fun _ _=>rfl);obtain ⟨A,c,rfl⟩:∃A c,v=.slice A l.stands.length c:=by obtain ⟨_,h,_⟩:=g;exact h.form
 have s:W.cell? ⟨b,14,none⟩=some (.slice A l.stands.length c):=(d.cell (p:=⟨b,14,none⟩) h.lt).symm.trans (f.cell 14);have t:=h.lt;have m:=hid g;have r:=hid q;have i:=hid d;clear f g q d h;go_enter Tryz.func86,Tryz.ntmps86;go_wp2_with fail
 rw[←a];clear a;refine (zpV m.out r.out).mono ?_;rintro e x ⟨rfl,j⟩;have k:=hid (i.out.trans (j.mono i.out.size));clear j;go_wp2_with fail
 go_ret;exact ⟨rfl,k.out⟩
def zaK:List Off→Option Int
 |[o]=>if o.g=0∧zah o.c=true then some o.c else none
 |_=>none
def zbd (l:List Off):Value:=match zaK l with|some c=>.tuple #[.int .i64 c,.bool true]|none=>.tuple #[.int .i64 0,.bool false]
theorem zdN {W:World} {R:Nat→Prop} {A:Option Addr} {c:Nat} {l:List Off} (p:zae W R (.slice A l.length c) l):
  Calls Tryz.prog 252 #[.slice A l.length c] W fun e W'=>e=.returned (zbd l)∧Below W W W':=by
 by_cases h1:l.length=1
 ·obtain ⟨o,rfl⟩:=List.length_eq_one_iff.1 h1;obtain ⟨⟨_,B,C,y,_,_,t⟩,k⟩:=p;injection y with hA _ _
  subst hA;obtain ⟨b,j,rfl,_,D,i⟩:=t (by simp);have r:W.cell? ⟨b,j,none⟩=some (.int .u32 o.g):=i 0 _ rfl;have s:W.cell? ⟨b,j+1,none⟩=some ↑o.c:=i 1 _ rfl;obtain ⟨m,a⟩:=o;simp only at r s;clear i k h1
  show Calls _ _ #[.slice _ 1 c] _ _
  by_cases hg:m=0
  ·subst hg;have d:zbd [⟨0,a⟩]=.tuple #[(if zah a=true then a else 0:Int),(zah a:Bool)]:=by
    unfold zbd zaK
    cases h:zah a<;>simp[h]
   rw[d]
   cases hco:zah a with
   |true=>
    have f:=hid hco;clear hco d;go_enter Tryz.func252,Tryz.ntmps252;go_wp2_with fail
    refine (zcM a _).mono ?_;rintro e z ⟨rfl,rfl⟩;rw[f.out];go_wp2_with fail
    go_ret2
    exact ⟨rfl,bR⟩
   |false=>
    have f:=hid hco;clear hco d;go_enter Tryz.func252,Tryz.ntmps252;go_wp2_with fail
    refine (zcM a _).mono ?_;rintro e z ⟨rfl,rfl⟩;rw[f.out];go_wp2_with fail
    go_ret2
    exact ⟨rfl,bR⟩
  ·have d:zbd [⟨m,a⟩]=.tuple #[(),false]:=by
    unfold zbd zaK
    simp[hg]
   rw[d];have v:¬(m:Int)=0:=by omega
   go_enter Tryz.func252,Tryz.ntmps252;go_wp2_with fail
   go_ret2
   exact ⟨rfl,bR⟩
 ·have d:zbd l=.tuple #[(),false]:=by
   unfold zbd zaK
   match l,h1 with
   |[],_=>rfl
   |[_],h=>exact absurd rfl h
   |_::_::_,_=>rfl
  rw[d];obtain ⟨n,q⟩:=nm (l.length);rw[←q] at h1 ⊢;have x:¬(n:Int)=1:=by omega
  clear p d q;go_enter Tryz.func252,Tryz.ntmps252;go_wp2_with fail
  go_ret2
  exact ⟨rfl,bR⟩
theorem zj9:zbE Tryz.prog 99 103 3 40:=zbs Tryz.underlying99 (by omega) (z:=.agg #[(),.slice none 0 0,()]) (by kernel_rfl) rfl
def zbz (b:Int) (ss:List Stand):List Stand:=match zbb b ss with|some k=>ss.eraseIdx k|none=>ss
def zd1 (l:LotS) (s:Stand):LotS:={l with stands:=zbz s.bidder l.stands++[s]}
def zev (H:House) (i j:Nat) (a:Acc) (l:LotS) (s:Stand):House:={H with accs:=H.accs.set i (a.set j s.held),lots:=H.lots.set j (zd1 l s)}
theorem zgN (ss:List Stand) (s:Stand) (vo:Nat→Value) (v:Value):zaN (ss++[s]) (fun k=>if k=ss.length then v else vo k)=zaN ss vo++s.cells v:=by
 unfold zaN;rw[zjy,List.flatten_append];simp only[if_true,List.flatten_cons,List.flatten_nil,List.append_nil]
 congr 2
 exact zhZ fun i x a=>by simp[show ¬i=ss.length by omega]
theorem zmh {n:Nat}:∀{xs:List (List Value)} (k:Nat),(∀y∈xs,y.length=n)→xs.flatten.take (k*n)=(xs.take k).flatten
 |[],k,_=>by simp
 |y::ys,0,_=>by simp
 |y::ys,k+1,h=>by
  have hy:=h y (.head _);rw[List.flatten_cons,List.take_succ_cons,List.flatten_cons,List.take_append,List.take_of_length_le (by rw[hy,Nat.succ_mul];omega),hy,show (k+1)*n-n=k*n by rw[Nat.succ_mul];omega,zmh k fun z hz=>h z (.tail _ hz)]
theorem zmi {n:Nat}:∀{xs:List (List Value)} (k:Nat),(∀y∈xs,y.length=n)→xs.flatten.drop (k*n)=(xs.drop k).flatten
 |[],k,_=>by simp
 |y::ys,0,_=>by simp
 |y::ys,k+1,h=>by
  have hy:=h y (.head _);rw[List.flatten_cons,List.drop_succ_cons,List.drop_append,List.drop_eq_nil_of_le (by rw[hy,Nat.succ_mul];omega),hy,show (k+1)*n-n=k*n by rw[Nat.succ_mul];omega,zmi k fun z hz=>h z (.tail _ hz),List.nil_append]
theorem zka (ss:List Stand) (vo:Nat→Value) (k:Nat):(zaN ss vo).take (k*3)++(zaN ss vo).drop (k*3+3)=zaN (ss.eraseIdx k) (fun i=>if i<k then vo i else vo (i+1)):=by
 unfold zaN;have a:∀y∈ss.mapIdx (fun k s=>Stand.cells s (vo k)),y.length=3:=zeu fun _ _=>rfl;rw[show k*3+3=(k+1)*3 by omega,zmh k a,zmi (k+1) a,←List.flatten_append,←List.eraseIdx_eq_take_drop_succ]
 congr 1
 apply List.ext_getElem?
 intro i;rw[List.getElem?_mapIdx,List.getElem?_eraseIdx,List.getElem?_eraseIdx];by_cases h:i<k
 ·simp only[h,if_true,List.getElem?_mapIdx]
 ·simp only[h,if_false,List.getElem?_mapIdx]
theorem zis {W:World} {T:Nat→Part} {vo:Nat→Value} {ss:List Stand} (h:zcE W T vo (ss.map (·.offers))) (k:Nat):zcE W T (fun i=>if i<k then vo i else vo (i+1)) ((ss.eraseIdx k).map (·.offers)):=fun i l hi=>by
 rw[List.getElem?_map,List.getElem?_eraseIdx] at hi;by_cases e:i<k
 ·rw[if_pos e] at hi
  show zae W _ (if i<k then vo i else vo (i+1)) l
  rw[if_pos e];exact h i l (by rw[List.getElem?_map];exact hi)
 ·rw[if_neg e] at hi
  show zae W _ (if i<k then vo i else vo (i+1)) l
  rw[if_neg e];exact h (i+1) l (by rw[List.getElem?_map];exact hi)
theorem zmj {W V q U:World} {T:Nat→Part} {h pn pc K:Nat} {va vl vb vs v' Z:Value} {H:House} (f:HouseAt W T h pn pc va vl vb vs K H) {bl:Nat→Nat}
  (I:RowAt W (fun b=>T b=.lots) 135 1 vl H.lots.length (ptrs bl H.lots.length)) (A:∀n l,H.lots[n]? =some l→za2 W T n (bl n) l) {j K':Nat} {l l':LotS} {s:Stand} {a:List Stand} {vo:Nat→Value} {acs:List Acc} (R:H.lots[j]? =some l) (F:l'.stands=a++[s])
  (M:zcs V T va K' acs) (E:Chg (fun b=>(∃i,T b=.acc i)∨T b=.lot j) W V) (Y:zcE V T vo (a.map (·.offers))) (D:Below V V q) (G:zae q (fun b=>V.heap.size≤b) Z s.offers)
  (B:RowAt U (fun b=>(T b=.lot j∧b≠bl j)∨q.heap.size≤b) 103 3 v' (a.length+1) (zaN a vo++s.cells Z)) (y:Chg (fun b=>T b=.lot j) q U) (N:Blk U (bl j) 137 (l'.cells v').toArray):
  ∃T',zaf U T' h K' {H with accs:=acs,lots:=H.lots.set j l'}∧Moves W T U T':=by
 obtain ⟨T',m⟩:=nm (fun b=>if b<V.heap.size then T b else if b<q.heap.size then .old else if b<U.heap.size then .lot j else .no:Nat→Part);have p:∀b,b<V.heap.size→T' b=T b:=fun b r=>by rw[m];simp[r]
 have hsV:=E.size;have hs6:=D.size;have hsU:=y.size;have g:∀b,b<W.heap.size→T' b=T b:=fun b r=>p b (by omega);have v:Chg (fun b=>T b=.lot j) V U:=(Chg.of _ D).trans y;have c:Chg (fun b=>(∃i,T b=.acc i)∨T b=.lot j) W U:=E.step v fun b _ e=>.inr e;have S:=(gS.1 R).1;have O:T (bl j)=.lot j:=by obtain ⟨_,h,_⟩:=A j l R;exact h
 have Q:bl j<W.heap.size:=(A j l R).lt;have t:∀b P,T b=P→(∀i,P≠ .acc i)→P≠ .lot j→¬((∃i,T b=.acc i)∨T b=.lot j):=by
  rintro b P e L h2 (⟨i,k⟩|k)<;>rw[e] at k
  ·exact L i k
  ·exact h2 k
 refine ⟨T',⟨pn,pc,va,vl,vb,vs,?_⟩,c.mono fun b _ e=>?_,g⟩
 ·refine ⟨(g h f.blk.lt).trans f.top,f.blk.chg c (t h _ f.top (by simp) (by simp)),f.names.step c (fun b e=>t b _ e (by simp) (by simp)) g,M.step v (fun b e=>?_) p,⟨bl,?_,fun n x hx=>?_⟩,f.cal.step c (fun b e=>t b _ e (by simp) (by simp)) g,f.book.step c (fun b e=>?_) g,f.sales.step c (fun b e=>t b _ e (by simp) (by simp)) g,fun b r=>?_⟩
  ·rcases e with e|⟨i,e⟩<;>rw[e]<;>simp
  ·show RowAt U _ _ 1 vl (H.lots.set j l').length (ptrs bl (H.lots.set j l').length)
   rw[List.length_set];exact RowAt.step I c (fun b e=>t b _ e (by simp) (by simp)) g
  ·have d:(H.lots.set j l')[n]? =some x:=hx;rw[List.getElem?_set] at d;by_cases e:j=n
   ·subst e;rw[if_pos rfl,if_pos S] at d
    cases d
    refine ⟨v',(g _ Q).trans O,N,⟨fun k=>if k=a.length then Z else vo k,?_,fun k o z=>?_⟩⟩
    ·rw[F,zgN,List.length_append,List.length_singleton];refine ⟨B.own,fun b r=>?_⟩;have X:=B.lt r
     rcases B.blk b r with k|k
     ·by_cases hbV:b<V.heap.size
      ·exact ⟨(p b hbV).trans k.1,k.2⟩
      ·have:=f.out b (by omega);rw[this] at k;cases k.1
     ·refine ⟨?_,by omega⟩;rw[m];simp[show ¬b<V.heap.size by omega,show ¬b<q.heap.size by omega,X]
    ·rw[F,List.map_append] at z;by_cases e:k=a.length
     ·subst e;rw[List.getElem?_append_right (by simp)] at z
      simp at z
      subst z;simp only[if_true];refine zae.mono (zae.chg (zae.mono (R':=fun b=>V.heap.size≤b∧b<q.heap.size) G fun b r J=>⟨J,r⟩) y fun b _ J e=>by have:=f.out b (by omega);rw[this] at e;cases e) fun b _ J=>?_;rw[m];simp[show ¬b<V.heap.size by omega,J.2]
     ·simp only[if_neg e];have L:=(gS.1 z).1
      simp at L
      rw[List.getElem?_append_left (by simp;omega)] at z;exact zcE.step Y v (fun b e=>by rw[e];simp) p k o z
   ·rw[if_neg e] at d;refine (A n x d).step c (fun b C=>?_) g
    rcases C with C|C
    ·exact t b _ C (by simp) (by simpa using fun k=>e k.symm)
    ·exact t b _ C (by simp) (by simp)
  ·rcases e with e|e<;>exact t b _ e (by simp) (by simp)
  ·rw[m];simp[show ¬b<V.heap.size by omega,show ¬b<q.heap.size by omega,show ¬b<U.heap.size by omega]
 ·rcases e with ⟨i,e⟩|e<;>exact ⟨by rw[e];simp,by rw[e];simp⟩
end Ho
end Go.Proofs.YthoaidfpgijbfaaGreat

/- Joined by program: AccR. -/
import Derived.Test.YthoaidfpgijbfaaGreatZe
import Derived.Test.YthoaidfpgijbfaaGreatZh
set_option linter.all false
set_option maxRecDepth 100000
set_option maxHeartbeats 32000000
namespace Go.Proofs.YthoaidfpgijbfaaGreat
open Lib (hid)
namespace Ac
open Go.RowKit Go.Shelf Go.Maps Vb
attribute [local go_sem] Oper.semAt_some
def zfE (a c:Acc):Bool:=decide (a.bud=c.bud∧a.sp=c.sp∧a.M=c.M)
theorem same_eq {a c:Acc}:zfE a c=true↔a=c:=by
 obtain ⟨b,d,e⟩:=a;obtain ⟨f,g,h⟩:=c
 simp[zfE]
theorem zrA {b1 b2 X Y n1 n2:Nat} {a c:Acc} {w:World} (o:AccAt w b1 X n1 a) (r:AccAt w b2 Y n2 c) (Z:zaR a.M) (r2:zaR c.M):
  Calls Tryz.prog 67 #[.pointer (some ⟨b1,0,none⟩),.pointer (some ⟨b2,0,none⟩)] w fun e w'=>e=.returned ↑(zfE a c:Bool)∧Below w w w':=by
 have G:=hid (show AtP w (.pointer (some ⟨b1,0,none⟩)) (.live a) from ⟨_,_,_,rfl,o⟩);have l:=hid (show (Fm.live a).there=true from rfl);have H:=hid (show AtP w (.pointer (some ⟨b2,0,none⟩)) (.live c) from ⟨_,_,_,rfl,r⟩);have m:=hid (show (Fm.live c).there=true from rfl);have HA:=hid o;have HC:=hid r;have L:=hid Z;have N:=hid r2;have E:w.cell? ⟨b1,0,none⟩=some ↑a.bud:=o.blk.cell 0;have F:w.cell? ⟨b1,1,none⟩=some ↑a.sp:=o.blk.cell 1;have T:w.cell? ⟨b1,2,none⟩=some (.map (some X)):=o.blk.cell 2;have C:w.cell? ⟨b2,0,none⟩=some ↑c.bud:=r.blk.cell 0;have D:w.cell? ⟨b2,1,none⟩=some ↑c.sp:=r.blk.cell 1;have S:w.cell? ⟨b2,2,none⟩=some (.map (some Y)):=r.blk.cell 2;have i:=o.blk.lt;have j:=r.blk.lt;have v:=hid (show zfE a c=decide (a.bud=c.bud∧a.sp=c.sp∧a.M=c.M) from rfl);obtain ⟨n,k⟩:=nm (zfE a c);rw[←k] at v ⊢;have J:=hid (show decide (a.M=c.M)=decide (a.M=c.M) from rfl);obtain ⟨me,A⟩:=nm (decide (a.M=c.M));have V:=hid A;obtain ⟨x,Q⟩:=nm (a.bud);obtain ⟨y,R⟩:=nm (c.bud);obtain ⟨p,O⟩:=nm (a.sp);obtain ⟨q,P⟩:=nm (c.sp);rw[←Q] at E;rw[←R] at C;rw[←O] at F;rw[←P] at D;rw[←Q,←R,←O,←P] at v;clear o r Z r2 k A Q R O P J;go_enter Tryz.func67,Tryz.ntmps67;go_wp2_with fail
 by_cases e1:x=y
 ·by_cases e2:p=q
  ·have t1:(x==y)=true:=by simpa using e1
   have B:decide (x=y)=true:=by simpa using e1
   have t2:(p==q)=true:=by simpa using e2
   have U:decide (p=q)=true:=by simpa using e2
   have t:=hid (show n=me from by rw[v.out,V.out];simp[e1,e2]);clear e1 e2;refine zad (Below w w) [] (by kernel_rfl) (bR.drew) (fun b=>?_);refine tp 0 b ?_;refine stp 1 fun K g=>?_;go_simp;refine (zbr (G.out.grow b)).mono ?_;rintro e s ⟨rfl,f⟩;rw[f];clear f;rw[l.out];refine g.out _ _ ?_ (fun b=>?_)
   ·exact b
   clear g K
   try simp only[Act.put,pb,pz,ps]
   refine tp 2 b ?_;refine tp 3 b ?_;refine stp 4 fun K g=>?_;go_simp;refine (zbr (H.out.grow b)).mono ?_;rintro e s ⟨rfl,f⟩;rw[f];clear f;rw[m.out];refine g.out _ _ ?_ (fun b=>?_)
   ·exact b
   clear g K
   try simp only[Act.put,pb,pz,ps]
   refine tp 5 b ?_;refine tp 6 b ?_;refine tp 7 b ?_;refine tp 8 b ?_;refine tp 9 b ?_;have h:=hid fun (w':World) (d:(Below w w) w')=>And.intro (qc d E i)<|And.intro (qc d F i)<|And.intro (qc d T i)<|And.intro (qc d C j)<|And.intro (qc d D j)<|qc d S j;refine tl 10 b h ?_;refine tp 11 b ?_;refine tp 12 b ?_;refine tp 13 b ?_;refine tl 14 b h ?_;refine tp 15 b ?_;refine tp 16 b ?_;refine tp 17 b ?_;refine tp 18 b ?_;refine tp 19 b ?_;refine tp 20 b ?_;refine tl 21 b h ?_;refine tp 22 b ?_;refine tp 23 b ?_;refine tp 24 b ?_;refine tl 25 b h ?_;refine tp 26 b ?_;refine tp 27 b ?_;refine tp 28 b ?_;refine tp 29 b ?_;refine tp 30 b ?_;refine tp 31 b ?_;refine tl 32 b h ?_;refine tp 33 b ?_;refine tp 34 b ?_;refine tp 35 b ?_;refine tl 36 b h ?_;refine stp 37 fun K g=>?_;go_simp;refine (zrp (HA.out.grow b) (HC.out.grow b) L.out N.out).mono ?_;rintro e s ⟨rfl,z⟩;rw[←V.out];refine g.out _ _ ?_ (fun b=>?_)
   ·exact b.trans (z.mono b.size)
   clear g K
   try simp only[Act.put,pb,pz,ps]
   have I:=hid b;clear z;refine tp 38 b ?_;refine tp 39 b ?_;refine zac (by kernel_rfl) ?_ _;go_wp2_with fail
   go_ret;exact ⟨by rw[t.out];rfl,I.out⟩
  ·have t1:(x==y)=true:=by simpa using e1
   have B:decide (x=y)=true:=by simpa using e1
   have t2:(p==q)=false:=by simpa using e2
   have U:decide (p=q)=false:=by simpa using e2
   have t:=hid (show n=false from by rw[v.out];simp[e2]);clear e1 e2;refine zad (Below w w) [] (by kernel_rfl) (bR.drew) (fun b=>?_);refine tp 0 b ?_;refine stp 1 fun K g=>?_;go_simp;refine (zbr (G.out.grow b)).mono ?_;rintro e s ⟨rfl,f⟩;rw[f];clear f;rw[l.out];refine g.out _ _ ?_ (fun b=>?_)
   ·exact b
   clear g K
   try simp only[Act.put,pb,pz,ps]
   refine tp 2 b ?_;refine tp 3 b ?_;refine stp 4 fun K g=>?_;go_simp;refine (zbr (H.out.grow b)).mono ?_;rintro e s ⟨rfl,f⟩;rw[f];clear f;rw[m.out];refine g.out _ _ ?_ (fun b=>?_)
   ·exact b
   clear g K
   try simp only[Act.put,pb,pz,ps]
   refine tp 5 b ?_;refine tp 6 b ?_;refine tp 7 b ?_;refine tp 8 b ?_;refine tp 9 b ?_;have h:=hid fun (w':World) (d:(Below w w) w')=>And.intro (qc d E i)<|And.intro (qc d F i)<|And.intro (qc d T i)<|And.intro (qc d C j)<|And.intro (qc d D j)<|qc d S j;refine tl 10 b h ?_;refine tp 11 b ?_;refine tp 12 b ?_;refine tp 13 b ?_;refine tl 14 b h ?_;refine tp 15 b ?_;refine tp 16 b ?_;refine tp 17 b ?_;refine tp 18 b ?_;refine tp 19 b ?_;refine tp 20 b ?_;refine tl 21 b h ?_;refine tp 22 b ?_;refine tp 23 b ?_;refine tp 24 b ?_;refine tl 25 b h ?_;refine tp 26 b ?_;refine tp 27 b ?_;refine tp 28 b ?_;refine zaa 29 b ?_;refine zaa 30 b ?_;refine zaa 31 b ?_;refine zaa 32 b ?_;refine zaa 33 b ?_;refine zaa 34 b ?_;refine zaa 35 b ?_;refine zaa 36 b ?_;refine zaa 37 b ?_;refine tp 38 b ?_;refine tp 39 b ?_;refine zac (by kernel_rfl) ?_ _;go_wp2_with fail
   go_ret;exact ⟨by rw[t.out];rfl,b⟩
 ·have t1:(x==y)=false:=by simpa using e1
  have B:decide (x=y)=false:=by simpa using e1
  have t:=hid (show n=false from by rw[v.out];simp[e1]);clear e1;refine zad (Below w w) [] (by kernel_rfl) (bR.drew) (fun b=>?_);refine tp 0 b ?_;refine stp 1 fun K g=>?_;go_simp;refine (zbr (G.out.grow b)).mono ?_;rintro e s ⟨rfl,f⟩;rw[f];clear f;rw[l.out];refine g.out _ _ ?_ (fun b=>?_)
  ·exact b
  clear g K
  try simp only[Act.put,pb,pz,ps]
  refine tp 2 b ?_;refine tp 3 b ?_;refine stp 4 fun K g=>?_;go_simp;refine (zbr (H.out.grow b)).mono ?_;rintro e s ⟨rfl,f⟩;rw[f];clear f;rw[m.out];refine g.out _ _ ?_ (fun b=>?_)
  ·exact b
  clear g K
  try simp only[Act.put,pb,pz,ps]
  refine tp 5 b ?_;refine tp 6 b ?_;refine tp 7 b ?_;refine tp 8 b ?_;refine tp 9 b ?_;have h:=hid fun (w':World) (d:(Below w w) w')=>And.intro (qc d E i)<|And.intro (qc d F i)<|And.intro (qc d T i)<|And.intro (qc d C j)<|And.intro (qc d D j)<|qc d S j;refine tl 10 b h ?_;refine tp 11 b ?_;refine tp 12 b ?_;refine tp 13 b ?_;refine tl 14 b h ?_;refine tp 15 b ?_;refine tp 16 b ?_;refine tp 17 b ?_;refine zaa 18 b ?_;refine zaa 19 b ?_;refine zaa 20 b ?_;refine zaa 21 b ?_;refine zaa 22 b ?_;refine zaa 23 b ?_;refine zaa 24 b ?_;refine zaa 25 b ?_;refine zaa 26 b ?_;refine tp 27 b ?_;refine tp 28 b ?_;refine zaa 29 b ?_;refine zaa 30 b ?_;refine zaa 31 b ?_;refine zaa 32 b ?_;refine zaa 33 b ?_;refine zaa 34 b ?_;refine zaa 35 b ?_;refine zaa 36 b ?_;refine zaa 37 b ?_;refine tp 38 b ?_;refine tp 39 b ?_;refine zac (by kernel_rfl) ?_ _;go_wp2_with fail
  go_ret;exact ⟨by rw[t.out];rfl,b⟩
end Ac
end Go.Proofs.YthoaidfpgijbfaaGreat

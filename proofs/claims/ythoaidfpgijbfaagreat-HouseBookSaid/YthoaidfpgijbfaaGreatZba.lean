/- Joined by program. -/
import Derived.Test.YthoaidfpgijbfaaGreatZai
set_option linter.all false
set_option maxRecDepth 100000
set_option maxHeartbeats 32000000
namespace Go.Proofs.YthoaidfpgijbfaaGreat
open Lib (hid)
namespace Ho
open Go.RowKit Vb Ac
def zdy (X:Prop) (n:Nat) (W:World) (e:Ending) (W':World):Prop:=∃b,e=.returned (.bool b)∧(b=true↔X)∧Below n W W'
theorem zh3 {W w:World} {R:Nat→Prop} {A:Option Addr} {n c k:Nat} {f:Nat→Nat} (h:Sl W R (.slice A n c) n 1 (ptrs f n)) (i:Below W W w) (l:k<n):∃b off,A=some ⟨b,off,none⟩∧w.cell? ⟨b,off+k,none⟩=some (.pointer (some ⟨f k,0,none⟩)):=by
 obtain ⟨_,m,o,e,_,_,d⟩:=h.grow i;injection e with hv2 _ _
 subst hv2;obtain ⟨b,off,g,_,j,a⟩:=d (by omega);exact ⟨b,off,g,a k _ (zcA l)⟩
theorem zuN {W:World} {A1 x:Option Addr} {n c1 a y:Nat} {E F:Nat→Prop} {b1 b2:Nat→Nat} {p:Nat→Bool}
  (o:Sl W E (.slice A1 n c1) n 1 (ptrs b1 n)) (q:Sl W F (.slice x a y) a 1 (ptrs b2 a)) (N:n≤1000000)
  (v:∀k w,k<n→k<a→Below W W w→Calls Tryz.prog 66 #[.pointer (some ⟨b1 k,0,none⟩),.pointer (some ⟨b2 k,0,none⟩)] w fun e w'=>e=.returned ↑(p k:Bool)∧Below w w w'):
  Calls Tryz.prog 65 #[.slice A1 n c1,.slice x a y,.func (.func 66) #[] #[]] W fun e W'=>zdy (n=a∧∀k,k<n→p k=true) W.heap.size W e W':=by
 obtain ⟨X,t⟩:=nm ((n=a∧∀k,k<n→p k=true):Prop);rw[←t];have m:=hid t;clear t;by_cases hn:n=a
 ·subst hn;have A:=hid o;have B:=hid q;have C:=hid v;clear o q v;go_enter Tryz.func65,Tryz.ntmps65;go_wp2_with fail
  go_loopw [17] (fun i wr=>∃k:Nat,k≤n∧i=.int .i64 k∧(∀j,j<k→p j=true)∧Below W W wr) (fun i _=>n-(intOf i).toNat)
  case atStart=>exact ⟨0,zL,rfl,fun j z=>absurd z (Nat.not_lt_zero _),bR⟩
  case round=>
   obtain ⟨k,M,rfl,g,b⟩:=hrel;by_cases hlt:k<n
   ·obtain ⟨Q,O,r,I⟩:=zh3 A.out b hlt;obtain ⟨R,P,s,J⟩:=zh3 B.out b hlt;subst r s;have K:(0:Int)≤(k:Int):=by omega
    have L:(k:Int)<(n:Int):=by omega
    have H:IntKind.i64.wrap ((k:Int)+1)=(k:Int)+1:=iW _ (by omega);have l:=hid g;have c:=hid b;clear g b;go_wp2_with fail
    refine (C.out k wr hlt hlt c.out).mono ?_;rintro e S ⟨rfl,f⟩;have d:=hid (c.out.trans (f.mono c.out.size));clear f
    cases hpk:p k with
    |true=>
     go_wp2_with fail
     go_roundw
     case rel=>
      refine ⟨k+1,by omega,by go_num,fun j z=>?_,d.out⟩;by_cases e:j=k
      ·rw[e];exact hpk
      ·exact l.out j (by omega)
     case measure=>simp[intOf];omega
    |false=>
     go_wp2_with fail
     go_ret;exact ⟨false,rfl,⟨fun h=>(by cases h),fun h=>by rw[m.out] at h;have:=h.2 k hlt;rw[hpk] at this;cases this⟩,d.out⟩
   ·obtain rfl:k=n:=by omega
    have l:=hid g;have c:=hid b;clear g b;go_wp2_with fail
    go_ret;exact ⟨true,rfl,⟨fun _=>by rw[m.out];exact ⟨by trivial,l.out⟩,fun _=>rfl⟩,c.out⟩
 ·have G:¬(n:Int)=(a:Int):=by omega
  have D:=hid hn;clear o q v hn;go_enter Tryz.func65,Tryz.ntmps65;go_wp2_with fail
  go_ret;exact ⟨false,rfl,⟨fun h=>(by cases h),fun h=>by rw[m.out] at h;exact absurd h.1 D.out⟩,bR⟩
theorem zh4 {W w:World} {R:Nat→Prop} {A:Option Addr} {n c k:Nat} {f:Nat→Nat} (h:Sl W R (.slice A n c) n 1 (ptrs f n)) (i:Below W W w) (l:k<n):∃b off,A=some ⟨b,off,none⟩∧w.cell? ⟨b,off+k,none⟩=some (.pointer (some ⟨f k,0,none⟩)):=by
 obtain ⟨_,m,o,e,_,_,d⟩:=h.grow i;injection e with hv2 _ _
 subst hv2;obtain ⟨b,off,g,_,j,a⟩:=d (by omega);exact ⟨b,off,g,a k _ (zcA l)⟩
theorem zuO {W:World} {A1 x:Option Addr} {n c1 a y:Nat} {E F:Nat→Prop} {b1 b2:Nat→Nat} {p:Nat→Bool}
  (o:Sl W E (.slice A1 n c1) n 1 (ptrs b1 n)) (q:Sl W F (.slice x a y) a 1 (ptrs b2 a)) (N:n≤1000000)
  (v:∀k w,k<n→k<a→Below W W w→Calls Tryz.prog 71 #[.pointer (some ⟨b1 k,0,none⟩),.pointer (some ⟨b2 k,0,none⟩)] w fun e w'=>e=.returned ↑(p k:Bool)∧Below w w w'):
  Calls Tryz.prog 70 #[.slice A1 n c1,.slice x a y,.func (.func 71) #[] #[]] W fun e W'=>zdy (n=a∧∀k,k<n→p k=true) W.heap.size W e W':=by
 obtain ⟨X,t⟩:=nm ((n=a∧∀k,k<n→p k=true):Prop);rw[←t];have m:=hid t;clear t;by_cases hn:n=a
 ·subst hn;have A:=hid o;have B:=hid q;have C:=hid v;clear o q v;go_enter Tryz.func70,Tryz.ntmps70;go_wp2_with fail
  go_loopw [17] (fun i wr=>∃k:Nat,k≤n∧i=.int .i64 k∧(∀j,j<k→p j=true)∧Below W W wr) (fun i _=>n-(intOf i).toNat)
  case atStart=>exact ⟨0,zL,rfl,fun j z=>absurd z (Nat.not_lt_zero _),bR⟩
  case round=>
   obtain ⟨k,M,rfl,g,b⟩:=hrel;by_cases hlt:k<n
   ·obtain ⟨Q,O,r,I⟩:=zh4 A.out b hlt;obtain ⟨R,P,s,J⟩:=zh4 B.out b hlt;subst r s;have K:(0:Int)≤(k:Int):=by omega
    have L:(k:Int)<(n:Int):=by omega
    have H:IntKind.i64.wrap ((k:Int)+1)=(k:Int)+1:=iW _ (by omega);have l:=hid g;have c:=hid b;clear g b;go_wp2_with fail
    refine (C.out k wr hlt hlt c.out).mono ?_;rintro e S ⟨rfl,f⟩;have d:=hid (c.out.trans (f.mono c.out.size));clear f
    cases hpk:p k with
    |true=>
     go_wp2_with fail
     go_roundw
     case rel=>
      refine ⟨k+1,by omega,by go_num,fun j z=>?_,d.out⟩;by_cases e:j=k
      ·rw[e];exact hpk
      ·exact l.out j (by omega)
     case measure=>simp[intOf];omega
    |false=>
     go_wp2_with fail
     go_ret;exact ⟨false,rfl,⟨fun h=>(by cases h),fun h=>by rw[m.out] at h;have:=h.2 k hlt;rw[hpk] at this;cases this⟩,d.out⟩
   ·obtain rfl:k=n:=by omega
    have l:=hid g;have c:=hid b;clear g b;go_wp2_with fail
    go_ret;exact ⟨true,rfl,⟨fun _=>by rw[m.out];exact ⟨by trivial,l.out⟩,fun _=>rfl⟩,c.out⟩
 ·have G:¬(n:Int)=(a:Int):=by omega
  have D:=hid hn;clear o q v hn;go_enter Tryz.func70,Tryz.ntmps70;go_wp2_with fail
  go_ret;exact ⟨false,rfl,⟨fun h=>(by cases h),fun h=>by rw[m.out] at h;exact absurd h.1 D.out⟩,bR⟩
theorem zqO (W:World) (a b:SaleR):(Op.equalIn (9999+1) 44 (.agg a.cells.toArray) (.agg b.cells.toArray)).run Tryz.prog W=.ok (decide (a=b)) W:=by
 have t:Tryz.prog.underlying 44=some (.struct (Tryz.prog.fieldsOf 44)):=by kernel_rfl
 have v:Tryz.prog.stoodInHeld 44=false:=by kernel_rfl
 obtain ⟨c,d,f,h,j,k,l⟩:=a;obtain ⟨m,n,o,p,q,r,s⟩:=b;simp only[SaleR.cells];rw[run_equalIn_agg W 9999 44 _ _ t v];have u2:=Tryz.underlying2;have e:=Tryz.isAgg2;have x:=Tryz.sizeOf2;have u3:=Tryz.underlying3;have g:=Tryz.isAgg3;have y:=Tryz.sizeOf3;have u4:=Tryz.underlying41;have i:=Tryz.isAgg41;have z:=Tryz.sizeOf41;simp only[Program.fieldsOf,Tryz.underlying44];go_simp
 try simp only[SaleR.mk.injEq]
 by_cases h1:c=m
 case neg=>simp[h1]
 subst h1;by_cases h2:d=n
 case neg=>simp[h2]
 subst h2;by_cases h3:f=o
 case neg=>simp[h3]
 subst h3;by_cases h4:h=p
 case neg=>simp[h4]
 subst h4;by_cases h5:j=q
 case neg=>simp[h5]
 subst h5;by_cases h6:k=r
 case neg=>simp[h6]
 subst h6;by_cases h7:l=s
 case neg=>simp[h7]
 subst h7
 simp
theorem zuP (W:World) (a b:SaleR):(binOp .neq 44 (.agg a.cells.toArray) (.agg b.cells.toArray)).run Tryz.prog W=.ok ↑(!decide (a=b):Bool) W:=by
 rw[run_neq_struct,show (10000:Nat)=9999+1 from rfl,zqO];rfl
theorem zpw {w:World} {R:Nat→Prop} {A:Option Addr} {n c k:Nat} {ss:List SaleR} {s:SaleR} (h:Sl w R (.slice A n c) n 7 (ss.flatMap SaleR.cells)) (m:ss[k]? =some s) (o:k<n):
  ∃b off,A=some ⟨b,off,none⟩∧w.cell? ⟨b,off+k*7,none⟩=some ↑s.number∧w.cell? ⟨b,off+k*7+1,none⟩=some ↑s.lot∧w.cell? ⟨b,off+k*7+2,none⟩=some ↑s.bidder∧w.cell? ⟨b,off+k*7+3,none⟩=some ↑s.coins∧
   w.cell? ⟨b,off+k*7+4,none⟩=some (.int .u32 s.goods)∧w.cell? ⟨b,off+k*7+5,none⟩=some ↑s.count∧w.cell? ⟨b,off+k*7+6,none⟩=some ↑s.tick:=by
 obtain ⟨_,q,r,f,_,_,e⟩:=h;injection f with hv2 _ _
 subst hv2;obtain ⟨b,off,g,_,j,d⟩:=e (by omega);have a:∀i,i<7→∀u,s.cells[i]? =some u→w.cell? ⟨b,off+k*7+i,none⟩=some u:=fun i l u p=>by
  have:=d (k*7+i) u ((ziq m l).trans p)
  rwa [←Nat.add_assoc] at this
 exact ⟨b,off,g,a 0 (by omega) _ rfl,a 1 (by omega) _ rfl,a 2 (by omega) _ rfl,a 3 (by omega) _ rfl,a 4 (by omega) _ rfl,a 5 (by omega) _ rfl,a 6 (by omega) _ rfl⟩
theorem zsZ {W:World} {L M:Value} {Q R:Nat→Prop} {xs ys:List SaleR}
  (a:Sl W Q L xs.length 7 (xs.flatMap SaleR.cells)) (s:Sl W R M ys.length 7 (ys.flatMap SaleR.cells)) (hm:xs.length≤1000000000000):
  Calls Tryz.prog 69 #[L,M] W fun e W'=>zdy (xs=ys) W.heap.size W e W':=by
 obtain ⟨_,A1,c1,rfl,m,c,_⟩:=id a;obtain ⟨_,A2,c2,rfl,o,d,_⟩:=id s;obtain ⟨n,g⟩:=nm (xs.length);obtain ⟨K,j⟩:=nm (ys.length);rw[←g] at a hm ⊢;rw[←j] at s ⊢;have N:=hid a;have O:=hid s;have B:=hid g;have E:=hid j;clear a s g j m c o d;by_cases g:n=K
 ·subst g;go_enter Tryz.func69,Tryz.ntmps69;go_wp2_with fail
  go_loopw [13] (fun i wr=>∃k:Nat,k≤n∧i=.int .i64 k∧xs.take k=ys.take k∧Below W W wr) (fun i _=>n-(intOf i).toNat)
  case atStart=>exact ⟨0,zL,rfl,rfl,bR⟩
  case round=>
   obtain ⟨k,hk,rfl,q,l⟩:=hrel;by_cases hlt:k<n
   ·obtain ⟨x,t⟩:∃x,xs[k]? =some x:=⟨_,gE (by rw[←B.out];exact hlt)⟩;obtain ⟨y,v⟩:∃y,ys[k]? =some y:=⟨_,gE (by rw[←E.out];exact hlt)⟩;obtain ⟨q1,o1,H,S,T,U,V,X,Y,Z⟩:=zpw (N.out.grow l) t hlt;obtain ⟨q2,o2,I,f0,f1,f2,f3,f4,f5,f6⟩:=zpw (O.out.grow l) v hlt;subst H I;have e5:(0:Int)≤(k:Int):=by omega
    have e6:(k:Int)<(n:Int):=by omega
    have hwr:IntKind.i64.wrap ((k:Int)+1)=(k:Int)+1:=iW _ (by omega);have A:=hid q;have r:=hid l;have D:=hid (zaw t);have G:=hid (zaw v);have C:=hid t;have F:=hid v;clear q l t v;have p:=fun W=>zuP W x y;obtain ⟨dx,f⟩:=nm (decide (x=y));simp only[←f] at p;have J:=hid f;clear f;obtain ⟨x1,x2,x3,x4,x5,x6,x7⟩:=x;obtain ⟨y1,y2,y3,y4,y5,y6,y7⟩:=y;simp only[SaleR.cells] at p;simp only at S T U V X Y Z f0 f1 f2 f3 f4 f5 f6
    cases dx with
    |true=>
     have z:=hid (of_decide_eq_true J.out.symm);go_wp2_with fail
     go_quiet (fail)
     go_wp2_with fail
     go_roundw
     case rel=>exact ⟨k+1,by omega,by go_num,by rw[D.out,G.out,A.out,z.out],Ac.below_drewN r.out _⟩
     case measure=>simp[intOf];omega
    |false=>
     have z:=hid (of_decide_eq_false J.out.symm);go_wp2_with fail
     go_quiet (fail)
     go_wp2_with fail
     go_ret;exact ⟨false,rfl,⟨fun h=>(by cases h),fun h=>by
      have a:=C.out;rw[h,F.out] at a;injection a with a
      exact absurd a.symm z.out⟩,Ac.below_drewN r.out _⟩
   ·obtain rfl:k=n:=by omega
    have b:xs=ys:=by
     rw[List.take_of_length_le (by have:=B.out;omega),List.take_of_length_le (by have:=E.out;omega)] at q;exact q
    have A:=hid b;have r:=hid l;clear q l b;go_wp2_with fail
    go_ret;exact ⟨true,rfl,⟨fun _=>A.out,fun _=>rfl⟩,r.out⟩
 ·have hni:¬(n:Int)=(K:Int):=by omega
  have P:=hid g;clear g;go_enter Tryz.func69,Tryz.ntmps69;go_wp2_with fail
  go_ret;exact ⟨false,rfl,⟨fun h=>(by cases h),fun h=>absurd (by rw[B.out,E.out,h]) P.out⟩,bR⟩
theorem zs1 {W:World} {Y Z:Nat→Prop} {P V:Nat} {m1 m2:Int} {a b:List ByteArray} (R:zat W Y P m1 a) (S:zat W Z V m2 b) (hm:a.length≤1000000):
  Calls Tryz.prog 68 #[.pointer (some ⟨P,0,none⟩),.pointer (some ⟨V,0,none⟩)] W fun e W'=>zdy (a=b) W.heap.size W e W':=by
 have Q:=hid R;have E:=hid S;obtain ⟨v,m,F,K,_,_,D,_⟩:=R;obtain ⟨A,L,rfl⟩:=D.form;obtain ⟨n,N⟩:=nm (a.length);obtain ⟨U,z⟩:=nm (b.length);rw[←N] at K D hm;have c0:W.cell? ⟨P,0,none⟩=some (.slice A n L):=K.cell 0;have B:=hid N;have p:=hid z;have l:=hid D;clear K D N z S;go_enter Tryz.func68,Tryz.ntmps68;go_wp2_with fail
 refine (zcN Q.out).mono ?_;rintro e w1 ⟨rfl,g⟩;rw[g];clear g;go_wp2_with fail
 refine (zcN E.out).mono ?_;rintro e w1 ⟨rfl,g⟩;rw[g];clear g;go_wp2_with fail
 go_loopw [29] (fun i wr=>∃k:Nat,k≤n∧i=.int .i64 k∧(∀j,j<k→b[j]? =a[j]?)∧wr=W) (fun i _=>n-(intOf i).toNat)
 case atStart=>exact ⟨0,zL,rfl,fun j y=>absurd y (Nat.not_lt_zero _),rfl⟩
 case round=>
  obtain ⟨k,hk,rfl,C,rfl⟩:=hrel;by_cases hlt:k<n
  ·obtain ⟨s,O⟩:∃s,a[k]? =some s:=⟨_,gE (by rw[←B.out];exact hlt)⟩;obtain ⟨q,qc,hq,hqR,hql,_⟩:=l.out.ex (by omega);injection hq with hq1 hq2 hq3
   subst hq1 hq3;clear hq2;have d0:wr.cell? ⟨q,k,none⟩=some (.string s):=(l.out.own.cellAt k (by omega)).trans (by simp[strs,O]);have e5:(0:Int)≤(k:Int):=by omega
   have e6:(k:Int)<(n:Int):=by omega
   have hwr:IntKind.i64.wrap ((k:Int)+1)=(k:Int)+1:=iW _ (by omega);have I:=hid C;have J:=hid O;clear C O;go_wp2_with fail
   refine (zrk E.out s).mono ?_;rintro e X ⟨⟨F,T,rfl⟩,d⟩;rw[d];clear d;have H:=hid T;clear T
   cases hFs:F s with
   |none=>
    have c:¬a=b:=fun e=>by
     have:=(H.out s k).2 ⟨k,rfl,e▸J.out⟩;rw[hFs] at this;cases this
    have f:=hid c;clear c hFs;simp only[Option.getD_none,Option.isSome_none];go_wp2_with fail
    go_ret;exact ⟨false,rfl,⟨fun h=>(by cases h),fun h=>absurd h f.out⟩,bR⟩
   |some x=>
    by_cases hx:x=(k:Int)
    ·subst hx;have t:b[k]? =some s:=by
      obtain ⟨j,y,M⟩:=(H.out s k).1 hFs;obtain rfl:k=j:=by omega
      exact M
     have G:=hid t;clear t hFs;simp only[Option.getD_some,Option.isSome_some];go_wp2_with fail
     go_roundw
     case rel=>
      refine ⟨k+1,by omega,by go_num,fun j y=>?_,by trivial⟩;by_cases e:j=k
      ·rw[e,G.out,J.out]
      ·exact I.out j (by omega)
     case measure=>simp[intOf];omega
    ·have c:¬a=b:=fun e=>by
      have:=(H.out s k).2 ⟨k,rfl,e▸J.out⟩;rw[hFs] at this;injection this with this;exact hx this
     have f:=hid c;clear c hFs;simp only[Option.getD_some,Option.isSome_some];go_wp2_with fail
     go_ret;exact ⟨false,rfl,⟨fun h=>(by cases h),fun h=>absurd h f.out⟩,bR⟩
  ·obtain rfl:k=n:=by omega
   have I:=hid C;clear C;go_wp2_with fail
   refine (zj5 Q.out).mono ?_;rintro e X ⟨rfl,d⟩;rw[d,←B.out];clear d;go_wp2_with fail
   refine (zj5 E.out).mono ?_;rintro e X ⟨rfl,d⟩;rw[d,←p.out];clear d;by_cases hnn:k=U
   ·subst hnn;have o:a=b:=by
     refine List.ext_getElem? fun j=>?_;by_cases y:j<k
     ·exact (I.out j y).symm
     ·rw[List.getElem?_eq_none (by have:=B.out;omega),List.getElem?_eq_none (by have:=p.out;omega)]
    have r:=hid o;clear o;go_wp2_with fail
    go_ret;exact ⟨true,rfl,⟨fun _=>r.out,fun _=>rfl⟩,bR⟩
   ·have c:¬a=b:=fun e=>hnn (by rw[B.out,p.out,e]);have f:=hid c;have hni:((k:Int)==(U:Int))=false:=by simp;omega
    clear c hnn;go_wp2_with fail
    go_ret;exact ⟨false,rfl,⟨fun h=>(by cases h),fun h=>absurd h f.out⟩,bR⟩
theorem zs2 (W:World) (a b:Off):(Op.equalIn (9999+1) 106 a.val b.val).run Tryz.prog W=.ok (decide (a.g=b.g∧a.c=b.c)) W:=by
 have k:Tryz.prog.underlying 106=some (.struct (Tryz.prog.fieldsOf 106)):=by kernel_rfl
 have l:Tryz.prog.stoodInHeld 106=false:=by kernel_rfl
 obtain ⟨d,e⟩:=a;obtain ⟨i,j⟩:=b;simp only[Off.val];rw[run_equalIn_agg W 9999 106 _ _ k l];have u2:=Tryz.underlying2;have f:=Tryz.isAgg2;have m:=Tryz.sizeOf2;have u4:=Tryz.underlying41;have h:=Tryz.isAgg41;have n:=Tryz.sizeOf41;simp only[Program.fieldsOf,Tryz.underlying106];go_simp;by_cases h1:d=i<;>by_cases h2:e=j<;>simp[h1,h2,Int.ofNat_inj]
instance : DecidableEq Off := fun a b => if h : a.g = b.g ∧ a.c = b.c then .isTrue (by cases a; cases b; simp only at h; rw [h.1, h.2]) else .isFalse (by rintro rfl; exact h ⟨rfl, rfl⟩)
theorem zwg (W:World) (a b:Off):(binOp .neq 106 (.agg #[.int .u32 a.g,a.c]) (.agg #[.int .u32 b.g,b.c])).run Tryz.prog W=.ok ↑(!decide (a=b):Bool) W:=by
 have h:=zs2 W a b;simp only[Off.val] at h;rw[run_neq_struct,show (10000:Nat)=9999+1 from rfl,h];have:decide (a.g=b.g∧a.c=b.c)=decide (a=b):=by
  by_cases e:a=b
  ·subst e;simp
  ·have:¬(a.g=b.g∧a.c=b.c):=fun h=>e (by cases a;cases b;simp only at h;rw[h.1,h.2]);rw[decide_eq_false e,decide_eq_false this]
 rw[this];rfl
theorem zs3 {w:World} {R:Nat→Prop} {A:Option Addr} {n c k:Nat} {ss:List Off} {s:Off} (h:Sl w R (.slice A n c) n 2 (ss.flatMap Off.cells)) (o:ss[k]? =some s) (p:k<n):
  ∃b off,A=some ⟨b,off,none⟩∧w.cell? ⟨b,off+k*2,none⟩=some (.int .u32 s.g)∧w.cell? ⟨b,off+k*2+1,none⟩=some ↑s.c:=by
 obtain ⟨_,t,v,e,_,_,d⟩:=h;injection e with hv2 _ _
 subst hv2;obtain ⟨b,off,j,_,l,a⟩:=d (by omega);have f:∀i,i<2→∀u,s.cells[i]? =some u→w.cell? ⟨b,off+k*2+i,none⟩=some u:=fun i m u q=>by
  have:=a (k*2+i) u ((by rw[List.flatMap_def];exact flat_get (fun y r=>by obtain ⟨x,_,rfl⟩:=List.mem_map.1 r;rfl) (by rw[List.getElem?_map,o];rfl) m:(ss.flatMap Off.cells)[k*2+i]? =s.cells[i]?).trans q)
  rwa [←Nat.add_assoc] at this
 exact ⟨b,off,j,f 0 (by omega) _ rfl,f 1 (by omega) _ rfl⟩
theorem zuQ {W:World} {L M:Value} {Q R:Nat→Prop} {xs ys:List Off}
  (a:Sl W Q L xs.length 2 (xs.flatMap Off.cells)) (s:Sl W R M ys.length 2 (ys.flatMap Off.cells)) (Y:xs.length≤1000000000000):
  Calls Tryz.prog 116 #[L,M] W fun e W'=>zdy (xs=ys) W.heap.size W e W':=by
 obtain ⟨_,A1,c1,rfl,m,c,_⟩:=id a;obtain ⟨_,A2,c2,rfl,o,d,_⟩:=id s;obtain ⟨n,g⟩:=nm (xs.length);obtain ⟨K,j⟩:=nm (ys.length);rw[←g] at a Y ⊢;rw[←j] at s ⊢;have N:=hid a;have O:=hid s;have B:=hid g;have E:=hid j;clear a s g j m c o d;by_cases g:n=K
 ·subst g;go_enter Tryz.func116,Tryz.ntmps116;go_wp2_with fail
  go_loopw [13] (fun i wr=>∃k:Nat,k≤n∧i=.int .i64 k∧xs.take k=ys.take k∧Below W W wr) (fun i _=>n-(intOf i).toNat)
  case atStart=>exact ⟨0,zL,rfl,rfl,bR⟩
  case round=>
   obtain ⟨k,hk,rfl,q,l⟩:=hrel;by_cases hlt:k<n
   ·obtain ⟨x,t⟩:∃x,xs[k]? =some x:=⟨_,gE (by rw[←B.out];exact hlt)⟩;obtain ⟨y,v⟩:∃y,ys[k]? =some y:=⟨_,gE (by rw[←E.out];exact hlt)⟩;obtain ⟨q1,o1,H,S,T⟩:=zs3 (N.out.grow l) t hlt;obtain ⟨q2,o2,I,V,X⟩:=zs3 (O.out.grow l) v hlt;subst H I;have e5:(0:Int)≤(k:Int):=by omega
    have e6:(k:Int)<(n:Int):=by omega
    have aa:IntKind.i64.wrap ((k:Int)+1)=(k:Int)+1:=iW _ (by omega);have A:=hid q;have r:=hid l;have D:=hid (zaw t);have G:=hid (zaw v);have C:=hid t;have F:=hid v;clear q l t v;have p:=fun W=>zwg W x y;obtain ⟨U,f⟩:=nm (decide (x=y));simp only[←f] at p;have J:=hid f;clear f;obtain ⟨x1,x2⟩:=x;obtain ⟨y1,y2⟩:=y;simp only at p S T V X
    cases U with
    |true=>
     have z:=hid (of_decide_eq_true J.out.symm);go_wp2_with fail
     go_quiet (fail)
     go_wp2_with fail
     go_roundw
     case rel=>exact ⟨k+1,by omega,by go_num,by rw[D.out,G.out,A.out,z.out],Ac.below_drewN r.out _⟩
     case measure=>simp[intOf];omega
    |false=>
     have z:=hid (of_decide_eq_false J.out.symm);go_wp2_with fail
     go_quiet (fail)
     go_wp2_with fail
     go_ret;exact ⟨false,rfl,⟨fun h=>(by cases h),fun h=>by
      have a:=C.out;rw[h,F.out] at a;injection a with a
      exact absurd a.symm z.out⟩,Ac.below_drewN r.out _⟩
   ·obtain rfl:k=n:=by omega
    have b:xs=ys:=by
     rw[List.take_of_length_le (by have:=B.out;omega),List.take_of_length_le (by have:=E.out;omega)] at q;exact q
    have A:=hid b;have r:=hid l;clear q l b;go_wp2_with fail
    go_ret;exact ⟨true,rfl,⟨fun _=>A.out,fun _=>rfl⟩,r.out⟩
 ·have Z:¬(n:Int)=(K:Int):=by omega
  have P:=hid g;clear g;go_enter Tryz.func116,Tryz.ntmps116;go_wp2_with fail
  go_ret;exact ⟨false,rfl,⟨fun h=>(by cases h),fun h=>absurd (by rw[B.out,E.out,h]) P.out⟩,bR⟩
theorem zaG.grow {W W':World} {T:Nat→Part} {R:Nat→Prop} {v:Value} {ss:List Stand} (h:zaG W T R v ss) (a:Below W W W'):zaG W' T R v ss:=by
 obtain ⟨e,b,c⟩:=h;exact ⟨e,b.grow a,fun k l d=>zae.grow (c k l d) a⟩
theorem zqP {w:World} {G H:Nat→Prop} {s t:Stand} {u1 u2:Value} (o:zae w G u1 s.offers) (p:zae w H u2 t.offers) (C:s.offers.length≤1000000000000):
  Calls Tryz.prog 115 #[.agg #[s.bidder,u1,s.held],.agg #[t.bidder,u2,t.held]] w fun e w'=>zdy (s=t) w.heap.size w e w':=by
 obtain ⟨c,x,d⟩:=s;obtain ⟨g,y,i⟩:=t;simp only at o p C ⊢;have f:=hid (show Below w w ((w.alloc (.cells #[c,u1,d] 103)).alloc (.cells #[g,u2,i] 103)) from (qA _).alloc (by simp) _);have z:=hid (zae.grow o f.out);have A:=hid (zae.grow p f.out);obtain ⟨⟨_,E,I,m,_⟩,_⟩:=id o;obtain ⟨⟨_,F,J,n,_⟩,_⟩:=id p;obtain ⟨K,k⟩:=nm (x.length);obtain ⟨L,l⟩:=nm (y.length);rw[←k] at m;rw[←l] at n;subst m n;clear o p k l;obtain ⟨N,a⟩:=nm ((w.alloc (.cells #[c,.slice E K I,d] 103)).alloc (.cells #[g,.slice F L J,i] 103));rw[←a] at f z A;by_cases e1:c=g
 ·by_cases e2:d=i
  ·subst e1 e2;have D:(c==c)=true:=by simp
   have M:(d==d)=true:=by simp
   go_enter Tryz.func115,Tryz.ntmps115;go_wp2_with fail
   rw[←a];clear a;refine (zuQ z.out.1 A.out.1 C).mono ?_;rintro e O ⟨b,rfl,B,j⟩;have r:=hid B;have q:=hid (f.out.trans (j.mono f.out.size));clear B j;go_wp2_with fail
   go_ret;exact ⟨b,rfl,r.out.trans (by simp),q.out⟩
  ·have v:=hid (show ¬(⟨c,x,d⟩:Stand)=⟨g,y,i⟩ from fun h=>e2 (by cases h;rfl));subst e1;have D:(c==c)=true:=by simp
   have M:(d==i)=false:=by simpa using e2
   clear e2;go_enter Tryz.func115,Tryz.ntmps115;go_wp2_with fail
   rw[←a];go_ret;exact ⟨false,rfl,⟨fun h=>(by cases h),fun h=>absurd h v.out⟩,f.out⟩
 ·have v:=hid (show ¬(⟨c,x,d⟩:Stand)=⟨g,y,i⟩ from fun h=>e1 (by cases h;rfl));have D:(c==g)=false:=by simpa using e1
  clear e1;go_enter Tryz.func115,Tryz.ntmps115;go_wp2_with fail
  rw[←a];go_ret;exact ⟨false,rfl,⟨fun h=>(by cases h),fun h=>absurd h v.out⟩,f.out⟩
theorem zlv {W:World} {T1 T2:Nat→Part} {R1 R2:Nat→Prop} {U V:Value} {ss r:List Stand} (d:zaG W T1 R1 U ss) (I:zaG W T2 R2 V r) (hm:ss.length≤1000000) (S:∀s∈ss,s.offers.length≤1000000000000):
  Calls Tryz.prog 114 #[U,V,.func (.func 115) #[] #[]] W fun e W'=>zdy (ss=r) W.heap.size W e W':=by
 obtain ⟨A1,c1,rfl⟩:=d.form;obtain ⟨A2,c2,rfl⟩:=I.form;obtain ⟨n,o⟩:=nm (ss.length);obtain ⟨T,p⟩:=nm (r.length);rw[←o] at d hm ⊢;rw[←p] at I ⊢;have X:=hid d;have Y:=hid I;have M:=hid o;have P:=hid p;have HO:=hid S;clear d I o p S;by_cases o:n=T
 ·subst o;go_enter Tryz.func114,Tryz.ntmps114;go_wp2_with fail
  go_loopw [17] (fun i wr=>∃k:Nat,k≤n∧i=.int .i64 k∧ss.take k=r.take k∧Below W W wr) (fun i _=>n-(intOf i).toNat)
  case atStart=>exact ⟨0,zL,rfl,rfl,bR⟩
  case round=>
   obtain ⟨k,hk,rfl,G,m⟩:=hrel;by_cases hlt:k<n
   ·obtain ⟨x,H⟩:∃x,ss[k]? =some x:=⟨_,gE (by rw[←M.out];exact hlt)⟩;obtain ⟨y,J⟩:∃y,r[k]? =some y:=⟨_,gE (by rw[←P.out];exact hlt)⟩;obtain ⟨q1,p1,uA1,uc1,j,_,_,d0,d1,d2,a⟩:=zaG.at_ (X.out.grow m) H;obtain ⟨q2,p2,uA2,uc2,l,_,_,f0,f1,f2,c⟩:=zaG.at_ (Y.out.grow m) J;injection j with j hA3 hA4
    injection l with l hA5 hA6
    subst j l;clear hA3 hA4 hA5 hA6;have F:=HO.out x (mG H);obtain ⟨m1,D⟩:=nm (x.offers.length);obtain ⟨m2,E⟩:=nm (y.offers.length);rw[←D] at d1 a;rw[←E] at f1 c;clear D E;have e5:(0:Int)≤(k:Int):=by omega
    have e6:(k:Int)<(n:Int):=by omega
    have hwr:IntKind.i64.wrap ((k:Int)+1)=(k:Int)+1:=iW _ (by omega);obtain ⟨w2,q⟩:=nm ((wr.alloc (.cells #[x.bidder,.slice uA1 m1 uc1,x.held] 103)).alloc (.cells #[y.bidder,.slice uA2 m2 uc2,y.held] 103));have f:Below wr wr w2:=by rw[q];exact (qA _).alloc (by simp) _
    have v:=hid (m.trans (f.mono m.size));have K:=hid (zqP (s:=x) (t:=y) (zae.grow a f) (zae.grow c f) F);have L:=hid G;have O:=hid (zaw H);have R:=hid (zaw J);have N:=hid H;have Q:=hid J;clear G m f H J a c F;go_wp2_with fail
    rw[←q];clear q;refine K.out.mono ?_;rintro e w3 ⟨b,rfl,C,B⟩;have z:=hid (v.out.trans (B.mono v.out.size));have A:=hid C;clear B C
    cases b with
    |true=>
     go_wp2_with fail
     go_roundw
     case rel=>exact ⟨k+1,by omega,by go_num,by rw[O.out,R.out,L.out,A.out.1 (by trivial)],z.out⟩
     case measure=>simp[intOf];omega
    |false=>
     go_wp2_with fail
     go_ret;exact ⟨false,rfl,⟨fun h=>(by cases h),fun h=>by
      have d:=N.out;rw[h,Q.out] at d;injection d with d
      exact absurd (A.out.2 d.symm) (by simp)⟩,z.out⟩
   ·obtain rfl:k=n:=by omega
    have g:ss=r:=by
     rw[List.take_of_length_le (by have:=M.out;omega),List.take_of_length_le (by have:=P.out;omega)] at G;exact G
    have L:=hid g;have Z:=hid m;clear G m g;go_wp2_with fail
    go_ret;exact ⟨true,rfl,⟨fun _=>L.out,fun _=>rfl⟩,Z.out⟩
 ·have hni:¬(n:Int)=(T:Int):=by omega
  have HN:=hid o;clear o;go_enter Tryz.func114,Tryz.ntmps114;go_wp2_with fail
  go_ret;exact ⟨false,rfl,⟨fun h=>(by cases h),fun h=>absurd (by rw[M.out,P.out,h]) HN.out⟩,bR⟩
end Ho
end Go.Proofs.YthoaidfpgijbfaaGreat

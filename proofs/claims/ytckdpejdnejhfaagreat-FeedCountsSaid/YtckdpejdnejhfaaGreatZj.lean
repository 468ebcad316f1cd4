/- Joined by program. -/
import Derived.Test.YtckdpejdnejhfaaGreatZi
import Derived.Test.YtckdpejdnejhfaaGreatZd
set_option linter.all false
set_option maxRecDepth 100000
set_option maxHeartbeats 32000000
namespace Go.Proofs.YtckdpejdnejhfaaGreat
open Lib (hid)
namespace Ac
open Go.RowKit Go.Shelf Go.Maps Vb
attribute [local go_sem] Oper.semAt_some
def Acc.bringE (a:Acc) (v:Int):Int:=if zah v∧zah (a.bud+v) then 0 else 2
theorem zja {b m n:Nat} {a:Acc} {w:World} (h:AccAt w b m n a) (M:zah a.bud) {v:Int}:
  Calls Tryz.prog 116 #[.pointer (some ⟨b,0,none⟩),v] w fun e w'=>
   (a.bringE v≠0∧e=.returned ↑(a.bringE v:Int)∧Below w w w')∨(a.bringE v=0∧e=.returned ↑()∧AccAt w' b m n (a.bring v)∧Chg (·=b) w w'):=by
 obtain ⟨U,B⟩:=nm ((w.alloc (.cells #[.pointer (some ⟨b,0,none⟩)] 136)).alloc (.cells #[v] 2));have L:Below w w U:=by rw[B];exact (qA _).alloc (by simp) _
 have J:Blk U w 136 #[.pointer (some ⟨b,0,none⟩)]:=by rw[B];exact (Blk.new w _ _).alloc _
 have A:Blk U (w.heap.size+1) 2 #[v]:=by rw[B];exact Blk.new' _ _ (by simp)
 have l:=h.grow L;have j:Below U U U.drew:=bR.drew;have H:=fun t=>zgy (w:=U.drew) (l.grow j) t 138 139 #[] #[.pointer (some ⟨w.heap.size+1,0,none⟩)] #[.pointer (some ⟨w,0,none⟩),.pointer (some ⟨w.heap.size+1,0,none⟩)] v v
  (enters_of Tryz.func138 (by kernel_rfl) rfl) (enters_of Tryz.func139 (by kernel_rfl) rfl) (by rw[Array.empty_append];exact (znw (A.grow j)).mono fun e w' ⟨T,V⟩=>⟨T,by rw[V];exact bR⟩)
  (fun W=>AccAt W b m n (a.bring v)∧Chg (·=b) w W∧Chg (·=b) U W) (fun _ X _ W C=>(znx ((l.grow j).grow C) M X ((J.grow j).grow C) ((A.grow j).grow C)).mono fun e w' ⟨T,V,h3⟩=>⟨T,V,(((Chg.of _ L).grow j).grow C).step h3 fun _ _ h=>h,((Chg.of _ j).grow C).step h3 fun _ _ h=>h⟩)
 have k0:U.cell? ⟨w,0,none⟩=some (.pointer (some ⟨b,0,none⟩)):=J.cell 0;have k1:U.cell? ⟨w.heap.size+1,0,none⟩=some ↑v:=A.cell 0;have N:U.cell? ⟨b,0,none⟩=some ↑a.bud:=l.blk.cell 0;have hlb:=h.ltb;have k2':U.drew.cell? ⟨b,0,none⟩=some ↑a.bud:=N;have l0:=J.lt;have l1:=A.lt;have l2:=l.blk.lt;have I:=hid L;have S:=hid (show AtP U (.pointer (some ⟨b,0,none⟩)) (.live a) from ⟨_,_,_,rfl,l⟩);have Q:=hid (show (Fm.live a).there=true from rfl);have r:=hid H;have z:=hid (show a.bringE v=if zah v∧zah (a.bud+v) then 0 else 2 from rfl);obtain ⟨en,D⟩:=nm (a.bringE v);rw[←D] at z ⊢;obtain ⟨x,hx⟩:=nm (a.bud);rw[←hx] at z N k2' M;have HO:=hid M;have R:=hid B;clear h B L J A l j H D hx M;by_cases c1:zah v
 ·have hwr:=ziA HO.out c1;have o:=hid (decide_eq_true c1);by_cases c2:zah (x+v)
  ·have q:=hid (decide_eq_true c2);have k:=hid (z.out.trans (if_pos ⟨c1,c2⟩));clear c1 c2;go_enter Tryz.func116,Tryz.ntmps116;go_wp2_with fail
   rw[←R.out];refine zac (Chg (·=b) U) [] (by kernel_rfl) ((Chg.refl _ _).grow bR.drew) (fun c=>?_);have g:=hid fun (w':World) (i:(Chg (·=b) U) w')=>And.intro ((World.cell?_of_block (a:=⟨w,0,none⟩) (i.block w.heap.size l0 (by omega))).trans k0)<|(World.cell?_of_block (a:=⟨w.heap.size+1,0,none⟩) (i.block (w.heap.size+1) l1 (by omega))).trans k1;refine tl 0 c g ?_;refine tl 1 c g ?_;refine tl 16 c g ?_;refine tl 17 c g ?_;refine tl 18 c g ?_;refine stp 2 fun K f=>?_;go_simp;refine (zb1 (S.out.grow bR.drew)).mono ?_;rintro e p ⟨rfl,d⟩;rw[d];clear d;rw[Q.out];refine f.out _ _ ?_ (fun c=>?_)
   ·exact c
   clear f K
   try simp only[Act.put,pb,pz,ps]
   refine tp 3 c ?_;refine tl 4 c g ?_;refine stp 5 fun K f=>?_;go_simp;refine (zaQ v _).mono ?_;rintro e p ⟨rfl,d⟩;rw[d];clear d;rw[o.out];refine f.out _ _ ?_ (fun c=>?_)
   ·exact c
   clear f K
   try simp only[Act.put,pb,pz,ps]
   refine tp 6 c ?_;refine tp 7 c ?_;refine tl 8 c g ?_;refine tp 9 c ?_;refine tp 10 c ?_;refine tl 12 c g ?_;refine stp 11 fun K f=>?_;go_simp;refine f.out _ _ ?_ (fun c=>?_)
   ·exact c
   clear f K
   try simp only[Act.put,pb,pz,ps]
   refine tp 13 c ?_;refine stp 14 fun K f=>?_;go_simp;refine (zaQ (x+v) _).mono ?_;rintro e p ⟨rfl,d⟩;rw[d];clear d;rw[q.out];refine f.out _ _ ?_ (fun c=>?_)
   ·exact c
   clear f K
   try simp only[Act.put,pb,pz,ps]
   refine tp 15 c ?_;refine stp 19 fun K f=>?_;go_simp;refine (r.out true).mono ?_;rintro e p (⟨G,rfl,y⟩|⟨_,_,hlt,_,_⟩|⟨_,X,Y,rfl,E,F,Z⟩)
   ·exact absurd o.out (by simp[G.resolve_left (by simp)])
   ·omega
   have O:=hid E;have P:=hid F;clear X Y E F;refine f.out _ _ ?_ (fun c=>?_)
   ·exact Z
   clear f K
   try simp only[Act.put,pb,pz,ps]
   refine tp 20 c ?_;refine zaa (by kernel_rfl) ?_ _;go_wp2_with fail
   go_ret;exact .inr ⟨k.out,rfl,O.out,P.out⟩
  ·have q:=hid (decide_eq_false c2);have k:=hid (z.out.trans (if_neg (fun h=>c2 h.2)));clear c1 c2;go_enter Tryz.func116,Tryz.ntmps116;go_wp2_with fail
   rw[←R.out];refine zac (Below U U) [] (by kernel_rfl) (bR.drew) (fun c=>?_);have g:=hid fun (w':World) (i:(Below U U) w')=>And.intro (qc i k0 l0)<|And.intro (qc i k1 l1)<|qc i N l2;refine tl 0 c g ?_;refine tl 1 c g ?_;refine tl 16 c g ?_;refine tl 17 c g ?_;refine tl 18 c g ?_;refine stp 2 fun K f=>?_;go_simp;refine (zb1 (S.out.grow c)).mono ?_;rintro e p ⟨rfl,d⟩;rw[d];clear d;rw[Q.out];refine f.out _ _ ?_ (fun c=>?_)
   ·exact c
   clear f K
   try simp only[Act.put,pb,pz,ps]
   refine tp 3 c ?_;refine tl 4 c g ?_;refine stp 5 fun K f=>?_;go_simp;refine (zaQ v _).mono ?_;rintro e p ⟨rfl,d⟩;rw[d];clear d;rw[o.out];refine f.out _ _ ?_ (fun c=>?_)
   ·exact c
   clear f K
   try simp only[Act.put,pb,pz,ps]
   refine tp 6 c ?_;refine tp 7 c ?_;refine tl 8 c g ?_;refine tp 9 c ?_;refine tp 10 c ?_;refine tl 11 c g ?_;refine tl 12 c g ?_;refine tp 13 c ?_;refine stp 14 fun K f=>?_;go_simp;refine (zaQ (x+v) _).mono ?_;rintro e p ⟨rfl,d⟩;rw[d];clear d;rw[q.out];refine f.out _ _ ?_ (fun c=>?_)
   ·exact c
   clear f K
   try simp only[Act.put,pb,pz,ps]
   refine tp 15 c ?_;refine stp 19 fun K f=>?_;go_simp;refine (r.out false).mono ?_;rintro e p (⟨G,rfl,y⟩|⟨s,_⟩|⟨s,_⟩)
   rotate_left
   ·cases s
   ·cases s
   rw[y];clear y G;refine f.out _ _ ?_ (fun c=>?_)
   ·exact c
   clear f K
   try simp only[Act.put,pb,pz,ps]
   refine tp 20 c ?_;refine zaa (by kernel_rfl) ?_ _;go_wp2_with fail
   go_ret;exact .inl ⟨by rw[k.out];decide,by rw[k.out];rfl,I.out.trans (c.mono I.out.size)⟩
 ·have o:=hid (decide_eq_false c1);have k:=hid (z.out.trans (if_neg (fun h=>c1 h.1)));clear c1;go_enter Tryz.func116,Tryz.ntmps116;go_wp2_with fail
  rw[←R.out];refine zac (Below U U) [] (by kernel_rfl) (bR.drew) (fun c=>?_);have g:=hid fun (w':World) (i:(Below U U) w')=>And.intro (qc i k0 l0)<|And.intro (qc i k1 l1)<|qc i N l2;refine tl 0 c g ?_;refine tl 1 c g ?_;refine tl 16 c g ?_;refine tl 17 c g ?_;refine tl 18 c g ?_;refine stp 2 fun K f=>?_;go_simp;refine (zb1 (S.out.grow c)).mono ?_;rintro e p ⟨rfl,d⟩;rw[d];clear d;rw[Q.out];refine f.out _ _ ?_ (fun c=>?_)
  ·exact c
  clear f K
  try simp only[Act.put,pb,pz,ps]
  refine tp 3 c ?_;refine tl 4 c g ?_;refine stp 5 fun K f=>?_;go_simp;refine (zaQ v _).mono ?_;rintro e p ⟨rfl,d⟩;rw[d];clear d;rw[o.out];refine f.out _ _ ?_ (fun c=>?_)
  ·exact c
  clear f K
  try simp only[Act.put,pb,pz,ps]
  refine tp 6 c ?_;refine tp 7 c ?_;refine zdv 8 c ?_;refine zdv 9 c ?_;refine zdv 10 c ?_;refine zdv 11 c ?_;refine zdv 12 c ?_;refine zdv 13 c ?_;refine zdv 14 c ?_;refine tp 15 c ?_;refine stp 19 fun K f=>?_;go_simp;refine (r.out false).mono ?_;rintro e p (⟨G,rfl,y⟩|⟨s,_⟩|⟨s,_⟩)
  rotate_left
  ·cases s
  ·cases s
  rw[y];clear y G;refine f.out _ _ ?_ (fun c=>?_)
  ·exact c
  clear f K
  try simp only[Act.put,pb,pz,ps]
  refine tp 20 c ?_;refine zaa (by kernel_rfl) ?_ _;go_wp2_with fail
  go_ret;exact .inl ⟨by rw[k.out];decide,by rw[k.out];rfl,I.out.trans (c.mono I.out.size)⟩
end Ac
namespace Ac
open Go.RowKit Go.Shelf Go.Maps Vb
theorem zlI {M:HM} (h:∀p∈M,0≤p.1∧p.1≤9223372036854775807∧1≤p.2) {x v:Int} (b:0≤x) (c:x≤9223372036854775807) (d:0≤v):∀p∈zdZ M x v,0≤p.1∧p.1≤9223372036854775807∧1≤p.2:=by
 unfold zdZ
 split
 ·exact fun p a=>h p (List.mem_filter.1 a).1
 ·intro p a
  rcases List.mem_cons.1 ((zfE _ _).mem_iff.1 a) with rfl|a
  ·exact ⟨b,c,by simp only;omega⟩
  ·exact h p (List.mem_filter.1 a).1
theorem zjs {a:Acc} (b:a.Ok) (j:a.Fine) {x v:Int} (d:x≤9223372036854775807) (h:a.holdE x v=0):(a.set x v).Ok∧(a.set x v).Fine:=by
 obtain ⟨c,e,f⟩:=zra.1 h;have k:=zno x v b.rise;have i:=b.bud.2;have g:=b.sp.1;unfold Acc.Fine at*;refine ⟨⟨b.bud,b.sp,zjN x v b.rise,zlI b.each c d e.1,?_⟩,?_⟩
 ·show zaq (zdZ a.M x v)≤_
  omega
 ·show a.sp+zaq (zdZ a.M x v)≤a.bud
  omega
theorem zew {a:Acc} (b:a.Ok) (g:a.Fine) {x:Int} (d:0≤x) (e:x≤9223372036854775807):(a.set x 0).Ok∧(a.set x 0).Fine:=by
 have i:=zno x 0 b.rise;have f:=zlv b.h x;have c:=b.sum;unfold Acc.Fine at*;refine ⟨⟨b.bud,b.sp,zjN x 0 b.rise,zlI (v:=0) b.each d e (Int.le_refl _),?_⟩,?_⟩
 ·show zaq (zdZ a.M x 0)≤_
  omega
 ·show a.sp+zaq (zdZ a.M x 0)≤a.bud
  omega
theorem zor {a:Acc} {v:Int} (h:a.takeE v=0):zah v∧v≤a.free:=by
 unfold Acc.takeE at h
 split at h
 ·omega
 ·rename_i b
  split at h
  ·omega
  ·exact ⟨Decidable.of_not_not b,by omega⟩
theorem zmx {a:Acc} {v:Int} (h:a.bringE v=0):zah v∧zah (a.bud+v):=by
 unfold Acc.bringE at h
 split at h
 ·assumption
 ·omega
theorem zos {a:Acc} (b:a.Ok) (_:a.Fine) {v:Int} (h:a.takeE v=0):(a.take v).Ok∧(a.take v).Fine:=by
 obtain ⟨d,c⟩:=zor h;unfold Acc.free at c;have g:=b.bud.2;have f:=b.sp.1;have e:=b.h.nn;unfold Acc.Fine at*;refine ⟨⟨b.bud,⟨?_,?_⟩,b.rise,b.each,b.sum⟩,?_⟩
 ·show 0≤a.sp+v
  have:=d.1
  omega
 ·show a.sp+v≤_
  omega
 ·show a.sp+v+zaq a.M≤a.bud
  omega
theorem zmy {a:Acc} (b:a.Ok) (e:a.Fine) {v:Int} (h:a.bringE v=0):(a.bring v).Ok∧(a.bring v).Fine:=by
 obtain ⟨d,c⟩:=zmx h;have:=d.1;refine ⟨⟨c,b.sp,b.rise,b.each,b.sum⟩,?_⟩;unfold Acc.Fine at*
 show a.sp+zaq a.M≤a.bud+v
 omega
theorem zrb {b m n:Nat} {a:Acc} {w:World} (h:AccAt w b m n a) (j:a.Ok) (i:n<maxLen) {x v:Int} (l:-9223372036854775808≤x∧x≤9223372036854775807) (k:-9223372036854775808≤v∧v≤9223372036854775807):
  Calls Tryz.prog 220 #[.pointer (some ⟨b,0,none⟩),x,v] w fun e w'=>
   e=.returned ↑(a.holdE x v:Int)∧Chg (·=m) w w'∧(a.holdE x v≠0→AccAt w' b m (n+1) a)∧(a.holdE x v=0→AccAt w' b m (n+1) (a.set x v)):=by
 refine (zkO h j i l k).mono ?_;rintro e w' (⟨c,rfl,d⟩|⟨c,rfl,d,g⟩)
 ·exact ⟨rfl,Chg.of _ d,fun _=>(h.grow d).mono (Nat.le_succ _),fun f=>absurd f c⟩
 ·exact ⟨by rw[c],g,fun f=>absurd c f,fun _=>d⟩
end Ac
namespace Vb
open Go.RowKit
def andNot (a b:Nat):Nat:=a&&&(4294967295-b)
theorem zkz (a b:Nat):andNot a b≤a:=Nat.and_le_left
theorem zdS (a b:Nat) (d:a<4294967296) (f:b<4294967296) (w:World):
  Calls Tryz.prog 281 #[.int .u32 a,.int .u32 b] w fun e w'=>e=.returned ↑(andNot a b==0:Bool)∧w=w':=by
 have c:bits .andNot .u32 (a:Int) (b:Int)=((andNot a b:Nat):Int):=u32_andNot_nat a b d f;go_enter Tryz.func281,Tryz.ntmps281
 go_wp2
 go_ret;exact ⟨ziR (by rw[Bool.eq_iff_iff];simp),rfl⟩
theorem zsl (n:Nat) (h:n≤32):2 ^ n≤4294967296:=lT (Nat.pow_le_pow_right (by omega) h) (by decide)
theorem zsp (n:Nat) (h:n≤32):IntKind.u64.wrap (IntKind.u64.wrap (2 ^ n)-1) % 4294967296=((2 ^ n-1:Nat):Int):=by
 have d:=zsl n h;have e:0<2 ^ n:=Nat.two_pow_pos n;have a:((2:Int) ^ n)=((2 ^ n:Nat):Int):=by simp
 have b:=IntWalk.u64_in ((2 ^ n:Nat):Int) (by omega);have c:=IntWalk.u64_in (((2 ^ n:Nat):Int)-1) (by omega);rw[a,b,c]
 omega
def allOf (n:Int):Nat:=if n<0∨32<n then 0 else 2 ^ n.toNat-1
def zf2 (n:Int):Int:=if n<0∨32<n then 2 else 0
theorem ziB (n:Int):allOf n<4294967296:=by
 unfold allOf
 split
 ·omega
 ·have:=zsl n.toNat (by omega);have a:0<2 ^ n.toNat:=Nat.two_pow_pos _
  omega
theorem zdT (n:Int) (w:World):
  Calls Tryz.prog 279 #[n] w fun e w'=>e=.returned (.tuple #[.int .u32 (allOf n:Nat),(zf2 n:Int)])∧w=w':=by
 by_cases h0:n<0
 ·go_enter Tryz.func279,Tryz.ntmps279
  go_wp2
  go_ret2
  exact ⟨by simp[allOf,zf2,h0],rfl⟩
 ·by_cases h1:32<n
  ·go_enter Tryz.func279,Tryz.ntmps279
   go_wp2
   go_ret2
   exact ⟨by simp[allOf,zf2,h1],rfl⟩
  ·have a:=zsp n.toNat (by omega);go_enter Tryz.func279,Tryz.ntmps279
   go_wp2
   go_ret2
   exact ⟨by simp only[allOf,zf2,if_neg (show ¬(n<0∨32<n) by omega),←a];rfl,rfl⟩
structure Off where
 g:Nat
 c:Int
def Off.wf (o:Off):Prop:=o.g<4294967296∧-9223372036854775808≤o.c∧o.c≤9223372036854775807
def Off.cells (o:Off):List Value:=[.int .u32 o.g,.int .i64 o.c]
def Off.val (o:Off):Value:=.agg #[.int .u32 o.g,.int .i64 o.c]
def zcN (all:Nat) (o:Off):Bool:=o.g==0|| !(andNot o.g all==0)||decide (o.c<1)||decide (1099511627776<o.c)
theorem zsq (a:Nat) (h:a<4294967296) (o:Off) (l:o.wf) (b:Nat) (w:World) (i:w.cell? ⟨b,0,none⟩=some (.int .u32 a)):
  Calls Tryz.prog 280 #[.agg #[.int .u32 o.g,o.c],.pointer (some ⟨b,0,none⟩)] w fun e w'=>e=.returned ↑(zcN a o:Bool)∧Below w w w':=by
 obtain ⟨g,c⟩:=o;obtain ⟨k,d,f⟩:=l;simp only at k d f;have j:=za9 i;go_enter Tryz.func280,Tryz.ntmps280
 go_wp2_with (go_at_call 281;refine (zdS _ _ (by omega) (by omega) _).mono ?_;rintro e w' ⟨rfl,rfl⟩)
 all_goals go_ret
 all_goals refine ⟨ziR ?_,qA _⟩
 all_goals simp[zcN,zsU, *]
def Off.all (l:List Off):List Value:=l.flatMap Off.cells
theorem Off.all_length (l:List Off):(Off.all l).length=l.length*2:=by
 induction l with
 |nil=>rfl
 |cons o l ih=>simp only[Off.all,List.flatMap_cons,List.length_append] at*;simp[Off.cells,ih];omega
theorem Off.all_fst:∀(l:List Off) (k:Nat) (o:Off),l[k]? =some o→(Off.all l)[k*2]? =some (.int .u32 o.g)
 |[],k,o,h=>by simp at h
 |x::l,0,o,h=>by simp at h;subst h;rfl
 |x::l,k+1,o,h=>by
  have:=Off.all_fst l k o (by simpa using h);simp only[Off.all,List.flatMap_cons,Off.cells] at*;rw[show (k+1)*2=k*2+2 from by omega]
  simpa using this
theorem Off.all_snd:∀(l:List Off) (k:Nat) (o:Off),l[k]? =some o→(Off.all l)[k*2+1]? =some ↑o.c
 |[],k,o,h=>by simp at h
 |x::l,0,o,h=>by simp at h;subst h;rfl
 |x::l,k+1,o,h=>by
  have:=Off.all_snd l k o (by simpa using h);simp only[Off.all,List.flatMap_cons,Off.cells] at*;rw[show (k+1)*2+1=k*2+1+2 from by omega]
  simpa using this
def zad (w:World) (R:Nat→Prop) (v:Value) (l:List Off):Prop:=Sl w R v l.length 2 (Off.all l)∧∀o∈l,o.wf
theorem zad.grow {w w':World} {R:Nat→Prop} {v:Value} {l:List Off} (h:zad w R v l) (hb:Below w w w'):zad w' R v l:=⟨h.1.grow hb,h.2⟩
theorem zad.alloc {w:World} {R:Nat→Prop} {v:Value} {l:List Off} (h:zad w R v l) (o:Obj):zad (w.alloc o) R v l:=⟨h.1.alloc o,h.2⟩
def zbB (all:Nat):List Off→Option Nat
 |[]=>none
 |o::l=>if zcN all o then some 0 else (zbB all l).map (·+1)
def ze7 (all:Nat) (l:List Off):Int:=match zbB all l with|some k=>k|none=>-1
end Vb
namespace Ho
open Go.RowKit Vb Ac
structure Stand where
 bidder:Int
 offers:List Off
 held:Int
structure LotS where
 put:LotR
 closes:Int
 closed:Bool
 stands:List Stand
 rise:RiseR
 price:Int
structure OrderR where
 kind:Int
 name:ByteArray
 coins:Int
 bidder:Int
 lot:Int
 put:LotR
 offers:List Off
 tick:Int
structure SaleR where
 (number lot bidder coins goods count tick:Int)
 deriving DecidableEq
structure House where
 names:List ByteArray
 accs:List Acc
 lots:List LotS
 now:Int
 book:List OrderR
 sales:List SaleR
 due:Int→Option Int
def SaleR.cells (s:SaleR):List Value:=[.int .i64 s.number,.int .i64 s.lot,.int .i64 s.bidder,.int .i64 s.coins,.int .u32 s.goods,.int .i64 s.count,.int .i64 s.tick]
def OrderR.cells (o:OrderR) (v:Value):List Value:=[.int .i64 o.kind,.string o.name,.int .i64 o.coins,.int .i64 o.bidder,.int .i64 o.lot]++o.put.cells++[v,.int .i64 o.tick]
def Stand.cells (s:Stand) (v:Value):List Value:=[.int .i64 s.bidder,v,.int .i64 s.held]
def LotS.cells (l:LotS) (v:Value):List Value:=l.put.cells++[zau l.put.kind,.int .i64 l.closes,.bool l.closed,v]++l.rise.cells++[.int .i64 l.price]
def zaW (ls:List LotS):Int→Option Int:=fun n=>if n<0 then none else match ls[n.toNat]? with|some l=>if l.closed then none else some l.closes|none=>none
inductive Part where
 |hs|names|accs|acc (i:Nat)|lots|lot (n:Nat)|cal|book|sales|old|no
 deriving DecidableEq
def zb3 (W:World) (T:Nat→Part) (vo:Nat→Value) (os:List (List Off)):Prop:=∀k l,os[k]? =some l→zad W (fun b=>T b=.old) (vo k) l
def ptrs (f:Nat→Nat) (n:Nat):List Value:=(List.range n).map fun i=>.pointer (some ⟨f i,0,none⟩)
def zcd (W:World) (T:Nat→Part) (v:Value) (K:Nat) (acs:List Acc):Prop:=
 ∃ba ma:Nat→Nat,RowAt W (fun b=>T b=.accs) 136 1 v acs.length (ptrs ba acs.length)∧∀i a,acs[i]? =some a→AccAt W (ba i) (ma i) K a∧T (ba i)=.acc i∧T (ma i)=.acc i
def zaF (ss:List Stand) (vo:Nat→Value):List Value:=(ss.mapIdx fun k s=>s.cells (vo k)).flatten
def zaM (W:World) (T:Nat→Part) (R:Nat→Prop) (v:Value) (ss:List Stand):Prop:=
 ∃vo,RowAt W R 188 3 v ss.length (zaF ss vo)∧zb3 W T vo (ss.map (·.offers))
def za2 (W:World) (T:Nat→Part) (n b:Nat) (l:LotS):Prop:=
 ∃v,T b=.lot n∧Blk W b 145 (l.cells v).toArray∧zaM W T (fun x=>T x=.lot n∧x≠b) v l.stands
def ze2 (W:World) (T:Nat→Part) (v:Value) (ls:List LotS):Prop:=
 ∃bl:Nat→Nat,RowAt W (fun b=>T b=.lots) 138 1 v ls.length (ptrs bl ls.length)∧∀n l,ls[n]? =some l→za2 W T n (bl n) l
def zaz (os:List OrderR) (vo:Nat→Value):List Value:=(os.mapIdx fun k o=>o.cells (vo k)).flatten
def zi3 (W:World) (T:Nat→Part) (v:Value) (os:List OrderR):Prop:=
 ∃vo,RowAt W (fun b=>T b=.book) 61 18 v os.length (zaz os vo)∧zb3 W T vo (os.map (·.offers))
def zhD (W:World) (T:Nat→Part) (v:Value) (ss:List SaleR):Prop:=RowAt W (fun b=>T b=.sales) 151 7 v ss.length (ss.flatMap SaleR.cells)
structure HouseAt (W:World) (T:Nat→Part) (h pn pc:Nat) (va vl vb vs:Value) (K:Nat) (H:House):Prop where
 top:T h=.hs
 blk:Blk W h 83 #[.pointer (some ⟨pn,0,none⟩),va,vl,.pointer (some ⟨pc,0,none⟩),vb,vs]
 names:zaw W (fun b=>T b=.names) pn 4096 H.names
 accs:zcd W T va K H.accs
 lots:ze2 W T vl H.lots
 cal:zar W (fun b=>T b=.cal) pc H.now H.due
 book:zi3 W T vb H.book
 sales:zhD W T vs H.sales
 out:∀b,W.heap.size≤b→T b=.no
section
variable {W W':World} {T T':Nat→Part} {X:Nat→Prop} {v:Value}
theorem zad.chg {R:Nat→Prop} {l:List Off} (h:zad W R v l) (hc:Chg X W W') (hX:∀b,b<W.heap.size→R b→¬X b):zad W' R v l:=⟨h.1.keep hc.size fun b hb hr=>hc.block b hb (hX b hb hr),h.2⟩
theorem zad.mono {R R':Nat→Prop} {l:List Off} (h:zad W R v l) (hR:∀b,b<W.heap.size→R b→R' b):zad W R' v l:=⟨h.1.mono hR,h.2⟩
theorem zb3.step {vo:Nat→Value} {os:List (List Off)} (h:zb3 W T vo os) (hc:Chg X W W') (hX:∀b,T b=.old→¬X b) (hT:∀b,b<W.heap.size→T' b=T b):zb3 W' T' vo os:=fun k l hk=>by
 have h1:=zad.mono (R':=fun b=>T b=.old∧b<W.heap.size) (h k l hk) fun b hb hr=>⟨hr,hb⟩;exact zad.mono (zad.chg h1 hc fun b _ hr=>hX b hr.1) fun b _ hr=>(hT b hr.2).trans hr.1
theorem RowAt.step {P:Part} {e:TypeId} {sz n:Nat} {xs:List Value} (h:RowAt W (fun b=>T b=P) e sz v n xs) (i:Chg X W W') (f:∀b,T b=P→¬X b) (d:∀b,b<W.heap.size→T' b=T b):RowAt W' (fun b=>T' b=P) e sz v n xs:=by
 have c:=h.mono (R':=fun b=>T b=P∧b<W.heap.size) fun b g a=>⟨a,g⟩;exact (c.chg i fun b _ a=>f b a.1).mono fun b _ a=>(d b a.2).trans a.1
theorem zcd.step {K:Nat} {c:List Acc} (h:zcd W T v K c) (k:Chg X W W') (f:∀b,T b=.accs∨(∃i,T b=.acc i)→¬X b) (e:∀b,b<W.heap.size→T' b=T b):zcd W' T' v K c:=by
 obtain ⟨l,q,m,n⟩:=h;refine ⟨l,q,m.step k (fun b o=>f b (.inl o)) e,fun i a p=>?_⟩;obtain ⟨d,g,j⟩:=n i a p;exact ⟨d.chg k (f _ (.inr ⟨i,g⟩)) (f _ (.inr ⟨i,j⟩)),(e _ d.ltb).trans g,(e _ d.ltm).trans j⟩
theorem zcd.mono {K K':Nat} {b:List Acc} (h:zcd W T v K b) (g:K≤K'):zcd W T v K' b:=by
 obtain ⟨e,j,f,c⟩:=h;exact ⟨e,j,f,fun i a d=>⟨(c i a d).1.mono g,(c i a d).2⟩⟩
theorem zaM.step {n b:Nat} {ss:List Stand} (h:zaM W T (fun x=>T x=.lot n∧x≠b) v ss) (f:Chg X W W') (e:∀x,T x=.lot n∨T x=.old→¬X x) (d:∀x,x<W.heap.size→T' x=T x):zaM W' T' (fun x=>T' x=.lot n∧x≠b) v ss:=by
 obtain ⟨k,g,i⟩:=h;refine ⟨k,?_,i.step f (fun b c=>e b (.inr c)) d⟩;have j:=g.mono (R':=fun x=>(T x=.lot n∧x≠b)∧x<W.heap.size) fun b c a=>⟨a,c⟩;exact (j.chg f fun b _ a=>e b (.inl a.1.1)).mono fun b _ a=>⟨(d b a.2).trans a.1.1,a.1.2⟩
theorem za2.lt {n b:Nat} {l:LotS} (h:za2 W T n b l):b<W.heap.size:=by
 obtain ⟨v,_,h,_⟩:=h;exact h.lt
theorem za2.step {n b:Nat} {l:LotS} (h:za2 W T n b l) (f:Chg X W W') (e:∀x,T x=.lot n∨T x=.old→¬X x) (d:∀x,x<W.heap.size→T' x=T x):za2 W' T' n b l:=by
 obtain ⟨v,a,c,g⟩:=h;exact ⟨v,(d b c.lt).trans a,c.chg f (e b (.inl a)),g.step f e d⟩
theorem ze2.step {f:List LotS} (h:ze2 W T v f) (d:Chg X W W') (c:∀x,T x=.lots∨(∃n,T x=.lot n)∨T x=.old→¬X x) (a:∀x,x<W.heap.size→T' x=T x):ze2 W' T' v f:=by
 obtain ⟨g,i,j⟩:=h;exact ⟨g,i.step d (fun b k=>c b (.inl k)) a,fun n l m=>(j n l m).step d (fun x o=>c x (o.elim (fun e=>.inr (.inl ⟨n,e⟩)) fun e=>.inr (.inr e))) a⟩
theorem zi3.step {os:List OrderR} (h:zi3 W T v os) (e:Chg X W W') (d:∀x,T x=.book∨T x=.old→¬X x) (c:∀x,x<W.heap.size→T' x=T x):zi3 W' T' v os:=by
 obtain ⟨i,f,g⟩:=h;exact ⟨i,f.step e (fun b a=>d b (.inl a)) c,g.step e (fun b a=>d b (.inr a)) c⟩
theorem zhD.step {ss:List SaleR} (h:zhD W T v ss) (hc:Chg X W W') (hX:∀x,T x=.sales→¬X x) (hT:∀x,x<W.heap.size→T' x=T x):zhD W' T' v ss:=RowAt.step h hc hX hT
theorem zaw.step {p:Nat} {most:Int} {ns:List ByteArray} (h:zaw W (fun b=>T b=.names) p most ns) (g:Chg X W W') (e:∀x,T x=.names→¬X x) (d:∀x,x<W.heap.size→T' x=T x):zaw W' (fun b=>T' b=.names) p most ns:=by
 have c:=h.mono (R':=fun b=>T b=.names∧b<W.heap.size) fun b f a=>⟨a,f⟩;exact (c.chg g fun b _ a=>e b a.1).mono fun b _ a=>(d b a.2).trans a.1
theorem zar.step {p:Nat} {now:Int} {D:Int→Option Int} (h:zar W (fun b=>T b=.cal) p now D) (hc:Chg X W W') (hX:∀x,T x=.cal→¬X x) (hT:∀x,x<W.heap.size→T' x=T x):zar W' (fun b=>T' b=.cal) p now D:=
 (h.own.chg hc fun b _ hr=>hX b hr.1).mono fun b _ hr=>(hT b hr.2).trans hr.1
end
def zaf (W:World) (T:Nat→Part) (h K:Nat) (H:House):Prop:=∃pn pc va vl vb vs,HouseAt W T h pn pc va vl vb vs K H
def Own (T:Nat→Part):Nat→Prop:=fun b=>T b≠ .old∧T b≠ .no
structure Moves (W:World) (T:Nat→Part) (W':World) (T':Nat→Part):Prop where
 chg:Chg (Own T) W W'
 tag:∀b,b<W.heap.size→T' b=T b
theorem Moves.trans {W W1 W2:World} {T T1 T2:Nat→Part} (h:Moves W T W1 T1) (k:Moves W1 T1 W2 T2):Moves W T W2 T2:=
 ⟨h.chg.step k.chg fun b hb ho=>by unfold Own at*;rwa [h.tag b hb] at ho,fun b hb=>(k.tag b (lL hb h.chg.size)).trans (h.tag b hb)⟩
section
variable {W W':World} {T T':Nat→Part} {h pn pc K:Nat} {va vl vb vs:Value} {H:House}
theorem HouseAt.keep {X:Nat→Prop} (a:HouseAt W T h pn pc va vl vb vs K H) (c:Chg X W W') (d:∀b,T b≠ .no→¬X b):HouseAt W' T h pn pc va vl vb vs K H:=by
 have f:∀b P,T b=P→P≠ .no→T b≠ .no:=fun b P e k g=>k (e▸g);refine ⟨a.top,a.blk.chg c (d h (f h _ a.top (by simp))),a.names.step c (fun b e=>d b (f b _ e (by simp))) (fun _ _=>rfl),a.accs.step c (fun b e=>d b ?_) (fun _ _=>rfl),a.lots.step c (fun b e=>d b ?_) (fun _ _=>rfl),
  a.cal.step c (fun b e=>d b (f b _ e (by simp))) (fun _ _=>rfl),a.book.step c (fun b e=>d b ?_) (fun _ _=>rfl),a.sales.step c (fun b e=>d b (f b _ e (by simp))) (fun _ _=>rfl),fun b j=>a.out b (lT c.size j)⟩
 ·rcases e with e|⟨i,e⟩<;>exact f b _ e (by simp)
 ·rcases e with e|⟨i,e⟩|e<;>exact f b _ e (by simp)
 ·rcases e with e|e<;>exact f b _ e (by simp)
theorem HouseAt.grow (hH:HouseAt W T h pn pc va vl vb vs K H) (hb:Below W W W'):HouseAt W' T h pn pc va vl vb vs K H:=hH.keep (Chg.of (fun _=>False) hb) fun _ _=>id
theorem zaf.grow (a:zaf W T h K H) (b:Below W W W'):zaf W' T h K H:=by
 obtain ⟨d,c,e,g,f,i,a⟩:=a;exact ⟨d,c,e,g,f,i,a.grow b⟩
theorem zaf.keep {X:Nat→Prop} (a:zaf W T h K H) (d:Chg X W W') (c:∀b,T b≠ .no→¬X b):zaf W' T h K H:=by
 obtain ⟨f,e,g,j,i,k,a⟩:=a;exact ⟨f,e,g,j,i,k,a.keep d c⟩
theorem HouseAt.cells (hH:HouseAt W T h pn pc va vl vb vs K H):W.cell? ⟨h,0,none⟩=some (.pointer (some ⟨pn,0,none⟩))∧W.cell? ⟨h,1,none⟩=some va∧W.cell? ⟨h,2,none⟩=some vl∧W.cell? ⟨h,3,none⟩=some (.pointer (some ⟨pc,0,none⟩))∧W.cell? ⟨h,4,none⟩=some vb∧W.cell? ⟨h,5,none⟩=some vs∧h<W.heap.size:=
 ⟨hH.blk.cell 0,hH.blk.cell 1,hH.blk.cell 2,hH.blk.cell 3,hH.blk.cell 4,hH.blk.cell 5,hH.blk.lt⟩
theorem zcd.form {a:List Acc} (b:zcd W T va K a):∃A c,va=.slice A a.length c:=by
 obtain ⟨_,_,h,_⟩:=b;exact h.form
theorem ze2.form {a:List LotS} (b:ze2 W T vl a):∃A c,vl=.slice A a.length c:=by
 obtain ⟨_,h,_⟩:=b;exact h.form
end
def zcX (p:LotR):LotS:=⟨p,p.closes,false,[],⟨-1,0,0,p.closes⟩,0⟩
def zev (H:House) (p:LotR):Int:=if zbO p=false then 2 else if p.opens<H.now then 6 else if H.lots.length=4096 then 3 else 0
def zfl (H:House) (p:LotR):House:={H with lots:=H.lots++[zcX p],due:=upd H.due H.lots.length (some p.closes)}
abbrev OrderR.agg (o:OrderR) (v:Value):Value:=.agg (o.cells v).toArray
theorem zrd {W:World} {T:Nat→Part} {h pn pc K:Nat} {va vl vb vs:Value} {H:House} (Y:HouseAt W T h pn pc va vl vb vs K H) (o:OrderR) (vo:Value) (he:zev H o.put≠0):
  Calls Tryz.prog 96 #[.pointer (some ⟨h,0,none⟩),o.agg vo] W fun e W'=>e=.returned (.tuple #[(),(zev H o.put:Int)])∧Below W W W':=by
 obtain ⟨W1,g⟩:=nm (W.alloc (.cells (o.cells vo).toArray 61));have s:Below W W W1:=by rw[g];exact qA _
 have Z:Blk W1 W 61 (o.cells vo).toArray:=by rw[g];exact Blk.new _ _ _
 obtain ⟨A,c,B⟩:=Y.lots.form;have d:=fun w=>zjn o.put w;obtain ⟨z,f⟩:=nm (zev H o.put);rw[←f] at he ⊢;unfold zev at f;have H1:=hid (Y.grow s);have p:=hid s;have HX:=hid Z;have HVL:=hid B;obtain ⟨okind,oname,aa,M,olot,⟨I,j,q,C,O,r,J,x,F,v,N⟩,ooff,otick⟩:=o;have a:=Z;simp only[OrderR.agg,OrderR.cells,LotR.cells,List.cons_append,List.nil_append] at g a ⊢;obtain ⟨x5,x6,x7,x8,x9,P,Q,R,S,U,V⟩:_∧_∧_∧_∧_∧_∧_∧_∧_∧_∧_:=⟨a.cell 5,a.cell 6,a.cell 7,a.cell 8,a.cell 9,a.cell 10,a.cell 11,a.cell 12,a.cell 13,a.cell 14,a.cell 15⟩
 simp at x5 x6 x7 x8 x9 P Q R S U V
 simp only at d f
 cases hok:zbO ⟨I,j,q,C,O,r,J,x,F,v,N⟩ with
 |false=>
  rw[hok] at d f;simp only[if_true,Bool.false_eq_true,if_false] at d f;have t:=hid d;subst f;clear Y s Z a d hok he B;go_enter Tryz.func96,Tryz.ntmps96;go_wp2_with fail
  rw[←g];refine (t.out _).mono ?_;rintro e n ⟨rfl,i⟩;have l:=hid (p.out.trans (i.mono p.out.size));clear i g;go_wp2_with fail
  go_ret2
  exact ⟨rfl,l.out⟩
 |true=>
  rw[hok] at d f;simp only[if_true] at d;rw[if_neg (by decide)] at f;have t:=hid d;clear s Z a d hok x5 x6 x7 x8 x9 P Q R S U V B;go_enter Tryz.func96,Tryz.ntmps96;go_wp2_with fail
  rw[←g];refine (t.out _).mono ?_;rintro e n ⟨rfl,i⟩;have l:=hid (p.out.trans (i.mono p.out.size));have X:=hid (H1.out.grow i);have E:=hid (HX.out.grow i);clear i g;have x6:n.cell? ⟨W,6,none⟩=some ↑j:=E.out.cell 6;have xl:=E.out.lt;have c3:=X.out.cells.2.2.2.1;have c2:n.cell? ⟨h,2,none⟩=some (.slice A H.lots.length c):=X.out.cells.2.2.1.trans (by rw[HVL.out]);have hl:=X.out.blk.lt;obtain ⟨L,m⟩:=nm (H.now);have D:=hid (show zar n (fun b=>T b=.cal) pc L H.due by rw[m];exact X.out.cal);rw[←m] at f;obtain ⟨nl,y⟩:=nm (H.lots.length);rw[←y] at f c2;have HN:=hid y;clear m y Y;go_wp2_with fail
  refine zac (Below n n) [] (by kernel_rfl) (bR.drew) (fun k=>?_);refine tp 0 k ?_;refine tp 1 k ?_;have qq:=hid fun (w':World) (G:(Below n n) w')=>And.intro (qc G x6 xl)<|qc G c3 hl;refine tl 2 k qq ?_;refine tp 3 k ?_;refine tp 4 k ?_;refine tp 5 k ?_;refine tp 6 k ?_;refine tl 7 k qq ?_;refine stp 8 fun K hK=>?_;go_simp;refine (zc3 (W:=n.drew) (D.out.grow bR.drew)).mono ?_;rintro e W7 ⟨rfl,rfl⟩;refine hK.out _ _ ?_ (fun k=>?_)
  ·exact k
  clear hK K
  try simp only[Act.put,pb,pz,ps]
  refine tp 9 k ?_;refine tp 10 k ?_;refine zaa (by kernel_rfl) ?_ _;have HS:=hid k;clear k;have c2':n.drew.cell? ⟨h,2,none⟩=some (.slice A nl c):=c2;clear c2;by_cases h1:j<L
  ·rw[if_pos h1] at f;subst f;go_wp2_with fail
   go_ret2
   exact ⟨rfl,l.out.trans (HS.out.mono l.out.size)⟩
  ·rw[if_neg h1] at f;by_cases h2:nl=4096
   ·rw[if_pos h2] at f;subst f;subst h2;go_wp2_with fail
    go_ret2
    exact ⟨rfl,l.out.trans (HS.out.mono l.out.size)⟩
   ·rw[if_neg h2] at f;exact absurd f he
end Ho
end Go.Proofs.YtckdpejdnejhfaaGreat

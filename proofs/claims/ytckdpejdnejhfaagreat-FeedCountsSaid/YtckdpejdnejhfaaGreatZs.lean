/- Joined by program. -/
import Derived.Test.YtckdpejdnejhfaaGreatZr
import Derived.DeepKeys4
set_option linter.all false
set_option maxRecDepth 100000
set_option maxHeartbeats 32000000
namespace Go.Proofs.YtckdpejdnejhfaaGreat
open Lib (hid)
namespace Vb
open Go.RowKit
theorem zax.form {w:World} {lo n cap:Nat} {A:Option Addr} {bs:List (List Off)} (h:zax w lo (.slice A n cap) bs) (c:bs.length=n) (e:0<n):
  ∃g,A=some ⟨g,0,none⟩∧lo≤g∧g<w.heap.size∧n≤cap∧(∀i,w.frozen? ⟨g,i,none⟩=false)∧∀k,k<n→∃u,w.cell? ⟨g,k,none⟩=some u:=by
 obtain ⟨b,a,l⟩:=h;rw[c] at a;have j:=a.1
 rcases a.2 with ⟨_,h⟩|⟨g,cap',cur,hv,hg,hh,hnc,_⟩
 ·omega
 ·injection hv with hA _ hc
  subst hA hc;refine ⟨g,rfl,hg,(Array.getElem?_eq_some_iff.1 hh).1,hnc,fun i=>a.frozenAt i,fun k f=>?_⟩;have d:b[k]? =some b[k]:=gE (by omega);exact ⟨_,(a.cellAt k (by omega)).trans d⟩
theorem zax.set {w:World} {lo n cap g:Nat} {bs:List (List Off)} {l:List Off} {u:Value} (h:zax w lo (.slice (some ⟨g,0,none⟩) n cap) bs) (x:bs.length=n) (k:Nat)
  (v:zad w (fun b=>lo≤b∧b≠g) u l):zax (w.setCell ⟨g,k,none⟩ u) lo (.slice (some ⟨g,0,none⟩) n cap) (bs.set k l):=by
 subst x;obtain ⟨r,q,y⟩:=h;obtain ⟨s,t⟩:=q.stored k u;have p:r.length=bs.length:=by simpa using q.1
 have c:∀{u':Value} {i:List Off},zad w (fun b=>lo≤b∧(Value.slice (some ⟨g,0,none⟩) bs.length cap).ownBlock≠some b) u' i→zad (w.setCell ⟨g,k,none⟩ u) (fun b=>lo≤b∧(Value.slice (some ⟨g,0,none⟩) bs.length cap).ownBlock≠some b) u' i:=
  fun h=>h.grown t fun b _ f e=>f.2 (by rw[e];rfl)
 refine ⟨r.set k u,by simpa using s,fun j i a=>?_⟩;rw[List.getElem?_set] at a
 split at a
 ·rename_i d
  subst d
  split at a
  ·injection a with a
   subst a;exact ⟨u,by rw[List.getElem?_set];simp;omega,c (v.mono fun b _ f=>⟨f.1,fun e=>f.2 (by simp[Value.ownBlock] at e;exact e.symm)⟩)⟩
  ·cases a
 ·rename_i d
  obtain ⟨u',o,m⟩:=y j i a;exact ⟨u',by rw[List.getElem?_set,if_neg d];exact o,c m⟩
theorem zto (n:Int) (bs:List (List Off)) (a:Int) (l:List Off) (v v2:Value) (R R2:Nat→Prop) (w:World) (hl:zav w R v bs) (F:zad w R2 v2 l) (C:zbc n bs a l=0):
  Calls Tryz.prog 302 #[.agg #[n,v],a,v2] w fun e w'=>∃A' cap',e=.returned (.tuple #[.agg #[n,.slice A' bs.length cap'],()])∧
   zax w' w.heap.size (.slice A' bs.length cap') (bs.set a.toNat l)∧Below w w w':=by
 have I:zaj n bs=0:=by
  by_cases h:zaj n bs=0
  ·exact h
  ·unfold zbc at C;rw[if_pos h] at C;exact absurd C h
 have O:¬(a<0∨(bs.length:Int)≤a):=by
  intro h;unfold zbc at C;rw[if_neg (by simpa using I),if_pos h] at C
  omega
 have P:zas n l=0:=by unfold zbc at C;rwa [if_neg (by simpa using I),if_neg O] at C
 have hl8:l.length≤8:=by
  unfold zas at P
  split at P
  ·omega
  ·split at P
   ·omega
   ·omega
 have hsm:=hid (zia I);have V:=(zaE I).2.2.1;have hb0:0≤a:=by omega
 have E:a<bs.length:=by omega
 clear O C;obtain ⟨f,rfl⟩:=Int.eq_ofNat_of_zero_le hb0;rw[Int.toNat_natCast];have hbn:f<bs.length:=by omega
 obtain ⟨vs,⟨T,A,cap,rfl,hncap,Q,s⟩,hvs⟩:=id hl;obtain ⟨⟨_,A2,cap2,rfl,_⟩,_⟩:=id F;have HB:=hid hl;have D:=hid F;have HI:=hid I;have HC:=hid P;clear hl F s hvs T Q I P;go_enter Tryz.func302,Tryz.ntmps302
 go_wp2_with (first
  |(go_at_call 305;refine (zcr n bs _ R _ ((HB.out.alloc _).alloc _)).mono ?_;rintro e w1 ⟨rfl,E⟩;rw[HI.out];have o:=E.mono (B':=w.heap.size+2) (by simp);obtain ⟨cx0,cx1,cy0,cy1,fx,fy,hs1,y⟩:=zbP o;have X:=hid o;have J:=hid y;clear E o y)
  |(go_at_call 275;refine (zec n l _ R2 _ (D.out.grow J.out)).mono ?_;rintro e w2 ⟨rfl,M⟩;rw[HC.out];have q:=X.out.trans (M.mono hs1);obtain ⟨dx0,dx1,dy0,dy1,gx,gy,hs2,z⟩:=zbP q;have Y:=hid q;have K:=hid z;clear M q z cx0 cx1 cy0 cy1 fx fy)
  |(go_at_call 307;refine (zqH n bs _ R _ (HB.out.grow K.out) hsm.out).mono ?_;rintro e m ⟨A',cap',rfl,G,N⟩;obtain ⟨g,rfl,hg0,hg1,hnc,hgf,hgc⟩:=G.form rfl (by omega);have r:=Y.out.trans (N.mono hs2);obtain ⟨ex0,ex1,ey0,ey1,hx,hy,hs3,B⟩:=zbP r;have HB4:=hid r;have x:=hid B;have aa:=hid G;clear N r B G dx0 dx1 dy0 dy1 gx gy))
 obtain ⟨ug,hug⟩:=hgc f hbn;have hy1:(m.alloc (.cells #[n,.slice (some ⟨g,0,none⟩) bs.length cap'] 368)).cell? ⟨m,1,none⟩=some (.slice (some ⟨g,0,none⟩) bs.length cap'):=by simp
 have hy0:(m.alloc (.cells #[n,.slice (some ⟨g,0,none⟩) bs.length cap'] 368)).cell? ⟨m,0,none⟩=some ↑n:=by simp
 have S:(m.alloc (.cells #[n,.slice (some ⟨g,0,none⟩) bs.length cap'] 368)).frozen? ⟨g,f,none⟩=false:=(World.frozen?_of_block (w:=m) (Below.heap_alloc _ _ _ hg1)).trans (hgf f);have hbi0:(0:Int)≤(f:Int):=by omega
 go_region_held3 (fun w'=>w'.cell? ⟨m,1,none⟩=some (.slice (some ⟨g,0,none⟩) bs.length cap')) (go_keep)
  ((go_at_call 92;refine (zfA (Off.all l) l.length _ R2 _ (((D.out.grow x.out).alloc _).1.drew) (Off.all_one l) (by omega)).mono ?_;rintro e t ⟨H,d,rfl,j,c⟩;have e5:=qc c hy1 (by simp);have g5:=qc c ((za9 hug _)) (by simp;omega);have f5:=(c.frozen (p:=⟨g,f,none⟩) (by simp;omega)).trans S;have e6:=(World.cell?_setCell_other t ⟨g,f,none⟩ ⟨m,1,none⟩ (.slice H l.length d) (fun e=>by injection e with e;omega)).trans e5))
 have cy:∀i v,m.cell? ⟨w.heap.size+1,i,none⟩=some v→(t.setCell ⟨g,f,none⟩ (.slice H l.length d)).cell? ⟨w.heap.size+1,i,none⟩=some v:=fun i v h=>
  (World.cell?_setCell_other t ⟨g,f,none⟩ ⟨w.heap.size+1,i,none⟩ _ (fun e=>by injection e with e;omega)).trans (qc c (za9 h _) (by simp;omega))
 have r0:=cy 0 _ ey0;have r1:=cy 1 _ ey1;have rf:∀i,(t.setCell ⟨g,f,none⟩ (.slice H l.length d)).frozen? ⟨w.heap.size+1,i,none⟩=false:=fun i=>by
  rw[World.frozen?_setCell];exact (c.frozen (p:=⟨w.heap.size+1,i,none⟩) (by simp;omega)).trans ((World.frozen?_of_block (w:=m) (Below.heap_alloc _ _ _ (by simp;omega))).trans (hy i))
 have e60:(t.setCell ⟨g,f,none⟩ (.slice H l.length d)).cell? ⟨m,0,none⟩=some ↑n:=
  (World.cell?_setCell_other t ⟨g,f,none⟩ ⟨m,0,none⟩ _ (fun e=>by injection e with e;omega)).trans (qc c hy0 (by simp))
 have L:Hid (zax (t.setCell ⟨g,f,none⟩ (.slice H l.length d)) w2.heap.size (.slice (some ⟨g,0,none⟩) bs.length cap') (bs.set f l)):=by
  have h1:zax t w2.heap.size (.slice (some ⟨g,0,none⟩) bs.length cap') bs:=((aa.out.alloc _).drew).grow c;refine h1.set rfl f ⟨(Sl.of_own j).mono fun b _ hb=>?_,D.out.2⟩;have:=(j.lt b hb).1
  simp at this
  exact ⟨by omega,by omega⟩
 have Z:Hid (Below w w (t.setCell ⟨g,f,none⟩ (.slice H l.length d))):=
  ((x.out.alloc (by omega) _).drew.trans (c.mono (B':=w.heap.size) (by simp;omega))).setCell (p:=⟨g,f,none⟩) (show w.heap.size≤g by omega) _
 have U:=c.size
 simp at U
 clear c j e5 g5 f5 cy
 go_wp2
 refine bodyPost_ret (v:=.tuple #[.agg #[n,.slice (some ⟨g,0,none⟩) bs.length cap'],()]) (by simp[results,Tryz.results302,go_sem,r0,r1]) rfl ⟨_,_,rfl,?_,?_⟩
 ·refine ((L.out.far (grownBy_setCell _ ⟨w.heap.size+1,0,none⟩ _) ?_).far (grownBy_setCell _ ⟨w.heap.size+1,1,none⟩ _) ?_).mono (by omega)
  all_goals (intro k hk;simp at hk;omega)
 ·exact (Z.out.setCell (p:=⟨w.heap.size+1,0,none⟩) (by simp) _).setCell (p:=⟨w.heap.size+1,1,none⟩) (by simp) _
theorem zad.nil (w:World) (R:Nat→Prop):zad w R (.slice none 0 0) []:=
 ⟨⟨rfl,none,0,rfl,lR,zL,fun h=>absurd h (Nat.lt_irrefl _)⟩,fun o h=>by cases h⟩
theorem zmV (n:Int) (bs:List (List Off)) (a:Int) (v:Value) (R:Nat→Prop) (w:World) (h:zav w R v bs) (i:zbc n bs a []≠0):
  Calls Tryz.prog 294 #[.agg #[n,v],a] w fun e w'=>e=.returned (.tuple #[.agg #[(),.slice none 0 0],(zbc n bs a []:Int)])∧Below w w w':=by
 obtain ⟨t,⟨_,A,l,rfl,_⟩,_⟩:=id h;have j:=hid h;have k:=hid i;clear h i;go_enter Tryz.func294,Tryz.ntmps294
 go_wp2_with (go_at_call 302;refine (zse n bs a [] _ _ R R _ ((j.out.alloc _).alloc _) (zad.nil _ _) k.out).mono ?_;rintro e x ⟨rfl,g⟩;have c:=g.mono (B':=w.heap.size+2) (by simp);obtain ⟨m,o,d,f,r,s,q,b⟩:=zbP c)
 refine bodyPost_ret (v:=.tuple #[.agg #[(),.slice none 0 0],(zbc n bs a []:Int)]) (by simp[results,Tryz.results294,go_sem,d,f]) rfl ⟨rfl,?_⟩;exact (b.setCell (p:=⟨w.heap.size+1,0,none⟩) (by simp) _).setCell (p:=⟨w.heap.size+1,1,none⟩) (by simp) _
theorem zj4 (n:Int) (bs:List (List Off)) (a:Int) (v:Value) (R:Nat→Prop) (w:World) (l:zav w R v bs) (m:zbc n bs a []=0):
  Calls Tryz.prog 294 #[.agg #[n,v],a] w fun e w'=>∃A' cap',e=.returned (.tuple #[.agg #[n,.slice A' bs.length cap'],()])∧
   zax w' w.heap.size (.slice A' bs.length cap') (bs.set a.toNat [])∧Below w w w':=by
 obtain ⟨D,⟨_,A,s,rfl,_⟩,_⟩:=id l;have q:=hid l;have r:=hid m;clear l m;go_enter Tryz.func294,Tryz.ntmps294
 go_wp2_with (go_at_call 302;refine (zto n bs a [] _ _ R R _ ((q.out.alloc _).alloc _) (zad.nil _ _) r.out).mono ?_;rintro e E ⟨o,b,rfl,f,j⟩;have d:=j.mono (B':=w.heap.size+2) (by simp);obtain ⟨t,x,h,i,B,C,z,c⟩:=zbP d;have g:=hid f;clear f)
 refine bodyPost_ret (v:=.tuple #[.agg #[n,.slice o bs.length b],()]) (by simp[results,Tryz.results294,go_sem,h,i]) rfl ⟨_,_,rfl,?_,?_⟩
 ·refine ((g.out.far (grownBy_setCell _ ⟨w.heap.size+1,0,none⟩ _) ?_).far (grownBy_setCell _ ⟨w.heap.size+1,1,none⟩ _) ?_).mono (by simp;omega)
  all_goals (intro k y;simp at y;simp;omega)
 ·exact (c.setCell (p:=⟨w.heap.size+1,0,none⟩) (by simp) _).setCell (p:=⟨w.heap.size+1,1,none⟩) (by simp) _
end Vb
namespace Vb
def za8 (g:Nat→Int) (f:Nat) (best:Int) (o:Off):Int:=if andNot o.g f=0 then max best (o.c+g (andNot f o.g)) else best
def W:List (List Off)→Nat→Int
 |[],_=>0
 |l::bs,f=>l.foldl (za8 (W bs) f) (W bs f)
def ze3 (o:Off):Prop:=0<o.g∧o.g<1024∧1≤o.c∧o.c≤1099511627776
def Okb (bs:List (List Off)):Prop:=bs.length≤32∧∀l∈bs,l.length≤8∧∀o∈l,ze3 o
theorem znt {n:Nat} (f:n≤10) {o:Off} (j:o.wf) (h:zcN (2 ^ n-1) o=false):ze3 o∧o.g≤2 ^ n-1:=by
 simp only[zcN,Bool.or_eq_false_iff,beq_eq_false_iff_ne,Bool.not_eq_false',beq_iff_eq,decide_eq_false_iff_not] at h;obtain ⟨⟨⟨l,c⟩,m⟩,p⟩:=h;have r:2 ^ n≤1024:=lT (Nat.pow_le_pow_right (by omega) f) (by decide);have k:0<2 ^ n:=Nat.two_pow_pos n;have b:o.g≤2 ^ n-1:=by
  --o.g&&&(2^32-1-(2^n-1))=0
  unfold andNot at c
  apply Nat.le_of_lt_succ
  have:o.g<2 ^ n:=by
   apply Nat.lt_pow_two_of_testBit
   intro i q;by_cases hi32:i<32
   ·have a:(o.g&&&(4294967295-(2 ^ n-1))).testBit i=false:=by rw[c];simp
    rw[Nat.testBit_and] at a;have d:(4294967295-(2 ^ n-1)).testBit i=true:=by
     have e:4294967295-(2 ^ n-1)=2 ^ 32-(2 ^ n-1+1):=by omega
     rw[e,Nat.testBit_two_pow_sub_succ (by omega)]
     simp[hi32,Nat.testBit_two_pow_sub_one]
     omega
    rw[d,Bool.and_true] at a;exact a
   ·exact Nat.testBit_lt_two_pow (lL j.1 (by
     have:2 ^ 32≤2 ^ i:=Nat.pow_le_pow_right (by omega) (by omega)
     simpa using this))
  omega
 exact ⟨⟨by omega,by omega,by omega,by omega⟩,b⟩
theorem zfi {n:Int} {bs:List (List Off)} (j:∀l∈bs,∀o∈l,o.wf) (h:zaj n bs=0):Okb bs∧∀l∈bs,∀o∈l,o.g≤2 ^ n.toNat-1:=by
 obtain ⟨m,p,f,e,i⟩:=zaE h;have c:∀l∈bs,∀o∈l,ze3 o∧o.g≤2 ^ n.toNat-1:=by
  intro l a o b;have d:=i l a;have q:=e l a;unfold zas at d;rw[if_neg (by omega),if_neg (by omega)] at d
  cases c:zbB (2 ^ n.toNat-1) l with
  |some k=>rw[c] at d;simp at d
  |none=>exact znt (by omega) (j l a o b) ((zc7 _ l).1 c o b)
 exact ⟨⟨f,fun l a=>⟨e l a,fun o b=>(c l a o b).1⟩⟩,fun l a o b=>(c l a o b).2⟩
theorem zrT (g:Nat→Int) (f:Nat) (b:Int) (o:Off):b≤za8 g f b o:=by unfold za8;split<;>omega
theorem zeZ (g:Nat→Int) (f:Nat):∀(l:List Off) (b:Int),b≤l.foldl (za8 g f) b
 |[],_=>Int.le_refl _
 |o::l,b=>Int.le_trans (zrT g f b o) (zeZ g f l _)
theorem zm6 (g:Nat→Int) (f:Nat) (M:Int):∀(l:List Off) (b:Int),(∀o∈l,andNot o.g f=0→o.c+g (andNot f o.g)≤M)→b≤M→l.foldl (za8 g f) b≤M
 |[],_,_,hb=>hb
 |o::l,b,h,hb=>by
  refine zm6 g f M l _ (fun x hx=>h x (by simp[hx])) ?_;unfold za8
  split
  ·have:=h o (by simp) (by assumption)
   omega
  ·exact hb
theorem zdr:∀(bs:List (List Off)) (f:Nat),0≤W bs f
 |[],_=>Int.le_refl _
 |l::bs,f=>Int.le_trans (zdr bs f) (zeZ _ _ l _)
theorem W_le:∀(bs:List (List Off)) (f:Nat),(∀l∈bs,∀o∈l,ze3 o)→W bs f≤bs.length*1099511627776
 |[],_,_=>by simp[W]
 |l::bs,f,h=>by
  have h0:=fun f=>W_le bs f (fun l hl=>h l (by simp[hl]));refine zm6 _ _ _ l _ (fun o ho _=>?_) ?_
  ·have h1:=h0 (andNot f o.g);have h2:=(h l (by simp) o ho).2.2.2;simp only[List.length_cons]
   omega
  ·have h1:=h0 f;simp only[List.length_cons]
   omega
theorem Okb.W_le {bs:List (List Off)} (h:Okb bs) (k f:Nat):W (bs.drop k) f≤35184372088832:=by
 have c:=Vb.W_le (bs.drop k) f (fun l a o b=>(h.2 l (List.mem_of_mem_drop a)).2 o b);have d:(bs.drop k).length≤32:=by have:=h.1;simp;omega
 omega
theorem Okb.offer {bs:List (List Off)} (h:Okb bs) {k:Nat} {l:List Off} (hk:bs[k]? =some l) {j:Nat} {o:Off} (hj:l[j]? =some o):ze3 o:=
 (h.2 l (mG hk)).2 o (mG hj)
theorem Okb.len {bs:List (List Off)} (h:Okb bs) {k:Nat} {l:List Off} (hk:bs[k]? =some l):l.length≤8:=(h.2 l (mG hk)).1
theorem zh2 (a:Nat) (h:a<4294967296):andNot a 0=a:=by
 unfold andNot;have:(4294967295-0:Nat)=2 ^ 32-1:=by decide
 rw[this,Nat.and_two_pow_sub_one_eq_mod];exact Nat.mod_eq_of_lt (by omega)
theorem zoH:∀(bs:List (List Off)),(∀l∈bs,∀o∈l,ze3 o)→W bs 0=0
 |[],_=>rfl
 |l::bs,h=>by
  have h0:=zoH bs (fun l hl=>h l (by simp[hl]));simp only[W,h0];have:∀(l':List Off),(∀o∈l',ze3 o)→l'.foldl (za8 (W bs) 0) 0=0:=by
   intro l'
   induction l' with
   |nil=>intro _;rfl
   |cons o l' ih=>
    intro a;obtain ⟨c,d,_⟩:=a o (by simp);have:za8 (W bs) 0 0 o=0:=by unfold za8;rw[zh2 _ (by omega),if_neg (by omega)]
    rw[List.foldl_cons,this];exact ih (fun x b=>a x (by simp[b]))
  exact this l (h l (by simp))
theorem ztt {bs:List (List Off)} {k:Nat} {l:List Off} (h:bs[k]? =some l) (f:Nat):W (bs.drop k) f=l.foldl (za8 (W (bs.drop (k+1))) f) (W (bs.drop (k+1)) f):=by
 have a:k<bs.length:=(gS.1 h).1;rw[List.drop_eq_getElem_cons a];have:bs[k]=l:=by rw[gE a] at h;injection h
 rw[this]
 rfl
theorem ztZ (bs:List (List Off)) (f:Nat):W (bs.drop bs.length) f=0:=by simp[W]
end Vb
namespace Vb
open Go.RowKit
open Go.Maps (Keyed)
theorem laidOut:laidOutB Tryz.prog=true:=by kernel_rfl
theorem zrC:(422:TypeId)<Tryz.prog.types.size:=of_decide_eq_true (by kernel_rfl)
theorem zjK:Keyed Tryz.prog 422:=Keyed.of_law (deep_law_laid laidOut (m:=3) (by omega) zrC (by kernel_rfl) (by rw[Tryz.underlying422]))
theorem zpM:Tryz.prog.keyType 422=true:=by kernel_rfl
theorem zjJ:Tryz.prog.cellsOf 422=2:=by kernel_rfl
theorem intCells:Tryz.prog.cellsOf 3=1:=by kernel_rfl
theorem znL:Tryz.prog.cellsOf 149=1:=by kernel_rfl
theorem zqs:∃m,Tryz.prog.types.size=m+2:=⟨Tryz.prog.types.size-2,by
 have:2≤Tryz.prog.types.size:=of_decide_eq_true (by kernel_rfl)
 omega⟩
theorem zrB (k f:Int) (d:(Lit.int .i64 k).wf=true) (c:(Lit.int .u32 f).wf=true):∃kl,keyOf Tryz.prog 422 (.agg #[k,.int .u32 f])=some kl:=by
 obtain ⟨m,e⟩:=zqs;have a:(Value.agg #[k,.int .u32 f]).formed Tryz.prog 422=true:=by simp[Value.formed,Tryz.underlying422,zjJ]
 have b:Tryz.prog.keyLits (Tryz.prog.types.size+1) 422 [.int .i64 k,.int .u32 f]=some [.int .i64 k,.int .u32 f]:=by
  rw[e]
  simp[Program.keyLits,Tryz.underlying422,Tryz.underlying3,Tryz.underlying149,zjJ,intCells,znL,d,c]
 refine ⟨.string (keyBytes [.int .i64 k,.int .u32 f]),?_⟩;unfold keyOf;rw[Tryz.underlying422];simp only[zpM,a,Bool.and_self,if_true,Value.cells];rw[b]
 rfl
def zi6 (bs:List (List Off)) (key val:Value):Prop:=∃k f:Nat,k≤32∧f<1024∧key=.agg #[.int .i64 k,.int .u32 f]∧val=.int .i64 (W (bs.drop k) f)
def zhF:List Value:=(List.range 33).flatMap fun k=>(List.range 1024).map fun f=>.agg #[.int .i64 (k:Nat),.int .u32 (f:Nat)]
theorem zj6:zhF.length<maxLen:=by
 have:zhF.length=33792:=by
  simp only[zhF,List.length_flatMap,List.length_map,List.length_range]
  decide
 rw[this]
 decide
theorem zri (bs:List (List Off)):∀k v,zi6 bs k v→k∈zhF:=by
 rintro b c ⟨k,f,d,a,rfl,_⟩;exact List.mem_flatMap.2 ⟨k,List.mem_range.2 (by omega),List.mem_map.2 ⟨f,List.mem_range.2 a,rfl⟩⟩
theorem zqy (w:World):(zeroValue 2).run Tryz.prog w=.ok ↑() w:=by kernel_rfl
structure BoardAt (w:World) (B bb m:Nat) (n:Int) (v:Value) (bs:List (List Off)):Prop where
 c0:w.cell? ⟨bb,0,none⟩=some (.int .i64 n)
 c1:w.cell? ⟨bb,1,none⟩=some v
 c2:w.cell? ⟨bb,2,none⟩=some (.map (some m))
 buys:zav w (·<B) v bs
 hB:B≤m
 map:za3 Tryz.prog 422 2 w m (zi6 bs)
 ok:Okb bs
section
variable {w w':World} {B bb m:Nat} {n:Int} {v:Value} {bs:List (List Off)}
theorem BoardAt.grown (h:BoardAt w B bb m n v bs) (hg:w.grownBy w' (some m)) (hm:za3 Tryz.prog 422 2 w' m (zi6 bs)):BoardAt w' B bb m n v bs:=
 have hne:some bb≠some m:=fun e=>h.map.not_cells h.c0 (by injection e)
 ⟨hg.cell h.c0 hne,hg.cell h.c1 hne,hg.cell h.c2 hne,h.buys.grown hg (fun b _ hb e=>by injection e with e;have:=h.hB;omega),h.hB,hm,h.ok⟩
theorem BoardAt.keep (h:BoardAt w B bb m n v bs) (hg:w.grownBy w' (some m)) {p:Addr} {u:Value} (hc:w.cell? p=some u):w'.cell? p=some u:=hg.cell hc (fun e=>h.map.not_cells hc (by injection e))
theorem BoardAt.grow (h:BoardAt w B bb m n v bs) (hb:Below w w w'):BoardAt w' B bb m n v bs:=h.grown (zam hb _) (h.map.grow hb)
theorem BoardAt.alloc (h:BoardAt w B bb m n v bs) (o:Obj):BoardAt (w.alloc o) B bb m n v bs:=h.grow (bR.alloc lR o)
theorem below_drewN {B:Nat} {a w:World} (h:Below B a w) (n:Nat):Below B a (w.drewN n):=⟨h.os,h.tape,h.output,h.size,h.block⟩
theorem BoardAt.drewN (h:BoardAt w B bb m n v bs) (k:Nat):BoardAt (w.drewN k) B bb m n v bs:=⟨h.c0,h.c1,h.c2,h.buys,h.hB,h.map,h.ok⟩
theorem BoardAt.drew (h:BoardAt w B bb m n v bs):BoardAt w.drew B bb m n v bs:=⟨h.c0,h.c1,h.c2,h.buys,h.hB,h.map,h.ok⟩
end
theorem zj1 (B bb m:Nat) (n:Int) (v:Value) (bs:List (List Off)):∀(r k f:Nat) (kI fI:Int) (w:World),kI=k→fI=f→bs.length-k=r→k≤bs.length→f<1024→BoardAt w B bb m n v bs→
  Calls Tryz.prog 306 #[.pointer (some ⟨bb,0,none⟩),kI,.int .u32 fI] w fun e w'=>e=.returned ↑(W (bs.drop k) f:Int)∧BoardAt w' B bb m n v bs∧w.grownBy w' (some m):=by
 intro r
 induction r with
 |zero=>
  intro k f kI fI w S Q hr hk hf H;subst S Q;obtain rfl:k=bs.length:=by omega
  have hW:=ztZ bs f;obtain ⟨vs,⟨_,A,Z,rfl,_⟩,_⟩:=id H.buys;have d:=hid H;obtain ⟨c0,c1,c2,_,_,_,_⟩:=H;have HW:=hid hW;clear hW;go_enter Tryz.func306,Tryz.ntmps306
  go_wp2
  go_step3
  go_wp2
  (try rw[Exit.noGoto_ret])
  go_ret;rw[HW.out];exact ⟨rfl,d.out,zam bR _⟩
 |succ r ih=>
  intro k f kI fI w S Q hr hk hf H;subst S Q;have hlt:k<bs.length:=by omega
  have hr':bs.length-(k+1)=r:=by omega
  have HR:=hid hr';clear hr';have hl32:bs.length≤32:=H.ok.1;have hkb:((k:Int)==(bs.length:Int))=false:=by simp;omega
  obtain ⟨vs,⟨_,A,Z,rfl,hnc,_,I⟩,hvs⟩:=id H.buys;obtain ⟨bq,off,rfl,_,hbq,I⟩:=I (by omega);obtain ⟨l,V⟩:∃l,bs[k]? =some l:=⟨_,gE hlt⟩;obtain ⟨u,hu,hol⟩:=hvs k l V;have cl:=I k u hu;have d:=hid H;have HL:=hid V;have HO:=hid hol;have IH:=hid ih;obtain ⟨⟨_,A1,cap1,rfl,hnc1,_,a⟩,L⟩:=hol;have HC1:=hid a;have HWF:=hid L;have hl8:l.length≤8:=H.ok.len V;obtain ⟨c0,c1,c2,_,_,_,_⟩:=H;clear I hvs hu V ih hr a L;by_cases hf0:f=0
  ·have hf1:((f:Int)==0)=true:=by simp[hf0]
   have hW:W (bs.drop k) f=0:=by rw[hf0];exact zoH _ (fun l V=>(d.out.ok.2 l (List.mem_of_mem_drop V)).2)
   have HW:=hid hW;clear hW hf0;go_enter Tryz.func306,Tryz.ntmps306
   go_wp2
   go_step3
   go_wp2
   (try rw[Exit.noGoto_ret])
   go_ret;rw[HW.out];exact ⟨rfl,d.out,zam bR _⟩
  ·have hf1:((f:Int)==0)=false:=by simpa using hf0
   obtain ⟨kl,T⟩:=zrB k f (WalkArith.wf_i64 (by omega)) (WalkArith.wf_u32 (by omega));have HK:=hid T;have hca0:=za9 c2 (.cells #[(k:Nat),.int .u32 (f:Nat)] 422);have U:=(d.out.map.alloc (.cells #[(k:Nat),.int .u32 (f:Nat)] 422)).look zjK Tryz.underlying414 zqy T true;clear T
   rcases U with hrun|⟨vv,hrun,hgood⟩
   ·have hq:∀j,(Instr.lookup 414 (.map (some m)) (.agg #[(k:Nat),.int .u32 (f:Nat)]) true).run Tryz.prog ((w.alloc (.cells #[(k:Nat),.int .u32 (f:Nat)] 422)).drewN j)=.ok (.tuple #[(),false]) ((w.alloc (.cells #[(k:Nat),.int .u32 (f:Nat)] 422)).drewN j):=fun j=>hrun _ rfl;clear hrun;go_enter Tryz.func306,Tryz.ntmps306;go_wp2_with fail
    go_step3
    go_wp2_with fail
    go_quiet (fail)
    have G:BoardAt ((w.alloc (.cells #[(k:Nat),.int .u32 (f:Nat)] 422)).drewN nq) B bb m n _ bs:=(d.out.alloc _).drewN nq;have P:w.grownBy ((w.alloc (.cells #[(k:Nat),.int .u32 (f:Nat)] 422)).drewN nq) (some m):=zam (below_drewN (qA _) nq) _;have t:((w.alloc (.cells #[(k:Nat),.int .u32 (f:Nat)] 422)).drewN nq).cell? ⟨w,0,none⟩=some ↑k:=by simp
    have x:((w.alloc (.cells #[(k:Nat),.int .u32 (f:Nat)] 422)).drewN nq).cell? ⟨w,1,none⟩=some (.int .u32 f):=by simp
    have F:((w.alloc (.cells #[(k:Nat),.int .u32 (f:Nat)] 422)).drewN nq).heap.size=w.heap.size+1:=by simp
    clear hq
    generalize ((w.alloc (.cells #[(k:Nat),.int .u32 (f:Nat)] 422)).drewN nq)=W0 at G P t x F ⊢
    have M:=hid G;have HG0:=hid P;have HS0:=hid F;clear G P F
    go_wp2_with (go_at_call 306;refine (IH.out (k+1) f _ _ _ (by omega) rfl HR.out (by omega) hf M.out).mono ?_;rintro e w1 ⟨rfl,h,z⟩)
    have y:=HG0.out.trans z;have d0:=h.c0;have d1:=h.c1;have d2:=h.c2;have dl:=d.out.keep y cl;have q0:=M.out.keep z t;have q1:=M.out.keep z x;have hsz1:w.heap.size+1≤w1.heap.size:=by have:=z.size;have:=HS0.out;omega
    have HB1:=hid h;have HG1:=hid y;clear h z y t x c0 c1 c2 hca0
    go_step3
    go_wp2_with fail
    go_loopw [10,53] (fun s i wr=>∃j:Nat,j≤l.length∧i=.int .i64 j∧s=.int .i64 ((l.take j).foldl (za8 (W (bs.drop (k+1))) f) (W (bs.drop (k+1)) f))∧
      BoardAt wr B bb m n (.slice (some ⟨bq,off,none⟩) bs.length Z) bs∧w.grownBy wr (some m)∧wr.cell? ⟨w,0,none⟩=some ↑k∧wr.cell? ⟨w,1,none⟩=some (.int .u32 f)∧w.heap.size<wr.heap.size)
     (fun _ i _=>l.length-(intOf i).toNat)
    case atStart=>exact ⟨0,zL,rfl,rfl,HB1.out,HG1.out,q0,q1,by omega⟩
    case round=>
     obtain ⟨j,hj,rfl,rfl,q,C,r0,r1,hsr⟩:=hrel;have b:=hid q;have O:=hid C;by_cases hlj:j<l.length
     ·obtain ⟨b1,off1,rfl,_,h,a⟩:=HC1.out (by omega);obtain ⟨o,ho⟩:∃o,l[j]? =some o:=⟨_,gE hlj⟩;have e0:=d.out.keep C (a _ _ (Off.all_fst l j o ho));have e1:wr.cell? ⟨b1,off1+j*2+1,none⟩=some ↑o.c:=d.out.keep C (a _ _ (Off.all_snd l j o ho));obtain ⟨ho1,ho2,ho3,ho4⟩:=d.out.ok.offer HL.out ho;have G:=zdr (bs.drop (k+1)) (andNot f o.g);have hB1:=d.out.ok.W_le (k+1) (andNot f o.g);have D:(l.take (j+1)).foldl (za8 (W (bs.drop (k+1))) f) (W (bs.drop (k+1)) f)=za8 (W (bs.drop (k+1))) f ((l.take j).foldl (za8 (W (bs.drop (k+1))) f) (W (bs.drop (k+1)) f)) o:=by
       rw[List.take_add_one,ho,List.foldl_append]
       rfl
      have hbits:bits .andNot .u32 (o.g:Int) (f:Int)=((andNot o.g f:Nat):Int):=u32_andNot_nat o.g f (by omega) (by omega);have hbits2:bits .andNot .u32 (f:Int) (o.g:Int)=((andNot f o.g:Nat):Int):=u32_andNot_nat f o.g (by omega) (by omega);have hfo:andNot f o.g<1024:=Nat.lt_of_le_of_lt (zkz _ _) hf;have Y:=hid D;clear a D q C ho
      generalize hbest:(l.take j).foldl (za8 (W (bs.drop (k+1))) f) (W (bs.drop (k+1)) f)=best at*
      have HBE:=hid hbest;clear hbest;by_cases hfit:andNot o.g f=0
      ·have hfb:(((andNot o.g f:Nat):Int) !=0)=false:=by simp[hfit]
       have N:=hid hfit;have E:IntKind.i64.wrap (o.c+W (bs.drop (k+1)) (andNot f o.g))=o.c+W (bs.drop (k+1)) (andNot f o.g):=iW _ (by omega);have R:IntKind.i64.wrap ((k:Int)+1)=(k:Int)+1:=iW _ (by omega);have HS:=hid E;have HK1:=hid R;clear hfit E R;have E:=HS.out;have R:=HK1.out;go_wp2_with fail
       go_region_held3 (fun w'=>w'.cell? ⟨wr,0,none⟩=some (.int .u32 o.g)∧w'.cell? ⟨wr,1,none⟩=some ↑o.c) (go_keep)
        ((go_at_call 306;refine (IH.out (k+1) (andNot f o.g) _ _ _ (by omega) rfl HR.out (by omega) hfo ((b.out.alloc _).drew)).mono ?_;rintro e w2 ⟨rfl,hb2,J⟩;have z0:w2.cell? ⟨wr,0,none⟩=some (.int .u32 o.g):=(b.out.alloc _).drew.keep J (by simp);have z1:w2.cell? ⟨wr,1,none⟩=some ↑o.c:=(b.out.alloc _).drew.keep J (by simp)))
       have HB2:=hid hb2;have HG2:=hid J;clear hb2 J;go_wp2_with fail
       go_roundw
       case rel=>
        have p:wr.grownBy w2 (some m):=(zam ((qA _).drew) _:wr.grownBy (wr.alloc (.cells #[.int .u32 o.g,o.c] 191)).drew (some m)).trans HG2.out;refine ⟨j+1,by omega,by go_num,?_,HB2.out,O.out.trans p,b.out.keep p r0,b.out.keep p r1,by have:=p.size;omega⟩;rw[Y.out];unfold za8;rw[if_pos N.out]
        first|done|(congr 1;split<;>omega)
       case measure=>simp[intOf];omega
      ·have hfb:(((andNot o.g f:Nat):Int) !=0)=true:=by simp[hfit]
       have N:=hid hfit;clear hfit;go_wp2_with fail
       go_roundw
       case rel=>
        have p:wr.grownBy (wr.alloc (.cells #[.int .u32 o.g,o.c] 191)) (some m):=zam (qA _) _;refine ⟨j+1,by omega,by go_num,?_,b.out.alloc _,O.out.trans p,za9 r0 _,za9 r1 _,by simp;omega⟩;rw[Y.out];unfold za8;rw[if_neg N.out]
       case measure=>simp[intOf];omega
     ·obtain rfl:j=l.length:=by omega
      rw[List.take_length,←ztt HL.out f];have s2:=q.c2;have hw0:=zdr (bs.drop k) f;have hw1:=d.out.ok.W_le k f;obtain ⟨w5,hrun5,hm5,hg5⟩:=q.map.drew.store zjK Tryz.underlying414 Tryz.underlying2 (zri bs) zj6 HK.out (c:=W (bs.drop k) f) (WalkArith.wf_i64 (by omega)) ⟨k,f,by omega,hf,rfl,rfl⟩;have HM5:=hid hm5;have X:=hid hg5;clear q C hm5 hg5 d0 d1 d2 dl q0 q1;go_wp2_with fail
      go_region
      all_goals go_wp2_with fail
      all_goals (try rw[Exit.noGoto_ret])
      all_goals go_ret
      exact ⟨by simp,b.out.drew.grown X.out HM5.out,O.out.trans ((zam bR.drew _).trans X.out)⟩
   ·obtain ⟨k',f',_,_,K,rfl⟩:=hgood;have hkk:k'=k∧f'=f:=by simp at K;omega
    obtain ⟨rfl,rfl⟩:=hkk;clear K;have hq:∀j,(Instr.lookup 414 (.map (some m)) (.agg #[(k':Nat),.int .u32 (f':Nat)]) true).run Tryz.prog ((w.alloc (.cells #[(k':Nat),.int .u32 (f':Nat)] 422)).drewN j)=.ok (.tuple #[(W (bs.drop k') f':Int),true]) ((w.alloc (.cells #[(k':Nat),.int .u32 (f':Nat)] 422)).drewN j):=fun j=>hrun _ rfl;clear hrun;go_enter Tryz.func306,Tryz.ntmps306;go_wp2_with fail
    go_step3
    go_wp2_with fail
    go_quiet (fail)
    go_wp2_with fail
    (try rw[Exit.noGoto_ret])
    go_ret;exact ⟨by simp,(d.out.alloc _).drewN nq,zam (below_drewN (qA _) nq) _⟩
end Vb
namespace Vb
open Go.RowKit
theorem zmX {w:World} {R:Nat→Prop} {v:Value} {bs:List (List Off)} (h:zav w R v bs) {B:Nat} (hB:w.heap.size≤B):zav w (·<B) v bs:=
 h.mono fun b hlt _=>by omega
theorem zhJ {w:World} {R:Nat→Prop} {v:Value} {bs:List (List Off)} (h:zav w R v bs):∀l∈bs,∀o∈l,o.wf:=by
 obtain ⟨f,e,c⟩:=h;intro l b;obtain ⟨k,a⟩:=List.getElem?_of_mem b;obtain ⟨u,_,d⟩:=c k l a;exact d.2
theorem zf9 (n:Int) (bs:List (List Off)) (v:Value) (R:Nat→Prop) (w:World) (b:zav w R v bs) (c:Okb bs):
  Calls Tryz.prog 300 #[.agg #[n,v]] w fun e w'=>∃bb m,e=.returned (.pointer (some ⟨bb,0,none⟩))∧BoardAt w' w.heap.size bb m n v bs∧w.heap.size≤m∧Below w w w':=by
 obtain ⟨h,⟨_,A,a,rfl,_⟩,_⟩:=id b;have d:=hid b;clear b;have g:=@run_makeMap Tryz.prog;go_enter Tryz.func300,Tryz.ntmps300
 go_wp2
 go_ret;refine ⟨w.heap.size+1+1,w.heap.size+1,by simp,?_,by omega,((qA _).alloc (by simp) _).alloc (by simp;omega) _⟩;have f:za3 Tryz.prog 422 2 ((w.alloc (.cells #[n,.slice A bs.length a] 368)).alloc (.map #[] 0)) (w.heap.size+1) (zi6 bs):=by
  simpa using za3.made (P:=Tryz.prog) (kt:=422) (et:=2) (Good:=zi6 bs) (w.alloc (.cells #[n,.slice A bs.length a] 368))
 refine ⟨?_,?_,?_,?_,by omega,f.alloc _,c⟩
 ·go_simp
 ·go_simp
 ·go_simp
 ·exact ((zmX d.out lR).grow (((qA _).alloc (by simp) _).alloc (by simp;omega) _))
theorem zhA (n:Int) (A:Option Addr) (k c:Nat) (w:World):
  Calls Tryz.prog 293 #[.agg #[n,.slice A k c]] w fun e w'=>e=.returned (.int .u32 (allOf n:Nat))∧Below w w w':=by
 go_enter Tryz.func293,Tryz.ntmps293
 go_wp2_with (go_at_call 279;refine (zdT n _).mono ?_;rintro e w' ⟨rfl,rfl⟩)
 go_ret;exact ⟨rfl,qA _⟩
theorem ze1 {w w1:World} {b c1:Value} {t:TypeId} (a:Below (w.heap.size+1) (w.alloc (.cells #[b,c1] t)) w1):
  w1.cell? ⟨w,0,none⟩=some b∧w1.cell? ⟨w,1,none⟩=some c1∧(∀i,w1.frozen? ⟨w,i,none⟩=false)∧w.heap.size+1≤w1.heap.size∧Below w w w1:=by
 have c:=a.size
 simp at c
 exact ⟨qc a (by simp) (by simp),(qc a (by simp) (by simp)),
  fun i=>(a.frozen (p:=⟨w,i,none⟩) (by simp)).trans (by simp),c,(qA _).trans (a.mono (by omega))⟩
theorem zmw (a:Nat) (h:a<4294967296):andNot a a=0:=by
 unfold andNot
 apply Nat.eq_of_testBit_eq
 intro i;rw[Nat.testBit_and,Nat.zero_testBit];by_cases hi:i<32
 ·have e:4294967295-a=2 ^ 32-(a+1):=by omega
  rw[e,Nat.testBit_two_pow_sub_succ (by omega)]
  cases a.testBit i<;>simp
 ·have:a.testBit i=false:=Nat.testBit_lt_two_pow (lL h (by
   have:2 ^ 32≤2 ^ i:=Nat.pow_le_pow_right (by omega) (by omega)
   simpa using this))
  rw[this]
  rfl
theorem zki (n:Int) (bs:List (List Off)) (v:Value) (R:Nat→Prop) (w:World) (l:zav w R v bs):
  Calls Tryz.prog 299 #[.agg #[n,v],(),.int .u32 (allOf n:Nat)] w fun e w'=>e=.returned ↑(zaj n bs:Int)∧Below w w w':=by
 obtain ⟨z,⟨_,A,r,rfl,_⟩,_⟩:=id l;have o:=hid l;clear l;have b:=zmw (allOf n) (ziB n);have h:=ziB n;by_cases hi:zaj n bs=0
 ·have j:=hid hi;have k:=hid b;clear hi b;have x:¬((bs.length:Int)<0):=by omega
  go_enter Tryz.func299,Tryz.ntmps299
  go_wp2_with (first
   |(go_at_call 305;refine (zcr n bs _ R _ (o.out.alloc _)).mono ?_;rintro e y ⟨rfl,c⟩;rw[j.out];have a:=c.mono (B':=w.heap.size+1) (by simp);obtain ⟨p,q,s,m,d⟩:=ze1 a;have f:=hid d;clear d c a)
   |(go_at_call 293;refine (zhA n _ _ _ _).mono ?_;rintro e B ⟨rfl,g⟩;have i:=hid g;clear g)
   |(go_at_call 281;refine (zdS _ _ h h _).mono ?_;rintro e C ⟨rfl,rfl⟩;rw[k.out]))
  go_ret;exact ⟨by rw[j.out];rfl,f.out.trans (i.out.mono f.out.size)⟩
 ·have t:(zaj n bs !=0)=true:=by simpa using hi
  clear b;have j:=hid hi;clear hi;go_enter Tryz.func299,Tryz.ntmps299
  go_wp2_with (go_at_call 305;refine (zcr n bs _ R _ (o.out.alloc _)).mono ?_;rintro e y ⟨rfl,c⟩;have a:=c.mono (B':=w.heap.size+1) (by simp);obtain ⟨p,q,s,m,d⟩:=ze1 a;have f:=hid d;clear d c a)
  go_ret;exact ⟨rfl,f.out⟩
theorem zi7 {n:Int} (h:n≤10):allOf n<1024:=by
 unfold allOf
 split
 ·omega
 ·have b:2 ^ n.toNat≤1024:=lT (Nat.pow_le_pow_right (by omega) (show n.toNat≤10 by omega)) (by decide);have a:0<2 ^ n.toNat:=Nat.two_pow_pos _
  omega
def zfx (n:Int) (bs:List (List Off)):Int:=if zaj n bs=0 then W bs (allOf n) else 0
theorem zqV (n:Int) (bs:List (List Off)) (v:Value) (R:Nat→Prop) (w:World) (l:zav w R v bs):
  Calls Tryz.prog 303 #[.agg #[n,v],(),.int .u32 (allOf n:Nat)] w fun e w'=>e=.returned (.tuple #[(zfx n bs:Int),(zaj n bs:Int)])∧Below w w w':=by
 obtain ⟨L,⟨_,A,H,rfl,_⟩,_⟩:=id l;have o:=hid l;have B:=hid (zhJ l);clear l;by_cases hi:zaj n bs=0
 ·have g:zfx n bs=W bs (allOf n):=by unfold zfx;rw[if_pos hi]
  have t:=zi7 (zaE hi).2.1;have y:=hid (zfi B.out hi).1;have r:=hid hi;have s:=hid g;clear hi g;go_enter Tryz.func303,Tryz.ntmps303
  go_wp2_with (first
   |(go_at_call 299;refine (zki n bs _ R _ (o.out.alloc _)).mono ?_;rintro e K ⟨rfl,c⟩;rw[r.out];have a:=c.mono (B':=w.heap.size+1) (by simp);obtain ⟨F,G,I,z,d⟩:=ze1 a;have b:=hid d;clear d c a)
   |(go_at_call 300;refine (zf9 n bs _ R _ (o.out.grow b.out) y.out).mono ?_;rintro e M ⟨E,m,rfl,i,C,h⟩;have p:=hid i;have D:=hid C;have f:=hid h;clear i C h)
   |(go_at_call 306;refine (zj1 _ E m n _ bs _ 0 (allOf n) _ _ _ rfl rfl rfl (by omega) t p.out).mono ?_;rintro e N ⟨rfl,x,j⟩;have q:=hid j;clear x j))
  go_ret2
  refine ⟨by rw[s.out,r.out];rfl,?_⟩;exact (b.out.trans (f.out.mono b.out.size)).grown q.out (by have:=b.out.size;have:=f.out.size;omega) (fun k e=>by injection e with e;have:=D.out;have:=b.out.size;omega)
 ·have g:zfx n bs=0:=by unfold zfx;rw[if_neg hi]
  have J:(zaj n bs !=0)=true:=by simpa using hi
  have r:=hid hi;have s:=hid g;clear hi g;go_enter Tryz.func303,Tryz.ntmps303
  go_wp2_with (go_at_call 299;refine (zki n bs _ R _ (o.out.alloc _)).mono ?_;rintro e K ⟨rfl,c⟩;have a:=c.mono (B':=w.heap.size+1) (by simp);obtain ⟨F,G,I,z,d⟩:=ze1 a;have b:=hid d;clear d c a)
  go_ret2
  exact ⟨by rw[s.out];rfl,b.out⟩
theorem ztY (n:Int) (bs:List (List Off)) (v:Value) (R:Nat→Prop) (w:World) (g:zav w R v bs):
  Calls Tryz.prog 295 #[.agg #[n,v]] w fun e w'=>e=.returned (.tuple #[(zfx n bs:Int),(zaj n bs:Int)])∧Below w w w':=by
 obtain ⟨m,⟨_,A,b,rfl,_⟩,_⟩:=id g;have h:=hid g;clear g;have i:(w.alloc (.cells #[n,.slice A bs.length b] 368)).cell? ⟨w,0,none⟩=some ↑n:=by simp
 have j:(w.alloc (.cells #[n,.slice A bs.length b] 368)).cell? ⟨w,1,none⟩=some (.slice A bs.length b):=by simp
 go_enter Tryz.func295,Tryz.ntmps295;go_wp2_with fail
 go_region_held3 (fun w'=>w'.cell? ⟨w,0,none⟩=some ↑n∧w'.cell? ⟨w,1,none⟩=some (.slice A bs.length b)) (go_keep)
  (first
   |(go_at_call 293;refine (zhA n _ _ _ _).mono ?_;rintro e o ⟨rfl,c⟩;have k:=qc c i (by simp);have l:=qc c j (by simp);have a:=hid c;clear c)
   |(go_at_call 303;refine (zqV n bs _ R _ (((h.out.alloc _).drew).grow a.out)).mono ?_;rintro e p ⟨rfl,d⟩;have q:=qc d k (by have:=a.out.size;simp at this;simp;omega);have r:=qc d l (by have:=a.out.size;simp at this;simp;omega);have f:=hid d;clear d))
 all_goals go_wp2_with fail
 all_goals go_ret2
 all_goals refine ⟨by simp,?_⟩
 all_goals exact (qA _).drew.trans ((a.out.mono (by simp)).trans (f.out.mono (by have:=a.out.size;simp at this;omega)))
def Blk (w:World) (g:Nat) (t:TypeId) (cs:Array Value):Prop:=w.heap[g]? =some (.cells cs t (0,0))
section
variable {w w':World} {g:Nat} {t:TypeId} {cs:Array Value}
theorem Blk.lt (h:Blk w g t cs):g<w.heap.size:=by
 rcases Nat.lt_or_ge g w.heap.size with hlt|hge
 ·exact hlt
 ·unfold Blk at h;rw[Array.getElem?_eq_none hge] at h;cases h
theorem Blk.cell (h:Blk w g t cs) (i:Nat):w.cell? ⟨g,i,none⟩=cs[i]? :=cell_of_row w g i cs t (0,0) h
theorem Blk.frozen (h:Blk w g t cs) (i:Nat):w.frozen? ⟨g,i,none⟩=false:=by
 unfold Blk at h
 simp[World.frozen?,h]
theorem Blk.new (w:World) (t:TypeId) (cs:Array Value):Blk (w.alloc (.cells cs t)) w.heap.size t cs:=heap_alloc_new w _
theorem Blk.drew (h:Blk w g t cs):Blk w.drew g t cs:=h
theorem Blk.alloc (h:Blk w g t cs) (o:Obj):Blk (w.alloc o) g t cs:=(Below.heap_alloc w o g h.lt).trans h
theorem Blk.set_ (h:Blk w g t cs) (i:Nat) (u:Value):Blk (w.setCell ⟨g,i,none⟩ u) g t (cs.setIfInBounds i u):=by
 unfold Blk at h ⊢
 simp[World.setCell,Array.getElem?_modify,h]
theorem Blk.far (h:Blk w g t cs) {p:Addr} (hp:g≠p.block) (u:Value):Blk (w.setCell p u) g t cs:=(Below.heap_setCell w p u g hp).trans h
theorem Blk.below {B:Nat} (h:Blk w g t cs) (hb:Below B w w') (hg:g<B):Blk w' g t cs:=(hb.block g hg).trans h
theorem Blk.grow (h:Blk w g t cs) (hb:Below w w w'):Blk w' g t cs:=(hb.block g h.lt).trans h
theorem Blk.grown {row:Option Nat} (h:Blk w g t cs) (hb:w.grownBy w' row) (hg:some g≠row):Blk w' g t cs:=(hb.block g h.lt hg).trans h
end
theorem zcK {a b c:World} {row row2:Option Nat} (h:a.grownBy b row) (hg:b.grownBy c row2) (hr:∀g,row2=some g→a.heap.size≤g):a.grownBy c row:=
 ⟨hg.os.trans h.os,hg.tape.trans h.tape,hg.output.trans h.output,lT h.size hg.size,fun i hi hne=>(hg.block i (lL hi h.size) (fun e=>by have:=hr i e.symm;omega)).trans (h.block i hi hne)⟩
theorem BoardAt.far {w w':World} {B bb m:Nat} {n:Int} {v:Value} {bs:List (List Off)} {row:Option Nat} (h:BoardAt w B bb m n v bs) (hg:w.grownBy w' row) (hr:∀g,row=some g→bb<g∧m<g):BoardAt w' B bb m n v bs:=
 have hne:some bb≠row:=fun e=>by have:=hr bb e.symm;omega
 ⟨hg.cell h.c0 hne,hg.cell h.c1 hne,hg.cell h.c2 hne,h.buys.grown hg (fun b _ hb e=>by have:=hr b e.symm;have:=h.hB;omega),h.hB,h.map.grown hg (fun e=>by have:=hr m e.symm;omega),h.ok⟩
def zbW (g:Nat→Int) (f:Nat) (left:Int) (o:Off):Bool:=decide (andNot o.g f=0)&&decide (o.c+g (andNot f o.g)=left)
def zbL (g:Nat→Int) (f:Nat) (left:Int):List Off→Option (Nat×Nat)
 |[]=>none
 |o::l=>if zbW g f left o then some (0,o.g) else (zbL g f left l).map fun p=>(p.1+1,p.2)
def zdN (g:Nat→Int) (f:Nat) (left:Int) (l:List Off):Int×Nat:=match zbL g f left l with|some (j,o)=>((j:Int),andNot f o)|none=>(-1,f)
def choose:List (List Off)→Nat→List Int
 |[],_=>[]
 |l::bs,f=>(zdN (W bs) f (W (l::bs) f) l).1::choose bs (zdN (W bs) f (W (l::bs) f) l).2
theorem zbz:∀(bs:List (List Off)) (f:Nat),(choose bs f).length=bs.length
 |[],_=>rfl
 |l::bs,f=>by simp[choose,zbz bs]
theorem zh3 {bs:List (List Off)} {k:Nat} {l:List Off} (h:bs[k]? =some l) (f:Nat):
  choose (bs.drop k) f=(zdN (W (bs.drop (k+1))) f (W (bs.drop k) f) l).1::choose (bs.drop (k+1)) (zdN (W (bs.drop (k+1))) f (W (bs.drop k) f) l).2:=by
 have a:k<bs.length:=(gS.1 h).1;rw[List.drop_eq_getElem_cons a];have:bs[k]=l:=by rw[gE a] at h;injection h
 rw[this]
 rfl
theorem zij (g:Nat→Int) (f:Nat) (left:Int):∀l:List Off,(∀o∈l,zbW g f left o=false)→zbL g f left l=none
 |[],_=>rfl
 |o::l,h=>by simp[zbL,h o (by simp),zij g f left l (fun x hx=>h x (by simp[hx]))]
theorem zik (g:Nat→Int) (f:Nat) (left:Int):∀(l:List Off) (k:Nat) (o:Off),l[k]? =some o→zbW g f left o=true→(∀j x,j<k→l[j]? =some x→zbW g f left x=false)→zbL g f left l=some (k,o.g)
 |[],k,o,h,_,_=>by simp at h
 |x::l,0,o,h,hb,_=>by simp at h;subst h;simp[zbL,hb]
 |x::l,k+1,o,h,hb,hn=>by
  have h0:=hn 0 x (by omega) rfl;have:=zik g f left l k o (by simpa using h) hb (fun j y hj hy=>hn (j+1) y (by omega) (by simpa using hy))
  simp[zbL,h0,this]
theorem zog {g:Nat→Int} {f:Nat} {a:Int} {l:List Off} (h:∀j x,j<l.length→l[j]? =some x→zbW g f a x=false):zdN g f a l=(-1,f):=by
 unfold zdN;rw[zij g f a l (fun o c=>?_)];obtain ⟨j,b,rfl⟩:=List.getElem_of_mem c;exact h j _ b (gE b)
theorem zoh {g:Nat→Int} {f:Nat} {a:Int} {l:List Off} {k:Nat} {o:Off} (b:l[k]? =some o) (c:zbW g f a o=true) (d:∀j x,j<k→l[j]? =some x→zbW g f a x=false):
  zdN g f a l=((k:Int),andNot f o.g):=by
 unfold zdN;rw[zik g f a l k o b c d]
def zgA (floor:Int) (l:List Sec) (j:Nat):Int:=match zbx floor (j:Int) l l.length with|none=>floor|some (_,c)=>c
def zcs (floor:Int) (l:List Sec):Value:=match zbx floor (-1) l l.length with
 |none=>.agg #[.bool false,.int .i64 0,.int .i64 0,.int .i64 0]
 |some (j,c)=>.agg #[.bool true,.int .i64 ((l[j]?.map (·.b)).getD 0),.int .i64 c,.int .i64 (zgA floor l j)]
theorem zqG (floor:Int) (l:List Sec) (v:Value) (R:Nat→Prop) (w:World) (hl:zer w R v l):
  Calls Tryz.prog 253 #[floor,v] w fun e w'=>e=.returned (zcs floor l)∧Below w w w':=by
 have HL:=hid hl;obtain ⟨⟨_,A,cap,rfl,hncap,ab,m⟩,_⟩:=hl;unfold maxLen at ab;have HC:=hid m;clear m
 cases hbk:zbx floor (-1) l l.length with
 |none=>
  have hs:zcs floor l=.agg #[false,(),(),()]:=by unfold zcs;rw[hbk]
  have HS:=hid hs;have x:=hid hbk;clear hs hbk;have N:atI none=-1:=rfl;go_enter Tryz.func253,Tryz.ntmps253
  go_wp2_with (go_at_call 255;refine (zgW floor (-1) l _ R _ (HL.out.alloc _)).mono ?_;rintro e a ⟨rfl,h⟩;rw[x.out,N];have t:=(Blk.new w 331 #[false,(),(),()]).grow h;have q0:=t.cell 0;have q1:=t.cell 1;have q2:=t.cell 2;have q3:=t.cell 3;have qf:=t.frozen;simp at q0 q1 q2 q3;have HK:=hid t;have n:=hid ((qA _).trans (h.mono (B':=w.heap.size) (by simp)));clear h t)
  have f:=(((HK.out.set_ 0 ↑false).set_ 1 ↑()).set_ 2 ↑()).set_ 3 ↑();have S:=f.cell 0;have T:=f.cell 1;have U:=f.cell 2;have V:=f.cell 3
  simp at S T U V
  rw[HS.out];refine bodyPost_ret (v:=.agg #[false,(),(),()]) (by simp[results,Tryz.results253,go_sem,S,T,U,V]) rfl ⟨rfl,?_⟩;exact (((n.out.setCell (p:=⟨w,0,none⟩) (by simp) _).setCell (p:=⟨w,1,none⟩) (by simp) _).setCell (p:=⟨w,2,none⟩) (by simp) _).setCell (p:=⟨w,3,none⟩) (by simp) _
 |some p=>
  obtain ⟨j,c⟩:=p;obtain ⟨hj,s,B,O⟩:=zdy hbk;have x:=hid hbk;have HSJ:=hid B;obtain ⟨bb,P,rfl,_,y,z⟩:=HC.out (by omega);have c0:w.cell? ⟨bb,P+j*2,none⟩=some ↑s.b:=z _ _ (Sec.all_fst l j s B);have c1:w.cell? ⟨bb,P+j*2+1,none⟩=some ↑c:=by rw[←O];exact z _ _ (Sec.all_snd l j s B)
  have C0:=hid c0;have C1:=hid c1;have HSC:=hid O;have N:atI (some (j,c))=(j:Int):=rfl;have e1:(0:Int)≤(j:Int):=by omega
  have e2:(j:Int)<(l.length:Int):=by omega
  have HCS:=hid z;clear hbk B O c0 c1 z;go_enter Tryz.func253,Tryz.ntmps253
  go_wp2_with (go_at_call 255;refine (zgW floor (-1) l _ R _ (HL.out.alloc _)).mono ?_;rintro e a ⟨rfl,h⟩;rw[x.out,N];have t:=(Blk.new w 331 #[false,(),(),()]).grow h;have hb:=((Below.refl w.heap.size w).alloc lR (.cells #[false,(),(),()] 331)).trans (h.mono (B':=w.heap.size) (by simp));have c0:=qc hb C0.out y;have c1:=qc hb C1.out y;have HK:=hid t;have n:=hid hb;clear h t hb)
  have D:bb<a.heap.size:=lL y n.out.size;have q:=n.out.size;have hkl:=HK.out.lt;refine zac (Below a a) [13] (by kernel_rfl) (bR.drew) (fun d=>?_);refine tp 0 d ?_;refine tp 1 d ?_;refine tp 2 d ?_;refine tp 3 d ?_;have qq:=hid fun (w':World) (Z:(Below a a) w')=>And.intro (qc Z c0 D)<|qc Z c1 D;refine tl 4 d qq ?_;refine tp 5 d ?_;refine tp 6 d ?_;refine tp 7 d ?_;refine tp 8 d ?_;refine tl 9 d qq ?_;refine tp 10 d ?_;refine tp 11 d ?_;refine stp 12 fun K Y=>?_;go_simp;refine Y.out _ _ ?_ (fun d=>?_)
  ·exact d.alloc d.size _
  clear Y K
  try simp only[Act.put,pb,pz,ps]
  refine stf 13 fun K Y=>?_;go_simp;refine Y.out _ _ ?_;clear Y K
  try simp only[Act.put,pb,pz,ps]
  refine zaa (by kernel_rfl) ?_ _;go_wp2_with fail
  refine (zgW floor (j:Int) l _ R _ (HL.out.grow (n.out.trans (((Below.refl a.heap.size a).alloc lR (.cells #[true,s.b,c,floor] 331)).drew.mono (B':=w.heap.size) q)))).mono ?_;rintro e w2 ⟨rfl,aa⟩;have k:=aa.mono (B':=a.heap.size+1) (by simp);have hR:=HK.out.grow (((Below.refl a.heap.size a).alloc lR (.cells #[true,s.b,c,floor] 331)).drew.trans (k.mono (by omega)));have hN:Blk w2 a 331 #[true,s.b,c,floor]:=(Blk.new a 331 #[true,s.b,c,floor]).drew.below k (by omega);have X:=(n.out.alloc q (.cells #[true,s.b,c,floor] 331)).drew.trans (k.mono (B':=w.heap.size) (by omega));have G:zcs floor l=.agg #[true,s.b,c,(zgA floor l j:Int)]:=by
   unfold zcs;rw[x.out];simp only[HSJ.out,Option.map_some,Option.getD_some]
  have C:=hid G;have L:=hid hR;have I:=hid hN;have H:=hid X;clear aa k hR hN X G d
  cases hbk2:zbx floor (j:Int) l l.length with
  |none=>
   have r:zgA floor l j=floor:=by unfold zgA;rw[hbk2]
   have J:=hid r;have n0:=I.out.cell 0;have n1:=I.out.cell 1;have n2:=I.out.cell 2;have n3:=I.out.cell 3;have S:=L.out.cell 0;have T:=L.out.cell 1;have U:=L.out.cell 2;have V:=L.out.cell 3;have rf:=L.out.frozen;have f:=(((L.out.set_ 0 ↑true).set_ 1 ↑s.b).set_ 2 ↑c).set_ 3 ↑floor;have s0:=f.cell 0;have s1:=f.cell 1;have s2:=f.cell 2;have s3:=f.cell 3
   simp at n0 n1 n2 n3 S T U V s0 s1 s2 s3
   have i:atI none=-1:=rfl;rw[i];clear hbk2 r f;go_wp2_with fail
   rw[C.out,J.out];refine bodyPost_ret (v:=.agg #[true,s.b,c,floor]) (by simp[results,Tryz.results253,go_sem,s0,s1,s2,s3]) rfl ⟨rfl,?_⟩;exact (((H.out.setCell (p:=⟨w,0,none⟩) (by simp) _).setCell (p:=⟨w,1,none⟩) (by simp) _).setCell (p:=⟨w,2,none⟩) (by simp) _).setCell (p:=⟨w,3,none⟩) (by simp) _
  |some p2=>
   obtain ⟨Q,M⟩:=p2;obtain ⟨hj2,s2,F,E⟩:=zdy hbk2;have r:zgA floor l j=M:=by unfold zgA;rw[hbk2]
   have J:=hid r;have i:atI (some (Q,M))=(Q:Int):=rfl;have e3:(0:Int)≤(Q:Int):=by omega
   have e4:(Q:Int)<(l.length:Int):=by omega
   have d1:w2.cell? ⟨bb,P+Q*2+1,none⟩=some ↑M:=by rw[←E];exact qc H.out (HCS.out _ _ (Sec.all_snd l Q s2 F)) y
   have n3:w2.cell? ⟨a,3,none⟩=some ↑floor:=I.out.cell 3;have nf:w2.frozen? ⟨a,3,none⟩=false:=I.out.frozen 3;have o:=I.out.set_ 3 ↑M;have g:=L.out.far (p:=⟨a,3,none⟩) (show w.heap.size≠a.heap.size by omega) ↑M;have m0:=o.cell 0;have m1:=o.cell 1;have m2:=o.cell 2;have m3:=o.cell 3;have S:=g.cell 0;have T:=g.cell 1;have U:=g.cell 2;have V:=g.cell 3;have rf:=g.frozen;have f:=(((g.set_ 0 ↑true).set_ 1 ↑s.b).set_ 2 ↑c).set_ 3 ↑M;have s0:=f.cell 0;have s1:=f.cell 1;have s2':=f.cell 2;have s3:=f.cell 3
   simp at m0 m1 m2 m3 S T U V s0 s1 s2' s3
   rw[i];clear hbk2 r f o g F E i;go_wp2_with fail
   rw[C.out,J.out];refine bodyPost_ret (v:=.agg #[true,s.b,c,M]) (by simp[results,Tryz.results253,go_sem,s0,s1,s2',s3]) rfl ⟨rfl,?_⟩;exact ((((H.out.setCell (p:=⟨a,3,none⟩) q _).setCell (p:=⟨w,0,none⟩) (by simp) _).setCell (p:=⟨w,1,none⟩) (by simp) _).setCell (p:=⟨w,2,none⟩) (by simp) _).setCell (p:=⟨w,3,none⟩) (by simp) _
end Vb
namespace Vb
open Go.RowKit
open Go.Maps (Keyed)
def zdq (P:Program) (kt et:TypeId) (w:World) (b n:Nat) (F:Int→Option Int):Prop:=
 ∃D:DataW Unit,Maps.IsMap D∧w.ownsMap P kt (plainElem P et) b n D∧∀x z,D.atKey (.int .i64 x) z=match F x with|some v=>.lit (.int .i64 v)|none=>z
section
variable {P:Program} {kt et t:TypeId} {w w':World} {b n:Nat} {F:Int→Option Int}
theorem zdq.lt (h:zdq P kt et w b n F):b<w.heap.size:=let ⟨_,_,h2,_⟩:=h;h2.lt
theorem zdq.made (w:World):zdq P kt et (w.alloc (.map #[] 0)) w.heap.size 0 (fun _=>none):=
 ⟨.map [],Maps.isMap_empty,World.ownsMap_made w P kt _,fun x z=>by simp[DataW.atKey]⟩
theorem zdq.alloc (h:zdq P kt et w b n F) (o:Obj):zdq P kt et (w.alloc o) b n F:=let ⟨D,h1,h2,h3⟩:=h;⟨D,h1,h2.alloc o,h3⟩
theorem zdq.look (h:zdq P kt et w b n F) (K:Keyed P kt) (j:P.underlying t=some (.map kt et)) (i:P.underlying kt=some (.int .i64)) (g:P.underlying et=some (.int .i64)) (l:(zeroValue et).run P w=.ok ↑() w) {x:Int} (k:(Lit.int .i64 x).wf=true):
  (Instr.lookup t (.map (some b)) ↑x false).run P w=.ok ↑((F x).getD 0:Int) w:=by
 obtain ⟨D,m,e,f⟩:=h;obtain ⟨c,d,a,_⟩:=e.lookup_int K j g l (Maps.keyOf_int_mk i k);rw[d];rw[f x] at a
 cases hF:F x with
 |none=>rw[hF] at a;simp at a;rw[←a];rfl
 |some v=>rw[hF] at a;simp at a;rw[←a];rfl
theorem zdq.store (h:zdq P kt et w b n F) (K:Keyed P kt) (m:P.underlying t=some (.map kt et)) (k:P.underlying kt=some (.int .i64)) (j:P.underlying et=some (.int .i64)) (l:n<maxLen) {x v:Int} (p:(Lit.int .i64 x).wf=true) (o:(Lit.int .i64 v).wf=true):
  ∃w',(Instr.mapUpdate t (.map (some b)) ↑x ↑v).run P w=.ok () w'∧zdq P kt et w' b (n+1) (fun y=>if y=x then some v else F y)∧w.grownBy w' (some b):=by
 obtain ⟨D,c,d,f⟩:=h;obtain ⟨w',a,g,i⟩:=d.update K m l (Maps.keyOf_int_mk k p) (plainElem_int j o);refine ⟨w',a,⟨_,c.put _ _,g,fun y z=>?_⟩,i⟩;by_cases hy:y=x
 ·subst hy;rw[Maps.atKey_put_same c (show WideAt.IsKeyLit ↑y from trivial)]
  simp
 ·rw[Maps.atKey_put_other (fun e=>hy (by injection e)),f]
  simp[hy]
end
theorem int_keyed':Keyed Tryz.prog 3:=Maps.int_keyed Tryz.underlying3
end Vb
end Go.Proofs.YtckdpejdnejhfaaGreat

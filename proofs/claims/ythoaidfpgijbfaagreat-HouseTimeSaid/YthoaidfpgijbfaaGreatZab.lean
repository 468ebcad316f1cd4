/- Joined by program. -/
import Derived.Test.YthoaidfpgijbfaaGreatZaa
set_option linter.all false
set_option maxRecDepth 100000
set_option maxHeartbeats 32000000
namespace Go.Proofs.YthoaidfpgijbfaaGreat
open Lib (hid)
namespace Vb
def zhb (a b:Nat):Prop:=∀i,a.testBit i=true→b.testBit i=true
theorem zsn {b:Nat} (a:b<4294967296) (i:Nat):(4294967295-b).testBit i=(decide (i<32)&& !b.testBit i):=by
 have e:4294967295-b=2 ^ 32-(b+1):=by omega
 rw[e,Nat.testBit_two_pow_sub_succ (by simpa using a)]
theorem zfU {a b:Nat} (c:b<4294967296) (i:Nat):(andNot a b).testBit i=(a.testBit i&&(decide (i<32)&& !b.testBit i)):=by
 unfold andNot;rw[Nat.testBit_and,zsn c]
theorem zwJ {a i:Nat} (b:a<4294967296) (h:a.testBit i=true):i<32:=by
 rcases Nat.lt_or_ge i 32 with h1|h1
 ·exact h1
 ·have:a.testBit i=false:=Nat.testBit_lt_two_pow (lL b (by
   have:2 ^ 32≤2 ^ i:=Nat.pow_le_pow_right (by omega) h1
   simpa using this))
  rw[this] at h
  cases h
theorem zqq {a b:Nat} (hb:b<4294967296):zhb (andNot a b) a:=fun i h=>by
 rw[zfU hb] at h
 simp at h
 exact h.1
theorem zgV {a b:Nat} (e:a<4294967296) (d:b<4294967296):andNot a b=0↔zhb a b:=by
 constructor
 ·intro h i c;have:=zfU (a:=a) d i;rw[h,c] at this
  simpa [zwJ e c] using this.symm
 ·intro h
  apply Nat.eq_of_testBit_eq
  intro i;rw[zfU d]
  cases c:a.testBit i with
  |false=>simp
  |true=>simp[h i c]
theorem zhb.trans {a b c:Nat} (h:zhb a b) (k:zhb b c):zhb a c:=fun i hi=>k i (h i hi)
theorem zhb.andNot {a b c:Nat} (hc:c<4294967296) (h:zhb a b):zhb (Vb.andNot a c) (Vb.andNot b c):=fun i hi=>by
 rw[zfU hc] at hi ⊢
 simp at hi ⊢
 exact ⟨h i hi.1,hi.2⟩
theorem zgW {a b:Nat} (ha:a<4294967296):Vb.andNot a b<4294967296:=Nat.lt_of_le_of_lt (zef a b) ha
def zlk (bs:List (List Off)):Prop:=∀l∈bs,∀o∈l,o.g<4294967296
theorem zll {g g':Nat→Int} {f f':Nat} (hstep:∀(o:Off) (b b':Int),o.g<4294967296→b≤b'→za8 g f b o≤za8 g' f' b' o):∀(l:List Off) {b b':Int},(∀o∈l,o.g<4294967296)→b≤b'→l.foldl (za8 g f) b≤l.foldl (za8 g' f') b'
 |[],_,_,_,h=>h
 |o::l,_,_,hl,h=>zll hstep l (fun x hx=>hl x (by simp[hx])) (hstep o _ _ (hl o (by simp)) h)
theorem znU:∀(bs:List (List Off)) (f f':Nat),zlk bs→f<4294967296→f'<4294967296→zhb f f'→W bs f≤W bs f'
 |[],_,_,_,_,_,_=>Int.le_refl _
 |l::bs,f,f',hg,hf,hf',hs=>by
  have hg':zlk bs:=fun x hx=>hg x (by simp[hx]);refine zll (fun o b b' ho hb=>?_) l (hg l (by simp)) (znU bs f f' hg' hf hf' hs);unfold za8;by_cases h1:andNot o.g f=0
  ·have h2:andNot o.g f'=0:=(zgV ho hf').2 (((zgV ho hf).1 h1).trans hs);rw[if_pos h1,if_pos h2];have:=znU bs (andNot f o.g) (andNot f' o.g) hg' (zgW hf) (zgW hf') (hs.andNot ho)
   omega
  ·rw[if_neg h1]
   split<;>omega
theorem zhc {g:Nat→Int} {f:Nat} {left:Int}:∀{l:List Off} {j x:Nat},zbD g f left l=some (j,x)→∃o,l[j]? =some o∧o.g=x∧andNot o.g f=0∧o.c+g (andNot f o.g)=left∧∀i y,i<j→l[i]? =some y→zb8 g f left y=false
 |o::l,j,x,h=>by
  simp only[zbD] at h
  split at h
  ·rename_i hb
   simp only[Option.some.injEq,Prod.mk.injEq] at h;obtain ⟨rfl,rfl⟩:=h;simp only[zb8,Bool.and_eq_true,decide_eq_true_eq] at hb;exact ⟨o,rfl,rfl,hb.1,hb.2,fun i y hi=>by omega⟩
  ·rename_i hb
   cases hp:zbD g f left l with
   |none=>rw[hp] at h;cases h
   |some p=>
    rw[hp] at h;simp only[Option.map_some,Option.some.injEq,Prod.mk.injEq] at h;obtain ⟨rfl,rfl⟩:=h;obtain ⟨o',h1,h2,h3,h4,h5⟩:=zhc (j:=p.1) (x:=p.2) hp;refine ⟨o',by simpa using h1,h2,h3,h4,fun i y hi hy=>?_⟩
    cases i with
    |zero=>simp at hy;subst hy;simpa using hb
    |succ i=>exact h5 i y (by omega) (by simpa using hy)
theorem zqr:∀(bs:List (List Off)) (k f j:Nat) (l:List Off) (o:Off),zlk bs→f<4294967296→(choose bs f)[k]? =some (j:Int)→bs[k]? =some l→l[j]? =some o→W bs f≤W (bs.set k []) f+o.c
 |[],k,f,j,l,o,_,_,h,_,_=>by simp[choose] at h
 |l0::bs,0,f,j,l,o,hg,hf,h,hl,ho=>by
  simp only[List.getElem?_cons_zero,Option.some.injEq] at hl;subst hl;simp only[choose,List.getElem?_cons_zero,Option.some.injEq] at h;unfold zcu at h
  cases hp:zbD (W bs) f (W (l0::bs) f) l0 with
  |none=>rw[hp] at h;simp only at h;omega
  |some p=>
   rw[hp] at h;simp only at h;obtain ⟨o',h1,h2,h3,h4,_⟩:=zhc (j:=p.1) (x:=p.2) hp;have hj:p.1=j:=by omega
   rw[hj,ho] at h1;have b:=Option.some.inj h1;subst b;have a:zlk bs:=fun x n=>hg x (by simp[n]);have m:=hg l0 (by simp) o (mG ho);have:=znU bs (andNot f o.g) f a (zgW hf) hf (zqq m);simp only[List.set_cons_zero]
   show W (l0::bs) f≤W bs f+o.c
   omega
 |l0::bs,k+1,f,j,l,o,hg,hf,h,hl,ho=>by
  have a:zlk bs:=fun x n=>hg x (by simp[n]);simp only[choose,List.getElem?_cons_succ] at h hl;simp only[List.set_cons_succ];unfold zcu at h
  cases hp:zbD (W bs) f (W (l0::bs) f) l0 with
  |none=>
   rw[hp] at h;have r:=zqr bs k f j l o a hf h hl ho;rw[zjO hp];have:=zeN (W (bs.set k [])) f l0 (W (bs.set k []) f)
   show W bs f≤W (l0::bs.set k []) f+o.c
   simp only[W]
   omega
  |some p=>
   obtain ⟨s,x⟩:=p;rw[hp] at h;obtain ⟨q,i,rfl,e,d⟩:=zlj hp;have r:=zqr bs k (andNot f q.g) j l o a (zgW hf) h hl ho;have:=zgu (g:=W (bs.set k [])) (f:=f) l0 (W (bs.set k []) f) q i e
   show W (l0::bs) f≤W (l0::bs.set k []) f+o.c
   simp only[W] at d ⊢
   omega
theorem zms {floor but:Int} {l:List Sec}:∀{k:Nat},k≤l.length→zbt floor but l k=none→∀(i:Nat) (s:Sec),i<k→(i:Int)≠but→l[i]? =some s→s.c<floor
 |0,_,_,i,s,hi,_,_=>by omega
 |k+1,hk,h,i,s,hi,hne,hs=>by
  obtain ⟨t,ht⟩:∃s,l[k]? =some s:=⟨_,gE (by omega)⟩;rw[zhB ht,zeY] at h
  split at h
  ·cases h
  ·rename_i hc
   rcases Nat.lt_or_ge i k with hik|hik
   ·exact zms (by omega) h i s hik hne hs
   ·obtain rfl:i=k:=by omega
    have e:t=s:=Option.some.inj (ht.symm.trans hs);subst e;rw[h] at hc;simp only[zhA,Bool.and_eq_true,decide_eq_true_eq,not_and] at hc
    rcases Int.lt_or_le t.c floor with h6|h6
    ·exact h6
    ·exact absurd trivial (hc ⟨hne,h6⟩)
theorem zeD {floor but:Int} {l:List Sec}:∀{k j:Nat} {c:Int},k≤l.length→zbt floor but l k=some (j,c)→(j:Int)≠but∧floor≤c∧(∃s,l[j]? =some s∧s.c=c)∧(∀(i:Nat) (s:Sec),i<j→(i:Int)≠but→floor≤s.c→l[i]? =some s→s.c<c)∧∀(i:Nat) (s:Sec),i<k→(i:Int)≠but→l[i]? =some s→s.c≤c
 |0,j,c,_,h=>by simp[zbt] at h
 |k+1,j,c,hk,h=>by
  obtain ⟨s,hs⟩:∃s,l[k]? =some s:=⟨_,gE (by omega)⟩;rw[zhB hs,zeY] at h
  split at h
  ·rename_i hc
   simp only[Option.some.injEq,Prod.mk.injEq] at h;obtain ⟨rfl,rfl⟩:=h;simp only[Bool.and_eq_true,decide_eq_true_eq] at hc;obtain ⟨⟨h1,h2⟩,h3⟩:=hc
   cases hb:zbt floor but l k with
   |none=>
    have hn:∀(i:Nat) (t:Sec),i<k→(i:Int)≠but→l[i]? =some t→t.c<floor:=zms (by omega) hb;exact ⟨h1,h2,⟨s,hs,rfl⟩,fun i t hi hne hf ht=>by have:=hn i t hi hne ht;omega,fun i t hi hne ht=>by
     rcases Nat.lt_or_ge i k with h|h
     ·have:=hn i t h hne ht;omega
     ·obtain rfl:i=k:=by omega
      rw[hs] at ht;cases ht;omega⟩
   |some p=>
    obtain ⟨e,d⟩:=p;rw[hb] at h3;simp only[zhA,decide_eq_true_eq] at h3;obtain ⟨_,_,_,_,a⟩:=zeD (by omega) hb;exact ⟨h1,h2,⟨s,hs,rfl⟩,fun i t hi hne _ ht=>by have:=a i t hi hne ht;omega,fun i t hi hne ht=>by
     rcases Nat.lt_or_ge i k with h|h
     ·have:=a i t h hne ht;omega
     ·obtain rfl:i=k:=by omega
      rw[hs] at ht;cases ht;omega⟩
  ·rename_i hc
   obtain ⟨h1,h2,h3,b,a⟩:=zeD (by omega) h;refine ⟨h1,h2,h3,b,fun i t hi hne ht=>?_⟩
   rcases Nat.lt_or_ge i k with hik|hik
   ·exact a i t hik hne ht
   ·obtain rfl:i=k:=by omega
    rw[hs] at ht
    cases ht
    rw[h] at hc;simp only[zhA,Bool.and_eq_true,decide_eq_true_eq,not_and] at hc
    rcases Int.lt_or_le s.c floor with h6|h6
    ·omega
    ·have:=hc ⟨hne,h6⟩;omega
end Vb
namespace Vb
open Go.RowKit
theorem zae.at_ {w:World} {R:Nat→Prop} {A:Option Addr} {n c k:Nat} {l:List Off} {o:Off} (h:zae w R (.slice A n c) l) (i:l[k]? =some o):
  ∃b off,A=some ⟨b,off,none⟩∧b<w.heap.size∧w.cell? ⟨b,off+k*2,none⟩=some (.int .u32 o.g)∧w.cell? ⟨b,off+k*2+1,none⟩=some ↑o.c:=by
 obtain ⟨⟨_,p,q,m,_,_,f⟩,_⟩:=h;injection m with e _ _
 subst e;have j:=(gS.1 i).1;obtain ⟨b,off,e,_,d,a⟩:=f (by omega);exact ⟨b,off,e,d,a _ _ (Off.all_fst l k o i),a _ _ (Off.all_snd l k o i)⟩
theorem zrQ:zbE Tryz.prog 372 374 2 16:=zbs Tryz.underlying372 (by omega) (z:=.agg #[(),()]) (by kernel_rfl) rfl
def zaP (c:Int) (l:List Off):List Off:=(l.filter (fun o=>decide (c<o.c))).map (fun o=>⟨o.g,o.c-c⟩)
theorem zkl (c:Int) (l:List Off):(zaP c l).length≤l.length:=by simp[zaP,List.length_filter_le]
theorem zsp (c:Int) (l:List Off) (o:Off):zaP c (l++[o])=zaP c l++(if c<o.c then [⟨o.g,o.c-c⟩] else []):=by
 by_cases h:c<o.c<;>simp[zaP,h]
theorem zsq {c:Int} {l:List Off} {k:Nat} {o:Off} (b:l[k]? =some o):zaP c (l.take (k+1))=zaP c (l.take k)++(if c<o.c then [⟨o.g,o.c-c⟩] else []):=by
 obtain ⟨a,rfl⟩:=gS.mp b;rw[List.take_succ_eq_append_getElem a,zsp]
theorem zpk (c:Int) (e:0≤c) (l:List Off) (h:∀o∈l,o.wf):∀o∈zaP c l,o.wf:=by
 intro o a;simp only[zaP,List.mem_map,List.mem_filter,decide_eq_true_eq] at a;obtain ⟨p,⟨d,b⟩,rfl⟩:=a;have:=h p d;unfold Off.wf at*;simp only
 omega
theorem Off.all_snoc (l:List Off) (o:Off):Off.all l++[.int .u32 o.g,.int .i64 o.c]=Off.all (l++[o]):=by simp[Off.all,Off.cells]
theorem zsr (c:Int) (E:0≤c) (Y:c≤9223372036854775807) (l:List Off) (v:Value) (R:Nat→Prop) (w:World) (J:zae w R v l) (T:l.length≤64):
  Calls Tryz.prog 338 #[.int .i64 c,v] w fun e w'=>∃A' cap',e=.returned (.slice A' (zaP c l).length cap')∧w'.ownsRow w.heap.size 106 2 (.slice A' (zaP c l).length cap') (zaP c l).length (Off.all (zaP c l))∧Below w w w':=by
 have N:=hid J;obtain ⟨⟨_,A,O,rfl,G,q,_⟩,x⟩:=J;unfold maxLen at q;have D:=hid x;clear x;have Q:¬c<0:=by omega
 have S:max c 0=c:=Int.max_eq_left E;go_enter Tryz.func338,Tryz.ntmps338
 go_wp2
 go_loopw [5,12] (fun s i wr=>∃k:Nat,k≤l.length∧i=.int .i64 k∧(∃A' cap',s=.slice A' (zaP c (l.take k)).length cap'∧wr.ownsRow w.heap.size 106 2 (.slice A' (zaP c (l.take k)).length cap') (zaP c (l.take k)).length (Off.all (zaP c (l.take k))))∧
   Below w w wr) (fun _ i _=>l.length-(intOf i).toNat)
 case atStart=>exact ⟨0,zL,rfl,⟨_,_,rfl,World.ownsRow_nil _ _ _ _⟩,bR⟩
 case round=>
  obtain ⟨k,Z,rfl,⟨A',cap',rfl,f⟩,m⟩:=hrel;by_cases hlt:k<l.length
  ·obtain ⟨o,z⟩:∃o,l[k]? =some o:=⟨_,gE hlt⟩;obtain ⟨X,V,rfl,P,q0,q1⟩:=(N.out.grow m).at_ z;have H:=D.out o (mG z);unfold Off.wf at H;have h:=zkl c (l.take k);have F:(zaP c (l.take k)).length≤64:=by simp at h;omega
   have I:=hid (zsq (c:=c) z);have n:=hid f;have y:=hid m;have U:=m.size;clear f m h z;by_cases hgt:c<o.c
   ·have a:=hid (show zaP c (l.take (k+1))=zaP c (l.take k)++[⟨o.g,o.c-c⟩] by rw[I.out,if_pos hgt]);obtain ⟨L,K⟩:=o;simp only at*
    go_wp2_with (first
     |(at_builtin;go_must (refine zbF _ rfl (.tmp 20) (.tmp 28) zrC rfl w.heap.size (.slice A' (zaP c (l.take k)).length cap') _ _ rfl ((zbM (zbM n.out _) _)) (fun _=>True) (.slice (some ⟨wr.heap.size+1,0,none⟩) 1 1) 1 [.int .u32 L,.int .i64 (K-c)] rfl (Sl.blk (sz:=2) (cs:=#[.int .u32 L,.int .i64 (K-c)]) (t:=106) (Blk.new' _ _ (by simp)) (Nat.le_refl 1) (by unfold maxLen;omega) rfl) (by simp[Value.oneCell']) (by omega) (by unfold maxLen;omega) (by simp;omega) ?_);intro M p w3 d r j;have C:=hid d;have B:=hid r;clear d r j))
    go_roundw
    case rel=>
     have b:(zaP c (l.take (k+1))).length=(zaP c (l.take k)).length+1:=by rw[a.out];simp
     refine ⟨k+1,by omega,by go_num,⟨M,p,by rw[b],?_⟩,?_⟩
     ·rw[b,a.out,←Off.all_snoc];exact C.out
     ·exact ((y.out.alloc (by omega) _).alloc (by simp;omega) _).grown B.out (by simp;omega) (fun g e=>(n.out.lt g e).1)
    case measure=>simp[intOf];omega
   ·have a:=hid (show zaP c (l.take (k+1))=zaP c (l.take k) by rw[I.out,if_neg hgt,List.append_nil])
    go_wp2
    go_roundw
    case rel=>
     refine ⟨k+1,by omega,by go_num,⟨A',cap',by rw[a.out],?_⟩,y.out.alloc (by omega) _⟩;rw[a.out];exact zbM n.out _
    case measure=>simp[intOf];omega
  ·obtain rfl:k=l.length:=by omega
   rw[List.take_length] at*;have n:=hid f;have y:=hid m;clear f m
   go_wp2
   go_ret;exact ⟨_,_,rfl,n.out,y.out⟩
theorem zm5 (ps:List Int) (p:Value) (R:Nat→Prop) (w:World) (h:Sl w R p ps.length 1 (ints ps)) (n:∀x∈ps,-9007199254740992≤x∧x≤9007199254740992) (F:ps.length≤64):
  Calls Tryz.prog 332 #[p] w fun e w'=>e=.returned ↑(zam ps:Int)∧w=w':=by
 obtain ⟨_,A,r,rfl,y,g,a⟩:=h;unfold maxLen at g;have q:=hid a;have l:=hid n;clear a n;go_enter Tryz.func332,Tryz.ntmps332
 go_wp2
 go_loop [3,8] (fun s i=>∃k:Nat,k≤ps.length∧i=.int .i64 k∧s=.int .i64 (zam (ps.take k))) (fun _ i=>ps.length-(intOf i).toNat)
 case atStart=>exact ⟨0,zL,rfl,rfl⟩
 case round=>
  obtain ⟨k,E,rfl,rfl⟩:=hrel;by_cases hlt:k<ps.length
  ·obtain ⟨C,B,rfl,_,v,a⟩:=q.out (by omega);obtain ⟨c,d⟩:∃c,ps[k]? =some c:=⟨_,gE hlt⟩;have D:=a _ _ (zul d);have b:=zsk d;have m:=zpj (ps.take k) (fun x z=>l.out x (List.mem_of_mem_take z));have t:=l.out c (mG d);have j:((ps.take k).length:Int)=k:=by simp;omega
   rw[j] at m;have o:IntKind.i64.wrap (zam (ps.take k)+c)=zam (ps.take k)+c:=iW _ (by omega);have f:=hid b;clear b m t d a
   go_wp2
   go_round
   case rel=>exact ⟨k+1,by omega,by go_num,by rw[f.out]⟩
   case measure=>simp[intOf];omega
  ·obtain rfl:k=ps.length:=by omega
   rw[List.take_length]
   go_wp2
   go_ret;exact ⟨rfl,rfl⟩
def zaF (n:Int) (bs:List (List Off)):List Int:=(zaj n bs).mapIdx fun i c=>zci bs i c
def zdj (cs:List Int) (i:Nat):Bool:=match cs[i]? with|some c=>decide (0≤c)|none=>false
def zdx (cs:List Int):List Bool:=(List.range 32).map (zdj cs)
def zeR (n:Int) (v:Value) (ws:List Bool) (sl:Value):List Value:=.int .i64 n::v::(ws.map Value.bool++[sl])
theorem zgw (n:Int) (v:Value) (b:List Bool) (a:Value) (h:b.length=32):(zeR n v b a).toArray[34]? =some a:=by
 simp[zeR,List.getElem?_append,h]
theorem znV (n:Int) (v:Value) (a:List Bool) (d:Value) (i:Nat) (b:Bool) (h:a[i]? =some b):(zeR n v a d).toArray[2+i]? =some ↑b:=by
 have c:=(gS.mp h).1;rw[show 2+i=i+1+1 from by omega]
 simp[zeR,List.getElem?_append,c]
 exact (gS.mp h).2
theorem znW (n:Int) (v:Value) (a:List Bool) (c:Value) (i:Nat) (b:Bool) (h:i<a.length):(zeR n v a c).toArray.setIfInBounds (2+i) ↑b=(zeR n v (a.set i b) c).toArray:=by
 rw[show 2+i=i+1+1 from by omega]
 simp[zeR,List.set_append,h]
theorem zek (cs:List Int):(zdx cs).length=32:=by simp[zdx]
theorem ziK (cs:List Int) {i:Nat} (h:i<32):(zdx cs)[i]? =some (zdj cs i):=by simp[zdx,h]
theorem zlU {cs:List Int} {k:Nat} {c:Int} (h:cs[k]? =some c) (a:c<0):zdx (cs.take (k+1))=zdx (cs.take k):=by
 unfold zdx
 apply List.map_congr_left
 intro i _;unfold zdj;by_cases hk:i=k
 ·subst hk;rw[List.getElem?_take_of_lt (by omega),h,List.getElem?_eq_none (by simp;omega)]
  simp;omega
 ·by_cases hi:i<k
  ·rw[List.getElem?_take_of_lt (by omega),List.getElem?_take_of_lt hi]
  ·rw[List.getElem?_eq_none (by simp;omega),List.getElem?_eq_none (by simp;omega)]
theorem zlV {cs:List Int} {k:Nat} {c:Int} (h:cs[k]? =some c) (a:0≤c):zdx (cs.take (k+1))=(zdx (cs.take k)).set k true:=by
 apply List.ext_getElem?
 intro i;by_cases hi:i<32
 ·rw[ziK _ hi];by_cases hk:k=i
  ·subst hk;rw[List.getElem?_set_self (by rw[zek];omega)];unfold zdj;rw[List.getElem?_take_of_lt (by omega),h]
   simp[a]
  ·rw[List.getElem?_set_ne hk,ziK _ hi];unfold zdj;by_cases hik:i<k
   ·rw[List.getElem?_take_of_lt (by omega),List.getElem?_take_of_lt hik]
   ·rw[List.getElem?_eq_none (by simp;omega),List.getElem?_eq_none (by simp;omega)]
 ·rw[List.getElem?_eq_none (by rw[zek];omega),List.getElem?_eq_none (by simp[zek];omega)]
theorem zbn (n:Int) (bs:List (List Off)):(zaF n bs).length=bs.length:=by simp[zaF,zaj,zbX]
theorem ziL {n:Int} {bs:List (List Off)} {i:Nat} {c:Int} (h:(zaj n bs)[i]? =some c):(zaF n bs)[i]? =some (zci bs i c):=by simp[zaF,h]
def zeE (n:Int) (bs:List (List Off)) (k:Nat):List Int:=(zaF n bs).take k++List.replicate (bs.length-k) 0
theorem zum {n:Int} {bs:List (List Off)} {k:Nat} (h:k≤bs.length):(zeE n bs k).length=bs.length:=by
 unfold zeE;rw[List.length_append,List.length_take,zbn,List.length_replicate]
 omega
theorem zun (n:Int) (bs:List (List Off)):zeE n bs bs.length=zaF n bs:=by
 unfold zeE;rw[Nat.sub_self,List.replicate_zero,List.append_nil,List.take_of_length_le (by rw[zbn];omega)]
theorem znX {n:Int} {bs:List (List Off)} {k:Nat} {c:Int} (b:k<bs.length) (h:(zaF n bs)[k]? =some c):(zeE n bs k).set k c=zeE n bs (k+1):=by
 have a:((zaF n bs).take k).length=k:=by rw[List.length_take,zbn];omega
 unfold zeE;rw[List.set_append_right _ _ (by omega),a,Nat.sub_self,show bs.length-k=(bs.length-(k+1))+1 from by omega,List.replicate_succ,List.set_cons_zero,List.take_add_one,h]
 simp
theorem zss {n:Int} {bs:List (List Off)} {k:Nat} (a:k<bs.length) (h:(zaF n bs)[k]? =some 0):zeE n bs (k+1)=zeE n bs k:=by
 rw[←znX a h];have b:((zaF n bs).take k).length=k:=by rw[List.length_take,zbn];omega
 unfold zeE;rw[List.set_append_right _ _ (by omega),b,Nat.sub_self,show bs.length-k=(bs.length-(k+1))+1 from by omega,List.replicate_succ,List.set_cons_zero]
theorem zqs {w:World} {base g n:Nat} {e:TypeId} {l:List Int} (h:Blk w g e (ints l).toArray) (hg:base≤g) (hn:l.length=n) (hm:n≤maxLen):w.ownsRow base e 1 (.slice (some ⟨g,0,none⟩) n n) n (ints l):=
 ⟨by simp[ints,hn],.inr ⟨g,n,_,rfl,hg,h,lR,hm,by simp[ints,hn],by rw[Nat.mul_one];exact List.take_of_length_le (by simp[ints,hn])⟩⟩
theorem ints_set {l:List Int} {k:Nat} {c:Int}:(ints l).toArray.setIfInBounds k ↑c=(ints (l.set k c)).toArray:=by simp[ints,List.map_set]
theorem zst (n:Nat):madeCells #[()] n=(ints (List.replicate n 0)).toArray:=by
 apply Array.ext
 ·simp[madeCells,ints]
 ·intro i a b
  simp[madeCells,ints,Nat.mod_one]
theorem zqt (n:Int) (v sl:Value):(zeR n v (zdx []) sl).toArray=#[.int .i64 n,v,.bool false,.bool false,.bool false,.bool false,.bool false,.bool false,.bool false,.bool false,.bool false,.bool false,.bool false,.bool false,.bool false,.bool false,.bool false,.bool false,.bool false,.bool false,.bool false,.bool false,.bool false,.bool false,.bool false,.bool false,.bool false,.bool false,.bool false,.bool false,.bool false,.bool false,.bool false,.bool false,sl]:=rfl
def zbN (w:World) (lo g:Nat) (n:Int) (v:Value) (bs:List (List Off)) (A:Option Addr) (cap:Nat):Prop:=
 lo≤g∧Blk w g 419 (zeR n v (zdx (zaj n bs)) (.slice A bs.length cap)).toArray∧w.ownsRow lo 2 1 (.slice A bs.length cap) bs.length (ints (zaF n bs))
theorem zvh (n:Int) (bs:List (List Off)) (v:Value) (R:Nat→Prop) (w:World) (S:zaB w R v bs) (hi:zak n bs=0):
  Calls Tryz.prog 318 #[.agg #[.int .i64 n,v]] w fun e w'=>∃g A cap,e=.returned (.tuple #[.pointer (some ⟨g,0,none⟩),.int .i64 0])∧zbN w' w.heap.size g n v bs A cap∧Below w w w':=by
 obtain ⟨vs,⟨_,A,cap,rfl,_⟩,_⟩:=id S;have HB:=hid S;have HI:=hid hi;have hl32:=(zaL hi).2.2.1;clear S hi;go_enter Tryz.func318,Tryz.ntmps318
 go_wp2_with (go_at_call 320;refine (zlS n bs _ R _ (HB.out.alloc _) HI.out).mono ?_;rintro e d ⟨AC,cC,rfl,M,H⟩;have HO:=hid M;have hX:=(zdD H).1;have HX:=hid hX;have Y:=hid (zdD H).2.2;have hs1:=(zdD H).2.1;clear H M hX)
 obtain ⟨s,q⟩:=nm (d.alloc (.cells #[.slice AC bs.length cC,.int .i64 (W bs (allOf n))] 288));have ad:=hid (show Blk s w _ _ from by rw[q];exact HX.out.alloc _);have HC1:=hid (show Blk s d 288 #[.slice AC bs.length cC,.int .i64 (W bs (allOf n))] from by rw[q];exact Blk.new d _ _);have HO1:=hid (show s.ownsRow _ _ _ _ _ _ from by rw[q];exact zbM HO.out _);have ab:=hid (show Below w w s from by rw[q];exact Y.out.alloc (by omega) _);have ac:=hid (show Below d d s from by rw[q];exact qA _);have T:s.heap.size=d.heap.size+1:=by rw[q];simp
 rw[←q];clear q;have x0:s.cell? ⟨w,0,none⟩=some (.int .i64 n):=ad.out.cell 0;have x1:s.cell? ⟨w,1,none⟩=some (.slice A bs.length cap):=ad.out.cell 1;have hmk:∀V:World,(Instr.makeSlice 49 (.int .i64 (bs.length:Int)) (.int .i64 (bs.length:Int))).run Tryz.prog V=.ok (.slice (some ⟨V,0,none⟩) bs.length bs.length) (V.alloc (.cells (madeCells #[.int .i64 0] bs.length) 2)):=fun V=>
  run_make_row' (P:=Tryz.prog) 49 2 (.int .i64 0) 8 Tryz.underlying49 (by kernel_rfl) rfl .i64 .i64 bs.length (by omega) (by omega) V
 refine zad (Below s s) [] (by kernel_rfl) (bR.drew) (fun a=>?_);have qq:=hid fun (w':World) (m:(Below s s) w')=>And.intro ((m.cell (p:=⟨w,0,none⟩) (by simp<;>omega)).trans x0)<|(m.cell (p:=⟨w,1,none⟩) (by simp<;>omega)).trans x1;refine tl 0 a qq ?_;refine tp 1 a ?_;refine tl 2 a qq ?_;refine tp 3 a ?_;refine stp 4 fun K B=>?_;go_simp;refine B.out _ _ ?_ (fun a=>?_)
 ·exact a.alloc a.size _
 clear B K
 try simp only[Act.put,pb,pz,ps]
 refine tp 5 a ?_;refine stp 6 fun K B=>?_;go_simp;refine B.out _ _ ?_ (fun a=>?_)
 ·exact a.alloc a.size _
 clear B K
 try simp only[Act.put,pb,pz,ps]
 refine tp 7 a ?_;refine zac (by kernel_rfl) ?_ _;obtain ⟨U,y⟩:=nm (((s.alloc (Obj.cells (madeCells #[.int .i64 0] bs.length) 2)).alloc (Obj.cells #[.int .i64 n,.slice A bs.length cap,.bool false,.bool false,.bool false,.bool false,.bool false,.bool false,.bool false,.bool false,.bool false,.bool false,.bool false,.bool false,.bool false,.bool false,.bool false,.bool false,.bool false,.bool false,.bool false,.bool false,.bool false,.bool false,.bool false,.bool false,.bool false,.bool false,.bool false,.bool false,.bool false,.bool false,.bool false,.bool false,.slice (some ⟨d.heap.size+1,0,none⟩) bs.length bs.length] 419)).drew);rw[←y];have hs1b:=T;have HG:=hid (show Blk U (d.heap.size+1) 2 (ints (zeE n bs 0)).toArray from by
  rw[y,show zeE n bs 0=List.replicate bs.length 0 from by simp[zeE],←zst];exact (((Blk.new' _ _ T).alloc _).drew))
 have HWN:=hid (show Blk U (d.heap.size+2) 419 (zeR n (.slice A bs.length cap) (zdx ((zaj n bs).take 0)) (.slice (some ⟨d.heap.size+1,0,none⟩) bs.length bs.length)).toArray from by
  rw[y,List.take_zero,zqt];exact (Blk.new' _ _ (by simp[T])).drew)
 have N:=hid (show Below s s U from by rw[y];exact ((qA _).alloc (by simp) _).drew);have hs2:s.heap.size+2≤U.heap.size:=by rw[y];simp[World.drew]
 have HC2:=hid (HC1.out.grow N.out);have c00:U.cell? ⟨d,0,none⟩=some (.slice AC bs.length cC):=HC2.out.cell 0;clear y hmk a;go_wp2_with fail
 go_loopw [27] (fun i wr=>∃k:Nat,k≤bs.length∧i=.int .i64 k∧Blk wr (d.heap.size+1) 2 (ints (zeE n bs k)).toArray∧
   Blk wr (d.heap.size+2) 419 (zeR n (.slice A bs.length cap) (zdx ((zaj n bs).take k)) (.slice (some ⟨d.heap.size+1,0,none⟩) bs.length bs.length)).toArray∧Below (d.heap.size+1) U wr)
  (fun i _=>bs.length-(intOf i).toNat)
 case atStart=>exact ⟨0,zL,rfl,HG.out,HWN.out,bR⟩
 case round=>
  obtain ⟨k,hk,rfl,hG,hN,hb⟩:=hrel;have G:=hid hG;have z:=hid hN;have F:=hid hb;clear hG hN hb;by_cases hlt:k<bs.length
  ·obtain ⟨c,X⟩:∃c,(zaj n bs)[k]? =some c:=⟨_,gE (by rw[zaj,zbX];exact hlt)⟩;have hbg:=ziL X;have I:Below d d wr:=ac.out.trans ((N.out.mono (by omega)).trans (F.out.mono (by omega)));have hbw:=Y.out.trans (I.mono (B':=w.heap.size) (by omega));obtain ⟨gC,offC,c',hAC,hgC,Q,cc⟩:=(Sl.of_own HO.out).int_at hlt;obtain rfl:c=c':=by rw[X] at Q;injection Q
   subst hAC;have cC:=(I.cell (p:=⟨gC,offC+k,none⟩) hgC).trans cc;have Z:=hid hbg;have HC:=hid X;have HBX:=hid I;have aa:=hid hbw;clear hbg I hbw cc Q
   rcases zdR bs (allOf n) k c X with rfl|⟨j,l,o,rfl,S,ho⟩
   ·have hc0:((-1:Int) ≥ 0)=False:=by simp
    clear X
    go_wp2
    go_roundw
    case rel=>
     refine ⟨k+1,by omega,by go_num,?_,?_,F.out⟩
     ·rw[zss hlt Z.out];exact G.out
     ·rw[zlU HC.out (by omega)];exact z.out
    case measure=>simp[intOf];omega
   ·clear X;obtain ⟨vs',⟨_,A',cap',hv,_,_,hcs⟩,hvs⟩:=HB.out;injection hv with hv1 _ hv2
    subst hv1 hv2;obtain ⟨O,t,rfl,_,hbq,C⟩:=hcs (by omega);obtain ⟨u,hu,D⟩:=hvs k l S;have HL:=hid S;have HOj:=hid ho;have hjl:=(gS.mp ho).1;obtain ⟨⟨_,A1,cap1,rfl,_⟩,_⟩:=id D;obtain ⟨b2,r,rfl,hb2,_,o1⟩:=D.at_ ho;have d0:=(aa.out.cell (p:=⟨O,t+k,none⟩) hbq).trans (C _ _ hu);have d1:=(aa.out.cell (p:=⟨b2,r+j*2+1,none⟩) hb2).trans o1;have L:wr.cell? ⟨w,1,none⟩=some (.slice (some ⟨O,t,none⟩) bs.length cap):=(HX.out.below HBX.out (by omega)).cell 1;have hszr:d.heap.size+3≤wr.heap.size:=by have:=z.out.lt;omega
    have e1:(0:Int)≤(k:Int):=by omega
    have e2:(k:Int)<(bs.length:Int):=by omega
    have e3:(k:Int)<32:=by omega
    have e4:(0:Int)≤(j:Int):=by omega
    have e5:(j:Int)<(l.length:Int):=by omega
    clear S ho hu D o1 C hvs hcs;go_wp2_with fail
    refine zad (fun V=>Below (d.heap.size+1) wr V∧(∃E:List Bool,E.length=32∧Blk V (d.heap.size+2) 419 (zeR n (.slice (some ⟨O,t,none⟩) bs.length cap) E (.slice (some ⟨d.heap.size+1,0,none⟩) bs.length bs.length)).toArray)∧∃ps:List Int,ps.length=bs.length∧Blk V (d.heap.size+1) 2 (ints ps).toArray) [] (by kernel_rfl) ⟨bR.drew,⟨_,zek _,z.out.drew⟩,_,zum (by omega),G.out.drew⟩ (fun a=>?_);refine tp 0 a ?_;refine tp 1 a ?_;refine tp 2 a ?_;refine tp 3 a ?_;refine tp 4 a ?_;refine tx 5 (v:=?_) a ?_ ?_
    rotate_left
    ·intro w' m;obtain ⟨b,⟨E,h,f⟩,_⟩:=m;have q1:=(b.cell (p:=⟨w,1,none⟩) (by simp<;>omega)).trans L;have q2:=(f.cell 34).trans (zgw _ _ _ _ h);have q3:=(b.cell (p:=⟨O,t+k,none⟩) (by simp<;>omega)).trans d0;have q4:=(b.cell (p:=⟨b2,r+j*2+1,none⟩) (by simp<;>omega)).trans d1;go_simp;try with_reducible rfl
    refine tp 6 a ?_;refine tp 7 a ?_;refine tx 8 (v:=?_) a ?_ ?_
    rotate_left
    ·intro w' m;obtain ⟨b,⟨E,h,f⟩,_⟩:=m;have q1:=(b.cell (p:=⟨w,1,none⟩) (by simp<;>omega)).trans L;have q2:=(f.cell 34).trans (zgw _ _ _ _ h);have q3:=(b.cell (p:=⟨O,t+k,none⟩) (by simp<;>omega)).trans d0;have q4:=(b.cell (p:=⟨b2,r+j*2+1,none⟩) (by simp<;>omega)).trans d1;go_simp;try with_reducible rfl
    refine tp 9 a ?_;refine tp 10 a ?_;refine tx 11 (v:=?_) a ?_ ?_
    rotate_left
    ·intro w' m;obtain ⟨b,⟨E,h,f⟩,_⟩:=m;have q1:=(b.cell (p:=⟨w,1,none⟩) (by simp<;>omega)).trans L;have q2:=(f.cell 34).trans (zgw _ _ _ _ h);have q3:=(b.cell (p:=⟨O,t+k,none⟩) (by simp<;>omega)).trans d0;have q4:=(b.cell (p:=⟨b2,r+j*2+1,none⟩) (by simp<;>omega)).trans d1;go_simp;try with_reducible rfl
    refine tp 12 a ?_;refine tp 13 a ?_;refine tp 14 a ?_;refine tx 15 (v:=?_) a ?_ ?_
    rotate_left
    ·intro w' m;obtain ⟨b,⟨E,h,f⟩,_⟩:=m;have q1:=(b.cell (p:=⟨w,1,none⟩) (by simp<;>omega)).trans L;have q2:=(f.cell 34).trans (zgw _ _ _ _ h);have q3:=(b.cell (p:=⟨O,t+k,none⟩) (by simp<;>omega)).trans d0;have q4:=(b.cell (p:=⟨b2,r+j*2+1,none⟩) (by simp<;>omega)).trans d1;go_simp;try with_reducible rfl
    refine tp 16 a ?_;refine tp 17 a ?_;refine tp 18 a ?_;refine stp 19 fun K B=>?_;have hS19:=a;obtain ⟨_,⟨E,h,f⟩,_⟩:=hS19;have f1:=f.frozen (2+k);have f2:=(f.cell (2+k)).trans (znV _ _ _ _ k _ (gE (by omega)));go_simp;refine B.out _ _ ?_ (fun a=>?_)
    ·obtain ⟨b,⟨E,h,f⟩,ps,J,x⟩:=a;exact ⟨b.setCell (p:=⟨d.heap.size+2,2+k,none⟩) (by simp) _,⟨E.set k true,by simpa using h,by have:=f.set_ (2+k) (.bool true);rwa [znW _ _ _ _ _ _ (by omega)] at this⟩,ps,J,x.far (p:=⟨d.heap.size+2,2+k,none⟩) (by simp) _⟩
    clear B K
    try simp only[Act.put,pb,pz,ps]
    refine tp 20 a ?_;refine stp 21 fun K B=>?_;have hS21:=a;obtain ⟨_,_,ps,J,x⟩:=hS21;have f1:=x.frozen k;have hkp:k<ps.length:=by omega
    have f2:=(x.cell k).trans (show (ints ps).toArray[k]? =some (.int .i64 ps[k]) from by simp[ints]);go_simp;refine B.out _ _ ?_ (fun a=>?_)
    ·obtain ⟨b,⟨E,h,f⟩,ps,J,x⟩:=a;exact ⟨b.setCell (p:=⟨d.heap.size+1,k,none⟩) (by simp) _,⟨E,h,f.far (p:=⟨d.heap.size+1,k,none⟩) (by simp) _⟩,ps.set k o.c,by simpa using J,by have:=x.set_ k (.int .i64 o.c);rwa [ints_set] at this⟩
    clear B K
    try simp only[Act.put,pb,pz,ps]
    refine zac (by kernel_rfl) ?_ _;clear a;go_wp2_with fail
    go_roundw
    case rel=>
     refine ⟨k+1,by omega,by go_num,?_,?_,?_⟩
     ·have h1:=(G.out.far (p:=⟨d.heap.size+2,2+k,none⟩) (by simp) (.bool true)).set_ k (.int .i64 o.c);rw[ints_set,znX hlt (by rw[Z.out,zjN HL.out HOj.out])] at h1;exact h1.drew
     ·have h1:=(z.out.set_ (2+k) (.bool true)).far (p:=⟨d.heap.size+1,k,none⟩) (by simp) (.int .i64 o.c);rw[znW _ _ _ _ _ _ (by rw[zek];omega),←zlV HC.out (by omega)] at h1;exact h1.drew
     ·exact ((F.out.setCell (p:=⟨d.heap.size+2,2+k,none⟩) (by simp) _).setCell (p:=⟨d.heap.size+1,k,none⟩) (by simp) _).drew
    case measure=>simp[intOf];omega
  ·obtain rfl:k=bs.length:=by omega
   have hbl:(zaj n bs).length=bs.length:=zbX _ _;have HGE:=hid (show Blk wr (d.heap.size+1) 2 (ints (zaF n bs)).toArray from by have:=G.out;rwa [zun] at this);have HNE:=hid (show Blk wr (d.heap.size+2) 419 (zeR n (.slice A bs.length cap) (zdx (zaj n bs)) (.slice (some ⟨d.heap.size+1,0,none⟩) bs.length bs.length)).toArray from by have:=z.out;rwa [List.take_of_length_le (by omega)] at this);go_wp2_with fail
   refine bodyPost_ret (v:=.tuple #[.pointer (some ⟨d.heap.size+2,0,none⟩),.int .i64 0]) (by simp[results,Tryz.results318,go_sem]) rfl ⟨_,_,_,rfl,⟨by omega,HNE.out,zqs HGE.out (by omega) (zbn _ _) (by unfold maxLen;omega)⟩,?_⟩;exact ab.out.trans ((N.out.mono (by omega)).trans (F.out.mono (by omega)))
def zda:List Int→List Int→Bool
 |p::ps,b::bs=>decide (0≤p∧p≤b)&&zda ps bs
 |[],[]=>true
 |_,_=>false
theorem zdE:∀(ps bs:List Int),zda ps bs=true↔ps.length=bs.length∧∀(i:Nat) (p b:Int),ps[i]? =some p→bs[i]? =some b→0≤p∧p≤b
 |[],[]=>by simp[zda]
 |[],b::bs=>by simp[zda]
 |p::ps,[]=>by simp[zda]
 |p::ps,b::bs=>by
  simp only[zda,Bool.and_eq_true,decide_eq_true_eq,zdE ps bs,List.length_cons]
  constructor
  ·rintro ⟨h1,h2,h3⟩;refine ⟨by omega,fun i q c hq hc=>?_⟩
   cases i with
   |zero=>simp at hq hc;subst hq hc;exact h1
   |succ i=>exact h3 i q c (by simpa using hq) (by simpa using hc)
  ·rintro ⟨h1,h2⟩;exact ⟨h2 0 p b rfl rfl,by omega,fun i q c hq hc=>h2 (i+1) q c (by simpa using hq) (by simpa using hc)⟩
theorem zbN.grow {w w':World} {lo g:Nat} {n:Int} {v:Value} {bs:List (List Off)} {A:Option Addr} {cap:Nat} (h:zbN w lo g n v bs A cap) (hb:Below w w w'):zbN w' lo g n v bs A cap:=
 ⟨h.1,h.2.1.grow hb,zbH h.2.2 hb⟩
theorem zbN.lt {w:World} {lo g:Nat} {n:Int} {v:Value} {bs:List (List Off)} {A:Option Addr} {cap:Nat} (h:zbN w lo g n v bs A cap):g<w.heap.size:=h.2.1.lt
theorem zbN.sl {w:World} {lo g:Nat} {n:Int} {v:Value} {bs:List (List Off)} {A:Option Addr} {cap:Nat} (h:zbN w lo g n v bs A cap):Sl w (lo≤·) (.slice A bs.length cap) bs.length 1 (ints (zaF n bs)):=
 (Sl.of_own h.2.2).mono fun b _ hb=>(h.2.2.lt b hb).1
theorem zbN.c0 {w:World} {lo g:Nat} {n:Int} {v:Value} {bs:List (List Off)} {A:Option Addr} {cap:Nat} (h:zbN w lo g n v bs A cap):w.cell? ⟨g,0,none⟩=some ↑n:=h.2.1.cell 0
theorem zbN.c1 {w:World} {lo g:Nat} {n:Int} {v:Value} {bs:List (List Off)} {A:Option Addr} {cap:Nat} (h:zbN w lo g n v bs A cap):w.cell? ⟨g,1,none⟩=some v:=h.2.1.cell 1
theorem zbN.cb {w:World} {lo g:Nat} {n:Int} {v:Value} {bs:List (List Off)} {A:Option Addr} {cap:Nat} (h:zbN w lo g n v bs A cap):w.cell? ⟨g,34,none⟩=some (.slice A bs.length cap):=(h.2.1.cell 34).trans (zgw _ _ _ _ (zek _))
theorem zbN.cw {w:World} {lo g:Nat} {n:Int} {v:Value} {bs:List (List Off)} {A:Option Addr} {cap:Nat} (h:zbN w lo g n v bs A cap) {i:Nat} (hi:i<32):w.cell? ⟨g,2+i,none⟩=some ↑(zdj (zaj n bs) i:Bool):=(h.2.1.cell (2+i)).trans (znV _ _ _ _ _ _ (ziK _ hi))
def zbJ (n:Int) (bs:List (List Off)) (pay:List Int):List (List Off):=bs.mapIdx fun i l=>zaP ((zaF n bs)[i]?.getD 0-pay[i]?.getD 0) l
theorem zcZ (n:Int) (bs:List (List Off)) (a:List Int):(zbJ n bs a).length=bs.length:=by simp[zbJ]
theorem zkm {n:Int} {bs:List (List Off)} {a:List Int} {k:Nat} {l:List Off} {p q:Int} (b:bs[k]? =some l) (c:a[k]? =some p) (d:(zaF n bs)[k]? =some q):(zbJ n bs a)[k]? =some (zaP (q-p) l):=by
 simp[zbJ,b,c,d]
theorem zaB.at_ {w:World} {R:Nat→Prop} {A:Option Addr} {m c k:Nat} {bs:List (List Off)} {l:List Off} (h:zaB w R (.slice A m c) bs) (f:bs[k]? =some l):
  ∃b off u,A=some ⟨b,off,none⟩∧b<w.heap.size∧w.cell? ⟨b,off+k,none⟩=some u∧zae w R u l:=by
 obtain ⟨s,⟨_,q,r,p,_,_,d⟩,e⟩:=h;injection p with a _ _
 subst a;have n:=(gS.mp f).1;obtain ⟨b,off,a,_,g,i⟩:=d (by omega);obtain ⟨u,o,j⟩:=e k l f;exact ⟨b,off,u,a,g,i _ _ o,j⟩
theorem zlW {n:Int} {bs:List (List Off)} (e:zak n bs=0) (b:∀l∈bs,∀o∈l,o.wf) {i:Nat} {q:Int} (h:(zaF n bs)[i]? =some q):0≤q∧q≤1099511627776:=by
 have a:i<bs.length:=by have:=(gS.mp h).1;rwa [zbn] at this
 obtain ⟨c,d⟩:∃c,(zaj n bs)[i]? =some c:=⟨_,gE (by rw[zaj,zbX];exact a)⟩;rw[ziL d] at h;injection h with h
 have:=zsm b e i c
 omega
theorem zoK (n:Int) (bs:List (List Off)) (v:Value) (lo g:Nat) (A:Option Addr) (cap:Nat) (c:List Int) (vp:Value) (R Rx:Nat→Prop) (w:World) (T:zbN w lo g n v bs A cap) (t:zaB w Rx v bs) (S:Sl w R vp c.length 1 (ints c))
  (hi:zak n bs=0) (hok:zda c (zaF n bs)=true):
  Calls Tryz.prog 331 #[.pointer (some ⟨g,0,none⟩),vp] w fun e w'=>∃A' cap',e=.returned (.agg #[n,.slice A' bs.length cap'])∧zaH w' w.heap.size (.slice A' bs.length cap') (zbJ n bs c)∧Below w w w':=by
 obtain ⟨E,D⟩:=(zdE _ _).mp hok;rw[zbn] at E;have J:c.length≤bs.length∧bs.length≤c.length:=by omega
 obtain ⟨hlen1,hlen2⟩:=J;clear E;have hsm:=zjC hi;have HWF:=hid (zaB.wf t);have HSM:=hid hsm;have HI:=hid hi;have hl32:=(zaL hi).2.2.1;have hcb:=T.cb;have hc0:=T.c0;have hc1:=T.c1;have hgl:=T.lt;have HB:=hid t;have HS:=hid T.sl;have HP:=hid S;have V:=hid D;obtain ⟨_,Ap,capp,rfl,hncap,hcap,_⟩:=S;unfold maxLen at hcap;obtain ⟨vs,⟨_,Av,capv,rfl,_⟩,_⟩:=id t;clear T t hi hok hsm D;go_enter Tryz.func331,Tryz.ntmps331
 go_wp2
 obtain ⟨W0,h⟩:=nm ((w.alloc (.cells #[(),.slice none 0 0] 286)).alloc (.cells #[n,.slice none 0 0] 286));have HR0:=hid (show Blk W0 w 286 #[(),.slice none 0 0] from by rw[h];exact (Blk.new w _ _).alloc _);have HY0:=hid (show Blk W0 (w.heap.size+1) 286 #[n,.slice none 0 0] from by rw[h];exact Blk.new' _ _ (by simp));have HBW:=hid (show Below w w W0 from by rw[h];exact (qA _).alloc (by simp) _);have hs0:W0.heap.size=w.heap.size+2:=by rw[h];simp
 rw[←h];clear h
 go_loopw [20] (fun i wr=>∃(k:Nat) (A':Option Addr) (cap':Nat),k≤bs.length∧i=.int .i64 k∧zaH wr (w.heap.size+2) (.slice A' k cap') ((zbJ n bs c).take k)∧Blk wr (w.heap.size+1) 286 #[n,.slice A' k cap']∧Below (w.heap.size+1) W0 wr)
  (fun i _=>bs.length-(intOf i).toNat)
 case atStart=>exact ⟨0,none,0,zL,rfl,⟨[],World.ownsRow_nil _ _ _ _,fun k l hk=>by simp at hk⟩,HY0.out,bR⟩
 case round=>
  obtain ⟨k,A',cap',hk,rfl,hob,hy,H⟩:=hrel;have hbw:=HBW.out.trans (H.mono (B':=w.heap.size) (by omega));have hszr:w.heap.size+2≤wr.heap.size:=by have:=H.size;omega
  have Z:=hid hob;have HY:=hid hy;have X:=hid H;have d:=hid hbw;clear hob hy H hbw;by_cases hlt:k<bs.length
  ·obtain ⟨l,t⟩:∃l,bs[k]? =some l:=⟨_,gE hlt⟩;obtain ⟨bq,off,u,rfl,hbq,c0,M⟩:=HB.out.at_ t;obtain ⟨bp,op,p,rfl,hbp,S,cp⟩:=HP.out.int_at (k:=k) (by omega);obtain ⟨bd,od,q,rfl,hbd,N,cq⟩:=HS.out.int_at hlt;have hpq:=V.out k p q S N;have hqb:=zlW HI.out HWF.out N;have hll:=HSM.out.2 l (mG t);have HLG:=hid (zkm t S N);obtain ⟨⟨_,A1,cap1,rfl,_⟩,_⟩:=id M;have aa:=hid (M.grow d.out);have d0:=qc d.out c0 hbq;have dp:=qc d.out cp hbp;have dq:=qc d.out cq hbd;have db:=qc d.out hcb hgl;have dy:wr.cell? ⟨w.heap.size+1,1,none⟩=some (.slice A' k cap'):=HY.out.cell 1;have e1:(0:Int)≤(k:Int):=by omega
   have e2:(k:Int)<(bs.length:Int):=by omega
   have e3:(k:Int)<(c.length:Int):=by omega
   have hsub:IntKind.i64.wrap (q-p)=q-p:=iW _ (by omega);obtain ⟨vs',O,ho'⟩:=Z.out;have L:((zbJ n bs c).take k).length=k:=by rw[List.length_take,zcZ];omega
   rw[L] at O;have f:=hid O;have HO':=hid ho';have HLK:=hid L;clear t S N c0 cp cq M O ho' L;go_wp2_with fail
   refine zad (Below (w.heap.size+2) wr) [19] (by kernel_rfl) (bR.drew) (fun a=>?_);refine tp 0 a ?_;have qq:=hid fun (w':World) (r:(Below (w.heap.size+2) wr) w')=>And.intro (qc r d0 (by simp<;>omega))<|And.intro (qc r dp (by simp<;>omega))<|And.intro (qc r dq (by simp<;>omega))<|And.intro (qc r db (by simp<;>omega))<|qc r dy (by simp<;>omega);refine tl 1 a qq ?_;refine tp 2 a ?_;refine tp 3 a ?_;refine tp 4 a ?_;refine tl 5 a qq ?_;refine tp 6 a ?_;refine tp 7 a ?_;refine tl 8 a qq ?_;refine tp 9 a ?_;refine tp 10 a ?_;refine tp 11 a ?_;refine tl 12 a qq ?_;refine tp 13 a ?_;refine tp 14 a ?_;refine stp 15 fun K o=>?_;go_simp;refine (zsr (q-p) (by omega) (by omega) l _ Rx _ (aa.out.grow bR.drew) (by omega)).mono ?_;rintro e U ⟨P,Q,rfl,y,I⟩;refine o.out _ _ ?_ (fun a=>?_)
   ·exact ((Below.refl wr.heap.size wr).drew.trans (I.mono (by simp))).mono (by omega)
   clear o K
   try simp only[Act.put,pb,pz,ps]
   have s:Below wr wr U:=bR.drew.trans (I.mono (by simp));have m:=hid s;have F:=hid y;have hs1:=s.size;clear I s y;refine stp 16 fun K o=>?_;go_simp;refine o.out _ _ ?_ (fun a=>?_)
   ·exact a.alloc (by omega) _
   clear o K
   try simp only[Act.put,pb,pz,ps]
   refine stp 17 fun K o=>?_;refine zkk (U.alloc (.cells #[.slice P (zaP (q-p) l).length Q] 34)) rfl (.tmp 26) (.tmp 41) zlJ rfl (w.heap.size+2) (.slice A' k cap') k vs' rfl (zbM (zbH f.out m.out) _) (fun _=>True) (.slice (some ⟨U,0,none⟩) 1 1) 1 [.slice P (zaP (q-p) l).length Q] rfl (Sl.blk (sz:=1) (Blk.new U 34 #[.slice P (zaP (q-p) l).length Q]) (Nat.le_refl 1) (by unfold maxLen;omega) rfl) (by simp[Value.oneCell']) (by omega) (by unfold maxLen;omega) (by simp;omega) ?_;intro A3 c3 w3 z C x;refine o.out _ _ ?_ (fun a=>?_)
   ·exact a.grown C (by simp;omega) (fun g e=>(f.out.lt g e).1)
   clear o K
   try simp only[Act.put,pb,pz,ps]
   have HW3:=hid z;have Y:=hid C;have HL3:=hid x;have G:=hid (show Blk w3 (w.heap.size+1) 286 #[n,.slice A' k cap'] from ((HY.out.grow m.out).alloc _).grown C (fun e=>by have:=(f.out.lt _ e.symm).1;omega));clear z C x;refine tp 18 a ?_;refine stf 19 fun K o=>?_;have f1:=G.out.frozen 1;have f2:=G.out.cell 1;go_simp;refine o.out _ _ ?_;clear o K
   try simp only[Act.put,pb,pz,ps]
   refine zac (by kernel_rfl) ?_ _;clear a;go_wp2_with fail
   go_roundw
   case rel=>
    have B:zae (U.alloc (.cells #[.slice P (zaP (q-p) l).length Q] 34)) (fun b=>w.heap.size+2≤b∧(Value.slice A' k cap').ownBlock≠some b) (.slice P (zaP (q-p) l).length Q) (zaP (q-p) l):=by
     refine ⟨((Sl.of_own F.out).alloc _).mono fun b _ H=>⟨?_,fun e=>?_⟩,zpk _ (by omega) _ aa.out.2⟩
     ·have:=(F.out.lt b H).1;simp at this;omega
     ·have h1:=(F.out.lt b H).1;have h2:=(f.out.lt b e).2
      simp at h1
      omega
    have hold:∀(j:Nat) (l2:List Off),((zbJ n bs c).take k)[j]? =some l2→∃u,vs'[j]? =some u∧zae (U.alloc (.cells #[.slice P (zaP (q-p) l).length Q] 34)) (fun b=>w.heap.size+2≤b∧(Value.slice A' k cap').ownBlock≠some b) u l2:=
     fun j l2 hj=>let ⟨u,hu,t⟩:=HO'.out j l2 hj;⟨u,hu,(t.grow m.out).alloc _⟩
    have hob2:=zaH.snoc HLK.out (zbM (zbH f.out m.out) _) hold B HW3.out Y.out HL3.out;refine ⟨k+1,A3,c3,by omega,by go_num,?_,(G.out.set_ 1 _).drew,?_⟩
    ·rw[List.take_add_one,HLG.out];exact (hob2.far (grownBy_setCell _ ⟨w.heap.size+1,1,none⟩ _) (fun j e=>by simp at e;omega)).drew
    ·exact (((X.out.trans ((m.out.mono (by omega)).alloc (by omega) _)).grown Y.out (by simp;omega) (fun j e=>by have:=(f.out.lt j e).1;omega)).setCell (p:=⟨w.heap.size+1,1,none⟩) (by simp) _)
   case measure=>simp[intOf];omega
  ·obtain rfl:k=bs.length:=by omega
   have hR:=HR0.out.below X.out (by omega);have r1:=hR.cell 1;have r0:=hR.cell 0;have rf:=hR.frozen;have y1:=HY.out.cell 1;have y0:=HY.out.cell 0;have HRR:=hid hR;clear hR;go_wp2_with fail
   have N:=((HRR.out.set_ 0 ↑n).set_ 1 (.slice A' bs.length cap'));have s0:=N.cell 0;have s1:=N.cell 1
   simp at s0 s1
   refine bodyPost_ret (v:=.agg #[n,.slice A' bs.length cap']) (by simp[results,Tryz.results331,go_sem,s0,s1]) rfl ⟨_,_,rfl,?_,?_⟩
   ·have h1:=Z.out;rw[List.take_of_length_le (by rw[zcZ];omega)] at h1;exact ((h1.far (grownBy_setCell _ ⟨w,0,none⟩ _) (fun j e=>by simp at e;omega)).far (grownBy_setCell _ ⟨w,1,none⟩ _) (fun j e=>by simp at e;omega)).mono (by omega)
   ·exact (d.out.setCell (p:=⟨w,0,none⟩) (by simp) _).setCell (p:=⟨w,1,none⟩) (by simp) _
theorem zuo {a:Nat} {o:Off} {c:Int} (h:zdv a o=false) (e:0≤c) (f:c<o.c):zdv a ⟨o.g,o.c-c⟩=false:=by
 simp only[zdv,Bool.or_eq_false_iff,decide_eq_false_iff_not] at h ⊢;obtain ⟨⟨⟨b,d⟩,i⟩,j⟩:=h;exact ⟨⟨⟨b,d⟩,by omega⟩,by omega⟩
theorem zqu {n:Int} {l:List Off} {c:Int} (h:zaA n l=0) (f:0≤c):zaA n (zaP c l)=0:=by
 unfold zaA at h ⊢;have d:=zkl c l
 split at h
 ·omega
 ·split at h
  ·omega
  ·rename_i g m
   rw[if_neg g,if_neg (by omega)];have i:zbZ (2 ^ n.toNat-1) l=none:=by
    cases hb:zbZ (2 ^ n.toNat-1) l with
    |none=>rfl
    |some k=>rw[hb] at h;simp at h
   have b:zbZ (2 ^ n.toNat-1) (zaP c l)=none:=by
    rw[zdO];intro o e;simp only[zaP,List.mem_map,List.mem_filter,decide_eq_true_eq] at e;obtain ⟨p,⟨j,a⟩,rfl⟩:=e;exact zuo ((zdO _ _).mp i p j) f a
   rw[b]
theorem zkn {n:Int} {bs:List (List Off)} {a:List Int} {l:List Off} (d:zda a (zaF n bs)=true) (h:l∈zbJ n bs a):∃l0∈bs,∃c:Int,0≤c∧l=zaP c l0:=by
 simp only[zbJ,List.mem_mapIdx] at h;obtain ⟨i,g,rfl⟩:=h;refine ⟨bs[i],List.getElem_mem g,_,?_,rfl⟩;obtain ⟨j,b⟩:=(zdE _ _).mp d;have k:i<(zaF n bs).length:=by rw[zbn];exact g
 have e:=gE k;have f:=gE (show i<a.length by omega);have:=b i _ _ f e;rw[e,f];simp only[Option.getD_some]
 omega
theorem zmt {n:Int} {bs:List (List Off)} {d:List Int} (o:zak n bs=0) (b:zda d (zaF n bs)=true):zak n (zbJ n bs d)=0:=by
 obtain ⟨g,h,i,j,k⟩:=zaL o;refine znP g h (by rw[zcZ];exact i) (fun l f=>?_) (fun l f=>?_)
 ·obtain ⟨e,a,c,_,rfl⟩:=zkn b f;have:=j e a;have:=zkl c e
  omega
 ·obtain ⟨e,a,c,m,rfl⟩:=zkn b f;exact zqu (k e a) m
theorem zlm (n:Int) (bs:List (List Off)) (b:Int) (v:Value) (R:Nat→Prop) (w:World) (E:zaB w R v bs) (D:zbu n bs b []=0):
  Calls Tryz.prog 330 #[.agg #[n,v],b] w fun e w'=>∃A' cap',e=.returned (.tuple #[.agg #[.slice A' bs.length cap',(W (bs.set b.toNat []) (allOf n):Int)],()])∧
   w'.ownsRow w.heap.size 3 1 (.slice A' bs.length cap') bs.length (ints (zaj n (bs.set b.toNat [])))∧Below w w w':=by
 obtain ⟨U,⟨_,A,L,rfl,_⟩,_⟩:=id E;have I:=hid E;have K:=hid (ziI (i:=b.toNat) (zlh D));have J:=hid D;have o:(bs.set b.toNat []).length=bs.length:=by simp
 have h:=hid o;clear E D o;go_enter Tryz.func330,Tryz.ntmps330
 go_wp2_with (first
  |(go_at_call 328;refine (zk3 n bs b _ R _ ((I.out.alloc _).alloc _) J.out).mono ?_;rintro e F ⟨G,j,rfl,q,l⟩;have g:=l.mono (B':=w.heap.size+2) (by simp);obtain ⟨M,N,y,z,S,O,P,f⟩:=zcl g;have t:=hid q;have r:=hid f;clear q l g f)
  |(go_at_call 320;go_must (refine (zlS n (bs.set b.toNat []) (.slice G bs.length j) _ _ ((t.out.alloc _).buys) K.out).mono ?_);go_must (rintro e Q ⟨H,k,rfl,d,m⟩);go_must (rw[h.out] at d);go_must (rw[h.out]);have c:=((Below.refl F.heap.size F).alloc lR _).trans (m.mono (B':=F.heap.size) (by simp));have B:=qc c y (by simp;omega);have C:=qc c z (by simp;omega);have T:∀i,Q.frozen? ⟨w.heap.size+1,i,none⟩=false:=fun i=>(c.frozen (p:=⟨w.heap.size+1,i,none⟩) (by simp;omega)).trans (O i);have x:=hid d;have s:=hid c;clear d m c))
 refine bodyPost_ret (v:=.tuple #[.agg #[.slice H bs.length k,(W (bs.set b.toNat []) (allOf n):Int)],()]) (by simp[results,Tryz.results330,go_sem,B,C]) rfl ⟨_,_,rfl,?_,?_⟩
 ·exact zbI (ownsRow_setCell_below (ownsRow_setCell_below x.out (a:=⟨w.heap.size+1,0,none⟩) (by simp;omega) _) (a:=⟨w.heap.size+1,1,none⟩) (by simp;omega) _) (by simp;omega)
 ·exact ((r.out.trans (s.out.mono (by omega))).setCell (p:=⟨w.heap.size+1,0,none⟩) (by simp) _).setCell (p:=⟨w.heap.size+1,1,none⟩) (by simp) _
theorem znY {n:Int} {bs:List (List Off)} {b:List Int} (k:zak n bs=0) (e:∀l∈bs,∀o∈l,o.wf) (d:zda b (zaF n bs)=true):∀x∈b,0≤x∧x≤1099511627776:=by
 intro x m;obtain ⟨i,c,rfl⟩:=List.mem_iff_getElem.mp m;obtain ⟨g,a⟩:=(zdE _ _).mp d;have j:i<(zaF n bs).length:=by omega
 have f:=gE j;have h:=gE c;have p:=a i _ _ h f;have q:=zlW k e f
 omega
theorem zvU {n:Int} {bs:List (List Off)} {a:List Int} (e:∀l∈bs,∀o∈l,o.wf) (d:zda a (zaF n bs)=true):∀l∈zbJ n bs a,∀o∈l,o.wf:=by
 intro l h;obtain ⟨f,b,c,g,rfl⟩:=zkn d h;exact zpk c g f (e f b)
def zb2 (n:Int) (bs:List (List Off)) (pay:List Int) (i:Nat):Int:=max 0 (woW n (zbJ n bs pay) i-(zam pay-pay[i]?.getD 0))
theorem zlX {n:Int} {bs:List (List Off)} {a:List Int} (b:zda a (zaF n bs)=true):a.length=bs.length:=by
 have:=((zdE _ _).mp b).1
 rwa [zbn] at this
theorem zwL {a:List Int} (h:∀x∈a,0≤x∧x≤1099511627776) (e:a.length≤32):0≤zam a∧zam a≤35184372088832:=by
 have b:∀l:List Int,(∀x∈l,0≤x∧x≤1099511627776)→0≤zam l∧zam l≤l.length*1099511627776:=by
  intro l
  induction l with
  |nil=>intro _;simp[zam]
  |cons x l ih=>
   intro h;have b:=h x (by simp);have d:=ih (fun y c=>h y (by simp[c]));simp only[zam,List.length_cons]
   omega
 have:=b a h
 omega
theorem zsu (n:Int) (bs:List (List Off)) (v:Value) (lo g:Nat) (A:Option Addr) (G:Nat) (a:List Int) (V:Value) (R Rx:Nat→Prop) (k:Nat) (hk:k<bs.length) (w:World) (hw:zbN w lo g n v bs A G) (hl:zaB w Rx v bs) (Y:Sl w R V a.length 1 (ints a))
  (O:zak n bs=0) (f:zda a (zaF n bs)=true):
  Calls Tryz.prog 324 #[.pointer (some ⟨g,0,none⟩),(k:Int),V] w fun e w'=>e=.returned ↑(zb2 n bs a k:Int)∧Below w w w':=by
 have B:=zaB.wf hl;have s:=zmt O f;have U:=zlX f;have hl32:=(zaL O).2.2.1;have z:zbu n (zbJ n bs a) (k:Int) []=0:=zha s (by rw[zcZ];exact hk);have m:=znY O B f;obtain ⟨hs0,hs1⟩:=zwL m (by omega);obtain ⟨hw0,hw1⟩:=znR (zvU B f) s (k:Int);have C:woW n (zbJ n bs a) (k:Int)=W ((zbJ n bs a).set k []) (allOf n):=by unfold woW;rw[if_pos z];rfl
 obtain ⟨b,i,p,hA,X,t,hc⟩:∃b i p,V=.slice (some ⟨b,i,none⟩) a.length (match V with| .slice _ _ c=>c|_=>0)∧b<w.heap.size∧a[k]? =some p∧w.cell? ⟨b,i+k,none⟩=some ↑(p:Int):=by
  obtain ⟨_,Ap,H,rfl,_⟩:=id Y;obtain ⟨b,i,x,rfl,X,hx,hc⟩:=Y.int_at (k:=k) (by omega);exact ⟨b,i,x,rfl,X,hx,hc⟩
 have hp2:=m p (mG t);have l:zb2 n bs a k=max 0 (woW n (zbJ n bs a) k-(zam a-p)):=by unfold zb2;rw[t];rfl
 obtain ⟨H,N⟩:=nm ((match V with| .slice _ _ c=>c|_=>0));rw[←N] at hA;clear N;subst hA;obtain ⟨q,L⟩:=nm (woW n (zbJ n bs a) (k:Int));rw[←L] at hw0 hw1 C l;obtain ⟨T,hT⟩:=nm (zam a);rw[←hT] at hs0 hs1 l;have e1:IntKind.i64.wrap (T-p)=T-p:=iW _ (by omega);have e2:IntKind.i64.wrap (q-(T-p))=q-(T-p):=iW _ (by omega);have e3:(0:Int)≤(k:Int):=by omega
 have e4:(k:Int)<(a.length:Int):=by omega
 have HW:=hid hw;have HL:=hid hl;have HP:=hid Y;have HI:=hid O;have ac:=hid f;have ae:=hid z;have af:=hid C;have HT:=hid hT;have E:=hid l;have ad:=hid m;have HLL:=hid (zcZ n bs a);have HPL:=hid U;have y:a.length≤64:=by omega
 clear hw hl Y O f z C hT l m B s t L U;go_enter Tryz.func324,Tryz.ntmps324
 go_wp2_with (first
  |(go_at_call 331;refine (zoK n bs v lo g A G a _ R Rx _ HW.out HL.out HP.out HI.out ac.out).mono ?_;rintro e w1 ⟨A1,c1,rfl,S,r⟩;have ab:=hid S;have aa:=hid r;have hsz1:=r.size;clear S r)
  |(go_at_call 330;go_must (refine (zlm n (zbJ n bs a) (k:Int) (.slice A1 bs.length c1) _ _ ab.out.buys ae.out).mono ?_);rintro e Z ⟨A2,c2,rfl,_,M⟩;rw[Int.toNat_natCast,←af.out];have D:=hid (aa.out.trans (M.mono (B':=w.heap.size) (by omega)));clear M))
 obtain ⟨o,h⟩:=nm (Z.alloc (.cells #[.slice A2 (zbJ n bs a).length c2,q] 288));have j:=hid (show Below w w o from by rw[h];exact D.out.alloc D.out.size _);have P:Z.heap.size<o.heap.size:=by rw[h];simp
 have d0:o.cell? ⟨Z,1,none⟩=some ↑q:=by rw[h];exact (Blk.new Z 288 #[.slice A2 (zbJ n bs a).length c2,q]).cell 1
 have d1:=qc j.out hc X;have hbW:=lL X j.out.size;rw[←h];clear h;have Q:zb2 n bs a k=if T-p<q then q-(T-p) else 0:=by rw[E.out];split<;>omega
 have F:=hid Q;clear Q;refine zad (Below o o) [] (by kernel_rfl) (bR.drew) (fun d=>?_);refine tp 0 d ?_;have qq:=hid fun (w':World) (J:(Below o o) w')=>And.intro (qc J d0 P)<|qc J d1 hbW;refine tl 1 d qq ?_;refine tp 2 d ?_;refine tp 4 d ?_;refine tp 5 d ?_;refine tp 6 d ?_;refine tl 7 d qq ?_;refine stp 3 fun K I=>?_;go_simp;refine (zm5 a _ R _ ((HP.out.grow j.out).grow bR.drew) (fun x hx=>by have:=ad.out x hx;omega) y).mono ?_;rintro e w4 ⟨rfl,rfl⟩;rw[←HT.out];refine I.out _ _ ?_ (fun d=>?_)
 ·exact d
 clear I K
 try simp only[Act.put,pb,pz,ps]
 refine tp 8 d ?_;refine tp 9 d ?_;refine stp 10 fun K I=>?_;go_simp;refine I.out _ _ ?_ (fun d=>?_)
 ·exact d
 clear I K
 try simp only[Act.put,pb,pz,ps]
 refine tp 11 d ?_;refine zac (by kernel_rfl) ?_ _;go_wp2_with fail
 all_goals go_ret
 all_goals exact ⟨by first|(rw[F.out,if_pos (by omega)];rfl)|(rw[F.out,if_neg (by omega)];rfl)|(rw[E.out];rfl),j.out.drew⟩
def zaq (cs:List Int) (k:Nat):List Int:=((List.range k).filter (zdj cs)).map fun (i:Nat)=>(i:Int)
theorem zmu {cs:List Int} {k:Nat} (h:zdj cs k=true):zaq cs (k+1)=zaq cs k++[(k:Int)]:=by
 unfold zaq;rw[List.range_succ,List.filter_append,List.map_append];simp[h]
theorem znZ {cs:List Int} {k:Nat} (h:zdj cs k=false):zaq cs (k+1)=zaq cs k:=by
 unfold zaq;rw[List.range_succ,List.filter_append,List.map_append];simp[h]
theorem zmv (cs:List Int) (k:Nat):(zaq cs k).length≤k:=by
 unfold zaq;rw[List.length_map];exact lT (List.length_filter_le _ _) (by simp)
end Vb
end Go.Proofs.YthoaidfpgijbfaaGreat

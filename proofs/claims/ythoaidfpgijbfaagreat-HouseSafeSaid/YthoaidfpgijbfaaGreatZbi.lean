/- Joined by program. -/
import Derived.Test.YthoaidfpgijbfaaGreatZbf
set_option linter.all false
namespace Go.Proofs.YthoaidfpgijbfaaGreat
namespace Vb
open Go.RowKit
theorem zwV (x:Nat):∀y:Nat,x&&&y=0→x+y=x|||y:=by
 induction x using Nat.strongRecOn with
 |_ x ih=>
  intro y h
  rcases Nat.eq_zero_or_pos x with h0|h0
  ·subst h0;simp
  ·have a:=ih (x/2) (by omega) (y/2) (by rw[←Nat.and_div_two,h]);rw[←Nat.or_div_two] at a;have c:(x|||y) % 2=1↔x % 2=1∨y % 2=1:=Nat.or_mod_two_eq_one;have b:(x&&&y) % 2=1↔x % 2=1∧y % 2=1:=Nat.and_mod_two_eq_one;rw[h] at b
   omega
theorem and_split (a f:Nat) (e:a<4294967296) (g:f<4294967296):(a&&&f)+andNot a f=a:=by
 unfold andNot;have c:∀i,32≤i→a.testBit i=false:=fun i b=>Nat.testBit_lt_two_pow (lL (show a<2 ^ 32 from e) (Nat.pow_le_pow_right (by decide) b));have d:∀i,i<32→(4294967295-f).testBit i=!f.testBit i:=fun i b=>by
  rw[show 4294967295-f=2 ^ 32-(f+1) from by omega,Nat.testBit_two_pow_sub_succ (by omega),decide_eq_true b];rfl
 rw[zwV]
 ·apply Nat.eq_of_testBit_eq
  intro i;simp only[Nat.testBit_or,Nat.testBit_and]
  rcases Nat.lt_or_ge i 32 with b|b
  ·rw[d i b];cases a.testBit i<;>cases f.testBit i<;>rfl
  ·rw[c i b];rfl
 ·apply Nat.eq_of_testBit_eq
  intro i;simp only[Nat.testBit_and,Nat.zero_testBit]
  rcases Nat.lt_or_ge i 32 with b|b
  ·rw[d i b];cases a.testBit i<;>cases f.testBit i<;>rfl
  ·rw[c i b];rfl
theorem zwn {a f:Nat} (b:a<4294967296) (c:f<4294967296):a&&&f=a↔andNot a f=0:=by
 have:=and_split a f b c
 omega
end Vb
namespace Ho
open Go.RowKit Vb Ac
theorem zmT {a f b:Nat} (h:a&&&andNot f b=a):a&&&f=a∧(a<4294967296→b<4294967296→b&&&a=0):=by
 unfold andNot at h;have c:a&&&f=a:=by
  conv=>lhs;rw[←h]
  rw[Nat.and_assoc,show f&&&(4294967295-b)&&&f=f&&&(4294967295-b) by rw[Nat.and_comm,←Nat.and_assoc,Nat.and_self]];exact h
 refine ⟨c,fun e g=>?_⟩;rw[←Nat.and_assoc,c] at h;have d:=and_split a b e g;unfold andNot at d;rw[Nat.and_comm]
 omega
theorem zot {g:Nat→Int} {f:Nat} {left:Int} {l:List Off} (d:f<4294967296) (e:∀o∈l,o.g<4294967296):
  ((zcu g f left l).1=-1∧(zcu g f left l).2=f)∨∃(j:Nat) (o:Off),(zcu g f left l).1=(j:Int)∧l[j]? =some o∧(zcu g f left l).2=andNot f o.g∧o.g&&&f=o.g:=by
 unfold zcu
 cases hp:zbD g f left l with
 |none=>exact .inl ⟨rfl,rfl⟩
 |some p=>
  obtain ⟨o,b,c,a⟩:=zhI _ _ _ _ _ hp;refine .inr ⟨p.1,o,rfl,b,by show andNot f p.2=_;rw[c],?_⟩;unfold zb8 at a;rw[Bool.and_eq_true,decide_eq_true_eq] at a;exact (zwn (e o (mG b)) d).2 a.1
theorem ziY:∀(bs:List (List Off)) (f i j:Nat) (l:List Off) (o:Off),f<4294967296→(∀l∈bs,∀o∈l,o.g<4294967296)→(Vb.choose bs f)[i]? =some (j:Int)→bs[i]? =some l→l[j]? =some o→o.g&&&f=o.g
 |[],_,_,_,_,_,_,_,_,h,_=>by simp at h
 |l::bs,f,i,j,m,o,hf,hw,hc,hb,ho=>by
  have hp:=zot (g:=W bs) (left:=W (l::bs) f) hf (hw l (.head _))
  cases i with
  |zero=>
   simp only[Vb.choose,List.getElem?_cons_zero,Option.some.injEq] at hc hb;subst hb
   rcases hp with ⟨h1,_⟩|⟨k,x,h1,h2,_,h3⟩
   ·omega
   ·have:k=j:=by omega
    subst this;rw[ho] at h2;injection h2 with h2
    rw[h2];exact h3
  |succ i=>
   simp only[Vb.choose,List.getElem?_cons_succ] at hc hb
   rcases hp with ⟨_,h2⟩|⟨k,x,_,_,h2,_⟩
   ·rw[h2] at hc;exact ziY bs f i j m o hf (fun l a=>hw l (.tail _ a)) hc hb ho
   ·rw[h2] at hc;exact (zmT (ziY bs _ i j m o (Nat.lt_of_le_of_lt (zef _ _) hf) (fun l a=>hw l (.tail _ a)) hc hb ho)).1
theorem ziZ:∀(bs:List (List Off)) (f i k j m:Nat) (l1 l2:List Off) (o1 o2:Off),f<4294967296→(∀l∈bs,∀o∈l,o.g<4294967296)→i<k→(Vb.choose bs f)[i]? =some (j:Int)→bs[i]? =some l1→l1[j]? =some o1→
  (Vb.choose bs f)[k]? =some (m:Int)→bs[k]? =some l2→l2[m]? =some o2→o1.g&&&o2.g=0
 |[],_,_,_,_,_,_,_,_,_,_,_,_,_,h,_,_,_,_=>by simp at h
 |l::bs,f,i,k+1,j,m,l1,l2,o1,o2,hf,hw,hik,c1,b1,e1,c2,b2,e2=>by
  have hp:=zot (g:=W bs) (left:=W (l::bs) f) hf (hw l (.head _));have hw':∀l∈bs,∀o∈l,o.g<4294967296:=fun l hl=>hw l (.tail _ hl);simp only[Vb.choose,List.getElem?_cons_succ] at c2 b2
  cases i with
  |zero=>
   simp only[Vb.choose,List.getElem?_cons_zero,Option.some.injEq] at c1 b1;subst b1
   rcases hp with ⟨h1,_⟩|⟨q,x,h1,h2,h4,h3⟩
   ·omega
   ·have:q=j:=by omega
    subst this;rw[e1] at h2;injection h2 with h2
    rw[h4] at c2;have b:=ziY bs _ k m l2 o2 (Nat.lt_of_le_of_lt (zef _ _) hf) hw' c2 b2 e2;rw[h2];exact (zmT b).2 (hw' l2 (mG b2) o2 (mG e2)) (hw l (.head _) x (mG (h2▸e1)))
  |succ i=>
   simp only[Vb.choose,List.getElem?_cons_succ] at c1 b1;have a:(zcu (W bs) f (W (l::bs) f) l).2<4294967296:=by
    rcases hp with ⟨_,h2⟩|⟨_,_,_,_,h2,_⟩
    ·rw[h2];exact hf
    ·rw[h2];exact Nat.lt_of_le_of_lt (zef _ _) hf
   exact ziZ bs _ i k j m l1 l2 o1 o2 a hw' (by omega) c1 b1 e1 c2 b2 e2
structure SellG (sl:List SaleR):Prop where
 rng:∀s∈sl,0≤s.goods∧s.goods<4294967296
 apart:sl.Pairwise fun a b=>a.goods.toNat&&&b.goods.toNat=0
theorem SellG.zero {sl:List SaleR} (h:∀s∈sl,s.goods=0):SellG sl:=
 ⟨fun s hs=>by rw[h s hs];decide,List.Pairwise.imp_of_mem (R:=fun _ _=>True) (fun {a b} ha _ _=>by rw[h a ha];simp) (List.pairwise_of_forall fun _ _=>trivial)⟩
theorem zth {l:LotS} (T:1≤l.put.count∧l.put.count≤10) (v:∀s∈l.stands,∀o∈s.offers,o.wf):SellG (zcr l):=by
 have B:∀x∈zcq l,∀o∈x,o.g<4294967296:=fun x r o O=>by
  unfold zcq at r;obtain ⟨s,d,rfl⟩:=List.mem_map.1 r;exact (v s d o O).1
 have p:∀(i:Nat) (x:Stand×Int×Int),(zeG l)[i]? =some x→∀s∈zaT x,∃(j:Nat) (m:List Off) (o:Off),(Vb.choose (zcq l) (allOf l.put.count))[i]? =some (j:Int)∧(zcq l)[i]? =some m∧m[j]? =some o∧s.goods=(o.g:Int):=by
  rintro i ⟨z,c,y⟩ h s d;unfold zeG at h;rw[List.getElem?_zip_eq_some,List.getElem?_zip_eq_some] at h;obtain ⟨n,f,_⟩:=h;replace n:l.stands[i]? =some z:=n;replace f:(Vb.choose (zcq l) (allOf l.put.count))[i]? =some c:=f;have q:(zcq l)[i]? =some z.offers:=by unfold zcq;rw[List.getElem?_map,n];rfl
  unfold zaT at d
  split at d
  ·rename_i A
   rw[List.mem_singleton] at d
   rcases zdR _ _ _ _ f with e|⟨j,m,o,e,el,eo⟩
   ·replace A:0≤c:=A
    omega
   ·rw[q] at el;injection el with el
    subst el;subst e;refine ⟨j,_,o,f,q,eo,?_⟩;rw[d]
    show ((((z.offers[(j:Int).toNat]?).map (·.g)).getD 0:Nat):Int)=_
    rw[Int.toNat_natCast,eo]
    rfl
  ·cases d
 refine ⟨fun s d=>?_,?_⟩
 ·unfold zcr at d;obtain ⟨x,r,d⟩:=List.mem_flatMap.1 d;obtain ⟨i,h⟩:=List.getElem?_of_mem r;obtain ⟨j,m,o,_,K,L,S⟩:=p i x h s d;have:=B m (mG K) o (mG L)
  omega
 ·unfold zcr;rw[List.pairwise_flatMap];refine ⟨fun x _=>?_,?_⟩
  ·unfold zaT
   split<;>simp
  ·refine List.pairwise_iff_getElem.2 fun i k h N t a M b q=>?_;obtain ⟨j,m,o,E,C,G,I⟩:=p i _ (gE h) a M;obtain ⟨P,Q,R,F,D,H,J⟩:=p k _ (gE N) b q;rw[I,J,Int.toNat_natCast,Int.toNat_natCast];exact ziZ _ _ i k j P m Q o R (zhv _) B t E C G F D H
theorem zoW {N:Nat} {l:LotS} (b:LotInv N l) (c:StandInv l):SellG (zav l).2:=by
 unfold zav;by_cases k1:l.put.kind=1
 ·rw[if_pos k1];refine SellG.zero fun s a=>?_;replace a:s∈zcf l:=a;unfold zcf at a
  split at a
  ·cases a
  ·rw[List.mem_singleton] at a;rw[a];rfl
 rw[if_neg k1];by_cases k2:l.put.kind=2
 ·rw[if_pos k2];exact SellG.zero fun s a=>by cases a
 rw[if_neg k2];by_cases k3:l.put.kind=3
 ·rw[if_pos k3];refine SellG.zero fun s a=>?_;replace a:s∈zaY l:=a;unfold zaY at a
  split at a
  ·cases a
  ·rw[List.mem_singleton] at a;rw[a];rfl
 rw[if_neg k3];by_cases k4:l.put.kind=4
 ·rw[if_pos k4];refine SellG.zero fun s a=>?_;replace a:s∈zcb l:=a;unfold zcb zaU at a;obtain ⟨x,_,rfl⟩:=List.mem_map.1 a
  rfl
 rw[if_neg k4];have d:=(zb7 b.ok).1;exact zth ((zcS b.ok).2 (by omega)) c.wf
def Said (bk:List OrderR) (b n:Int) (os:List Off):Prop:=∃o∈bk,o.kind=4∧o.bidder=b∧o.lot=n∧o.offers=os
theorem Said.more {a:List OrderR} {b n:Int} {os:List Off} (h:Said a b n os) (o:OrderR):Said (a++[o]) b n os:=by
 obtain ⟨x,d,c⟩:=h;exact ⟨x,List.mem_append_left _ d,c⟩
def Apart (a b:SaleR):Prop:=a.lot=b.lot→a.number=b.number∧a.bidder≠b.bidder∧a.goods.toNat&&&b.goods.toNat=0
structure BInv (bk:List OrderR) (H:House):Prop where
 stand:∀(j:Nat) l,H.lots[j]? =some l→∀s∈l.stands,Said bk s.bidder j s.offers
 sale:∀s∈H.sales,0≤s.coins∧(0≤s.goods∧s.goods<4294967296)∧∃os,Said bk s.bidder s.lot os∧zf7 s os
 shut:∀s∈H.sales,∃(j:Nat) (l:LotS),s.lot=(j:Int)∧H.lots[j]? =some l∧l.closed=true
 once:H.sales.Pairwise Apart
theorem BInv.more {bk:List OrderR} {H:House} (h:BInv bk H) (o:OrderR):BInv (bk++[o]) H:=
 ⟨fun j l hl s hs=>(h.stand j l hl s hs).more o,fun s hs=>by
  obtain ⟨h1,h2,os,h3,h4⟩:=h.sale s hs;exact ⟨h1,h2,os,h3.more o,h4⟩,h.shut,h.once⟩
theorem BInv.same {b:List OrderR} {H H':House} (h:BInv b H) (c:H'.lots=H.lots) (a:H'.sales=H.sales):BInv b H':=by
 refine ⟨?_,?_,?_,?_⟩
 ·rw[c];exact h.stand
 ·rw[a];exact h.sale
 ·rw[c,a];exact h.shut
 ·rw[a];exact h.once
theorem BInv.turn {d:List OrderR} {H H':House} (h:BInv d H) {j:Nat} {l l':LotS} (p:H.lots[j]? =some l) (r:l'.closed=l.closed) (g:∀s∈l'.stands,Said d s.bidder j s.offers) (i:H'.lots=H.lots.set j l') (f:H'.sales=H.sales):BInv d H':=by
 have o:=(gS.1 p).1;refine ⟨fun k m a s c=>?_,by rw[f];exact h.sale,fun s c=>?_,by rw[f];exact h.once⟩
 ·rw[i] at a;by_cases e:j=k
  ·subst e;rw[List.getElem?_set_self o] at a;injection a with a
   exact g s (a▸c)
  ·rw[List.getElem?_set_ne e] at a;exact h.stand k m a s c
 ·rw[f] at c;obtain ⟨k,m,q,b,n⟩:=h.shut s c;refine ⟨k,if j=k then l' else m,q,?_,?_⟩
  ·rw[i];by_cases e:j=k
   ·subst e;rw[List.getElem?_set_self o,if_pos rfl]
   ·rw[List.getElem?_set_ne e,if_neg e,b]
  ·by_cases e:j=k
   ·subst e;rw[p] at b;injection b with b
    rw[if_pos rfl,r,b,n]
   ·rw[if_neg e,n]
theorem BInv.close {p:List OrderR} {H H':House} (h:BInv p H) {j:Nat} {l l':LotS} (B:H.lots[j]? =some l) (I:l.closed=false) (x:l'.stands=[]) (y:l'.closed=true) {ss:List SaleR} {K:House} (G:(ss.map (·.bidder)).Nodup) (z:SellG ss)
  (v:∀s∈ss,0≤s.coins∧∃os,Said p s.bidder j os∧zf7 s os) (q:H'.lots=H.lots.set j l') (r:H'.sales=H.sales++ss.map (zgi K j)):BInv p H':=by
 have A:=(gS.1 B).1;refine ⟨fun k m g s c=>?_,fun s c=>?_,fun s c=>?_,?_⟩
 ·rw[q] at g;by_cases e:j=k
  ·subst e;rw[List.getElem?_set_self A] at g;injection g with g
   rw[←g,x] at c
   cases c
  ·rw[List.getElem?_set_ne e] at g;exact h.stand k m g s c
 ·rw[r] at c
  rcases List.mem_append.1 c with c|c
  ·exact h.sale s c
  ·obtain ⟨t,o,rfl⟩:=List.mem_map.1 c;obtain ⟨n,os,d,i⟩:=v t o;exact ⟨n,z.rng t o,os,d,i⟩
 ·rw[r] at c;have f:H'.lots[j]? =some l':=by rw[q];exact List.getElem?_set_self A
  rcases List.mem_append.1 c with c|c
  ·obtain ⟨k,m,n,d,i⟩:=h.shut s c;by_cases e:j=k
   ·subst e;exact ⟨j,l',n,f,y⟩
   ·exact ⟨k,m,n,by rw[q,List.getElem?_set_ne e];exact d,i⟩
  ·obtain ⟨t,o,rfl⟩:=List.mem_map.1 c;exact ⟨j,l',rfl,f,y⟩
 ·rw[r,List.pairwise_append];refine ⟨h.once,?_,fun a E b F e=>?_⟩
  ·rw[List.pairwise_map];refine List.Pairwise.imp_of_mem (R:=fun a b=>a.bidder≠b.bidder∧a.goods.toNat&&&b.goods.toNat=0) (fun {a b} _ _ C _=>⟨rfl,C.1,C.2⟩) ?_;exact List.Pairwise.and (List.pairwise_map.1 G) z.apart
  ·obtain ⟨t,o,rfl⟩:=List.mem_map.1 F;obtain ⟨k,m,n,d,i⟩:=h.shut a E;have e:a.lot=(j:Int):=e;have D:k=j:=by omega
   rw[D,B] at d;injection d with d
   rw[←d,I] at i
   cases i
theorem zmU {os:List Off} {c:Int} (h:zaK os=some c):os=[⟨0,c⟩]:=by
 unfold zaK at h
 split at h
 ·rename_i o
  split at h
  ·rename_i e
   injection h with h
   obtain ⟨g,a⟩:=o;have b:g=0:=e.1;have d:a=c:=h;rw[b,d]
  ·cases h
 ·cases h
theorem zq0 {H:House} {i:Nat} {a:Acc} {l:LotS} {os:List Off} (h:zfM H i a l os=0):os=[⟨0,zbW os⟩]:=by
 unfold zfM at h
 cases hs:zaK os with
 |none=>rw[hs] at h;cases h
 |some c=>
  have:zbW os=c:=by unfold zbW;rw[hs];rfl
  rw[this];exact zmU hs
theorem zq1 {H:House} {a:Acc} {l:LotS} {os:List Off} (h:zeA H a l os=0):∃o∈os,zbi l.put H.now≤o.c:=by
 unfold zeA at h
 cases hs:zaK os with
 |none=>rw[hs] at h;cases h
 |some c=>
  rw[hs] at h;simp only at h;obtain ⟨o,b,d⟩:=zlw hs;refine ⟨o,b,?_⟩
  split at h
  ·cases h
  ·omega
theorem zu5 {t:List OrderR} {H:House} (E:HInv H) (G:SPre H) (D:BInv t H) {o:OrderR} (A:o.kind=4) (c:zdW H o=0):BInv (t++[o]) (zeU H o):=by
 have f:=D.more o;unfold zdW at c;unfold zeU
 cases hat:atP H o with
 |none=>rw[hat] at c;cases c
 |some al=>
  obtain ⟨a,l⟩:=al;rw[hat] at c;simp only at c ⊢;obtain ⟨I,J,N,g⟩:=zcH hat;by_cases hov:zcT H l=true
  ·rw[if_pos hov] at c;cases c
  rw[if_neg hov] at c;obtain ⟨p,_,_⟩:=zfm hov;have F:=E.lots l (mG g);have y:=G.stands l (mG g);have k:Said (t++[o]) ((o.bidder.toNat:Nat):Int) ((o.lot.toNat:Nat):Int) o.offers:=⟨o,by simp,A,by omega,by omega,rfl⟩
  generalize o.bidder.toNat=i at*
  generalize o.lot.toNat=j at*
  unfold kE at c;unfold kH;by_cases k1:l.put.kind=1
  ·rw[if_pos k1] at c ⊢;obtain ⟨M,v⟩:=zdm c;have q:=y.rising k1 p;have B:=zq0 c;refine f.turn g (l':=zfN l (zbo H i a l o.offers)) rfl (fun s d=>?_) rfl rfl;have e:s=⟨(zbo H i a l o.offers).leader,[⟨0,(zbo H i a l o.offers).limit⟩],(zbo H i a l o.offers).limit⟩:=List.mem_singleton.1 d;rw[e]
   rcases zpz (l:=l.put) (r:=l.rise) (b:=zdw H i a (zbW o.offers)) with ⟨m,n⟩|⟨m,n,w3,w4⟩
   ·have m:(zbo H i a l o.offers).leader=i:=m;have n:(zbo H i a l o.offers).limit=zbW o.offers:=n
    show Said _ (zbo H i a l o.offers).leader _ [⟨0,(zbo H i a l o.offers).limit⟩]
    rw[m,n,←B];exact k
   ·have m:(zbo H i a l o.offers).leader=l.rise.leader:=m;have n:(zbo H i a l o.offers).limit=l.rise.limit:=n
    show Said _ (zbo H i a l o.offers).leader _ [⟨0,(zbo H i a l o.offers).limit⟩]
    rw[m,n];rw[if_neg w3] at q;exact f.stand j l g ⟨l.rise.leader,[⟨0,l.rise.limit⟩],l.rise.limit⟩ (by rw[q];exact .head _)
  rw[if_neg k1] at c ⊢;by_cases k2:l.put.kind=2
  ·rw[if_pos k2] at c ⊢;have z:FallB l.put:=by
    have h:=F.ok;unfold zbT zh8 at h;simp only[Bool.and_eq_true] at h;have v:=h.2;rw[k2,if_neg (by decide),if_pos rfl] at v;exact ziv v
   obtain ⟨x,L,C⟩:=zq1 c;refine f.close g p (l':={zdf H l with closed:=true,stands:=[]}) rfl rfl (ss:=[zey i (zbi l.put H.now)]) (K:={H with lots:=H.lots.set j (zdf H l),due:=upd H.due j none}) (by simp) (SellG.zero fun s d=>by rw[List.mem_singleton] at d;rw[d];rfl) (fun s d=>?_) ?_ rfl
   ·rw[List.mem_singleton] at d;rw[d];exact ⟨zjY z _,o.offers,k,.inl ⟨rfl,x,L,C,.inl rfl⟩⟩
   ·show (H.lots.set j (zdf H l)).set j {zdf H l with closed:=true,stands:=[]}=_
    rw[List.set_set]
  rw[if_neg k2] at c ⊢;refine f.turn g (l':=zd1 l ⟨i,o.offers,zcw l o.offers⟩) rfl (fun s d=>?_) rfl rfl
  rcases List.mem_append.1 d with d|d
  ·exact f.stand j l g s (zaO.subset d)
  ·rw[List.mem_singleton] at d;rw[d];exact k
theorem zti {c:List OrderR} {H:House} (b:BInv c H) (o:OrderR):BInv c (zdT H o):=by
 unfold zdT
 cases hat:atP H o with
 |none=>exact b
 |some al=>
  obtain ⟨a,l⟩:=al;obtain ⟨e,f,h,d⟩:=zcH hat;exact b.turn d (l':=ze1 l o.bidder.toNat) rfl (fun s g=>b.stand _ l d s (zaO.subset g)) rfl rfl
theorem zu6 {e:List OrderR} {H:House} (o:HPre H) (p:SPre H) (f:BInv e H) {d:Du} {l:LotS} (b:H.lots[d.2.toNat]? =some l) (h:l.closed=false):BInv e (zau zav H d):=by
 have g:=o.lots l (mG b);have a:=p.stands l (mG b);have c:=zok g a h;unfold zau;rw[b];refine f.close b h (l':={(zav l).1 with closed:=true,stands:=[]}) rfl rfl (ss:=(zav l).2) (K:={H with lots:=H.lots.set d.2.toNat (zav l).1}) c.nodup (zoW g a) (fun s q=>?_) ?_ rfl
 ·obtain ⟨i,j,k,m,r,n⟩:=c.each s q;refine ⟨m,i.offers,?_,n⟩;rw[←k];exact f.stand _ l b i j
 ·show (H.lots.set d.2.toNat (zav l).1).set d.2.toNat {(zav l).1 with closed:=true,stands:=[]}=_
  rw[List.set_set]
theorem zh6 {bk:List OrderR}:∀{ds:List Du} {H:House},HPre H→SPre H→BInv bk H→(ds.map (·.2.toNat)).Nodup→(∀d∈ds,∃l,H.lots[d.2.toNat]? =some l∧l.closed=false)→BInv bk (zax zav H ds)
 |[],_,_,_,h,_,_=>h
 |x::ds,H,hI,hS,h,hn,ho=>by
  rw[List.map_cons] at hn;have h1:=List.pairwise_cons.1 hn;have hc:zax zav H (x::ds)=zax zav (zau zav H x) ds:=rfl;rw[hc];obtain ⟨l,hl,hop⟩:=ho x (.head _);have hk:=zeH l;refine zh6 ?_ (zol hI hS hl hop) (zu6 hI hS h hl hop) h1.2 fun d hd=>?_
  ·unfold zau;rw[hl];exact hI.close hl hop hk.2.1 hk.2.2.1 (zfW (hI.lots l (mG hl))) H.due
  ·rw[zew fun e=>h1.1 _ (List.mem_map_of_mem hd) e.symm];exact ho d (.tail _ hd)
theorem ztj {f:List OrderR} {H:House} (a:HInv H) (k:SPre H) (j:BInv f H) {t:Int} (e:∃ds,DueL H.due t ds):BInv f (zbf H t):=by
 obtain ⟨ds,g⟩:=e;unfold zbf;rw[zdG g];unfold zc1;have b:=g;rw[a.due] at b;obtain ⟨n,m⟩:=zkt b;have c:HPre {H with now:=t,due:=zaZ H.due t}:=⟨a.accs,a.names,a.nlen,a.llen,a.lots,a.sales⟩;refine zh6 c (k.same rfl rfl rfl) (j.same rfl rfl) n fun d o=>?_;obtain ⟨l,h,i,_⟩:=m d o;exact ⟨l,h,i⟩
theorem zu7 {e:List OrderR} {H:House} (d:BInv e H) (p:LotR):BInv e (zes H p):=by
 refine ⟨fun j l a s b=>?_,d.sale,fun s b=>?_,d.once⟩
 ·have a:(H.lots++[zcO p])[j]? =some l:=a;by_cases hj:j<H.lots.length
  ·rw[List.getElem?_append_left hj] at a;exact d.stand j l a s b
  ·rw[List.getElem?_append_right (by omega)] at a;have c:=mG a;rw[List.mem_singleton] at c;rw[c] at b
   cases b
 ·obtain ⟨j,l,c,f,g⟩:=d.shut s b;refine ⟨j,l,c,?_,g⟩
  show (H.lots++[zcO p])[j]? =some l
  rw[List.getElem?_append_left (gS.1 f).1];exact f
theorem zwo {H:House} (c:HInv H) (f:SPre H) (b:BInv H.book H) (o:OrderR):BInv (doH H o).book (doH H o):=by
 unfold doH
 split
 ·rename_i a
  unfold doE at a
  split at a
  ·cases a
  have d:=zhR H o;have e:BInv (H.book++[o]) (zbk H o):=by
   unfold zbp at a;unfold zbk;by_cases k1:o.kind=1
   ·rw[if_pos k1];exact (b.more o).same rfl rfl
   rw[if_neg k1] at a ⊢;by_cases k2:o.kind=2
   ·rw[if_pos k2];unfold zb4
    split
    ·exact (b.more o).same rfl rfl
    ·exact b.more o
   rw[if_neg k2] at a ⊢;by_cases k3:o.kind=3
   ·rw[if_pos k3];exact zu7 (b.more o) _
   rw[if_neg k3] at a ⊢;by_cases k4:o.kind=4
   ·rw[if_pos k4] at a ⊢;exact zu5 c f b k4 a
   rw[if_neg k4] at a ⊢;by_cases k5:o.kind=5
   ·rw[if_pos k5];exact zti (b.more o) o
   rw[if_neg k5];exact ztj c f (b.more o) (by rw[c.due];exact zf5 _ _)
  show BInv ((zbk H o).book++[o]) _
  rw[d];exact e.same rfl rfl
 ·exact b
theorem zq2:BInv [] ⟨[],[],[],0,[],[],fun _=>none⟩:=⟨fun j l h=>(by simp at h),fun _ h=>(by cases h),fun _ h=>(by cases h),List.Pairwise.nil⟩
theorem zu8 {H:House} (n:HInv H) {o:OrderR} (m:∀x∈o.offers,x.wf) (b:doE H o=0) (j:o.kind=4):∀x∈o.offers,zai x.c:=by
 unfold doE at b
 split at b
 ·cases b
 unfold zbp at b;rw[if_neg (by omega),if_neg (by omega),if_neg (by omega),if_pos j] at b;unfold zdW at b;have f:∀{c:Int},zaK o.offers=some c→∀x∈o.offers,zai x.c:=fun i x g=>by
  have d:=zg6 i;rw[zmU i,List.mem_singleton] at g;rw[g];exact d
 cases hat:atP H o with
 |none=>rw[hat] at b;cases b
 |some al=>
  obtain ⟨a,l⟩:=al;rw[hat] at b;simp only at b
  split at b
  ·cases b
  unfold kE at b;by_cases k1:l.put.kind=1
  ·rw[if_pos k1] at b;exact f (zdm b).1
  rw[if_neg k1] at b;by_cases k2:l.put.kind=2
  ·rw[if_pos k2] at b;unfold zeA at b
   cases hsg:zaK o.offers with
   |none=>rw[hsg] at b;cases b
   |some c=>exact f hsg
  rw[if_neg k2] at b;by_cases k3:l.put.kind=3
  ·rw[if_pos k3] at b;exact f (zdH b).1
  rw[if_neg k3] at b;by_cases k4:l.put.kind=4
  ·rw[if_pos k4] at b;have d:=(zfi b).2.1;unfold zch at d;rw[List.all_eq_true] at d;intro x g;have h:=d x g;unfold zfQ at h;simp only[Bool.and_eq_true,zaJ] at h;exact h.2
  rw[if_neg k4] at b;unfold zg9 at b
  split at b
  ·cases b
  ·rename_i k
   have d:zaA l.put.count o.offers=0:=Classical.not_not.1 fun e=>k (.inl e);intro x g;have h:=(zeC d).2 x g;unfold zai
   omega
def zq3 (bk:List OrderR):Prop:=∀o∈bk,o.offers.length≤64∧(∀x∈o.offers,x.wf)∧(o.kind=4→∀x∈o.offers,zai x.c)
theorem zwp {H:House} (d:HInv H) (c:zq3 H.book) {o:OrderR} (b:∀x∈o.offers,x.wf):zq3 (doH H o).book:=by
 rw[zdI]
 split
 ·rename_i e
  intro x a
  rcases List.mem_append.1 a with a|a
  ·exact c x a
  ·rw[List.mem_singleton] at a;rw[a];exact ⟨zfn d e,b,zu8 d b e⟩
 ·exact c
def zem (s:SaleR) (b:Int) (x:Off):Int:=if (¬s.goods=0∧(x.g:Int)=s.goods)∨(s.goods=0∧s.count=0) then max b x.c else b
def zdb (s:SaleR) (b:Int) (xs:List Off):Int:=xs.foldl (zem s) b
def ztk (s:SaleR) (xs:List Off):Int:=zam ((xs.take s.count.toNat).map (·.c))
def zi0 (s:SaleR) (o:OrderR):Prop:=¬o.kind=4∨¬o.bidder=s.bidder∨¬o.lot=s.lot
instance (s : SaleR) (o : OrderR) : Decidable (zi0 s o) := by unfold zi0; exact inferInstance
def zdu (s:SaleR) (b:Int) (o:OrderR):Int:=
 if zi0 s o then b else if 0<s.count∧s.count≤o.offers.length then max (zdb s b o.offers) (ztk s o.offers) else zdb s b o.offers
def zfY (s:SaleR) (bk:List OrderR):Int:=bk.foldl (zdu s) (-1)
theorem zq4 (s:SaleR) (b:Int) (x:Off):b≤zem s b x:=by unfold zem;split<;>omega
theorem zhW (s:SaleR):∀(xs:List Off) (b:Int),b≤zdb s b xs
 |[],b=>Int.le_refl _
 |x::xs,b=>Int.le_trans (zq4 s b x) (zhW s xs _)
theorem zj0 {s:SaleR}:∀(xs:List Off) (b:Int) {x:Off},x∈xs→(¬s.goods=0∧(x.g:Int)=s.goods)∨(s.goods=0∧s.count=0)→x.c≤zdb s b xs
 |y::xs,b,x,hx,h=>by
  rcases List.mem_cons.1 hx with rfl|hx
  ·refine Int.le_trans ?_ (zhW s xs _);unfold zem;rw[if_pos h]
   omega
  ·exact zj0 xs _ hx h
theorem zq5 (s:SaleR) (b:Int) (o:OrderR):b≤zdu s b o:=by
 have:=zhW s o.offers b;unfold zdu
 split
 ·omega
 ·split<;>omega
theorem zou (s:SaleR):∀(bk:List OrderR) (b:Int),b≤bk.foldl (zdu s) b
 |[],b=>Int.le_refl _
 |o::bk,b=>Int.le_trans (zq5 s b o) (zou s bk _)
theorem zu9 {s:SaleR} {o:OrderR} (b:Int) (d:¬zi0 s o) (c:zf7 s o.offers):s.coins≤zdu s b o:=by
 unfold zdu;rw[if_neg d]
 rcases c with ⟨h0,x,hx,hc,hg⟩|⟨_,h1,h2,h3⟩
 ·rw[if_neg (by rw[h0];exact fun e=>absurd e.1 (by decide))];refine Int.le_trans hc (zj0 _ _ hx ?_);by_cases e:s.goods=0
  ·exact .inr ⟨e,h0⟩
  ·exact .inl ⟨e,hg.resolve_left e⟩
 ·rw[if_pos ⟨h1,h2⟩];have a:s.coins≤ztk s o.offers:=h3;exact Int.le_trans a (Int.le_max_right _ _)
theorem zq6 {s:SaleR} {o:OrderR} (e:¬zi0 s o) (d:zf7 s o.offers) (a:List OrderR):∀b:Int,o∈a→s.coins≤a.foldl (zdu s) b:=by
 induction a with
 |nil=>exact fun b h=>by cases h
 |cons y a ih=>
  intro b c;rw[List.foldl_cons]
  rcases List.mem_cons.1 c with rfl|c
  ·exact Int.le_trans (zu9 b e d) (zou s a _)
  ·exact ih _ c
theorem ztl {s:SaleR} {a:List OrderR} {os:List Off} (h:Said a s.bidder s.lot os) (d:zf7 s os):s.coins≤zfY s a:=by
 obtain ⟨o,g,b,c,f,rfl⟩:=h;refine zq6 (fun e=>?_) d a _ g
 rcases e with e|e|e
 ·exact e b
 ·exact e c
 ·exact e f
theorem zwq {l:List Int} (h:∀x∈l,zai x):0≤zam l∧zam l≤1099511627776*(l.length:Nat):=by
 induction l with
 |nil=>simp[zam]
 |cons x l ih=>
  have c:=ih fun y b=>h y (.tail _ b);have a:=h x (.head _);unfold zai at a;simp only[zam,List.length_cons]
  push_cast
  omega
def zdL (s:SaleR) (xs:List Off) (k:Nat):Int:=zam (((xs.take k).take s.count.toNat).map (·.c))
theorem zoX {s:SaleR} {xs:List Off} {k:Nat} {x:Off} (a:xs[k]? =some x):zdL s xs (k+1)=if (k:Int)<s.count then zdL s xs k+x.c else zdL s xs k:=by
 unfold zdL;rw[List.take_take,List.take_take]
 split
 ·rw[Nat.min_eq_right (by omega),Nat.min_eq_right (by omega),zaw a,List.map_append,zgv]
  simp[zam]
 ·rw[Nat.min_eq_left (by omega),Nat.min_eq_left (by omega)]
theorem zva {s:SaleR} {xs:List Off} (h:∀x∈xs,zai x.c) (f:xs.length≤64) (k:Nat):0≤zdL s xs k∧zdL s xs k≤70368744177664:=by
 unfold zdL;have a:=zwq (l:=((xs.take k).take s.count.toNat).map (·.c)) fun y d=>by
  obtain ⟨x,b,rfl⟩:=List.mem_map.1 d;exact h x (List.mem_of_mem_take (List.mem_of_mem_take b))
 rw[List.length_map] at a;have e:((xs.take k).take s.count.toNat).length≤64:=by simp only[List.length_take];omega
 omega
theorem zxJ (s:SaleR) (xs:List Off):zdL s xs xs.length=ztk s xs:=by unfold zdL ztk;rw[List.take_length]
theorem zov {s:SaleR} {b:Int} {xs:List Off} {k:Nat} {x:Off} (a:xs[k]? =some x):zdb s b (xs.take (k+1))=zem s (zdb s b (xs.take k)) x:=by
 unfold zdb;rw[zaw a,List.foldl_append]
 rfl
theorem zq7 (s:SaleR) (a:List OrderR) (o:OrderR):zfY s (a++[o])=zdu s (zfY s a) o:=by
 unfold zfY;rw[List.foldl_append]
 rfl
end Ho
end Go.Proofs.YthoaidfpgijbfaaGreat

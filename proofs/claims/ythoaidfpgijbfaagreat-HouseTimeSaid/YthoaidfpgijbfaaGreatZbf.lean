/- Joined by program. -/
import Derived.Test.YthoaidfpgijbfaaGreatZbe
set_option linter.all false
namespace Go.Proofs.YthoaidfpgijbfaaGreat
namespace Ho
open Go.RowKit Vb Ac
structure SPre (H:House):Prop where
 stands:∀l∈H.lots,StandInv l
 shut:∀l∈H.lots,l.closed=true→l.stands=[]
 at_:∀(i:Nat) (a:Acc),H.accs[i]? =some a→∀k:Int,atM a.M k=zby H.lots i k
 spent:zbg H.accs=zbw H.sales
 pays:∀s∈H.sales,zai s.coins
theorem StandInv.shutL {l:LotS} (h:l.stands=[]) (b:l.closed=true∨(l.put.kind=1→l.rise.leader<0)):StandInv l:=by
 refine ⟨fun s a=>?_,fun d c=>?_,fun _=>h,fun _ s a=>?_,fun _ s a=>?_,fun _ s a=>?_⟩
 ·rw[h] at a;cases a
 ·rcases b with b|b
  ·rw[b] at c;cases c
  ·rw[if_pos (b d)];exact h
 ·rw[h] at a;cases a
 ·rw[h] at a;cases a
 ·rw[h] at a;cases a
theorem zjs {P:LotS→Prop} {ls:List LotS} (h:∀l∈ls,P l) {j:Nat} {l':LotS} (hl:P l'):∀l∈ls.set j l',P l:=fun l hm=>by
 rcases List.mem_or_eq_of_mem_set hm with h1|h1
 ·exact h l h1
 ·rw[h1];exact hl
theorem SPre.turn {H:House} (c:SPre H) {j:Nat} {l l':LotS} (p:H.lots[j]? =some l) {acs:List Acc} (g:StandInv l') (e:l'.closed=true→l'.stands=[])
  (d:∀(i:Nat) (b:Acc),acs[i]? =some b→∃a,H.accs[i]? =some a∧(∀k,k≠(j:Int)→atM b.M k=atM a.M k)∧atM b.M j=zaM l'.stands i) (f:zbg acs=zbg H.accs) (D:Int→Option Int):
  SPre {H with accs:=acs,lots:=H.lots.set j l',due:=D}:=by
 refine ⟨zjs c.stands g,zjs c.shut e,fun i b o k=>?_,f.trans c.spent,c.pays⟩;obtain ⟨a,n,h,m⟩:=d i b o
 show atM b.M k=zby (H.lots.set j l') i k
 rw[zjX p];by_cases hk:k=j
 ·rw[if_pos hk,hk];exact m
 ·rw[if_neg hk,h k hk];exact c.at_ i a n k
theorem zqU (H:House) (n:Nat) (ss:List SaleR):zbw (ss.map (zgi H n))=zbw ss:=by
 induction ss with
 |nil=>rfl
 |cons s ss ih=>simp only[List.map_cons,zbw,ih];rfl
theorem SPre.close {H:House} (v:HPre H) (o:SPre H) {j:Nat} {l l':LotS} (y:H.lots[j]? =some l) (q:l'.stands=l.stands) {ss:List SaleR} (X:(ss.map (·.bidder)).Nodup)
  (F:∀s∈ss,0≤s.bidder∧0≤s.coins∧∃a,H.accs[s.bidder.toNat]? =some a∧s.coins≤a.free+zaM l.stands s.bidder) (D:Int→Option Int):
  SPre (zc8 {H with lots:=H.lots.set j l',due:=D} j l' ss):=by
 have V:=v.lots l (mG y);have hrel:∀(i:Nat) (a:Acc),H.accs[i]? =some a→∃b,(zbC j H.accs l.stands)[i]? =some b∧atM b.M j=0∧(∀k,k≠(j:Int)→atM b.M k=atM a.M k)∧b.free=a.free+zaM l.stands i:=fun i a C=>by
  obtain ⟨b,B,J,h3,S,T,U⟩:=ziV l.stands H.accs i a C (fun s d=>(V.bid s d).1) (n:=j);have E:atM a.M j=zaM l.stands i:=by
   rw[o.at_ i a C j];unfold zby;rw[if_neg (by omega),Int.toNat_natCast,y]
  have I:atM b.M j=0:=by
   rw[T];by_cases he:∃s∈l.stands,s.bidder=i
   ·rw[if_pos he]
   ·rw[if_neg he,E];exact zc0 fun s d e=>he ⟨s,d,e⟩
  refine ⟨b,B,I,U,?_⟩
  rcases S with e|e
  ·rw[e] at I ⊢
   omega
  ·have Y:=(v.accs a (mG C)).1.rise;rw[e];unfold Acc.free Acc.set;simp only;rw[zlE _ _ Y]
   omega
 have f:∀s∈ss,0≤s.bidder∧∃a,(zbC j H.accs l.stands)[s.bidder.toNat]? =some a∧zai s.coins∧s.coins≤a.free:=fun s d=>by
  obtain ⟨g,O,a,z,P⟩:=F s d;obtain ⟨b,r,_,_,G⟩:=hrel _ a z;have N:((s.bidder.toNat:Nat):Int)=s.bidder:=Int.toNat_of_nonneg g;rw[N] at G;refine ⟨g,b,r,⟨O,?_⟩,by omega⟩;have A:=(zfd (n:=j) (by have:=(gS.1 y).1;have:=v.llen;omega) l.stands H.accs v.accs) b (mG r);have Q:=A.1.bud;have R:=A.1.sp;have g8:=HOk.nn A.1.h;unfold zai at Q R;unfold Acc.free at G
  show s.coins≤1099511627776
  have:b.free=b.bud-b.sp-zas b.M:=rfl;unfold Acc.free at P
  omega
 obtain ⟨B,J⟩:=zmQ ss (zbC j H.accs l.stands) X f;refine ⟨?_,?_,fun i c m k=>?_,?_,fun s d=>?_⟩
 ·show ∀x∈(H.lots.set j l').set j {l' with closed:=true,stands:=[]},StandInv x
  rw[List.set_set];exact zjs o.stands (StandInv.shutL rfl (.inl rfl))
 ·show ∀x∈(H.lots.set j l').set j {l' with closed:=true,stands:=[]},x.closed=true→x.stands=[]
  rw[List.set_set];exact zjs o.shut fun _=>rfl
 ·have m:(zbU (zbC j H.accs l'.stands) ss)[i]? =some c:=m;rw[q] at m;have p:i<H.accs.length:=by
   have:=(gS.1 m).1
   rwa [zfH,zet] at this
  obtain ⟨b,r,K,L,_⟩:=hrel i _ (gE p);obtain ⟨c',g,_,z⟩:=J i b r;rw[m] at g;injection g with g
  show atM c.M k=zby ((H.lots.set j l').set j {l' with closed:=true,stands:=[]}) i k
  rw[List.set_set,zjX y,g,z];by_cases hk:k=j
  ·rw[if_pos hk,hk,K];rfl
  ·rw[if_neg hk,L k hk];exact o.at_ i _ (gE p) k
 ·show zbg (zbU (zbC j H.accs l'.stands) ss)=zbw (H.sales++ss.map _)
  rw[q,B,zmP,o.spent,zg8,zqU]
 ·rcases List.mem_append.1 d with d|d
  ·exact o.pays s d
  ·obtain ⟨t,Z,rfl⟩:=List.mem_map.1 d;obtain ⟨_,_,_,m,_⟩:=f t Z;exact m
theorem zqV {H:House} (g:HInv H) (d:SPre H) (c:Int) (s:ByteArray):SPre (zgg H c s):=by
 refine ⟨d.stands,d.shut,fun i a b k=>?_,?_,d.pays⟩
 ·have b:(H.accs++[(⟨c,0,[]⟩:Acc)])[i]? =some a:=b;by_cases hi:i<H.accs.length
  ·rw[List.getElem?_append_left hi] at b;exact d.at_ i a b k
  ·rw[List.getElem?_append_right (by omega)] at b;have f:=mG b;rw[List.mem_singleton] at f;rw[f]
   show (0:Int)=zby H.lots i k
   refine (zoS (fun l h s j e=>?_) k).symm;have:=((g.lots l h).bid s j).2
   omega
 ·show zbg (H.accs++_)=_
  rw[ziU,d.spent];simp only[zbg]
  show zbw H.sales+(0+0)=zbw H.sales
  omega
theorem zqW {H:House} (f:SPre H) (b c:Int):SPre (zb4 H b c):=by
 unfold zb4
 split
 ·rename_i a g
  refine ⟨f.stands,f.shut,fun i x d k=>?_,?_,f.pays⟩
  ·have d:(H.accs.set b.toNat (a.bring c))[i]? =some x:=d;by_cases e:b.toNat=i
   ·subst e;rw[List.getElem?_set_self (gS.1 g).1] at d;injection d with d
    rw[←d];exact f.at_ _ a g k
   ·rw[List.getElem?_set_ne e] at d;exact f.at_ i x d k
  ·show zbg (H.accs.set _ _)=_
   rw[zfp g,←f.spent]
   show _-a.sp+a.sp=_
   omega
 ·exact f
theorem zuX {H:House} (b:SPre H) (p:LotR):SPre (zes H p):=by
 refine ⟨fun l c=>?_,fun l c e=>?_,fun i a d k=>?_,b.spent,b.pays⟩
 ·rcases List.mem_append.1 c with h|h
  ·exact b.stands l h
  ·rw[List.mem_singleton] at h;rw[h];exact StandInv.shutL rfl (.inr fun _=>by show (-1:Int)<0;decide)
 ·rcases List.mem_append.1 c with h|h
  ·exact b.shut l h e
  ·rw[List.mem_singleton] at h;rw[h];rfl
 ·show atM a.M k=zby (H.lots++[zcO p]) i k
  rw[zoj rfl];exact b.at_ i a d k
theorem zlz {acs:List Acc} {i:Nat} {a:Acc} (ha:acs[i]? =some a) (j v:Int):∀(m:Nat) (b:Acc),(acs.set i (a.set j v))[m]? =some b→∃x,acs[m]? =some x∧(∀k,k≠j→atM b.M k=atM x.M k)∧atM b.M j=(if m=i then v else atM x.M j):=fun m b hb=>by
 by_cases e:i=m
 ·subst e;rw[List.getElem?_set_self (gS.1 ha).1] at hb;injection hb with hb
  rw[←hb];refine ⟨a,ha,fun k hk=>zdC (M:=a.M) v hk,?_⟩;rw[if_pos rfl];exact zdZ a.M j v
 ·rw[List.getElem?_set_ne e] at hb;exact ⟨b,hb,fun _ _=>rfl,by rw[if_neg (fun h=>e h.symm)]⟩
theorem SPre.atj {H:House} (b:SPre H) {j:Nat} {l:LotS} (d:H.lots[j]? =some l) {i:Nat} {a:Acc} (c:H.accs[i]? =some a):atM a.M j=zaM l.stands i:=by
 rw[b.at_ i a c j];unfold zby;rw[if_neg (by omega),Int.toNat_natCast,d]
theorem ztb {H:House} (y:HInv H) (j:SPre H) {o:OrderR} (c:takeE H o=0):SPre (zdT H o):=by
 unfold takeE at c;unfold zdT
 cases hat:atP H o with
 |none=>rw[hat] at c;cases c
 |some al=>
  obtain ⟨a,l⟩:=al;rw[hat] at c;simp only at c ⊢;obtain ⟨B,C,q,i⟩:=zcH hat;by_cases hov:zcT H l=true
  ·rw[if_pos hov] at c;cases c
  rw[if_neg hov] at c;have n:=(zfm hov).1;have z:=y.lots l (mG i);have d:=j.stands l (mG i);have f:¬(l.put.kind=1∨l.put.kind=2):=fun h=>by
   unfold zhE at c;rw[if_pos h] at c
   cases c
  refine j.turn i (l':=ze1 l o.bidder.toNat) ?_ (fun r=>?_) (fun m b A=>?_) ?_ H.due
  ·exact ⟨fun s g=>d.wf s (zaO.subset g),fun D=>absurd (.inl D) f,fun E=>absurd (.inr E) f,fun k s g=>d.sealed k s (zaO.subset g),fun k s g=>d.units k s (zaO.subset g),fun k s g=>d.pkg k s (zaO.subset g)⟩
  ·rw[show (ze1 l o.bidder.toNat).closed=l.closed from rfl,n] at r;cases r
  ·obtain ⟨x,p,t,v⟩:=zlz q o.lot.toNat 0 m b A;refine ⟨x,p,t,?_⟩
   show atM b.M _=zaM (zbz _ l.stands) m
   rw[zjW z.nodup,v];by_cases e:m=o.bidder.toNat
   ·rw[if_pos e,if_pos (by omega)]
   ·rw[if_neg e,if_neg (by omega)];exact j.atj i p
  ·rw[zfp q]
   show _-a.sp+a.sp=_
   omega
theorem zjY {l:LotR} (h:FallB l) (t:Int):0≤zbi l t:=by
 have b:=h.start;have d:=h.floor
 unfold zai at b;unfold zbi
 split
 ·rename_i a
  unfold zja
  split
  ·rename_i c
   have:=znF h a.1 a.2 c
   omega
  ·omega
 ·omega
theorem zmR {acs:List Acc} {x:Int} {j:Nat} {v:Int} (d:0≤x) (h:∀a,acs[x.toNat]? =some a→a.holdE j v=0):∀(m:Nat) (b:Acc),(zcR acs x j v)[m]? =some b→∃a,acs[m]? =some a∧b.sp=a.sp∧(∀k,k≠(j:Int)→atM b.M k=atM a.M k)∧atM b.M j=(if (m:Int)=x then v else atM a.M j):=fun m b hb=>by
 unfold zcR at hb;rw[List.getElem?_modify] at hb
 cases ha:acs[m]? with
 |none=>rw[ha] at hb;cases hb
 |some a=>
  rw[ha] at hb;have hb:(if x.toNat=m then holdA a j v else a)=b:=by simpa using hb
  by_cases e:x.toNat=m
  ·rw[if_pos e] at hb;unfold holdA at hb;rw[if_pos (h a (by rw[e];exact ha))] at hb;rw[←hb];refine ⟨a,rfl,rfl,fun k c=>zdC (M:=a.M) v c,?_⟩;rw[if_pos (by omega)];exact zdZ a.M j v
  ·rw[if_neg e] at hb;rw[←hb];exact ⟨a,rfl,rfl,fun _ _=>rfl,by rw[if_neg (by omega)]⟩
theorem zkA {acs:List Acc} {j:Nat} {l:LotS} {r:RiseR}:∀(m:Nat) (b:Acc),(zaW acs j l r)[m]? =some b→∃a,acs[m]? =some a∧b.sp=a.sp∧(∀k,k≠(j:Int)→atM b.M k=atM a.M k)∧(if 0≤l.rise.leader∧l.rise.leader≠r.leader∧(m:Int)=l.rise.leader then atM b.M j=0 else b=a):=fun m b hb=>by
 unfold zaW at hb
 split at hb
 ·rename_i hc
  unfold zje at hb;rw[List.getElem?_modify] at hb
  cases ha:acs[m]? with
  |none=>rw[ha] at hb;cases hb
  |some a=>
   rw[ha] at hb;have hb:(if l.rise.leader.toNat=m then a.set j 0 else a)=b:=by simpa using hb
   by_cases e:l.rise.leader.toNat=m
   ·rw[if_pos e] at hb;rw[←hb];refine ⟨a,rfl,rfl,fun k c=>zdC (M:=a.M) 0 c,?_⟩;rw[if_pos ⟨hc.1,hc.2,by omega⟩];exact zdZ a.M j 0
   ·rw[if_neg e] at hb;rw[←hb];refine ⟨a,rfl,rfl,fun _ _=>rfl,?_⟩;rw[if_neg (by rintro ⟨_,_,h⟩;omega)]
 ·rename_i hc
  refine ⟨b,hb,rfl,fun _ _=>rfl,?_⟩;rw[if_neg (fun h=>hc ⟨h.1,h.2.1⟩)]
theorem zjZ:∀{xs ys:List Acc},xs.length=ys.length→(∀(i:Nat) (x:Acc),xs[i]? =some x→∃y,ys[i]? =some y∧x.sp=y.sp)→zbg xs=zbg ys
 |[],[],_,_=>rfl
 |x::xs,y::ys,hl,h=>by
  obtain ⟨z,h1,h2⟩:=h 0 x rfl;simp only[List.getElem?_cons_zero,Option.some.injEq] at h1;subst h1;have ih:=zjZ (xs:=xs) (ys:=ys) (by simpa using hl) fun i x hx=>by
   obtain ⟨w,h3,h4⟩:=h (i+1) x (by simpa using hx);exact ⟨w,by simpa using h3,h4⟩
  simp only[zbg,ih,h2]
theorem zpz {l:LotR} {r:RiseR} {b:RiseB}:(zd9 l r b).leader=b.bidder∧(zd9 l r b).limit=b.limit∨(zd9 l r b).leader=r.leader∧(zd9 l r b).limit=r.limit∧¬r.leader<0∧r.leader≠b.bidder:=by
 unfold zd9;simp only;by_cases h1:r.leader<0
 ·rw[if_pos h1]
  split<;>exact .inl ⟨rfl,rfl⟩
 ·rw[if_neg h1];by_cases h2:r.leader=b.bidder
  ·rw[if_pos h2]
   split<;>exact .inl ⟨h2,rfl⟩
  ·rw[if_neg h2];by_cases h3:r.limit<b.limit
   ·rw[if_pos h3]
    split<;>exact .inl ⟨rfl,rfl⟩
   ·rw[if_neg h3]
    split<;>exact .inr ⟨rfl,rfl,h1,h2⟩
theorem zoU {l:LotR} {r:RiseR} {b:RiseB} (h:zb3 l r b=0) (a:0≤r.leader→zai r.limit) (d:b.free≤1099511627776):if b.bidder=r.leader then b.limit≤b.free+r.limit else b.limit≤b.free:=by
 have c:=(zfL h).who;unfold zb3 at h
 split at h
 ·cases h
 ·split at h
  ·cases h
  ·split at h
   ·cases h
   ·by_cases e:b.bidder=r.leader
    ·rw[if_pos e] at h ⊢;have:=a (by omega);unfold zai at this;rw[if_neg (by omega)] at h
     split at h
     ·cases h
     ·omega
    ·rw[if_neg e] at h ⊢
     split at h
     ·cases h
     ·omega
theorem zuY {H:House} (G:HInv H) (A:SPre H) {o:OrderR} (hwf:∀x∈o.offers,x.wf) (d:zdW H o=0):SPre (zeU H o):=by
 unfold zdW at d;unfold zeU
 cases hat:atP H o with
 |none=>rw[hat] at d;cases d
 |some al=>
  obtain ⟨a,l⟩:=al;rw[hat] at d;simp only at d ⊢;obtain ⟨hoi,hoj,D,p⟩:=zcH hat;by_cases hov:zcT H l=true
  ·rw[if_pos hov] at d;cases d
  rw[if_neg hov] at d;obtain ⟨C,hnow,hops⟩:=zfm hov;have I:=G.lots l (mG p);have f:=A.stands l (mG p);have hjl:=(gS.1 p).1;have hil:=(gS.1 D).1;have n:=G.accs a (mG D);have hll:=G.llen;have hk:=(zb7 I.ok).1
  generalize o.bidder.toNat=i at*
  generalize o.lot.toNat=j at*
  have Y:=d;unfold kE at d;unfold kH;by_cases k1:l.put.kind=1
  ·rw[if_pos k1] at d ⊢;obtain ⟨U,t⟩:=zdm d;have B:=zgS t;have q:=f.rising k1 C;obtain ⟨r,hr⟩:=nm (zbo H i a l o.offers);have N:r=zd9 l.put l.rise (zdw H i a (zbW o.offers)):=hr;rw[←N] at B;rw[←hr];have L:∀m:Nat,zaM l.stands m=if 0≤l.rise.leader∧(m:Int)=l.rise.leader then l.rise.limit else 0:=fun m=>by
    by_cases hld:l.rise.leader<0
    ·rw[if_pos hld] at q;rw[q,if_neg (by omega)]
     rfl
    ·rw[if_neg hld] at q;rw[q];unfold zaM;by_cases e:(m:Int)=l.rise.leader
     ·rw[if_pos ⟨by omega,e⟩,List.find?_cons_of_pos (by simp[e])]
     ·rw[if_neg (fun h=>e h.2),List.find?_cons_of_neg (by simpa using fun h=>e h.symm)]
      rfl
   have z:∀x,(zaW H.accs j l r)[r.leader.toNat]? =some x→x.holdE j r.limit=0:=fun x R=>by
    obtain ⟨y,E,_,_,O⟩:=zkA _ x R;have hln:=B.nn;have h5:((r.leader.toNat:Nat):Int)=r.leader:=Int.toNat_of_nonneg hln;rw[if_neg (by rintro ⟨_,g2,g3⟩;omega)] at O;rw[O];have hyo:=G.accs y (mG E);have v:=A.atj p E;rw[L,h5] at v;refine zgJ (by omega) B.limit ?_;have hyf:0≤y.free:=by have:=hyo.2;unfold Acc.Fine at this;unfold Acc.free;omega
    unfold Acc.mostH;rw[v];have hw:=zpz (l:=l.put) (r:=l.rise) (b:=zdw H i a (zbW o.offers));rw[←N] at hw;have V:=n.1.bud;have X:=n.1.sp;have ham:=HOk.nn n.1.h;unfold zai at V X;have g:=zoU t (fun h0=>(zeO (zfL t).right h0).1) (by show a.free≤_;unfold Acc.free;omega)
    rcases hw with ⟨P,Q⟩|⟨P,Q,w3,w4⟩
    ·have P:r.leader=i:=P;have Q:r.limit=zbW o.offers:=Q;have hya:y=a:=by
      have:r.leader.toNat=i:=by omega
      rw[this,D] at E;injection E with E
      exact E.symm
     rw[hya];have g:if (i:Int)=l.rise.leader then zbW o.offers≤a.free+l.rise.limit else zbW o.offers≤a.free:=g
     rw[Q,P];by_cases e:(i:Int)=l.rise.leader
     ·rw[if_pos e] at g;rw[if_pos ⟨by omega,e⟩];exact g
     ·rw[if_neg e] at g;rw[if_neg (fun h=>e h.2)]
      omega
    ·rw[Q,P,if_pos ⟨by omega,rfl⟩]
     omega
   refine A.turn p (l':=zfN l r) ?_ (fun K=>?_) (fun m b J=>?_) ?_ _
   ·refine ⟨fun s c x R=>?_,fun _ _=>?_,fun k=>absurd k1 (by show ¬l.put.kind=1;have:l.put.kind=2:=k;omega),fun k=>absurd k1 (by show ¬l.put.kind=1;have:l.put.kind=3:=k;omega),fun k=>absurd k1 (by show ¬l.put.kind=1;have:l.put.kind=4:=k;omega),fun k=>absurd k1 (by show ¬l.put.kind=1;have:l.put.kind=5:=k;omega)⟩
    ·have e:s=⟨r.leader,[⟨0,r.limit⟩],r.limit⟩:=List.mem_singleton.1 c;rw[e] at R;have F:x=⟨0,r.limit⟩:=List.mem_singleton.1 R;rw[F];have:=B.limit;unfold zai at this;refine ⟨by show (0:Nat)<4294967296;decide,?_,?_⟩
     ·show _≤r.limit;omega
     ·show r.limit≤_;omega
    ·show (if r.leader<0 then _ else _)
     rw[if_neg (by have:=B.nn;omega)]
     rfl
   ·rw[show (zfN l r).closed=l.closed from rfl,C] at K;cases K
   ·obtain ⟨x,x1,x2,x3,x4⟩:=zmR B.nn z m b J;obtain ⟨y,S,y2,y3,T⟩:=zkA m x x1;refine ⟨y,S,fun k hk=>(x3 k hk).trans (y3 k hk),?_⟩;rw[x4]
    show _=zaM [(⟨r.leader,[⟨0,r.limit⟩],r.limit⟩:Stand)] m
    unfold zaM;by_cases e:(m:Int)=r.leader
    ·rw[if_pos e,List.find?_cons_of_pos (by simp[e])]
    ·rw[if_neg e,List.find?_cons_of_neg (by simpa using fun h=>e h.symm)]
     show _=(0:Int)
     by_cases F:0≤l.rise.leader∧l.rise.leader≠r.leader∧(m:Int)=l.rise.leader
     ·rw[if_pos F] at T;exact T
     ·rw[if_neg F] at T;rw[T,A.atj p S,L m,if_neg];rintro ⟨g1,g2⟩;exact F ⟨g1,by omega,g2⟩
   ·refine zjZ ?_ fun m b J=>?_
    ·unfold zcR;rw[List.length_modify,zd8]
    ·obtain ⟨x,x1,x2,_⟩:=zmR B.nn z m b J;obtain ⟨y,S,y2,_⟩:=zkA m x x1;exact ⟨y,S,x2.trans y2⟩
  rw[if_neg k1] at d ⊢;by_cases k2:l.put.kind=2
  ·rw[if_pos k2] at d ⊢;refine SPre.close G.pre A p (l':=zdf H l) rfl (by simp) (fun s c=>?_) _;rw[List.mem_singleton] at c;rw[c];have Z:FallB l.put:=by
    have h:=I.ok;unfold zbT zh8 at h;simp only[Bool.and_eq_true] at h;have t:=h.2;rw[k2,if_neg (by decide),if_pos rfl] at t;exact ziv t
   refine ⟨by show (0:Int)≤(i:Int);omega,zjY Z _,a,by show H.accs[((i:Int)).toNat]? =some a;rw[Int.toNat_natCast];exact D,?_⟩
   show zbi l.put H.now≤a.free+zaM l.stands i
   have h0:=zs9 (ss:=l.stands) (fun s c=>I.held s c) i;unfold zeA at d
   split at d
   ·cases d
   ·split at d
    ·cases d
    ·split at d
     ·cases d
     ·omega
  rw[if_neg k2];obtain ⟨hcn,hmo⟩:=zps I.ok n k1 k2 Y;rw[if_neg k2] at d;refine A.turn p (l':=zd1 l ⟨i,o.offers,zcw l o.offers⟩) ?_ (fun K=>?_) (fun m b J=>?_) ?_ H.due
  ·refine ⟨fun s c=>?_,fun k=>absurd k k1,fun k=>absurd k k2,fun k s c=>?_,fun k s c=>?_,fun k s c=>?_⟩
   ·rcases List.mem_append.1 c with c|c
    ·exact f.wf s (zaO.subset c)
    ·rw[List.mem_singleton] at c;rw[c];exact hwf
   ·have k:l.put.kind=3:=k
    rcases List.mem_append.1 c with c|c
    ·exact f.sealed k s (zaO.subset c)
    ·rw[List.mem_singleton] at c;rw[c];rw[if_pos k] at d
     show zaK o.offers=some (zcw l o.offers)
     unfold zcw;rw[if_pos k];exact (zdH d).1
   ·have k:l.put.kind=4:=k
    rcases List.mem_append.1 c with c|c
    ·exact f.units k s (zaO.subset c)
    ·rw[List.mem_singleton] at c;rw[c]
     show zcw l o.offers=_
     unfold zcw;rw[if_neg (by omega),if_pos k]
   ·have k:l.put.kind=5:=k
    rcases List.mem_append.1 c with c|c
    ·exact f.pkg k s (zaO.subset c)
    ·rw[List.mem_singleton] at c;rw[c]
     show zcw l o.offers=_
     unfold zcw;rw[if_neg (by omega),if_neg (by omega)]
  ·rw[show (zd1 l _).closed=l.closed from rfl,C] at K;cases K
  ·obtain ⟨x,U,t,h3⟩:=zlz D j (zcw l o.offers) m b J;refine ⟨x,U,t,?_⟩
   show atM b.M _=zaM (zbz (⟨i,o.offers,zcw l o.offers⟩:Stand).bidder l.stands++[_]) m
   rw[zoi I.nodup,h3];by_cases e:m=i
   ·rw[if_pos e,if_pos (by show (m:Int)=i;omega)]
   ·rw[if_neg e,if_neg (by show ¬(m:Int)=i;omega)];exact A.atj p U
  ·rw[zfp D]
   show _-a.sp+a.sp=_
   omega
theorem SPre.same {H H':House} (h:SPre H) (b:H'.accs=H.accs) (a:H'.lots=H.lots) (c:H'.sales=H.sales):SPre H':=by
 obtain ⟨d,e,f,g,i⟩:=h;exact ⟨by rwa [a],by rwa [a],by rwa [b,a],by rwa [b,c],by rwa [c]⟩
theorem zol {H:House} (c:HPre H) (h:SPre H) {d:Du} {l:LotS} (b:H.lots[d.2.toNat]? =some l) (n:l.closed=false):SPre (zau zav H d):=by
 have e:=c.lots l (mG b);have a:=zok e (h.stands l (mG b)) n;unfold zau;rw[b];refine SPre.close c h b (l':=(zav l).1) (zeH l).1 a.nodup (fun s o=>?_) H.due;obtain ⟨p,f,i,j,q,_⟩:=a.each s o;have r:=e.bid p f;have g:s.bidder.toNat<H.accs.length:=by omega
 refine ⟨by omega,j,_,gE g,?_⟩;have k:=zhV e.nodup f;rw[i] at k;have m:=(c.accs _ (List.getElem_mem g)).2;unfold Acc.Fine at m;unfold Acc.free
 omega
theorem zh5:∀{ds:List Du} {H:House},HPre H→SPre H→(ds.map (·.2.toNat)).Nodup→(∀d∈ds,∃l,H.lots[d.2.toNat]? =some l∧l.closed=false)→SPre (zax zav H ds)
 |[],_,_,h,_,_=>h
 |x::ds,H,hI,h,hn,ho=>by
  rw[List.map_cons] at hn;have h1:=List.pairwise_cons.1 hn;have hc:zax zav H (x::ds)=zax zav (zau zav H x) ds:=rfl;rw[hc];obtain ⟨l,hl,hop⟩:=ho x (.head _);have hk:=zeH l;refine zh5 ?_ (zol hI h hl hop) h1.2 fun d hd=>?_
  ·unfold zau;rw[hl];exact hI.close hl hop hk.2.1 hk.2.2.1 (zfW (hI.lots l (mG hl))) H.due
  ·rw[zew fun e=>h1.1 _ (List.mem_map_of_mem hd) e.symm];exact ho d (.tail _ hd)
theorem ztc {H:House} (a:HInv H) (i:SPre H) {t:Int} (e:∃ds,DueL H.due t ds):SPre (zbf H t):=by
 obtain ⟨ds,f⟩:=e;unfold zbf;rw[zdG f];unfold zc1;have b:=f;rw[a.due] at b;obtain ⟨k,j⟩:=zkt b;have c:HPre {H with now:=t,due:=zaZ H.due t}:=⟨a.accs,a.names,a.nlen,a.llen,a.lots,a.sales⟩;refine zh5 c (i.same rfl rfl rfl) k fun d m=>?_;obtain ⟨l,g,h,_⟩:=j d m;exact ⟨l,g,h⟩
theorem zpA {H:House} (c:HInv H) (b:SPre H) {o:OrderR} (d:∀x∈o.offers,x.wf):SPre (doH H o):=by
 unfold doH
 split
 ·rename_i a
  unfold doE at a
  split at a
  ·cases a
  have e:SPre (zbk H o):=by
   unfold zbp at a;unfold zbk;by_cases k1:o.kind=1
   ·rw[if_pos k1];exact zqV c b _ _
   rw[if_neg k1] at a ⊢;by_cases k2:o.kind=2
   ·rw[if_pos k2];exact zqW b _ _
   rw[if_neg k2] at a ⊢;by_cases k3:o.kind=3
   ·rw[if_pos k3];exact zuX b _
   rw[if_neg k3] at a ⊢;by_cases k4:o.kind=4
   ·rw[if_pos k4] at a ⊢;exact zuY c b d a
   rw[if_neg k4] at a ⊢;by_cases k5:o.kind=5
   ·rw[if_pos k5] at a ⊢;exact ztb c b a
   rw[if_neg k5];exact ztc c b (by rw[c.due];exact zf5 _ _)
  exact e.same rfl rfl rfl
 ·exact b
theorem zlA:SPre ⟨[],[],[],0,[],[],fun _=>none⟩:=⟨(fun _ h=>by cases h),(fun _ h=>by cases h),(fun i a h=>by simp at h),rfl,(fun _ h=>by cases h)⟩
def ziW (r:List Int) (s:Stand):List Int:=r.modify s.bidder.toNat (·+s.held)
def za5 (ss:List Stand) (i:Int):Int:=match ss with|[]=>0|s::ss=>(if s.bidder=i then s.held else 0)+za5 ss i
theorem zhf (a b:List Stand) (i:Int):za5 (a++b) i=za5 a i+za5 b i:=by
 induction a with
 |nil=>simp[za5]
 |cons x a ih=>simp only[List.cons_append,za5,ih];omega
theorem zlB {ss:List Stand} (h:∀s∈ss,0≤s.held) (i:Int):0≤za5 ss i:=by
 induction ss with
 |nil=>simp[za5]
 |cons x ss ih=>
  have b:=ih fun s a=>h s (.tail _ a);have c:=h x (.head _);simp only[za5]
  split<;>omega
theorem zom {ss:List Stand} {i:Int} (h:∀s∈ss,s.bidder≠i):za5 ss i=0:=by
 induction ss with
 |nil=>rfl
 |cons x ss ih=>
  simp only[za5];rw[ih fun s a=>h s (.tail _ a),if_neg (h x (.head _))]
  rfl
theorem zoV {ss:List Stand} (b:(ss.map (·.bidder)).Nodup) (i:Int):za5 ss i=zaM ss i:=by
 induction ss with
 |nil=>rfl
 |cons x ss ih=>
  rw[List.map_cons] at b;have a:=List.pairwise_cons.1 b;simp only[za5];by_cases e:x.bidder=i
  ·rw[if_pos e,zom fun s d c=>a.1 _ (List.mem_map_of_mem d) (e.trans c.symm)];unfold zaM;rw[List.find?_cons_of_pos (by simpa using e)]
   show x.held+0=x.held
   omega
  ·rw[if_neg e,ih a.2];unfold zaM;rw[List.find?_cons_of_neg (by simpa using e)]
   omega
theorem zpB:∀(ss:List Stand) (r:List Int) (i:Nat) (x:Int),(∀s∈ss,0≤s.bidder)→r[i]? =some x→(ss.foldl ziW r)[i]? =some (x+za5 ss i)
 |[],r,i,x,_,h=>by simpa [za5] using h
 |s::ss,r,i,x,hb,h=>by
  rw[List.foldl_cons];have h0:=hb s (.head _);have h1:(ziW r s)[i]? =some (x+if s.bidder=i then s.held else 0):=by
   unfold ziW;rw[List.getElem?_modify,h]
   show some (if s.bidder.toNat=i then x+s.held else x)=_
   by_cases e:s.bidder=i
   ·rw[if_pos e,if_pos (by omega)]
   ·rw[if_neg e,if_neg (by omega),Int.add_zero]
  rw[zpB ss _ i _ (fun t a=>hb t (.tail _ a)) h1];simp only[za5,Int.add_assoc]
theorem ztd (ss:List Stand) (s:Stand) (r:List Int):(ss++[s]).foldl ziW r=ziW (ss.foldl ziW r) s:=by rw[List.foldl_append];rfl
def zdK (ls:List LotS):List Stand:=ls.flatMap (·.stands)
theorem zuZ {N:Nat}:∀{ls:List LotS},(∀l∈ls,LotInv N l)→∀i,za5 (zdK ls) i=sumTo (zby ls i) ls.length:=by
 intro ls;have a:∀(n:Nat),n≤ls.length→(∀l∈ls,LotInv N l)→∀i,za5 (zdK (ls.take n)) i=sumTo (zby ls i) n:=by
  intro n
  induction n with
  |zero=>intro _ _ i;rfl
  |succ n ih=>
   intro e h i;have c:=gE (show n<ls.length by omega);rw[zaw c];unfold zdK;rw[List.flatMap_append,zhf];have b:=ih (by omega) h i;unfold zdK at b;rw[b];have d:zby ls i n=zaM (ls[n]).stands i:=by
    unfold zby;rw[if_neg (by omega),Int.toNat_natCast,c]
   simp only[sumTo,d,List.flatMap_cons,List.flatMap_nil,List.append_nil];rw[zoV (h _ (List.getElem_mem _)).nodup]
 intro h i;have:=a ls.length lR h i
 rwa [List.take_length] at this
theorem zon {H:House} (c:HInv H) (d:SPre H) {i:Nat} {a:Acc} (b:H.accs[i]? =some a):za5 (zdK H.lots) i=zas a.M:=by
 have e:=(c.accs a (mG b)).1;rw[zuZ c.lots,zpy H.lots.length a.M e.rise (fun p f=>(e.each p f).2.2) fun k g=>?_]
 ·exact (sumTo_congr fun k _=>d.at_ i a b k).symm
 ·rw[d.at_ i a b k];unfold zby
  split
  ·rfl
  ·rw[List.getElem?_eq_none (by omega)]
structure TwinH (A B:House):Prop where
 names:A.names=B.names
 accs:A.accs=B.accs
 lots:A.lots=B.lots
 sales:A.sales.map (fun s=>(s.lot,s.bidder,s.coins,s.goods,s.count))=B.sales.map (fun s=>(s.lot,s.bidder,s.coins,s.goods,s.count))
theorem zm8 {f:LotS→LotS×List SaleR} {A B:House} (h:TwinH A B) (d:Du):TwinH (zau f A d) (zau f B d):=by
 unfold zau;rw[h.lots]
 cases B.lots[d.2.toNat]? with
 |none=>exact ⟨h.names,h.accs,h.lots,h.sales⟩
 |some l=>
  refine ⟨h.names,?_,?_,?_⟩
  ·show zbU (zbC _ A.accs _) _=zbU (zbC _ B.accs _) _
   rw[h.accs]
  ·rfl
  ·show (A.sales++List.map _ _).map _=(B.sales++List.map _ _).map _
   rw[List.map_append,List.map_append,h.sales,List.map_map,List.map_map]
   rfl
theorem zfx {f:LotS→LotS×List SaleR}:∀(ds:List Du) {A B:House},TwinH A B→TwinH (zax f A ds) (zax f B ds)
 |[],_,_,h=>h
 |d::ds,_,_,h=>zfx ds (zm8 h d)
theorem zoo {f:LotS→LotS×List SaleR} (H:House) (a b:List Du):zax f H (a++b)=zax f (zax f H a) b:=by
 unfold zax;rw[List.foldl_append]
theorem zte {D:Int→Option Int} {t u:Int} {ds k:List Du} (q:t≤u) (g:DueL D t ds) (i:DueL (zaZ D t) u k):DueL D u (ds++k):=by
 have j:∀d∈k,D d.2=some d.1∧d.1≤u∧t<d.1:=fun d p=>by
  obtain ⟨c,f⟩:=(i.mem d).1 p;unfold zaZ at c
  split at c
  ·split at c
   ·cases c
   ·rename_i x n s
    injection c with c
    rw[←c] at f ⊢;exact ⟨n,f,by omega⟩
  ·cases c
 refine ⟨List.pairwise_append.2 ⟨g.sorted,i.sorted,fun a l b m=>?_⟩,fun d=>?_,?_⟩
 ·have c:=((g.mem a).1 l).2;have f:=(j b m).2.2;unfold leD
  omega
 ·rw[List.mem_append]
  constructor
  ·rintro (h|h)
   ·have:=(g.mem d).1 h;exact ⟨this.1,by omega⟩
   ·exact ⟨(j d h).1,(j d h).2.1⟩
  ·rintro ⟨c,f⟩;by_cases e:d.1≤t
   ·exact .inl ((g.mem d).2 ⟨c,e⟩)
   ·refine .inr ((i.mem d).2 ⟨?_,f⟩);unfold zaZ;rw[c];simp only;rw[if_neg e]
 ·rw[List.map_append];refine List.pairwise_append.2 ⟨g.nodup,i.nodup,fun a l b m e=>?_⟩;obtain ⟨x,n,rfl⟩:=List.mem_map.1 l;obtain ⟨y,r,rfl⟩:=List.mem_map.1 m;have c:=(g.mem x).1 n;have f:=j y r;rw[e,f.1] at c;have o:=c.1;injection o with o
  omega
theorem zu0 {H:House} (m:HInv H) {t u:Int} (j:t≤u) (e:List OrderR):TwinH (zbf H u) (zbf {zbf H t with book:=e} u)∧zcm H u=zcm H t+zcm {zbf H t with book:=e} u:=by
 obtain ⟨a,h⟩:∃a,DueL H.due t a:=by rw[m.due];exact zf5 _ _
 have b:({zbf H t with book:=e}:House).due=zaZ H.due t:=by
  show (zbf H t).due=_
  unfold zbf zc1;rw[(zcc _ _).2.2.2.2.2]
 have c:(zbf H t).due=za7 (zbf H t).lots:=(zmH m ⟨a,h⟩).due;obtain ⟨d,n⟩:∃d,DueL (zaZ H.due t) u d:=by
  have o:zaZ H.due t=za7 (zbf H t).lots:=b.symm.trans c;rw[o];exact zf5 _ _
 have i:=zte j h n;have k:ze3 H.due u=a++d:=zdG i;have l:ze3 H.due t=a:=zdG h;have g:ze3 ({zbf H t with book:=e}:House).due u=d:=by rw[b];exact zdG n
 constructor
 ·unfold zbf at g ⊢;rw[k,g,l];unfold zc1;rw[zoo];refine zfx d ?_;have f:TwinH (zax zav {H with now:=u,due:=zaZ H.due u} a) (zax zav {H with now:=t,due:=zaZ H.due t} a):=zfx a ⟨rfl,rfl,rfl,rfl⟩;exact ⟨f.names,f.accs,f.lots,f.sales⟩
 ·unfold zcm;rw[k,l,g,List.length_append]
  omega
end Ho
end Go.Proofs.YthoaidfpgijbfaaGreat

/- Joined by program. -/
import Derived.Test.YtckdpejdnejhfaaGreatZad
set_option linter.all false
namespace Go.Proofs.YtckdpejdnejhfaaGreat
open Lib (hid)
namespace Ho
open Go.RowKit Vb Ac
theorem zkW {H:House} {l:LotS} (h:¬zcO H l=true):l.closed=false∧H.now<l.closes∧l.put.opens≤H.now:=by
 unfold zcO at h;simp only[Bool.or_eq_true,decide_eq_true_eq,not_or] at h;refine ⟨?_,by omega,by omega⟩
 cases hc:l.closed with
 |false=>rfl
 |true=>exact absurd hc h.1.1
theorem zsF {H:House} {i j:Nat} {a:Acc} {l:LotS} {os:List Off} (r:zbO l.put=true) (f:a.Ok∧a.Fine) (p:¬l.put.kind=1) (q:¬l.put.kind=2) (b:kE H i j a l os=0):zah (zeG l os)∧zeG l os≤a.mostH j:=by
 unfold kE at b;rw[if_neg p,if_neg q] at b;unfold zeG;by_cases k3:l.put.kind=3
 ·rw[if_pos k3] at b ⊢;obtain ⟨d,c,h⟩:=zfp b;exact ⟨zit d,h⟩
 rw[if_neg k3] at b ⊢;by_cases k4:l.put.kind=4
 ·rw[if_pos k4] at b ⊢;obtain ⟨d,c,h,m⟩:=zfS b;have s:=zl2 f.1 j;have n:=zjZ (l:=zaD os) fun x k=>by
   unfold zaD at k;obtain ⟨o,g,rfl⟩:=List.mem_map.1 k;unfold zcj at c;have:=List.all_eq_true.1 c o g;unfold zgM at this;rw[Bool.and_eq_true] at this;exact zaK.1 this.2
  exact ⟨⟨n.1,by omega⟩,m⟩
 ·rw[if_neg k4] at b ⊢;unfold zgD at b
  split at b
  ·cases b
  ·rename_i d
   split at b
   ·cases b
   ·unfold zci at b
    split at b
    ·cases b
    ·have c:zas l.put.count os=0:=Classical.not_not.1 fun e=>d (.inl e);exact ⟨znb (by omega) fun o g=>((zeB c).2 o g).2,by omega⟩
theorem zng {H:House} {i j:Nat} {a:Acc} {l:LotS} {os:List Off} (f:zbO l.put=true) (g:¬l.put.kind=1) (h:¬l.put.kind=2) (b:kE H i j a l os=0):os.length≤64:=by
 unfold kE at b;rw[if_neg g,if_neg h] at b;by_cases k3:l.put.kind=3
 ·rw[if_pos k3] at b;have:=zeS (zfp b).1
  omega
 rw[if_neg k3] at b;by_cases k4:l.put.kind=4
 ·rw[if_pos k4] at b;have c:=(zfS b).1;have d:=((zdL f).1 k4).1.2
  omega
 ·rw[if_neg k4] at b;unfold zgD at b
  split at b
  ·cases b
  ·rename_i c
   have d:zas l.put.count os=0:=Classical.not_not.1 fun e=>c (.inl e);have:=(zeB d).1
   omega
theorem zq7 {H:House} (c:HInv H) {o:OrderR} (b:ze8 H o=0):HInv (zgg H o):=by
 unfold ze8 at b;unfold zgg
 cases hat:atP H o with
 |none=>rw[hat] at b;cases b
 |some al=>
  obtain ⟨a,l⟩:=al;rw[hat] at b;simp only at b ⊢;obtain ⟨I,J,A,g⟩:=zds hat;by_cases hov:zcO H l=true
  ·rw[if_pos hov] at b;cases b
  rw[if_neg hov] at b;obtain ⟨d,B,C⟩:=zkW hov;have h:=c.lots l (mG g);have F:=(gS.1 g).1;have x:=(gS.1 A).1;have f:=c.accs a (mG A);have G:=c.llen;have L:=(zcz h.ok).1;have p:=zgo c g d
  generalize o.bidder.toNat=i at*
  generalize o.lot.toNat=j at*
  have q:=b;unfold kE at b;unfold kH;by_cases k1:l.put.kind=1
  ·rw[if_pos k1] at b ⊢;obtain ⟨z,m⟩:=zeO b;have v:=zgX m;have r:0≤(zcg H i a l o.offers).leader∧(zcg H i a l o.offers).leader<H.accs.length:=by
    refine ⟨v.nn,?_⟩
    rcases v.lead with e|⟨e,_⟩
    ·unfold zcg;rw[e];show (i:Int)<_;omega
    ·unfold zcg;rw[e];exact h.rise
   refine c.turn g (l':=zhW l (zcg H i a l o.offers)) (zpg (zg4 c.accs (by omega) _ _) (by omega) _ _) ?_ ?_ rfl ?_
   ·show (zcV _ _ _ _).length=_
    unfold zcV;rw[List.length_modify,zet]
   ·refine ⟨h.ok,fun s t=>?_,by simp[zhW],fun s t=>?_,fun s t=>?_,r.2,fun k=>absurd k1 (by show ¬l.put.kind=1;have:l.put.kind=4:=k;omega),fun k=>absurd k1 (by show ¬l.put.kind=1;have:l.put.kind=5:=k;omega)⟩
    ·have e:s=⟨(zcg H i a l o.offers).leader,[⟨0,(zcg H i a l o.offers).limit⟩],(zcg H i a l o.offers).limit⟩:=List.mem_singleton.1 t;rw[e];exact r
    ·have e:s=⟨(zcg H i a l o.offers).leader,[⟨0,(zcg H i a l o.offers).limit⟩],(zcg H i a l o.offers).limit⟩:=List.mem_singleton.1 t;rw[e];exact v.limit
    ·have e:s=⟨(zcg H i a l o.offers).leader,[⟨0,(zcg H i a l o.offers).limit⟩],(zcg H i a l o.offers).limit⟩:=List.mem_singleton.1 t;rw[e];show 1≤64;omega
   ·show upd H.due j _=upd H.due j (if l.closed=true then none else some _)
    rw[d]
    rfl
  rw[if_neg k1] at b ⊢;by_cases k2:l.put.kind=2
  ·rw[if_pos k2];refine (c.pre.close g d (l':=zd2 H l) rfl rfl (ss:=[zem i (zbJ l.put H.now)]) (by simp) (upd H.due j none)).inv ?_
   show upd H.due j none=zaW ((H.lots.set j (zd2 H l)).set j _)
   rw[List.set_set,zkD g,c.due]
   rfl
  rw[if_neg k2];obtain ⟨n,y⟩:=zsF h.ok f k1 k2 q;rw[if_neg k2] at b;have E:a.holdE j (zeG l o.offers)=0:=zhc (by omega) n y;refine c.turn g (l':=zfq l ⟨i,o.offers,zeG l o.offers⟩) (c.accs.set (zjs f.1 f.2 (by omega) E)) (by rw[List.length_set]) (h.stand ⟨Int.natCast_nonneg i,Int.ofNat_lt.2 x⟩ n (zng h.ok k1 k2 q) (fun K=>?_) fun M=>?_) rfl ?_
  ·rw[if_neg (by omega),if_pos K] at b;obtain ⟨_,m,D,_⟩:=zfS b;exact ⟨m,D⟩
  ·rw[if_neg (by omega),if_neg (by omega)] at b;unfold zgD at b
   split at b
   ·cases b
   ·rename_i z
    split at b
    ·cases b
    ·rename_i m
     exact ⟨Classical.not_not.1 fun e=>z (.inl e),m⟩
  ·refine (upd_same ?_).symm;rw[p]
   show some l.closes=if l.closed=true then none else some l.closes
   rw[d]
   rfl
theorem zpa {H:House} (c:HInv H) {o:OrderR} (b:takeE H o=0):HInv (zeT H o):=by
 unfold takeE at b;unfold zeT
 cases hat:atP H o with
 |none=>rw[hat] at b;cases b
 |some al=>
  obtain ⟨a,l⟩:=al;rw[hat] at b;simp only at b ⊢;obtain ⟨n,p,j,f⟩:=zds hat;by_cases hov:zcO H l=true
  ·rw[if_pos hov] at b;cases b
  obtain ⟨e,g,h⟩:=zkW hov;have i:=c.lots l (mG f);have d:=c.accs a (mG j);have k:=(gS.1 f).1;have m:=c.llen;refine c.turn f (l':=zgm l o.bidder.toNat) (c.accs.set (zew d.1 d.2 (by omega) (by omega))) (by rw[List.length_set]) (i.rest _) rfl ?_;refine (upd_same ?_).symm;rw[zgo c f e]
  show some l.closes=if l.closed=true then none else some l.closes
  rw[e]
  rfl
theorem zlb {H:House} {d:Du} {l:LotS} (h:(zaI zaO H d).lots[d.2.toNat]? =some l):l.closed=true:=by
 unfold zaI at h
 split at h
 ·rename_i b;rw[b] at h;cases h
 ·rename_i a b
  have c:=(gS.1 b).1;have e:(zcD {H with lots:=H.lots.set d.2.toNat (zaO a).1} d.2.toNat (zaO a).1 (zaO a).2).lots=(H.lots.set d.2.toNat (zaO a).1).set d.2.toNat {(zaO a).1 with closed:=true,stands:=[]}:=rfl;rw[e,List.set_set,List.getElem?_set_self c] at h;injection h with h
  rw[←h]
theorem zgO:∀{ds:List Du} {H:House},(ds.map (·.2.toNat)).Nodup→∀d∈ds,∀l,(zaR zaO H ds).lots[d.2.toNat]? =some l→l.closed=true
 |[],_,_,d,h,_,_=>by cases h
 |x::ds,H,hn,d,hd,l,hl=>by
  rw[List.map_cons] at hn;have h1:=List.pairwise_cons.1 hn;have hc:zaR zaO H (x::ds)=zaR zaO (zaI zaO H x) ds:=rfl;rw[hc] at hl
  rcases List.mem_cons.1 hd with rfl|hd
  ·rw[zdH fun y hy e=>h1.1 _ (List.mem_map_of_mem hy) e.symm] at hl;exact zlb hl
  ·exact zgO h1.2 d hd l hl
theorem zgY:∀{ds:List Du} {H:House},HPre H→(ds.map (·.2.toNat)).Nodup→(∀d∈ds,∃l,H.lots[d.2.toNat]? =some l∧l.closed=false)→HPre (zaR zaO H ds)
 |[],_,h,_,_=>h
 |x::ds,H,h,hn,ho=>by
  rw[List.map_cons] at hn;have h1:=List.pairwise_cons.1 hn;have hc:zaR zaO H (x::ds)=zaR zaO (zaI zaO H x) ds:=rfl;rw[hc];obtain ⟨l,hl,hop⟩:=ho x (.head _);have hk:=zjX l;refine zgY ?_ h1.2 fun d hd=>?_
  ·unfold zaI;rw[hl];exact h.close hl hop hk.2.1 hk.2.2.1 (zjY (h.lots l (mG hl))) H.due
  ·rw[zg0 fun e=>h1.1 _ (List.mem_map_of_mem hd) e.symm];exact ho d (.tail _ hd)
theorem zqM {i:List LotS} {t:Int} {ds:List Du} (j:DueL (zaW i) t ds):(ds.map (·.2.toNat)).Nodup∧∀d∈ds,∃l,i[d.2.toNat]? =some l∧l.closed=false∧l.closes=d.1∧d.1≤t∧0≤d.2:=by
 have h:∀d∈ds,∃l,i[d.2.toNat]? =some l∧l.closed=false∧l.closes=d.1∧d.1≤t∧0≤d.2:=fun d s=>by
  obtain ⟨c,f⟩:=(j.mem d).1 s;obtain ⟨m,l,n,o,p⟩:=zcx c;exact ⟨l,n,o,p,f,m⟩
 refine ⟨?_,h⟩;have k:=j.nodup;rw[List.Nodup,List.pairwise_map] at k ⊢;refine List.Pairwise.imp_of_mem ?_ k;intro a b q r g e;have c:=(h a q);have f:=(h b r);obtain ⟨_,_,_,_,_,c⟩:=c;obtain ⟨_,_,_,_,_,f⟩:=f;exact g (by omega)
theorem zgn {a:List LotS} {n:Int} (h:¬n<0):zaW a n=match a[n.toNat]? with|some l=>if l.closed then none else some l.closes|none=>none:=by unfold zaW;rw[if_neg h];rfl
theorem zpc {H:House} (c:HInv H) {t:Int} (k:∃ds,DueL H.due t ds):HInv (zd7 H t):=by
 obtain ⟨ds,o⟩:=k;unfold zd7;rw[zlH o];unfold zeV;have b:=o;rw[c.due] at b;obtain ⟨q,p⟩:=zqM b;have g:HPre {H with now:=t,due:=zbn H.due t}:=⟨c.accs,c.names,c.nlen,c.llen,c.lots,c.sales⟩;refine (zgY g q fun d h=>?_).inv ?_
 ·obtain ⟨l,i,j,_⟩:=p d h;exact ⟨l,i,j⟩
 ·rw[(zcS (f:=zaO) ds {H with now:=t,due:=zbn H.due t}).2.2.2.2.2]
  funext n
  show zbn H.due t n=zaW _ n
  rw[c.due];by_cases h0:n<0
  ·unfold zbn zaW;rw[if_pos h0,if_pos h0]
  ·by_cases h:∃d∈ds,d.2=n
   ·obtain ⟨d,a,rfl⟩:=h;obtain ⟨i,j⟩:=(b.mem d).1 a;have r:zbn (zaW H.lots) t d.2=none:=by unfold zbn;rw[i];simp[j]
    rw[r,zgn h0]
    cases hl:(zaR zaO {H with now:=t,due:=zbn (zaW H.lots) t} ds).lots[d.2.toNat]? with
    |none=>rfl
    |some l=>
     have:=zgO q d a l hl;simp only[this,if_true]
   ·have s:(zaR zaO {H with now:=t,due:=zbn (zaW H.lots) t} ds).lots[n.toNat]? =H.lots[n.toNat]? :=zdH fun d a e=>by
     obtain ⟨_,_,_,_,_,y⟩:=p d a;exact h ⟨d,a,by omega⟩
    have v:zaW (zaR zaO {H with now:=t,due:=zbn (zaW H.lots) t} ds).lots n=zaW H.lots n:=by
     rw[zgn h0,zgn h0,s]
    rw[v];unfold zbn
    cases hdn:zaW H.lots n with
    |none=>rfl
    |some x=>
     simp only
     split
     ·rename_i m
      exact absurd ⟨(x,n),(b.mem (x,n)).2 ⟨hdn,m⟩,rfl⟩ h
     ·rfl
def zlj (ls:List LotS) (t:Int) (n:Nat):Option Du:=match ls[n]? with|some l=>if l.closed=false∧l.closes≤t then some (l.closes,(n:Int)) else none|none=>none
theorem zgj {b:List LotS} {t:Int} {n:Nat} {d:Du} (h:zlj b t n=some d):d.2=n∧∃l,b[n]? =some l∧l.closed=false∧l.closes=d.1∧d.1≤t:=by
 unfold zlj at h
 split at h
 ·rename_i l c
  split at h
  ·rename_i a
   injection h with h
   subst h;exact ⟨rfl,l,c,a.1,rfl,a.2⟩
  ·cases h
 ·cases h
theorem zsx (m:List LotS) (t:Int):∃ds,DueL (zaW m) t ds:=by
 obtain ⟨i,j⟩:=nm ((List.range m.length).filterMap (zlj m t));have k:∀d:Du,d∈i↔zaW m d.2=some d.1∧d.1≤t:=by
  intro d;rw[j,List.mem_filterMap]
  constructor
  ·rintro ⟨n,B,h⟩;obtain ⟨f,l,g,o,p,q⟩:=zgj h;refine ⟨?_,q⟩;rw[f,zgn (by omega)]
   simp[g,o,p]
  ·rintro ⟨f,g⟩;obtain ⟨o,l,p,q,v⟩:=zcx f;refine ⟨d.2.toNat,List.mem_range.2 (gS.1 p).1,?_⟩;unfold zlj;rw[p];simp only;rw[if_pos ⟨q,by omega⟩,v];obtain ⟨x,y⟩:=d;simp only at o ⊢;rw[Int.toNat_of_nonneg o]
 have s:(i.map (·.2)).Nodup:=by
  rw[j,List.Nodup,List.pairwise_map];refine List.Pairwise.filterMap (S:=fun x y:Du=>x.2≠y.2) _ ?_ (List.nodup_range (n:=m.length));intro a b r x z y A e;have f:=(zgj z).1;have g:=(zgj A).1;exact r (by omega)
 refine ⟨i.mergeSort (fun a b=>decide (leD a b)),?_,fun d=>?_,?_⟩
 ·refine List.Pairwise.imp (fun h=>by simpa using h) (List.pairwise_mergeSort (le:=fun a b=>decide (leD a b)) (fun a b c f g=>?_) (fun a b=>?_) i)
  ·simp only[decide_eq_true_eq] at f g ⊢;exact zdl a b c f g
  ·rw[Bool.or_eq_true,decide_eq_true_eq,decide_eq_true_eq];unfold leD
   omega
 ·rw[List.mem_mergeSort];exact k d
 ·exact (((List.mergeSort_perm i _).map _).nodup_iff).2 s
theorem zsG {H:House} (c:HInv H) (o:OrderR):HInv (doH H o):=by
 unfold doH
 split
 ·rename_i a
  have d:=a;unfold doE at a
  split at a
  ·cases a
  have b:HInv (zbo H o):=by
   unfold zbi at a;unfold zbo;by_cases k1:o.kind=1
   ·rw[if_pos k1] at a ⊢;exact znW c a
   rw[if_neg k1] at a ⊢;by_cases k2:o.kind=2
   ·rw[if_pos k2] at a ⊢;exact znU c a
   rw[if_neg k2] at a ⊢;by_cases k3:o.kind=3
   ·rw[if_pos k3] at a ⊢;exact zq8 c a
   rw[if_neg k3] at a ⊢;by_cases k4:o.kind=4
   ·rw[if_pos k4] at a ⊢;exact zq7 c a
   rw[if_neg k4] at a ⊢;by_cases k5:o.kind=5
   ·rw[if_pos k5] at a ⊢;exact zpa c a
   rw[if_neg k5];exact zpc c (by rw[c.due];exact zsx _ _)
  exact ⟨b.accs,b.names,b.nlen,b.llen,b.due,b.lots,b.sales⟩
 ·exact c
structure CInv (H:House):Prop where
 nodup:H.names.Nodup
 names:∀s∈H.names,zeI s=0
 now:zah H.now
 due:∀n x,H.due n=some x→H.now≤x
theorem CInv.same {H H':House} (h:CInv H) (a:H'.names=H.names) (b:H'.now=H.now) (c:H'.due=H.due):CInv H':=by
 obtain ⟨d,e,f,g⟩:=h;exact ⟨by rwa [a],by rwa [a],by rwa [b],by rwa [b,c]⟩
theorem CInv.upd {H H':House} (h:CInv H) {n:Int} {v:Option Int} (b:H'.names=H.names) (c:H'.now=H.now) (d:H'.due=Ho.upd H.due n v) (f:∀x,v=some x→H.now≤x):CInv H':=by
 obtain ⟨g,i,j,e⟩:=h;refine ⟨by rwa [b],by rwa [b],by rwa [c],fun m x a=>?_⟩;rw[d] at a;rw[c];unfold Ho.upd at a
 split at a
 ·exact f x a
 ·exact e m x a
theorem znA:CInv ⟨[],[],[],0,[],[],fun _=>none⟩:=⟨.nil,fun _ h=>(by cases h),by decide,fun _ _ h=>(by cases h)⟩
theorem zoO {H:House} (C:HInv H) (e:CInv H) {o:OrderR} (c:zbi H o=0):CInv (zbo H o):=by
 unfold zbi at c;unfold zbo;by_cases k1:o.kind=1
 ·rw[if_pos k1] at c ⊢;unfold zcE at c
  split at c
  ·cases c
  ·unfold zes at c
   split at c
   ·cases c
   ·split at c
    ·cases c
    ·split at c
     ·cases c
     ·rename_i k g i
      obtain ⟨m,p,q,r⟩:=e;refine ⟨?_,fun s j=>?_,q,r⟩
      ·show (H.names++[o.name]).Nodup
       rw[List.nodup_append];refine ⟨m,by simp,fun a D b A=>?_⟩;rw[List.mem_singleton.1 A];rintro rfl
       simp_all
      ·rcases List.mem_append.1 j with j|j
       ·exact p s j
       ·rw[List.mem_singleton.1 j];simp_all
 rw[if_neg k1] at c ⊢;by_cases k2:o.kind=2
 ·rw[if_pos k2];unfold zb4
  split
  ·exact e.same rfl rfl rfl
  ·exact e
 rw[if_neg k2] at c ⊢;by_cases k3:o.kind=3
 ·rw[if_pos k3] at c ⊢;unfold zev at c
  split at c
  ·cases c
  ·rename_i k
   split at c
   ·cases c
   ·rename_i g
    refine e.upd (n:=(H.lots.length:Int)) (v:=some o.put.closes) rfl rfl rfl fun x d=>?_
    cases d
    have i:zbO o.put=true:=by simpa using k
    unfold zbO at i;simp only[Bool.and_eq_true,decide_eq_true_eq] at i
    omega
 rw[if_neg k3] at c ⊢;by_cases k4:o.kind=4
 ·rw[if_pos k4] at c ⊢;unfold ze8 at c;unfold zgg
  cases hat:atP H o with
  |none=>rw[hat] at c;cases c
  |some al=>
   obtain ⟨a,l⟩:=al;rw[hat] at c;simp only at c ⊢
   split at c
   ·cases c
   unfold kE at c;unfold kH;by_cases k1:l.put.kind=1
   ·rw[if_pos k1] at c ⊢;have B:=zgX (zeO c).2;refine e.upd (n:=(o.lot.toNat:Int)) (v:=some (zcg H o.bidder.toNat a l o.offers).closes) rfl rfl rfl fun x d=>?_
    cases d
    exact Int.le_of_lt B.now
   rw[if_neg k1];by_cases k2:l.put.kind=2
   ·rw[if_pos k2];exact e.upd (n:=(o.lot.toNat:Int)) (v:=none) rfl rfl rfl fun x d=>by cases d
   rw[if_neg k2];exact e.same rfl rfl rfl
 rw[if_neg k4] at c ⊢;by_cases k5:o.kind=5
 ·rw[if_pos k5];unfold zeT
  split
  ·exact e
  ·exact e.same rfl rfl rfl
 rw[if_neg k5] at c ⊢;unfold zeU at c
 split at c
 ·split at c<;>cases c
 ·rename_i k
  have g:=zcS (f:=zaO) (zgp H.due o.tick) {H with now:=o.tick,due:=zbn H.due o.tick};obtain ⟨m,p,q,r⟩:=e;have t:(zd7 H o.tick).names=H.names:=g.2.2.2.2.1;have y:(zd7 H o.tick).now=o.tick:=g.2.2.2.1;have z:(zd7 H o.tick).due=zbn H.due o.tick:=g.2.2.2.2.2;have i:zae o.tick=true:=by
   cases h:zae o.tick with
   |true=>rfl
   |false=>exact absurd (.inl h) k
  refine ⟨by rwa [t],by rwa [t],by rw[y];exact zaK.1 i,fun n x d=>?_⟩;rw[y];rw[z] at d;unfold zbn at d
  split at d
  ·split at d
   ·cases d
   ·injection d with d;omega
  ·cases d
theorem zst {H:House} (c:HInv H) (b:CInv H) (o:OrderR):CInv (doH H o):=by
 unfold doH
 split
 ·rename_i a
  unfold doE at a
  split at a
  ·cases a
  exact (zoO c b a).same rfl rfl rfl
 ·exact b
theorem zjf (H:House) (o:OrderR):(zbo H o).book=H.book:=by
 unfold zbo
 split
 ·rfl
 split
 ·unfold zb4
  split<;>rfl
 split
 ·rfl
 split
 ·unfold zgg
  split
  ·rfl
  ·unfold kH
   split
   ·rfl
   split<;>rfl
 split
 ·unfold zeT
  split<;>rfl
 ·exact (zcS (f:=zaO) (zgp H.due o.tick) {H with now:=o.tick,due:=zbn H.due o.tick}).2.2.1
theorem zlF (H:House) (o:OrderR):(doH H o).book=if doE H o=0 then H.book++[o] else H.book:=by
 unfold doH
 split
 ·exact congrArg (·++[o]) (zjf H o)
 ·rfl
theorem zp7 {o:OrderR} (h:zcH o=true) (d:¬o.kind=4):o.offers.length=0:=by
 unfold zcH at h;simp only at h;have a:∀{x:Bool},x=true→(x=true→((o.offers.length:Int)==0)=true)→o.offers.length=0:=fun b c=>by
  have:=c b;rw[beq_iff_eq] at this
  omega
 refine a h fun h=>?_
 split at h
 ·simp only[Bool.and_eq_true] at h;exact h.1.2
 split at h
 ·simp only[Bool.and_eq_true] at h;exact h.1.2
 split at h
 ·simp only[Bool.and_eq_true] at h;exact h.1.2
 split at h
 ·simp only[Bool.and_eq_true] at h;exact h.1.2
 split at h
 ·simp only[Bool.and_eq_true] at h;exact h.2
 ·cases h
theorem ztD {H:House} (e:HInv H) {o:OrderR} (b:doE H o=0):o.offers.length≤64:=by
 unfold doE at b
 split at b
 ·cases b
 rename_i j
 have d:zcH o=true:=by simpa using j
 by_cases h4:o.kind=4
 ·unfold zbi at b;rw[if_neg (by omega),if_neg (by omega),if_neg (by omega),if_pos h4] at b;unfold ze8 at b
  cases hat:atP H o with
  |none=>rw[hat] at b;cases b
  |some al=>
   obtain ⟨a,l⟩:=al;rw[hat] at b;simp only at b
   split at b
   ·cases b
   obtain ⟨h,i,k,g⟩:=zds hat;have f:=e.lots l (mG g);by_cases k1:l.put.kind=1
   ·unfold kE at b;rw[if_pos k1] at b;have:=zeS (zeO b).1
    omega
   by_cases k2:l.put.kind=2
   ·unfold kE at b;rw[if_neg k1,if_pos k2] at b;unfold zgs at b
    cases hsg:zaZ o.offers with
    |none=>rw[hsg] at b;cases b
    |some c=>have:=zeS hsg;omega
   exact zng f.ok k1 k2 b
 ·have:=zp7 d h4
  omega
noncomputable def stH (os:List OrderR):House:=os.foldl doH zan
theorem zgJ (os:List OrderR) (o:OrderR):stH (os++[o])=doH (stH os) o:=by simp[stH]
structure Reach (H:House):Prop where
 inv:HInv H
 cinv:CInv H
 all:∀k o,H.book[k]? =some o→doE (stH (H.book.take k)) o=0
 make:stH H.book=H
theorem zcn:Reach zan:=⟨znV,znA,fun k o h=>by simp[zan] at h,rfl⟩
theorem Reach.next {H:House} (h:Reach H) (o:OrderR):Reach (doH H o):=by
 by_cases he:doE H o=0
 ·have b:(doH H o).book=H.book++[o]:=by rw[zlF,if_pos he]
  refine ⟨zsG h.inv o,zst h.inv h.cinv o,fun k x a=>?_,?_⟩
  ·rw[b] at a ⊢;by_cases hlt:k<H.book.length
   ·rw[List.getElem?_append_left hlt] at a;rw[List.take_append_of_le_length (by omega)];exact h.all k x a
   ·have c:=(gS.1 a).1;simp only[List.length_append,List.length_singleton] at c;obtain rfl:k=H.book.length:=by omega
    rw[List.getElem?_append_right lR] at a
    simp at a
    subst a;rw[List.take_append_of_le_length lR,List.take_length,h.make];exact he
  ·rw[b,zgJ,h.make]
 ·have e:doH H o=H:=by unfold doH;rw[if_neg he]
  rw[e];exact h
theorem ztB {H:House} {o:OrderR} (a:doE H o=0):doA H o=⟨H.book.length,0,zfC H o⟩:=by
 unfold doA;rw[if_pos a,zjf]
theorem zsv {H:House} {o:OrderR} (a:¬doE H o=0):doA H o=⟨0,doE H o,0⟩∧doH H o=H:=by
 unfold doA doH;rw[if_neg a,if_neg a];exact ⟨rfl,rfl⟩
structure LawAt (W0:World) (xb rb gb h g:Nat) (mc:Array Value) (wr:World) (T Tg:Nat→Part) (K Kg:Nat) (H Hg:House):Prop where
 hh:zaf wr T h K H
 gg:zaf wr Tg g Kg Hg
 apart:∀b,Tg b≠ .no→T b=.no
 bx:Ac.Blk wr xb 61 mc
 rx:Ac.Blk wr rb 4 #[.bool false]
 gx:Ac.Blk wr gb 22 #[.pointer (some ⟨g,0,none⟩)]
 tx:(T xb=.no∧Tg xb=.no)∧(T rb=.no∧Tg rb=.no)∧(T gb=.no∧Tg gb=.no)
 far:∀b,b<W0.heap.size→T b=.no∧Tg b=.no
 bel:Below W0 W0 wr
section
variable {W0 wr w':World} {xb rb gb h g:Nat} {mc:Array Value} {T Tg T':Nat→Part} {K Kg K':Nat} {H Hg H':House}
theorem zaf.out {W:World} {T:Nat→Part} {h K:Nat} {H:House} (c:zaf W T h K H):∀b,W.heap.size≤b→T b=.no:=by
 obtain ⟨_,_,_,_,_,_,a⟩:=c;exact a.out
end
end Ho
namespace Ho
open Go.RowKit Vb Ac
attribute [local go_sem] Oper.semAt_some
section
variable {W:World} {T:Nat→Part} {h K:Nat} {H:House}
theorem zlT (c:zaf W T h K H):Calls Tryz.prog 101 #[.pointer (some ⟨h,0,none⟩)] W fun e W'=>e=.returned ↑H.now∧W'=W:=by
 obtain ⟨k,j,l,n,m,o,b⟩:=id c;have i:=b.cells.2.2.2.1;have d:=hid b.cal;have f:=hid c;clear c b;go_enter Tryz.func101,Tryz.ntmps101;go_wp2_with fail
 refine (zcU f.out).mono ?_;rintro e g ⟨rfl,a⟩;rw[a];clear a;go_wp2_with fail
 refine (zc3 d.out).mono ?_;rintro e g ⟨rfl,a⟩;rw[a];clear a;go_wp2_with fail
 go_ret;exact ⟨rfl,rfl⟩
end
end Ho
end Go.Proofs.YtckdpejdnejhfaaGreat

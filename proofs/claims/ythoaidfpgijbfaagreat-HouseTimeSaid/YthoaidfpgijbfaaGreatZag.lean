/- Joined by program. -/
import Derived.Test.YthoaidfpgijbfaaGreatZaf
set_option linter.all false
namespace Go.Proofs.YthoaidfpgijbfaaGreat
open Lib (hid)
namespace Ho
open Go.RowKit Vb Ac
theorem zfm {H:House} {l:LotS} (h:¬zcT H l=true):l.closed=false∧H.now<l.closes∧l.put.opens≤H.now:=by
 unfold zcT at h;simp only[Bool.or_eq_true,decide_eq_true_eq,not_or] at h;refine ⟨?_,by omega,by omega⟩
 cases hc:l.closed with
 |false=>rfl
 |true=>exact absurd hc h.1.1
theorem zps {H:House} {i j:Nat} {a:Acc} {l:LotS} {os:List Off} (r:zbT l.put=true) (f:a.Ok∧a.Fine) (p:¬l.put.kind=1) (q:¬l.put.kind=2) (b:kE H i j a l os=0):zai (zcw l os)∧zcw l os≤a.mostH j:=by
 unfold kE at b;rw[if_neg p,if_neg q] at b;unfold zcw;by_cases k3:l.put.kind=3
 ·rw[if_pos k3] at b ⊢;obtain ⟨d,c,h⟩:=zdH b;exact ⟨zg6 d,h⟩
 rw[if_neg k3] at b ⊢;by_cases k4:l.put.kind=4
 ·rw[if_pos k4] at b ⊢;obtain ⟨d,c,h,m⟩:=zfi b;have s:=zn3 f.1 j;have n:=zlf (l:=zar os) fun x k=>by
   unfold zar at k;obtain ⟨o,g,rfl⟩:=List.mem_map.1 k;unfold zch at c;have:=List.all_eq_true.1 c o g;unfold zfQ at this;rw[Bool.and_eq_true] at this;exact zaJ.1 this.2
  exact ⟨⟨n.1,by omega⟩,m⟩
 ·rw[if_neg k4] at b ⊢;unfold zg9 at b
  split at b
  ·cases b
  ·rename_i d
   split at b
   ·cases b
   ·unfold zcP at b
    split at b
    ·cases b
    ·have c:zaA l.put.count os=0:=Classical.not_not.1 fun e=>d (.inl e);exact ⟨zpi (by omega) fun o g=>((zeC c).2 o g).2,by omega⟩
theorem zpt {H:House} {i j:Nat} {a:Acc} {l:LotS} {os:List Off} (f:zbT l.put=true) (g:¬l.put.kind=1) (h:¬l.put.kind=2) (b:kE H i j a l os=0):os.length≤64:=by
 unfold kE at b;rw[if_neg g,if_neg h] at b;by_cases k3:l.put.kind=3
 ·rw[if_pos k3] at b;have:=zfX (zdH b).1
  omega
 rw[if_neg k3] at b;by_cases k4:l.put.kind=4
 ·rw[if_pos k4] at b;have c:=(zfi b).1;have d:=((zcS f).1 k4).1.2
  omega
 ·rw[if_neg k4] at b;unfold zg9 at b
  split at b
  ·cases b
  ·rename_i c
   have d:zaA l.put.count os=0:=Classical.not_not.1 fun e=>c (.inl e);have:=(zeC d).1
   omega
theorem zuJ {H:House} (c:HInv H) {o:OrderR} (b:zdW H o=0):HInv (zeU H o):=by
 unfold zdW at b;unfold zeU
 cases hat:atP H o with
 |none=>rw[hat] at b;cases b
 |some al=>
  obtain ⟨a,l⟩:=al;rw[hat] at b;simp only at b ⊢;obtain ⟨I,J,A,g⟩:=zcH hat;by_cases hov:zcT H l=true
  ·rw[if_pos hov] at b;cases b
  rw[if_neg hov] at b;obtain ⟨d,B,C⟩:=zfm hov;have h:=c.lots l (mG g);have F:=(gS.1 g).1;have x:=(gS.1 A).1;have f:=c.accs a (mG A);have G:=c.llen;have L:=(zb7 h.ok).1;have p:=zhM c g d
  generalize o.bidder.toNat=i at*
  generalize o.lot.toNat=j at*
  have q:=b;unfold kE at b;unfold kH;by_cases k1:l.put.kind=1
  ·rw[if_pos k1] at b ⊢;obtain ⟨z,m⟩:=zdm b;have v:=zgS m;have r:0≤(zbo H i a l o.offers).leader∧(zbo H i a l o.offers).leader<H.accs.length:=by
    refine ⟨v.nn,?_⟩
    rcases v.lead with e|⟨e,_⟩
    ·unfold zbo;rw[e];show (i:Int)<_;omega
    ·unfold zbo;rw[e];exact h.rise
   refine c.turn g (l':=zfN l (zbo H i a l o.offers)) (zr4 (ziC c.accs (by omega) _ _) (by omega) _ _) ?_ ?_ rfl ?_
   ·show (zcR _ _ _ _).length=_
    unfold zcR;rw[List.length_modify,zd8]
   ·refine ⟨h.ok,fun s t=>?_,by simp[zfN],fun s t=>?_,fun s t=>?_,r.2,fun k=>absurd k1 (by show ¬l.put.kind=1;have:l.put.kind=4:=k;omega),fun k=>absurd k1 (by show ¬l.put.kind=1;have:l.put.kind=5:=k;omega)⟩
    ·have e:s=⟨(zbo H i a l o.offers).leader,[⟨0,(zbo H i a l o.offers).limit⟩],(zbo H i a l o.offers).limit⟩:=List.mem_singleton.1 t;rw[e];exact r
    ·have e:s=⟨(zbo H i a l o.offers).leader,[⟨0,(zbo H i a l o.offers).limit⟩],(zbo H i a l o.offers).limit⟩:=List.mem_singleton.1 t;rw[e];exact v.limit
    ·have e:s=⟨(zbo H i a l o.offers).leader,[⟨0,(zbo H i a l o.offers).limit⟩],(zbo H i a l o.offers).limit⟩:=List.mem_singleton.1 t;rw[e];show 1≤64;omega
   ·show upd H.due j _=upd H.due j (if l.closed=true then none else some _)
    rw[d]
    rfl
  rw[if_neg k1] at b ⊢;by_cases k2:l.put.kind=2
  ·rw[if_pos k2];refine (c.pre.close g d (l':=zdf H l) rfl rfl (ss:=[zey i (zbi l.put H.now)]) (by simp) (upd H.due j none)).inv ?_
   show upd H.due j none=za7 ((H.lots.set j (zdf H l)).set j _)
   rw[List.set_set,zmF g,c.due]
   rfl
  rw[if_neg k2];obtain ⟨n,y⟩:=zps h.ok f k1 k2 q;rw[if_neg k2] at b;have E:a.holdE j (zcw l o.offers)=0:=zgJ (by omega) n y;refine c.turn g (l':=zd1 l ⟨i,o.offers,zcw l o.offers⟩) (c.accs.set (zkQ f.1 f.2 (by omega) E)) (by rw[List.length_set]) (h.stand ⟨Int.natCast_nonneg i,Int.ofNat_lt.2 x⟩ n (zpt h.ok k1 k2 q) (fun K=>?_) fun M=>?_) rfl ?_
  ·rw[if_neg (by omega),if_pos K] at b;obtain ⟨_,m,D,_⟩:=zfi b;exact ⟨m,D⟩
  ·rw[if_neg (by omega),if_neg (by omega)] at b;unfold zg9 at b
   split at b
   ·cases b
   ·rename_i z
    split at b
    ·cases b
    ·rename_i m
     exact ⟨Classical.not_not.1 fun e=>z (.inl e),m⟩
  ·refine (upd_same ?_).symm;rw[p]
   show some l.closes=if l.closed=true then none else some l.closes
   rw[d]
   rfl
theorem zsN {H:House} (c:HInv H) {o:OrderR} (b:takeE H o=0):HInv (zdT H o):=by
 unfold takeE at b;unfold zdT
 cases hat:atP H o with
 |none=>rw[hat] at b;cases b
 |some al=>
  obtain ⟨a,l⟩:=al;rw[hat] at b;simp only at b ⊢;obtain ⟨n,p,j,f⟩:=zcH hat;by_cases hov:zcT H l=true
  ·rw[if_pos hov] at b;cases b
  obtain ⟨e,g,h⟩:=zfm hov;have i:=c.lots l (mG f);have d:=c.accs a (mG j);have k:=(gS.1 f).1;have m:=c.llen;refine c.turn f (l':=ze1 l o.bidder.toNat) (c.accs.set (zft d.1 d.2 (by omega) (by omega))) (by rw[List.length_set]) (i.rest _) rfl ?_;refine (upd_same ?_).symm;rw[zhM c f e]
  show some l.closes=if l.closed=true then none else some l.closes
  rw[e]
  rfl
theorem zm6 {H:House} {d:Du} {l:LotS} (h:(zau zav H d).lots[d.2.toNat]? =some l):l.closed=true:=by
 unfold zau at h
 split at h
 ·rename_i b;rw[b] at h;cases h
 ·rename_i a b
  have c:=(gS.1 b).1;have e:(zc8 {H with lots:=H.lots.set d.2.toNat (zav a).1} d.2.toNat (zav a).1 (zav a).2).lots=(H.lots.set d.2.toNat (zav a).1).set d.2.toNat {(zav a).1 with closed:=true,stands:=[]}:=rfl;rw[e,List.set_set,List.getElem?_set_self c] at h;injection h with h
  rw[←h]
theorem zh2:∀{ds:List Du} {H:House},(ds.map (·.2.toNat)).Nodup→∀d∈ds,∀l,(zax zav H ds).lots[d.2.toNat]? =some l→l.closed=true
 |[],_,_,d,h,_,_=>by cases h
 |x::ds,H,hn,d,hd,l,hl=>by
  rw[List.map_cons] at hn;have h1:=List.pairwise_cons.1 hn;have hc:zax zav H (x::ds)=zax zav (zau zav H x) ds:=rfl;rw[hc] at hl
  rcases List.mem_cons.1 hd with rfl|hd
  ·rw[zex fun y hy e=>h1.1 _ (List.mem_map_of_mem hy) e.symm] at hl;exact zm6 hl
  ·exact zh2 h1.2 d hd l hl
theorem ziQ:∀{ds:List Du} {H:House},HPre H→(ds.map (·.2.toNat)).Nodup→(∀d∈ds,∃l,H.lots[d.2.toNat]? =some l∧l.closed=false)→HPre (zax zav H ds)
 |[],_,h,_,_=>h
 |x::ds,H,h,hn,ho=>by
  rw[List.map_cons] at hn;have h1:=List.pairwise_cons.1 hn;have hc:zax zav H (x::ds)=zax zav (zau zav H x) ds:=rfl;rw[hc];obtain ⟨l,hl,hop⟩:=ho x (.head _);have hk:=zeH l;refine ziQ ?_ h1.2 fun d hd=>?_
  ·unfold zau;rw[hl];exact h.close hl hop hk.2.1 hk.2.2.1 (zfW (h.lots l (mG hl))) H.due
  ·rw[zew fun e=>h1.1 _ (List.mem_map_of_mem hd) e.symm];exact ho d (.tail _ hd)
theorem zkt {ls:List LotS} {t:Int} {ds:List Du} (i:DueL (za7 ls) t ds):(ds.map (·.2.toNat)).Nodup∧∀d∈ds,∃l,ls[d.2.toNat]? =some l∧l.closed=false∧l.closes=d.1∧d.1≤t∧0≤d.2:=by
 have h:∀d∈ds,∃l,ls[d.2.toNat]? =some l∧l.closed=false∧l.closes=d.1∧d.1≤t∧0≤d.2:=fun d r=>by
  obtain ⟨c,f⟩:=(i.mem d).1 r;obtain ⟨k,l,m,n,o⟩:=zcQ c;exact ⟨l,m,n,o,f,k⟩
 refine ⟨?_,h⟩;have j:=i.nodup;rw[List.Nodup,List.pairwise_map] at j ⊢;refine List.Pairwise.imp_of_mem ?_ j;intro a b p q g e;have c:=(h a p);have f:=(h b q);obtain ⟨_,_,_,_,_,c⟩:=c;obtain ⟨_,_,_,_,_,f⟩:=f;exact g (by omega)
theorem zhP {ls:List LotS} {n:Int} (h:¬n<0):za7 ls n=match ls[n.toNat]? with|some l=>if l.closed then none else some l.closes|none=>none:=by unfold za7;rw[if_neg h];rfl
theorem zmH {H:House} (c:HInv H) {t:Int} (k:∃ds,DueL H.due t ds):HInv (zbf H t):=by
 obtain ⟨ds,o⟩:=k;unfold zbf;rw[zdG o];unfold zc1;have b:=o;rw[c.due] at b;obtain ⟨q,p⟩:=zkt b;have g:HPre {H with now:=t,due:=zaZ H.due t}:=⟨c.accs,c.names,c.nlen,c.llen,c.lots,c.sales⟩;refine (ziQ g q fun d h=>?_).inv ?_
 ·obtain ⟨l,i,j,_⟩:=p d h;exact ⟨l,i,j⟩
 ·rw[(zcc (f:=zav) ds {H with now:=t,due:=zaZ H.due t}).2.2.2.2.2]
  funext n
  show zaZ H.due t n=za7 _ n
  rw[c.due];by_cases h0:n<0
  ·unfold zaZ za7;rw[if_pos h0,if_pos h0]
  ·by_cases h:∃d∈ds,d.2=n
   ·obtain ⟨d,a,rfl⟩:=h;obtain ⟨i,j⟩:=(b.mem d).1 a;have r:zaZ (za7 H.lots) t d.2=none:=by unfold zaZ;rw[i];simp[j]
    rw[r,zhP h0]
    cases hl:(zax zav {H with now:=t,due:=zaZ (za7 H.lots) t} ds).lots[d.2.toNat]? with
    |none=>rfl
    |some l=>
     have:=zh2 q d a l hl;simp only[this,if_true]
   ·have s:(zax zav {H with now:=t,due:=zaZ (za7 H.lots) t} ds).lots[n.toNat]? =H.lots[n.toNat]? :=zex fun d a e=>by
     obtain ⟨_,_,_,_,_,y⟩:=p d a;exact h ⟨d,a,by omega⟩
    have v:za7 (zax zav {H with now:=t,due:=zaZ (za7 H.lots) t} ds).lots n=za7 H.lots n:=by
     rw[zhP h0,zhP h0,s]
    rw[v];unfold zaZ
    cases hdn:za7 H.lots n with
    |none=>rfl
    |some x=>
     simp only
     split
     ·rename_i m
      exact absurd ⟨(x,n),(b.mem (x,n)).2 ⟨hdn,m⟩,rfl⟩ h
     ·rfl
def znc (ls:List LotS) (t:Int) (n:Nat):Option Du:=match ls[n]? with|some l=>if l.closed=false∧l.closes≤t then some (l.closes,(n:Int)) else none|none=>none
theorem zhQ {ls:List LotS} {t:Int} {n:Nat} {d:Du} (h:znc ls t n=some d):d.2=n∧∃l,ls[n]? =some l∧l.closed=false∧l.closes=d.1∧d.1≤t:=by
 unfold znc at h
 split at h
 ·rename_i l b
  split at h
  ·rename_i a
   injection h with h
   subst h;exact ⟨rfl,l,b,a.1,rfl,a.2⟩
  ·cases h
 ·cases h
theorem zf5 (ls:List LotS) (t:Int):∃ds,DueL (za7 ls) t ds:=by
 obtain ⟨i,j⟩:=nm ((List.range ls.length).filterMap (znc ls t));have k:∀d:Du,d∈i↔za7 ls d.2=some d.1∧d.1≤t:=by
  intro d;rw[j,List.mem_filterMap]
  constructor
  ·rintro ⟨n,A,h⟩;obtain ⟨f,l,g,m,o,p⟩:=zhQ h;refine ⟨?_,p⟩;rw[f,zhP (by omega)]
   simp[g,m,o]
  ·rintro ⟨f,g⟩;obtain ⟨m,l,o,p,s⟩:=zcQ f;refine ⟨d.2.toNat,List.mem_range.2 (gS.1 o).1,?_⟩;unfold znc;rw[o];simp only;rw[if_pos ⟨p,by omega⟩,s];obtain ⟨x,y⟩:=d;simp only at m ⊢;rw[Int.toNat_of_nonneg m]
 have r:(i.map (·.2)).Nodup:=by
  rw[j,List.Nodup,List.pairwise_map];refine List.Pairwise.filterMap (S:=fun x y:Du=>x.2≠y.2) _ ?_ (List.nodup_range (n:=ls.length));intro a b q x v y z e;have f:=(zhQ v).1;have g:=(zhQ z).1;exact q (by omega)
 refine ⟨i.mergeSort (fun a b=>decide (leD a b)),?_,fun d=>?_,?_⟩
 ·refine List.Pairwise.imp (fun h=>by simpa using h) (List.pairwise_mergeSort (le:=fun a b=>decide (leD a b)) (fun a b c f g=>?_) (fun a b=>?_) i)
  ·simp only[decide_eq_true_eq] at f g ⊢;exact zdY a b c f g
  ·rw[Bool.or_eq_true,decide_eq_true_eq,decide_eq_true_eq];unfold leD
   omega
 ·rw[List.mem_mergeSort];exact k d
 ·exact (((List.mergeSort_perm i _).map _).nodup_iff).2 r
theorem zf6 {H:House} (c:HInv H) (o:OrderR):HInv (doH H o):=by
 unfold doH
 split
 ·rename_i a
  have d:=a;unfold doE at a
  split at a
  ·cases a
  have b:HInv (zbk H o):=by
   unfold zbp at a;unfold zbk;by_cases k1:o.kind=1
   ·rw[if_pos k1] at a ⊢;exact zqI c a
   rw[if_neg k1] at a ⊢;by_cases k2:o.kind=2
   ·rw[if_pos k2] at a ⊢;exact zqJ c a
   rw[if_neg k2] at a ⊢;by_cases k3:o.kind=3
   ·rw[if_pos k3] at a ⊢;exact zuI c a
   rw[if_neg k3] at a ⊢;by_cases k4:o.kind=4
   ·rw[if_pos k4] at a ⊢;exact zuJ c a
   rw[if_neg k4] at a ⊢;by_cases k5:o.kind=5
   ·rw[if_pos k5] at a ⊢;exact zsN c a
   rw[if_neg k5];exact zmH c (by rw[c.due];exact zf5 _ _)
  exact ⟨b.accs,b.names,b.nlen,b.llen,b.due,b.lots,b.sales⟩
 ·exact c
structure CInv (H:House):Prop where
 nodup:H.names.Nodup
 names:∀s∈H.names,zfC s=0
 now:zai H.now
 due:∀n x,H.due n=some x→H.now≤x
theorem CInv.same {H H':House} (h:CInv H) (a:H'.names=H.names) (b:H'.now=H.now) (c:H'.due=H.due):CInv H':=by
 obtain ⟨d,e,f,g⟩:=h;exact ⟨by rwa [a],by rwa [a],by rwa [b],by rwa [b,c]⟩
theorem CInv.upd {H H':House} (h:CInv H) {n:Int} {v:Option Int} (b:H'.names=H.names) (c:H'.now=H.now) (d:H'.due=Ho.upd H.due n v) (f:∀x,v=some x→H.now≤x):CInv H':=by
 obtain ⟨g,i,j,e⟩:=h;refine ⟨by rwa [b],by rwa [b],by rwa [c],fun m x a=>?_⟩;rw[d] at a;rw[c];unfold Ho.upd at a
 split at a
 ·exact f x a
 ·exact e m x a
theorem zlu:CInv ⟨[],[],[],0,[],[],fun _=>none⟩:=⟨.nil,fun _ h=>(by cases h),by decide,fun _ _ h=>(by cases h)⟩
theorem zsO {H:House} (C:HInv H) (e:CInv H) {o:OrderR} (c:zbp H o=0):CInv (zbk H o):=by
 unfold zbp at c;unfold zbk;by_cases k1:o.kind=1
 ·rw[if_pos k1] at c ⊢;unfold zdn at c
  split at c
  ·cases c
  ·unfold zfs at c
   split at c
   ·cases c
   ·split at c
    ·cases c
    ·split at c
     ·cases c
     ·rename_i k g i
      obtain ⟨m,p,q,r⟩:=e;refine ⟨?_,fun s j=>?_,q,r⟩
      ·show (H.names++[o.name]).Nodup
       rw[List.nodup_append];refine ⟨m,by simp,fun a D b A=>?_⟩;rw[List.mem_singleton.1 A];rintro rfl
       simp_all
      ·rcases List.mem_append.1 j with j|j
       ·exact p s j
       ·rw[List.mem_singleton.1 j];simp_all
 rw[if_neg k1] at c ⊢;by_cases k2:o.kind=2
 ·rw[if_pos k2];unfold zb4
  split
  ·exact e.same rfl rfl rfl
  ·exact e
 rw[if_neg k2] at c ⊢;by_cases k3:o.kind=3
 ·rw[if_pos k3] at c ⊢;unfold zfu at c
  split at c
  ·cases c
  ·rename_i k
   split at c
   ·cases c
   ·rename_i g
    refine e.upd (n:=(H.lots.length:Int)) (v:=some o.put.closes) rfl rfl rfl fun x d=>?_
    cases d
    have i:zbT o.put=true:=by simpa using k
    unfold zbT at i;simp only[Bool.and_eq_true,decide_eq_true_eq] at i
    omega
 rw[if_neg k3] at c ⊢;by_cases k4:o.kind=4
 ·rw[if_pos k4] at c ⊢;unfold zdW at c;unfold zeU
  cases hat:atP H o with
  |none=>rw[hat] at c;cases c
  |some al=>
   obtain ⟨a,l⟩:=al;rw[hat] at c;simp only at c ⊢
   split at c
   ·cases c
   unfold kE at c;unfold kH;by_cases k1:l.put.kind=1
   ·rw[if_pos k1] at c ⊢;have B:=zgS (zdm c).2;refine e.upd (n:=(o.lot.toNat:Int)) (v:=some (zbo H o.bidder.toNat a l o.offers).closes) rfl rfl rfl fun x d=>?_
    cases d
    exact Int.le_of_lt B.now
   rw[if_neg k1];by_cases k2:l.put.kind=2
   ·rw[if_pos k2];exact e.upd (n:=(o.lot.toNat:Int)) (v:=none) rfl rfl rfl fun x d=>by cases d
   rw[if_neg k2];exact e.same rfl rfl rfl
 rw[if_neg k4] at c ⊢;by_cases k5:o.kind=5
 ·rw[if_pos k5];unfold zdT
  split
  ·exact e
  ·exact e.same rfl rfl rfl
 rw[if_neg k5] at c ⊢;unfold zeI at c
 split at c
 ·split at c<;>cases c
 ·rename_i k
  have g:=zcc (f:=zav) (ze3 H.due o.tick) {H with now:=o.tick,due:=zaZ H.due o.tick};obtain ⟨m,p,q,r⟩:=e;have t:(zbf H o.tick).names=H.names:=g.2.2.2.2.1;have y:(zbf H o.tick).now=o.tick:=g.2.2.2.1;have z:(zbf H o.tick).due=zaZ H.due o.tick:=g.2.2.2.2.2;have i:zah o.tick=true:=by
   cases h:zah o.tick with
   |true=>rfl
   |false=>exact absurd (.inl h) k
  refine ⟨by rwa [t],by rwa [t],by rw[y];exact zaJ.1 i,fun n x d=>?_⟩;rw[y];rw[z] at d;unfold zaZ at d
  split at d
  ·split at d
   ·cases d
   ·injection d with d;omega
  ·cases d
theorem zl1 {H:House} (c:HInv H) (b:CInv H) (o:OrderR):CInv (doH H o):=by
 unfold doH
 split
 ·rename_i a
  unfold doE at a
  split at a
  ·cases a
  exact (zsO c b a).same rfl rfl rfl
 ·exact b
theorem zhR (H:House) (o:OrderR):(zbk H o).book=H.book:=by
 unfold zbk
 split
 ·rfl
 split
 ·unfold zb4
  split<;>rfl
 split
 ·rfl
 split
 ·unfold zeU
  split
  ·rfl
  ·unfold kH
   split
   ·rfl
   split<;>rfl
 split
 ·unfold zdT
  split<;>rfl
 ·exact (zcc (f:=zav) (ze3 H.due o.tick) {H with now:=o.tick,due:=zaZ H.due o.tick}).2.2.1
theorem zdI (H:House) (o:OrderR):(doH H o).book=if doE H o=0 then H.book++[o] else H.book:=by
 unfold doH
 split
 ·exact congrArg (·++[o]) (zhR H o)
 ·rfl
theorem zsP {o:OrderR} (h:zc6 o=true) (d:¬o.kind=4):o.offers.length=0:=by
 unfold zc6 at h;simp only at h;have a:∀{x:Bool},x=true→(x=true→((o.offers.length:Int)==0)=true)→o.offers.length=0:=fun b c=>by
  have:=c b;rw[beq_iff_eq] at this
  omega
 refine a h fun h=>?_
 split at h
 ·simp only[Bool.and_eq_true] at h;exact h.1.2
 split at h
 ·simp only[Bool.and_eq_true] at h;exact h.1.2
 split at h
 ·simp only[Bool.and_eq_true] at h;exact h.1.2
 split at h
 ·simp only[Bool.and_eq_true] at h;exact h.1.2
 split at h
 ·simp only[Bool.and_eq_true] at h;exact h.2
 ·cases h
theorem zfn {H:House} (e:HInv H) {o:OrderR} (b:doE H o=0):o.offers.length≤64:=by
 unfold doE at b
 split at b
 ·cases b
 rename_i j
 have d:zc6 o=true:=by simpa using j
 by_cases h4:o.kind=4
 ·unfold zbp at b;rw[if_neg (by omega),if_neg (by omega),if_neg (by omega),if_pos h4] at b;unfold zdW at b
  cases hat:atP H o with
  |none=>rw[hat] at b;cases b
  |some al=>
   obtain ⟨a,l⟩:=al;rw[hat] at b;simp only at b
   split at b
   ·cases b
   obtain ⟨h,i,k,g⟩:=zcH hat;have f:=e.lots l (mG g);by_cases k1:l.put.kind=1
   ·unfold kE at b;rw[if_pos k1] at b;have:=zfX (zdm b).1
    omega
   by_cases k2:l.put.kind=2
   ·unfold kE at b;rw[if_neg k1,if_pos k2] at b;unfold zeA at b
    cases hsg:zaK o.offers with
    |none=>rw[hsg] at b;cases b
    |some c=>have:=zfX hsg;omega
   exact zpt f.ok k1 k2 b
 ·have:=zsP d h4
  omega
noncomputable def stH (os:List OrderR):House:=os.foldl doH zb1
theorem zku (os:List OrderR) (o:OrderR):stH (os++[o])=doH (stH os) o:=by simp[stH]
structure Reach (H:House):Prop where
 inv:HInv H
 cinv:CInv H
 all:∀k o,H.book[k]? =some o→doE (stH (H.book.take k)) o=0
 make:stH H.book=H
theorem zjT:Reach zb1:=⟨zhO,zlu,fun k o h=>by simp[zb1] at h,rfl⟩
theorem Reach.next {H:House} (h:Reach H) (o:OrderR):Reach (doH H o):=by
 by_cases he:doE H o=0
 ·have b:(doH H o).book=H.book++[o]:=by rw[zdI,if_pos he]
  refine ⟨zf6 h.inv o,zl1 h.inv h.cinv o,fun k x a=>?_,?_⟩
  ·rw[b] at a ⊢;by_cases hlt:k<H.book.length
   ·rw[List.getElem?_append_left hlt] at a;rw[List.take_append_of_le_length (by omega)];exact h.all k x a
   ·have c:=(gS.1 a).1;simp only[List.length_append,List.length_singleton] at c;obtain rfl:k=H.book.length:=by omega
    rw[List.getElem?_append_right lR] at a
    simp at a
    subst a;rw[List.take_append_of_le_length lR,List.take_length,h.make];exact he
  ·rw[b,zku,h.make]
 ·have e:doH H o=H:=by unfold doH;rw[if_neg he]
  rw[e];exact h
theorem Reach.part {H:House} (h:Reach H):∀k,k≤H.book.length→(Reach (stH (H.book.take k)))∧(stH (H.book.take k)).book=H.book.take k
 |0,_=>⟨zjT,rfl⟩
 |k+1,hk=>by
  obtain ⟨h1,h2⟩:=h.part k (by omega);obtain ⟨o,ho⟩:∃o,H.book[k]? =some o:=⟨_,gE (by omega)⟩;have e:H.book.take (k+1)=H.book.take k++[o]:=by rw[List.take_add_one,ho];rfl
  rw[e,zku];refine ⟨h1.next o,?_⟩;rw[zdI,if_pos (h.all k o ho),h2]
theorem zoa {H:House} {o:OrderR} (a:doE H o=0):doA H o=⟨H.book.length,0,ze4 H o⟩:=by
 unfold doA;rw[if_pos a,zhR]
theorem zwc {H:House} {o:OrderR} (a:¬doE H o=0):doA H o=⟨0,doE H o,0⟩∧doH H o=H:=by
 unfold doA doH;rw[if_neg a,if_neg a];exact ⟨rfl,rfl⟩
structure LawAt (W0:World) (xb rb gb h g:Nat) (mc:Array Value) (wr:World) (T Tg:Nat→Part) (K Kg:Nat) (H Hg:House):Prop where
 hh:zaf wr T h K H
 gg:zaf wr Tg g Kg Hg
 apart:∀b,Tg b≠ .no→T b=.no
 bx:Ac.Blk wr xb 36 mc
 rx:Ac.Blk wr rb 4 #[.bool false]
 gx:Ac.Blk wr gb 23 #[.pointer (some ⟨g,0,none⟩)]
 tx:(T xb=.no∧Tg xb=.no)∧(T rb=.no∧Tg rb=.no)∧(T gb=.no∧Tg gb=.no)
 far:∀b,b<W0.heap.size→T b=.no∧Tg b=.no
 bel:Below W0 W0 wr
section
variable {W0 wr w':World} {xb rb gb h g:Nat} {mc:Array Value} {T Tg T':Nat→Part} {K Kg K':Nat} {H Hg H':House}
theorem zaf.out {W:World} {T:Nat→Part} {h K:Nat} {H:House} (c:zaf W T h K H):∀b,W.heap.size≤b→T b=.no:=by
 obtain ⟨_,_,_,_,_,_,a⟩:=c;exact a.out
theorem za9 {T:Nat→Part} {b:Nat} (h:T b=.no):¬Own T b:=by unfold Own;rw[h];simp
theorem LawAt.grow (h0:LawAt W0 xb rb gb h g mc wr T Tg K Kg H Hg) (hb:Below wr wr w'):LawAt W0 xb rb gb h g mc w' T Tg K Kg H Hg:=
 ⟨h0.hh.grow hb,h0.gg.grow hb,h0.apart,h0.bx.grow hb,h0.rx.grow hb,h0.gx.grow hb,h0.tx,h0.far,h0.bel.trans (hb.mono h0.bel.size)⟩
theorem LawAt.moveH (a:LawAt W0 xb rb gb h g mc wr T Tg K Kg H Hg) (i:zaf w' T' h K' H') (d:Moves wr T w' T'):LawAt W0 xb rb gb h g mc w' T' Tg K' Kg H' Hg:=by
 have f:∀b,Tg b≠ .no→b<wr.heap.size:=fun b c=>Nat.lt_of_not_le fun e=>c (a.gg.out b e);refine ⟨i,a.gg.keep d.chg fun b c=>za9 (a.apart b c),fun b c=>(d.tag b (f b c)).trans (a.apart b c),a.bx.chg d.chg (za9 a.tx.1.1),a.rx.chg d.chg (za9 a.tx.2.1.1),a.gx.chg d.chg (za9 a.tx.2.2.1),
  ⟨⟨(d.tag _ a.bx.lt).trans a.tx.1.1,a.tx.1.2⟩,⟨(d.tag _ a.rx.lt).trans a.tx.2.1.1,a.tx.2.1.2⟩,⟨(d.tag _ a.gx.lt).trans a.tx.2.2.1,a.tx.2.2.2⟩⟩,
  fun b c=>⟨(d.tag b (lL c a.bel.size)).trans (a.far b c).1,(a.far b c).2⟩,a.bel.trans (d.chg.below a.bel.size fun b c=>za9 (a.far b c).1)⟩
theorem LawAt.moveG (a:LawAt W0 xb rb gb h g mc wr T Tg K Kg H Hg) (i:zaf w' T' g K' H') (d:Moves wr Tg w' T'):LawAt W0 xb rb gb h g mc w' T T' K K' H H':=by
 have f:∀b,T b≠ .no→Tg b=.no:=fun b c=>Classical.not_not.1 fun e=>c (a.apart b e);refine ⟨a.hh.keep d.chg fun b c=>za9 (f b c),i,fun b c=>?_,a.bx.chg d.chg (za9 a.tx.1.2),a.rx.chg d.chg (za9 a.tx.2.1.2),a.gx.chg d.chg (za9 a.tx.2.2.2),
  ⟨⟨a.tx.1.1,(d.tag _ a.bx.lt).trans a.tx.1.2⟩,⟨a.tx.2.1.1,(d.tag _ a.rx.lt).trans a.tx.2.1.2⟩,⟨a.tx.2.2.1,(d.tag _ a.gx.lt).trans a.tx.2.2.2⟩⟩,
  fun b c=>⟨(a.far b c).1,(d.tag b (lL c a.bel.size)).trans (a.far b c).2⟩,a.bel.trans (d.chg.below a.bel.size fun b c=>za9 (a.far b c).2)⟩
 by_cases hlt:b<wr.heap.size
 ·rw[d.tag b hlt] at c;exact a.apart b c
 ·exact a.hh.out b (by omega)
end
end Ho
namespace Ho
open Go.RowKit Vb Ac
attribute [local go_sem] Oper.semAt_some
section
variable {W:World} {T:Nat→Part} {h K:Nat} {H:House}
theorem zkv (c:zaf W T h K H):Calls Tryz.prog 19 #[.pointer (some ⟨h,0,none⟩)] W fun e W'=>e=.returned ↑H.now∧W'=W:=by
 obtain ⟨k,j,l,n,m,o,b⟩:=id c;have i:=b.cells.2.2.2.1;have d:=hid b.cal;have f:=hid c;clear c b;go_enter Tryz.func19,Tryz.ntmps19;go_wp2_with fail
 refine (zbL f.out).mono ?_;rintro e g ⟨rfl,a⟩;rw[a];clear a;go_wp2_with fail
 refine (zdB d.out).mono ?_;rintro e g ⟨rfl,a⟩;rw[a];clear a;go_wp2_with fail
 go_ret;exact ⟨rfl,rfl⟩
theorem zoN (d:zaf W T h K H):Calls Tryz.prog 24 #[.pointer (some ⟨h,0,none⟩)] W fun e W'=>e=.returned ↑H.book.length∧W'=W:=by
 obtain ⟨l,k,m,o,n,q,b⟩:=id d;obtain ⟨p,f,_⟩:=b.book;obtain ⟨A,c,g⟩:=f.form;have j:W.cell? ⟨h,4,none⟩=some (.slice A H.book.length c):=g▸b.cells.2.2.2.2.1;have i:=hid d;clear d b f g;go_enter Tryz.func24,Tryz.ntmps24;go_wp2_with fail
 refine (zbL i.out).mono ?_;rintro e r ⟨rfl,a⟩;rw[a];clear a;go_wp2_with fail
 go_ret;exact ⟨rfl,rfl⟩
end
end Ho
end Go.Proofs.YthoaidfpgijbfaaGreat

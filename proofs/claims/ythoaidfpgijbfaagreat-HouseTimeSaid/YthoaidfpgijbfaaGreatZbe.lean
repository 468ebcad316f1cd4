/- Joined by program. -/
import Derived.Test.YthoaidfpgijbfaaGreatZag
set_option linter.all false
namespace Go.Proofs.YthoaidfpgijbfaaGreat
namespace Ho
open Go.RowKit Vb Ac
def zaM (ss:List Stand) (i:Int):Int:=match ss.find? (fun s=>s.bidder==i) with|some s=>s.held|none=>0
def zby (ls:List LotS) (i k:Int):Int:=if k<0 then 0 else match ls[k.toNat]? with|some l=>zaM l.stands i|none=>0
theorem zc0 {ss:List Stand} {i:Int} (h:∀s∈ss,s.bidder≠i):zaM ss i=0:=by
 unfold zaM;rw[List.find?_eq_none.2 fun s a=>by simpa using h s a]
theorem zhV {ss:List Stand} (c:(ss.map (·.bidder)).Nodup) {s:Stand} (a:s∈ss):zaM ss s.bidder=s.held:=by
 induction ss with
 |nil=>cases a
 |cons x ss ih=>
  rw[List.map_cons] at c;have b:=List.pairwise_cons.1 c;unfold zaM
  rcases List.mem_cons.1 a with rfl|a
  ·simp
  ·rw[List.find?_cons_of_neg (by simpa using b.1 _ (List.mem_map_of_mem a))];exact ih b.2 a
theorem zs9 {ss:List Stand} (h:∀s∈ss,zai s.held) (i:Int):0≤zaM ss i:=by
 unfold zaM
 cases hf:ss.find? (fun s=>s.bidder==i) with
 |none=>simp
 |some s=>exact (h s (List.mem_of_find?_eq_some hf)).1
theorem zm7 {ss a:List Stand} {i:Int}:zaM (ss++a) i=if (∃s∈ss,s.bidder=i) then zaM ss i else zaM a i:=by
 unfold zaM;rw[List.find?_append]
 cases hf:ss.find? (fun s=>s.bidder==i) with
 |none=>
  rw[if_neg]
  ·simp
  ·rintro ⟨s,b,e⟩;have:=List.find?_eq_none.1 hf s b;exact this (by simpa using e)
 |some s=>
  rw[if_pos ⟨s,List.mem_of_find?_eq_some hf,by simpa using List.find?_some hf⟩]
  simp
theorem zqR {ss b:List Stand} (c:(b.map (·.bidder)).Nodup) (d:ss.Sublist b) {i:Int} (h:∀s∈b,s.bidder=i→s∈ss):zaM ss i=zaM b i:=by
 by_cases he:∃s∈b,s.bidder=i
 ·obtain ⟨s,a,rfl⟩:=he;rw[zhV c a,zhV (c.sublist (d.map _)) (h s a rfl)]
 ·rw[zc0 fun s a e=>he ⟨s,a,e⟩,zc0 fun s a e=>he ⟨s,d.subset a,e⟩]
theorem zjV {b:Int} {ss:List Stand} {s:Stand} (d:s∈ss) (e:s.bidder≠b):s∈zbz b ss:=by
 unfold zbz
 cases hp:zbb b ss with
 |none=>exact d
 |some k=>
  obtain ⟨t,f,c,_⟩:=zeg hp;obtain ⟨m,a⟩:=List.getElem?_of_mem d;refine List.mem_eraseIdx_iff_getElem?.2 ⟨m,?_,a⟩;rintro rfl;rw[f] at a;injection a with a
  exact e (a▸c)
theorem zjW {b:Int} {ss:List Stand} (a:(ss.map (·.bidder)).Nodup) (i:Int):zaM (zbz b ss) i=if i=b then 0 else zaM ss i:=by
 by_cases h:i=b
 ·subst h;rw[if_pos rfl,zc0 (ziP a)]
 ·rw[if_neg h];exact zqR a zaO fun s c e=>zjV c (by rw[e];exact h)
theorem zoi {ss:List Stand} (b:(ss.map (·.bidder)).Nodup) (s:Stand) (i:Int):zaM (zbz s.bidder ss++[s]) i=if i=s.bidder then s.held else zaM ss i:=by
 rw[zm7];by_cases h:i=s.bidder
 ·subst h;rw[if_neg,if_pos rfl]
  ·unfold zaM;simp
  ·rintro ⟨t,a,e⟩;exact ziP b t a e
 ·rw[if_neg h]
  split
  ·rw[zjW b,if_neg h]
  ·rename_i d
   have c:zaM [s] i=0:=zc0 fun t a=>by rw[List.mem_singleton] at a;rw[a];exact fun e=>h e.symm
   rw[c];refine (zc0 fun t a e=>d ⟨t,zjV a (by rw[e];exact h),e⟩).symm
theorem zjX {ls:List LotS} {j:Nat} {l l':LotS} (b:ls[j]? =some l) (i k:Int):zby (ls.set j l') i k=if k=j then zaM l'.stands i else zby ls i k:=by
 have a:=(gS.1 b).1;unfold zby;by_cases h0:k<0
 ·rw[if_pos h0,if_pos h0,if_neg (by omega)]
 ·rw[if_neg h0,if_neg h0];by_cases hk:k=j
  ·subst hk;rw[if_pos rfl,Int.toNat_natCast,List.getElem?_set_self a]
  ·rw[if_neg hk,List.getElem?_set_ne (by omega)]
theorem zoS {ls:List LotS} {i:Int} (h:∀l∈ls,∀s∈l.stands,s.bidder≠i) (k:Int):zby ls i k=0:=by
 unfold zby
 split
 ·rfl
 ·split
  ·rename_i l a
   exact zc0 (h l (mG a))
  ·rfl
theorem zoj {ls:List LotS} {l:LotS} (h:l.stands=[]) (i k:Int):zby (ls++[l]) i k=zby ls i k:=by
 unfold zby
 split
 ·rfl
 ·by_cases hk:k.toNat<ls.length
  ·rw[List.getElem?_append_left hk]
  ·rw[List.getElem?_eq_none (by omega:ls.length≤k.toNat)];rw[List.getElem?_append_right (by omega)]
   cases hx:[l][k.toNat-ls.length]? with
   |none=>rfl
   |some x=>
    have:=mG hx;rw[List.mem_singleton] at this;simp only[this,h]
    rfl
def zbg:List Acc→Int
 |[]=>0
 |a::r=>a.sp+zbg r
theorem ziU (a b:List Acc):zbg (a++b)=zbg a+zbg b:=by
 induction a with
 |nil=>simp[zbg]
 |cons x a ih=>simp only[List.cons_append,zbg,ih];omega
theorem zfp {acs:List Acc} {i:Nat} {a b:Acc} (h:acs[i]? =some a):zbg (acs.set i b)=zbg acs-a.sp+b.sp:=by
 induction acs generalizing i with
 |nil=>simp at h
 |cons x acs ih=>
  cases i with
  |zero=>
   simp only[List.getElem?_cons_zero,Option.some.injEq] at h;subst h;simp only[List.set_cons_zero,zbg];omega
  |succ i=>
   simp only[List.getElem?_cons_succ] at h;simp only[List.set_cons_succ,zbg,ih h];omega
theorem ziV {n:Nat}:∀(ss:List Stand) (acs:List Acc) (i:Nat),∀a,acs[i]? =some a→(∀s∈ss,0≤s.bidder)→∃b,(zbC n acs ss)[i]? =some b∧b.bud=a.bud∧b.sp=a.sp∧(b=a∨b=a.set n 0)∧(atM b.M n=if (∃s∈ss,s.bidder=i) then 0 else atM a.M n)∧(∀k,k≠(n:Int)→atM b.M k=atM a.M k)
 |[],acs,i,a,h,_=>⟨a,h,rfl,rfl,.inl rfl,by simp,fun _ _=>rfl⟩
 |s::ss,acs,i,a,h,hs=>by
  have hr:zbC n acs (s::ss)=zbC n (zcF n acs s) ss:=rfl;rw[hr];have hs0:=hs s (.head _);by_cases e:s.bidder=i
  ·have h1:(zcF n acs s)[i]? =some (a.set n 0):=by
    unfold zcF;rw[e,Int.toNat_natCast,zbP _ h,List.getElem?_set_self (gS.1 h).1]
   obtain ⟨b,g,j,l,d,m,o⟩:=ziV ss _ i _ h1 fun t c=>hs t (.tail _ c);have q:atM (a.set n 0).M n=0:=zdZ a.M n 0;refine ⟨b,g,j,l,.inr ?_,?_,fun k p=>(o k p).trans (zdC (M:=a.M) 0 p)⟩
   ·rcases d with d|d
    ·exact d
    ·rw[d];unfold Acc.set;simp only;rw[zfa,zfa]
     congr 1
     unfold zbl;rw[List.filter_filter]
     simp
   ·rw[m,q,if_pos (show ∃t∈s::ss,t.bidder=i from ⟨s,.head _,e⟩)]
    split<;>rfl
  ·have h1:(zcF n acs s)[i]? =some a:=by
    unfold zcF;rw[List.getElem?_modify,h]
    show some (if s.bidder.toNat=i then _ else _)=_
    rw[if_neg (by omega)]
   obtain ⟨b,g,j,l,d,m,o⟩:=ziV ss _ i _ h1 fun t c=>hs t (.tail _ c);refine ⟨b,g,j,l,d,?_,o⟩;rw[m];by_cases hx:∃t∈ss,t.bidder=i
   ·obtain ⟨t,c,f⟩:=hx;rw[if_pos ⟨t,c,f⟩,if_pos ⟨t,.tail _ c,f⟩]
   ·rw[if_neg hx,if_neg];rintro ⟨t,c,f⟩
    rcases List.mem_cons.1 c with rfl|c
    ·exact e f
    ·exact hx ⟨t,c,f⟩
theorem zmP {n:Nat}:∀(ss:List Stand) (acs:List Acc),zbg (zbC n acs ss)=zbg acs
 |[],_=>rfl
 |s::ss,acs=>by
  refine (zmP ss (zcF n acs s)).trans ?_;unfold zcF
  cases h:acs[s.bidder.toNat]? with
  |none=>rw[List.modify_eq_self (List.getElem?_eq_none_iff.1 h)]
  |some a=>rw[zbP _ h,zfp h];simp[Acc.set]
theorem zmQ:∀(ss:List SaleR) (acs:List Acc),(ss.map (·.bidder)).Nodup→(∀s∈ss,0≤s.bidder∧∃a,acs[s.bidder.toNat]? =some a∧zai s.coins∧s.coins≤a.free)→
  zbg (zbU acs ss)=zbg acs+zbw ss∧∀(i:Nat) (a:Acc),acs[i]? =some a→∃b,(zbU acs ss)[i]? =some b∧b.bud=a.bud∧b.M=a.M
 |[],acs,_,_=>⟨by simp[zbU,zbw],fun i a h=>⟨a,h,rfl,rfl⟩⟩
 |s::ss,acs,hn,h=>by
  rw[List.map_cons] at hn;have h1:=List.pairwise_cons.1 hn;obtain ⟨h0,a,ha,hc,hf⟩:=h s (.head _);have hp:zbU acs (s::ss)=zbU (zdo acs s) ss:=rfl;have hq:zdo acs s=acs.set s.bidder.toNat (a.take s.coins):=by
   unfold zdo;rw[zbP _ ha]
   congr 1
   unfold takeA;rw[if_pos];unfold Acc.takeE;rw[if_neg (by simpa using hc),if_neg (by omega)]
  have q:=(gS.1 ha).1;obtain ⟨v,g⟩:=zmQ ss (zdo acs s) h1.2 fun t f=>by
   obtain ⟨j,b,k,l,m⟩:=h t (.tail _ f);refine ⟨j,b,?_,l,m⟩;have r:s.bidder≠t.bidder:=h1.1 _ (List.mem_map_of_mem f);rw[hq,List.getElem?_set_ne (by omega)];exact k
  rw[hp];refine ⟨?_,fun i b d=>?_⟩
  ·rw[v,hq,zfp ha];simp only[zbw,Acc.take]
   omega
  ·by_cases e:s.bidder.toNat=i
   ·subst e;rw[ha] at d;injection d with d
    subst d;obtain ⟨c,n,o,p⟩:=g _ _ (show (zdo acs s)[s.bidder.toNat]? =some (a.take s.coins) by rw[hq,List.getElem?_set_self q]);exact ⟨c,n,o,p⟩
   ·exact g i b (by rw[hq,List.getElem?_set_ne e];exact d)
def sumTo (f:Int→Int):Nat→Int
 |0=>0
 |n+1=>sumTo f n+f n
theorem sumTo_congr {f g:Int→Int}:∀{n:Nat},(∀k,k<n→f (k:Nat)=g (k:Nat))→sumTo f n=sumTo g n
 |0,_=>rfl
 |n+1,h=>by
  have:=sumTo_congr (f:=f) (g:=g) (n:=n) fun k hk=>h k (by omega);simp only[sumTo,this,h n (by omega)]
theorem zpy:∀(n:Nat) (M:HM),zaR M→(∀p∈M,1≤p.2)→(∀k,k<0∨(n:Int)≤k→atM M k=0)→zas M=sumTo (atM M) n
 |0,M,_,hp,h=>by
  cases M with
  |nil=>rfl
  |cons p M=>
   have h1:=h p.1 (by omega);have h2:=hp p (.head _);unfold atM at h1;rw[List.find?_cons_of_pos (by simp)] at h1;simp only at h1
   omega
 |n+1,M,hr,hp,h=>by
  have ho:∀k,k≠(n:Int)→atM (zbl M n) k=atM M k:=fun k hk=>by
   have:=zdC (M:=M) (j:=k) (k:=n) 0 hk
   rwa [zfa] at this
  have hs:atM (zbl M n) n=0:=by
   have:=zdZ M n 0
   rwa [zfa] at this
  have b:=zpy n (zbl M n) (zfB _ hr) (fun p a=>hp p (List.mem_filter.1 a).1) fun k hk=>by
   by_cases e:k=n
   ·rw[e];exact hs
   ·rw[ho k e];exact h k (by omega)
  have h1:=zfZ (M:=M) (n:Int) hr;rw[b] at h1;simp only[sumTo];rw[←h1,sumTo_congr (f:=atM (zbl M n)) (g:=atM M) fun k hk=>ho k (by omega)]
def zf7 (s:SaleR) (os:List Off):Prop:=
 (s.count=0∧∃o∈os,s.coins≤o.c∧(s.goods=0∨(o.g:Int)=s.goods))∨(s.goods=0∧0<s.count∧s.count≤os.length∧s.coins≤zam ((os.take s.count.toNat).map (·.c)))
structure SellOk (ss:List Stand) (sl:List SaleR):Prop where
 nodup:(sl.map (·.bidder)).Nodup
 each:∀s∈sl,∃st∈ss,st.bidder=s.bidder∧0≤s.coins∧s.coins≤st.held∧zf7 s st.offers
structure StandInv (l:LotS):Prop where
 wf:∀s∈l.stands,∀o∈s.offers,o.wf
 rising:l.put.kind=1→l.closed=false→if l.rise.leader<0 then l.stands=[] else l.stands=[⟨l.rise.leader,[⟨0,l.rise.limit⟩],l.rise.limit⟩]
 falling:l.put.kind=2→l.stands=[]
 sealed:l.put.kind=3→∀s∈l.stands,zaK s.offers=some s.held
 units:l.put.kind=4→∀s∈l.stands,s.held=zam (zar s.offers)
 pkg:l.put.kind=5→∀s∈l.stands,s.held=zcv s.offers
theorem SellOk.nil (ss:List Stand):SellOk ss []:=⟨by simp,fun s hs=>by cases hs⟩
theorem zlw {os:List Off} {c:Int} (h:zaK os=some c):∃o∈os,o.c=c:=by
 unfold zaK at h
 split at h
 ·rename_i o
  split at h
  ·injection h with h
   exact ⟨o,.head _,h⟩
  ·cases h
 ·cases h
theorem zta {l:LotS} (c:if l.rise.leader<0 then l.stands=[] else l.stands=[⟨l.rise.leader,[⟨0,l.rise.limit⟩],l.rise.limit⟩]):SellOk l.stands (zcf l):=by
 unfold zcf
 split
 ·exact SellOk.nil _
 ·rename_i h
  have b:¬l.rise.leader<0:=fun e=>h (.inl e);have a:zbB l.put l.rise=true:=by
   cases hx:zbB l.put l.rise with
   |true=>rfl
   |false=>exact absurd (.inr hx) h
  rw[if_neg b] at c;unfold zbB at a;rw[Bool.and_eq_true,if_neg b] at a;simp only[Bool.and_eq_true,decide_eq_true_eq] at a;have f:=(zgR a.1).start;unfold zai at f;refine ⟨by simp,fun s d=>?_⟩;rw[List.mem_singleton] at d;subst d;refine ⟨_,by rw[c];exact .head _,rfl,?_,?_,.inl ⟨rfl,_,.head _,?_,.inl rfl⟩⟩
  ·show 0≤l.rise.price;omega
  ·show l.rise.price≤l.rise.limit;omega
  ·show l.rise.price≤l.rise.limit;omega
theorem zwl {fl:Int} {l:List Sec} {j:Nat} {c:Int} (h:zbt fl (-1) l l.length=some (j,c)):fl≤zeZ fl l j∧zeZ fl l j≤c:=by
 obtain ⟨_,f,_,_,g⟩:=zeD lR h;unfold zeZ
 cases hb:zbt fl j l l.length with
 |none=>exact ⟨Int.le_refl _,f⟩
 |some p=>
  obtain ⟨i,b⟩:=p;obtain ⟨_,d,⟨s,a,e⟩,_,_⟩:=zeD lR hb;refine ⟨d,?_⟩
  show b≤c
  rw[←e];exact g i s (gS.1 a).1 (by omega) a
theorem zoT {l:LotS} (r:0≤l.put.floor) (m:∀s∈l.stands,zaK s.offers=some s.held):SellOk l.stands (zaY l):=by
 unfold zaY
 split
 ·exact SellOk.nil _
 ·rename_i w p b
  unfold zb9 at b
  split at b
  ·split at b
   ·cases b
   ·rename_i j c f
    injection b with b
    injection b with hw hp
    obtain ⟨_,_,⟨s,a,d⟩,_,_⟩:=zeD lR f;obtain ⟨n,q⟩:=zwl f;rw[a] at hw;unfold zdq at a;rw[List.getElem?_map] at a
    cases hst:l.stands[j]? with
    |none=>rw[hst] at a;cases a
    |some st=>
     rw[hst] at a;simp only[Option.map_some,Option.some.injEq] at a;subst a;have g:=mG hst;have h:st.held=c:=d;have e:st.bidder=w:=by simpa using hw
     refine ⟨by simp,fun x b=>?_⟩;rw[List.mem_singleton] at b;subst b;obtain ⟨o,i,k⟩:=zlw (m st g);refine ⟨st,g,e,?_,?_,.inl ⟨rfl,o,i,?_,.inl rfl⟩⟩
     ·show 0≤p;omega
     ·show p≤st.held;omega
     ·show p≤o.c;omega
  ·cases b
def zqS (a b:UnitR):Prop:=¬(a.bid=b.bid∧a.place=b.place)
theorem zuT {bids:List (List Int)} {u:UnitR} (h:u∈ziE bids):∃(i k:Nat) (b:List Int),bids[i]? =some b∧b[k]? =some u.coins∧u.bid=i∧u.place=k:=by
 obtain ⟨r,e,f⟩:=List.mem_flatten.1 h;obtain ⟨i,a⟩:=List.getElem?_of_mem e;rw[zdg] at a
 cases hb:bids[i]? with
 |none=>rw[hb] at a;cases a
 |some b=>
  rw[hb] at a;simp only[Option.map_some,Option.some.injEq] at a;subst a;obtain ⟨k,d⟩:=List.getElem?_of_mem f;rw[zei] at d
  cases hc:b[k]? with
  |none=>rw[hc] at d;cases d
  |some c=>
   rw[hc] at d;simp only[Option.map_some,Option.some.injEq] at d;subst d;exact ⟨i,k,b,hb,hc,rfl,rfl⟩
theorem zuU (bids:List (List Int)):(ziE bids).Pairwise zqS:=by
 unfold ziE;rw[List.pairwise_flatten];refine ⟨fun r p=>?_,?_⟩
 ·obtain ⟨i,a⟩:=List.getElem?_of_mem p;rw[zdg] at a
  cases hb:bids[i]? with
  |none=>rw[hb] at a;cases a
  |some b=>
   rw[hb] at a;simp only[Option.map_some,Option.some.injEq] at a;subst a;refine List.pairwise_iff_getElem.2 fun j k l o c e=>?_;simp only[zfw,List.getElem_mapIdx] at e
   omega
 ·refine List.pairwise_iff_getElem.2 fun j k l o c x g y h e=>?_;simp only[zcJ,List.getElem_mapIdx,zfw] at g h;obtain ⟨m,d⟩:=List.getElem?_of_mem g;obtain ⟨n,f⟩:=List.getElem?_of_mem h;rw[List.getElem?_mapIdx,Option.map_eq_some_iff] at d f;obtain ⟨_,_,rfl⟩:=d;obtain ⟨_,_,rfl⟩:=f;have:=e.1;simp only at this
  omega
theorem zl4 {p:Int}:∀{l:List Int},(∀x∈l,p≤x)→p*(l.length:Nat)≤zam l
 |[],_=>by simp[zam]
 |x::l,h=>by
  have h1:=zl4 (p:=p) (l:=l) fun y hy=>h y (.tail _ hy);have h2:=h x (.head _);have e:p*((l.length+1:Nat):Int)=p*(l.length:Nat)+p:=by
   rw[Int.natCast_add,Int.mul_add];simp
  simp only[zam,List.length_cons];rw[e]
  omega
theorem zgv (a b:List Int):zam (a++b)=zam a+zam b:=by
 induction a with
 |nil=>simp[zam]
 |cons x a ih=>simp only[List.cons_append,zam,ih];omega
theorem zwm {l:List Int} (h:∀x∈l,0≤x):0≤zam l:=by
 have:=zl4 (p:=0) h
 omega
theorem zuV {ss:List Stand} {count:Nat} {fl:Int} (hfl:0≤fl) (hu:∀s∈ss,zch s.offers=true∧zc2 count fl (zar s.offers)=0) {i:Nat} {y:Stand} (V:ss[i]? =some y) {n:Int} (hn:n=zbV i ((zbh (zbR ss)).take count)) (hn0:0<n):
  0≤zcj count fl (zbh (zbR ss))∧n≤y.offers.length∧zcj count fl (zbh (zbR ss))*n≤zam ((zar y.offers).take n.toNat):=by
 obtain ⟨d,q⟩:=nm (zbh (zbR ss));rw[←q] at hn ⊢;have M:(zbR ss)[i]? =some (zar y.offers):=by unfold zbR;rw[List.getElem?_map,V];rfl
 have r:∀(j:Nat) (b:List Int),(zbR ss)[j]? =some b→UnitOk count fl b:=fun j b z=>by
  unfold zbR at z;rw[List.getElem?_map] at z
  cases c:ss[j]? with
  |none=>rw[c] at z;cases z
  |some s=>
   rw[c] at z;simp only[Option.map_some,Option.some.injEq] at z;rw[←z];exact zdh (hu s (mG c)).2
 have E:d.Pairwise zqS:=by
  rw[q];exact ((ziF _).pairwise_iff (R:=zqS) fun {a b} h e=>h ⟨e.1.symm,e.2.symm⟩).2 (zuU _)
 have t:∀u∈d,∃(i k:Nat) (b:List Int),(zbR ss)[i]? =some b∧b[k]? =some u.coins∧u.bid=i∧u.place=k:=fun u c=>by
  rw[q] at c;exact zuT ((ziF _).mem_iff.1 c)
 have A:d.Pairwise leU:=by rw[q];exact zjL _
 --the price is at most any unit's that is sold
 have U:∀u∈d.take count,zcj count fl d≤u.coins:=fun u c=>by
  have hf:fl≤u.coins:=by
   obtain ⟨j,k,b,f,L,_,_⟩:=t u (List.mem_of_mem_take c);exact (r j b f).least _ (mG L)
  unfold zcj
  cases hc:d[count]? with
  |none=>exact hf
  |some v=>
   obtain ⟨k,B⟩:=List.getElem?_of_mem c;have G:=(gS.1 B).1;rw[List.length_take] at G;rw[List.getElem?_take,if_pos (by omega)] at B;have f:=List.pairwise_iff_getElem.1 A k count (by omega) (gS.1 hc).1 (by omega);rw[(gS.1 B).2,(gS.1 hc).2] at f;unfold leU at f
   show max v.coins fl≤u.coins
   omega
 have T:0≤zcj count fl d:=by
  unfold zcj
  split<;>omega
 obtain ⟨F,N⟩:=nm ((d.take count).filter fun u=>u.bid==(i:Int));have hFl:n=(F.length:Nat):=by rw[hn,N];rfl
 have g:∀u∈F,u∈d.take count∧u.bid=i:=fun u c=>by
  rw[N,List.mem_filter] at c;exact ⟨c.1,by simpa using c.2⟩
 have O:(F.map (·.place)).Nodup:=by
  rw[List.Nodup,List.pairwise_map];have f:F.Pairwise zqS:=by
   rw[N];exact (E.sublist (List.take_sublist _ _)).filter _
  refine List.Pairwise.imp_of_mem ?_ f;intro a b ha M h e;exact h ⟨(g a ha).2.trans (g b M).2.symm,e⟩
 have C:∀u∈F,∃k:Nat,(zar y.offers)[k]? =some u.coins∧u.place=k:=fun u c=>by
  obtain ⟨f,L⟩:=g u c;obtain ⟨j,k,b,K,e2,e3,e4⟩:=t u (List.mem_of_mem_take f);have P:j=i:=by omega
  subst P;rw[M] at K;injection K with K
  exact ⟨k,by rw[K];exact e2,e4⟩
 --one of them is far behind
 have D:∃u∈F,n-1≤u.place:=by
  refine Classical.byContradiction fun S=>?_;have f:∀x∈F.map (fun u=>u.place),0≤x∧x<(((n-1).toNat:Nat):Int):=fun x c=>by
   obtain ⟨u,I,rfl⟩:=List.mem_map.1 c;obtain ⟨k,_,e⟩:=C u I;have:¬n-1≤u.place:=fun h=>S ⟨u,I,h⟩
   omega
  have L:=zfl O f;rw[List.length_map] at L
  omega
 obtain ⟨u,J,hup⟩:=D;obtain ⟨k,B,hpk⟩:=C u J;have G:=(gS.1 B).1;have aa:=zdl y.offers;have c:zcj count fl d≤u.coins:=U u (g u J).1;have o:=zki (r i _ M).falls;refine ⟨T,by omega,?_⟩;have Y:((zar y.offers).take n.toNat).length=n.toNat:=by rw[List.length_take];omega
 have Z:=zl4 (p:=zcj count fl d) (l:=(zar y.offers).take n.toNat) fun x X=>by
  obtain ⟨m,Q⟩:=List.getElem?_of_mem X;have H:=(gS.1 Q).1;rw[Y] at H;rw[List.getElem?_take,if_pos H] at Q;have:=o m k x u.coins (by omega) Q B
  omega
 rw[Y,Int.toNat_of_nonneg (by omega)] at Z;exact Z
theorem zlx (p:Int):∀(xs:List (Stand×Int)),((zaU p xs).map (·.bidder)).Sublist (xs.map (·.1.bidder))
 |[]=>List.Sublist.refl _
 |x::xs=>by
  have ih:=zlx p xs;unfold zaU at ih ⊢;rw[List.filter_cons]
  split
  ·simp only[List.map_cons];exact List.Sublist.cons_cons _ ih
  ·simp only[List.map_cons];exact List.Sublist.cons _ ih
theorem zhe {α β γ:Type} (f:α→γ):∀(a:List α) (b:List β),((a.zip b).map fun x=>f x.1).Sublist (a.map f)
 |[],_=>by simp
 |x::a,[]=>by simp
 |x::a,y::b=>by
  simp only[List.zip_cons_cons,List.map_cons];exact List.Sublist.cons_cons _ (zhe f a b)
theorem zqT {l:LotS} (h:zpr l) (G:(l.stands.map (·.bidder)).Nodup) (F:∀s∈l.stands,s.held=zam (zar s.offers)):SellOk l.stands (zcb l):=by
 obtain ⟨⟨D,E⟩,q,g⟩:=h;refine ⟨G.sublist ((zlx _ _).trans (zhe _ _ _)),fun s j=>?_⟩;unfold zcb zaU at j;obtain ⟨⟨d,n⟩,e,rfl⟩:=List.mem_map.1 j;rw[List.mem_filter] at e;obtain ⟨e,a⟩:=e;have a:0<n:=by simpa using a
 obtain ⟨i,z⟩:=List.getElem?_of_mem e;rw[List.getElem?_zip_eq_some] at z;obtain ⟨f,b⟩:=z;have r:=(gS.1 f).1;have v:=mG f;have m:n=zbV i ((zbh (zbR l.stands)).take l.put.count.toNat):=by
  unfold zeT zcK at b;rw[List.getElem?_map,List.getElem?_range r] at b;injection b with b
  exact b.symm
 have p:((l.put.count.toNat:Nat):Int)=l.put.count:=Int.toNat_of_nonneg (by omega);obtain ⟨A,B,y⟩:=zuV (count:=l.put.count.toNat) q.1 (fun s j=>by rw[p];exact g s j) f m a;have I:∀x∈zar d.offers,0≤x:=fun x e=>by
  have:=(g d v).1;unfold zch at this;unfold zar at e;obtain ⟨o,H,rfl⟩:=List.mem_map.1 e;have k:=List.all_eq_true.1 this o H;unfold zfQ at k;rw[Bool.and_eq_true,zaJ] at k;exact k.2.1
 have t:zam ((zar d.offers).take n.toNat)≤zam (zar d.offers):=by
  have C:=zgv ((zar d.offers).take n.toNat) ((zar d.offers).drop n.toNat);rw[List.take_append_drop] at C;have J:=zwm (l:=(zar d.offers).drop n.toNat) fun x e=>I x (List.mem_of_mem_drop e)
  omega
 refine ⟨d,v,rfl,Int.mul_nonneg A (by omega),?_,.inr ⟨rfl,a,B,?_⟩⟩
 ·show zdS l*n≤d.held
  rw[F d v];exact Int.le_trans y t
 ·show zdS l*n≤zam ((d.offers.take n.toNat).map (·.c))
  rw[List.map_take];exact y
theorem zly:∀(xs:List (Stand×Int×Int)),((xs.flatMap zaT).map (·.bidder)).Sublist (xs.map (·.1.bidder))
 |[]=>List.Sublist.refl _
 |x::xs=>by
  have ih:=zly xs;rw[List.flatMap_cons,List.map_append,List.map_cons];unfold zaT
  split
  ·exact List.Sublist.cons_cons _ ih
  ·exact List.Sublist.cons _ ih
theorem znY {n:Int} {bs:List (List Off)} (f:zak n bs=0) (e:∀l∈bs,∀o∈l,o.wf) {i j:Nat} (h:(zaj n bs)[i]? =some (j:Int)) {l:List Off} {o:Off} (a:bs[i]? =some l) (b:l[j]? =some o):0≤zfS n bs i j∧zfS n bs i j≤o.c:=by
 have d:=(gS.1 a).1;have k:=zqr bs i (allOf n) j l o (fun l a o b=>(e l a o b).1) (zsx f) h a b;have m:=zhK bs i (allOf n);have g:woW n bs i=W (bs.set i []) (allOf n):=by
  unfold woW;rw[if_pos (zha f d),Int.toNat_natCast]
 have p:zfS n bs i j=o.c-(W bs (allOf n)-W (bs.set i []) (allOf n)):=by
  unfold zfS zci;rw[if_neg (by omega),if_neg (by omega),a,g,Int.toNat_natCast,Option.getD_some,b]
  rfl
 omega
theorem zuW {l:LotS} (I:1≤l.put.count∧l.put.count≤10) (n:l.stands.length≤32) (t:∀s∈l.stands,zaA l.put.count s.offers=0) (z:∀s∈l.stands,∀o∈s.offers,o.wf) (K:(l.stands.map (·.bidder)).Nodup) (J:∀s∈l.stands,s.held=zcv s.offers):SellOk l.stands (zcr l):=by
 have C:zak l.put.count (zcq l)=0:=zmA I (by simpa [zcq] using n) fun x h=>by
  unfold zcq at h;obtain ⟨s,d,rfl⟩:=List.mem_map.1 h;exact t s d
 have E:∀x∈zcq l,∀o∈x,o.wf:=fun x h=>by
  unfold zcq at h;obtain ⟨s,d,rfl⟩:=List.mem_map.1 h;exact z s d
 refine ⟨K.sublist ((zly _).trans (zhe _ _ _)),fun s d=>?_⟩;unfold zcr at d;obtain ⟨⟨k,c,y⟩,h,d⟩:=List.mem_flatMap.1 d;unfold zeG at h;obtain ⟨i,p⟩:=List.getElem?_of_mem h;rw[List.getElem?_zip_eq_some,List.getElem?_zip_eq_some] at p;obtain ⟨f,b,a⟩:=p;replace f:l.stands[i]? =some k:=f;replace b:(zaj l.put.count (zcq l))[i]? =some c:=b;replace a:(zf4 l)[i]? =some y:=a;unfold zaT at d
 split at d
 ·rename_i B
  rw[List.mem_singleton] at d;have D:=mG f;have r:(zcq l)[i]? =some k.offers:=by unfold zcq;rw[List.getElem?_map,f];rfl
  rcases zdR _ _ _ _ b with e|⟨j,L,o,e,el,eo⟩
  ·replace B:0≤c:=B
   omega
  ·rw[r] at el;injection el with el
   subst el;subst e;have q:=mG eo;have A:0≤y∧y≤o.c:=by
    unfold zf4 at a
    split at a
    ·have H:=(zjl C E _ lR).1;obtain ⟨Q,F,L,G,m,M,N,O⟩:=zjk H (gS.1 r).1;rw[G] at a;injection a with a
     rw[ziL b] at m;injection m with m
     unfold zci at m;rw[if_neg (by omega),r,Int.toNat_natCast,Option.getD_some,eo] at m;have P:o.c=F:=m
     omega
    ·rw[zmq b] at a;injection a with a
     rw[←a];exact znY C E b r eo
   have v:(((k.offers[(j:Int).toNat]?).map (·.g)).getD 0:Nat)=o.g:=by rw[Int.toNat_natCast,eo];rfl
   subst d;refine ⟨k,D,rfl,A.1,?_,.inl ⟨rfl,o,q,A.2,.inr ?_⟩⟩
   ·show y≤k.held
    rw[J k D];exact Int.le_trans A.2 (zui q)
   ·show (o.g:Int)=((((k.offers[(j:Int).toNat]?).map (·.g)).getD 0:Nat):Int)
    rw[v]
 ·cases d
theorem zok {N:Nat} {l:LotS} (a:LotInv N l) (b:StandInv l) (f:l.closed=false):SellOk l.stands (zav l).2:=by
 unfold zav;have g:=(zb7 a.ok).1;by_cases k1:l.put.kind=1
 ·rw[if_pos k1];exact zta (b.rising k1 f)
 rw[if_neg k1];by_cases k2:l.put.kind=2
 ·rw[if_pos k2];exact SellOk.nil _
 rw[if_neg k2];by_cases k3:l.put.kind=3
 ·rw[if_pos k3];refine zoT ?_ (b.sealed k3);have h:=a.ok;unfold zbT zh8 at h;simp only[Bool.and_eq_true] at h;have c:=h.2;rw[k3,if_neg (by decide),if_neg (by decide),if_pos rfl] at c;unfold zdM at c;simp only[Bool.and_eq_true,decide_eq_true_eq,zaJ] at c;exact c.2.1
 rw[if_neg k3];by_cases k4:l.put.kind=4
 ·rw[if_pos k4];have e:=(zcS a.ok).1 k4;exact zqT ⟨e.1,e.2,a.units k4⟩ a.nodup (b.units k4)
 rw[if_neg k4];have d:l.put.kind=5:=by omega
 exact zuW ((zcS a.ok).2 d) (a.pkg d).1 (a.pkg d).2 b.wf a.nodup (b.pkg d)
end Ho
end Go.Proofs.YthoaidfpgijbfaaGreat

/- Joined by program. -/
import Derived.Lib.SlKeysI
import Derived.Lib.SlMapEqual
import Derived.Maps.Views
import Derived.Maps.Own
set_option linter.all false
namespace Go.Proofs.YtckdpejdnejhfaaGreat
namespace Ac
open Go Go.Maps
abbrev HM:=List (Int×Int)
def zdf (p:Int×Int):Lit×DataW Unit:=(.int .i64 p.1,.lit (.int .i64 p.2))
def dM (M:HM):DataW Unit:=.map (M.map zdf)
def zfe (x:Int×Int):HM→HM
 |[]=>[x]
 |y::r=>if x.1<y.1 then x::y::r else y::zfe x r
def zcl (M:HM) (k:Int):HM:=M.filter fun p=>p.1 !=k
def zfZ (M:HM) (k v:Int):HM:=zfe (k,v) (zcl M k)
def atM (M:HM) (k:Int):Int:=match M.find? (fun p=>p.1==k) with|some p=>p.2|none=>0
def zaq:HM→Int
 |[]=>0
 |p::r=>p.2+zaq r
def zdZ (M:HM) (k v:Int):HM:=if v=0 then zcl M k else zfZ M k v
theorem zlK (x:Int×Int):∀M:HM,DataW.insert (zdf x) (M.map zdf)=(zfe x M).map zdf
 |[]=>rfl
 |y::r=>by
  have ih:=zlK x r;simp only[List.map_cons,DataW.insert,zfe];have hb:((zdf x).1.before (zdf y).1)=decide (x.1<y.1):=rfl;rw[hb];by_cases h:x.1<y.1
  ·simp[h]
  ·simp[h,ih]
theorem zlJ (M:HM) (k:Int):((M.map zdf).filter fun p=>!p.1.sameKey (.int .i64 k))=(zcl M k).map zdf:=by
 unfold zcl;rw[List.filter_map]
 congr 1
 apply List.filter_congr
 intro p _
 simp[zdf,Lit.sameKey,Function.comp,bne]
 by_cases h:p.1=k<;>simp[h]
theorem ztA (M:HM) (k v:Int):(dM M).put (.int .i64 k) (.lit (.int .i64 v))=dM (zfZ M k v):=by
 show DataW.map (DataW.insert _ ((M.map zdf).filter fun p=>!p.1.sameKey (.int .i64 k)))=_
 rw[zlJ];exact congrArg DataW.map (zlK (k,v) (zcl M k))
theorem ztz (M:HM) (k:Int):(dM M).del (.int .i64 k)=dM (zcl M k):=by
 show DataW.map ((M.map zdf).filter fun p=>!p.1.sameKey (.int .i64 k))=_
 rw[zlJ]
 rfl
theorem zkF (k:Int):∀M:HM,(M.map zdf).find? (fun p=>p.1.sameKey (.int .i64 k))=(M.find? (fun p=>p.1==k)).map zdf
 |[]=>rfl
 |y::r=>by
  have ih:=zkF k r;have hs:(zdf y).1.sameKey (.int .i64 k)=(y.1==k):=by
   simp[zdf,Lit.sameKey]
   by_cases h:y.1=k<;>simp[h]
  simp only[List.map_cons,List.find?_cons,hs]
  cases y.1==k with
  |true=>rfl
  |false=>exact ih
theorem zsi (M:HM) (k:Int):(dM M).atKey (.int .i64 k) (.lit (.int .i64 0))=.lit (.int .i64 (atM M k)):=by
 unfold dM DataW.atKey;simp only[];rw[zkF];unfold atM
 cases M.find? (fun p=>p.1==k) with
 |none=>rfl
 |some p=>rfl
theorem zsu (M:HM):intKeys (dM M)=M.map (·.1):=by
 show (M.map zdf).map (fun p=>intOf p.1)=_
 rw[List.map_map]
 rfl
theorem zmZ (M:HM):Maps.size (dM M)=M.length:=by simp[dM,Maps.size]
theorem zfE (x:Int×Int):∀M:HM,(zfe x M).Perm (x::M)
 |[]=>List.Perm.refl _
 |y::r=>by
  unfold zfe
  split
  ·exact List.Perm.refl _
  ·exact ((zfE x r).cons y).trans (List.Perm.swap x y r)
theorem zbm (x:Int×Int) (M:HM):zaq (x::M)=x.2+zaq M:=rfl
theorem zrW {l l':HM} (h:l.Perm l'):zaq l=zaq l':=by
 induction h with
 |nil=>rfl
 |cons x _ ih=>rw[zbm,zbm,ih]
 |swap x y l=>rw[zbm,zbm,zbm,zbm];omega
 |trans _ _ h1 h2=>exact h1.trans h2
def zbk (M:HM):Prop:=M.Pairwise fun p q=>p.1<q.1
theorem zlD {M:HM} {k:Int} (h:∀p∈M,p.1≠k):zcl M k=M:=List.filter_eq_self.2 fun p hp=>by simpa using h p hp
theorem zgd:∀{M:HM} (k:Int),zbk M→zaq (zcl M k)+atM M k=zaq M
 |[],k,_=>rfl
 |y::r,k,h=>by
  obtain ⟨h1,h2⟩:=List.pairwise_cons.1 h;by_cases hy:y.1=k
  ·have hn:∀p∈r,p.1≠k:=fun p hp=>by have:=h1 p hp;omega
   have e1:zcl (y::r) k=r:=by
    have:zcl (y::r) k=zcl r k:=by simp[zcl,hy]
    rw[this,zlD hn]
   have a:atM (y::r) k=y.2:=by simp[atM,List.find?_cons,hy]
   rw[e1,a,zbm]
   omega
  ·have b:=zgd (M:=r) k h2;have e1:zcl (y::r) k=y::zcl r k:=by simp[zcl,hy]
   have a:atM (y::r) k=atM r k:=by simp[atM,List.find?_cons,hy]
   rw[e1,a,zbm,zbm]
   omega
theorem zti {M:HM} (k v:Int) (h:zbk M):zaq (zfZ M k v)=zaq M-atM M k+v:=by
 unfold zfZ;rw[zrW (zfE _ _),zbm];have:=zgd k h;simp only
 omega
theorem zno {M:HM} (k v:Int) (h:zbk M):zaq (zdZ M k v)=zaq M-atM M k+v:=by
 unfold zdZ
 split
 ·have:=zgd k h
  omega
 ·exact zti k v h
theorem zgG {M:HM} (k:Int) (h:zbk M):zbk (zcl M k):=h.filter _
theorem zjM {x:Int×Int}:∀{M:HM},zbk M→(∀p∈M,p.1≠x.1)→zbk (zfe x M)
 |[],_,_=>by simp[zfe,zbk]
 |y::r,h,hn=>by
  obtain ⟨h1,h2⟩:=List.pairwise_cons.1 h;unfold zfe
  split
  ·rename_i hlt
   refine List.pairwise_cons.2 ⟨fun p hp=>?_,h⟩
   rcases List.mem_cons.1 hp with rfl|hp
   ·exact hlt
   ·have:=h1 p hp
    omega
  ·rename_i hlt
   have hy:=hn y (by simp);refine List.pairwise_cons.2 ⟨fun p hp=>?_,zjM h2 (fun p hp=>hn p (by simp[hp]))⟩
   rcases List.mem_cons.1 ((zfE x r).mem_iff.1 hp) with rfl|hp
   ·omega
   ·exact h1 p hp
theorem zoj {M:HM} (k v:Int) (h:zbk M):zbk (zfZ M k v):=zjM (zgG k h) fun p hp=>by
 have:=(List.mem_filter.1 hp).2
 simpa using this
theorem zjN {M:HM} (k v:Int) (h:zbk M):zbk (zdZ M k v):=by
 unfold zdZ
 split
 ·exact zgG k h
 ·exact zoj k v h
end Ac
end Go.Proofs.YtckdpejdnejhfaaGreat

/- Joined by program: AccP. -/
import Derived.Lib.SlKeysI
import Derived.Lib.SlMapEqual
import Derived.Maps.Views
import Derived.Maps.Own
set_option linter.all false
namespace Go.Proofs.YthoaidfpgijbfaaGreat
namespace Ac
open Go Go.Maps
abbrev HM:=List (Int×Int)
def zcW (p:Int×Int):Lit×DataW Unit:=(.int .i64 p.1,.lit (.int .i64 p.2))
def dM (M:HM):DataW Unit:=.map (M.map zcW)
def zdd (x:Int×Int):HM→HM
 |[]=>[x]
 |y::r=>if x.1<y.1 then x::y::r else y::zdd x r
def zbl (M:HM) (k:Int):HM:=M.filter fun p=>p.1 !=k
def zg4 (M:HM) (k v:Int):HM:=zdd (k,v) (zbl M k)
def atM (M:HM) (k:Int):Int:=match M.find? (fun p=>p.1==k) with|some p=>p.2|none=>0
def zas:HM→Int
 |[]=>0
 |p::r=>p.2+zas r
def zc5 (M:HM) (k v:Int):HM:=if v=0 then zbl M k else zg4 M k v
theorem znm (x:Int×Int):∀M:HM,DataW.insert (zcW x) (M.map zcW)=(zdd x M).map zcW
 |[]=>rfl
 |y::r=>by
  have ih:=znm x r;simp only[List.map_cons,DataW.insert,zdd];have hb:((zcW x).1.before (zcW y).1)=decide (x.1<y.1):=rfl;rw[hb];by_cases h:x.1<y.1
  ·simp[h]
  ·simp[h,ih]
theorem znn (M:HM) (k:Int):((M.map zcW).filter fun p=>!p.1.sameKey (.int .i64 k))=(zbl M k).map zcW:=by
 unfold zbl;rw[List.filter_map]
 congr 1
 apply List.filter_congr
 intro p _
 simp[zcW,Lit.sameKey,Function.comp,bne]
 by_cases h:p.1=k<;>simp[h]
theorem zws (M:HM) (k v:Int):(dM M).put (.int .i64 k) (.lit (.int .i64 v))=dM (zg4 M k v):=by
 show DataW.map (DataW.insert _ ((M.map zcW).filter fun p=>!p.1.sameKey (.int .i64 k)))=_
 rw[znn];exact congrArg DataW.map (znm (k,v) (zbl M k))
theorem zwt (M:HM) (k:Int):(dM M).del (.int .i64 k)=dM (zbl M k):=by
 show DataW.map ((M.map zcW).filter fun p=>!p.1.sameKey (.int .i64 k))=_
 rw[znn]
 rfl
theorem zif (k:Int):∀M:HM,(M.map zcW).find? (fun p=>p.1.sameKey (.int .i64 k))=(M.find? (fun p=>p.1==k)).map zcW
 |[]=>rfl
 |y::r=>by
  have ih:=zif k r;have hs:(zcW y).1.sameKey (.int .i64 k)=(y.1==k):=by
   simp[zcW,Lit.sameKey]
   by_cases h:y.1=k<;>simp[h]
  simp only[List.map_cons,List.find?_cons,hs]
  cases y.1==k with
  |true=>rfl
  |false=>exact ih
theorem zve (M:HM) (k:Int):(dM M).atKey (.int .i64 k) (.lit (.int .i64 0))=.lit (.int .i64 (atM M k)):=by
 unfold dM DataW.atKey;simp only[];rw[zif];unfold atM
 cases M.find? (fun p=>p.1==k) with
 |none=>rfl
 |some p=>rfl
theorem zvl (M:HM):intKeys (dM M)=M.map (·.1):=by
 show (M.map zcW).map (fun p=>intOf p.1)=_
 rw[List.map_map]
 rfl
theorem zi5 (M:HM):Maps.size (dM M)=M.length:=by simp[dM,Maps.size]
theorem zgI (x:Int×Int):∀M:HM,(zdd x M).Perm (x::M)
 |[]=>List.Perm.refl _
 |y::r=>by
  unfold zdd
  split
  ·exact List.Perm.refl _
  ·exact ((zgI x r).cons y).trans (List.Perm.swap x y r)
theorem zbK (x:Int×Int) (M:HM):zas (x::M)=x.2+zas M:=rfl
theorem ztD {l l':HM} (h:l.Perm l'):zas l=zas l':=by
 induction h with
 |nil=>rfl
 |cons x _ ih=>rw[zbK,zbK,ih]
 |swap x y l=>rw[zbK,zbK,zbK,zbK];omega
 |trans _ _ h1 h2=>exact h1.trans h2
def zaR (M:HM):Prop:=M.Pairwise fun p q=>p.1<q.1
theorem zno {M:HM} {k:Int} (h:∀p∈M,p.1≠k):zbl M k=M:=List.filter_eq_self.2 fun p hp=>by simpa using h p hp
theorem zfZ:∀{M:HM} (k:Int),zaR M→zas (zbl M k)+atM M k=zas M
 |[],k,_=>rfl
 |y::r,k,h=>by
  obtain ⟨h1,h2⟩:=List.pairwise_cons.1 h;by_cases hy:y.1=k
  ·have hn:∀p∈r,p.1≠k:=fun p hp=>by have:=h1 p hp;omega
   have e1:zbl (y::r) k=r:=by
    have:zbl (y::r) k=zbl r k:=by simp[zbl,hy]
    rw[this,zno hn]
   have a:atM (y::r) k=y.2:=by simp[atM,List.find?_cons,hy]
   rw[e1,a,zbK]
   omega
  ·have b:=zfZ (M:=r) k h2;have e1:zbl (y::r) k=y::zbl r k:=by simp[zbl,hy]
   have a:atM (y::r) k=atM r k:=by simp[atM,List.find?_cons,hy]
   rw[e1,a,zbK,zbK]
   omega
theorem zvm {M:HM} (k v:Int) (h:zaR M):zas (zg4 M k v)=zas M-atM M k+v:=by
 unfold zg4;rw[ztD (zgI _ _),zbK];have:=zfZ k h;simp only
 omega
theorem zlE {M:HM} (k v:Int) (h:zaR M):zas (zc5 M k v)=zas M-atM M k+v:=by
 unfold zc5
 split
 ·have:=zfZ k h
  omega
 ·exact zvm k v h
theorem zfB {M:HM} (k:Int) (h:zaR M):zaR (zbl M k):=h.filter _
theorem zkK {x:Int×Int}:∀{M:HM},zaR M→(∀p∈M,p.1≠x.1)→zaR (zdd x M)
 |[],_,_=>by simp[zdd,zaR]
 |y::r,h,hn=>by
  obtain ⟨h1,h2⟩:=List.pairwise_cons.1 h;unfold zdd
  split
  ·rename_i hlt
   refine List.pairwise_cons.2 ⟨fun p hp=>?_,h⟩
   rcases List.mem_cons.1 hp with rfl|hp
   ·exact hlt
   ·have:=h1 p hp
    omega
  ·rename_i hlt
   have hy:=hn y (by simp);refine List.pairwise_cons.2 ⟨fun p hp=>?_,zkK h2 (fun p hp=>hn p (by simp[hp]))⟩
   rcases List.mem_cons.1 ((zgI x r).mem_iff.1 hp) with rfl|hp
   ·omega
   ·exact h1 p hp
theorem zpG {M:HM} (k v:Int) (h:zaR M):zaR (zg4 M k v):=zkK (zfB k h) fun p hp=>by
 have:=(List.mem_filter.1 hp).2
 simpa using this
theorem zkL {M:HM} (k v:Int) (h:zaR M):zaR (zc5 M k v):=by
 unfold zc5
 split
 ·exact zfB k h
 ·exact zpG k v h
theorem zmX (M:HM) (k:Int):(zbl M k).find? (fun p=>p.1==k)=none:=by
 rw[List.find?_eq_none];intro p a;have:=(List.mem_filter.1 a).2
 simpa using this
theorem zeK {j k:Int} (a:j≠k):∀M:HM,(zbl M k).find? (fun p=>p.1==j)=M.find? (fun p=>p.1==j)
 |[]=>rfl
 |y::r=>by
  have ih:=zeK a r;by_cases hy:y.1=k
  ·have e1:zbl (y::r) k=zbl r k:=by simp[zbl,hy]
   have b:(y.1==j)=false:=by simp;omega
   rw[e1,ih,List.find?_cons,b]
  ·have e1:zbl (y::r) k=y::zbl r k:=by simp[zbl,hy]
   rw[e1,List.find?_cons,List.find?_cons,ih]
theorem zhX {k v:Int}:∀{M:HM},(∀p∈M,p.1≠k)→(zdd (k,v) M).find? (fun p=>p.1==k)=some (k,v)
 |[],_=>by simp[zdd]
 |y::r,hn=>by
  unfold zdd
  split
  ·simp[List.find?_cons]
  ·have hy:=hn y (by simp);have:(y.1==k)=false:=by simpa using hy
   rw[List.find?_cons,this];exact zhX fun p a=>hn p (by simp[a])
theorem zhi {j k v:Int} (a:j≠k):∀M:HM,(zdd (k,v) M).find? (fun p=>p.1==j)=M.find? (fun p=>p.1==j)
 |[]=>by
  have:(k==j)=false:=by simp;omega
  simp[zdd,this]
 |y::r=>by
  have b:(k==j)=false:=by simp;omega
  unfold zdd
  split
  ·rw[List.find?_cons,b]
  ·rw[List.find?_cons,List.find?_cons,zhi a r]
theorem zdZ (M:HM) (k v:Int):atM (zc5 M k v) k=v:=by
 unfold atM;by_cases h:v=0
 ·have e:zc5 M k v=zbl M k:=if_pos h;rw[e,zmX,h]
 ·have e:zc5 M k v=zdd (k,v) (zbl M k):=if_neg h;rw[e,zhX fun p a=>by have:=(List.mem_filter.1 a).2;simpa using this]
theorem zdC {M:HM} {j k:Int} (v:Int) (a:j≠k):atM (zc5 M k v) j=atM M j:=by
 unfold atM;by_cases h:v=0
 ·have e:zc5 M k v=zbl M k:=if_pos h;rw[e,zeK a]
 ·have e:zc5 M k v=zdd (k,v) (zbl M k):=if_neg h;rw[e,zhi a,zeK a]
end Ac
end Go.Proofs.YthoaidfpgijbfaaGreat

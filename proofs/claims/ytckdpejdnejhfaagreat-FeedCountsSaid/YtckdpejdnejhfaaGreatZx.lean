/- Joined by program. -/
import Derived.Test.YtckdpejdnejhfaaGreatZw
import Derived.Deep.OwnRows
set_option linter.all false
set_option maxRecDepth 100000
set_option maxHeartbeats 32000000
namespace Go.Proofs.YtckdpejdnejhfaaGreat
open Lib (hid)
namespace Ho
open Go.RowKit Vb Ac
def za6 (l:List Int):List Value:=l.map (Value.int .i64)
theorem zht {w:World} {R:Nat→Prop} {A:Option Addr} {n c k:Nat} {l:List Int} {x:Int} (h:Sl w R (.slice A n c) n 1 (za6 l)) (g:l[k]? =some x) (p:k<n):
  ∃b off,A=some ⟨b,off,none⟩∧b<w.heap.size∧w.cell? ⟨b,off+k,none⟩=some ↑x:=by
 obtain ⟨o,j,m,i,_,_,f⟩:=h;injection i with a _ _
 subst a;obtain ⟨b,off,a,_,e,d⟩:=f (by omega);exact ⟨b,off,a,e,d k _ (by simp[za6,g])⟩
def zdj:Int→List Int→Bool
 |_,[]=>true
 |last,c::r=>zae c&&decide (c≤last)&&zdj c r
def zc9 (b:List Int) (k:Nat):Int:=if k=0 then 1099511627776 else (b[k-1]?).getD 0
theorem zn0 {b:List Int} {k:Nat} {c:Int} (h:b[k]? =some c):zc9 b (k+1)=c:=by simp[zc9,h]
theorem zmB {b:List Int} {k:Nat} {c:Int} (h:b[k]? =some c):zdj (zc9 b k) (b.drop k)=(zae c&&decide (c≤zc9 b k)&&zdj (zc9 b (k+1)) (b.drop (k+1))):=by
 have a:=(gS.1 h).1;rw[List.drop_eq_getElem_cons a,(gS.1 h).2,zn0 h]
 rfl
theorem zji:∀{last:Int} {b:List Int},zdj last b=true→(∀c∈b,zah c∧c≤last)∧b.Pairwise fun x y=>y≤x
 |_,[],_=>⟨fun c h=>(by cases h),.nil⟩
 |last,c::r,h=>by
  simp only[zdj,Bool.and_eq_true,decide_eq_true_eq,zaK] at h;obtain ⟨h1,h2⟩:=zji h.2;refine ⟨fun x hx=>?_,List.pairwise_cons.2 ⟨fun x hx=>(h1 x hx).2,h2⟩⟩
  rcases List.mem_cons.1 hx with rfl|hx
  ·exact h.1
  ·exact ⟨(h1 x hx).1,Int.le_trans (h1 x hx).2 h.1.2⟩
def zdz (count fl:Int) (b:List Int):Bool:=decide (1≤count)&&decide (count≤64)&&zae fl&&decide (1≤b.length)&&decide ((b.length:Int)≤count)&&zdj 1099511627776 b
def zcB (count fl:Int) (b:List Int):Int:=if zdz count fl b=false then 2 else if (b.getLast?).getD 0<fl then 7 else 0
structure UnitOk (count fl:Int) (b:List Int):Prop where
 cnt:1≤count∧count≤64
 floor:zah fl
 len:1≤b.length∧(b.length:Int)≤count
 coins:∀c∈b,zah c
 falls:b.Pairwise fun x y=>y≤x
 least:∀c∈b,fl≤c
theorem zs7 {b:List Int} (h:b.Pairwise fun x y=>y≤x):∀c∈b,(b.getLast?).getD 0≤c:=fun c hc=>by
 obtain ⟨k,hk⟩:=List.getElem?_of_mem hc;have hl:=(gS.1 hk).1;rw[List.getLast?_eq_getElem?]
 rcases Nat.lt_or_ge k (b.length-1) with h2|h2
 ·have h3:=List.pairwise_iff_getElem.1 h k (b.length-1) hl (by omega) h2;rw[gE (show b.length-1<b.length by omega),Option.getD_some];rw[(gS.1 hk).2] at h3;exact h3
 ·rw[show b.length-1=k by omega,hk];exact Int.le_refl _
theorem zc4 {count fl:Int} {b:List Int} (h:zcB count fl b=0):UnitOk count fl b:=by
 unfold zcB at h
 split at h
 ·cases h
 ·rename_i a
  simp only[Bool.not_eq_false] at a;unfold zdz at a;simp only[Bool.and_eq_true,decide_eq_true_eq,zaK] at a;obtain ⟨⟨⟨⟨⟨f,g⟩,i⟩,j⟩,k⟩,l⟩:=a;obtain ⟨m,e⟩:=zji l
  split at h
  ·cases h
  ·exact ⟨⟨f,g⟩,i,⟨j,k⟩,fun c d=>(m c d).1,e,fun c d=>by have:=zs7 e c d;omega⟩
theorem zl8 {b:List Int} (h:b.Pairwise fun x y=>y≤x):zi4 b:=fun j k x y hjk hj hk=>by
 have lj:=gS.1 hj;have lk:=gS.1 hk
 rcases Nat.lt_or_ge j k with h2|h2
 ·have:=List.pairwise_iff_getElem.1 h j k lj.1 lk.1 h2;rw[lj.2,lk.2] at this;exact this
 ·obtain rfl:j=k:=by omega
  rw[hj] at hk
  cases hk
  exact Int.le_refl _
theorem zgL (t:Int) (w:World):Calls Tryz.prog 266 #[t] w fun e w'=>e=.returned ↑(zae t:Bool)∧w'=w:=by
 by_cases h1:0≤t
 ·by_cases h2:t≤1099511627776
  ·go_enter Tryz.func266,Tryz.ntmps266
   go_wp2
   go_ret;exact ⟨by simp[zae,h1,h2],rfl⟩
  ·go_enter Tryz.func266,Tryz.ntmps266
   go_wp2
   go_ret;exact ⟨by simp[zae,h1,h2],rfl⟩
 ·go_enter Tryz.func266,Tryz.ntmps266
  go_wp2
  go_ret;exact ⟨by simp[zae];omega,rfl⟩
theorem zmT (count fl:Int) {b:List Int} {W:World} {R:Nat→Prop} {A:Option Addr} {c:Nat} (q:Sl W R (.slice A b.length c) b.length 1 (za6 b)) (G:b.length≤1099511627776):
  Calls Tryz.prog 263 #[count,fl,.slice A b.length c] W fun e W'=>e=.returned ↑(zdz count fl b:Bool)∧W'=W:=by
 obtain ⟨z,f⟩:=nm (zdz count fl b);rw[←f];unfold zdz at f;obtain ⟨n,p⟩:=nm (b.length);rw[←p] at q f G ⊢;have s:=hid q;have o:=hid p;clear q p;by_cases h1:count<1
 ·have d:=hid (show z=false from f.trans (by simp[show ¬1≤count by omega]));clear f;go_enter Tryz.func263,Tryz.ntmps263;go_wp2_with fail
  go_ret;exact ⟨by rw[d.out];first|rfl|simp[*],rfl⟩
 by_cases h2:64<count
 ·have d:=hid (show z=false from f.trans (by simp[show ¬count≤64 by omega]));clear f;go_enter Tryz.func263,Tryz.ntmps263;go_wp2_with fail
  go_ret;exact ⟨by rw[d.out];first|rfl|simp[*],rfl⟩
 have L:1≤count:=by omega
 have M:count≤64:=by omega
 have E:decide (count>64)=false:=decide_eq_false (by omega);go_enter Tryz.func263,Tryz.ntmps263;go_wp2_with fail
 refine (zgL fl _).mono ?_;rintro e v ⟨rfl,rfl⟩
 cases h3:zae fl with
 |false=>
  have d:=hid (show z=false from f.trans (by simp[h3]));clear f;go_wp2_with fail
  go_ret;exact ⟨by rw[d.out];first|rfl|simp[*],rfl⟩
 |true=>
 by_cases h4:(n:Int)<1
 ·have d:=hid (show z=false from f.trans (by simp[show ¬1≤n by omega]));clear f;go_wp2_with fail
  go_ret;exact ⟨by rw[d.out];first|rfl|simp[*],rfl⟩
 by_cases h5:count<(n:Int)
 ·have d:=hid (show z=false from f.trans (by simp[show ¬(n:Int)≤count by omega]));clear f;go_wp2_with fail
  go_ret;exact ⟨by rw[d.out];first|rfl|simp[*],rfl⟩
 have F:decide ((n:Int)>count)=false:=decide_eq_false (by omega);have C:=hid (show z=zdj (zc9 b 0) (b.drop 0) from f.trans (by simp[L,M,h3,show 1≤n by omega,show (n:Int)≤count by omega,zc9]));clear f;go_wp2_with fail
 clear E F;have B:=hid (show n≤64 by omega)
 go_loopw [33] (fun i wr=>∃k:Nat,k≤n∧i=.int .i64 k∧z=zdj (zc9 b k) (b.drop k)∧wr=v) (fun i _=>n-(intOf i).toNat)
 case atStart=>exact ⟨0,zL,rfl,C.out,rfl⟩
 case round=>
  obtain ⟨k,X,rfl,g,rfl⟩:=hrel;by_cases hlt:k<n
  ·obtain ⟨x,m⟩:∃x,b[k]? =some x:=⟨_,gE (by rw[←o.out];exact hlt)⟩;obtain ⟨P,N,rfl,H,I⟩:=zht s.out m hlt;have Q:(0:Int)≤(k:Int):=by omega
   have S:(k:Int)<(n:Int):=by omega
   have Y:IntKind.i64.wrap ((k:Int)+1)=(k:Int)+1:=iW _ (by omega);have a:=g.trans (zmB m);have O:=hid m;clear m g;go_wp2_with fail
   refine (zgL x _).mono ?_;rintro e v ⟨rfl,rfl⟩
   cases h6:zae x with
   |false=>
    have d:=hid (show z=false from a.trans (by simp[h6]));clear a;go_wp2_with fail
    go_ret;exact ⟨by rw[d.out];first|rfl|simp[*],rfl⟩
   |true=>
    rcases Nat.eq_zero_or_pos k with hk0|hk0
    ·subst hk0;have h:=hid (show z=zdj (zc9 b (0+1)) (b.drop (0+1)) from a.trans (by
      have:=(zaK.1 h6).2
      simp[h6,show x≤zc9 b 0 from this]))
     clear a;go_wp2_with fail
     go_roundw
     case rel=>exact ⟨0+1,by omega,by go_num,h.out,by trivial⟩
     case measure=>simp[intOf];omega
    ·obtain ⟨y,r⟩:∃y,b[k-1]? =some y:=⟨_,gE (by rw[←o.out];omega)⟩;obtain ⟨D,t,j,_,J⟩:=zht s.out r (by omega);injection j with j
     injection j with hA1 hA2 _
     subst hA1 hA2;have l:zc9 b k=y:=by unfold zc9;rw[if_neg (by omega),r];rfl
     have K:IntKind.i64.wrap ((k:Int)-1)=((k-1:Nat):Int):=by rw[iW _ (by omega)];omega
     have T:(0:Int)<(k:Int):=by omega
     have U:(0:Int)≤((k-1:Nat):Int):=by omega
     have V:((k-1:Nat):Int)<(n:Int):=by omega
     rw[l] at a;clear r;by_cases h7:y<x
     ·have d:=hid (show z=false from a.trans (by simp[show ¬x≤y by omega]));clear a l;go_wp2_with fail
      go_ret;exact ⟨by rw[d.out];first|rfl|simp[*],rfl⟩
     ·have h:=hid (show z=zdj (zc9 b (k+1)) (b.drop (k+1)) from a.trans (by simp[h6,show x≤y by omega]));clear a l;go_wp2_with fail
      go_roundw
      case rel=>exact ⟨k+1,by omega,by go_num,h.out,by trivial⟩
      case measure=>simp[intOf];omega
  ·obtain rfl:k=n:=by omega
   have d:=hid (show z=true from g.trans (by rw[List.drop_eq_nil_of_le (by rw[←o.out];exact lR)];rfl));clear g;go_wp2_with fail
   go_ret;exact ⟨by rw[d.out];first|rfl|simp[*],rfl⟩
theorem zeW (count fl:Int) {b:List Int} {W:World} {R:Nat→Prop} {A:Option Addr} {c:Nat} (j:Sl W R (.slice A b.length c) b.length 1 (za6 b)) (p:b.length≤1099511627776):
  Calls Tryz.prog 261 #[count,fl,.slice A b.length c] W fun e W'=>e=.returned ↑(zcB count fl b:Int)∧W'=W:=by
 have k:=hid (zmT count fl j p);obtain ⟨z,d⟩:=nm (zcB count fl b);rw[←d];unfold zcB at d;have a:zdz count fl b=true→1≤b.length:=fun h=>by
  unfold zdz at h;simp only[Bool.and_eq_true,decide_eq_true_eq] at h;exact h.1.1.2
 obtain ⟨f,q⟩:=nm (zdz count fl b);rw[←q] at d k a;obtain ⟨n,l⟩:=nm (b.length);rw[←l] at j k p a ⊢;have r:=hid j;have o:=hid l;clear j l q;go_enter Tryz.func261,Tryz.ntmps261;go_wp2_with fail
 refine k.out.mono ?_;rintro e F ⟨rfl,rfl⟩
 cases f with
 |false=>
  have g:=hid (show z=2 from d.trans (if_pos rfl));clear d;go_wp2_with fail
  go_ret;exact ⟨by rw[g.out];first|rfl|simp[*],rfl⟩
 |true=>
  have v:=a rfl;rw[if_neg (by decide)] at d;obtain ⟨y,m⟩:∃y,b[n-1]? =some y:=⟨_,gE (by rw[←o.out];omega)⟩;obtain ⟨C,B,rfl,s,t⟩:=zht r.out m (by omega);have i:(b.getLast?).getD 0=y:=by rw[List.getLast?_eq_getElem?,←o.out,m];rfl
  rw[i] at d;have x:IntKind.i64.wrap ((n:Int)-1)=((n-1:Nat):Int):=by rw[iW _ (by omega)];omega
  have D:(0:Int)≤((n-1:Nat):Int):=by omega
  have E:((n-1:Nat):Int)<(n:Int):=by omega
  clear m i;by_cases h7:y<fl
  ·have g:=hid (show z=7 from d.trans (if_pos h7));clear d a;go_wp2_with fail
   go_ret;exact ⟨by rw[g.out];first|rfl|simp[*],rfl⟩
  ·have g:=hid (show z=0 from d.trans (if_neg h7));clear d a;go_wp2_with fail
   go_ret;exact ⟨by rw[g.out];first|rfl|simp[*],rfl⟩
def zbD (vo:Nat→Value) (n:Nat):List Value:=(List.range n).map vo
theorem zrJ {vo:Nat→Value} {n k:Nat} (h:k<n):(zbD vo n)[k]? =some (vo k):=by simp[zbD,h]
structure BidsAt (W:World) (R:Nat→Prop) (v:Value) (vo:Nat→Value) (bids:List (List Int)):Prop where
 row:Sl W R v bids.length 1 (zbD vo bids.length)
 each:∀k b,bids[k]? =some b→Sl W R (vo k) b.length 1 (za6 b)
theorem BidsAt.grow {W W':World} {R:Nat→Prop} {v:Value} {vo:Nat→Value} {bids:List (List Int)} (h:BidsAt W R v vo bids) (hb:Below W W W'):BidsAt W' R v vo bids:=⟨h.row.grow hb,fun k b hk=>(h.each k b hk).grow hb⟩
theorem zhX {W:World} {R:Nat→Prop} {v:Value} {n sz:Nat} {xs:List Value} (h:Sl W R v n sz xs):∃A c,v=.slice A n c:=by
 obtain ⟨_,A,c,a,_⟩:=h;exact ⟨A,c,a⟩
theorem znl {w:World} {R:Nat→Prop} {A:Option Addr} {n c k:Nat} {vo:Nat→Value} (h:Sl w R (.slice A n c) n 1 (zbD vo n)) (g:k<n):
  ∃b off,A=some ⟨b,off,none⟩∧b<w.heap.size∧w.cell? ⟨b,off+k,none⟩=some (vo k):=by
 obtain ⟨m,j,l,i,_,_,f⟩:=h;injection i with a _ _
 subst a;obtain ⟨b,off,a,_,e,d⟩:=f (by omega);exact ⟨b,off,a,e,d k _ (zrJ g)⟩
theorem ziw {count fl:Int} {bids:List (List Int)} {W:World} {R:Nat→Prop} {A:Option Addr} {c:Nat} {vo:Nat→Value} (j:BidsAt W R (.slice A bids.length c) vo bids) (m:1≤count∧count≤64) (r:zah fl) (B:bids.length≤4096) (t:∀b∈bids,zcB count fl b=0):
  Calls Tryz.prog 264 #[count,fl,.slice A bids.length c] W fun e W'=>e=.returned ↑()∧W'=W:=by
 obtain ⟨n,d⟩:=nm (bids.length);have h:=j;rw[←d] at h B ⊢;have y:=hid (d▸j.row);have v:=hid j;have x:=hid d;have q:=hid t;have p:=zaK.2 r;have P:¬count<1:=by omega
 have Q:¬count>64:=by omega
 have S:¬(n:Int)>4096:=by omega
 have C:=m.1;have D:=m.2;have E:(n:Int)≤4096:=by omega
 clear j h d t r m;go_enter Tryz.func264,Tryz.ntmps264;go_wp2_with fail
 refine (zgL fl _).mono ?_;rintro e H ⟨rfl,rfl⟩;rw[p];go_wp2_with fail
 go_loopw [7,29] (fun F i wr=>∃k:Nat,k≤n∧F=.int .i64 0∧i=.int .i64 k∧wr=H) (fun _ i _=>n-(intOf i).toNat)
 case atStart=>exact ⟨0,zL,rfl,rfl,rfl⟩
 case round=>
  obtain ⟨k,N,rfl,rfl,rfl⟩:=hrel;by_cases hlt:k<n
  ·obtain ⟨b,l⟩:∃b,bids[k]? =some b:=⟨_,gE (by rw[←x.out];exact hlt)⟩;obtain ⟨J,G,rfl,z,o⟩:=znl y.out hlt;have f:=v.out.each k b l;obtain ⟨I,K,s⟩:=zhX f;rw[s] at f o;have a:=zeW count fl f (by have:=(zc4 (q.out b (mG l))).len;omega);rw[q.out b (mG l)] at a;have g:=hid a;have L:(0:Int)≤(k:Int):=by omega
   have M:(k:Int)<(n:Int):=by omega
   have O:IntKind.i64.wrap ((k:Int)+1)=(k:Int)+1:=iW _ (by omega);clear l f s a;go_wp2_with fail
   refine g.out.mono ?_;rintro e T ⟨rfl,rfl⟩;go_wp2_with fail
   go_roundw
   case rel=>exact ⟨k+1,by omega,rfl,by go_num,by trivial⟩
   case measure=>simp[intOf];omega
  ·obtain rfl:k=n:=by omega
   go_wp2_with fail
   go_ret;exact ⟨rfl,rfl⟩
def zod (g10 g7:Nat):Value:=.func (.func 267) #[] #[.pointer (some ⟨g10,0,none⟩),.pointer (some ⟨g7,0,none⟩)]
structure OrdAt (W:World) (X:Nat→Prop) (g10 g7:Nat) (bids:List (List Int)):Prop where
 ok:Ac.Blk W g10 4 #[.bool true]
 box:∃g vo,Ac.Blk W g7 344 #[.slice (some ⟨g,0,none⟩) bids.length bids.length]∧Ac.Blk W g 340 (zbD vo bids.length).toArray∧X g∧∀k b,bids[k]? =some b→Sl W X (vo k) b.length 1 (za6 b)
 inX:X g10∧X g7
theorem OrdAt.same {W W':World} {X:Nat→Prop} {a d:Nat} {bids:List (List Int)} (h:OrdAt W X a d bids) (m:W.heap.size≤W'.heap.size) (c:∀b,b<W.heap.size→X b→W'.heap[b]? =W.heap[b]?):OrdAt W' X a d bids:=by
 obtain ⟨g,n,e,f,i,j⟩:=h.box;exact ⟨(c _ h.ok.lt h.inX.1).trans h.ok,⟨g,n,(c _ e.lt h.inX.2).trans e,(c _ f.lt i).trans f,i,fun k b l=>(j k b l).keep m c⟩,h.inX⟩
theorem OrdAt.mono {W:World} {X Y:Nat→Prop} {a d:Nat} {bids:List (List Int)} (h:OrdAt W X a d bids) (c:∀b,b<W.heap.size→X b→Y b):OrdAt W Y a d bids:=by
 obtain ⟨g,m,e,f,i,j⟩:=h.box;exact ⟨h.ok,⟨g,m,e,f,c _ f.lt i,fun k b l=>(j k b l).mono c⟩,c _ h.ok.lt h.inX.1,c _ e.lt h.inX.2⟩
theorem zmQ (n:Nat):madeCells #[.slice none 0 0] n=(zbD (fun _=>.slice none 0 0) n).toArray:=by
 apply Array.ext
 ·simp[madeCells,zbD]
 ·intro i a b
  simp[madeCells,zbD,Nat.mod_one]
theorem zpR {vo:Nat→Value} {n k:Nat} (v:Value):(zbD vo n).toArray.setIfInBounds k v=(zbD (fun j=>if j=k then v else vo j) n).toArray:=by
 apply Array.ext
 ·simp[zbD]
 ·intro i a b
  simp[zbD,List.getElem_set,eq_comm]
theorem zoU:zbg Tryz.prog 340 2 1 8:=zba Tryz.underlying340 (by omega) (z:=.int .i64 0) (by kernel_rfl) rfl
theorem zru (l:List Int):∀u∈za6 l,u.oneCell'=true:=fun u hu=>by
 obtain ⟨x,_,rfl⟩:=List.mem_map.1 hu
 rfl
theorem zoz {count fl:Int} {bids:List (List Int)} {W:World} {R:Nat→Prop} {A:Option Addr} {c:Nat} {vo:Nat→Value} (O:BidsAt W R (.slice A bids.length c) vo bids) (hc:1≤count∧count≤64) (hf:zah fl) (hn:bids.length≤4096) (hz:∀b∈bids,zcB count fl b=0):
  Calls Tryz.prog 265 #[count,fl,.slice A bids.length c] W fun e W'=>∃g10 g7,e=.returned (zod g10 g7)∧OrdAt W' (fun b=>W.heap.size≤b) g10 g7 bids∧Below W W W':=by
 obtain ⟨n,m⟩:=nm (bids.length);have s:=fun (w:World) (h:Below W W w)=>ziw (O.grow h) hc hf hn hz;rw[←m] at s hn ⊢;have ab:=hid s;have HR:=hid (m▸O.row);have HB:=hid O;have N:=hid m;have HZ:=hid hz;clear O s m hz hf hc;have hmk:∀V:World,(Instr.makeSlice 344 ↑(n:Int) ↑(n:Int)).run Tryz.prog V=.ok (.slice (some ⟨V,0,none⟩) n n) (V.alloc (.cells (madeCells #[.slice none 0 0] n) 340)):=fun V=>
  run_make_row' (P:=Tryz.prog) 344 340 (.slice none 0 0) 24 Tryz.underlying344 (by kernel_rfl) rfl .i64 .i64 n (by omega) (by omega) V
 go_enter Tryz.func265,Tryz.ntmps265;go_wp2_with fail
 obtain ⟨W1,g⟩:=nm ((W.alloc (.cells (madeCells #[.slice none 0 0] n) 340)).alloc (.cells #[.slice (some ⟨W,0,none⟩) n n] 344));have S:=hid (show Below W W W1 by rw[g];exact (qA _).alloc (by simp) _);have X:=hid (show Ac.Blk W1 W.heap.size 340 (zbD (fun _=>.slice none 0 0) n).toArray by rw[g,←zmQ];exact (Ac.Blk.new W _ _).alloc _);have G:=hid (show Ac.Blk W1 (W.heap.size+1) 344 #[.slice (some ⟨W,0,none⟩) n n] by rw[g];exact Ac.Blk.new' _ _ (by simp));have hsz:=G.out.lt;rw[←g];clear g hmk
 go_loopw [16] (fun i wr=>∃(k:Nat) (C:Nat→Value),k≤n∧i=.int .i64 k∧Ac.Blk wr (W.heap.size+1) 344 #[.slice (some ⟨W,0,none⟩) n n]∧Ac.Blk wr W.heap.size 340 (zbD C n).toArray∧(∀j b,j<k→bids[j]? =some b→Sl wr (fun b=>W.heap.size+2≤b) (C j) b.length 1 (za6 b))∧Below W W wr∧W.heap.size+2≤wr.heap.size) (fun i _=>n-(intOf i).toNat)
 case atStart=>exact ⟨0,_,zL,rfl,G.out,X.out,fun j b h=>absurd h (Nat.not_lt_zero _),S.out,by omega⟩
 case round=>
  obtain ⟨k,C,hk,rfl,p,hg,z,B,hsz2⟩:=hrel;have HX:=hid p;have HG:=hid hg;have D:=hid z;have a:=hid B;by_cases hlt:k<n
  ·obtain ⟨b,l⟩:∃b,bids[k]? =some b:=⟨_,gE (by rw[←N.out];exact hlt)⟩;obtain ⟨bq,off,rfl,hbq,hc0⟩:=znl (HR.out.grow B) hlt;have o:=(HB.out.each k b l).grow B;obtain ⟨A',c',hv⟩:=zhX o;rw[hv] at o hc0;have hlb:=(zc4 (HZ.out b (mG l))).len;have L:=(zc4 (HZ.out b (mG l))).cnt;have aa:=hid o;have T:=hid l;have E:=hid (show b.length≤64 by omega);have e1:(0:Int)≤(k:Int):=by omega
   have e2:(k:Int)<(n:Int):=by omega
   have hw:IntKind.i64.wrap ((k:Int)+1)=(k:Int)+1:=iW _ (by omega);have x0:wr.cell? ⟨W.heap.size+1,0,none⟩=some (.slice (some ⟨W,0,none⟩) n n):=p.cell 0;have lx:=p.lt;clear l o hv hlb L p hg z B;go_wp2_with fail
   refine zac (Below wr wr) [5] (by kernel_rfl) (bR.drew) (fun r=>?_);have qq:=hid fun (w':World) (hSw:(Below wr wr) w')=>qc hSw x0 lx;refine tl 0 r qq ?_;refine tp 1 r ?_;refine tp 2 r ?_;refine stp 3 fun K H=>?_;refine zbR (wr.drew) (.const (.slice none 0 0)) (.tmp 23) rfl zoU rfl (.slice none 0 0) 0 [] rfl (RowAt.nil (R:=fun _=>False)) (.slice A' b.length c') b.length (za6 b) rfl (aa.out.grow bR.drew) (zru b) (by have:=E.out;omega) (by have:=E.out;unfold maxLen;omega) ?_;intro A3 c3 Z M y;refine H.out _ _ ?_ (fun r=>?_)
   ·exact r.trans (y.below lR (fun b _ e=>by cases e))
   clear H K
   try simp only[Act.put,pb,pz,ps]
   have ac:=hid M;have f:=hid (show Below wr wr Z from bR.drew.trans (y.below lR (fun b _ e=>by cases e)));clear M y;have q:=hid (HG.out.grow f.out);have Y:=hid hlt;obtain ⟨U,I⟩:=nm (Z.setCell ⟨W,k,none⟩ (.slice A3 b.length c3));have F:=hid I;clear I;refine tp 4 r ?_;refine stf 5 fun K H=>?_;have f0:=q.out.frozen k;have c0:Z.cell? ⟨W,k,none⟩=some (C k):=(q.out.cell k).trans (by simp[zbD,Y.out]);go_simp;rw[←F.out];refine H.out _ _ ?_;clear H K
   try simp only[Act.put,pb,pz,ps]
   refine zaa (by kernel_rfl) ?_ _;clear r x0;go_wp2_with fail
   go_roundw
   case rel=>
    have I:=F.out;have d:Chg (·=W.heap.size) Z U:=by rw[I];exact Chg.set Z ⟨W,k,none⟩ _
    have hle:=f.out.size;refine ⟨k+1,fun j=>if j=k then .slice A3 b.length c3 else C j,by omega,by go_num,(HX.out.grow f.out).chg d (by omega),?_,fun j b' hj J=>?_,(a.out.trans (f.out.mono a.out.size)).trans (d.below (by have:=a.out.size;omega) (fun b B e=>by omega)),by have:=d.size;omega⟩
    ·rw[I,←zpR];exact q.out.set_ k _
    ·by_cases hjk:j=k
     ·subst hjk;have hbe:b'=b:=by have:=T.out;rw[J] at this;cases this;rfl
      subst hbe;simp only[if_true];have h1:=ac.out.sl;simp only[Nat.zero_add,List.nil_append] at h1 ⊢;exact (h1.keep d.size fun x p Q=>d.block x p (by have h2:x=wr.heap.size:=Q.resolve_left id;omega)).mono fun x _ Q=>by have h2:x=wr.heap.size:=Q.resolve_left id;omega
     ·simp only[hjk,if_false];exact ((D.out j b' (by omega) J).grow f.out).keep d.size fun x p Q=>d.block x p (by omega)
   case measure=>simp[intOf];omega
  ·obtain rfl:k=n:=by omega
   clear p hg z B;go_wp2_with fail
   refine (ab.out _ a.out).mono ?_;rintro e w2 ⟨rfl,rfl⟩;go_wp2_with fail
   go_ret;have hal:∀(v:Value) (t:TypeId),Below w2 w2 (w2.alloc (.cells #[v] t)):=fun v t=>qA _;refine ⟨_,_,rfl,⟨Ac.Blk.new _ _ _,⟨W,C,?_,?_,lR,fun j b hj=>?_⟩,a.out.size,by omega⟩,a.out.alloc a.out.size _⟩
   ·rw[←N.out];exact HX.out.alloc _
   ·rw[←N.out];exact HG.out.alloc _
   ·exact ((D.out j b (by have:=(gS.1 hj).1;have:=N.out;omega) hj).grow (hal _ _)).mono fun x _ h=>by omega
def zgM (o:Off):Bool:=decide (o.g=0)&&zae o.c
def zcj (l:List Off):Bool:=l.all zgM
def zaD (l:List Off):List Int:=l.map (·.c)
def zaB:List Int→Int
 |[]=>0
 |x::r=>x+zaB r
theorem zqc (l:List Int) (x:Int):zaB (l++[x])=zaB l+x:=by
 induction l with
 |nil=>simp[zaB]
 |cons y l ih=>simp[zaB,ih];omega
theorem zjZ:∀{l:List Int},(∀x∈l,zah x)→0≤zaB l∧zaB l≤l.length*1099511627776
 |[],_=>by simp[zaB]
 |x::l,h=>by
  have h1:=h x (.head _);have h2:=zjZ (l:=l) fun y hy=>h y (.tail _ hy);unfold zah at h1;simp only[zaB,List.length_cons]
  omega
theorem zgB {w:World} {R:Nat→Prop} {A:Option Addr} {n c k:Nat} {l:List Off} {o:Off} (h:Sl w R (.slice A n c) n 2 (Off.all l)) (i:l[k]? =some o) (s:k<n):
  ∃b off,A=some ⟨b,off,none⟩∧b<w.heap.size∧w.cell? ⟨b,off+k*2,none⟩=some (.int .u32 o.g)∧w.cell? ⟨b,off+k*2+1,none⟩=some ↑o.c:=by
 obtain ⟨r,p,q,m,_,_,j⟩:=h;injection m with e _ _
 subst e;obtain ⟨b,off,e,_,f,d⟩:=j (by omega);have a:∀{l:List Off} {k:Nat} {o:Off},l[k]? =some o→(Off.all l)[k*2]? =some (.int .u32 o.g)∧(Off.all l)[k*2+1]? =some ↑o.c:=by
  intro l
  induction l with
  |nil=>intro k o h;simp at h
  |cons x l ih=>
   intro k o h
   cases k with
   |zero=>
    obtain rfl:x=o:=by simpa using h
    exact ⟨rfl,rfl⟩
   |succ k=>
    have:=ih (k:=k) (o:=o) (by simpa using h);rw[show (k+1)*2=k*2+2 by omega,show k*2+2+1=(k*2+1)+2 by omega];exact this
 exact ⟨b,off,e,f,d _ _ (a i).1,by have:=d _ _ (a i).2;rwa [←Nat.add_assoc] at this⟩
theorem zgx {W:World} {R:Nat→Prop} {A:Option Addr} {c:Nat} {l:List Off} (S:zad W R (.slice A l.length c) l) (hn:l.length≤64):
  Calls Tryz.prog 260 #[.slice A l.length c] W fun e W'=>Below W W W'∧
   ((zcj l=false∧e=.returned (.tuple #[.slice none 0 0,(),false]))∨
    (zcj l=true∧∃A' c',e=.returned (.tuple #[.slice A' l.length c',(zaB (zaD l):Int),true])∧RowAt W' (fun b=>W.heap.size≤b) 2 1 (.slice A' l.length c') l.length (za6 (zaD l)))):=by
 obtain ⟨n,g⟩:=nm (l.length);have HS:=hid (g▸S.1);have Q:=hid S.2;rw[←g] at hn ⊢;have M:=hid g;have HNB:=hid hn;clear S g;go_enter Tryz.func260,Tryz.ntmps260;go_wp2_with fail
 go_loopw [5,6,11] (fun t s i wr=>∃(k:Nat) (A':Option Addr) (c':Nat),k≤n∧i=.int .i64 k∧t=.slice A' k c'∧s=.int .i64 (zaB (zaD (l.take k)))∧RowAt wr (fun b=>W.heap.size≤b) 2 1 (.slice A' k c') k (za6 (zaD (l.take k)))∧Below W W wr∧∀o∈l.take k,zgM o=true) (fun _ _ i _=>n-(intOf i).toNat)
 case atStart=>exact ⟨0,none,0,zL,rfl,rfl,rfl,RowAt.nil,bR,fun o h=>by simp at h⟩
 case round=>
  obtain ⟨k,A',c',hk,rfl,rfl,rfl,F,C,a⟩:=hrel;have z:=hid F;have r:=hid C;have m:=hid a;by_cases hlt:k<n
  ·obtain ⟨o,j⟩:∃o,l[k]? =some o:=⟨_,gE (by rw[←M.out];exact hlt)⟩;obtain ⟨bq,off,rfl,hbq,T,U⟩:=zgB (HS.out.grow C) j hlt;have hwf:=Q.out o (mG j);have f:=za4 j;have q:=mG j;have D:∀x∈zaD (l.take k),zah x:=fun x hx=>by
    obtain ⟨o',V,rfl⟩:=List.mem_map.1 hx;have:=m.out o' V;simp only[zgM,Bool.and_eq_true] at this;exact zaK.1 this.2
   have H:=zjZ D;have I:(zaD (l.take k)).length=k:=by
    have:=M.out
    simp[zaD];omega
   rw[I] at H;have e1:(0:Int)≤(k:Int):=by omega
   have e2:(k:Int)<(n:Int):=by omega
   have hw:IntKind.i64.wrap ((k:Int)+1)=(k:Int)+1:=iW _ (by omega);obtain ⟨og,d⟩:=o;simp only at T U;have HO:=hid j;have B:=hid f;have p:=hid q;clear F C a j f q D I;by_cases hg:og=0
   ·subst hg;go_wp2_with fail
    refine (zce d _).mono ?_;rintro e w1 ⟨rfl,J⟩
    cases hcb:zae d with
    |false=>
     have y:=hid (show zcj l=false by
      simp only[zcj,List.all_eq_false];exact ⟨_,p.out,by simp[zgM,hcb]⟩)
     subst J;clear hcb;go_wp2_with fail
     go_ret3
     refine ⟨?_,.inl ⟨y.out,rfl⟩⟩;exact r.out.alloc r.out.size _
    |true=>
     have E:=zaK.1 hcb;unfold zah at E;have K:=hid hcb;have hws:IntKind.i64.wrap (zaB (zaD (l.take k))+d)=zaB (zaD (l.take k))+d:=iW _ (by omega);subst J;clear hcb E H;have N:=hid (z.out.grow ((Below.refl wr.heap.size wr).alloc lR (.cells #[.int .u32 0,d] 191)));have O:=hid (N.out.grow (bR.alloc lR (.cells #[d] 2)))
     go_wp2_with (at_builtin;go_must (refine zby _ (.tmp 24) (.tmp 27) rfl zoU rfl (.slice A' k c') k (za6 (zaD (l.take k))) rfl O.out (.slice (some ⟨wr.heap.size+1,0,none⟩) 1 1) 1 [.int .i64 d] rfl (Sl.lit1 (Ac.Blk.new' 2 #[d] (by simp)) rfl) (by simp[Value.oneCell']) (by omega) (by unfold maxLen;omega) ?_);intro A3 c3 Z G v;have x1:Z.cell? ⟨wr,1,none⟩=some ↑d:=(((Ac.Blk.new wr 191 #[.int .u32 0,d]).alloc (.cells #[d] 2)).chg v (fun e=>by have:=(z.out.lt e);omega)).cell 1;have P:=hid G;have L:=hid v;clear G v)
     go_roundw
     case rel=>
      have X:=r.out.size;have Y:zaD (l.take (k+1))=zaD (l.take k)++[d]:=by rw[B.out];simp[zaD]
      refine ⟨k+1,A3,c3,by omega,by go_num,rfl,?_,?_,?_,fun o j=>?_⟩
      ·rw[Y,zqc]
      ·rw[Y];have h3:za6 (zaD (l.take k)++[d])=za6 (zaD (l.take k))++[.int .i64 d]:=by simp[za6]
       rw[h3];exact P.out.mono fun b _ e=>e.elim id fun e=>by rw[e];simp;omega
      ·refine ((r.out.alloc X _).alloc (by simp;omega) _).trans (L.out.below (by simp;omega) fun b C e=>?_);have:=z.out.blk b e
       omega
      ·rw[B.out] at j
       rcases List.mem_append.1 j with h|h
       ·exact m.out o h
       ·rw[List.mem_singleton.1 h]
        simp[zgM,K.out]
     case measure=>simp[intOf];omega
   ·have y:=hid (show zcj l=false by
     simp only[zcj,List.all_eq_false];exact ⟨_,p.out,by simp[zgM,hg]⟩)
    have hgi:¬(og:Int)=0:=by omega
    go_wp2_with fail
    go_ret3
    exact ⟨r.out.alloc r.out.size _,.inl ⟨y.out,rfl⟩⟩
  ·obtain rfl:k=n:=by omega
   have f:l.take k=l:=List.take_of_length_le (by rw[←M.out];exact lR);rw[f] at F a;have z:=hid F;have y:=hid (show zcj l=true by simpa [zcj] using a);rw[f];clear F a f C;go_wp2_with fail
   go_ret3
   exact ⟨r.out,.inr ⟨y.out,A',c',rfl,z.out⟩⟩
def zlm (m:Int) (o:Off):Int:=if m<o.c then o.c else m
def zcp (l:List Off):Int:=l.foldl zlm 0
theorem zoa (l:List Off) (o:Off):zcp (l++[o])=if zcp l<o.c then o.c else zcp l:=by unfold zcp;rw[List.foldl_append];rfl
theorem znb {b:Int} (f:0≤b):∀{l:List Off},(∀o∈l,o.c≤b)→0≤zcp l∧zcp l≤b:=by
 intro l h;have a:∀(l:List Off) (m:Int),(∀o∈l,o.c≤b)→0≤m→m≤b→0≤l.foldl zlm m∧l.foldl zlm m≤b:=by
  intro l
  induction l with
  |nil=>intro m _ d e;exact ⟨d,e⟩
  |cons x l ih=>
   intro m h d e;have i:=h x (.head _);refine ih _ (fun o g=>h o (.tail _ g)) ?_ ?_<;>(unfold zlm;split<;>omega)
 exact a l 0 h (Int.le_refl _) f
theorem zo6 {W:World} {R:Nat→Prop} {A:Option Addr} {c:Nat} {l:List Off} (z:zad W R (.slice A l.length c) l) (B:l.length≤64):
  Calls Tryz.prog 276 #[.slice A l.length c] W fun e W'=>Below W W W'∧∃x,e=.returned (.tuple #[(zcp l:Int),(x:Int)]):=by
 obtain ⟨n,b⟩:=nm (l.length);have D:=hid (b▸z.1);rw[←b] at B ⊢;have y:=hid b;have C:=hid B;clear z b;go_enter Tryz.func276,Tryz.ntmps276;go_wp2_with fail
 go_loopw [4,5,10] (fun m a i wr=>∃(k:Nat) (x:Int),k≤n∧i=.int .i64 k∧m=.int .i64 (zcp (l.take k))∧a=.int .i64 x∧Below W W wr) (fun _ _ i _=>n-(intOf i).toNat)
 case atStart=>exact ⟨0,-1,zL,rfl,rfl,rfl,bR⟩
 case round=>
  obtain ⟨k,x,K,rfl,rfl,rfl,p⟩:=hrel;have f:=hid p;by_cases hlt:k<n
  ·obtain ⟨o,v⟩:∃o,l[k]? =some o:=⟨_,gE (by rw[←y.out];exact hlt)⟩;obtain ⟨H,G,rfl,F,r,s⟩:=zgB (D.out.grow p) v hlt;have h:=za4 v;have I:(0:Int)≤(k:Int):=by omega
   have J:(k:Int)<(n:Int):=by omega
   have L:IntKind.i64.wrap ((k:Int)+1)=(k:Int)+1:=iW _ (by omega);obtain ⟨M,j⟩:=o;simp only at r s;obtain ⟨m,t⟩:=nm (zcp (l.take k));rw[←t];have g:=hid (show zcp (l.take (k+1))=if m<j then j else m by rw[h,zoa,←t]);clear p v h t;by_cases hg:m<j
   ·have E:decide (j>m)=true:=decide_eq_true hg;have q:=hid hg;clear hg;go_wp2_with fail
    go_roundw
    case rel=>exact ⟨k+1,_,by omega,by go_num,by rw[g.out,if_pos q.out],rfl,(f.out.alloc f.out.size _)⟩
    case measure=>simp[intOf];omega
   ·have E:decide (j>m)=false:=decide_eq_false hg;have q:=hid hg;clear hg;go_wp2_with fail
    go_roundw
    case rel=>exact ⟨k+1,_,by omega,by go_num,by rw[g.out,if_neg q.out],rfl,(f.out.alloc f.out.size _)⟩
    case measure=>simp[intOf];omega
  ·obtain rfl:n=k:=by omega
   have d:l.take n=l:=List.take_of_length_le (by have:=y.out;omega);rw[d];clear d p;go_wp2_with fail
   go_ret2
   exact ⟨f.out,x,rfl⟩
theorem zlw {all:Nat}:∀{l:List Off},zbB all l=none→∀o∈l,zcN all o=false
 |[],_,o,h=>by cases h
 |x::l,hb,o,h=>by
  unfold zbB at hb
  split at hb
  ·cases hb
  ·rename_i hx
   rw[Option.map_eq_none_iff] at hb
   rcases List.mem_cons.1 h with rfl|h
   ·simpa using hx
   ·exact zlw hb o h
theorem zeB {n:Int} {l:List Off} (h:zas n l=0):l.length≤8∧∀o∈l,1≤o.c∧o.c≤1099511627776:=by
 unfold zas at h
 split at h
 ·omega
 ·split at h
  ·omega
  ·split at h
   ·omega
   ·rename_i d _ a
    refine ⟨by omega,fun o b=>?_⟩;have:=zlw a o b;unfold zcN at this;simp only[Bool.or_eq_false_iff,decide_eq_false_iff_not] at this
    omega
def zgD (l:LotS) (a:Acc) (i j:Int) (os:List Off):Int:=
 if zas l.put.count os≠0∨os.length=0 then 2 else if zaS i l.stands=none∧32≤l.stands.length then 3 else zci a j (zcp os)
theorem zl7 {W:World} {T:Nat→Part} {h pn pc K:Nat} {va vl vb vs:Value} {H:House} {bl ba ma:Nat→Nat} {i j:Nat} {a:Acc} {l:LotS} (hat:AtIt W T h pn pc va vl vb vs K H bl ba ma i j a l) (o:OrderR) (hoi:o.bidder=i) (hoj:o.lot=j) {A:Option Addr} {c:Nat} {R:Nat→Prop} (hO:zad W R (.slice A o.offers.length c) o.offers) (hRR:∀b,R b→T b=.no) (hok:a.Ok) (hjm:j≤4096) (hK:K<maxLen) (hsm:l.stands.length≤1000000):
  Calls Tryz.prog 271 #[.agg #[],.pointer (some ⟨h,0,none⟩),.pointer (some ⟨bl j,0,none⟩),.pointer (some ⟨ba i,0,none⟩),o.agg (.slice A o.offers.length c)] W fun e W'=>
   (zgD l a i j o.offers≠0∧e=.returned (.tuple #[(),(zgD l a i j o.offers:Int)])∧Below W W W')∨
   (zgD l a i j o.offers=0∧e=.returned (.tuple #[(),()])∧∃T',zaf W' T' h (K+1) (zhw H i j a l ⟨i,o.offers,zcp o.offers⟩)∧Moves W T W' T'):=by
 obtain ⟨er,her⟩:=nm (zgD l a i j o.offers);rw[←her];unfold zgD at her;have S:=hid her;have HJM:=hid hjm;have HKM:=hid hK;have HSM:=hid hsm;have HRN:=hid hRR;obtain ⟨oo,hoo⟩:=nm (o);have p:=hid hoo;obtain ⟨C,G⟩:=nm ((W.alloc (.cells #[] 249)).alloc (.cells (o.cells (.slice A o.offers.length c)).toArray 61));have Y:Below W W C:=by rw[G];exact (qA _).alloc (by simp) _
 have hx:Ac.Blk C (W.heap.size+1) 61 (o.cells (.slice A o.offers.length c)).toArray:=by rw[G];exact Ac.Blk.new' _ _ (by simp)
 have O:=hid hat;have HB1:=hid Y;have HOK:=hid hok;have U:=hid hoi;have HOJ:=hid hoj;obtain ⟨okind,oname,ocoins,t,olot,⟨kind,opens,V,start,step,X,last,floor,fall,count,rule⟩,f,otick⟩:=o;simp only at hO hoi hoj S U HOJ ⊢;have HO1:=hid (zad.grow hO Y);simp only[OrderR.agg,OrderR.cells,LotR.cells,List.cons_append,List.nil_append] at G hx ⊢;have x16:C.cell? ⟨W.heap.size+1,16,none⟩=some (.slice A f.length c):=hx.cell 16;have xl:=hx.lt;have HX1:=hid hx;have I:=hat.grow Y;obtain ⟨v,htb,g,z⟩:=I.lots j l I.lot;obtain ⟨ct,hct⟩:=nm (l.put.count);have l9:C.cell? ⟨bl j,9,none⟩=some ↑ct:=hct▸g.cell 9;have lb:=g.lt;obtain ⟨ce,hce⟩:=nm (zas ct f);obtain ⟨ci,hci⟩:=nm (zeb ct f);have HCE:=hid hce;have HCK:=hid (fun (w:World) (hb:Below C C w)=>(show Calls Tryz.prog 275 #[ct,.slice A f.length c] w fun e w'=>e=.returned (.tuple #[ci,ce])∧Below w w w' from by
  rw[hce,hci];exact zec ct f _ R w (zad.grow HO1.out hb)))
 have HCT:=hid hct;clear hat Y hok hO hx hoi hoj hjm hK hsm hRR hoo her I htb g z hct hce hci;go_enter Tryz.func271,Tryz.ntmps271
 go_upto_region 1 with fail
 rw[←G];clear G
 go_cut [12,13] from 16 to 58 (fun s12 s13 wx=>s13=.int .i64 ce∧Below C C wx)
 case first=>
  refine zac (Below C C) [] (by kernel_rfl) (bR.drew) (fun q=>?_);refine tp 0 q ?_;refine tp 1 q ?_;refine tp 2 q ?_;refine tp 3 q ?_;have qq:=hid fun (w':World) (hSw:(Below C C) w')=>And.intro (qc hSw l9 lb)<|qc hSw x16 xl;refine tl 4 q qq ?_;refine tp 5 q ?_;refine tl 6 q qq ?_;refine stp 7 fun K hK=>?_;go_simp;refine (HCK.out _ q).mono ?_;rintro e W5 ⟨rfl,B⟩;refine hK.out _ _ ?_ (fun q=>?_)
  ·exact q.trans (B.mono q.size)
  clear hK K
  try simp only[Act.put,pb,pz,ps]
  refine tp 8 q ?_;refine tp 9 q ?_;refine tp 10 q ?_;refine tp 11 q ?_;refine tp 12 q ?_;refine zaa (by kernel_rfl) ?_ _;have HSF:=hid q;clear q;go_wp2_with fail
  go_meet
  case rel=>exact ⟨rfl,HSF.out⟩
 case rest=>
 rename World=>W2;obtain ⟨rfl,aa⟩:=hcut;have r:=hid (HB1.out.trans (aa.mono HB1.out.size));have HO2:=hid (zad.grow HO1.out aa);have M:=HX1.out.grow aa;have N:W2.cell? ⟨W.heap.size+1,16,none⟩=some (.slice A f.length c):=M.cell 16;have x3:W2.cell? ⟨W.heap.size+1,3,none⟩=some ↑t:=M.cell 3;have xl2:=M.lt;have HX2:=hid M;clear aa M x16 xl l9 lb;by_cases y:ce≠0
 ·have hcb:(ce !=0)=true:=by simpa using y
  have he:er=2:=by rw[S.out,←HCT.out,←HCE.out,if_pos (.inl y)]
  have HC0:=hid y;subst he;clear y;go_wp2_with fail
  go_ret2
  first|exact .inl ⟨by omega,rfl,r.out⟩|exact ⟨rfl,r.out⟩
 have y:ce=0:=Classical.not_not.1 y;subst y;obtain ⟨n,hn⟩:=nm (f.length);have HN:=hid hn;by_cases hl0:n=0
 ·have he:er=2:=by rw[S.out,if_pos (.inr (by rw[←hn];exact hl0))]
  subst he;rw[←hn,hl0] at N;rw[hl0] at HN;clear hn hl0;go_wp2_with fail
  go_ret2
  first|exact .inl ⟨by omega,rfl,r.out⟩|exact ⟨rfl,r.out⟩
 have hnb:((n:Int)==0)=false:=by simp;omega
 have HL0:=hid hl0;rw[←hn] at N;have HE3:=hid (show er=if zaS i l.stands=none∧32≤l.stands.length then 3 else zci a j (zcp f) by
  rw[S.out,if_neg];rintro (e|e)
  ·rw[←HCT.out,←HCE.out] at e;exact e rfl
  ·exact hl0 (hn.trans e))
 clear hn hl0;have HPL:=hid (fun w (hb:Below W2 W2 w)=>zhp (((O.out.grow r.out).lots j l O.out.lot).step (W':=w) (T':=T) (Chg.of (fun _=>False) hb) (fun _ _=>id) (fun _ _=>rfl)) (i:Int));rw[U.out] at x3;have J:=O.out.grow r.out;obtain ⟨v,htb,g,z⟩:=J.lots j l J.lot;obtain ⟨sA,sc,rfl⟩:=z.form;obtain ⟨ns,hns⟩:=nm (l.stands.length);rw[←hns] at g;have l14:W2.cell? ⟨bl j,14,none⟩=some (.slice sA ns sc):=g.cell 14;have lb:=g.lt;have HNS:=hid hns;obtain ⟨F,L⟩:=nm (decide (zaS i l.stands=none∧32≤l.stands.length):Bool);have D:=hid L;clear J htb g z hns L
 go_upto_region 4 with fail
 go_cut [47] from 16 to 58 (fun s wx=>s=.bool F∧Below W2 W2 wx)
 case first=>
  go_wp2_with fail
  refine (HPL.out _ bR).mono ?_;rintro e W3 ⟨rfl,hb3⟩;have l143:=qc hb3 l14 lb;have HB3:=hid hb3;clear hb3
  cases hpl:zaS (i:Int) l.stands with
  |none=>
   have hp:zbV (i:Int) l.stands=-1:=by unfold zbV;rw[hpl]
   rw[hp];have HPN:=hid hpl;clear hp hpl;by_cases h32:32≤ns
   ·have d32:decide ((ns:Int) ≥ 32)=true:=decide_eq_true (by omega);go_wp2_with fail
    go_meet
    case rel=>exact ⟨by rw[D.out,decide_eq_true ⟨HPN.out,HNS.out▸h32⟩],HB3.out⟩
   ·have d32:decide ((ns:Int) ≥ 32)=false:=decide_eq_false (by omega);go_wp2_with fail
    go_meet
    case rel=>exact ⟨by rw[D.out,decide_eq_false (fun e=>h32 (HNS.out▸e.2))],HB3.out⟩
  |some k=>
   have hp:zbV (i:Int) l.stands=k:=by unfold zbV;rw[hpl]
   rw[hp];have HPN:=hid hpl;have hk0:decide ((k:Int)<0)=false:=decide_eq_false (by omega);clear hp hpl;go_wp2_with fail
   go_meet
   case rel=>exact ⟨by rw[D.out,decide_eq_false (fun e=>by rw[HPN.out] at e;cases e.1)],HB3.out⟩
 case rest=>
 rename World=>W4;obtain ⟨rfl,Z⟩:=hcut;have P:=hid (r.out.trans (Z.mono r.out.size));have hx4:=HX2.out.grow Z;have y16:W4.cell? ⟨W.heap.size+1,16,none⟩=some (.slice A f.length c):=hx4.cell 16;have HX4:=hid hx4;have HO4:=hid (zad.grow HO2.out Z);clear Z hx4 l14 lb N x3 xl2;by_cases hfl:zaS i l.stands=none∧32≤l.stands.length
 ·have hf:F=true:=by rw[D.out];exact decide_eq_true hfl
  have he:er=3:=by rw[HE3.out,if_pos hfl]
  subst hf he;clear hfl;go_wp2_with fail
  go_ret2
  first|exact .inl ⟨by omega,rfl,P.out⟩|exact ⟨rfl,P.out⟩
 have hf:F=false:=by rw[D.out];exact decide_eq_false hfl
 have HE4:=hid (show er=zci a j (zcp f) by rw[HE3.out,if_neg hfl]);subst hf;have hoff:=zeB HCE.out.symm;have HLO:=hid (show f.length≤1099511627776 by omega);obtain ⟨mo,hmo⟩:=nm (zcp f);have HGR:=hid (fun (w:World) (hb:Below W4 W4 w)=>(show Calls Tryz.prog 276 #[.slice A f.length c] w fun e W'=>Below w w W'∧∃x,e=.returned (.tuple #[mo,(x:Int)]) from by
  rw[hmo];exact zo6 (zad.grow HO4.out hb) (by omega)))
 have HMO:=hid hmo;have HCO:=hid (show zah mo by
  rw[hmo];exact znb (by omega) fun o ho=>(hoff.2 o ho).2)
 clear hfl hoff hmo;go_wp2_with fail
 refine (HGR.out _ bR).mono ?_;rintro e W5 ⟨B,x,rfl⟩;have Q:=hid (P.out.trans (B.mono P.out.size));have HX5:=hid (HX4.out.grow B);have HO5:=hid (zad.grow HO4.out B);clear B y16
 go_wp2_with (refine wpList_load_row rfl 61 (.tmp 9) rfl (W.heap.size+1) rfl 61 #[okind,.string oname,ocoins,t,olot,kind,opens,V,start,step,X,last,floor,fall,count,rule,.slice A f.length c,otick] (0,0) _ HX5.out Tryz.underlying61 rfl (by kernel_rfl) ?_)
 have d:=O.out.grow Q.out;by_cases hst:a.mostH j<mo
 ·have he:er=8:=by rw[HE4.out,←HMO.out];unfold zci;rw[if_pos hst]
  have m:=zgw d.house d.lrow d.lots d.arow d.accs d.acc d.lot oo (by rw[p.out];exact U.out) (by rw[p.out];exact HOJ.out) (vo:=.slice A f.length c) (by rw[p.out];exact HO5.out) HRN.out HOK.out HJM.out hst;rw[p.out] at m;refine m.mono ?_;clear m d hst;subst he;rintro e W6 ⟨rfl,hb6⟩;have HB6:=hid (Q.out.trans (hb6.mono Q.out.size));clear hb6;go_wp2_with fail
  go_ret2
  first|exact .inl ⟨by omega,rfl,HB6.out⟩|exact ⟨rfl,HB6.out⟩
 ·have he:er=0:=by rw[HE4.out,←HMO.out];unfold zci;rw[if_neg hst]
  have m:=zhd d.house d.lrow d.lots d.arow d.accs d.acc d.lot oo (by rw[p.out];exact U.out) (by rw[p.out];exact HOJ.out) (vo:=.slice A f.length c) (by rw[p.out];exact HO5.out) HRN.out HOK.out HJM.out (held:=mo) (by omega) HCO.out HKM.out HSM.out (by rw[p.out];exact HLO.out);rw[p.out] at m;refine m.mono ?_;clear m d hst;subst he;rintro e W6 ⟨rfl,T',hH6,hM6⟩;have HH6:=hid hH6;have HM6:=hid ((HouseAt.moves (T:=T) Q.out).trans hM6);clear hH6 hM6;go_wp2_with fail
  go_ret2
  have E:=HH6.out;rw[HMO.out] at E
  first|exact .inr ⟨rfl,rfl,T',E,HM6.out⟩|exact ⟨rfl,T',E,HM6.out⟩
end Ho
namespace Vb
open Go.RowKit
def ints (l:List Int):List Value:=l.map (Value.int .i64)
theorem zg9 (B bb m:Nat) (n:Int) (v:Value) (bs:List (List Off)) (f:Nat) (hf:f<1024) (w:World) (hb:BoardAt w B bb m n v bs):
  Calls Tryz.prog 301 #[.pointer (some ⟨bb,0,none⟩),(),.int .u32 f] w fun e w'=>∃A' cap',e=.returned (.agg #[.slice A' bs.length cap',(W bs f:Int)])∧
   w'.ownsRow w.heap.size 3 1 (.slice A' bs.length cap') bs.length (ints (choose bs f))∧BoardAt w' B bb m n v bs∧w.grownBy w' (some m):=by
 obtain ⟨vs,⟨_,A,cap,rfl,hnc,hcm,I⟩,hvs⟩:=id hb.buys;have hl32:bs.length≤32:=hb.ok.1;have HB:=hid hb;have HCS:=hid I;have HVS:=hid hvs;have hml:=hb.map.lt;obtain ⟨c0,c1,c2,_,_,_,_⟩:=hb;clear I hvs hcm;go_enter Tryz.func301,Tryz.ntmps301
 go_wp2_with (go_at_call 306;refine (zj1 B bb m n _ bs _ 0 f _ _ _ rfl rfl rfl (by omega) hf (HB.out.alloc _)).mono ?_;rintro e d ⟨rfl,hb1,hg1⟩;have d1:=za9 hb1.c1;have hg1':=hg1.size;simp at hg1';have HB1:=hid hb1;have HG1:=hid hg1;clear hb1 hg1)
 have U:Blk (d.alloc (.cells #[.slice none 0 0,(W bs f:Int)] 381)) d.heap.size 381 #[.slice none 0 0,(W bs f:Int)]:=Blk.new _ _ _;have Z:Blk (d.alloc (.cells #[.slice none 0 0,(W bs f:Int)] 381)) w.heap.size 381 #[.slice none 0 0,()]:=((Blk.new w _ _).grown HG1.out (fun e=>by injection e with e;omega)).alloc _;have hgr0:w.grownBy (d.alloc (.cells #[.slice none 0 0,(W bs f:Int)] 381)) (some m):=((World.grownBy_alloc w _ _).trans HG1.out).trans (World.grownBy_alloc d _ _);have hbd0:BoardAt (d.alloc (.cells #[.slice none 0 0,(W bs f:Int)] 381)) B bb m n (.slice A bs.length cap) bs:=HB1.out.alloc _;clear d1
 go_loopw [2,24] (fun fr i wr=>∃(k b:Nat) (cs:List Int) (A':Option Addr) (cap':Nat),k≤bs.length∧i=.int .i64 k∧fr=.int .u32 b∧b<1024∧choose bs f=cs++choose (bs.drop k) b∧
   BoardAt wr B bb m n (.slice A bs.length cap) bs∧w.grownBy wr (some m)∧Blk wr w 381 #[.slice none 0 0,()]∧Blk wr d 381 #[.slice A' k cap',(W bs f:Int)]∧
   wr.ownsRow (d.heap.size+1) 3 1 (.slice A' k cap') k (ints cs))
  (fun _ i _=>bs.length-(intOf i).toNat)
 case atStart=>exact ⟨0,f,[],none,0,zL,rfl,rfl,hf,rfl,hbd0,hgr0,Z,U,World.ownsRow_nil _ _ _ _⟩
 case round=>
  obtain ⟨wo,rfl⟩:=nm (wr:World);obtain ⟨k,b,cs,A',cap',hk,rfl,rfl,hfi,hch,hbr,hgr,z,t,X⟩:=hrel;clear U Z hgr0 hbd0;have HBR:=hid hbr;have Q:=hid hgr;have HRES:=hid z;have HBLK:=hid t;have G:=hid X;have HCH:=hid hch;have hwlt:=t.lt;by_cases hlt:k<bs.length
  ·obtain ⟨bq,off,rfl,_,hbq,I⟩:=HCS.out (by omega);obtain ⟨l,hl⟩:∃l,bs[k]? =some l:=⟨_,gE hlt⟩;obtain ⟨u,hu,hol⟩:=HVS.out k l hl;have cl:=I k u hu;have HL:=hid hl;have hl8:l.length≤8:=hbr.ok.len hl;obtain ⟨⟨_,A1,cap1,rfl,hnc1,_,y⟩,_⟩:=hol;have HC1:=hid y;have HCL:=hid cl;have hk0:(0:Int)≤(k:Int):=by omega
   clear I hu hl y cl hbr hgr z t X hch
   go_wp2_with (go_at_call 306;refine (zj1 B bb m n _ bs _ k b _ _ _ rfl rfl rfl (by omega) hfi HBR.out).mono ?_;rintro e w2 ⟨rfl,C,r⟩;have e1:=C.c1;have el:=HB.out.keep (Q.out.trans r) HCL.out;have hg2':=r.size;have HB2:=hid C;have HG2:=hid r;clear C r)
   go_loopw [2,9,43] (fun fr nn i wr2=>∃j:Nat,j≤l.length∧i=.int .i64 j∧nn=.int .i64 (-1)∧fr=.int .u32 b∧(∀(i:Nat) (x:Off),i<j→l[i]? =some x→zbW (W (bs.drop (k+1))) b (W (bs.drop k) b) x=false)∧
     BoardAt wr2 B bb m n (.slice (some ⟨bq,off,none⟩) bs.length cap) bs∧wo.grownBy wr2 (some m))
    (fun _ _ i _=>l.length-(intOf i).toNat)
   case atStart=>exact ⟨0,zL,rfl,rfl,rfl,fun i x h=>by omega,HB2.out,HG2.out⟩
   case round=>
    obtain ⟨j,hj,rfl,rfl,rfl,hno,hbt,q⟩:=hrel;have HNO:=hid hno;have E:=hid hbt;have R:=hid q;by_cases hlj:j<l.length
    ·obtain ⟨b1,off1,rfl,_,hb1,y⟩:=HC1.out (by omega);obtain ⟨o,ho⟩:∃o,l[j]? =some o:=⟨_,gE hlj⟩;have o0:wr.cell? ⟨b1,off1+j*2,none⟩=some (.int .u32 o.g):=HB.out.keep (Q.out.trans q) (y _ _ (Off.all_fst l j o ho));have o1:wr.cell? ⟨b1,off1+j*2+1,none⟩=some ↑o.c:=HB.out.keep (Q.out.trans q) (y _ _ (Off.all_snd l j o ho));obtain ⟨ho1,ho2,ho3,ho4⟩:=HB.out.ok.offer HL.out ho;have hB0:=zdr (bs.drop (k+1)) (andNot b o.g);have hB1:=HB.out.ok.W_le (k+1) (andNot b o.g);have hbits:bits .andNot .u32 (o.g:Int) (b:Int)=((andNot o.g b:Nat):Int):=u32_andNot_nat o.g b (by omega) (by omega);have hbits2:bits .andNot .u32 (b:Int) (o.g:Int)=((andNot b o.g:Nat):Int):=u32_andNot_nat b o.g (by omega) (by omega);have hfo:andNot b o.g<1024:=Nat.lt_of_le_of_lt (zkz _ _) hfi;have HO:=hid ho;clear y ho hno hbt q;by_cases hfit:andNot o.g b=0
     ·have hfb:(((andNot o.g b:Nat):Int)==0)=true:=by simp[hfit]
      have HFI:=hid hfit;have hsum:IntKind.i64.wrap (o.c+W (bs.drop (k+1)) (andNot b o.g))=o.c+W (bs.drop (k+1)) (andNot b o.g):=iW _ (by omega);have hk1:IntKind.i64.wrap ((k:Int)+1)=(k:Int)+1:=iW _ (by omega);clear hfit;by_cases heq:o.c+W (bs.drop (k+1)) (andNot b o.g)=W (bs.drop k) b
      ·have J:zbW (W (bs.drop (k+1))) b (W (bs.drop k) b) o=true:=by simp[zbW,HFI.out,heq]
       have Y:=zoh HO.out J HNO.out;have HPN:=hid Y;have heb:(o.c+W (bs.drop (k+1)) (andNot b o.g)==W (bs.drop k) b)=true:=by simp[heq]
       clear heq Y J;go_wp2_with fail
       go_region_held3 (fun w'=>w'.cell? ⟨wr,0,none⟩=some (.int .u32 o.g)∧w'.cell? ⟨wr,1,none⟩=some ↑o.c) (go_keep)
        ((go_at_call 306;refine (zj1 B bb m n _ bs _ (k+1) (andNot b o.g) _ _ _ (by omega) rfl rfl (by omega) hfo ((E.out.alloc _).drew)).mono ?_;rintro e w2 ⟨rfl,C,r⟩;have z0:w2.cell? ⟨wr,0,none⟩=some (.int .u32 o.g):=(E.out.alloc _).drew.keep r (by simp);have z1:w2.cell? ⟨wr,1,none⟩=some ↑o.c:=(E.out.alloc _).drew.keep r (by simp)))
       have S:=hid C;have F:=hid (R.out.trans ((zam ((qA _).drew) _:wr.grownBy (wr.alloc (.cells #[.int .u32 o.g,o.c] 191)).drew (some m)).trans r));clear C r hsum hk1;have q:wo.grownBy w2 (some m):=F.out;have M:Blk w2 d 381 #[.slice A' k cap',(W bs f:Int)]:=HBLK.out.grown q (fun e=>by injection e with e;omega);have g0:w2.cell? ⟨d,0,none⟩=some (.slice A' k cap'):=M.cell 0;have V:w2.ownsRow (d.heap.size+1) 3 1 (.slice A' k cap') k (ints cs):=G.out.kept q (by
        cases hv:(Value.slice A' k cap').ownBlock with
        |none=>exact .inl rfl
        |some g=>exact .inr fun e=>by injection e with e;have:=(G.out.lt g hv).1;omega)
       have hlt':=q.size;have HBK:=hid M;have L:=hid V;clear q M V;have g0a:=za9 g0 (.cells #[(j:Nat)] 3)
       go_wp2_with (at_builtin;refine zbj _ rfl (.tmp 75) (.tmp 77) zlL rfl (d.heap.size+1) (.slice A' k cap') k (ints cs) rfl (L.out.alloc _) _ _ 1 _ rfl (Sl.new w2 #[(j:Nat)] _ 1 1 (by unfold maxLen;omega) rfl) (by simp[Value.oneCell']) (by omega) (by unfold maxLen;omega) (by simp;omega) ?_;intro A3 H w3 s N O;have D:Blk w3 d 381 #[.slice A' k cap',(W bs f:Int)]:=(HBK.out.alloc _).grown N (fun e=>by have:=(L.out.lt _ e.symm).1;omega);have k0:w3.cell? ⟨d,0,none⟩=some (.slice A' k cap'):=D.cell 0;have k1:=D.frozen 0;have HB3:=hid D;have K:=hid N;have HO3:=hid s;clear D N s O)
       go_roundw
       case rel=>
        have P:∀g,(Value.slice A' k cap').ownBlock=some g→d.heap.size+1≤g:=fun g e=>(L.out.lt g e).1;have T:=World.block_lt_of_cell? w _ HB.out.c0;simp only at T;refine ⟨k+1,andNot b o.g,cs++[((j:Nat):Int)],A3,H,by omega,by go_num,rfl,hfo,?_,?_,?_,?_,?_,?_⟩
        ·rw[HCH.out,zh3 HL.out b,HPN.out]
         simp
        ·exact ((S.out.alloc _).far K.out (fun g e=>by have:=P g e;omega)).far (grownBy_setCell _ ⟨d,0,none⟩ _) (fun g e=>by simp at e;omega)
        ·exact zcK (zcK ((Q.out.trans F.out).trans (World.grownBy_alloc _ _ _)) K.out (fun g e=>by have:=P g e;omega)) (grownBy_setCell _ ⟨d,0,none⟩ _) (fun g e=>by simp at e;omega)
        ·exact ((((HRES.out.grown F.out (fun e=>by injection e with e;omega)).alloc _).grown K.out (fun e=>by have:=P _ e.symm;omega)).far (p:=⟨d,0,none⟩) (by simp;omega) _)
        ·exact HB3.out.set_ 0 _
        ·have:=ownsRow_setCell_below HO3.out (a:=⟨d,0,none⟩) (by simp) (.slice A3 (k+1) H)
         simpa [ints] using this
       case measure=>simp[intOf];omega
      ·have J:zbW (W (bs.drop (k+1))) b (W (bs.drop k) b) o=false:=by simp[zbW,heq]
       have HPB:=hid J;have heb:(o.c+W (bs.drop (k+1)) (andNot b o.g)==W (bs.drop k) b)=false:=by simp[heq]
       clear heq J;go_wp2_with fail
       go_region_held3 (fun w'=>w'.cell? ⟨wr,0,none⟩=some (.int .u32 o.g)∧w'.cell? ⟨wr,1,none⟩=some ↑o.c) (go_keep)
        ((go_at_call 306;refine (zj1 B bb m n _ bs _ (k+1) (andNot b o.g) _ _ _ (by omega) rfl rfl (by omega) hfo ((E.out.alloc _).drew)).mono ?_;rintro e w2 ⟨rfl,C,r⟩;have z0:w2.cell? ⟨wr,0,none⟩=some (.int .u32 o.g):=(E.out.alloc _).drew.keep r (by simp);have z1:w2.cell? ⟨wr,1,none⟩=some ↑o.c:=(E.out.alloc _).drew.keep r (by simp)))
       have S:=hid C;have F:=hid (R.out.trans ((zam ((qA _).drew) _:wr.grownBy (wr.alloc (.cells #[.int .u32 o.g,o.c] 191)).drew (some m)).trans r));clear C r hsum hk1;go_wp2_with fail
       go_roundw
       case rel=>
        refine ⟨j+1,by omega,by go_num,rfl,rfl,fun i x hi hx=>?_,S.out,F.out⟩;by_cases hij:i<j
        ·exact HNO.out i x hij hx
        ·obtain rfl:i=j:=by omega
         rw[HO.out] at hx
         cases hx
         exact HPB.out
       case measure=>simp[intOf];omega
     ·have hfb:(((andNot o.g b:Nat):Int)==0)=false:=by simp[hfit]
      have J:zbW (W (bs.drop (k+1))) b (W (bs.drop k) b) o=false:=by simp[zbW,hfit]
      have HPB:=hid J;clear hfit J;go_wp2_with fail
      go_quiet (fail)
      go_wp2_with fail
      go_roundw
      case rel=>
       refine ⟨j+1,by omega,by go_num,rfl,rfl,fun i x hi hx=>?_,(E.out.alloc _).drewN nq,R.out.trans (zam (below_drewN (qA _) nq) _)⟩;by_cases hij:i<j
       ·exact HNO.out i x hij hx
       ·obtain rfl:i=j:=by omega
        rw[HO.out] at hx
        cases hx
        exact HPB.out
      case measure=>simp[intOf];omega
    ·obtain rfl:j=l.length:=by omega
     have Y:zdN (W (bs.drop (k+1))) b (W (bs.drop k) b) l=(-1,b):=zog hno;have HPN:=hid Y;clear hno hbt q Y;have q:wo.grownBy wr (some m):=R.out;have M:Blk wr d 381 #[.slice A' k cap',(W bs f:Int)]:=HBLK.out.grown q (fun e=>by injection e with e;omega);have g0:wr.cell? ⟨d,0,none⟩=some (.slice A' k cap'):=M.cell 0;have V:wr.ownsRow (d.heap.size+1) 3 1 (.slice A' k cap') k (ints cs):=G.out.kept q (by
      cases hv:(Value.slice A' k cap').ownBlock with
      |none=>exact .inl rfl
      |some g=>exact .inr fun e=>by injection e with e;have:=(G.out.lt g hv).1;omega)
     have hlt':=q.size;have HBK:=hid M;have L:=hid V;clear q M V;have g0a:=za9 g0 (.cells #[(-1:Int)] 3)
     go_wp2_with (at_builtin;refine zbj _ rfl (.tmp 75) (.tmp 77) zlL rfl (d.heap.size+1) (.slice A' k cap') k (ints cs) rfl (L.out.alloc _) _ _ 1 _ rfl (Sl.new wr #[(-1:Int)] _ 1 1 (by unfold maxLen;omega) rfl) (by simp[Value.oneCell']) (by omega) (by unfold maxLen;omega) (by simp;omega) ?_;intro A3 H w3 s N O;have D:Blk w3 d 381 #[.slice A' k cap',(W bs f:Int)]:=(HBK.out.alloc _).grown N (fun e=>by have:=(L.out.lt _ e.symm).1;omega);have k0:w3.cell? ⟨d,0,none⟩=some (.slice A' k cap'):=D.cell 0;have k1:=D.frozen 0;have HB3:=hid D;have K:=hid N;have HO3:=hid s;clear D N s O)
     go_roundw
     case rel=>
      have P:∀g,(Value.slice A' k cap').ownBlock=some g→d.heap.size+1≤g:=fun g e=>(L.out.lt g e).1;have T:=World.block_lt_of_cell? w _ HB.out.c0;simp only at T;refine ⟨k+1,b,cs++[(-1)],A3,H,by omega,by go_num,rfl,hfi,?_,?_,?_,?_,?_,?_⟩
      ·rw[HCH.out,zh3 HL.out b,HPN.out]
       simp
      ·exact ((E.out.alloc _).far K.out (fun g e=>by have:=P g e;omega)).far (grownBy_setCell _ ⟨d,0,none⟩ _) (fun g e=>by simp at e;omega)
      ·exact zcK (zcK ((Q.out.trans R.out).trans (World.grownBy_alloc _ _ _)) K.out (fun g e=>by have:=P g e;omega)) (grownBy_setCell _ ⟨d,0,none⟩ _) (fun g e=>by simp at e;omega)
      ·exact ((((HRES.out.grown R.out (fun e=>by injection e with e;omega)).alloc _).grown K.out (fun e=>by have:=P _ e.symm;omega)).far (p:=⟨d,0,none⟩) (by simp;omega) _)
      ·exact HB3.out.set_ 0 _
      ·have:=ownsRow_setCell_below HO3.out (a:=⟨d,0,none⟩) (by simp) (.slice A3 (k+1) H)
       simpa [ints] using this
     case measure=>simp[intOf];omega
  ·obtain rfl:k=bs.length:=by omega
   have I:choose bs f=cs:=by rw[hch];simp[choose]
   have y0:=z.cell 0;have y1:=z.cell 1;have y2:=z.frozen;have x0:wo.cell? ⟨d,0,none⟩=some (.slice A' bs.length cap'):=t.cell 0;have x1:wo.cell? ⟨d,1,none⟩=some ↑(W bs f:Int):=t.cell 1
   simp at y0 y1
   clear hbr hgr z t X hch;have T:=World.block_lt_of_cell? w _ HB.out.c0;simp only at T;have HCS:=hid I;clear I;go_wp2_with fail
   refine bodyPost_ret (v:=.agg #[.slice A' bs.length cap',(W bs f:Int)]) (by simp[results,Tryz.results301,go_sem,y0,y1]) rfl ⟨A',cap',rfl,?_,?_,?_⟩
   ·rw[HCS.out];exact zbH (ownsRow_setCell_below (ownsRow_setCell_below G.out (a:=⟨w,0,none⟩) (by simp;omega) _) (a:=⟨w,1,none⟩) (by simp;omega) _) (by omega)
   ·exact (HBR.out.far (grownBy_setCell _ ⟨w,0,none⟩ _) (fun g e=>by simp at e;omega)).far (grownBy_setCell _ ⟨w,1,none⟩ _) (fun g e=>by simp at e;omega)
   ·exact zcK (zcK Q.out (grownBy_setCell _ ⟨w,0,none⟩ _) (fun g e=>by simp at e;omega)) (grownBy_setCell _ ⟨w,1,none⟩ _) (fun g e=>by simp at e;omega)
def zai (n:Int) (bs:List (List Off)):List Int:=choose bs (allOf n)
theorem zs4 (n:Int) (bs:List (List Off)) (v:Value) (R:Nat→Prop) (w:World) (t:zav w R v bs) (s:zaj n bs=0):
  Calls Tryz.prog 292 #[.agg #[n,v],(),.int .u32 (allOf n:Nat)] w fun e w'=>∃A' cap',e=.returned (.tuple #[.agg #[.slice A' bs.length cap',(W bs (allOf n):Int)],()])∧
   w'.ownsRow w.heap.size 3 1 (.slice A' bs.length cap') bs.length (ints (zai n bs))∧Below w w w':=by
 obtain ⟨vs,⟨_,A,O,rfl,_⟩,_⟩:=id t;have I:=hid t;have G:=hid (zhJ t);clear t;have C:=zi7 (zaE s).2.1;have E:=hid (zfi G.out s).1;have L:=hid s;clear s;go_enter Tryz.func292,Tryz.ntmps292
 go_wp2_with (first
  |(go_at_call 299;refine (zki n bs _ R _ ((I.out.alloc _).alloc _)).mono ?_;rintro e w1 ⟨rfl,i⟩;rw[L.out];have b:=i.mono (B':=w.heap.size+2) (by simp);obtain ⟨T,U,y0,y1,Y,Z,F,q⟩:=zbP b;have x:=hid b;have z:=hid q;clear q i b)
  |(go_at_call 300;refine (zf9 n bs _ R _ (I.out.grow z.out) E.out).mono ?_;rintro e w2 ⟨N,m,rfl,o,J,j⟩;have y:=hid o;have M:=hid J;have g:=hid j;clear o J j)
  |(go_at_call 301;refine (zg9 _ N m n _ bs (allOf n) C _ y.out).mono ?_;rintro e w3 ⟨H,d,rfl,c,D,r⟩;have l:=(x.out.trans (g.out.mono F)).grown r (by have:=g.out.size;omega) (fun k e=>by injection e with e;have:=M.out;omega);obtain ⟨V,X,Q,S,gx,gy,P,f⟩:=zbP l;have B:=hid c;have h:=hid f;have K:=g.out.size;clear c D r l f))
 refine bodyPost_ret (v:=.tuple #[.agg #[.slice H bs.length d,(W bs (allOf n):Int)],()]) (by simp[results,Tryz.results292,go_sem,Q,S]) rfl ⟨H,d,rfl,?_,?_⟩
 ·exact zbH (ownsRow_setCell_below (ownsRow_setCell_below B.out (a:=⟨w.heap.size+1,0,none⟩) (by simp;omega) _) (a:=⟨w.heap.size+1,1,none⟩) (by simp;omega) _) (by omega)
 ·exact (h.out.setCell (p:=⟨w.heap.size+1,0,none⟩) (by simp) _).setCell (p:=⟨w.heap.size+1,1,none⟩) (by simp) _
theorem zj8 (n:Int) (bs:List (List Off)) (v:Value) (R:Nat→Prop) (w:World) (s:zav w R v bs) (z:zaj n bs=0):
  Calls Tryz.prog 286 #[.agg #[n,v]] w fun e w'=>∃A' cap',e=.returned (.tuple #[.agg #[.slice A' bs.length cap',(W bs (allOf n):Int)],()])∧
   w'.ownsRow w.heap.size 3 1 (.slice A' bs.length cap') bs.length (ints (zai n bs))∧Below w w w':=by
 obtain ⟨T,⟨_,A,j,rfl,_⟩,_⟩:=id s;have B:=hid s;have C:=hid z;clear s z;go_enter Tryz.func286,Tryz.ntmps286;go_wp2_with fail
 have x:∃l,l=(w.alloc (.cells #[n,.slice A bs.length j] 368)).alloc (.cells #[.slice none 0 0,()] 381):=⟨_,rfl⟩;obtain ⟨l,f⟩:=x;obtain ⟨D,E,N,O,S,K,L,k⟩:=zbP (w1:=l) (by rw[f];exact bR);have m:=hid (show zav l R _ _ from by rw[f];exact (B.out.alloc _).alloc _);have q:=hid k;rw[←f];clear k f
 go_region_held3 (fun w'=>w'.cell? ⟨w,0,none⟩=some ↑n∧w'.cell? ⟨w,1,none⟩=some (.slice A bs.length j)) (go_keep)
  (first
   |(go_at_call 293;refine (zhA n _ _ _ _).mono ?_;rintro e w1 ⟨rfl,b⟩;have F:=qc b D (by simp;omega);have G:=qc b E (by simp;omega);have H:=qc b N (by simp;omega);have I:=qc b O (by simp;omega);have J:∀i,w1.frozen? ⟨w.heap.size+1,i,none⟩=false:=fun i=>(b.frozen (p:=⟨w.heap.size+1,i,none⟩) (by simp;omega)).trans (K i);have t:=b.size;simp at t;have h:=hid b;clear b)
   |(go_at_call 292;refine (zs4 n bs _ R _ (m.out.drew.grow h.out) C.out).mono ?_;rintro e M ⟨y,g,rfl,d,c⟩;have U:=qc c F (by simp;omega);have V:=qc c G (by simp;omega);have P:=qc c H (by simp;omega);have Q:=qc c I (by simp;omega);have X:∀i,M.frozen? ⟨w.heap.size+1,i,none⟩=false:=fun i=>(c.frozen (p:=⟨w.heap.size+1,i,none⟩) (by simp;omega)).trans (J i);have o:=hid c;have r:=hid d;clear c d))
 go_wp2_with fail
 refine bodyPost_ret (v:=.tuple #[.agg #[.slice y bs.length g,(W bs (allOf n):Int)],()]) (by simp[results,Tryz.results286,go_sem,P,Q]) rfl ⟨y,g,rfl,?_,?_⟩
 ·exact zbH (ownsRow_setCell_below (ownsRow_setCell_below r.out (a:=⟨w.heap.size+1,0,none⟩) (by simp;omega) _) (a:=⟨w.heap.size+1,1,none⟩) (by simp;omega) _) (by omega)
 ·exact (((q.out.drew.trans (h.out.mono (by simp;omega))).trans (o.out.mono (by omega))).setCell (p:=⟨w.heap.size+1,0,none⟩) (by simp) _).setCell (p:=⟨w.heap.size+1,1,none⟩) (by simp) _
theorem zjd {n:Int} (h:1≤n∧n≤10):zas n []=0:=by
 unfold zas;rw[if_neg (by omega),if_neg (by simp)]
 rfl
theorem zlX {n:Int} {bs:List (List Off)} (e:1≤n) (f:n≤10) (g:bs.length≤32) (a:∀l∈bs,l.length≤8) (b:∀l∈bs,zas n l=0):zaj n bs=0:=by
 unfold zaj;rw[if_neg (by omega),if_neg,zdp n bs b];rintro (h|h)
 ·omega
 ·obtain ⟨l,d,c⟩:=List.any_eq_true.1 h;have:=a l d
  simp[zbN] at c
  omega
theorem zpm {n:Int} {bs:List (List Off)} {l:List Off} {i:Nat} (h:zaj n bs=0) (j:l.length≤8) (g:zas n l=0):zaj n (bs.set i l)=0:=by
 obtain ⟨b,c,d,e,f⟩:=zaE h;refine zlX b c (by simpa using d) (fun x a=>?_) (fun x a=>?_)
 ·rcases List.mem_or_eq_of_mem_set a with h|rfl
  ·exact e x h
  ·exact j
 ·rcases List.mem_or_eq_of_mem_set a with h|rfl
  ·exact f x h
  ·exact g
theorem zhe {n:Int} {bs:List (List Off)} {i:Nat} (h:zaj n bs=0):zaj n (bs.set i [])=0:=
 zpm h (by simp) (zjd ⟨(zaE h).1,(zaE h).2.1⟩)
theorem zqx {n:Int} {bs:List (List Off)} {i:Int} (h:zaj n bs=0) (a:0≤i) (b:i<bs.length):zbc n bs i []=0:=by
 unfold zbc;rw[if_neg (by simpa using h),if_neg (by omega)];exact zjd ⟨(zaE h).1,(zaE h).2.1⟩
theorem zj3 {n:Int} {bs:List (List Off)} {i:Int} {l:List Off} (h:zbc n bs i l=0):zaj n bs=0:=by
 by_cases hi:zaj n bs=0
 ·exact hi
 ·unfold zbc at h;rw[if_pos hi] at h;exact absurd h hi
def woW (n:Int) (bs:List (List Off)) (i:Int):Int:=if zbc n bs i []=0 then W (bs.set i.toNat []) (allOf n) else 0
theorem zkr (n:Int) (bs:List (List Off)) (a:Int) (v:Value) (R:Nat→Prop) (w:World) (s:zav w R v bs):
  Calls Tryz.prog 288 #[.agg #[n,v],a] w fun e w'=>e=.returned (.tuple #[(woW n bs a:Int),(zbc n bs a []:Int)])∧Below w w w':=by
 obtain ⟨D,⟨_,A,z,rfl,_⟩,_⟩:=id s;have t:=hid s;clear s;by_cases he:zbc n bs a []=0
 ·have g:woW n bs a=W (bs.set a.toNat []) (allOf n):=by unfold woW;rw[if_pos he]
  have r:=zhe (i:=a.toNat) (zj3 he);have j:zfx n (bs.set a.toNat [])=W (bs.set a.toNat []) (allOf n):=by unfold zfx;rw[if_pos r]
  have q:=hid g;have l:=hid he;have y:=hid r;have o:=hid j;clear g he r j;go_enter Tryz.func288,Tryz.ntmps288
  go_wp2_with (first
   |(go_at_call 294;refine (zj4 n bs a _ R _ (t.out.alloc _) l.out).mono ?_;rintro e C ⟨x,f,rfl,k,b⟩;have p:=hid k;have c:=hid (b.mono (B':=w.heap.size+1) (by simp));clear k b)
   |(go_at_call 295;refine (ztY n (bs.set a.toNat []) (.slice x bs.length f) _ _ ((p.out.alloc _).buys)).mono ?_;rintro e E ⟨rfl,h⟩;rw[o.out,y.out];have m:=hid h;clear h))
  go_ret2
  refine ⟨by rw[q.out,l.out];rfl,?_⟩;have d:=(ze1 c.out).2.2.2.2;exact (d.alloc d.size _).trans (m.out.mono (by have:=d.size;simp;omega))
 ·have g:woW n bs a=0:=by unfold woW;rw[if_neg he]
  have B:(zbc n bs a [] !=0)=true:=by simpa using he
  have q:=hid g;have l:=hid he;clear g he;go_enter Tryz.func288,Tryz.ntmps288
  go_wp2_with (go_at_call 294;refine (zmV n bs a _ R _ (t.out.alloc _) l.out).mono ?_;rintro e C ⟨rfl,b⟩;have c:=hid (b.mono (B':=w.heap.size+1) (by simp));clear b)
  go_ret2
  refine ⟨by rw[q.out];rfl,?_⟩;have d:=(ze1 c.out).2.2.2.2;exact d.alloc d.size _
def zgT (n:Int) (bs:List (List Off)) (key val:Value):Prop:=∃i:Nat,i<bs.length∧bs.length≤32∧key=.int .i64 i∧val=.int .i64 (woW n bs i)
def zfz:List Value:=(List.range 32).map fun i=>.int .i64 (i:Nat)
theorem ziF:zfz.length<maxLen:=by
 have:zfz.length=32:=by simp[zfz]
 rw[this]
 decide
theorem zpr (n:Int) (bs:List (List Off)):∀k v,zgT n bs k v→k∈zfz:=by
 rintro a b ⟨i,c,d,rfl,_⟩;exact List.mem_map.2 ⟨i,List.mem_range.2 (by omega),rfl⟩
theorem zlY:Maps.Keyed Tryz.prog 3:=Maps.int_keyed Tryz.underlying3
structure LostAt (w:World) (B b5 b1 b2 mm:Nat) (n:Int) (v:Value) (bs:List (List Off)):Prop where
 c5:w.cell? ⟨b5,0,none⟩=some (.map (some mm))
 x0:w.cell? ⟨b1,0,none⟩=some (.int .i64 n)
 x1:w.cell? ⟨b1,1,none⟩=some v
 w1:w.cell? ⟨b2,1,none⟩=some (.int .i64 (W bs (allOf n)))
 buys:zav w (·<B) v bs
 hB:B≤mm
 map:za3 Tryz.prog 3 2 w mm (zgT n bs)
 ok:zaj n bs=0
section
variable {w w':World} {B b5 b1 b2 mm:Nat} {n:Int} {v:Value} {bs:List (List Off)}
theorem LostAt.keep (h:LostAt w B b5 b1 b2 mm n v bs) (hg:w.grownBy w' (some mm)) {p:Addr} {u:Value} (hc:w.cell? p=some u):w'.cell? p=some u:=hg.cell hc (fun e=>h.map.not_cells hc (by injection e))
theorem LostAt.grown (h:LostAt w B b5 b1 b2 mm n v bs) (hg:w.grownBy w' (some mm)) (hm:za3 Tryz.prog 3 2 w' mm (zgT n bs)):LostAt w' B b5 b1 b2 mm n v bs:=
 ⟨h.keep hg h.c5,h.keep hg h.x0,h.keep hg h.x1,h.keep hg h.w1,h.buys.grown hg (fun b _ hb e=>by injection e with e;have:=h.hB;omega),h.hB,hm,h.ok⟩
theorem LostAt.grow (h:LostAt w B b5 b1 b2 mm n v bs) (hb:Below w w w'):LostAt w' B b5 b1 b2 mm n v bs:=h.grown (zam hb _) (h.map.grow hb)
theorem LostAt.alloc (h:LostAt w B b5 b1 b2 mm n v bs) (o:Obj):LostAt (w.alloc o) B b5 b1 b2 mm n v bs:=h.grow (bR.alloc lR o)
theorem LostAt.drew (h:LostAt w B b5 b1 b2 mm n v bs):LostAt w.drew B b5 b1 b2 mm n v bs:=⟨h.c5,h.x0,h.x1,h.w1,h.buys,h.hB,h.map,h.ok⟩
theorem LostAt.far {row:Option Nat} (h:LostAt w B b5 b1 b2 mm n v bs) (hg:w.grownBy w' row) (hr:∀g,row=some g→b5<g∧b1<g∧b2<g∧mm<g):LostAt w' B b5 b1 b2 mm n v bs:=
 ⟨hg.cell h.c5 (fun e=>by have:=hr _ e.symm;simp at this),hg.cell h.x0 (fun e=>by have:=hr _ e.symm;simp at this),hg.cell h.x1 (fun e=>by have:=hr _ e.symm;simp at this),
  hg.cell h.w1 (fun e=>by have:=hr _ e.symm;simp at this),h.buys.grown hg (fun b _ hb e=>by have:=hr b e.symm;have:=h.hB;omega),h.hB,h.map.grown hg (fun e=>by have:=hr mm e.symm;omega),h.ok⟩
end
theorem zmp {n:Int} {bs:List (List Off)} (d:∀l∈bs,∀o∈l,o.wf) (h:zaj n bs=0) (i:Int):0≤woW n bs i∧woW n bs i≤35184372088832:=by
 unfold woW
 split
 ·have a:=(zfi (bs:=bs.set i.toNat []) (fun l c o b=>by
   rcases List.mem_or_eq_of_mem_set c with h|rfl
   ·exact d l h o b
   ·cases b) (zhe h)).1
  exact ⟨zdr _ _,by simpa using a.W_le 0 (allOf n)⟩
 ·omega
theorem zqN (B b5 b1 b2 mm:Nat) (n:Int) (v:Value) (bs:List (List Off)) (i:Nat) (F:i<bs.length) (w:World) (h:LostAt w B b5 b1 b2 mm n v bs):
  Calls Tryz.prog 287 #[i,.pointer (some ⟨b5,0,none⟩),.pointer (some ⟨b1,0,none⟩),.pointer (some ⟨b2,0,none⟩)] w fun e w'=>e=.returned ↑(W bs (allOf n)-woW n bs i:Int)∧LostAt w' B b5 b1 b2 mm n v bs∧w.grownBy w' (some mm):=by
 have j:=zhJ h.buys;have o:=(zaE h.ok).2.2.1;obtain ⟨I,J⟩:=zmp j h.ok i;have D:=zdr bs (allOf n);have E:W bs (allOf n)≤35184372088832:=by simpa using (zfi j h.ok).1.W_le 0 (allOf n)
 have d:=Maps.keyOf_int_mk (P:=Tryz.prog) Tryz.underlying3 (a:=(i:Int)) (WalkArith.wf_i64 (by omega));obtain ⟨O,⟨_,A,z,rfl,_⟩,_⟩:=id h.buys;have H:=hid h;have y:=hid d;have q:=zqx (i:=(i:Int)) h.ok (by omega) (by omega);have s:=hid q;have g:=h.map.look zlY Tryz.underlying183 zqy d true;obtain ⟨L,T,U,Q,_,_,_,_⟩:=h;clear j d q
 rcases g with hrun|⟨vv,hrun,hgood⟩
 ·have G:=hrun w rfl;clear hrun;go_enter Tryz.func287,Tryz.ntmps287
  go_wp2_with (go_at_call 288;refine (zkr n bs _ _ _ _ H.out.buys).mono ?_;rintro e R ⟨rfl,b⟩;rw[s.out];have M:=(H.out.grow b).c5;have C:=(H.out.grow b).w1;obtain ⟨S,x,p,f⟩:=(H.out.grow b).map.store zlY Tryz.underlying183 Tryz.underlying2 (zpr n bs) ziF y.out (c:=woW n bs i) (WalkArith.wf_i64 (by omega)) ⟨i,F,o,rfl,rfl⟩;have N:=(H.out.grow b).keep f C;have k:=hid b;have r:=hid p;have l:=hid f;clear b p f)
  go_ret;exact ⟨by simp,(H.out.grow k.out).grown l.out r.out,(zam k.out _).trans l.out⟩
 ·obtain ⟨K,_,_,m,rfl⟩:=hgood;have t:K=i:=by simp at m;omega
  subst t;have G:=hrun w rfl;clear hrun m;go_enter Tryz.func287,Tryz.ntmps287
  go_wp2
  go_ret;exact ⟨by simp,H.out,zam bR _⟩
theorem Sl.keep' {w w':World} {B n sz:Nat} {v:Value} {xs:List Value} (h:Sl w (·<B) v n sz xs) (hb:Below B w w'):Sl w' (·<B) v n sz xs:=h.below hb (fun _ _ hb=>hb)
theorem zav.keep' {w w':World} {B:Nat} {v:Value} {bs:List (List Off)} (h:zav w (·<B) v bs) (a:Below B w w'):zav w' (·<B) v bs:=by
 obtain ⟨e,d,c⟩:=h;exact ⟨e,d.keep' a,fun k l b=>let ⟨u,hu,hl⟩:=c k l b;⟨u,hu,hl.1.keep' a,hl.2⟩⟩
theorem zhZ {w w1:World} {cs ds:Array Value} {t u:TypeId} (hb:Below (w.heap.size+2) ((w.alloc (.cells cs t)).alloc (.cells ds u)) w1):Blk w1 w t cs∧Blk w1 (w.heap.size+1) u ds:=
 ⟨((Blk.new w t cs).alloc _).below hb (by omega),by
  have:=Blk.new (w.alloc (.cells cs t)) u ds;rw[World.size_alloc] at this;exact this.below hb (by omega)⟩
theorem zs1 {w w1:World} {cs:Array Value} {t:TypeId} (hb:Below (w.heap.size+1) (w.alloc (.cells cs t)) w1):Blk w1 w t cs:=(Blk.new w t cs).below hb (by omega)
theorem zsN (n:Int) (bs:List (List Off)) (v:Value) (R:Nat→Prop) (w:World) (z:zav w R v bs) (F:zaj n bs=0):
  Calls Tryz.prog 283 #[.agg #[n,v]] w fun e w'=>∃A' cap' b5 b1 b2 mm,e=.returned (.tuple #[.agg #[.slice A' bs.length cap',(W bs (allOf n):Int)],.func (.func 287) #[] #[.pointer (some ⟨b5,0,none⟩),.pointer (some ⟨b1,0,none⟩),.pointer (some ⟨b2,0,none⟩)],()])∧
   w'.ownsRow w.heap.size 3 1 (.slice A' bs.length cap') bs.length (ints (zai n bs))∧LostAt w' w.heap.size b5 b1 b2 mm n v bs∧w.heap.size≤mm∧Below w w w':=by
 obtain ⟨vs,⟨_,A,K,rfl,_⟩,_⟩:=id z;have B:=hid z;have C:=hid F;have Q:=@run_makeMap Tryz.prog;clear z F;go_enter Tryz.func283,Tryz.ntmps283
 go_wp2_with (go_at_call 286;refine (zj8 n bs _ R _ ((B.out.alloc _).alloc _) C.out).mono ?_;rintro e c ⟨d,b,rfl,h,l⟩;have g:=l.mono (B':=w.heap.size+2) (by simp);obtain ⟨U,V,y0,y1,X,Y,S,q⟩:=zbP g;have j:=(((zhZ g).2.set_ 0 (.slice d bs.length b)).set_ 1 ↑(W bs (allOf n):Int));simp at j;have G:=fun o r=>(((j.alloc o).alloc r).cell 0);have H:=fun o r=>(((j.alloc o).alloc r).cell 1);have Z:=fun o r i=>(((j.alloc o).alloc r).frozen i);simp at G H;have I:=hid j;have J:=hid (zhZ g).1;have s:=hid h;clear j;have k:=hid q;clear h l g q)
 refine bodyPost_ret (v:=.tuple #[.agg #[.slice d bs.length b,(W bs (allOf n):Int)],.func (.func 287) #[] #[.pointer (some ⟨c.heap.size+1,0,none⟩),.pointer (some ⟨w,0,none⟩),.pointer (some ⟨w.heap.size+1,0,none⟩)],()]) (by simp[results,Tryz.results283,go_sem,G,H]) rfl ⟨d,b,c.heap.size+1,w.heap.size,w.heap.size+1,c.heap.size,rfl,?_,?_,by omega,?_⟩
 ·have L:=((ownsRow_setCell_below (ownsRow_setCell_below s.out (a:=⟨w.heap.size+1,0,none⟩) (by simp) (.slice d bs.length b)) (a:=⟨w.heap.size+1,1,none⟩) (by simp) ↑(W bs (allOf n):Int)).alloc (.map #[] 0)).alloc (.cells #[.map (some c.heap.size)] 183);exact zbH (ownsRow_setCell_below (ownsRow_setCell_below L (a:=⟨w.heap.size+1,0,none⟩) (by simp) _) (a:=⟨w.heap.size+1,1,none⟩) (by simp) _) (by simp;omega)
 ·have f:((c.setCell ⟨w.heap.size+1,0,none⟩ (.slice d bs.length b)).setCell ⟨w.heap.size+1,1,none⟩ ↑(W bs (allOf n):Int)).heap.size=c.heap.size:=by simp[World.setCell]
  have T:=((J.out.far (p:=⟨w.heap.size+1,0,none⟩) (by simp) (.slice d bs.length b)).far (p:=⟨w.heap.size+1,1,none⟩) (by simp) ↑(W bs (allOf n):Int));have O:za3 Tryz.prog 3 2 (((c.setCell ⟨w.heap.size+1,0,none⟩ (.slice d bs.length b)).setCell ⟨w.heap.size+1,1,none⟩ ↑(W bs (allOf n):Int)).alloc (.map #[] 0)) c.heap.size (zgT n bs):=by
   have:=za3.made (P:=Tryz.prog) (kt:=3) (et:=2) (Good:=zgT n bs) ((c.setCell ⟨w.heap.size+1,0,none⟩ (.slice d bs.length b)).setCell ⟨w.heap.size+1,1,none⟩ ↑(W bs (allOf n):Int))
   rwa [f] at this
  have D:=Blk.new (((c.setCell ⟨w.heap.size+1,0,none⟩ (.slice d bs.length b)).setCell ⟨w.heap.size+1,1,none⟩ ↑(W bs (allOf n):Int)).alloc (.map #[] 0)) 183 #[.map (some c.heap.size)];rw[World.size_alloc,f] at D;have m:=(zmX B.out lR).grow k.out;have y:Below w c ((((c.setCell ⟨w.heap.size+1,0,none⟩ (.slice d bs.length b)).setCell ⟨w.heap.size+1,1,none⟩ ↑(W bs (allOf n):Int)).alloc (.map #[] 0)).alloc (.cells #[.map (some c.heap.size)] 183)):=
   (((bR.setCell (p:=⟨w.heap.size+1,0,none⟩) (by simp) _).setCell (p:=⟨w.heap.size+1,1,none⟩) (by simp) _).alloc (by rw[f];omega) _).alloc (by rw[World.size_alloc,f];omega) _
  have x:Below w c (((((((c.setCell ⟨w.heap.size+1,0,none⟩ (.slice d bs.length b)).setCell ⟨w.heap.size+1,1,none⟩ ↑(W bs (allOf n):Int)).alloc (.map #[] 0)).alloc (.cells #[.map (some c.heap.size)] 183)).setCell ⟨w.heap.size+1,0,none⟩ (.slice d bs.length b)).setCell ⟨w.heap.size+1,1,none⟩ ↑(W bs (allOf n):Int))):=
   (y.setCell (p:=⟨w.heap.size+1,0,none⟩) (by simp) _).setCell (p:=⟨w.heap.size+1,1,none⟩) (by simp) _
  have M:=((((I.out.alloc (.map #[] 0)).alloc (.cells #[.map (some c.heap.size)] 183)).set_ 0 (.slice d bs.length b)).set_ 1 ↑(W bs (allOf n):Int));have E:=(((T.alloc (.map #[] 0)).alloc (.cells #[.map (some c.heap.size)] 183)).far (p:=⟨w.heap.size+1,0,none⟩) (by simp) (.slice d bs.length b)).far (p:=⟨w.heap.size+1,1,none⟩) (by simp) ↑(W bs (allOf n):Int);have N:=((O.alloc (.cells #[.map (some c.heap.size)] 183)).setCell (p:=⟨w.heap.size+1,0,none⟩) (by simp;omega) (.slice d bs.length b)).setCell (p:=⟨w.heap.size+1,1,none⟩) (by simp;omega) ↑(W bs (allOf n):Int);have t:=(D.far (p:=⟨w.heap.size+1,0,none⟩) (by simp;omega) (.slice d bs.length b)).far (p:=⟨w.heap.size+1,1,none⟩) (by simp;omega) ↑(W bs (allOf n):Int);exact ⟨t.cell 0,E.cell 0,E.cell 1,(M.cell 1).trans (by simp),m.keep' x,by omega,N,C.out⟩
 ·have f:((c.setCell ⟨w.heap.size+1,0,none⟩ (.slice d bs.length b)).setCell ⟨w.heap.size+1,1,none⟩ ↑(W bs (allOf n):Int)).heap.size=c.heap.size:=by simp[World.setCell]
  exact k.out.trans (((((((bR.setCell (p:=⟨w.heap.size+1,0,none⟩) (by simp) _).setCell (p:=⟨w.heap.size+1,1,none⟩) (by simp) _).alloc (by rw[f];omega) _).alloc (by rw[World.size_alloc,f];omega) _).setCell (p:=⟨w.heap.size+1,0,none⟩) (by simp) _).setCell (p:=⟨w.heap.size+1,1,none⟩) (by simp) _))
end Vb
end Go.Proofs.YtckdpejdnejhfaaGreat

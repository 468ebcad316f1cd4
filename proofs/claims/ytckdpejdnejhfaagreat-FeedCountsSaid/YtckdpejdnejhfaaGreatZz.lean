/- Joined by program. -/
import Derived.Test.YtckdpejdnejhfaaGreatZy
set_option linter.all false
set_option maxRecDepth 100000
set_option maxHeartbeats 32000000
namespace Go.Proofs.YtckdpejdnejhfaaGreat
open Lib (hid)
namespace Vb
theorem zii {g:Nat→Int} {f:Nat} {left:Int}:∀{l:List Off} {j x:Nat},zbL g f left l=some (j,x)→∃o,l[j]? =some o∧o.g=x∧andNot o.g f=0∧o.c+g (andNot f o.g)=left∧∀i y,i<j→l[i]? =some y→zbW g f left y=false
 |o::l,j,x,h=>by
  simp only[zbL] at h
  split at h
  ·rename_i hb
   simp only[Option.some.injEq,Prod.mk.injEq] at h;obtain ⟨rfl,rfl⟩:=h;simp only[zbW,Bool.and_eq_true,decide_eq_true_eq] at hb;exact ⟨o,rfl,rfl,hb.1,hb.2,fun i y hi=>by omega⟩
  ·rename_i hb
   cases hp:zbL g f left l with
   |none=>rw[hp] at h;cases h
   |some p=>
    rw[hp] at h;simp only[Option.map_some,Option.some.injEq,Prod.mk.injEq] at h;obtain ⟨rfl,rfl⟩:=h;obtain ⟨o',h1,h2,h3,h4,h5⟩:=zii (j:=p.1) (x:=p.2) hp;refine ⟨o',by simpa using h1,h2,h3,h4,fun i y hi hy=>?_⟩
    cases i with
    |zero=>simp at hy;subst hy;simpa using hb
    |succ i=>exact h5 i y (by omega) (by simpa using hy)
end Vb
namespace Vb
open Go.RowKit
theorem zad.at_ {w:World} {R:Nat→Prop} {A:Option Addr} {n c k:Nat} {l:List Off} {o:Off} (h:zad w R (.slice A n c) l) (i:l[k]? =some o):
  ∃b off,A=some ⟨b,off,none⟩∧b<w.heap.size∧w.cell? ⟨b,off+k*2,none⟩=some (.int .u32 o.g)∧w.cell? ⟨b,off+k*2+1,none⟩=some ↑o.c:=by
 obtain ⟨⟨_,p,q,m,_,_,f⟩,_⟩:=h;injection m with e _ _
 subst e;have j:=(gS.1 i).1;obtain ⟨b,off,e,_,d,a⟩:=f (by omega);exact ⟨b,off,e,d,a _ _ (Off.all_fst l k o i),a _ _ (Off.all_snd l k o i)⟩
def zaG (c:Int) (l:List Off):List Off:=(l.filter (fun o=>decide (c<o.c))).map (fun o=>⟨o.g,o.c-c⟩)
theorem ziN (c:Int) (l:List Off):(zaG c l).length≤l.length:=by simp[zaG,List.length_filter_le]
theorem zpy (c:Int) (l:List Off) (o:Off):zaG c (l++[o])=zaG c l++(if c<o.c then [⟨o.g,o.c-c⟩] else []):=by
 by_cases h:c<o.c<;>simp[zaG,h]
theorem zpz {c:Int} {l:List Off} {k:Nat} {o:Off} (b:l[k]? =some o):zaG c (l.take (k+1))=zaG c (l.take k)++(if c<o.c then [⟨o.g,o.c-c⟩] else []):=by
 obtain ⟨a,rfl⟩:=gS.mp b;rw[List.take_succ_eq_append_getElem a,zpy]
theorem zna (c:Int) (e:0≤c) (l:List Off) (h:∀o∈l,o.wf):∀o∈zaG c l,o.wf:=by
 intro o a;simp only[zaG,List.mem_map,List.mem_filter,decide_eq_true_eq] at a;obtain ⟨p,⟨d,b⟩,rfl⟩:=a;have:=h p d;unfold Off.wf at*;simp only
 omega
theorem Off.all_snoc (l:List Off) (o:Off):Off.all l++[.int .u32 o.g,.int .i64 o.c]=Off.all (l++[o]):=by simp[Off.all,Off.cells]
theorem zpA (c:Int) (E:0≤c) (Y:c≤9223372036854775807) (l:List Off) (v:Value) (R:Nat→Prop) (w:World) (J:zad w R v l) (T:l.length≤64):
  Calls Tryz.prog 304 #[.int .i64 c,v] w fun e w'=>∃A' cap',e=.returned (.slice A' (zaG c l).length cap')∧w'.ownsRow w.heap.size 191 2 (.slice A' (zaG c l).length cap') (zaG c l).length (Off.all (zaG c l))∧Below w w w':=by
 have N:=hid J;obtain ⟨⟨_,A,O,rfl,G,q,_⟩,x⟩:=J;unfold maxLen at q;have D:=hid x;clear x;have Q:¬c<0:=by omega
 have S:max c 0=c:=Int.max_eq_left E;go_enter Tryz.func304,Tryz.ntmps304
 go_wp2
 go_loopw [5,12] (fun s i wr=>∃k:Nat,k≤l.length∧i=.int .i64 k∧(∃A' cap',s=.slice A' (zaG c (l.take k)).length cap'∧wr.ownsRow w.heap.size 191 2 (.slice A' (zaG c (l.take k)).length cap') (zaG c (l.take k)).length (Off.all (zaG c (l.take k))))∧
   Below w w wr) (fun _ i _=>l.length-(intOf i).toNat)
 case atStart=>exact ⟨0,zL,rfl,⟨_,_,rfl,World.ownsRow_nil _ _ _ _⟩,bR⟩
 case round=>
  obtain ⟨k,Z,rfl,⟨A',cap',rfl,f⟩,m⟩:=hrel;by_cases hlt:k<l.length
  ·obtain ⟨o,z⟩:∃o,l[k]? =some o:=⟨_,gE hlt⟩;obtain ⟨X,V,rfl,P,q0,q1⟩:=(N.out.grow m).at_ z;have H:=D.out o (mG z);unfold Off.wf at H;have h:=ziN c (l.take k);have F:(zaG c (l.take k)).length≤64:=by simp at h;omega
   have I:=hid (zpz (c:=c) z);have n:=hid f;have y:=hid m;have U:=m.size;clear f m h z;by_cases hgt:c<o.c
   ·have a:=hid (show zaG c (l.take (k+1))=zaG c (l.take k)++[⟨o.g,o.c-c⟩] by rw[I.out,if_pos hgt]);obtain ⟨L,K⟩:=o;simp only at*
    go_wp2_with (first
     |(at_builtin;go_must (refine zbj _ rfl (.tmp 20) (.tmp 28) zoV rfl w.heap.size (.slice A' (zaG c (l.take k)).length cap') _ _ rfl ((zbl (zbl n.out _) _)) (fun _=>True) (.slice (some ⟨wr.heap.size+1,0,none⟩) 1 1) 1 [.int .u32 L,.int .i64 (K-c)] rfl (Sl.blk (sz:=2) (cs:=#[.int .u32 L,.int .i64 (K-c)]) (t:=191) (Blk.new' _ _ (by simp)) (Nat.le_refl 1) (by unfold maxLen;omega) rfl) (by simp[Value.oneCell']) (by omega) (by unfold maxLen;omega) (by simp;omega) ?_);intro M p w3 d r j;have C:=hid d;have B:=hid r;clear d r j))
    go_roundw
    case rel=>
     have b:(zaG c (l.take (k+1))).length=(zaG c (l.take k)).length+1:=by rw[a.out];simp
     refine ⟨k+1,by omega,by go_num,⟨M,p,by rw[b],?_⟩,?_⟩
     ·rw[b,a.out,←Off.all_snoc];exact C.out
     ·exact ((y.out.alloc (by omega) _).alloc (by simp;omega) _).grown B.out (by simp;omega) (fun g e=>(n.out.lt g e).1)
    case measure=>simp[intOf];omega
   ·have a:=hid (show zaG c (l.take (k+1))=zaG c (l.take k) by rw[I.out,if_neg hgt,List.append_nil])
    go_wp2
    go_roundw
    case rel=>
     refine ⟨k+1,by omega,by go_num,⟨A',cap',by rw[a.out],?_⟩,y.out.alloc (by omega) _⟩;rw[a.out];exact zbl n.out _
    case measure=>simp[intOf];omega
  ·obtain rfl:k=l.length:=by omega
   rw[List.take_length] at*;have n:=hid f;have y:=hid m;clear f m
   go_wp2
   go_ret;exact ⟨_,_,rfl,n.out,y.out⟩
theorem zlc (ps:List Int) (p:Value) (R:Nat→Prop) (w:World) (h:Sl w R p ps.length 1 (ints ps)) (n:∀x∈ps,-9007199254740992≤x∧x≤9007199254740992) (F:ps.length≤64):
  Calls Tryz.prog 298 #[p] w fun e w'=>e=.returned ↑(zaB ps:Int)∧w=w':=by
 obtain ⟨_,A,r,rfl,y,g,a⟩:=h;unfold maxLen at g;have q:=hid a;have l:=hid n;clear a n;go_enter Tryz.func298,Tryz.ntmps298
 go_wp2
 go_loop [3,8] (fun s i=>∃k:Nat,k≤ps.length∧i=.int .i64 k∧s=.int .i64 (zaB (ps.take k))) (fun _ i=>ps.length-(intOf i).toNat)
 case atStart=>exact ⟨0,zL,rfl,rfl⟩
 case round=>
  obtain ⟨k,E,rfl,rfl⟩:=hrel;by_cases hlt:k<ps.length
  ·obtain ⟨C,B,rfl,_,v,a⟩:=q.out (by omega);obtain ⟨c,d⟩:∃c,ps[k]? =some c:=⟨_,gE hlt⟩;have D:=a _ _ (zrf d);have b:=zqd d;have m:=znn (ps.take k) (fun x z=>l.out x (List.mem_of_mem_take z));have t:=l.out c (mG d);have j:((ps.take k).length:Int)=k:=by simp;omega
   rw[j] at m;have o:IntKind.i64.wrap (zaB (ps.take k)+c)=zaB (ps.take k)+c:=iW _ (by omega);have f:=hid b;clear b m t d a
   go_wp2
   go_round
   case rel=>exact ⟨k+1,by omega,by go_num,by rw[f.out]⟩
   case measure=>simp[intOf];omega
  ·obtain rfl:k=ps.length:=by omega
   rw[List.take_length]
   go_wp2
   go_ret;exact ⟨rfl,rfl⟩
def zay (n:Int) (bs:List (List Off)):List Int:=(zai n bs).mapIdx fun i c=>zb6 bs i c
def zc6 (cs:List Int) (i:Nat):Bool:=match cs[i]? with|some c=>decide (0≤c)|none=>false
def zcQ (cs:List Int):List Bool:=(List.range 32).map (zc6 cs)
def zd1 (n:Int) (v:Value) (ws:List Bool) (sl:Value):List Value:=.int .i64 n::v::(ws.map Value.bool++[sl])
theorem zft (n:Int) (v:Value) (b:List Bool) (a:Value) (h:b.length=32):(zd1 n v b a).toArray[34]? =some a:=by
 simp[zd1,List.getElem?_append,h]
theorem zmr (n:Int) (v:Value) (a:List Bool) (d:Value) (i:Nat) (b:Bool) (h:a[i]? =some b):(zd1 n v a d).toArray[2+i]? =some ↑b:=by
 have c:=(gS.mp h).1;rw[show 2+i=i+1+1 from by omega]
 simp[zd1,List.getElem?_append,c]
 exact (gS.mp h).2
theorem zmq (n:Int) (v:Value) (a:List Bool) (c:Value) (i:Nat) (b:Bool) (h:i<a.length):(zd1 n v a c).toArray.setIfInBounds (2+i) ↑b=(zd1 n v (a.set i b) c).toArray:=by
 rw[show 2+i=i+1+1 from by omega]
 simp[zd1,List.set_append,h]
theorem zdE (cs:List Int):(zcQ cs).length=32:=by simp[zcQ]
theorem zhB (cs:List Int) {i:Nat} (h:i<32):(zcQ cs)[i]? =some (zc6 cs i):=by simp[zcQ,h]
theorem zks {cs:List Int} {k:Nat} {c:Int} (h:cs[k]? =some c) (a:c<0):zcQ (cs.take (k+1))=zcQ (cs.take k):=by
 unfold zcQ
 apply List.map_congr_left
 intro i _;unfold zc6;by_cases hk:i=k
 ·subst hk;rw[List.getElem?_take_of_lt (by omega),h,List.getElem?_eq_none (by simp;omega)]
  simp;omega
 ·by_cases hi:i<k
  ·rw[List.getElem?_take_of_lt (by omega),List.getElem?_take_of_lt hi]
  ·rw[List.getElem?_eq_none (by simp;omega),List.getElem?_eq_none (by simp;omega)]
theorem zkt {cs:List Int} {k:Nat} {c:Int} (h:cs[k]? =some c) (a:0≤c):zcQ (cs.take (k+1))=(zcQ (cs.take k)).set k true:=by
 apply List.ext_getElem?
 intro i;by_cases hi:i<32
 ·rw[zhB _ hi];by_cases hk:k=i
  ·subst hk;rw[List.getElem?_set_self (by rw[zdE];omega)];unfold zc6;rw[List.getElem?_take_of_lt (by omega),h]
   simp[a]
  ·rw[List.getElem?_set_ne hk,zhB _ hi];unfold zc6;by_cases hik:i<k
   ·rw[List.getElem?_take_of_lt (by omega),List.getElem?_take_of_lt hik]
   ·rw[List.getElem?_eq_none (by simp;omega),List.getElem?_eq_none (by simp;omega)]
 ·rw[List.getElem?_eq_none (by rw[zdE];omega),List.getElem?_eq_none (by simp[zdE];omega)]
theorem za5 (n:Int) (bs:List (List Off)):(zay n bs).length=bs.length:=by simp[zay,zai,zbz]
theorem zkA {n:Int} {bs:List (List Off)} {i:Nat} {c:Int} (h:(zai n bs)[i]? =some c):(zay n bs)[i]? =some (zb6 bs i c):=by simp[zay,h]
def zdF (n:Int) (bs:List (List Off)) (k:Nat):List Int:=(zay n bs).take k++List.replicate (bs.length-k) 0
theorem zqC {n:Int} {bs:List (List Off)} {k:Nat} (h:k≤bs.length):(zdF n bs k).length=bs.length:=by
 unfold zdF;rw[List.length_append,List.length_take,za5,List.length_replicate]
 omega
theorem zqB (n:Int) (bs:List (List Off)):zdF n bs bs.length=zay n bs:=by
 unfold zdF;rw[Nat.sub_self,List.replicate_zero,List.append_nil,List.take_of_length_le (by rw[za5];omega)]
theorem zly {n:Int} {bs:List (List Off)} {k:Nat} {c:Int} (b:k<bs.length) (h:(zay n bs)[k]? =some c):(zdF n bs k).set k c=zdF n bs (k+1):=by
 have a:((zay n bs).take k).length=k:=by rw[List.length_take,za5];omega
 unfold zdF;rw[List.set_append_right _ _ (by omega),a,Nat.sub_self,show bs.length-k=(bs.length-(k+1))+1 from by omega,List.replicate_succ,List.set_cons_zero,List.take_add_one,h]
 simp
theorem zoM {n:Int} {bs:List (List Off)} {k:Nat} (a:k<bs.length) (h:(zay n bs)[k]? =some 0):zdF n bs (k+1)=zdF n bs k:=by
 rw[←zly a h];have b:((zay n bs).take k).length=k:=by rw[List.length_take,za5];omega
 unfold zdF;rw[List.set_append_right _ _ (by omega),b,Nat.sub_self,show bs.length-k=(bs.length-(k+1))+1 from by omega,List.replicate_succ,List.set_cons_zero]
theorem zof {w:World} {base g n:Nat} {e:TypeId} {l:List Int} (h:Blk w g e (ints l).toArray) (hg:base≤g) (hn:l.length=n) (hm:n≤maxLen):w.ownsRow base e 1 (.slice (some ⟨g,0,none⟩) n n) n (ints l):=
 ⟨by simp[ints,hn],.inr ⟨g,n,_,rfl,hg,h,lR,hm,by simp[ints,hn],by rw[Nat.mul_one];exact List.take_of_length_le (by simp[ints,hn])⟩⟩
theorem ints_set {l:List Int} {k:Nat} {c:Int}:(ints l).toArray.setIfInBounds k ↑c=(ints (l.set k c)).toArray:=by simp[ints,List.map_set]
theorem zpp (n:Nat):madeCells #[()] n=(ints (List.replicate n 0)).toArray:=by
 apply Array.ext
 ·simp[madeCells,ints]
 ·intro i a b
  simp[madeCells,ints,Nat.mod_one]
theorem zoE (n:Int) (v sl:Value):(zd1 n v (zcQ []) sl).toArray=#[.int .i64 n,v,.bool false,.bool false,.bool false,.bool false,.bool false,.bool false,.bool false,.bool false,.bool false,.bool false,.bool false,.bool false,.bool false,.bool false,.bool false,.bool false,.bool false,.bool false,.bool false,.bool false,.bool false,.bool false,.bool false,.bool false,.bool false,.bool false,.bool false,.bool false,.bool false,.bool false,.bool false,.bool false,sl]:=rfl
def zbw (w:World) (lo g:Nat) (n:Int) (v:Value) (bs:List (List Off)) (A:Option Addr) (cap:Nat):Prop:=
 lo≤g∧Blk w g 389 (zd1 n v (zcQ (zai n bs)) (.slice A bs.length cap)).toArray∧w.ownsRow lo 2 1 (.slice A bs.length cap) bs.length (ints (zay n bs))
theorem zsk (n:Int) (bs:List (List Off)) (v:Value) (R:Nat→Prop) (w:World) (S:zav w R v bs) (hi:zaj n bs=0):
  Calls Tryz.prog 284 #[.agg #[.int .i64 n,v]] w fun e w'=>∃g A cap,e=.returned (.tuple #[.pointer (some ⟨g,0,none⟩),.int .i64 0])∧zbw w' w.heap.size g n v bs A cap∧Below w w w':=by
 obtain ⟨vs,⟨_,A,cap,rfl,_⟩,_⟩:=id S;have HB:=hid S;have HI:=hid hi;have hl32:=(zaE hi).2.2.1;clear S hi;go_enter Tryz.func284,Tryz.ntmps284
 go_wp2_with (go_at_call 286;refine (zj8 n bs _ R _ (HB.out.alloc _) HI.out).mono ?_;rintro e d ⟨AC,cC,rfl,M,H⟩;have HO:=hid M;have hX:=(zcY H).1;have HX:=hid hX;have Y:=hid (zcY H).2.2;have hs1:=(zcY H).2.1;clear H M hX)
 obtain ⟨s,q⟩:=nm (d.alloc (.cells #[.slice AC bs.length cC,.int .i64 (W bs (allOf n))] 381));have ad:=hid (show Blk s w _ _ from by rw[q];exact HX.out.alloc _);have HC1:=hid (show Blk s d 381 #[.slice AC bs.length cC,.int .i64 (W bs (allOf n))] from by rw[q];exact Blk.new d _ _);have HO1:=hid (show s.ownsRow _ _ _ _ _ _ from by rw[q];exact zbl HO.out _);have ab:=hid (show Below w w s from by rw[q];exact Y.out.alloc (by omega) _);have ac:=hid (show Below d d s from by rw[q];exact qA _);have T:s.heap.size=d.heap.size+1:=by rw[q];simp
 rw[←q];clear q;have x0:s.cell? ⟨w,0,none⟩=some (.int .i64 n):=ad.out.cell 0;have x1:s.cell? ⟨w,1,none⟩=some (.slice A bs.length cap):=ad.out.cell 1;have hmk:∀V:World,(Instr.makeSlice 340 (.int .i64 (bs.length:Int)) (.int .i64 (bs.length:Int))).run Tryz.prog V=.ok (.slice (some ⟨V,0,none⟩) bs.length bs.length) (V.alloc (.cells (madeCells #[.int .i64 0] bs.length) 2)):=fun V=>
  run_make_row' (P:=Tryz.prog) 340 2 (.int .i64 0) 8 Tryz.underlying340 (by kernel_rfl) rfl .i64 .i64 bs.length (by omega) (by omega) V
 refine zac (Below s s) [] (by kernel_rfl) (bR.drew) (fun a=>?_);have qq:=hid fun (w':World) (m:(Below s s) w')=>And.intro ((m.cell (p:=⟨w,0,none⟩) (by simp<;>omega)).trans x0)<|(m.cell (p:=⟨w,1,none⟩) (by simp<;>omega)).trans x1;refine tl 0 a qq ?_;refine tp 1 a ?_;refine tl 2 a qq ?_;refine tp 3 a ?_;refine stp 4 fun K B=>?_;go_simp;refine B.out _ _ ?_ (fun a=>?_)
 ·exact a.alloc a.size _
 clear B K
 try simp only[Act.put,pb,pz,ps]
 refine tp 5 a ?_;refine stp 6 fun K B=>?_;go_simp;refine B.out _ _ ?_ (fun a=>?_)
 ·exact a.alloc a.size _
 clear B K
 try simp only[Act.put,pb,pz,ps]
 refine tp 7 a ?_;refine zaa (by kernel_rfl) ?_ _;obtain ⟨U,y⟩:=nm (((s.alloc (Obj.cells (madeCells #[.int .i64 0] bs.length) 2)).alloc (Obj.cells #[.int .i64 n,.slice A bs.length cap,.bool false,.bool false,.bool false,.bool false,.bool false,.bool false,.bool false,.bool false,.bool false,.bool false,.bool false,.bool false,.bool false,.bool false,.bool false,.bool false,.bool false,.bool false,.bool false,.bool false,.bool false,.bool false,.bool false,.bool false,.bool false,.bool false,.bool false,.bool false,.bool false,.bool false,.bool false,.bool false,.slice (some ⟨d.heap.size+1,0,none⟩) bs.length bs.length] 389)).drew);rw[←y];have hs1b:=T;have HG:=hid (show Blk U (d.heap.size+1) 2 (ints (zdF n bs 0)).toArray from by
  rw[y,show zdF n bs 0=List.replicate bs.length 0 from by simp[zdF],←zpp];exact (((Blk.new' _ _ T).alloc _).drew))
 have HWN:=hid (show Blk U (d.heap.size+2) 389 (zd1 n (.slice A bs.length cap) (zcQ ((zai n bs).take 0)) (.slice (some ⟨d.heap.size+1,0,none⟩) bs.length bs.length)).toArray from by
  rw[y,List.take_zero,zoE];exact (Blk.new' _ _ (by simp[T])).drew)
 have N:=hid (show Below s s U from by rw[y];exact ((qA _).alloc (by simp) _).drew);have hs2:s.heap.size+2≤U.heap.size:=by rw[y];simp[World.drew]
 have HC2:=hid (HC1.out.grow N.out);have c00:U.cell? ⟨d,0,none⟩=some (.slice AC bs.length cC):=HC2.out.cell 0;clear y hmk a;go_wp2_with fail
 go_loopw [27] (fun i wr=>∃k:Nat,k≤bs.length∧i=.int .i64 k∧Blk wr (d.heap.size+1) 2 (ints (zdF n bs k)).toArray∧
   Blk wr (d.heap.size+2) 389 (zd1 n (.slice A bs.length cap) (zcQ ((zai n bs).take k)) (.slice (some ⟨d.heap.size+1,0,none⟩) bs.length bs.length)).toArray∧Below (d.heap.size+1) U wr)
  (fun i _=>bs.length-(intOf i).toNat)
 case atStart=>exact ⟨0,zL,rfl,HG.out,HWN.out,bR⟩
 case round=>
  obtain ⟨k,hk,rfl,hG,hN,hb⟩:=hrel;have G:=hid hG;have z:=hid hN;have F:=hid hb;clear hG hN hb;by_cases hlt:k<bs.length
  ·obtain ⟨c,X⟩:∃c,(zai n bs)[k]? =some c:=⟨_,gE (by rw[zai,zbz];exact hlt)⟩;have hbg:=zkA X;have I:Below d d wr:=ac.out.trans ((N.out.mono (by omega)).trans (F.out.mono (by omega)));have hbw:=Y.out.trans (I.mono (B':=w.heap.size) (by omega));obtain ⟨gC,offC,c',hAC,hgC,Q,cc⟩:=(Sl.of_own HO.out).int_at hlt;obtain rfl:c=c':=by rw[X] at Q;injection Q
   subst hAC;have cC:=(I.cell (p:=⟨gC,offC+k,none⟩) hgC).trans cc;have Z:=hid hbg;have HC:=hid X;have HBX:=hid I;have aa:=hid hbw;clear hbg I hbw cc Q
   rcases zeC bs (allOf n) k c X with rfl|⟨j,l,o,rfl,S,ho⟩
   ·have hc0:((-1:Int) ≥ 0)=False:=by simp
    clear X
    go_wp2
    go_roundw
    case rel=>
     refine ⟨k+1,by omega,by go_num,?_,?_,F.out⟩
     ·rw[zoM hlt Z.out];exact G.out
     ·rw[zks HC.out (by omega)];exact z.out
    case measure=>simp[intOf];omega
   ·clear X;obtain ⟨vs',⟨_,A',cap',hv,_,_,hcs⟩,hvs⟩:=HB.out;injection hv with hv1 _ hv2
    subst hv1 hv2;obtain ⟨O,t,rfl,_,hbq,C⟩:=hcs (by omega);obtain ⟨u,hu,D⟩:=hvs k l S;have HL:=hid S;have HOj:=hid ho;have hjl:=(gS.mp ho).1;obtain ⟨⟨_,A1,cap1,rfl,_⟩,_⟩:=id D;obtain ⟨b2,r,rfl,hb2,_,o1⟩:=D.at_ ho;have d0:=(aa.out.cell (p:=⟨O,t+k,none⟩) hbq).trans (C _ _ hu);have d1:=(aa.out.cell (p:=⟨b2,r+j*2+1,none⟩) hb2).trans o1;have L:wr.cell? ⟨w,1,none⟩=some (.slice (some ⟨O,t,none⟩) bs.length cap):=(HX.out.below HBX.out (by omega)).cell 1;have hszr:d.heap.size+3≤wr.heap.size:=by have:=z.out.lt;omega
    have e1:(0:Int)≤(k:Int):=by omega
    have e2:(k:Int)<(bs.length:Int):=by omega
    have e3:(k:Int)<32:=by omega
    have e4:(0:Int)≤(j:Int):=by omega
    have e5:(j:Int)<(l.length:Int):=by omega
    clear S ho hu D o1 C hvs hcs;go_wp2_with fail
    refine zac (fun V=>Below (d.heap.size+1) wr V∧(∃E:List Bool,E.length=32∧Blk V (d.heap.size+2) 389 (zd1 n (.slice (some ⟨O,t,none⟩) bs.length cap) E (.slice (some ⟨d.heap.size+1,0,none⟩) bs.length bs.length)).toArray)∧∃ps:List Int,ps.length=bs.length∧Blk V (d.heap.size+1) 2 (ints ps).toArray) [] (by kernel_rfl) ⟨bR.drew,⟨_,zdE _,z.out.drew⟩,_,zqC (by omega),G.out.drew⟩ (fun a=>?_);refine tp 0 a ?_;refine tp 1 a ?_;refine tp 2 a ?_;refine tp 3 a ?_;refine tp 4 a ?_;refine tx 5 (v:=?_) a ?_ ?_
    rotate_left
    ·intro w' m;obtain ⟨b,⟨E,h,f⟩,_⟩:=m;have q1:=(b.cell (p:=⟨w,1,none⟩) (by simp<;>omega)).trans L;have q2:=(f.cell 34).trans (zft _ _ _ _ h);have q3:=(b.cell (p:=⟨O,t+k,none⟩) (by simp<;>omega)).trans d0;have q4:=(b.cell (p:=⟨b2,r+j*2+1,none⟩) (by simp<;>omega)).trans d1;go_simp;try with_reducible rfl
    refine tp 6 a ?_;refine tp 7 a ?_;refine tx 8 (v:=?_) a ?_ ?_
    rotate_left
    ·intro w' m;obtain ⟨b,⟨E,h,f⟩,_⟩:=m;have q1:=(b.cell (p:=⟨w,1,none⟩) (by simp<;>omega)).trans L;have q2:=(f.cell 34).trans (zft _ _ _ _ h);have q3:=(b.cell (p:=⟨O,t+k,none⟩) (by simp<;>omega)).trans d0;have q4:=(b.cell (p:=⟨b2,r+j*2+1,none⟩) (by simp<;>omega)).trans d1;go_simp;try with_reducible rfl
    refine tp 9 a ?_;refine tp 10 a ?_;refine tx 11 (v:=?_) a ?_ ?_
    rotate_left
    ·intro w' m;obtain ⟨b,⟨E,h,f⟩,_⟩:=m;have q1:=(b.cell (p:=⟨w,1,none⟩) (by simp<;>omega)).trans L;have q2:=(f.cell 34).trans (zft _ _ _ _ h);have q3:=(b.cell (p:=⟨O,t+k,none⟩) (by simp<;>omega)).trans d0;have q4:=(b.cell (p:=⟨b2,r+j*2+1,none⟩) (by simp<;>omega)).trans d1;go_simp;try with_reducible rfl
    refine tp 12 a ?_;refine tp 13 a ?_;refine tp 14 a ?_;refine tx 15 (v:=?_) a ?_ ?_
    rotate_left
    ·intro w' m;obtain ⟨b,⟨E,h,f⟩,_⟩:=m;have q1:=(b.cell (p:=⟨w,1,none⟩) (by simp<;>omega)).trans L;have q2:=(f.cell 34).trans (zft _ _ _ _ h);have q3:=(b.cell (p:=⟨O,t+k,none⟩) (by simp<;>omega)).trans d0;have q4:=(b.cell (p:=⟨b2,r+j*2+1,none⟩) (by simp<;>omega)).trans d1;go_simp;try with_reducible rfl
    refine tp 16 a ?_;refine tp 17 a ?_;refine tp 18 a ?_;refine stp 19 fun K B=>?_;have hS19:=a;obtain ⟨_,⟨E,h,f⟩,_⟩:=hS19;have f1:=f.frozen (2+k);have f2:=(f.cell (2+k)).trans (zmr _ _ _ _ k _ (gE (by omega)));go_simp;refine B.out _ _ ?_ (fun a=>?_)
    ·obtain ⟨b,⟨E,h,f⟩,ps,J,x⟩:=a;exact ⟨b.setCell (p:=⟨d.heap.size+2,2+k,none⟩) (by simp) _,⟨E.set k true,by simpa using h,by have:=f.set_ (2+k) (.bool true);rwa [zmq _ _ _ _ _ _ (by omega)] at this⟩,ps,J,x.far (p:=⟨d.heap.size+2,2+k,none⟩) (by simp) _⟩
    clear B K
    try simp only[Act.put,pb,pz,ps]
    refine tp 20 a ?_;refine stp 21 fun K B=>?_;have hS21:=a;obtain ⟨_,_,ps,J,x⟩:=hS21;have f1:=x.frozen k;have hkp:k<ps.length:=by omega
    have f2:=(x.cell k).trans (show (ints ps).toArray[k]? =some (.int .i64 ps[k]) from by simp[ints]);go_simp;refine B.out _ _ ?_ (fun a=>?_)
    ·obtain ⟨b,⟨E,h,f⟩,ps,J,x⟩:=a;exact ⟨b.setCell (p:=⟨d.heap.size+1,k,none⟩) (by simp) _,⟨E,h,f.far (p:=⟨d.heap.size+1,k,none⟩) (by simp) _⟩,ps.set k o.c,by simpa using J,by have:=x.set_ k (.int .i64 o.c);rwa [ints_set] at this⟩
    clear B K
    try simp only[Act.put,pb,pz,ps]
    refine zaa (by kernel_rfl) ?_ _;clear a;go_wp2_with fail
    go_roundw
    case rel=>
     refine ⟨k+1,by omega,by go_num,?_,?_,?_⟩
     ·have h1:=(G.out.far (p:=⟨d.heap.size+2,2+k,none⟩) (by simp) (.bool true)).set_ k (.int .i64 o.c);rw[ints_set,zly hlt (by rw[Z.out,zh7 HL.out HOj.out])] at h1;exact h1.drew
     ·have h1:=(z.out.set_ (2+k) (.bool true)).far (p:=⟨d.heap.size+1,k,none⟩) (by simp) (.int .i64 o.c);rw[zmq _ _ _ _ _ _ (by rw[zdE];omega),←zkt HC.out (by omega)] at h1;exact h1.drew
     ·exact ((F.out.setCell (p:=⟨d.heap.size+2,2+k,none⟩) (by simp) _).setCell (p:=⟨d.heap.size+1,k,none⟩) (by simp) _).drew
    case measure=>simp[intOf];omega
  ·obtain rfl:k=bs.length:=by omega
   have hbl:(zai n bs).length=bs.length:=zbz _ _;have HGE:=hid (show Blk wr (d.heap.size+1) 2 (ints (zay n bs)).toArray from by have:=G.out;rwa [zqB] at this);have HNE:=hid (show Blk wr (d.heap.size+2) 389 (zd1 n (.slice A bs.length cap) (zcQ (zai n bs)) (.slice (some ⟨d.heap.size+1,0,none⟩) bs.length bs.length)).toArray from by have:=z.out;rwa [List.take_of_length_le (by omega)] at this);go_wp2_with fail
   refine bodyPost_ret (v:=.tuple #[.pointer (some ⟨d.heap.size+2,0,none⟩),.int .i64 0]) (by simp[results,Tryz.results284,go_sem]) rfl ⟨_,_,_,rfl,⟨by omega,HNE.out,zof HGE.out (by omega) (za5 _ _) (by unfold maxLen;omega)⟩,?_⟩;exact ab.out.trans ((N.out.mono (by omega)).trans (F.out.mono (by omega)))
def zcA:List Int→List Int→Bool
 |p::ps,b::bs=>decide (0≤p∧p≤b)&&zcA ps bs
 |[],[]=>true
 |_,_=>false
theorem zcZ:∀(ps bs:List Int),zcA ps bs=true↔ps.length=bs.length∧∀(i:Nat) (p b:Int),ps[i]? =some p→bs[i]? =some b→0≤p∧p≤b
 |[],[]=>by simp[zcA]
 |[],b::bs=>by simp[zcA]
 |p::ps,[]=>by simp[zcA]
 |p::ps,b::bs=>by
  simp only[zcA,Bool.and_eq_true,decide_eq_true_eq,zcZ ps bs,List.length_cons]
  constructor
  ·rintro ⟨h1,h2,h3⟩;refine ⟨by omega,fun i q c hq hc=>?_⟩
   cases i with
   |zero=>simp at hq hc;subst hq hc;exact h1
   |succ i=>exact h3 i q c (by simpa using hq) (by simpa using hc)
  ·rintro ⟨h1,h2⟩;exact ⟨h2 0 p b rfl rfl,by omega,fun i q c hq hc=>h2 (i+1) q c (by simpa using hq) (by simpa using hc)⟩
theorem zbw.grow {w w':World} {lo g:Nat} {n:Int} {v:Value} {bs:List (List Off)} {A:Option Addr} {cap:Nat} (h:zbw w lo g n v bs A cap) (hb:Below w w w'):zbw w' lo g n v bs A cap:=
 ⟨h.1,h.2.1.grow hb,zbQ h.2.2 hb⟩
theorem zbw.lt {w:World} {lo g:Nat} {n:Int} {v:Value} {bs:List (List Off)} {A:Option Addr} {cap:Nat} (h:zbw w lo g n v bs A cap):g<w.heap.size:=h.2.1.lt
theorem zbw.sl {w:World} {lo g:Nat} {n:Int} {v:Value} {bs:List (List Off)} {A:Option Addr} {cap:Nat} (h:zbw w lo g n v bs A cap):Sl w (lo≤·) (.slice A bs.length cap) bs.length 1 (ints (zay n bs)):=
 (Sl.of_own h.2.2).mono fun b _ hb=>(h.2.2.lt b hb).1
theorem zbw.c0 {w:World} {lo g:Nat} {n:Int} {v:Value} {bs:List (List Off)} {A:Option Addr} {cap:Nat} (h:zbw w lo g n v bs A cap):w.cell? ⟨g,0,none⟩=some ↑n:=h.2.1.cell 0
theorem zbw.c1 {w:World} {lo g:Nat} {n:Int} {v:Value} {bs:List (List Off)} {A:Option Addr} {cap:Nat} (h:zbw w lo g n v bs A cap):w.cell? ⟨g,1,none⟩=some v:=h.2.1.cell 1
theorem zbw.cb {w:World} {lo g:Nat} {n:Int} {v:Value} {bs:List (List Off)} {A:Option Addr} {cap:Nat} (h:zbw w lo g n v bs A cap):w.cell? ⟨g,34,none⟩=some (.slice A bs.length cap):=(h.2.1.cell 34).trans (zft _ _ _ _ (zdE _))
theorem zbw.cw {w:World} {lo g:Nat} {n:Int} {v:Value} {bs:List (List Off)} {A:Option Addr} {cap:Nat} (h:zbw w lo g n v bs A cap) {i:Nat} (hi:i<32):w.cell? ⟨g,2+i,none⟩=some ↑(zc6 (zai n bs) i:Bool):=(h.2.1.cell (2+i)).trans (zmr _ _ _ _ _ _ (zhB _ hi))
def zbr (n:Int) (bs:List (List Off)) (pay:List Int):List (List Off):=bs.mapIdx fun i l=>zaG ((zay n bs)[i]?.getD 0-pay[i]?.getD 0) l
theorem zcm (n:Int) (bs:List (List Off)) (a:List Int):(zbr n bs a).length=bs.length:=by simp[zbr]
theorem ziL {n:Int} {bs:List (List Off)} {a:List Int} {k:Nat} {l:List Off} {p q:Int} (b:bs[k]? =some l) (c:a[k]? =some p) (d:(zay n bs)[k]? =some q):(zbr n bs a)[k]? =some (zaG (q-p) l):=by
 simp[zbr,b,c,d]
theorem zav.at_ {w:World} {R:Nat→Prop} {A:Option Addr} {m c k:Nat} {bs:List (List Off)} {l:List Off} (h:zav w R (.slice A m c) bs) (f:bs[k]? =some l):
  ∃b off u,A=some ⟨b,off,none⟩∧b<w.heap.size∧w.cell? ⟨b,off+k,none⟩=some u∧zad w R u l:=by
 obtain ⟨s,⟨_,q,r,p,_,_,d⟩,e⟩:=h;injection p with a _ _
 subst a;have n:=(gS.mp f).1;obtain ⟨b,off,a,_,g,i⟩:=d (by omega);obtain ⟨u,o,j⟩:=e k l f;exact ⟨b,off,u,a,g,i _ _ o,j⟩
theorem zkb {n:Int} {bs:List (List Off)} (e:zaj n bs=0) (b:∀l∈bs,∀o∈l,o.wf) {i:Nat} {q:Int} (h:(zay n bs)[i]? =some q):0≤q∧q≤1099511627776:=by
 have a:i<bs.length:=by have:=(gS.mp h).1;rwa [za5] at this
 obtain ⟨c,d⟩:∃c,(zai n bs)[i]? =some c:=⟨_,gE (by rw[zai,zbz];exact a)⟩;rw[zkA d] at h;injection h with h
 have:=zoQ b e i c
 omega
theorem zmH (n:Int) (bs:List (List Off)) (v:Value) (lo g:Nat) (A:Option Addr) (cap:Nat) (c:List Int) (vp:Value) (R Rx:Nat→Prop) (w:World) (T:zbw w lo g n v bs A cap) (t:zav w Rx v bs) (S:Sl w R vp c.length 1 (ints c))
  (hi:zaj n bs=0) (hok:zcA c (zay n bs)=true):
  Calls Tryz.prog 297 #[.pointer (some ⟨g,0,none⟩),vp] w fun e w'=>∃A' cap',e=.returned (.agg #[n,.slice A' bs.length cap'])∧zax w' w.heap.size (.slice A' bs.length cap') (zbr n bs c)∧Below w w w':=by
 obtain ⟨E,D⟩:=(zcZ _ _).mp hok;rw[za5] at E;have J:c.length≤bs.length∧bs.length≤c.length:=by omega
 obtain ⟨hlen1,hlen2⟩:=J;clear E;have hsm:=zia hi;have HWF:=hid (zav.wf t);have HSM:=hid hsm;have HI:=hid hi;have hl32:=(zaE hi).2.2.1;have hcb:=T.cb;have hc0:=T.c0;have hc1:=T.c1;have hgl:=T.lt;have HB:=hid t;have HS:=hid T.sl;have HP:=hid S;have V:=hid D;obtain ⟨_,Ap,capp,rfl,hncap,hcap,_⟩:=S;unfold maxLen at hcap;obtain ⟨vs,⟨_,Av,capv,rfl,_⟩,_⟩:=id t;clear T t hi hok hsm D;go_enter Tryz.func297,Tryz.ntmps297
 go_wp2
 obtain ⟨W0,h⟩:=nm ((w.alloc (.cells #[(),.slice none 0 0] 368)).alloc (.cells #[n,.slice none 0 0] 368));have HR0:=hid (show Blk W0 w 368 #[(),.slice none 0 0] from by rw[h];exact (Blk.new w _ _).alloc _);have HY0:=hid (show Blk W0 (w.heap.size+1) 368 #[n,.slice none 0 0] from by rw[h];exact Blk.new' _ _ (by simp));have HBW:=hid (show Below w w W0 from by rw[h];exact (qA _).alloc (by simp) _);have hs0:W0.heap.size=w.heap.size+2:=by rw[h];simp
 rw[←h];clear h
 go_loopw [20] (fun i wr=>∃(k:Nat) (A':Option Addr) (cap':Nat),k≤bs.length∧i=.int .i64 k∧zax wr (w.heap.size+2) (.slice A' k cap') ((zbr n bs c).take k)∧Blk wr (w.heap.size+1) 368 #[n,.slice A' k cap']∧Below (w.heap.size+1) W0 wr)
  (fun i _=>bs.length-(intOf i).toNat)
 case atStart=>exact ⟨0,none,0,zL,rfl,⟨[],World.ownsRow_nil _ _ _ _,fun k l hk=>by simp at hk⟩,HY0.out,bR⟩
 case round=>
  obtain ⟨k,A',cap',hk,rfl,hob,hy,H⟩:=hrel;have hbw:=HBW.out.trans (H.mono (B':=w.heap.size) (by omega));have hszr:w.heap.size+2≤wr.heap.size:=by have:=H.size;omega
  have Z:=hid hob;have HY:=hid hy;have X:=hid H;have d:=hid hbw;clear hob hy H hbw;by_cases hlt:k<bs.length
  ·obtain ⟨l,t⟩:∃l,bs[k]? =some l:=⟨_,gE hlt⟩;obtain ⟨bq,off,u,rfl,hbq,c0,M⟩:=HB.out.at_ t;obtain ⟨bp,op,p,rfl,hbp,S,cp⟩:=HP.out.int_at (k:=k) (by omega);obtain ⟨bd,od,q,rfl,hbd,N,cq⟩:=HS.out.int_at hlt;have hpq:=V.out k p q S N;have hqb:=zkb HI.out HWF.out N;have hll:=HSM.out.2 l (mG t);have HLG:=hid (ziL t S N);obtain ⟨⟨_,A1,cap1,rfl,_⟩,_⟩:=id M;have aa:=hid (M.grow d.out);have d0:=qc d.out c0 hbq;have dp:=qc d.out cp hbp;have dq:=qc d.out cq hbd;have db:=qc d.out hcb hgl;have dy:wr.cell? ⟨w.heap.size+1,1,none⟩=some (.slice A' k cap'):=HY.out.cell 1;have e1:(0:Int)≤(k:Int):=by omega
   have e2:(k:Int)<(bs.length:Int):=by omega
   have e3:(k:Int)<(c.length:Int):=by omega
   have hsub:IntKind.i64.wrap (q-p)=q-p:=iW _ (by omega);obtain ⟨vs',O,ho'⟩:=Z.out;have L:((zbr n bs c).take k).length=k:=by rw[List.length_take,zcm];omega
   rw[L] at O;have f:=hid O;have HO':=hid ho';have HLK:=hid L;clear t S N c0 cp cq M O ho' L;go_wp2_with fail
   refine zac (Below (w.heap.size+2) wr) [19] (by kernel_rfl) (bR.drew) (fun a=>?_);refine tp 0 a ?_;have qq:=hid fun (w':World) (r:(Below (w.heap.size+2) wr) w')=>And.intro (qc r d0 (by simp<;>omega))<|And.intro (qc r dp (by simp<;>omega))<|And.intro (qc r dq (by simp<;>omega))<|And.intro (qc r db (by simp<;>omega))<|qc r dy (by simp<;>omega);refine tl 1 a qq ?_;refine tp 2 a ?_;refine tp 3 a ?_;refine tp 4 a ?_;refine tl 5 a qq ?_;refine tp 6 a ?_;refine tp 7 a ?_;refine tl 8 a qq ?_;refine tp 9 a ?_;refine tp 10 a ?_;refine tp 11 a ?_;refine tl 12 a qq ?_;refine tp 13 a ?_;refine tp 14 a ?_;refine stp 15 fun K o=>?_;go_simp;refine (zpA (q-p) (by omega) (by omega) l _ Rx _ (aa.out.grow bR.drew) (by omega)).mono ?_;rintro e U ⟨P,Q,rfl,y,I⟩;refine o.out _ _ ?_ (fun a=>?_)
   ·exact ((Below.refl wr.heap.size wr).drew.trans (I.mono (by simp))).mono (by omega)
   clear o K
   try simp only[Act.put,pb,pz,ps]
   have s:Below wr wr U:=bR.drew.trans (I.mono (by simp));have m:=hid s;have F:=hid y;have hs1:=s.size;clear I s y;refine stp 16 fun K o=>?_;go_simp;refine o.out _ _ ?_ (fun a=>?_)
   ·exact a.alloc (by omega) _
   clear o K
   try simp only[Act.put,pb,pz,ps]
   refine stp 17 fun K o=>?_;refine ziV (U.alloc (.cells #[.slice P (zaG (q-p) l).length Q] 59)) rfl (.tmp 26) (.tmp 41) zke rfl (w.heap.size+2) (.slice A' k cap') k vs' rfl (zbl (zbQ f.out m.out) _) (fun _=>True) (.slice (some ⟨U,0,none⟩) 1 1) 1 [.slice P (zaG (q-p) l).length Q] rfl (Sl.blk (sz:=1) (Blk.new U 59 #[.slice P (zaG (q-p) l).length Q]) (Nat.le_refl 1) (by unfold maxLen;omega) rfl) (by simp[Value.oneCell']) (by omega) (by unfold maxLen;omega) (by simp;omega) ?_;intro A3 c3 w3 z C x;refine o.out _ _ ?_ (fun a=>?_)
   ·exact a.grown C (by simp;omega) (fun g e=>(f.out.lt g e).1)
   clear o K
   try simp only[Act.put,pb,pz,ps]
   have HW3:=hid z;have Y:=hid C;have HL3:=hid x;have G:=hid (show Blk w3 (w.heap.size+1) 368 #[n,.slice A' k cap'] from ((HY.out.grow m.out).alloc _).grown C (fun e=>by have:=(f.out.lt _ e.symm).1;omega));clear z C x;refine tp 18 a ?_;refine stf 19 fun K o=>?_;have f1:=G.out.frozen 1;have f2:=G.out.cell 1;go_simp;refine o.out _ _ ?_;clear o K
   try simp only[Act.put,pb,pz,ps]
   refine zaa (by kernel_rfl) ?_ _;clear a;go_wp2_with fail
   go_roundw
   case rel=>
    have B:zad (U.alloc (.cells #[.slice P (zaG (q-p) l).length Q] 59)) (fun b=>w.heap.size+2≤b∧(Value.slice A' k cap').ownBlock≠some b) (.slice P (zaG (q-p) l).length Q) (zaG (q-p) l):=by
     refine ⟨((Sl.of_own F.out).alloc _).mono fun b _ H=>⟨?_,fun e=>?_⟩,zna _ (by omega) _ aa.out.2⟩
     ·have:=(F.out.lt b H).1;simp at this;omega
     ·have h1:=(F.out.lt b H).1;have h2:=(f.out.lt b e).2
      simp at h1
      omega
    have hold:∀(j:Nat) (l2:List Off),((zbr n bs c).take k)[j]? =some l2→∃u,vs'[j]? =some u∧zad (U.alloc (.cells #[.slice P (zaG (q-p) l).length Q] 59)) (fun b=>w.heap.size+2≤b∧(Value.slice A' k cap').ownBlock≠some b) u l2:=
     fun j l2 hj=>let ⟨u,hu,t⟩:=HO'.out j l2 hj;⟨u,hu,(t.grow m.out).alloc _⟩
    have hob2:=zax.snoc HLK.out (zbl (zbQ f.out m.out) _) hold B HW3.out Y.out HL3.out;refine ⟨k+1,A3,c3,by omega,by go_num,?_,(G.out.set_ 1 _).drew,?_⟩
    ·rw[List.take_add_one,HLG.out];exact (hob2.far (grownBy_setCell _ ⟨w.heap.size+1,1,none⟩ _) (fun j e=>by simp at e;omega)).drew
    ·exact (((X.out.trans ((m.out.mono (by omega)).alloc (by omega) _)).grown Y.out (by simp;omega) (fun j e=>by have:=(f.out.lt j e).1;omega)).setCell (p:=⟨w.heap.size+1,1,none⟩) (by simp) _)
   case measure=>simp[intOf];omega
  ·obtain rfl:k=bs.length:=by omega
   have hR:=HR0.out.below X.out (by omega);have r1:=hR.cell 1;have r0:=hR.cell 0;have rf:=hR.frozen;have y1:=HY.out.cell 1;have y0:=HY.out.cell 0;have HRR:=hid hR;clear hR;go_wp2_with fail
   have N:=((HRR.out.set_ 0 ↑n).set_ 1 (.slice A' bs.length cap'));have s0:=N.cell 0;have s1:=N.cell 1
   simp at s0 s1
   refine bodyPost_ret (v:=.agg #[n,.slice A' bs.length cap']) (by simp[results,Tryz.results297,go_sem,s0,s1]) rfl ⟨_,_,rfl,?_,?_⟩
   ·have h1:=Z.out;rw[List.take_of_length_le (by rw[zcm];omega)] at h1;exact ((h1.far (grownBy_setCell _ ⟨w,0,none⟩ _) (fun j e=>by simp at e;omega)).far (grownBy_setCell _ ⟨w,1,none⟩ _) (fun j e=>by simp at e;omega)).mono (by omega)
   ·exact (d.out.setCell (p:=⟨w,0,none⟩) (by simp) _).setCell (p:=⟨w,1,none⟩) (by simp) _
theorem zqA {a:Nat} {o:Off} {c:Int} (h:zcN a o=false) (e:0≤c) (f:c<o.c):zcN a ⟨o.g,o.c-c⟩=false:=by
 simp only[zcN,Bool.or_eq_false_iff,decide_eq_false_iff_not] at h ⊢;obtain ⟨⟨⟨b,d⟩,i⟩,j⟩:=h;exact ⟨⟨⟨b,d⟩,by omega⟩,by omega⟩
theorem znz {n:Int} {l:List Off} {c:Int} (h:zas n l=0) (f:0≤c):zas n (zaG c l)=0:=by
 unfold zas at h ⊢;have d:=ziN c l
 split at h
 ·omega
 ·split at h
  ·omega
  ·rename_i g m
   rw[if_neg g,if_neg (by omega)];have i:zbB (2 ^ n.toNat-1) l=none:=by
    cases hb:zbB (2 ^ n.toNat-1) l with
    |none=>rfl
    |some k=>rw[hb] at h;simp at h
   have b:zbB (2 ^ n.toNat-1) (zaG c l)=none:=by
    rw[zc7];intro o e;simp only[zaG,List.mem_map,List.mem_filter,decide_eq_true_eq] at e;obtain ⟨p,⟨j,a⟩,rfl⟩:=e;exact zqA ((zc7 _ _).mp i p j) f a
   rw[b]
theorem ziM {n:Int} {bs:List (List Off)} {a:List Int} {l:List Off} (d:zcA a (zay n bs)=true) (h:l∈zbr n bs a):∃l0∈bs,∃c:Int,0≤c∧l=zaG c l0:=by
 simp only[zbr,List.mem_mapIdx] at h;obtain ⟨i,g,rfl⟩:=h;refine ⟨bs[i],List.getElem_mem g,_,?_,rfl⟩;obtain ⟨j,b⟩:=(zcZ _ _).mp d;have k:i<(zay n bs).length:=by rw[za5];exact g
 have e:=gE k;have f:=gE (show i<a.length by omega);have:=b i _ _ f e;rw[e,f];simp only[Option.getD_some]
 omega
theorem zkR {n:Int} {bs:List (List Off)} {d:List Int} (o:zaj n bs=0) (b:zcA d (zay n bs)=true):zaj n (zbr n bs d)=0:=by
 obtain ⟨g,h,i,j,k⟩:=zaE o;refine zlX g h (by rw[zcm];exact i) (fun l f=>?_) (fun l f=>?_)
 ·obtain ⟨e,a,c,_,rfl⟩:=ziM b f;have:=j e a;have:=ziN c e
  omega
 ·obtain ⟨e,a,c,m,rfl⟩:=ziM b f;exact znz (k e a) m
theorem zje (n:Int) (bs:List (List Off)) (b:Int) (v:Value) (R:Nat→Prop) (w:World) (E:zav w R v bs) (D:zbc n bs b []=0):
  Calls Tryz.prog 296 #[.agg #[n,v],b] w fun e w'=>∃A' cap',e=.returned (.tuple #[.agg #[.slice A' bs.length cap',(W (bs.set b.toNat []) (allOf n):Int)],()])∧
   w'.ownsRow w.heap.size 3 1 (.slice A' bs.length cap') bs.length (ints (zai n (bs.set b.toNat [])))∧Below w w w':=by
 obtain ⟨U,⟨_,A,L,rfl,_⟩,_⟩:=id E;have I:=hid E;have K:=hid (zhe (i:=b.toNat) (zj3 D));have J:=hid D;have o:(bs.set b.toNat []).length=bs.length:=by simp
 have h:=hid o;clear E D o;go_enter Tryz.func296,Tryz.ntmps296
 go_wp2_with (first
  |(go_at_call 294;refine (zj4 n bs b _ R _ ((I.out.alloc _).alloc _) J.out).mono ?_;rintro e F ⟨G,j,rfl,q,l⟩;have g:=l.mono (B':=w.heap.size+2) (by simp);obtain ⟨M,N,y,z,S,O,P,f⟩:=zbP g;have t:=hid q;have r:=hid f;clear q l g f)
  |(go_at_call 286;go_must (refine (zj8 n (bs.set b.toNat []) (.slice G bs.length j) _ _ ((t.out.alloc _).buys) K.out).mono ?_);go_must (rintro e Q ⟨H,k,rfl,d,m⟩);go_must (rw[h.out] at d);go_must (rw[h.out]);have c:=((Below.refl F.heap.size F).alloc lR _).trans (m.mono (B':=F.heap.size) (by simp));have B:=qc c y (by simp;omega);have C:=qc c z (by simp;omega);have T:∀i,Q.frozen? ⟨w.heap.size+1,i,none⟩=false:=fun i=>(c.frozen (p:=⟨w.heap.size+1,i,none⟩) (by simp;omega)).trans (O i);have x:=hid d;have s:=hid c;clear d m c))
 refine bodyPost_ret (v:=.tuple #[.agg #[.slice H bs.length k,(W (bs.set b.toNat []) (allOf n):Int)],()]) (by simp[results,Tryz.results296,go_sem,B,C]) rfl ⟨_,_,rfl,?_,?_⟩
 ·exact zbH (ownsRow_setCell_below (ownsRow_setCell_below x.out (a:=⟨w.heap.size+1,0,none⟩) (by simp;omega) _) (a:=⟨w.heap.size+1,1,none⟩) (by simp;omega) _) (by simp;omega)
 ·exact ((r.out.trans (s.out.mono (by omega))).setCell (p:=⟨w.heap.size+1,0,none⟩) (by simp) _).setCell (p:=⟨w.heap.size+1,1,none⟩) (by simp) _
theorem ztQ {n:Int} {bs:List (List Off)} {b:List Int} (k:zaj n bs=0) (e:∀l∈bs,∀o∈l,o.wf) (d:zcA b (zay n bs)=true):∀x∈b,0≤x∧x≤1099511627776:=by
 intro x m;obtain ⟨i,c,rfl⟩:=List.mem_iff_getElem.mp m;obtain ⟨g,a⟩:=(zcZ _ _).mp d;have j:i<(zay n bs).length:=by omega
 have f:=gE j;have h:=gE c;have p:=a i _ _ h f;have q:=zkb k e f
 omega
theorem zsQ {n:Int} {bs:List (List Off)} {a:List Int} (e:∀l∈bs,∀o∈l,o.wf) (d:zcA a (zay n bs)=true):∀l∈zbr n bs a,∀o∈l,o.wf:=by
 intro l h;obtain ⟨f,b,c,g,rfl⟩:=ziM d h;exact zna c g f (e f b)
def zbT (n:Int) (bs:List (List Off)) (pay:List Int) (i:Nat):Int:=max 0 (woW n (zbr n bs pay) i-(zaB pay-pay[i]?.getD 0))
theorem zkm {n:Int} {bs:List (List Off)} {a:List Int} (b:zcA a (zay n bs)=true):a.length=bs.length:=by
 have:=((zcZ _ _).mp b).1
 rwa [za5] at this
theorem ztS {a:List Int} (h:∀x∈a,0≤x∧x≤1099511627776) (e:a.length≤32):0≤zaB a∧zaB a≤35184372088832:=by
 have b:∀l:List Int,(∀x∈l,0≤x∧x≤1099511627776)→0≤zaB l∧zaB l≤l.length*1099511627776:=by
  intro l
  induction l with
  |nil=>intro _;simp[zaB]
  |cons x l ih=>
   intro h;have b:=h x (by simp);have d:=ih (fun y c=>h y (by simp[c]));simp only[zaB,List.length_cons]
   omega
 have:=b a h
 omega
theorem zpu (n:Int) (bs:List (List Off)) (v:Value) (lo g:Nat) (A:Option Addr) (cap:Nat) (a:List Int) (U:Value) (R Rx:Nat→Prop) (k:Nat) (hk:k<bs.length) (w:World) (hw:zbw w lo g n v bs A cap) (hl:zav w Rx v bs) (X:Sl w R U a.length 1 (ints a))
  (N:zaj n bs=0) (f:zcA a (zay n bs)=true):
  Calls Tryz.prog 290 #[.pointer (some ⟨g,0,none⟩),(k:Int),U] w fun e w'=>e=.returned ↑(zbT n bs a k:Int)∧Below w w w':=by
 have B:=zav.wf hl;have s:=zkR N f;have S:=zkm f;have hl32:=(zaE N).2.2.1;have z:zbc n (zbr n bs a) (k:Int) []=0:=zib s (by rw[zcm];exact hk);have m:=ztQ N B f;obtain ⟨hs0,hs1⟩:=ztS m (by omega);obtain ⟨hw0,hw1⟩:=zmp (zsQ B f) s (k:Int);have C:woW n (zbr n bs a) (k:Int)=W ((zbr n bs a).set k []) (allOf n):=by unfold woW;rw[if_pos z];rfl
 obtain ⟨b,i,p,hA,V,t,hc⟩:∃b i p,U=.slice (some ⟨b,i,none⟩) a.length (match U with| .slice _ _ c=>c|_=>0)∧b<w.heap.size∧a[k]? =some p∧w.cell? ⟨b,i+k,none⟩=some ↑(p:Int):=by
  obtain ⟨_,Ap,G,rfl,_⟩:=id X;obtain ⟨b,i,x,rfl,V,hx,hc⟩:=X.int_at (k:=k) (by omega);exact ⟨b,i,x,rfl,V,hx,hc⟩
 have hp2:=m p (mG t);have l:zbT n bs a k=max 0 (woW n (zbr n bs a) k-(zaB a-p)):=by unfold zbT;rw[t];rfl
 obtain ⟨G,M⟩:=nm ((match U with| .slice _ _ c=>c|_=>0));rw[←M] at hA;clear M;subst hA;obtain ⟨q,J⟩:=nm (woW n (zbr n bs a) (k:Int));rw[←J] at hw0 hw1 C l;obtain ⟨T,hT⟩:=nm (zaB a);rw[←hT] at hs0 hs1 l;have e1:IntKind.i64.wrap (T-p)=T-p:=iW _ (by omega);have e2:IntKind.i64.wrap (q-(T-p))=q-(T-p):=iW _ (by omega);have e3:(0:Int)≤(k:Int):=by omega
 have e4:(k:Int)<(a.length:Int):=by omega
 have HW:=hid hw;have HL:=hid hl;have HP:=hid X;have HI:=hid N;have ab:=hid f;have ad:=hid z;have ae:=hid C;have HT:=hid hT;have E:=hid l;have ac:=hid m;have HLL:=hid (zcm n bs a);have HPL:=hid S;have y:a.length≤64:=by omega
 clear hw hl X N f z C hT l m B s t J S;go_enter Tryz.func290,Tryz.ntmps290
 go_wp2_with (first
  |(go_at_call 297;refine (zmH n bs v lo g A cap a _ R Rx _ HW.out HL.out HP.out HI.out ab.out).mono ?_;rintro e w1 ⟨A1,c1,rfl,Q,r⟩;have aa:=hid Q;have Z:=hid r;have hsz1:=r.size;clear Q r)
  |(go_at_call 296;go_must (refine (zje n (zbr n bs a) (k:Int) (.slice A1 bs.length c1) _ _ aa.out.buys ad.out).mono ?_);rintro e Y ⟨A2,c2,rfl,_,L⟩;rw[Int.toNat_natCast,←ae.out];have D:=hid (Z.out.trans (L.mono (B':=w.heap.size) (by omega)));clear L))
 obtain ⟨o,h⟩:=nm (Y.alloc (.cells #[.slice A2 (zbr n bs a).length c2,q] 381));have j:=hid (show Below w w o from by rw[h];exact D.out.alloc D.out.size _);have O:Y.heap.size<o.heap.size:=by rw[h];simp
 have d0:o.cell? ⟨Y,1,none⟩=some ↑q:=by rw[h];exact (Blk.new Y 381 #[.slice A2 (zbr n bs a).length c2,q]).cell 1
 have d1:=qc j.out hc V;have hbW:=lL V j.out.size;rw[←h];clear h;have P:zbT n bs a k=if T-p<q then q-(T-p) else 0:=by rw[E.out];split<;>omega
 have F:=hid P;clear P;refine zac (Below o o) [] (by kernel_rfl) (bR.drew) (fun d=>?_);refine tp 0 d ?_;have qq:=hid fun (w':World) (I:(Below o o) w')=>And.intro (qc I d0 O)<|qc I d1 hbW;refine tl 1 d qq ?_;refine tp 2 d ?_;refine tp 4 d ?_;refine tp 5 d ?_;refine tp 6 d ?_;refine tl 7 d qq ?_;refine stp 3 fun K H=>?_;go_simp;refine (zlc a _ R _ ((HP.out.grow j.out).grow bR.drew) (fun x hx=>by have:=ac.out x hx;omega) y).mono ?_;rintro e w4 ⟨rfl,rfl⟩;rw[←HT.out];refine H.out _ _ ?_ (fun d=>?_)
 ·exact d
 clear H K
 try simp only[Act.put,pb,pz,ps]
 refine tp 8 d ?_;refine tp 9 d ?_;refine stp 10 fun K H=>?_;go_simp;refine H.out _ _ ?_ (fun d=>?_)
 ·exact d
 clear H K
 try simp only[Act.put,pb,pz,ps]
 refine tp 11 d ?_;refine zaa (by kernel_rfl) ?_ _;go_wp2_with fail
 all_goals go_ret
 all_goals exact ⟨by first|(rw[F.out,if_pos (by omega)];rfl)|(rw[F.out,if_neg (by omega)];rfl)|(rw[E.out];rfl),j.out.drew⟩
def zal (cs:List Int) (k:Nat):List Int:=((List.range k).filter (zc6 cs)).map fun (i:Nat)=>(i:Int)
theorem zk7 {cs:List Int} {k:Nat} (h:zc6 cs k=true):zal cs (k+1)=zal cs k++[(k:Int)]:=by
 unfold zal;rw[List.range_succ,List.filter_append,List.map_append];simp[h]
theorem zmo {cs:List Int} {k:Nat} (h:zc6 cs k=false):zal cs (k+1)=zal cs k:=by
 unfold zal;rw[List.range_succ,List.filter_append,List.map_append];simp[h]
theorem zk6 (cs:List Int) (k:Nat):(zal cs k).length≤k:=by
 unfold zal;rw[List.length_map];exact lT (List.length_filter_le _ _) (by simp)
end Vb
end Go.Proofs.YtckdpejdnejhfaaGreat

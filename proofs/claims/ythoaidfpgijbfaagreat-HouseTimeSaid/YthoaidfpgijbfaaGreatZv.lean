/- Joined by program: HvL HvM HvN. -/
import Derived.Test.YthoaidfpgijbfaaGreatZm
import Derived.Test.YthoaidfpgijbfaaGreatZt
import Derived.Test.YthoaidfpgijbfaaGreatZp
import Derived.Test.YthoaidfpgijbfaaGreatZu
import Derived.Test.YthoaidfpgijbfaaGreatZn
import Derived.Test.YthoaidfpgijbfaaGreatZl
import Derived.Test.YthoaidfpgijbfaaGreatZk
import Derived.Test.YthoaidfpgijbfaaGreatZq
set_option linter.all false
set_option maxRecDepth 100000
set_option maxHeartbeats 32000000
namespace Go.Proofs.YthoaidfpgijbfaaGreat
open Lib (hid)
namespace Ho
open Go.RowKit Vb Ac
def zhC:ByteArray:={data:=#[97,110,110]}
def zkc:ByteArray:={data:=#[98,111,98]}
def zlP:ByteArray:={data:=#[]}
def kP:LotR:=⟨3,0,10,0,0,0,0,5,0,0,0⟩
def kO0:OrderR:=⟨1,zhC,100,0,0,zaz,[],0⟩
def kO1:OrderR:=⟨1,zkc,100,0,0,zaz,[],0⟩
def kO2:OrderR:=⟨3,zlP,0,0,0,kP,[],0⟩
def kO3:OrderR:=⟨4,zlP,0,0,0,zaz,[⟨0,60⟩],0⟩
def kO4:OrderR:=⟨4,zlP,0,1,0,zaz,[⟨0,40⟩],0⟩
def kO5:OrderR:=⟨4,zlP,0,0,0,zaz,[⟨0,101⟩],0⟩
def kO6:OrderR:=⟨6,zlP,0,0,0,zaz,[],10⟩
def kOs:List OrderR:=[kO0,kO1,kO2,kO3,kO4,kO5,kO6]
def zwA:List AnsR:=[⟨0,0,0⟩,⟨1,0,1⟩,⟨2,0,0⟩,⟨3,0,0⟩,⟨4,0,0⟩,⟨0,8,0⟩,⟨5,0,1⟩]
def kL (ss:List Stand):LotS:=⟨kP,10,false,ss,⟨-1,0,0,10⟩,0⟩
def kD:Int→Option Int:=upd (fun _=>none) 0 (some 10)
def kT0:Stand:=⟨0,[⟨0,60⟩],60⟩
def kT1:Stand:=⟨1,[⟨0,40⟩],40⟩
def kS0:House:=zb1
def kS1:House:=⟨[zhC],[⟨100,0,[]⟩],[],0,[kO0],[],fun _=>none⟩
def kS2:House:=⟨[zhC,zkc],[⟨100,0,[]⟩,⟨100,0,[]⟩],[],0,[kO0,kO1],[],fun _=>none⟩
def kS3:House:=⟨[zhC,zkc],[⟨100,0,[]⟩,⟨100,0,[]⟩],[kL []],0,[kO0,kO1,kO2],[],kD⟩
def kS4:House:=⟨[zhC,zkc],[⟨100,0,[(0,60)]⟩,⟨100,0,[]⟩],[kL [kT0]],0,[kO0,kO1,kO2,kO3],[],kD⟩
def kS5:House:=⟨[zhC,zkc],[⟨100,0,[(0,60)]⟩,⟨100,0,[(0,40)]⟩],[kL [kT0,kT1]],0,[kO0,kO1,kO2,kO3,kO4],[],kD⟩
def kS7:House:=⟨[zhC,zkc],[⟨100,40,[]⟩,⟨100,0,[]⟩],[⟨kP,10,true,[],⟨-1,0,0,10⟩,40⟩],10,[kO0,kO1,kO2,kO3,kO4,kO6],[⟨5,0,0,40,0,0,10⟩],zaZ kD 10⟩
def kS:Nat→House
 |0=>kS0|1=>kS1|2=>kS2|3=>kS3|4=>kS4|5=>kS5|6=>kS5|_=>kS7
def kK:Nat→Nat
 |0=>0|1=>0|2=>0|3=>0|4=>1|5=>2|6=>2|_=>4098
theorem zvG {D:Int→Option Int} {t:Int} {ds:List Du} (h:DueL D t ds) (n x:Int) (g:∀m y,D m=some y∧y≤t↔m=n∧y=x):ds=[(x,n)]:=by
 have c:∀d∈ds,d=(x,n):=fun d f=>by
  obtain ⟨a,b⟩:=(g _ _).1 ((h.mem d).1 f)
  cases d;simp_all
 have e:(x,n)∈ds:=(h.mem (x,n)).2 ((g n x).2 ⟨rfl,rfl⟩)
 match ds,c,e,h.nodup with
 |[],_,e,_=>cases e
 |[a],c,_,_=>rw[c a List.mem_cons_self]
 |a::b::l,c,_,h3=>
  rw[c a List.mem_cons_self,c b (List.mem_cons_of_mem _ List.mem_cons_self)] at h3
  simp at h3
theorem zna (sp:Int) (h:0≤sp∧sp≤100):Acc.Ok ⟨100,sp,[]⟩:=⟨by unfold zai;simp only;omega,by unfold zai;simp only;omega,List.Pairwise.nil,fun p hp=>by simp at hp,by simp[zas]⟩
theorem zp8 (v:Int) (h:1≤v∧v≤100):Acc.Ok ⟨100,0,[(0,v)]⟩:=⟨by unfold zai;simp only;omega,by unfold zai;simp,List.pairwise_singleton _ _,fun p hp=>by simp at hp;subst hp;simp;omega,by simp[zas];omega⟩
theorem zwB:zba kS5.accs:=fun a ha=>by
 simp only[kS5,List.mem_cons,List.mem_nil_iff,or_false,List.not_mem_nil] at ha
 rcases ha with rfl|rfl
 ·exact ⟨zp8 60 (by omega),by simp[Acc.Fine,zas]⟩
 ·exact ⟨zp8 40 (by omega),by simp[Acc.Fine,zas]⟩
theorem zxc:kS5.due=za7 kS5.lots:=by
 funext n
 unfold za7;simp only[kS5,kD,upd];by_cases h0:n=0
 ·subst h0;rfl
 ·rw[if_neg h0];by_cases h1:n<0
  ·rw[if_pos h1]
  ·rw[if_neg h1];rw[List.getElem?_eq_none (by simp only[List.length_cons,List.length_nil];omega)]
theorem zwC (l:LotS) (d:l∈kS5.lots):SellsAs (fun l=>(zcy l,zaY l)) 2 l:=by
 simp only[kS5,List.mem_cons,List.not_mem_nil,or_false] at d;subst d;have c:∀s∈(kL [kT0,kT1]).stands,(0≤s.bidder∧s.bidder<2)∧zai s.held:=fun s a=>by
  simp only[kL,List.mem_cons,List.not_mem_nil,or_false] at a
  rcases a with rfl|rfl<;>exact ⟨by decide,by unfold zai;decide⟩
 refine ⟨by decide,fun s a=>(c s a).1,by decide,⟨rfl,rfl⟩,fun s a=>?_,by decide,fun W T j b e f=>?_⟩
 ·have:zaY (kL [kT0,kT1])=[⟨0,0,0,40,0,0,0⟩]:=rfl;rw[this] at a;simp only[List.mem_cons,List.not_mem_nil,or_false] at a;subst a
  decide
 ·exact zml e f (fun s a=>⟨⟨(c s a).1.1,by have:=(c s a).1.2;omega⟩,(c s a).2⟩) (by decide)
section
variable {W:World} {T T0:Nat→Part} {h lo:Nat} {A:Option Addr} {c:Nat}
theorem zkd {K:Nat} {H:House} (g:zaf W T h K H) {i j:Nat} {a:Acc} {l:LotS} (k:H.accs[i]? =some a) (m:H.lots[j]? =some l):
  ∃pn pc va vl vb vs bl ba ma,AtIt W T h pn pc va vl vb vs K H bl ba ma i j a l:=by
 obtain ⟨pn,pc,va,vl,vb,vs,b⟩:=g;obtain ⟨ba,ma,d,c⟩:=b.accs;obtain ⟨bl,f,e⟩:=b.lots;exact ⟨pn,pc,va,vl,vb,vs,bl,ba,ma,b,f,e,d,c,k,m⟩
theorem zxd (g:zaf W T h 0 kS0) {R:Nat→Prop} (i:zae W R (.slice A kO0.offers.length c) kO0.offers) (j:∀b,b<W.heap.size→R b→T b=.no):
  Calls Tryz.prog 9 #[.pointer (some ⟨h,0,none⟩),kO0.agg (.slice A kO0.offers.length c)] W fun e W'=>e=.returned (zgo 0 0 0)∧∃T',zaf W' T' h 0 kS1∧Moves W T W' T':=by
 refine (zd7 1 (by decide) (by decide) g kO0 rfl (by decide) i j (by decide) (K':=0) (H1:=zgg kS0 100 zhC) (v:=0) (by decide) fun k a _=>?_).mono ?_
 ·obtain ⟨m,l,n,p,o,q,a⟩:=a;exact zil a rfl kO0 _ (by decide) (by decide)
 ·rintro e W' ⟨rfl,T',d,f⟩;exact ⟨rfl,T',d,f⟩
theorem zxe (g:zaf W T h 0 kS1) {R:Nat→Prop} (i:zae W R (.slice A kO1.offers.length c) kO1.offers) (j:∀b,b<W.heap.size→R b→T b=.no):
  Calls Tryz.prog 9 #[.pointer (some ⟨h,0,none⟩),kO1.agg (.slice A kO1.offers.length c)] W fun e W'=>e=.returned (zgo 1 0 1)∧∃T',zaf W' T' h 0 kS2∧Moves W T W' T':=by
 refine (zd7 1 (by decide) (by decide) g kO1 rfl (by decide) i j (by decide) (K':=0) (H1:=zgg kS1 100 zkc) (v:=1) (by decide) fun k a _=>?_).mono ?_
 ·obtain ⟨m,l,n,p,o,q,a⟩:=a;exact zil a rfl kO1 _ (by decide) (by decide)
 ·rintro e W' ⟨rfl,T',d,f⟩;exact ⟨rfl,T',d,f⟩
theorem zxf (g:zaf W T h 0 kS2) {R:Nat→Prop} (i:zae W R (.slice A kO2.offers.length c) kO2.offers) (j:∀b,b<W.heap.size→R b→T b=.no):
  Calls Tryz.prog 9 #[.pointer (some ⟨h,0,none⟩),kO2.agg (.slice A kO2.offers.length c)] W fun e W'=>e=.returned (zgo 2 0 0)∧∃T',zaf W' T' h 0 kS3∧Moves W T W' T':=by
 refine (zd7 3 (by decide) (by decide) g kO2 rfl (by decide) i j (by decide) (K':=0) (H1:=zes kS2 kP) (v:=0) (by decide) fun k a _=>?_).mono ?_
 ·obtain ⟨m,l,n,p,o,q,a⟩:=a;exact zo8 a (by decide) kO2 _ (by decide)
 ·rintro e W' ⟨rfl,T',d,f⟩;exact ⟨rfl,T',d,f⟩
theorem zxg (s:zaf W T h 0 kS3) {R:Nat→Prop} (t:zae W R (.slice A kO3.offers.length c) kO3.offers) (p:∀b,b<W.heap.size→R b→T b=.no):
  Calls Tryz.prog 9 #[.pointer (some ⟨h,0,none⟩),kO3.agg (.slice A kO3.offers.length c)] W fun e W'=>e=.returned (zgo 3 0 0)∧∃T',zaf W' T' h 1 kS4∧Moves W T W' T':=by
 refine (zd7 4 (by decide) (by decide) s kO3 rfl (by decide) t p (by decide) (K':=1) (H1:=zev kS3 0 0 ⟨100,0,[]⟩ (kL []) kT0) (v:=0) (by decide) fun x r n=>?_).mono ?_
 ·obtain ⟨D,C,E,G,F,H,z,y,B,f⟩:=zkd r (i:=0) (j:=0) (a:=⟨100,0,[]⟩) (l:=kL []) rfl rfl;refine (zgs f kO3 rfl rfl (by unfold runs;decide) (by decide) (Q:=fun k v o W'=>v=0∧o=0∧∃T',zaf W' T' h 1 (zev kS3 0 0 ⟨100,0,[]⟩ (kL []) kT0)∧Moves k T W' T') fun k g=>?_).mono ?_
  ·refine (zlL (f.grow g) kO3 rfl rfl (zae.grow n g) (fun b q=>p b q.2 q.1) (zna 0 (by omega)) (by decide) (co:=60) rfl (by decide) (by decide) (by decide) (by decide) (by decide)).mono ?_;rintro e W' ⟨rfl,d⟩;exact ⟨0,0,rfl,rfl,rfl,d⟩
  ·rintro e W' ⟨v,o,rfl,k,g,rfl,rfl,T',d,m⟩;exact ⟨rfl,T',d,(HouseAt.movesB g).trans m⟩
 ·rintro e W' ⟨rfl,T',d,m⟩;exact ⟨rfl,T',d,m⟩
theorem zxh (s:zaf W T h 1 kS4) {R:Nat→Prop} (t:zae W R (.slice A kO4.offers.length c) kO4.offers) (p:∀b,b<W.heap.size→R b→T b=.no):
  Calls Tryz.prog 9 #[.pointer (some ⟨h,0,none⟩),kO4.agg (.slice A kO4.offers.length c)] W fun e W'=>e=.returned (zgo 4 0 0)∧∃T',zaf W' T' h 2 kS5∧Moves W T W' T':=by
 refine (zd7 4 (by decide) (by decide) s kO4 rfl (by decide) t p (by decide) (K':=2) (H1:=zev kS4 1 0 ⟨100,0,[]⟩ (kL [kT0]) kT1) (v:=0) (by decide) fun x r n=>?_).mono ?_
 ·obtain ⟨D,C,E,G,F,H,z,y,B,f⟩:=zkd r (i:=1) (j:=0) (a:=⟨100,0,[]⟩) (l:=kL [kT0]) rfl rfl;refine (zgs f kO4 rfl rfl (by unfold runs;decide) (by decide) (Q:=fun k v o W'=>v=0∧o=0∧∃T',zaf W' T' h 2 (zev kS4 1 0 ⟨100,0,[]⟩ (kL [kT0]) kT1)∧Moves k T W' T') fun k g=>?_).mono ?_
  ·refine (zlL (f.grow g) kO4 rfl rfl (zae.grow n g) (fun b q=>p b q.2 q.1) (zna 0 (by omega)) (by decide) (co:=40) rfl (by decide) (by decide) (by decide) (by decide) (by decide)).mono ?_;rintro e W' ⟨rfl,d⟩;exact ⟨0,0,rfl,rfl,rfl,d⟩
  ·rintro e W' ⟨v,o,rfl,k,g,rfl,rfl,T',d,m⟩;exact ⟨rfl,T',d,(HouseAt.movesB g).trans m⟩
 ·rintro e W' ⟨rfl,T',d,m⟩;exact ⟨rfl,T',d,m⟩
theorem zxi (p:zaf W T h 2 kS5) {R:Nat→Prop} (r:zae W R (.slice A kO5.offers.length c) kO5.offers) (s:∀b,b<W.heap.size→R b→T b=.no):
  Calls Tryz.prog 9 #[.pointer (some ⟨h,0,none⟩),kO5.agg (.slice A kO5.offers.length c)] W fun e W'=>e=.returned (zgo 0 8 0)∧∃T',zaf W' T' h 2 kS5∧Moves W T W' T':=by
 refine (zgp 4 (by decide) (by decide) p kO5 rfl (by decide) (zae.mono (R':=fun b=>R b∧b<W.heap.size) r fun b d k=>⟨k,d⟩) (err:=8) (by decide) fun t q n=>?_).mono ?_
 ·obtain ⟨C,B,D,F,E,G,y,x,z,f⟩:=zkd q (i:=0) (j:=0) (a:=⟨100,0,[(0,60)]⟩) (l:=kL [kT0,kT1]) rfl rfl;refine (zgs f kO5 rfl rfl (by unfold runs;decide) (by decide) (Q:=fun g v o W'=>v=0∧o=8∧Below g g W') fun g d=>?_).mono ?_
  ·refine (znD (f.grow d) kO5 rfl rfl (zae.grow n d) (fun b k=>s b k.2 k.1) (zp8 60 (by omega)) (by decide) (by decide)).mono ?_;rintro e W' ⟨rfl,m⟩;exact ⟨0,_,rfl,rfl,by decide,m⟩
  ·rintro e W' ⟨v,o,rfl,g,d,rfl,rfl,m⟩;exact ⟨rfl,d.trans (m.mono d.size)⟩
 ·rintro e W' ⟨rfl,d⟩;exact ⟨rfl,T,p.grow d,HouseAt.movesB d⟩
theorem zxj (j:zaf W T h 2 kS5) {R:Nat→Prop} (k:zae W R (.slice A kO6.offers.length c) kO6.offers) (n:∀b,b<W.heap.size→R b→T b=.no):
  Calls Tryz.prog 9 #[.pointer (some ⟨h,0,none⟩),kO6.agg (.slice A kO6.offers.length c)] W fun e W'=>e=.returned (zgo 5 0 1)∧∃T',zaf W' T' h 4098 kS7∧Moves W T W' T':=by
 refine (zd7 6 (by decide) (by decide) j kO6 rfl (by decide) k n (by decide) (K':=4098) (H1:=zc1 (fun l=>(zcy l,zaY l)) kS5 10 [(10,0)]) (v:=1) (by decide) fun q a _=>?_).mono ?_
 ·obtain ⟨t,s,x,B,z,C,a⟩:=a;refine (znE (f:=fun l=>(zcy l,zaY l)) a kO6 _ (by decide) (by decide) zxc zwB (by decide) (by decide) (by decide) fun l p _ _=>zwC l p).mono ?_;rintro e W' ⟨r,T',rfl,o,d,g⟩;have i:=zvG o 0 10 fun m y=>by
   simp only[kS5,kD,upd,kO6];by_cases hm:m=0
   ·rw[if_pos hm];simp;constructor
    ·rintro ⟨rfl,_⟩;exact ⟨hm,rfl⟩
    ·rintro ⟨_,rfl⟩;exact ⟨rfl,by omega⟩
   ·rw[if_neg hm];simp[hm]
  subst i;exact ⟨rfl,T',d,g⟩
 ·rintro e W' ⟨rfl,T',d,g⟩;exact ⟨rfl,T',d,g⟩
theorem zxk:zpc T0 h lo kS kK kOs zwA:=by
 intro k o a d f W T A c e m l g;have i:∀b,b<W.heap.size→(b<lo∧T0 b=.no)→T b=.no:=fun b _ j=>(l b j.1).trans j.2
 match k,d,f,e with
 |0,d,f,e=>cases d;cases f;exact zxd e g i
 |1,d,f,e=>cases d;cases f;exact zxe e g i
 |2,d,f,e=>cases d;cases f;exact zxf e g i
 |3,d,f,e=>cases d;cases f;exact zxg e g i
 |4,d,f,e=>cases d;cases f;exact zxh e g i
 |5,d,f,e=>cases d;cases f;exact zxi e g i
 |6,d,f,e=>cases d;cases f;exact zxj e g i
 |k+7,d,_,_=>simp[kOs] at d
end
theorem zrY {W:World} {R:Nat→Prop} {g n sz:Nat} {t:TypeId} {cs:Array Value} (h:Ac.Blk W g t cs) (hR:R g) (hn:n≤maxLen) (hs:cs.size=n*sz):Sl W R (.slice (some ⟨g,0,none⟩) n n) n sz cs.toList:=
 ⟨by rw[Array.length_toList];exact hs,_,n,rfl,lR,hn,fun _=>⟨g,0,rfl,hR,h.lt,fun j u hj=>by rw[Nat.zero_add];exact (h.cell j).trans (by rw[←Array.getElem?_toList];exact hj)⟩⟩
theorem zmm {W:World} {R:Nat→Prop} {e:TypeId} {sz n c:Nat} {A:Option Addr} {xs:List Value} (h:RowAt W R e sz (.slice A n c) n xs) (l:0<n):∃g,A=some ⟨g,0,none⟩∧R g∧g<W.heap.size∧∀j u,xs[j]? =some u→W.cell? ⟨g,j,none⟩=some u:=by
 obtain ⟨g,m,q,o,i,_⟩:=h.ex l;injection q with hA _ _
 subst hA;obtain ⟨_,s,t,k,_,_,f⟩:=h.sl;injection k with hA' _ _
 subst hA';obtain ⟨b,r,a,_,_,d⟩:=f l;injection a with a
 injection a with h1 h2 _
 subst h1;subst h2;exact ⟨g,rfl,o,i,fun j u p=>by have:=d j u p;rwa [Nat.zero_add] at this⟩
def kV (g:Nat):Nat→Value:=fun k=>if k=3 then .slice (some ⟨g,0,none⟩) 1 1 else if k=4 then .slice (some ⟨g+1,0,none⟩) 1 1 else if k=5 then .slice (some ⟨g+1+1,0,none⟩) 1 1 else .slice none 0 0
theorem zvH {U:World} {R:Nat→Prop} {g:Nat} (m:Ac.Blk U g 106 #[.int .u32 0,(60:Int)]) (n:Ac.Blk U (g+1) 106 #[.int .u32 0,(40:Int)]) (p:Ac.Blk U (g+1+1) 106 #[.int .u32 0,(101:Int)])
  (i:Ac.Blk U (g+1+1+1) 36 (zaI kOs (kV g)).toArray) (j:∀b,g≤b→b<U.heap.size→R b):zkb U R (.slice (some ⟨g+1+1+1,0,none⟩) 7 7) kOs:=by
 have e:∀o:List Off,o=[]→zae U R (.slice none 0 0) o:=fun o f=>by subst f;exact ⟨Sl.none0 _ _ _,fun o h=>by cases h⟩
 have d:∀(q:Nat) (c:Int),g≤q→zai c→Ac.Blk U q 106 #[.int .u32 0,c]→zae U R (.slice (some ⟨q,0,none⟩) 1 1) [⟨0,c⟩]:=fun q c s r l=>⟨zrY l (j q s l.lt) (by decide) rfl,fun o f=>by
  rw[List.mem_singleton] at f;subst f;unfold zai at r;exact ⟨by simp only;omega,by simp only;omega,by simp only;omega⟩⟩
 refine ⟨kV g,zrY i (j _ (by omega) i.lt) (by decide) rfl,fun k o a=>?_⟩
 match k,a with
 |0,a=>cases a;exact ⟨⟨_,_,rfl⟩,e _ rfl⟩
 |1,a=>cases a;exact ⟨⟨_,_,rfl⟩,e _ rfl⟩
 |2,a=>cases a;exact ⟨⟨_,_,rfl⟩,e _ rfl⟩
 |3,a=>cases a;exact ⟨⟨_,_,rfl⟩,d _ 60 lR (by decide) m⟩
 |4,a=>cases a;exact ⟨⟨_,_,rfl⟩,d _ 40 (by omega) (by decide) n⟩
 |5,a=>cases a;exact ⟨⟨_,_,rfl⟩,d _ 101 (by omega) (by decide) p⟩
 |6,a=>cases a;exact ⟨⟨_,_,rfl⟩,e _ rfl⟩
 |k+7,a=>simp[kOs] at a
theorem zvI {U:World} {T:Nat→Part} {h:Nat} {A:Option Addr} (hH:zaf U T h 0 kS0) (ho:zkb U (fun b=>b<U.heap.size∧T b=.no) (.slice A 7 7) kOs):
  Calls Tryz.prog 42 #[.pointer (some ⟨h,0,none⟩),.slice A 7 7] U fun e W'=>∃A2 c2,e=.returned (.slice A2 7 c2)∧∃T',zaf W' T' h 4098 kS7∧Moves U T W' T'∧
   RowAt W' (fun b=>U.heap.size≤b∧T' b=.no) 27 3 (.slice A2 7 c2) 7 [.int .i64 0,.int .i64 0,.int .i64 0,.int .i64 1,.int .i64 0,.int .i64 1,.int .i64 2,.int .i64 0,.int .i64 0,.int .i64 3,.int .i64 0,.int .i64 0,.int .i64 4,.int .i64 0,.int .i64 0,.int .i64 0,.int .i64 8,.int .i64 0,.int .i64 5,.int .i64 0,.int .i64 1]:=zvE (S:=kS) (K:=kK) (os:=kOs) (ans:=zwA) hH ho rfl (by decide) zxk
theorem zxl {W:World} {T:Nat→Part} {h:Nat} (hH:zaf W T h 4098 kS7):Calls Tryz.prog 22 #[.pointer (some ⟨h,0,none⟩),()] W fun e W'=>e=.returned (.tuple #[.agg #[.string {data:=#[97,110,110]},(100:Int),(),(40:Int)],()])∧Below W W W':=
 zfJ hH (fun a ha=>by
  simp only[kS7,List.mem_cons,List.not_mem_nil,or_false] at ha
  rcases ha with rfl|rfl
  ·exact zna 40 (by omega)
  ·exact zna 0 (by omega)) (i:=0) (a:=⟨100,40,[]⟩) (s:=zhC) rfl rfl
theorem zxm {W:World} {T:Nat→Part} {h:Nat} (hH:zaf W T h 4098 kS7):Calls Tryz.prog 11 #[.pointer (some ⟨h,0,none⟩)] W fun e W'=>∃A c,e=.returned (.slice A 1 c)∧RowAt W' (fun b=>W.heap.size≤b) 44 7 (.slice A 1 c) 1 [.int .i64 5,.int .i64 0,.int .i64 0,.int .i64 40,.int .u32 0,.int .i64 0,.int .i64 10]∧Below W W W':=
 zez hH (by decide)
theorem zxn {W:World} {T:Nat→Part} {h:Nat} (hH:zaf W T h 4098 kS7):Calls Tryz.prog 20 #[.pointer (some ⟨h,0,none⟩)] W fun e W'=>e=.returned ↑(40:Int)∧Below W W W':=
 zgQ hH (by decide) (fun s hs=>by
  simp only[kS7,List.mem_cons,List.not_mem_nil,or_false] at hs;subst hs
  decide)
theorem zlQ (W:World):Calls Tryz.prog 13 #[] W fun e W'=>e=.returned ↑true∧Below W W W':=by
 go_enter Tryz.func13,Tryz.ntmps13;go_wp2_with fail
 refine (zgf W).mono ?_;rintro e l ⟨h,T,rfl,X,D,G⟩;have Y:=hid X;have n:=hid D;have S:=hid G;have A:=hid (show ∀b,l.heap.size≤b→T b=.no by obtain ⟨_,_,_,_,_,_,hA⟩:=X;exact hA.out);clear X D G;go_wp2_with fail
 generalize hU:World.alloc (World.alloc (World.alloc (World.alloc l _) _) _) _=U
 have m:Below l l U:=by rw[←hU];exact ((((qA _).alloc (by simp) _).alloc (by simp;omega) _).alloc (by simp;omega) _)
 have H:Ac.Blk U l.heap.size 106 #[.int .u32 0,(60:Int)]:=by rw[←hU];exact (((Ac.Blk.new l _ _).grow (qA _)).grow (qA _)).grow (qA _)
 have I:Ac.Blk U (l.heap.size+1) 106 #[.int .u32 0,(40:Int)]:=by rw[←hU];exact ((Ac.Blk.new' _ _ (by simp)).grow (qA _)).grow (qA _)
 have J:Ac.Blk U (l.heap.size+1+1) 106 #[.int .u32 0,(101:Int)]:=by rw[←hU];exact (Ac.Blk.new' _ _ (by simp)).grow (qA _)
 have K:Ac.Blk U (l.heap.size+1+1+1) 36 (zaI kOs (kV l.heap.size)).toArray:=by rw[←hU];exact Ac.Blk.new' _ _ (by simp)
 have M:=zvH (R:=fun b=>b<U.heap.size∧T b=.no) H I J K fun b h1 h2=>⟨h2,A.out b h1⟩;have r:=hid (n.out.trans (m.mono n.out.size));have Z:=hid M;have Q:=hid (Y.out.grow m);clear hU m H I J K M;refine (zvI Q.out Z.out).mono ?_;rintro e W2 ⟨A2,c2,rfl,T2,B,C,c⟩;have o:=hid (show Below W W W2 from r.out.trans (C.chg.below r.out.size fun b a M=>M.2 (S.out b a)));have y:=hid B;obtain ⟨g,rfl,_,F,E⟩:=zmm c (by omega);have i:=hid E;have j:=hid F;clear B C c E F;go_wp2_with fail
 refine (zxl y.out).mono ?_;rintro e L ⟨rfl,a⟩;have p:=hid (o.out.trans (a.mono o.out.size));have O:=hid (y.out.grow a);have v:=hid a;clear a;go_wp2_with fail
 generalize hV:World.alloc _ _=V
 have a:Below L L V:=by rw[←hV];exact qA _
 have HX:=hid (show Ac.Blk V L.heap.size 62 #[.string {data:=#[97,110,110]},(100:Int),(),(40:Int)] by rw[←hV];exact Ac.Blk.new L _ _);have t:=hid (p.out.trans (a.mono p.out.size));have z:=hid (O.out.grow a);have x:=hid (v.out.trans (a.mono v.out.size));clear hV a;refine (zxm z.out).mono ?_;rintro e W4 ⟨A4,c4,rfl,c,a⟩;have q:=hid (t.out.trans (a.mono t.out.size));have P:=hid (z.out.grow a);have k:=HX.out.grow a;have f:=x.out.trans (a.mono x.out.size);obtain ⟨s,rfl,_,_,d⟩:=zmm c (by omega);have a15:=qc f (i.out 15 _ rfl) j.out;have a16:=qc f (i.out 16 _ rfl) j.out;have a17:=qc f (i.out 17 _ rfl) j.out;have a18:=qc f (i.out 18 _ rfl) j.out;have a19:=qc f (i.out 19 _ rfl) j.out;have a20:=qc f (i.out 20 _ rfl) j.out;have s0:=d 0 _ rfl;have s1:=d 1 _ rfl;have s2:=d 2 _ rfl;have s3:=d 3 _ rfl;have s4:=d 4 _ rfl;have s5:=d 5 _ rfl;have s6:=d 6 _ rfl;have b0:=k.cell 0;have b1:=k.cell 1;have b2:=k.cell 2;have b3:=k.cell 3;clear c a f d k;go_wp2_with fail
 refine (zxn P.out).mono ?_;rintro e W5 ⟨rfl,a⟩;have N:=hid (q.out.trans (a.mono q.out.size));clear a;go_wp2_with fail
 try rw[Exit.noGoto_ret]
 go_ret;exact ⟨rfl,N.out⟩
end Ho
end Go.Proofs.YthoaidfpgijbfaaGreat

/- Joined by program. -/
import Derived.Test.YtckdpejdnejhfaaGreatZm
import Derived.Test.YtckdpejdnejhfaaGreatZo
set_option linter.all false
set_option maxRecDepth 100000
set_option maxHeartbeats 32000000
namespace Go.Proofs.YtckdpejdnejhfaaGreat
open Lib (hid)
namespace Ho
open Go.RowKit Vb Ac
theorem RowAt.self {W:World} {R:Nat→Prop} {e:TypeId} {sz n:Nat} {v:Value} {xs:List Value} (h:RowAt W R e sz v n xs):RowAt W (fun b=>v.ownBlock=some b) e sz v n xs:=⟨h.own,fun _ hb=>hb⟩
def zdh (W:World) (lo:Nat) (v:Value) (ss:List Stand):Prop:=
 ∃vo,RowAt W (fun b=>lo≤b) 188 3 v ss.length (zaF ss vo)∧∀k s,ss[k]? =some s→zad W (fun b=>lo≤b∧¬v.ownBlock=some b) (vo k) s.offers
theorem zdh.nil (W:World) (lo:Nat):zdh W lo (.slice none 0 0) []:=⟨fun _=>.nilFunc,RowAt.nil,fun k s h=>by simp at h⟩
theorem znD {W:World} {T:Nat→Part} {j b:Nat} {l:LotS} (hL:za2 W T j b l) (hn:l.stands.length≤1000000) (ho:∀s∈l.stands,s.offers.length≤1099511627776):
  Calls Tryz.prog 65 #[.pointer (some ⟨b,0,none⟩)] W fun e W'=>∃A c,e=.returned (.slice A l.stands.length c)∧zdh W' W.heap.size (.slice A l.stands.length c) l.stands∧Below W W W':=by
 obtain ⟨v,htb,f,O⟩:=hL;obtain ⟨sA,sc,hsv⟩:=O.form;subst hsv;obtain ⟨n,hnn⟩:=nm (l.stands.length);rw[←hnn] at O f hn ⊢;have l14:W.cell? ⟨b,14,none⟩=some (.slice sA n sc):=f.cell 14;have lb:=f.lt;have HTB:=hid htb;have HBLK:=hid f;have HST:=hid O;have HO:=hid ho;have Y:=hid hnn;clear htb f O ho hnn;go_enter Tryz.func65,Tryz.ntmps65;go_wp2_with fail
 have e4:(0:Int)≤(n:Int):=by omega
 go_loopw [3,11] (fun t i wr=>∃(k:Nat) (R:Option Addr) (S:Nat),k≤n∧i=.int .i64 k∧t=.slice R k S∧zdh wr W.heap.size (.slice R k S) (l.stands.take k)∧Below W W wr) (fun _ i _=>n-(intOf i).toNat)
 case atStart=>exact ⟨0,none,0,zL,rfl,rfl,zdh.nil _ _,bR⟩
 case round=>
  obtain ⟨k,R,S,hk,rfl,rfl,N,d⟩:=hrel;by_cases hlt:k<n
  ·obtain ⟨s,hs⟩:∃s,l.stands[k]? =some s:=⟨_,gE (by rw[←Y.out];exact hlt)⟩;obtain ⟨sq,scap,uA,uc,hsv,_,hsq,d0,d1,d2,hof⟩:=zaM.at_ (HST.out.step (T':=T) (Chg.of (fun _=>False) d) (fun _ _=>id) fun _ _=>rfl) hs;injection hsv with hv1 hv2 hv3
   subst hv1 hv3;clear hv2;have hol:=HO.out s (mG hs);have g:=hid (show (l.stands.take k).length=k by rw[List.length_take,←Y.out];omega);obtain ⟨vo,h,G⟩:=N;rw[g.out] at h;obtain ⟨sb,hsb⟩:=nm (s.bidder);obtain ⟨sh,hsh⟩:=nm (s.held);obtain ⟨un,I⟩:=nm (s.offers.length);rw[←hsb] at d0;rw[←I] at d1 hof;rw[←hsh] at d2;obtain ⟨w1,P⟩:=nm (wr.alloc (.cells #[sb,.slice uA un uc,sh] 188));have ab:Below wr wr w1:=by rw[P];exact qA _
   have hx1:Ac.Blk w1 wr.heap.size 188 #[sb,.slice uA un uc,sh]:=by rw[P];exact Blk.new _ _ _
   have hsz1:=hx1.lt;have HX1:=hid hx1;have J:=hid d;have HB1:=hid ab;have HCL:=hid (zgk (zad.grow (I▸hof) ab) hol);have a:=hid h;have aa:=hid G;have HUN:=hid I;have HSK:=hid (show l.stands.take (k+1)=l.stands.take k++[s] from za4 hs);have HSB:=hid hsb;have HSH:=hid hsh;have e5:(0:Int)≤(k:Int):=by omega
   have e6:(k:Int)<(n:Int):=by omega
   have hwr:IntKind.i64.wrap ((k:Int)+1)=(k:Int)+1:=iW _ (by omega);rw[←I] at HCL;clear d hs hsb hsh I hof ab hx1 hol h G;go_wp2_with fail
   rw[←P];clear P;refine HCL.out.mono ?_;rintro e V ⟨y,D,rfl,ho2,L⟩;have q:=HX1.out.grow L;have f1:=q.frozen 1;have y0:=q.cell 0;have y1:=q.cell 1;have y2:=q.cell 2;have m:Below wr wr V:=HB1.out.trans (L.mono HB1.out.size);have E:Below W W V:=J.out.trans (m.mono J.out.size);have hsz2:=L.size;obtain ⟨r,p⟩:=nm (V.setCell ⟨wr,1,none⟩ (.slice y un D));have hs3:r.heap.size=V.heap.size:=by rw[p];simp[World.setCell]
   have F:Chg (·=wr.heap.size) V r:=by rw[p];exact Chg.set V ⟨wr,1,none⟩ _
   have HX3:=hid (show Ac.Blk r wr.heap.size 188 #[sb,.slice y un D,sh] by rw[p];exact q.set_ 1 _);have K:=hid (show Below W W r from E.trans (F.below E.size fun x hx e=>by have:=J.out.size;omega));have B:=hid ((a.out.grow m).chgB F (fun b d e=>by have:=a.out.lt d;omega));have z:=hid (show ∀i s,(l.stands.take k)[i]? =some s→zad r (fun b=>W.heap.size≤b∧b<wr.heap.size∧¬(Value.slice R k S).ownBlock=some b) (vo i) s.offers from fun i s hi=>zad.chg (zad.grow (zad.mono (aa.out i s hi) (fun b d o=>⟨o.1,d,o.2⟩)) m) F (fun b _ o e=>by omega));have HON:=hid (show zad r (fun b=>w1.heap.size≤b) (.slice y un D) s.offers from zad.chg ho2 F (fun b _ o e=>by omega));have HS3:=hid hs3;have HS2:=hid hsz2;clear ho2 L q m E F hs3;subst p
   go_wp2_with (at_builtin;go_must (refine zby _ (.tmp 19) (.tmp 21) rfl ziH rfl (.slice R k S) k (zaF (l.stands.take k) vo) rfl (RowAt.self (B.out.grow (qA _))) (.slice (some ⟨V,0,none⟩) 1 1) 1 [.int .i64 sb,.slice y un D,.int .i64 sh] rfl (Sl.lit1 (Blk.new' 188 #[sb,.slice y un D,sh] (by simp[World.setCell])) rfl) (by simp[Value.oneCell']) (by omega) (by unfold maxLen;omega) ?_);intro A3 c3 Z hrZ hcZ;have C:=hid hrZ;have X:=hid hcZ;clear hrZ hcZ)
   go_roundw
   case rel=>
    obtain ⟨r,p⟩:=nm (V.setCell ⟨wr,1,none⟩ (.slice y un D));rw[←p] at C X HS3 HON z B K HX3;have M:=X.out;have hsz3:=J.out.size;have H:∀b,(Value.slice R k S).ownBlock=some b→b<wr.heap.size:=fun b d=>a.out.lt d;obtain ⟨w4,hw4⟩:=nm (r.alloc (.cells #[sb,.slice y un D,sh] 188));have hs4:w4.heap.size=r.heap.size+1:=by rw[hw4];simp
    have ac:Below r r w4:=by rw[hw4];exact qA _
    rw[←hw4] at C X M;have hzown:∀b,(Value.slice A3 (k+1) c3).ownBlock=some b→b<wr.heap.size∨b=w4.heap.size:=fun b d=>(C.out.blk b d).elim (fun e=>.inl (H b e)) .inr;have Q:∀b,(Value.slice A3 (k+1) c3).ownBlock=some b→(Value.slice R k S).ownBlock=some b∨b=w4.heap.size:=fun b d=>C.out.blk b d;have hs32:=HS3.out;have hs22:=HS2.out;refine ⟨k+1,A3,c3,by omega,by go_num,rfl,⟨fun i=>if i=k then .slice y un D else vo i,?_,fun i s' hi=>?_⟩,?_⟩
    ·rw[HSK.out];have:=zfN (l.stands.take k) s vo (.slice y un D);rw[g.out] at this;rw[this,List.length_append,List.length_singleton,g.out];have hcs:s.cells (.slice y un D)=[.int .i64 sb,.slice y un D,.int .i64 sh]:=by rw[HSB.out,HSH.out];rfl
     rw[hcs];exact C.out.mono fun b _ d=>d.elim (fun e=>a.out.blk b e) (fun e=>by omega)
    ·rw[HSK.out] at hi;by_cases hik:i=k
     ·subst hik;have hil:((l.stands.take i)++[s])[i]? =some s:=by rw[List.getElem?_append_right (by rw[g.out];omega),g.out];simp
      rw[hil] at hi
      cases hi
      simp only[if_true];refine zad.mono (zad.chg (zad.grow (zad.mono HON.out (R':=fun b=>w1.heap.size≤b∧b<r.heap.size) fun b d o=>⟨o,d⟩) ac) M fun b _ o e=>?_) fun b _ o=>⟨by omega,fun e=>?_⟩
      ·have:=H b e;omega
      ·rcases hzown b e with h1|h1<;>omega
     ·have hil:(l.stands.take k)[i]? =some s':=by
       have hlt2:i<k:=by
        have:=(gS.1 hi).1;rw[List.length_append,g.out] at this
        simp at this
        omega
       rwa [List.getElem?_append_left (by rw[g.out];exact hlt2)] at hi
      simp only;rw[if_neg hik];refine zad.mono (zad.chg (zad.grow (z.out i s' hil) ac) M fun b _ o e=>o.2.2 e) fun b _ o=>⟨o.1,fun e=>?_⟩
      rcases Q b e with h1|h1
      ·exact o.2.2 h1
      ·omega
    ·exact (K.out.trans (ac.mono K.out.size)).trans (M.below (by have:=K.out.size;omega) fun b d e=>by have:=a.out.blk b e;omega)
   case measure=>simp[intOf];omega
  ·obtain rfl:k=n:=by omega
   have U:l.stands.take k=l.stands:=List.take_of_length_le (by have:=Y.out;omega);rw[U] at N;have HFR:=hid N;have HB:=hid d;clear N d U hlt hk e4;go_wp2_with fail
   go_ret;exact ⟨R,S,rfl,HFR.out,HB.out⟩
end Ho
namespace Vb
open Go.RowKit
structure Sec where
 b:Int
 c:Int
def Sec.wf (s:Sec):Prop:=(-9223372036854775808≤s.b∧s.b≤9223372036854775807)∧-9223372036854775808≤s.c∧s.c≤9223372036854775807
def Sec.cells (s:Sec):List Value:=[.int .i64 s.b,.int .i64 s.c]
def Sec.all (l:List Sec):List Value:=l.flatMap Sec.cells
theorem Sec.all_fst:∀(l:List Sec) (k:Nat) (o:Sec),l[k]? =some o→(Sec.all l)[k*2]? =some ↑o.b
 |[],k,o,h=>by simp at h
 |x::l,0,o,h=>by simp at h;subst h;rfl
 |x::l,k+1,o,h=>by
  have:=Sec.all_fst l k o (by simpa using h);simp only[Sec.all,List.flatMap_cons,Sec.cells] at*;rw[show (k+1)*2=k*2+2 from by omega]
  simpa using this
theorem Sec.all_snd:∀(l:List Sec) (k:Nat) (o:Sec),l[k]? =some o→(Sec.all l)[k*2+1]? =some ↑o.c
 |[],k,o,h=>by simp at h
 |x::l,0,o,h=>by simp at h;subst h;rfl
 |x::l,k+1,o,h=>by
  have:=Sec.all_snd l k o (by simpa using h);simp only[Sec.all,List.flatMap_cons,Sec.cells] at*;rw[show (k+1)*2+1=k*2+1+2 from by omega]
  simpa using this
theorem Sec.all_app (l:List Sec) (s:Sec):Sec.all l++[.int .i64 s.b,.int .i64 s.c]=Sec.all (l++[s]):=by simp[Sec.all,Sec.cells]
def zer (w:World) (R:Nat→Prop) (v:Value) (l:List Sec):Prop:=Sl w R v l.length 2 (Sec.all l)∧∀o∈l,o.wf
theorem zer.grow {w w':World} {R:Nat→Prop} {v:Value} {l:List Sec} (h:zer w R v l) (hb:Below w w w'):zer w' R v l:=⟨h.1.grow hb,h.2⟩
theorem zer.alloc {w:World} {R:Nat→Prop} {v:Value} {l:List Sec} (h:zer w R v l) (o:Obj):zer (w.alloc o) R v l:=⟨h.1.alloc o,h.2⟩
def zae (x:Int):Bool:=decide (0≤x)&&decide (x≤1099511627776)
theorem zaQ (x:Int) (w:World):Calls Tryz.prog 251 #[x] w fun e w'=>e=.returned ↑(zae x:Bool)∧w=w':=by
 by_cases h0:0≤x
 ·go_enter Tryz.func251,Tryz.ntmps251
  go_wp2
  go_ret;exact ⟨by simp[zae,h0],rfl⟩
 ·go_enter Tryz.func251,Tryz.ntmps251
  go_wp2
  go_ret;exact ⟨by simp[zae];omega,rfl⟩
def zb8 (s:Sec):Bool:=decide (s.b<0)|| !zae s.c
theorem zjW (s:Sec) (w:World):Calls Tryz.prog 250 #[.agg #[s.b,s.c]] w fun e w'=>e=.returned ↑(zb8 s:Bool)∧Below w w w':=by
 obtain ⟨b,c⟩:=s;by_cases h0:b<0
 ·go_enter Tryz.func250,Tryz.ntmps250
  go_wp2
  go_ret;exact ⟨by simp[zb8,h0],qA _⟩
 ·go_enter Tryz.func250,Tryz.ntmps250
  go_wp2_with (go_at_call 251;refine (zaQ _ _).mono ?_;rintro e a ⟨rfl,rfl⟩)
  go_ret;exact ⟨by simp[zb8];intro h;omega,qA _⟩
def zd4:List Sec→Option Nat
 |[]=>none
 |o::l=>if zb8 o then some 0 else (zd4 l).map (·+1)
def zhs (l:List Sec):Int:=match zd4 l with|some k=>k|none=>-1
theorem zjU:∀l:List Sec,(∀o∈l,zb8 o=false)→zd4 l=none
 |[],_=>rfl
 |o::l,h=>by simp[zd4,h o (by simp),zjU l (fun x hx=>h x (by simp[hx]))]
theorem zjV:∀(l:List Sec) (k:Nat) (o:Sec),l[k]? =some o→zb8 o=true→(∀j x,j<k→l[j]? =some x→zb8 x=false)→zd4 l=some k
 |[],k,o,h,_,_=>by simp at h
 |x::l,0,o,h,hb,_=>by simp at h;subst h;simp[zd4,hb]
 |x::l,k+1,o,h,hb,hn=>by
  have h0:=hn 0 x (by omega) rfl;have:=zjV l k o (by simpa using h) hb (fun j y hj hy=>hn (j+1) y (by omega) (by simpa using hy))
  simp[zd4,h0,this]
theorem zpZ (l:List Sec):decide (0≤zhs l)=l.any zb8:=by
 unfold zhs
 induction l with
 |nil=>rfl
 |cons o l ih=>
  cases hb:zb8 o with
  |true=>simp[zd4,hb]
  |false=>
   simp only[zd4,hb,List.any_cons,Bool.false_or];rw[←ih]
   cases zd4 l with
   |none=>rfl
   |some k=>simp;omega
theorem zlV (l:List Sec) (v:Value) (R:Nat→Prop) (w:World) (I:zer w R v l):
  Calls Tryz.prog 254 #[v,.func (.func 250) #[] #[]] w fun e w'=>e=.returned ↑(zhs l:Int)∧Below w w w':=by
 obtain ⟨⟨_,A,H,rfl,C,r,d⟩,t⟩:=I;unfold maxLen at r;have G:=hid d;have K:=hid t;clear d t;go_enter Tryz.func254,Tryz.ntmps254
 go_wp2
 go_loopw [8] (fun i wr=>∃k:Nat,k≤l.length∧i=.int .i64 k∧Below w w wr∧∀j x,j<k→l[j]? =some x→zb8 x=false) (fun i _=>l.length-(intOf i).toNat)
 case atStart=>exact ⟨0,zL,rfl,bR,fun j x B=>by omega⟩
 case round=>
  obtain ⟨k,N,rfl,p,s⟩:=hrel;have z:=hid s;have n:=hid p;clear s;by_cases hlt:k<l.length
  ·obtain ⟨F,y,rfl,_,q,h⟩:=G.out (by omega);obtain ⟨o,m⟩:∃o,l[k]? =some o:=⟨_,gE hlt⟩;have L:wr.cell? ⟨F,y+k*2,none⟩=some ↑o.b:=(p.cell q).trans (h _ _ (Sec.all_fst l k o m));have M:wr.cell? ⟨F,y+k*2+1,none⟩=some ↑o.c:=(p.cell q).trans (h _ _ (Sec.all_snd l k o m));have E:=hid m;clear h p m
   cases hbad:zb8 o with
   |true=>
    have a:=hid hbad;clear hbad
    go_wp2_with (go_at_call 250;refine (zjW o _).mono ?_;rintro e J ⟨rfl,f⟩;rw[a.out];have g:=hid f;clear f)
    go_ret;refine ⟨zcM ?_,n.out.trans (g.out.mono n.out.size)⟩;unfold zhs;rw[zjV l k o E.out a.out z.out]
   |false=>
    have a:=hid hbad;clear hbad
    go_wp2_with (go_at_call 250;refine (zjW o _).mono ?_;rintro e J ⟨rfl,f⟩;rw[a.out];have g:=hid f;clear f)
    go_roundw
    case rel=>
     refine ⟨k+1,by omega,by go_num,n.out.trans (g.out.mono n.out.size),fun j x B D=>?_⟩;by_cases hjk:j<k
     ·exact z.out j x hjk D
     ·obtain rfl:j=k:=by omega
      rw[E.out] at D
      cases D
      exact a.out
    case measure=>simp[intOf];omega
  ·clear p
   go_wp2
   go_ret;refine ⟨zcM ?_,n.out⟩;unfold zhs;rw[zjU l (fun o m=>?_)];obtain ⟨j,B,rfl⟩:=List.getElem_of_mem m;exact z.out j _ (by omega) (gE B)
theorem zfB (l:List Sec) (v:Value) (R:Nat→Prop) (w:World) (d:zer w R v l):
  Calls Tryz.prog 252 #[v,.func (.func 250) #[] #[]] w fun e w'=>e=.returned ↑(l.any zb8:Bool)∧Below w w w':=by
 have c:=zpZ l;rw[←c];clear c;go_enter Tryz.func252,Tryz.ntmps252
 go_wp2_with (go_at_call 254;refine (zlV l v R _ d).mono ?_;rintro e f ⟨rfl,a⟩;have b:=hid a;clear a)
 go_ret;exact ⟨rfl,b.out⟩
def zli (a:Option (Nat×Int)) (c:Int):Bool:=match a with|none=>true|some (_,c0)=>decide (c0<c)
def zfy (floor but:Int) (i:Nat) (s:Sec) (a:Option (Nat×Int)):Option (Nat×Int):=if decide ((i:Int)≠but)&&decide (floor≤s.c)&&zli a s.c then some (i,s.c) else a
def zbx (floor but:Int) (l:List Sec):Nat→Option (Nat×Int)
 |0=>none
 |k+1=>match l[k]? with|some s=>zfy floor but k s (zbx floor but l k)|none=>zbx floor but l k
def atI (a:Option (Nat×Int)):Int:=match a with|none=>-1|some (j,_)=>j
theorem znv {floor but:Int} {l:List Sec} {k:Nat} {s:Sec} (h:l[k]? =some s):zbx floor but l (k+1)=zfy floor but k s (zbx floor but l k):=by simp[zbx,h]
theorem zdy {floor but:Int} {l:List Sec}:∀{k j:Nat} {c:Int},zbx floor but l k=some (j,c)→j<k∧∃s,l[j]? =some s∧s.c=c
 |0,j,c,h=>by simp[zbx] at h
 |k+1,j,c,h=>by
  simp only[zbx] at h
  cases hl:l[k]? with
  |none=>
   rw[hl] at h;obtain ⟨h1,h2⟩:=zdy h;exact ⟨by omega,h2⟩
  |some s=>
   rw[hl] at h;simp only[zfy] at h
   split at h
   ·simp only[Option.some.injEq,Prod.mk.injEq] at h;obtain ⟨rfl,rfl⟩:=h;exact ⟨by omega,s,hl,rfl⟩
   ·obtain ⟨h1,h2⟩:=zdy h;exact ⟨by omega,h2⟩
theorem zgW (floor but:Int) (l:List Sec) (v:Value) (R:Nat→Prop) (w:World) (T:zer w R v l):
  Calls Tryz.prog 255 #[floor,v,but] w fun e w'=>e=.returned ↑(atI (zbx floor but l l.length):Int)∧Below w w w':=by
 obtain ⟨⟨_,A,O,rfl,J,D,f⟩,M⟩:=T;unfold maxLen at D;have N:=hid f;clear f M;go_enter Tryz.func255,Tryz.ntmps255;go_wp2_with fail
 go_loopw [7,12] (fun a i wr=>∃k:Nat,k≤l.length∧i=.int .i64 k∧a=.int .i64 (atI (zbx floor but l k))∧Below w w wr) (fun _ i _=>l.length-(intOf i).toNat)
 case atStart=>exact ⟨0,zL,rfl,rfl,bR⟩
 case round=>
  obtain ⟨k,hk,rfl,rfl,B⟩:=hrel;have F:=hid B;by_cases hlt:k<l.length
  ·obtain ⟨I,z,rfl,_,x,d⟩:=N.out (by omega);obtain ⟨o,G⟩:∃o,l[k]? =some o:=⟨_,gE hlt⟩;have U:wr.cell? ⟨I,z+k*2,none⟩=some ↑o.b:=(B.cell x).trans (d _ _ (Sec.all_fst l k o G));have V:wr.cell? ⟨I,z+k*2+1,none⟩=some ↑o.c:=(B.cell x).trans (d _ _ (Sec.all_snd l k o G));have E:=znv (floor:=floor) (but:=but) G;have n:=hid E;have Y:(0:Int)≤(k:Int):=by omega
   have Z:(k:Int)<(l.length:Int):=by omega
   have C:∀q,Below w w ((wr.alloc (.cells #[o.b,o.c] 329)).drewN q):=fun q=>below_drewN (F.out.alloc F.out.size _) q;have m:=hid C;clear B G E C;by_cases hk1:(k:Int)=but
   ·have g:zbx floor but l (k+1)=zbx floor but l k:=by rw[n.out,zfy];simp[hk1]
    have t:=hid g;have K:((k:Int) !=but)=false:=by simpa using hk1
    have H:=hid hk1;clear g hk1 d;go_wp2_with fail
    go_quiet (fail)
    go_wp2_with fail
    go_roundw
    case rel=>exact ⟨k+1,by omega,by go_num,by rw[t.out],m.out _⟩
    case measure=>simp[intOf];omega
   ·have K:((k:Int) !=but)=true:=by simpa using hk1
    have H:=hid hk1;clear hk1;by_cases hf:floor≤o.c
    ·cases hbk:zbx floor but l k with
     |none=>
      have g:zbx floor but l (k+1)=some (k,o.c):=by rw[n.out,hbk,zfy];simp[zli,hf];intro h;exact absurd h H.out
      have t:=hid g;have r:atI none=-1:=rfl;clear g d hbk;rw[r];go_wp2_with fail
      go_quiet (fail)
      go_wp2_with fail
      go_roundw
      case rel=>exact ⟨k+1,by omega,by go_num,by rw[t.out];rfl,m.out _⟩
      case measure=>simp[intOf];omega
     |some p=>
      obtain ⟨j,c⟩:=p;obtain ⟨S,s,L,y⟩:=zdy hbk;have P:wr.cell? ⟨I,z+j*2+1,none⟩=some ↑c:=by rw[←y];exact (F.out.cell x).trans (d _ _ (Sec.all_snd l j s L))
      have X:=za9 P (.cells #[o.b,o.c] 329);have r:atI (some (j,c))=(j:Int):=rfl;have e3:(0:Int)≤(j:Int):=by omega
      have e4:(j:Int)<(l.length:Int):=by omega
      rw[r];by_cases hlt2:c<o.c
      ·have g:zbx floor but l (k+1)=some (k,o.c):=by rw[n.out,hbk,zfy];simp[zli,hf,hlt2];intro h;exact absurd h H.out
       have t:=hid g;clear g d hbk L y r;go_wp2_with fail
       go_quiet (fail)
       go_wp2_with fail
       go_roundw
       case rel=>exact ⟨k+1,by omega,by go_num,by rw[t.out];rfl,m.out _⟩
       case measure=>simp[intOf];omega
      ·have g:zbx floor but l (k+1)=some (j,c):=by rw[n.out,hbk,zfy];simp[zli,hlt2]
       have t:=hid g;clear g d hbk L y r;go_wp2_with fail
       go_quiet (fail)
       go_wp2_with fail
       go_roundw
       case rel=>exact ⟨k+1,by omega,by go_num,by rw[t.out];rfl,m.out _⟩
       case measure=>simp[intOf];omega
    ·have g:zbx floor but l (k+1)=zbx floor but l k:=by rw[n.out,zfy];simp[hf]
     have t:=hid g;have Q:decide (floor≤o.c)=false:=by simpa using hf
     clear g d hf;go_wp2_with fail
     go_quiet (fail)
     go_wp2_with fail
     go_roundw
     case rel=>exact ⟨k+1,by omega,by go_num,by rw[t.out],m.out _⟩
     case measure=>simp[intOf];omega
  ·obtain rfl:k=l.length:=by omega
   clear B;go_wp2_with fail
   go_ret;exact ⟨rfl,F.out⟩
theorem zad.grown {w w':World} {R:Nat→Prop} {v:Value} {l:List Off} {row:Option Nat} (h:zad w R v l) (hg:w.grownBy w' row) (hR:∀b,b<w.heap.size→R b→some b≠row):zad w' R v l:=⟨h.1.grown hg hR,h.2⟩
theorem zad.mono {w:World} {R R':Nat→Prop} {v:Value} {l:List Off} (h:zad w R v l) (hR:∀b,b<w.heap.size→R b→R' b):zad w R' v l:=⟨h.1.mono hR,h.2⟩
theorem zav.grown {w w':World} {R:Nat→Prop} {v:Value} {bs:List (List Off)} {a:Option Nat} (h:zav w R v bs) (d:w.grownBy w' a) (c:∀b,b<w.heap.size→R b→some b≠a):zav w' R v bs:=by
 obtain ⟨i,g,f⟩:=h;exact ⟨i,g.grown d c,fun k l e=>let ⟨u,hu,hl⟩:=f k l e;⟨u,hu,hl.grown d c⟩⟩
theorem zav.mono {w:World} {R R':Nat→Prop} {v:Value} {bs:List (List Off)} (h:zav w R v bs) (a:∀b,b<w.heap.size→R b→R' b):zav w R' v bs:=by
 obtain ⟨f,e,d⟩:=h;exact ⟨f,e.mono a,fun k l c=>let ⟨u,hu,hl⟩:=d k l c;⟨u,hu,hl.mono a⟩⟩
def Small (bs:List (List Off)):Prop:=bs.length≤64∧∀l∈bs,l.length≤64
def zax (w:World) (lo:Nat) (v:Value) (bs:List (List Off)):Prop:=
 ∃vs:List Value,w.ownsRow lo 59 1 v bs.length vs∧∀(k:Nat) (l:List Off),bs[k]? =some l→∃u,vs[k]? =some u∧zad w (fun b=>lo≤b∧v.ownBlock≠some b) u l
theorem zax.buys {w:World} {lo:Nat} {v:Value} {bs:List (List Off)} (h:zax w lo v bs):zav w (lo≤·) v bs:=by
 obtain ⟨i,c,f⟩:=h;refine ⟨i,(Sl.of_own c).mono fun b _ a=>(c.lt b a).1,fun k l d=>?_⟩;obtain ⟨u,g,e⟩:=f k l d;exact ⟨u,g,e.mono fun b _ a=>a.1⟩
theorem zax.grow {w w':World} {lo:Nat} {v:Value} {bs:List (List Off)} (h:zax w lo v bs) (a:Below w w w'):zax w' lo v bs:=by
 obtain ⟨e,d,c⟩:=h;exact ⟨e,zbQ d a,fun k l b=>let ⟨u,hu,hl⟩:=c k l b;⟨u,hu,hl.grow a⟩⟩
theorem zax.mono {w:World} {lo a:Nat} {v:Value} {bs:List (List Off)} (h:zax w lo v bs) (d:a≤lo):zax w a v bs:=by
 obtain ⟨i,g,f⟩:=h;exact ⟨i,zbH g d,fun k l e=>let ⟨u,hu,hl'⟩:=f k l e;⟨u,hu,hl'.mono fun b _ c=>⟨lT d c.1,c.2⟩⟩⟩
theorem zax.far {w w':World} {lo:Nat} {v:Value} {bs:List (List Off)} {a:Option Nat} (h:zax w lo v bs) (c:w.grownBy w' a) (d:∀k,a=some k→k<lo):zax w' lo v bs:=by
 obtain ⟨m,f,j⟩:=h;refine ⟨m,f.kept c ?_,fun k l i=>let ⟨u,hu,hl⟩:=j k l i;⟨u,hu,hl.grown c fun b _ p e=>by have:=d b e.symm;omega⟩⟩
 cases hv:v.ownBlock with
 |none=>exact .inl rfl
 |some g=>
  refine .inr fun e=>?_;have n:=(f.lt g hv).1;have o:=d g e.symm
  omega
theorem zax.alloc {w:World} {lo:Nat} {v:Value} {bs:List (List Off)} (h:zax w lo v bs) (o:Obj):zax (w.alloc o) lo v bs:=h.far (World.grownBy_alloc w o none) (fun k e=>by cases e)
theorem zax.drew {w:World} {lo:Nat} {v:Value} {bs:List (List Off)} (h:zax w lo v bs):zax w.drew lo v bs:=h
theorem zax.snoc {w w':World} {lo:Nat} {v:Value} {bs:List (List Off)} {vs:List Value} {l:List Off} {u:Value} {f:Option Addr} {a n:Nat} (t:bs.length=n)
  (y:w.ownsRow lo 59 1 v n vs) (x:∀(k:Nat) (l:List Off),bs[k]? =some l→∃u,vs[k]? =some u∧zad w (fun b=>lo≤b∧v.ownBlock≠some b) u l)
  (s:zad w (fun b=>lo≤b∧v.ownBlock≠some b) u l)
  (j:w'.ownsRow lo 59 1 (.slice f (n+1) a) (n+1) (vs++[u])) (r:w.grownBy w' v.ownBlock)
  (i:(Value.slice f (n+1) a).ownBlock=v.ownBlock∨(Value.slice f (n+1) a).ownBlock=some w.heap.size):zax w' lo (.slice f (n+1) a) (bs++[l]):=by
 subst t;have g:vs.length=bs.length:=by simpa using y.1
 have c:∀{u:Value} {l:List Off},zad w (fun b=>lo≤b∧v.ownBlock≠some b) u l→zad w' (fun b=>lo≤b∧(Value.slice f (bs.length+1) a).ownBlock≠some b) u l:=by
  intro u l h;have q:zad w (fun b=>(lo≤b∧v.ownBlock≠some b)∧b<w.heap.size) u l:=⟨h.1.sized,h.2⟩;refine (q.grown r fun b _ m e=>m.1.2 e.symm).mono fun b _ m=>⟨m.1.1,fun e=>?_⟩
  rcases i with e'|e'
  ·exact m.1.2 (e'.symm.trans e)
  ·rw[e'] at e;injection e with e
   omega
 refine ⟨vs++[u],by simpa using j,fun k z d=>?_⟩;by_cases hkl:k<bs.length
 ·rw[List.getElem?_append_left hkl] at d;obtain ⟨u',p,o⟩:=x k z d;exact ⟨u',by rw[List.getElem?_append_left (by omega)];exact p,c o⟩
 ·have:k=bs.length:=by
   rcases Nat.lt_or_ge k (bs++[l]).length with h|h
   ·simp at h;omega
   ·rw[List.getElem?_eq_none h] at d;cases d
  subst this
  simp at d
  subst d;exact ⟨u,by rw[←g];simp,c s⟩
theorem zqH (n:Int) (bs:List (List Off)) (v:Value) (R:Nat→Prop) (w:World) (M:zav w R v bs) (D:Small bs):
  Calls Tryz.prog 307 #[.agg #[n,v]] w fun e w'=>∃A' cap',e=.returned (.agg #[n,.slice A' bs.length cap'])∧zax w' w.heap.size (.slice A' bs.length cap') bs∧Below w w w':=by
 obtain ⟨vs,⟨N,A,y,rfl,hncap,J,d⟩,S⟩:=id M;have hsm1:=D.1;have HSM:=hid D.2;have HB:=hid M;have HC:=hid d;have HV:=hid S;clear M d S N J D;go_enter Tryz.func307,Tryz.ntmps307
 go_wp2
 go_loopw [3,10] (fun s i wr=>∃k:Nat,k≤bs.length∧i=.int .i64 k∧(∃A' cap',s=.slice A' k cap'∧zax wr (w.heap.size+2) (.slice A' k cap') (bs.take k))∧
   Below (w.heap.size+2) ((w.alloc (.cells #[n,.slice A bs.length y] 368)).alloc (.cells #[(),.slice none 0 0] 368)) wr) (fun _ i _=>bs.length-(intOf i).toNat)
 case atStart=>
  refine ⟨0,zL,rfl,⟨_,_,rfl,[],?_,fun k l X=>by simp at X⟩,bR.alloc (by simp) _⟩
  simpa using zpI (base:=w.heap.size+2) ((w.alloc (.cells #[n,.slice A bs.length y] 368)).alloc (.cells #[(),.slice none 0 0] 368)) (by simp) 59 1
 case round=>
  obtain ⟨k,X,rfl,⟨A',cap',rfl,t⟩,a⟩:=hrel;have f:Below w w wr:=((qA _).alloc (by simp) _).trans (a.mono (by omega));have hsz:w.heap.size+2≤wr.heap.size:=by have:=a.size;simpa using this
  by_cases hlt:k<bs.length
  ·obtain ⟨bb,off,rfl,_,hbb,K⟩:=HC.out (by omega);obtain ⟨l,Y⟩:∃l,bs[k]? =some l:=⟨_,gE hlt⟩;obtain ⟨u,Z,P⟩:=HV.out k l Y;have c0:=(f.cell hbb).trans (K _ _ Z);have H:=hid (P.grow f);have hll:l.length≤64:=HSM.out l (mG Y);obtain ⟨⟨_,A1,cap1,rfl,_⟩,_⟩:=P;obtain ⟨T,C,O⟩:=t;have B:(bs.take k).length=k:=by simp;omega
   rw[B] at C;have V:=hid C;have HO:=hid O;have HK:=hid Y;have E:=hid a;have HLK:=hid B;clear K Z f a C O Y B
   go_wp2_with (first
    |(go_at_call 92;refine (zfA (Off.all l) l.length _ R _ H.out.1 (Off.all_one l) (by omega)).mono ?_;rintro e w1 ⟨U,c,rfl,m,z⟩;have x:=hid m;have q:=hid z;have hsz1:=z.size;clear m z)
    |(at_builtin;refine zbj _ rfl (.tmp 14) (.tmp 17) zke rfl (w.heap.size+2) (.slice A' k cap') k T rfl ((zbQ V.out q.out).alloc _) _ _ 1 _ rfl (Sl.new w1 #[.slice U l.length c] _ 1 1 (by unfold maxLen;omega) rfl) (by simp[Value.oneCell']) (by omega) (by unfold maxLen;omega) (by simp;omega) ?_;intro A3 I w3 o L h;have HW3:=hid o;have G:=hid L;have HL3:=hid h;clear o L h))
   go_roundw
   case rel=>
    have r:zad (w1.alloc (.cells #[.slice U l.length c] 59)) (fun b=>w.heap.size+2≤b∧(Value.slice A' k cap').ownBlock≠some b) (.slice U l.length c) l:=by
     refine ⟨((Sl.of_own x.out).alloc _).mono fun b _ a=>⟨?_,fun e=>?_⟩,H.out.2⟩
     ·have:=(x.out.lt b a).1;omega
     ·have h1:=(x.out.lt b a).1;have h2:=(V.out.lt b e).2
      omega
    have Q:∀(j:Nat) (l2:List Off),(bs.take k)[j]? =some l2→∃u,T[j]? =some u∧zad (w1.alloc (.cells #[.slice U l.length c] 59)) (fun b=>w.heap.size+2≤b∧(Value.slice A' k cap').ownBlock≠some b) u l2:=
     fun j l2 hj=>let ⟨u,Z,M⟩:=HO.out j l2 hj;⟨u,Z,(M.grow q.out).alloc _⟩
    refine ⟨k+1,by omega,by go_num,⟨A3,I,rfl,?_⟩,?_⟩
    ·rw[List.take_succ_eq_append_getElem hlt];have hkl:bs[k]=l:=by have:=HK.out;rw[gE hlt] at this;injection this
     rw[hkl];exact zax.snoc HLK.out ((zbQ V.out q.out).alloc _) Q r HW3.out G.out HL3.out
    ·exact ((E.out.trans (q.out.mono (by omega))).alloc (by omega) _).grown G.out (by simp;omega) (fun g e=>(V.out.lt g e).1)
   case measure=>simp[intOf];omega
  ·obtain rfl:k=bs.length:=by omega
   rw[List.take_length] at t;have cz1:wr.cell? ⟨w,0,none⟩=some ↑n:=qc a (by simp) (by simp);have cz2:wr.cell? ⟨w,1,none⟩=some (.slice A bs.length y):=qc a (by simp) (by simp);have cy1:wr.cell? ⟨w.heap.size+1,0,none⟩=some ↑():=qc a (by simp) (by simp);have cy2:wr.cell? ⟨w.heap.size+1,1,none⟩=some (.slice none 0 0):=qc a (by simp) (by simp);have fz1:∀i,wr.frozen? ⟨w,i,none⟩=false:=fun i=>(a.frozen (p:=⟨w,i,none⟩) (by simp)).trans (by simp);have fy1:∀i,wr.frozen? ⟨w.heap.size+1,i,none⟩=false:=fun i=>(a.frozen (p:=⟨w.heap.size+1,i,none⟩) (by simp)).trans (by simp);have HOB:=hid t;have E:=hid a;have F:=hid f;clear t a f
   go_wp2
   refine bodyPost_ret (v:=.agg #[n,.slice A' bs.length cap']) (by simp[results,Tryz.results307,go_sem,cy1,cy2]) rfl ⟨A',cap',rfl,?_,?_⟩
   ·refine (((HOB.out.far (grownBy_setCell _ ⟨w,1,none⟩ _) ?_).far (grownBy_setCell _ ⟨w.heap.size+1,0,none⟩ _) ?_).far (grownBy_setCell _ ⟨w.heap.size+1,1,none⟩ _) ?_).mono (by omega)
    all_goals (intro k X;simp at X;omega)
   ·exact ((F.out.setCell (p:=⟨w,1,none⟩) lR _).setCell (p:=⟨w.heap.size+1,0,none⟩) (by simp) _).setCell (p:=⟨w.heap.size+1,1,none⟩) (by simp) _
theorem zc7 (all:Nat):∀l:List Off,zbB all l=none↔∀o∈l,zcN all o=false
 |[]=>by simp[zbB]
 |o::l=>by
  have:=zc7 all l;by_cases h:zcN all o=true<;>simp[zbB,h,this]
theorem zaE {n:Int} {bs:List (List Off)} (h:zaj n bs=0):1≤n∧n≤10∧bs.length≤32∧(∀l∈bs,l.length≤8)∧∀l∈bs,zas n l=0:=by
 unfold zaj at h
 split at h
 ·omega
 ·split at h
  ·omega
  ·rename_i e c
   have d:∀l∈bs,zbN l=false:=by
    intro l a
    cases hb:zbN l with
    |false=>rfl
    |true=>exact absurd (Or.inr (List.any_eq_true.2 ⟨l,a,hb⟩)) c
   refine ⟨by omega,by omega,by omega,fun l a=>by simpa [zbN] using d l a,?_⟩;clear c d
   induction bs with
   |nil=>simp
   |cons l bs ih=>
    simp only[zcy] at h;by_cases hc:zas n l=0
    ·simp only[hc,ne_eq,not_true_eq_false,if_false] at h;intro x b
     rcases List.mem_cons.1 b with rfl|b
     ·exact hc
     ·exact ih h x b
    ·simp only[ne_eq,hc,not_false_eq_true,if_true] at h
theorem zia {n:Int} {bs:List (List Off)} (h:zaj n bs=0):Small bs:=by
 obtain ⟨_,_,c,a,_⟩:=zaE h;exact ⟨by omega,fun l b=>by have:=a l b;omega⟩
def zbc (n:Int) (bs:List (List Off)) (buyer:Int) (l:List Off):Int:=
 if zaj n bs≠0 then zaj n bs else if buyer<0∨(bs.length:Int)≤buyer then 2 else zas n l
theorem zbP {w w1:World} {b c1 c d:Value} {t u:TypeId} (a:Below (w.heap.size+2) ((w.alloc (.cells #[b,c1] t)).alloc (.cells #[c,d] u)) w1):
  w1.cell? ⟨w,0,none⟩=some b∧w1.cell? ⟨w,1,none⟩=some c1∧w1.cell? ⟨w.heap.size+1,0,none⟩=some c∧w1.cell? ⟨w.heap.size+1,1,none⟩=some d∧
   (∀i,w1.frozen? ⟨w,i,none⟩=false)∧(∀i,w1.frozen? ⟨w.heap.size+1,i,none⟩=false)∧w.heap.size+2≤w1.heap.size∧Below w w w1:=by
 have e:=a.size
 simp at e
 exact ⟨qc a (by simp) (by simp),(qc a (by simp) (by simp)),
  (qc a (by simp) (by simp)),(qc a (by simp) (by simp)),
  fun i=>(a.frozen (p:=⟨w,i,none⟩) (by simp)).trans (by simp),fun i=>(a.frozen (p:=⟨w.heap.size+1,i,none⟩) (by simp)).trans (by simp),e,
  ((qA _).alloc (by simp) _).trans (a.mono (by omega))⟩
theorem zse (n:Int) (bs:List (List Off)) (a:Int) (l:List Off) (v M:Value) (R J:Nat→Prop) (w:World) (G:zav w R v bs) (r:zad w J M l) (q:zbc n bs a l≠0):
  Calls Tryz.prog 302 #[.agg #[n,v],a,M] w fun e w'=>e=.returned (.tuple #[.agg #[(),.slice none 0 0],(zbc n bs a l:Int)])∧Below w w w':=by
 obtain ⟨X,⟨s,A,O,rfl,H,o,h⟩,I⟩:=id G;have y:=hid G;have z:=hid r;clear G r h I s o;by_cases hi:zaj n bs=0
 ·have x:=(zaE hi).2.2.1;by_cases hbu:a<0∨(bs.length:Int)≤a
  ·have g:zbc n bs a l=2:=by unfold zbc;rw[if_neg (by simpa using hi),if_pos hbu]
   have i:=hid g;have B:=hid hi;clear g q hi
   rcases hbu with hbu|hbu
   all_goals
    go_enter Tryz.func302,Tryz.ntmps302
    go_wp2_with (go_at_call 305;refine (zcr n bs _ R _ ((y.out.alloc _).alloc _)).mono ?_;rintro e N ⟨rfl,c⟩;rw[B.out];obtain ⟨j,k,d,f,K,L,t,b⟩:=zbP (by simpa using c))
    all_goals refine bodyPost_ret (v:=.tuple #[.agg #[(),.slice none 0 0],(2:Int)]) (by simp[results,Tryz.results302,go_sem,d,f]) rfl ⟨by rw[i.out],?_⟩
    all_goals exact (b.setCell (p:=⟨w.heap.size+1,0,none⟩) (by simp) _).setCell (p:=⟨w.heap.size+1,1,none⟩) (by simp) _
  ·have g:zbc n bs a l=zas n l:=by unfold zbc;rw[if_neg (by simpa using hi),if_neg hbu]
   rw[g] at q;have F:(zas n l !=0)=true:=by simpa using q
   have S:0≤a:=by omega
   have c:a<bs.length:=by omega
   have i:=hid g;have B:=hid hi;clear g q hi hbu;go_enter Tryz.func302,Tryz.ntmps302
   go_wp2_with (first
    |(go_at_call 305;refine (zcr n bs _ R _ ((y.out.alloc _).alloc _)).mono ?_;rintro e N ⟨rfl,c⟩;rw[B.out];obtain ⟨j,k,d,f,K,L,t,b⟩:=zbP (by simpa using c))
    |(go_at_call 275;refine (zec n l _ J _ (z.out.grow b)).mono ?_;rintro e Y ⟨rfl,E⟩;obtain ⟨P,Q,C,D,U,V,T,m⟩:=zbP ((show Below (w.heap.size+2) _ _ from by simpa using c).trans (E.mono (by omega)))))
   refine bodyPost_ret (v:=.tuple #[.agg #[(),.slice none 0 0],(zas n l:Int)]) (by simp[results,Tryz.results302,go_sem,C,D]) rfl ⟨by rw[i.out],?_⟩;exact (m.setCell (p:=⟨w.heap.size+1,0,none⟩) (by simp) _).setCell (p:=⟨w.heap.size+1,1,none⟩) (by simp) _
 ·have g:zbc n bs a l=zaj n bs:=by unfold zbc;rw[if_pos (by simpa using hi)]
  have F:(zaj n bs !=0)=true:=by simpa using hi
  have i:=hid g;clear g q hi;go_enter Tryz.func302,Tryz.ntmps302
  go_wp2_with (go_at_call 305;refine (zcr n bs _ R _ ((y.out.alloc _).alloc _)).mono ?_;rintro e N ⟨rfl,c⟩;obtain ⟨j,k,d,f,K,L,t,b⟩:=zbP (by simpa using c))
  refine bodyPost_ret (v:=.tuple #[.agg #[(),.slice none 0 0],(zaj n bs:Int)]) (by simp[results,Tryz.results302,go_sem,d,f]) rfl ⟨by rw[i.out],?_⟩;exact (b.setCell (p:=⟨w.heap.size+1,0,none⟩) (by simp) _).setCell (p:=⟨w.heap.size+1,1,none⟩) (by simp) _
end Vb
end Go.Proofs.YtckdpejdnejhfaaGreat

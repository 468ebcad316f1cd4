/- Joined by program. -/
import Derived.Shelf.SlSortCmp.NoneTotal
import Derived.Test.YtckdpejdnejhfaaGreatZaf
import Derived.Test.YtckdpejdnejhfaaGreatZae
set_option linter.all false
set_option maxRecDepth 100000
set_option maxHeartbeats 32000000
namespace Go.Proofs.YtckdpejdnejhfaaGreat
open Lib (hid)
namespace Ho
open Go.Shelf
def zfa:Go.Shelf.Ren:=⟨fun|6=>110|15=>132|14=>131|28=>161|29=>162|20=>153|21=>154|22=>155|23=>156|24=>157|25=>158|26=>159|27=>160|46=>169|47=>170|48=>171|49=>172|50=>173|57=>184|n=>n,fun|22=>158|24=>161|25=>212|3=>3|39=>122|0=>0|53=>92|55=>89|4=>4|46=>263|45=>262|50=>203|5=>5|9=>9|66=>276|70=>279|76=>286|77=>287|n=>n,fun|n=>n⟩
theorem zlC:Go.Proofs.SlLaysF0.n6 Tryz.prog zfa:={
 mixed:=by kernel_rfl
 f6:=⟨Tryz.f110.name,by decide,Tryz.func110.trans (congrArg some (by kernel_rfl))⟩
 f14:=⟨Tryz.f131.name,by decide,Tryz.func131.trans (congrArg some (by kernel_rfl))⟩
 f15:=Tryz.func132.trans (congrArg some (by kernel_rfl))
 f20:=⟨Tryz.f153.name,by decide,Tryz.func153.trans (congrArg some (by kernel_rfl))⟩
 f21:=⟨Tryz.f154.name,by decide,Tryz.func154.trans (congrArg some (by kernel_rfl))⟩
 f22:=⟨Tryz.f155.name,by decide,Tryz.func155.trans (congrArg some (by kernel_rfl))⟩
 f23:=⟨Tryz.f156.name,by decide,Tryz.func156.trans (congrArg some (by kernel_rfl))⟩
 f24:=⟨Tryz.f157.name,by decide,Tryz.func157.trans (congrArg some (by kernel_rfl))⟩
 f25:=⟨Tryz.f158.name,by decide,Tryz.func158.trans (congrArg some (by kernel_rfl))⟩
 f26:=⟨Tryz.f159.name,by decide,Tryz.func159.trans (congrArg some (by kernel_rfl))⟩
 f27:=⟨Tryz.f160.name,by decide,Tryz.func160.trans (congrArg some (by kernel_rfl))⟩
 f28:=Tryz.func161.trans (congrArg some (by kernel_rfl))
 f29:=Tryz.func162.trans (congrArg some (by kernel_rfl))
 f46:=⟨Tryz.f169.name,by decide,Tryz.func169.trans (congrArg some (by kernel_rfl))⟩
 f47:=Tryz.func170.trans (congrArg some (by kernel_rfl))
 f48:=Tryz.func171.trans (congrArg some (by kernel_rfl))
 f49:=⟨Tryz.f172.name,by decide,Tryz.func172.trans (congrArg some (by kernel_rfl))⟩
 f50:=⟨Tryz.f173.name,by decide,Tryz.func173.trans (congrArg some (by kernel_rfl))⟩
 f57:=⟨Tryz.f184.name,by decide,Tryz.func184.trans (congrArg some (by kernel_rfl))⟩
 t0:=Tryz.underlying0
 a0:=Tryz.isAgg0
 z0:=Tryz.sizeOf0
 v0:=Tryz.zeroValue0
 t3:=Tryz.underlying3
 a3:=Tryz.isAgg3
 z3:=Tryz.sizeOf3
 v3:=Tryz.zeroValue3
 t4:=Tryz.underlying4
 a4:=Tryz.isAgg4
 z4:=Tryz.sizeOf4
 v4:=Tryz.zeroValue4
 t5:=Tryz.underlying5
 a5:=Tryz.isAgg5
 z5:=Tryz.sizeOf5
 v5:=Tryz.zeroValue5
 t9:=Tryz.underlying9
 a9:=Tryz.isAgg9
 z9:=Tryz.sizeOf9
 v9:=Tryz.zeroValue9
 t22:=Tryz.underlying158
 a22:=Tryz.isAgg158
 z22:=Tryz.sizeOf158
 v22:=Tryz.zeroValue158
 t25:=Tryz.underlying212
 a25:=Tryz.isAgg212
 z25:=Tryz.sizeOf212
 v25:=Tryz.zeroValue212
 t39:=Tryz.underlying122
 a39:=Tryz.isAgg122
 z39:=Tryz.sizeOf122
 v39:=Tryz.zeroValue122
 t45:=Tryz.underlying262
 a45:=Tryz.isAgg262
 z45:=Tryz.sizeOf262
 v45:=Tryz.zeroValue262
 t46:=Tryz.underlying263
 a46:=Tryz.isAgg263
 z46:=Tryz.sizeOf263
 v46:=Tryz.zeroValue263
 t50:=Tryz.underlying203
 a50:=Tryz.isAgg203
 z50:=Tryz.sizeOf203
 v50:=Tryz.zeroValue203
 t53:=Tryz.underlying92
 a53:=Tryz.isAgg92
 z53:=Tryz.sizeOf92
 v53:=Tryz.zeroValue92
 t55:=Tryz.underlying89
 a55:=Tryz.isAgg89
 z55:=Tryz.sizeOf89
 v55:=Tryz.zeroValue89
 t66:=Tryz.underlying276
 a66:=Tryz.isAgg276
 z66:=Tryz.sizeOf276
 v66:=Tryz.zeroValue276
 t70:=Tryz.underlying279
 a70:=Tryz.isAgg279
 z70:=Tryz.sizeOf279
 v70:=Tryz.zeroValue279
 t76:=Tryz.underlying286
 a76:=Tryz.isAgg286
 z76:=Tryz.sizeOf286
 v76:=Tryz.zeroValue286
 t77:=Tryz.underlying287
 a77:=Tryz.isAgg287
 z77:=Tryz.sizeOf287
 v77:=Tryz.zeroValue287}
end Ho
namespace Ho
open Go.RowKit Go.Shelf Go.Sort Vb Ac
def zbM (w w':World):Prop:=∃q os,w'=grow (w.drewN q) os
theorem zbM.refl (w:World):zbM w w:=⟨0,#[],by simp[grow,World.drewN]⟩
theorem zbM.drew {w w':World} (h:zbM w w'):zbM w w'.drew:=by
 obtain ⟨q,a,rfl⟩:=h;exact ⟨q+1,a,rfl⟩
theorem zbM.alloc {w w':World} (h:zbM w w') (o:Obj):zbM w (w'.alloc o):=by
 obtain ⟨q,a,rfl⟩:=h;exact ⟨q,a++ #[o],by rw[alloc_eq_grow,grow_grow]⟩
theorem zbM.below {w w':World} (h:zbM w w'):Below w w w':=by
 obtain ⟨q,b,rfl⟩:=h;refine ⟨rfl,rfl,rfl,by rw[size_grow];show w.heap.size≤w.heap.size+_;omega,fun k a=>?_⟩;rw[heap_grow_old _ _ (show k<(w.drewN q).heap.size from a)]
 rfl
theorem zbM.trans {a b c:World} (h:zbM a b) (k:zbM b c):zbM a c:=by
 obtain ⟨q,e,rfl⟩:=h;obtain ⟨f,d,rfl⟩:=k;refine ⟨q+f,e++d,?_⟩;rw[←grow_grow]
 show grow ((grow (a.drewN q) e).drewN f) d=grow (grow (a.drewN (q+f)) e) d
 have:(grow (a.drewN q) e).drewN f=grow (a.drewN (q+f)) e:=by
  simp only[grow,World.drewN,Nat.add_assoc]
 rw[this]
theorem zoe (a b:Du) (w:World):Calls Tryz.prog 111 #[.agg #[a.1,a.2],.agg #[b.1,b.2]] w fun e w'=>e=.returned ↑(zeu a b:Int)∧zbM w w':=by
 obtain ⟨v,j⟩:=nm (zb5 a.1 b.1);obtain ⟨x,k⟩:=nm (zb5 a.2 b.2);have y:zeu a b=if v=0 then x else v:=by rw[j,k];rfl
 have C:=hid y;have l:=hid j.symm;have m:=hid k.symm;clear y j k;obtain ⟨n,o⟩:=a;obtain ⟨p,q⟩:=b;simp only at l m;go_enter Tryz.func111,Tryz.ntmps111;obtain ⟨d,h⟩:=nm ((w.alloc (.cells #[n,o] 161)).alloc (.cells #[p,q] 161));have s:=hid (show Ac.Blk d w.heap.size 161 #[n,o] by rw[h];exact (Ac.Blk.new w _ _).alloc _);have t:=hid (show Ac.Blk d (w.heap.size+1) 161 #[p,q] by rw[h];exact Ac.Blk.new' _ _ (by simp));have D:=hid (show zbM w d by rw[h];exact ((zbM.refl w).alloc _).alloc _);have E:d.cell? ⟨w,0,none⟩=some ↑n:=s.out.cell 0;have F:d.cell? ⟨w,1,none⟩=some ↑o:=s.out.cell 1;have G:d.cell? ⟨w.heap.size+1,0,none⟩=some ↑p:=t.out.cell 0;have H:d.cell? ⟨w.heap.size+1,1,none⟩=some ↑q:=t.out.cell 1;have z:=s.out.lt;have A:=t.out.lt;go_wp2_with fail
 rw[←h];clear h;refine zac (zbM d) [] (by kernel_rfl) ((zbM.refl _).drew) (fun c=>?_);refine tp 0 c ?_;have r:=hid fun (w':World) (i:(zbM d) w')=>And.intro (qc i.below E z)<|And.intro (qc i.below F z)<|And.intro (qc i.below G A)<|qc i.below H A;refine tl 1 c r ?_;refine tp 2 c ?_;refine tl 3 c r ?_;refine tp 5 c ?_;refine tl 6 c r ?_;refine tp 7 c ?_;refine tl 8 c r ?_;refine stp 4 fun K f=>?_;go_simp;refine (zed n p _).mono ?_;rintro e B ⟨rfl,rfl⟩;rw[l.out];refine f.out _ _ ?_ (fun c=>?_)
 ·exact c
 clear f K
 try simp only[Act.put,pb,pz,ps]
 refine stp 9 fun K f=>?_;go_simp;refine (zed o q _).mono ?_;rintro e B ⟨rfl,rfl⟩;rw[m.out];refine f.out _ _ ?_ (fun c=>?_)
 ·exact c
 clear f K
 try simp only[Act.put,pb,pz,ps]
 refine stp 10 fun K f=>?_;go_simp;refine f.out _ _ ?_ (fun c=>?_)
 ·exact c.alloc _
 clear f K
 try simp only[Act.put,pb,pz,ps]
 refine stp 11 fun K f=>?_;go_simp;refine (znh (w:=(d.alloc (.cells #[v,x] 3)).drew) (g:=d.heap.size) (Ac.Blk.new d _ _)).mono ?_;rintro e B ⟨rfl,rfl⟩;rw[←C.out];refine f.out _ _ ?_ (fun c=>?_)
 ·exact c
 clear f K
 try simp only[Act.put,pb,pz,ps]
 refine tp 12 c ?_;refine zaa (by kernel_rfl) ?_ _;go_wp2_with fail
 go_ret;exact ⟨rfl,D.out.trans c⟩
theorem zhm (a b:Du):ltOf zeu a b=ltD a b:=zni a b
theorem zuf:SWO (ltOf zeu) where
 irrefl x:=by rw[zhm];simp[ltD,leD]
 trans x y z h1 h2:=by rw[zhm] at*;simp[ltD,leD] at*;omega
 ntrans x y z h1 h2:=by rw[zhm] at*;simp[ltD,leD] at*;omega
theorem zm3 {ds:List Du} {j:Nat} {u:Value} (h:(ds.flatMap zaH)[j]? =some u):∃d,ds[j/2]? =some d∧(zaH d)[j % 2]? =some u:=by
 induction ds generalizing j with
 |nil=>simp at h
 |cons d ds ih=>
  rw[List.flatMap_cons] at h
  match j with
  |0=>exact ⟨d,rfl,h⟩
  |1=>exact ⟨d,rfl,h⟩
  |j+2=>
   have a:(ds.flatMap zaH)[j]? =some u:=h;obtain ⟨x,c,b⟩:=ih a;refine ⟨x,?_,?_⟩
   ·rw[show (j+2)/2=j/2+1 by omega];exact c
   ·rw[show (j+2) % 2=j % 2 by omega];exact b
theorem zkd {ds:List Du} {i:Nat} {d:Du} (h:ds[i]? =some d):(ds.flatMap zaH)[i*2]? =some ↑d.1∧(ds.flatMap zaH)[i*2+1]? =some ↑d.2:=by
 induction ds generalizing i with
 |nil=>simp at h
 |cons x ds ih=>
  rw[List.flatMap_cons]
  cases i with
  |zero=>
   have:x=d:=by simpa using h
   subst this;exact ⟨rfl,rfl⟩
  |succ i=>
   have:=ih (i:=i) (by simpa using h);rw[show (i+1)*2=i*2+2 by omega,show i*2+2+1=(i*2+1)+2 by omega];exact this
theorem zoS (ds:List Du):(ds.flatMap zaH).length=ds.length*2:=by
 induction ds with
 |nil=>rfl
 |cons x ds ih=>rw[List.flatMap_cons,List.length_append,ih,List.length_cons];show 2+_=_;omega
theorem ziT {w:World} {blk off n:Nat} {dk:Array Du} {os:Array Obj} (b:blk<w.heap.size):Chg (·=blk) w (sortWorldK zaH 2 w blk off n dk os):=by
 refine ⟨rfl,rfl,rfl,size_sortWorldK_c zaH 2 w blk off n dk os,fun k c a=>?_⟩;unfold sortWorldK;rw[heap_grow_old _ _ (by rw[size_putRowK];exact c)]
 show (w.heap.modify blk _)[k]? =_
 rw[Array.getElem?_modify,if_neg (fun e=>a e.symm)]
theorem zmK {w:World} {R:Nat→Prop} {e:TypeId} {sz n c a:Nat} {xs:List Value} (h:RowAt w R e sz (.slice (some ⟨a,0,none⟩) n c) n xs) (j:Nat):w.frozen? ⟨a,j,none⟩=false:=by
 rcases h.own.2 with ⟨hn,_⟩|⟨g2,cap,cur,hv,_,hcur,_⟩
 ·cases hn
 ·injection hv with hv
  injection hv with hv
  injection hv with hv
  subst hv
  simp[World.frozen?,hcur]
theorem zp6 {w:World} {R:Nat→Prop} {A:Option Addr} {cap:Nat} {ds:List Du} (r:RowAt w R 161 2 (.slice A ds.length cap) ds.length (ds.flatMap zaH)) (X:ds.length≤1000000):
  Calls Tryz.prog 110 #[.slice A ds.length cap,.func (.func 111) #[] #[]] w fun e w'=>
   e=.returned (.tuple #[])∧∃ds':List Du,ds'.Perm ds∧Sl w' R (.slice A ds.length cap) ds.length 2 (ds'.flatMap zaH)∧Chg (fun b=>(Value.slice A ds.length cap).ownBlock=some b) w w':=by
 by_cases h0:ds.length=0
 ·have q:ds=[]:=List.eq_nil_of_length_eq_zero h0;subst q;refine (AnyF.slices_SortFunc_none (P:=Tryz.prog) (ρ:=zfa) {zlC with} A cap _ w).mono ?_;rintro e w' ⟨rfl,rfl⟩;exact ⟨rfl,[],List.Perm.refl _,r.sl,Chg.refl _ _⟩
 ·obtain ⟨g,cp,C,E,f,U⟩:=r.ex (by omega);injection C with hA _ B
  subst hA B;have I:=r.sl;have M:=r.own;have L:HoldsK zaH 2 w g 0 ds.toArray:=fun j F=>by
   have o:j<ds.length*2:=by simpa using F
   refine ⟨?_,by rw[show 0+j=j by omega];exact zmK r j⟩;rw[show 0+j=j by omega,r.own.cellAt j o,get_flatK _ _ _ j (by simpa using o)];obtain ⟨u,O⟩:∃u,(ds.flatMap zaH)[j]? =some u:=⟨_,gE (by rw[zoS];exact o)⟩;rw[O];obtain ⟨d,q,l⟩:=zm3 O;have D:ds.toArray[j/2]! =d:=by
    rw[getElem!_pos _ _ (by simp;omega)]
    simpa using (gS.1 q).2
   rw[D];have:(zaH d)[j % 2]! =u:=by
    rw[getElem!_pos _ _ (by show j % 2<2;omega)];exact (gS.1 l).2
   rw[this]
   rfl
  have Q:∀args w,(callFunc 111 args).run Tryz.prog w=.ok (.enter 111 args) w:=enters_of Tryz.func111 (by kernel_rfl) rfl;have t:CmpLays Tryz.prog 111 #[] zaH 2 zeu g 0 ds.toArray.size w:=fun m os dk _ x y=>zoe x y _;have k:=AnyQ.slices_SortFunc (P:=Tryz.prog) (ρ:=zfa) zlC 2 Tryz.isAgg161 Tryz.sizeOf161 zaH (fun _=>rfl) (fun x v C=>by simp[zaH] at C;rcases C with rfl|rfl<;>rfl) zeu zuf 111 #[] g 0 cap ds.toArray w Q t L f (by simp;omega);rw[show ds.toArray.size=ds.length by simp] at k;refine Calls.mono k ?_;rintro e w' ⟨rfl,h,n,os,⟨J,_,N⟩,_,rfl⟩;have a:h.size=ds.length:=by simpa using J
  have p:h.toList.Perm ds:=by
   have S:(h.extract 0 ds.length).toList=h.toList:=by
    rw[←a];simp
   have T:(ds.toArray.extract 0 ds.length).toList=ds:=by simp
   rw[S,T] at N;exact N
  have V:=holdsK_sortWorldK_c zaH 2 w g 0 ds.toArray h n os L f (by simpa using a);have s:=ziT (w:=w) (blk:=g) (off:=0) (n:=n) (dk:=h) (os:=os) f;obtain ⟨_,Y,Z,K,G,H,_⟩:=I;injection K with _ _ hc2
  subst hc2;refine ⟨rfl,h.toList,p,⟨by rw[zoS];simp[a],some ⟨g,0,none⟩,cap,rfl,G,H,fun _=>⟨g,0,rfl,E,lL f s.size,fun j u F=>?_⟩⟩,s.mono fun b _ e=>by rw[e];rfl⟩;obtain ⟨d,q,l⟩:=zm3 F;have z:=(gS.1 q).1;have B:=(V.cell (i:=j/2) (c:=j % 2) (by simpa using z) (by omega)).1;rw[show 0+j/2*2+j % 2=0+j by omega] at B;rw[B];have D:h[j/2]! =d:=by
   rw[getElem!_pos _ _ (by simpa using z)]
   simpa using (gS.1 q).2
  rw[D,getElem!_pos _ _ (by show j % 2<2;omega)];rw[(gS.1 l).2]
end Ho
namespace Ho
open Go.RowKit Go.Shelf Vb Ac
attribute [local go_sem] Oper.semAt_some
theorem zmA (ss:List Du):∀u∈ss.flatMap zaH,u.oneCell'=true:=by
 intro u b;obtain ⟨s,_,a⟩:=List.mem_flatMap.1 b;unfold zaH at a
 simp at a
 rcases a with rfl|rfl<;>rfl
theorem znB (ss:List Du) (v:Value) (R:Nat→Prop) (w:World) (i:Sl w R v ss.length 2 (ss.flatMap zaH)) (o:ss.length≤1000000):
  Calls Tryz.prog 109 #[v] w fun e w'=>∃A' cap',e=.returned (.slice A' ss.length cap')∧RowAt w' (fun b=>w.heap.size≤b) 161 2 (.slice A' ss.length cap') ss.length (ss.flatMap zaH)∧Below w w w':=by
 have s:=zmA ss;obtain ⟨q,k⟩:=nm (ss.flatMap zaH);obtain ⟨n,l⟩:=nm (ss.length);rw[←k] at i s ⊢;rw[←l] at i o ⊢;obtain ⟨g,A,m,rfl,p,t,f⟩:=id i;have r:=hid i;clear i f k l;have E:=fun (W:World) (a:Option Addr)=>Lib.run_eql_slice_nil (P:=Tryz.prog) W 158 161 a n m 0 0 Tryz.underlying158
 cases A with
 |none=>
  have l:n=0:=by
   obtain ⟨_,A,c,h,_,_,y⟩:=r.out;injection h with hA _ _
   subst hA
   rcases Nat.eq_zero_or_pos n with h0|h0
   ·exact h0
   ·obtain ⟨b,C,h,_⟩:=y h0
    cases h
  subst l;have B:q=[]:=List.eq_nil_of_length_eq_zero (by simpa using g);subst B;go_enter Tryz.func109,Tryz.ntmps109
  go_wp2
  go_ret;exact ⟨none,0,rfl,RowAt.nil,bR⟩
 |some ad=>
  clear g;go_enter Tryz.func109,Tryz.ntmps109
  go_wp2_with (at_builtin;refine zbj _ rfl (.tmp 5) (.tmp 6) zjg rfl w.heap.size (.slice (some ⟨w,0,none⟩) 0 0) 0 [] rfl (World.ownsRow_lit w #[] 0 lR (zL) rfl) R _ n q rfl (r.out.alloc _) s (by omega) (by unfold maxLen;omega) (by simp) ?_;intro A' cap' D j z x)
  go_ret;have d:D.ownsRow w.heap.size 161 2 (.slice A' n cap') n q:=by simpa using j
  refine ⟨A',cap',by simp,⟨zbH d (zL),fun b o=>(d.lt b o).1⟩,(qA _).grown z (by simp) (by simp[Value.ownBlock])⟩
def zls (gl:Nat):Value:=.func (.func 112) #[] #[.pointer (some ⟨gl,0,none⟩)]
def zge (gl:Nat) (v:Value):Nat→Prop:=fun b=>b=gl∨v.ownBlock=some b
structure TAAt (W:World) (lo gl:Nat) (v:Value) (ds:List Du):Prop where
 box:Ac.Blk W gl 158 #[v]
 row:Sl W (fun b=>v.ownBlock=some b∧lo≤b∧b<W.heap.size) v ds.length 2 (ds.flatMap zaH)
section
variable {W W':World} {lo gl:Nat} {v:Value} {ds:List Du}
theorem TAAt.same (h:TAAt W lo gl v ds) (hs:∀b,zge gl v b→W'.heap[b]? =W.heap[b]?) (hz:W.heap.size≤W'.heap.size):TAAt W' lo gl v ds:=
 ⟨(hs gl (.inl rfl)).trans h.box,(h.row.keep hz fun b hb hr=>hs b (.inr hr.1)).mono fun b _ hr=>⟨hr.1,hr.2.1,by omega⟩⟩
theorem TAAt.x_lt (h:TAAt W lo gl v ds) (c:∀b,v.ownBlock=some b→b<W.heap.size) {b:Nat} (a:zge gl v b):b<W.heap.size:=by
 rcases a with rfl|a
 ·exact h.box.lt
 ·exact c b a
end
theorem zr1 {W:World} {R:Nat→Prop} {p:Nat} {now:Int} {D:Int→Option Int} (h:zar W R p now D):
  Calls Tryz.prog 89 #[.pointer (some ⟨p,0,none⟩)] W fun e W'=>∃gl v ds,e=.returned (zls gl)∧TAAt W' W.heap.size gl v ds∧(∀b,v.ownBlock=some b→W.heap.size≤b∧b<W'.heap.size)∧W.heap.size≤gl∧Below W W W'∧
   (∀d:Du,d∈ds↔D d.2=some d.1)∧ds.length≤4096∧(∀d∈ds,zkc d∧d.2<4096)∧(ds.map (·.2)).Nodup:=by
 obtain ⟨N,k⟩:=nm (W.alloc (.cells #[.slice none 0 0] 158));have E:Below W W N:=by rw[k];exact qA _
 have h1:=h.grow E;have HC:=hid h1;obtain ⟨r,g,m,l,hI,hh,hm,H⟩:=h1;have U:=hI.small H;obtain ⟨v,F,C⟩:=hI;obtain ⟨A,ae,hv⟩:=C.row.form;subst hv;have p1:N.cell? ⟨p,1,none⟩=some (.pointer (some ⟨r,0,none⟩)):=C.bp.cell 1;have r0:N.cell? ⟨r,0,none⟩=some (.slice A l.length ae):=C.br.cell 0;have aa:=hid (znB l _ _ N C.row.sl (by omega));have L:=hid (show Ac.Blk N W.heap.size 158 #[.slice none 0 0] by rw[k];exact Ac.Blk.new _ _ _);have t:=hid E;have HM:=hid hm;have J:=hid U;have ac:=hid (fun d (Z:d∈l)=>(show zkc d∧d.2<4096 from ⟨C.ok d Z,H d Z⟩));have ab:=hid C.idx.nodup;clear h E hh hm H U C;go_enter Tryz.func89,Tryz.ntmps89;go_wp2_with fail
 rw[←k];clear k;refine (zcv HC.out).mono ?_;rintro e w1 ⟨rfl,rfl⟩;go_wp2_with fail
 refine aa.out.mono ?_;rintro e O ⟨i,j,rfl,q,G⟩;have f:=L.out.grow G;have x0:O.cell? ⟨W,0,none⟩=some (.slice none 0 0):=f.cell 0;have f0:O.frozen? ⟨W,0,none⟩=false:=f.frozen 0;have HX3:=hid f;have HR3:=hid q;have x:=hid (t.out.trans (G.mono t.out.size));obtain ⟨n,Q⟩:=nm (l.length);rw[←Q];have HN:=hid Q;have hsz1:=L.out.lt;obtain ⟨V,Y⟩:=nm (O.setCell ⟨W,0,none⟩ (.slice i n j));have o:=Chg.set O ⟨W,0,none⟩ (.slice i n j);rw[←Y] at o;have I:=hid o;have M:=hid (show Ac.Blk V W.heap.size 158 #[.slice i n j] by rw[Y];exact f.set_ 0 _);have HV:=hid Y;have s:RowAt V (fun b=>(Value.slice i l.length j).ownBlock=some b∧w1.heap.size≤b) 161 2 (.slice i l.length j) l.length (l.flatMap zaH):=
  (show RowAt O (fun b=>(Value.slice i l.length j).ownBlock=some b∧w1.heap.size≤b) 161 2 (.slice i l.length j) l.length (l.flatMap zaH) from ⟨q.own,fun b a=>⟨a,q.blk b a⟩⟩).chg o fun b _ a e=>by have e':b=W.heap.size:=e;omega
 have z:=hid (fun b (a:(Value.slice i n j).ownBlock=some b)=>(show w1.heap.size≤b∧b<V.heap.size from by rw[Q] at a;exact ⟨(s.blk b a).2,s.lt a⟩));have c:=zp6 s (by have:=J.out;omega);rw[←Q] at c;have K:=hid c;clear q G f Q Y o s c
 go_upto_region 4 with fail
 rw[←HV.out];clear x0 f0;have x0:V.cell? ⟨W,0,none⟩=some (.slice i n j):=M.out.cell 0;go_wp2_with fail
 refine K.out.mono ?_;rintro e W5 ⟨rfl,ds,hp,T,P⟩;have X:=hid hp;have ad:=hid T;have y:=hid P;clear hp T P x0;go_wp2_with fail
 go_ret;have hsz:=t.out.size;have hs5:=y.out.size;have S:=X.out.length_eq;refine ⟨W,.slice i n j,ds,rfl,⟨M.out.chg y.out fun e=>by have:=(z.out _ e).1;omega,?_⟩,fun b a=>by have:=z.out b a;omega,lR,?_,fun d=>(X.out.mem_iff).trans (HM.out d),by rw[S];exact J.out,fun d Z=>ac.out d (X.out.mem_iff.1 Z),?_⟩
 ·rw[S,←HN.out];exact ad.out.mono fun b a hr=>⟨hr.1,by have:=hr.2;omega,a⟩
 ·refine (x.out.trans ((I.out.below (B:=W.heap.size) (by have:=x.out.size;omega) fun b a e=>by have e':b=W.heap.size:=e;omega))).trans (y.out.below (by have:=x.out.size;have:=I.out.size;omega) fun b a e=>by have:=(z.out b e).1;omega)
 ·exact (X.out.map _).nodup_iff.2 ab.out
theorem ztT (nn:Nat) (hn:1≤nn) (l lo gl:Nat) (v:Value) (ds:List Du) (hl:ds.length≤4096) (J Jx:Nat→List Du→World→Prop) (W:World) (M:TAAt W lo gl v ds)
  (hY:∀hi pre x W1,hi≤W1.heap.size→J hi pre W1→pre++[x]<+:ds→pre.length<ds.length→YieldAt Fence.wide (nn-1) Tryz.prog l #[.agg #[x.1,x.2]] W1 fun e W'=>
   (e=.returned ↑true∧J hi (pre++[x]) W'∧KeepX (zge gl v) W.heap.size hi W1 W')∨(e=.returned ↑false∧Jx hi (pre++[x]) W'))
  (hJ:∀hi,AbidesFrom W.heap.size (J hi))
  (h0:∀W0,Below W W W0→J W0.heap.size [] W0):
  CallsIn Fence.wide nn Tryz.prog 112 #[.func (.yield l) #[] #[],.pointer (some ⟨gl,0,none⟩)] W fun e W'=>(∃v,e=.returned v)∧
   ∃hi,W.heap.size≤hi∧((∃xs,xs=ds∧J hi xs W')∨(∃pre,pre<+:ds∧Jx hi pre W')):=by
 refine callsIn_of_wp Tryz.func112 rfl trivial ?_ rfl;obtain ⟨A,E,y⟩:∃A E,v=.slice A ds.length E:=by
  obtain ⟨_,A,E,h,_⟩:=M.row;exact ⟨A,E,h⟩
 obtain ⟨m,Y⟩:=nm (ds.length);have g0:W.cell? ⟨gl,0,none⟩=some (.slice A m E):=by have:=M.box.cell 0;rw[y,←Y] at this;exact this
 have Q:=hid M;have HY:=hid hY;have H0:=hid h0;have z:=hid Y;have f:=hid y;have N:=hid hJ;have O:=hid hl;clear hY h0 M Y y hJ;simp only[Tryz.ntmps112,List.size_toArray,List.length_cons,List.length_nil,Nat.reduceAdd,Nat.reduceSub,Array.replicate_succ,Array.replicate_zero,List.push_toArray,List.append_toArray,List.nil_append,List.cons_append]
 gi_wp2
 clear g0
 gi_loopw [7] (fun i wr=>∃k:Nat,k≤m∧i=.int .i64 k∧J W.heap.size (ds.take k) wr∧KeepX (zge gl v) W.heap.size W.heap.size W wr) (fun i _=>m-(intOf i).toNat)
 case atStart=>exact ⟨0,zL,rfl,H0.out W bR,KeepX.refl _ _ _ _⟩
 case round=>
  obtain ⟨k,hk,rfl,p,a⟩:=hrel;have HJ:=hid p;have C:=hid a;have n:=a.r.size;by_cases hlt:k<m
  ·obtain ⟨d,U⟩:∃d,ds[k]? =some d:=⟨_,gE (by rw[←z.out];omega)⟩;have Z:=(Q.out.same (W':=wr) a.old n).row;obtain ⟨_,A1,R,c,_,_,j⟩:=Z;rw[f.out] at c;injection c with hv2 _ hv3
   subst hv2 hv3;obtain ⟨b,L,B,_,hbl,q⟩:=j (by rw[←z.out];omega);subst B;have s:=zkd U;have c0:wr.cell? ⟨b,L+k*2,none⟩=some ↑d.1:=q _ _ s.1;have R:wr.cell? ⟨b,L+k*2+1,none⟩=some ↑d.2:=by have:=q _ _ s.2;rwa [←Nat.add_assoc] at this
   have t:ds.take (k+1)=ds.take k++[d]:=za4 U;have K:(ds.take k).length<ds.length:=by rw[List.length_take];have:=z.out;omega
   have D:=hid t;have g:Below wr wr (wr.alloc (.cells #[d.1,d.2] 161)):=qA _;have o:=hid g;obtain ⟨fn,tmps,assign,body,hy,H⟩:=HY.out W.heap.size (ds.take k) d (wr.alloc (.cells #[d.1,d.2] 161)) (lT n g.size) (N.out W.heap.size (ds.take k) wr _ none HJ.out (zam g none) (fun r e=>by cases e)) (by rw[←t];exact List.take_prefix _ _) K;obtain ⟨d1,d2⟩:=d;simp only at hy c0 R o;have P:=hid H;have e0:(0:Int)≤(k:Int):=by omega
   have e1:(k:Int)<(m:Int):=by omega
   have hwr:IntKind.i64.wrap ((k:Int)+1)=(k:Int)+1:=iW _ (by have:=z.out;have:=O.out;omega);clear U t K H j q s p a g
   gi_wp2
   refine P.out.mono ?_;rintro e W3 (⟨rfl,T,V⟩|⟨rfl,F⟩)
   ·gi_wp2
    go_roundw
    case rel=>
     have X:KeepX (zge gl v) W.heap.size W.heap.size wr (wr.alloc (.cells #[d1,d2] 161)):=⟨⟨o.out.size,fun i h1 h2=>absurd h1 (by omega)⟩,fun b B=>o.out.block b (by
      rcases B with rfl|B
      ·exact lL Q.out.box.lt n
      ·rw[f.out] at B;have h2:=(Q.out.same (W':=wr) C.out.old n).row;obtain ⟨_,A1,R,c,_,_,j⟩:=h2;rw[f.out] at c;injection c with hv2 _ _
       obtain ⟨b',off',hb',G,I,_⟩:=j (by rw[←z.out];omega);rw[f.out] at G;have S:some b=some b':=B.symm.trans G.1;injection S with S
       rw[S];exact I)⟩
     exact ⟨k+1,by omega,by go_num,by rw[D.out];exact T,(C.out.trans X).trans V⟩
    case measure=>simp[intOf];omega
   ·gi_wp2
    refine bodyPost_ret (results_none rfl _ _ _) rfl ?_;exact ⟨⟨_,rfl⟩,W.heap.size,lR,.inr ⟨_,by rw[←D.out];exact List.take_prefix _ _,F⟩⟩
  ·obtain rfl:k=m:=by omega
   have e1:¬(k:Int)<(k:Int):=by omega
   clear p a hk
   gi_wp2
   go_end0
   have:=HJ.out;rw[List.take_of_length_le (by rw[←z.out];exact lR)] at this;exact ⟨⟨_,rfl⟩,W.heap.size,lR,.inl this⟩
end Ho
namespace Ho
open Go.RowKit Go.Shelf Vb Ac
def zgI (ds:List Du):Int→Option Int:=ds.foldl (fun D d=>upd D d.2 (some d.1)) fun _=>none
theorem zp1 (ds:List Du) (d:Du):zgI (ds++[d])=upd (zgI ds) d.2 (some d.1):=by unfold zgI;rw[List.foldl_append];rfl
theorem znj {D:Int→Option Int} {n:Int}:∀{ds:List Du} (D0:Int→Option Int),(∀d∈ds,D d.2=some d.1)→(ds.foldl (fun D d=>upd D d.2 (some d.1)) D0) n=(if n∈ds.map (·.2) then D n else D0 n)
 |[],D0,_=>by simp
 |d::ds,D0,h=>by
  rw[List.foldl_cons,znj _ fun x hx=>h x (.tail _ hx)];by_cases h1:n∈ds.map (·.2)
  ·rw[if_pos h1,if_pos (by rw[List.map_cons];exact .tail _ h1)]
  ·rw[if_neg h1];unfold upd;by_cases h2:n=d.2
   ·rw[if_pos h2,if_pos (by rw[List.map_cons,h2];exact .head _),h2];exact (h d (.head _)).symm
   ·rw[if_neg h2,if_neg (by rw[List.map_cons];exact fun e=>(List.mem_cons.1 e).elim h2 h1)]
theorem zta {D:Int→Option Int} {ds:List Du} (h:∀d:Du,d∈ds↔D d.2=some d.1):zgI ds=D:=by
 funext n
 unfold zgI;rw[znj (D:=D) _ fun d a=>(h d).1 a];by_cases h1:n∈ds.map (·.2)
 ·rw[if_pos h1]
 ·rw[if_neg h1]
  cases a:D n with
  |none=>rfl
  |some x=>exact absurd (List.mem_map.2 ⟨(x,n),(h (x,n)).2 a,rfl⟩) h1
theorem ztl {W:World} {R:Nat→Prop} {A:Option Addr} {c:Nat} {ds:List Du} {now:Int} (hs:Sl W R (.slice A ds.length c) ds.length 2 (ds.flatMap zaH)) (hn:zae now=true) (hl:ds.length≤1000000) (o:∀d∈ds,(zkc d∧d.2<4096)∧now≤d.1):
  Calls Tryz.prog 37 #[now,.slice A ds.length c] W fun e W'=>∃p,e=.returned (.tuple #[.pointer (some ⟨p,0,none⟩),()])∧zar W' (fun b=>W.heap.size≤b) p now (zgI ds)∧Below W W W':=by
 obtain ⟨n,s⟩:=nm (ds.length);have HS:=hid (s▸hs);rw[←s] at hl ⊢;have V:=hid s;have HD:=hid o;have X:=hid hn;have HLL:=hid hl;clear hs hn o s;have H:∀(w:World) (k:Nat) (d:Du),Below W W w→ds[k]? =some d→k<n→∃b j,A=some ⟨b,j,none⟩∧b<w.heap.size∧w.cell? ⟨b,j+k*2,none⟩=some ↑d.1∧w.cell? ⟨b,j+k*2+1,none⟩=some ↑d.2:=fun w k d y hk hkn=>by
  obtain ⟨_,A1,O,hv1,_,_,ac⟩:=HS.out.grow y;injection hv1 with hv2 _ _
  subst hv2;obtain ⟨b,j,I,_,ab,L⟩:=ac (by omega);have h1:=L _ _ (zkd hk).1;have h2:=L _ _ (zkd hk).2;rw[←Nat.add_assoc] at h2;exact ⟨b,j,I,ab,h1,h2⟩
 have D:=hid H;clear H;go_enter Tryz.func37,Tryz.ntmps37;go_wp2_with fail
 refine (zdD now _).mono ?_;rintro e w1 ⟨rfl,rfl⟩;rw[X.out];go_wp2_with fail
 go_loopw [6,17] (fun b i wr=>∃k:Nat,k≤n∧i=.int .i64 k∧b=.bool false∧Below w1 w1 wr) (fun _ i _=>n-(intOf i).toNat)
 case atStart=>exact ⟨0,zL,rfl,rfl,bR⟩
 case round=>
  obtain ⟨k,hk,rfl,rfl,y⟩:=hrel;by_cases hlt:k<n
  ·obtain ⟨d,o⟩:∃d,ds[k]? =some d:=⟨_,gE (by rw[←V.out];exact hlt)⟩;obtain ⟨bq,j,I,f,Y,O⟩:=D.out wr k d y o hlt;subst I;obtain ⟨⟨g,m⟩,C⟩:=HD.out d (mG o);have r:=hid y;have l:zae d.1=true:=zaK.2 g.1;have aa:=g.2.1;obtain ⟨Z,d2⟩:=d;simp only at Y O l aa C;have T:=hid l;have e5:(0:Int)≤(k:Int):=by omega
   have e6:(k:Int)<(n:Int):=by omega
   have hwr:IntKind.i64.wrap ((k:Int)+1)=(k:Int)+1:=iW _ (by omega);have g1:decide (d2<0)=false:=decide_eq_false (by omega);have g2:decide (Z<now)=false:=decide_eq_false (by omega);clear o g y l;go_wp2_with fail
   refine (zdD Z _).mono ?_;rintro e w2 ⟨rfl,N⟩;rw[T.out,N];clear N;go_wp2_with fail
   go_roundw
   case rel=>exact ⟨k+1,by omega,by go_num,rfl,r.out.alloc r.out.size _⟩
   case measure=>simp[intOf];omega
  ·obtain rfl:k=n:=by omega
   have r:=hid y;clear y;go_wp2_with fail
   refine (zkJ now wr).mono ?_;rintro e W2 ⟨p,rfl,a,J⟩;have F:=hid a;have E:=hid J;clear a J;go_wp2_with fail
   obtain ⟨wo,hwo⟩:=nm (wr);rw[←hwo] at F E r
   go_loopw [43] (fun i wq=>∃q:Nat,q≤k∧i=.int .i64 q∧zar wq (fun b=>wo.heap.size≤b) p now (zgI (ds.take q))∧Below wo wo wq) (fun i _=>k-(intOf i).toNat)
   case atStart=>exact ⟨0,zL,rfl,F.out,E.out⟩
   case round=>
    obtain ⟨q,hq,rfl,a,f⟩:=hrel;by_cases hlq:q<k
    ·obtain ⟨d,o⟩:∃d,ds[q]? =some d:=⟨_,gE (by rw[←V.out];exact hlq)⟩;obtain ⟨bq,j,I,hbq2,Y,O⟩:=D.out wr q d (r.out.trans (f.mono r.out.size)) o hlq;subst I;obtain ⟨⟨g,m⟩,C⟩:=HD.out d (mG o);have l:zae d.1=true:=zaK.2 g.1;have G:=hid (show zgI (ds.take (q+1))=upd (zgI (ds.take q)) d.2 (some d.1) by rw[za4 o,zp1]);have B:Below wr wr (wr.alloc (.cells #[d.1,d.2] 161)):=qA _;have v:=hid (ziX (a.grow B) (n:=d.2) (t:=d.1) g.2.1 m l C);have z:=hid (f.trans (B.mono f.size));obtain ⟨Z,d2⟩:=d;simp only at Y O v G z;have e5:(0:Int)≤(q:Int):=by omega
     have e6:(q:Int)<(k:Int):=by omega
     have hwr:IntKind.i64.wrap ((q:Int)+1)=(q:Int)+1:=iW _ (by omega);clear o g a f l B;go_wp2_with fail
     refine v.out.mono ?_;rintro e W5 ⟨rfl,K,M⟩;have Q:=hid K;have U:=hid M;clear K M;go_wp2_with fail
     go_roundw
     case rel=>
      have hsz:=z.out.size;refine ⟨q+1,by omega,by go_num,?_,z.out.trans (U.out.below hsz fun b y e=>by omega)⟩;rw[G.out];exact Q.out.mono fun b _ e=>by omega
     case measure=>simp[intOf];omega
    ·obtain rfl:q=k:=by omega
     have x:ds.take q=ds:=List.take_of_length_le (by have:=V.out;omega);rw[x] at a;have S:=hid a;have P:=hid f;clear a f x;go_wp2_with fail
     go_ret2
     exact ⟨p,rfl,S.out.mono fun b _ h=>lT r.out.size h,r.out.trans (P.out.mono r.out.size)⟩
end Ho
namespace Ac
open Go.RowKit Go.Shelf Go.Maps Vb
attribute [local go_sem] Oper.semAt_some
theorem zfw {F:Fence} {z:Nat} {P:Program} (w:World) {ops:Array Oper} {f:List Oper} {o:Oper} {a:Act} {Q:Exit→Act→World→Prop} (q:o.guard=none) (s x:Operand) {t e:TypeId} {sz bytes:Nat} (E:zbg P t e sz bytes)
  (r:o.op=.call {callee:=.builtin .append,args:=#[s,x],argTypes:=#[t,t]})
  (base:Nat) (v:Value) (n:Nat) (xs:List Value) (H:a.eval s=v) (i:w.ownsRow base e sz v n xs)
  (R:Nat→Prop) (y:Value) (m:Nat) (b:List Value) (I:a.eval x=y) (G:Sl w R y m sz b) (A:∀u∈b,u.oneCell'=true)
  (d:(n+m)*bytes≤140737488355328) (k:n+m≤maxLen) (g:base≤w.heap.size)
  (h:∀A' cap' w',w'.ownsRow base e sz (.slice A' (n+m) cap') (n+m) (xs++b)→w.grownBy w' v.ownBlock→((Value.slice A' (n+m) cap').ownBlock=v.ownBlock∨(Value.slice A' (n+m) cap').ownBlock=some w.heap.size)→wpListIn F z P ops Q f (a.put o.dst (.slice A' (n+m) cap')) w'):wpListIn F z P ops Q (o::f) a w:=by
 refine wpListIn_plain q fun K l=>?_;obtain ⟨A',cap',w',j,B,C,D⟩:=zex (P:=P) w base t o.type e sz bytes E v n xs i R y m b G A d k g;unfold Oper.wpIn;refine ⟨?_,?_⟩
 ·simp[Oper.about,r,resolve,Target.leads,Sem.run_pure]
 ·rw[Oper.semAt_plain F _ _ (by rw[r];intro c p;cases p)]
  simp[execOp,r,resolve,invoke,builtin,H,I,j,Result.andThen]
  exact l _ _ (h A' cap' w' B C D)
theorem zl5 {w w':World} {base:Nat} {e:TypeId} {sz n:Nat} {v:Value} {xs:List Value} {row:Option Nat} (h:w.ownsRow base e sz v n xs) (hg:w.grownBy w' row) (hr:∀g,v.ownBlock=some g→row≠some g):w'.ownsRow base e sz v n xs:=
 h.kept hg (by
  cases hv:v.ownBlock with
  |none=>simp
  |some g=>simpa using fun e=>hr g hv e.symm)
theorem zfI {W W':World} {d:Option Nat} {b:Nat} {e:TypeId} {sz n:Nat} {v:Value} {xs:List Value} (h:W.ownsRow b e sz v n xs) (k:W.grownBy W' d) (p:∀r,d=some r→∃o:Obj,W.heap[r]? =some o∧o.isCells=false):W'.ownsRow b e sz v n xs:=by
 refine zl5 h k fun r c e=>?_;obtain ⟨o,m,j⟩:=p r e;obtain ⟨_,h|⟨g,f,i,q,l,a,_⟩⟩:=h
 ·rw[h.1] at c;cases c
 ·rw[q] at c;injection c with c
  simp only at c;subst c;rw[m] at a
  cases a
  cases j
theorem zmL {w:World} {b:Nat} {e:TypeId} {sz n:Nat} {v:Value} {xs:List Value} (h:w.ownsRow b e sz v n xs):∀(j:Nat) (o:Obj),v.ownBlock=some j→w.heap[j]? =some o→o.isCells=true:=by
 intro j o c i;obtain ⟨_,h|⟨g,d,f,k,_,a,_⟩⟩:=h
 ·rw[h.1] at c;simp[Value.ownBlock] at c
 ·rw[k] at c
  simp[Value.ownBlock] at c
  subst c;rw[i] at a
  cases a
  rfl
end Ac
namespace Ho
open Go.RowKit Go.Shelf Vb Ac
attribute [local go_sem] Oper.semAt_some
section
variable {W W':World} {lo gl:Nat} {v:Value} {ds:List Du}
theorem TAAt.grow (h:TAAt W lo gl v ds) (hv:∀b,v.ownBlock=some b→b<W.heap.size) (hb:Below W W W'):TAAt W' lo gl v ds:=h.same (fun b hx=>hb.block b (h.x_lt hv hx)) hb.size
end
theorem zqf (nn:Nat) (hn:1≤nn) (lo gl:Nat) (v:Value) (ds:List Du) (hl:ds.length≤4096) (w:World) (hv:TAAt w lo gl v ds) (ho:∀b,v.ownBlock=some b→b<w.heap.size):
  zky Fence.wide nn Tryz.prog 112 #[.pointer (some ⟨gl,0,none⟩)] (fun x:Du=>#[Value.agg #[x.1,x.2]]) (zge gl v) (fun ys=>ys=ds) (fun pre=>pre<+:ds) ds.length w:=fun l J Jx W hW hJ _ hY h0=>
 ztT nn hn l lo gl v ds hl J Jx W (hv.grow ho hW) hY hJ h0
theorem zql {W:World} {R:Nat→Prop} {p:Nat} {now:Int} {D:Int→Option Int} (h:zar W R p now D) (N:zae now=true) (hd:∀n x,D n=some x→now≤x):
  Calls Tryz.prog 63 #[.pointer (some ⟨p,0,none⟩)] W fun e W'=>∃p',e=.returned (.pointer (some ⟨p',0,none⟩))∧zar W' (fun b=>W.heap.size≤b) p' now D∧Below W W W':=by
 obtain ⟨W1,E⟩:=nm (W.alloc (.cells #[.slice none 0 0] 158));have T:Below W W W1:=by rw[E];exact qA _
 have HC:=hid h;have HC1:=hid (h.grow T);have HB1:=hid T;have HX1:=hid (show Ac.Blk W1 W.heap.size 158 #[.slice none 0 0] by rw[E];exact Ac.Blk.new _ _ _);have HNW:=hid N;have HDD:=hid hd;have lp:=h.lt;have p0W:=h.cell.1;clear h T N hd;refine (callsIn_wide (n:=3)).1 (callsIn_of_wp_marks Tryz.func63 rfl trivial ((wpIn_wide (n:=3)).2 ?_));simp only[Tryz.ntmps63,List.size_toArray,List.length_cons,List.length_nil,Nat.reduceAdd,Nat.reduceSub,Array.replicate_succ,Array.replicate_zero,List.push_toArray,List.append_toArray,List.nil_append,List.cons_append];go_wp2_with fail
 refine (zcv HC.out).mono ?_;rintro e o ⟨rfl,rfl⟩;go_wp2_with fail
 rw[←E];clear E;refine (zr1 HC1.out).mono ?_;rintro e W2 ⟨Z,v,ds,rfl,hta,c,hgl,U,M,z,hok,hnd⟩;have P:=hid hta;have O:=hid c;have HX2:=hid (HX1.out.grow U);have s:=hid (HB1.out.trans (U.mono HB1.out.size));have hl1:=HX1.out.lt;have HGL:=hid (show o.heap.size<Z by omega);have HOL:=hid (fun b (i:v.ownBlock=some b)=>(show o.heap.size<b by have:=(c b i).1;omega));have HM:=hid M;have HL:=hid z;have HOK:=hid hok;clear hta c U M z hok hnd hgl;unfold zls;go_wp2_with fail
 refine (wpIn_wide (n:=3)).1 ?_;refine' ziZ (F:=Fence.wide) (n:=3) rfl (by omega) (gf:=112) (lb:=#[.pointer (some ⟨Z,0,none⟩)]) rfl trivial (enters_of Tryz.func112 (by kernel_rfl) rfl)
  (zqf 2 (by omega) _ Z v ds HL.out W2 P.out fun b i=>(O.out b i).2) (fun b i=>P.out.x_lt (fun b i=>(O.out b i).2) i) bR (fun _=>rfl)
  (fun q a W'=>W2.heap.size≤q∧Below o o W'∧∃r t,Ac.Blk W' o.heap.size 158 #[.slice r a.length t]∧W'.ownsRow q 161 2 (.slice r a.length t) a.length (a.flatMap zaH))
  (fun _ _ _ _=>False)
  (fun _=>OwnFrom.and (fun _ _ _ _ h _ _=>h) (OwnFrom.and (ownFrom_below lR s.out.size) (Own.from (fun _ _ _ _ ⟨r,t,h1,h2⟩ hg hr=>⟨r,t,h1.cells hg hr,Ac.zfI h2 hg hr⟩) _)))
  (fun _ _=>fun _ _ _ _ h _ _=>h)
  (fun W0 S=>⟨S.size,s.out.trans (S.mono s.out.size),none,0,HX2.out.grow S,World.ownsRow_nil _ _ _ _⟩) (fun x=>.cells #[x.1,x.2] 161 (0,0)) _ ?assign ?body ?done ?stop
 case assign=>
  intro l x W' g' K' hg' hK'
  gi_wp2
  rw[←hg'];exact hK'
 case body=>
  rintro q l gs a x W' hhi hwg X ⟨hUh,Q,r,t,m,j⟩ hsp hlt;have z:a.length<4096:=by have:=HL.out;omega
  obtain ⟨I,J⟩:=x;simp only at X;have G:Ac.Blk W' gs 161 #[I,J]:=X;have s0:W'.cell? ⟨gs,0,none⟩=some ↑I:=G.cell 0;have s1:W'.cell? ⟨gs,1,none⟩=some ↑J:=G.cell 1;have p0:W'.cell? ⟨o,0,none⟩=some (.slice r a.length t):=m.cell 0;have hgl':=G.lt;have A:=zbQ j ((Below.refl W'.heap.size W').alloc lR (.cells #[I,J] 161));have f:=hid A;have HBX:=hid (Ac.Blk.new W' 161 #[I,J]);have HLB:=hid m;have B:=hid Q;have hs2:=s.out.size;have hw12:o.heap.size<W2.heap.size:=HX2.out.lt;clear X G Q m j A hsp hlt
  gi_wp2_with (gi_at_builtin;refine Ac.zfw _ rfl (.tmp 12) (.tmp 14) zjg rfl q (.slice r a.length t) a.length (a.flatMap zaH) rfl f.out (fun _=>True) (.slice (some ⟨W',0,none⟩) 1 1) 1 [.int .i64 I,.int .i64 J] rfl (zt5 (sz:=2) (cs:=#[I,J]) HBX.out (Nat.le_refl 1) (by unfold maxLen;omega) rfl) (by simp[Value.oneCell']) (by omega) (by unfold maxLen;omega) (by simp;omega) ?_;intro A2 c2 Y c hg hloc;have y:∀g,g<q→some g≠(Value.slice r a.length t).ownBlock:=(fun g hlt e=>by have:=(f.out.lt _ e.symm).1;omega);have H:=(HLB.out.alloc (.cells #[I,J] 161)).grown hg (y _ (by omega));have q0:Y.cell? ⟨o,0,none⟩=some (.slice r a.length t):=H.cell 0;have q1:Y.frozen? ⟨o,0,none⟩=false:=H.frozen 0;have HG:=hid hg;have HN:=hid c;have HL3:=hid H;have HFAR:=hid y;clear c hg hloc y H)
  have hg3:Below q (W'.alloc (.cells #[I,J] 161)) Y:=(Below.refl q _).grown HG.out (by simp;omega) (fun g e=>(f.out.lt g e).1);have V:Below q W' Y:=((Below.refl q W').alloc (by omega) _).trans hg3;have hX:∀b,zge Z v b→b<q:=fun b i=>by
   have:=P.out.x_lt (fun b i=>(O.out b i).2) i
   omega
  have hnx:¬zge Z v o.heap.size:=by
   rintro (e|e)
   ·have:=HGL.out;omega
   ·have:=HOL.out _ e;omega
  refine ⟨((KeepsOthers.alloc W' _).trans (KeepsOthers.of_grownBy HG.out (zmL f.out))).trans (KeepsOthers.setCell _ _ _),(show KeepX (zge Z v) _ q W' Y from ⟨KeepR.of_below V,fun b i=>V.block b (hX b i)⟩).trans (KeepX.set Y (.inl (by simp;omega)) hnx _),hUh,(B.out.trans (V.mono (by omega))).setCell (p:=⟨o,0,none⟩) lR _,A2,c2,?_,?_⟩
  ·rw[List.length_append];exact HL3.out.set_ 0 (.slice A2 (a.length+1) c2)
  ·have h1:=zl5 HN.out (grownBy_setCell Y ⟨o,0,none⟩ (.slice A2 (a.length+1) c2)) (fun g e he=>by have:=(HN.out.lt g e).1;injection he with he;simp at he;omega);rw[List.length_append,List.flatMap_append];exact h1
 case done=>
  rintro q Dd ys W' hD hys ⟨hUh,Q,r,t,m,j⟩ hK;subst hys;have r0:W'.cell? ⟨o,0,none⟩=some (.slice r ys.length t):=m.cell 0;have rl:=m.lt;have p0:=qc Q p0W lp;have lp':p<W'.heap.size:=lL lp Q.size;have HSL:=hid ((Sl.of_own j).mono (R':=fun _=>True) fun _ _ _=>trivial);have B:=hid Q;have HK:=hid hK;have hDW:=(Array.getElem?_eq_some_iff.1 hK).1;have hs2:=s.out.size;have HOF:=hid (fun (w:World) (i:Below W' W' w)=>ztl (HSL.out.grow i) HNW.out (by have:=HL.out;omega) fun d hd=>⟨HOK.out d hd,HDD.out d.2 d.1 ((HM.out d).1 hd)⟩);clear Q m j hK;go_wp2_with fail
  refine zix (Below W' W') [] (by kernel_rfl) (bR.drew) (fun k=>?_);refine tp 0 k ?_;refine tp 1 k ?_;refine tp 2 k ?_;have qq:=hid fun (w':World) (hSw:(Below W' W') w')=>And.intro (qc hSw p0 lp')<|qc hSw r0 rl;refine tl 3 k qq ?_;refine tl 4 k qq ?_;refine stp 5 fun K hK=>?_;go_simp;refine (HOF.out _ k).mono ?_;rintro e W5 ⟨p5,rfl,hc5,hb5⟩;have HC5:=hid hc5;clear hc5;refine hK.out _ _ ?_ (fun k=>?_)
  ·exact k.trans (hb5.mono k.size)
  clear hK K
  try simp only[Act.put,pb,pz,ps]
  refine tp 6 k ?_;refine tp 7 k ?_;refine tp 8 k ?_;refine tp 9 k ?_;refine tp 10 k ?_;refine zaa (by kernel_rfl) (zdW ?_) _;have C:=hid k;clear k r0 p0;go_wp2_with fail
  have hz5:=C.out.size;have hzW:=B.out.size;refine ⟨by simp,.inl ⟨_,_,rfl,run_takeDeferred ((C.out.block _ hDW).trans HK.out),?_⟩⟩;refine ⟨.pointer (some ⟨p5,0,none⟩),by simp[results,Tryz.results63,go_sem],p5,rfl,?_,B.out.trans ((C.out.mono hzW).trans (belowK_b (w:=o) lR W5 Dd _ _ (by omega) ((C.out.block _ hDW).trans HK.out) rfl rfl))⟩;have L:=HC5.out;rw[zta HM.out] at L;exact (L.chg (Chg.grown (grownBy_putObj' W5 Dd _)) fun b _ i e=>by injection e with e;simp at i;omega).mono fun b _ i=>by simp at i;omega
 case stop=>exact fun _ _ _ _ _ _ _ h _=>h.elim
end Ho
namespace Ho
open Go.RowKit Vb Ac
structure PH (W:World) (T:Nat→Part) (h pn pc:Nat) (va vl vb vs:Value) (K:Nat) (H:House):Prop where
 top:T h=.hs
 blk:Ac.Blk W h 83 #[.pointer (some ⟨pn,0,none⟩),va,vl,.pointer (some ⟨pc,0,none⟩),vb,vs]
 names:zaw W (fun b=>T b=.names) pn 4096 H.names
 accs:zcd W T va K H.accs
 lots:ze2 W T vl H.lots
 cal:zar W (fun b=>T b=.cal) pc H.now H.due
 out:∀b,W.heap.size≤b→T b=.no
section
variable {W W4 U:World} {T:Nat→Part} {h pn pc K:Nat} {va vl vb vs v':Value} {H:House}
theorem PH.acc (o:PH W T h pn pc va vl vb vs K H) {n:Nat} (E:n=H.accs.length) {bs ms:Nat→Nat} (v:∀i a,H.accs[i]? =some a→AccAt W (bs i) (ms i) K a∧T (bs i)=.acc i∧T (ms i)=.acc i)
  {m s:Nat} {a:Acc} (q:Below W W W4) (f:AccAt W4 m s K a) (J:W.heap.size≤m) (L:W.heap.size≤s)
  (g:RowAt U (fun b=>(T b=.accs∧b<W.heap.size)∨W4.heap.size≤b) 136 1 v' (n+1) (ptrs bs n++[.pointer (some ⟨m,0,none⟩)])) (l:Chg (fun b=>(T b=.accs∨T b=.hs)∧b<W.heap.size) W4 U)
  (y:Ac.Blk U h 83 #[.pointer (some ⟨pn,0,none⟩),v',vl,.pointer (some ⟨pc,0,none⟩),vb,vs]):∃T',PH U T' h pn pc v' vl vb vs K {H with accs:=H.accs++[a]}∧∀b,b<W.heap.size→T' b=T b:=by
 obtain ⟨T',d⟩:=nm (fun b=>if b<W.heap.size then T b else if b<W4.heap.size then .acc n else if b<U.heap.size then .accs else .no:Nat→Part);have j:∀b,b<W.heap.size→T' b=T b:=fun b p=>by rw[d];simp[p]
 have M:=q.size;have N:=l.size;have A:=f.ltb;have B:=f.ltm;have c:Chg (fun b=>T b=.accs∨T b=.hs) W U:=(Chg.of _ q).step l fun b _ e=>e.1;refine ⟨T',⟨(j h o.blk.lt).trans o.top,y,o.names.step c (fun b e=>by rintro (k|k)<;>rw[e] at k<;>cases k) j,⟨fun i=>if i=n then m else bs i,fun i=>if i=n then s else ms i,?_,fun i x r=>?_⟩,o.lots.step c (fun b e=>?_) j,o.cal.step c (fun b e=>by rintro (k|k)<;>rw[e] at k<;>cases k) j,fun b p=>?_⟩,j⟩
 ·have t:(H.accs++[a]).length=n+1:=by simp[E]
  show RowAt U _ _ 1 v' (H.accs++[a]).length (ptrs _ (H.accs++[a]).length)
  rw[t,zfK];have I:ptrs (fun i=>if i=n then m else bs i) n=ptrs bs n:=zeL fun i r=>by simp[show ¬i=n by omega]
  rw[I];simp only[if_true];refine ⟨g.own,fun b p=>?_⟩;have C:=g.lt p
  rcases g.blk b p with k|k
  ·exact (j b k.2).trans k.1
  ·rw[d];simp[show ¬b<W.heap.size by omega,show ¬b<W4.heap.size by omega,C]
 ·by_cases e:i=n
  ·subst e;have O:x=a:=by
    have:(H.accs++[a])[i]? =some a:=by simp[E]
    rw[this] at r;cases r;rfl
   subst O;simp only[if_true];refine ⟨f.chg l (fun e=>by have:=e.2;omega) (fun e=>by have:=e.2;omega),?_,?_⟩
   ·rw[d];simp[show ¬m<W.heap.size by omega,A]
   ·rw[d];simp[show ¬s<W.heap.size by omega,B]
  ·simp only[if_neg e];have z:H.accs[i]? =some x:=by
    have t:=(gS.1 r).1;simp only[List.length_append,List.length_singleton] at t
    rwa [List.getElem?_append_left (by omega)] at r
   obtain ⟨D,F,G⟩:=v i x z;exact ⟨D.chg c (fun k=>by rw[F] at k;rcases k with k|k<;>cases k) (fun k=>by rw[G] at k;rcases k with k|k<;>cases k),(j _ D.ltb).trans F,(j _ D.ltm).trans G⟩
 ·rcases e with e|⟨i,e⟩|e<;>rintro (k|k)<;>rw[e] at k<;>cases k
 ·rw[d];simp[show ¬b<W.heap.size by omega,show ¬b<W4.heap.size by omega,show ¬b<U.heap.size by omega]
theorem PH.lot (q:PH W T h pn pc va vl vb vs K H) {n:Nat} (L:n=H.lots.length) {bl:Nat→Nat} (E:∀n l,H.lots[n]? =some l→za2 W T n (bl n) l)
  {gl:Nat} {l:LotS} {y:Value} (r:Below W W W4) (R:W.heap.size=gl) (v:Ac.Blk W4 gl 145 (l.cells y).toArray) (D:zdh W4 (gl+1) y l.stands)
  (j:RowAt U (fun b=>(T b=.lots∧b<W.heap.size)∨W4.heap.size≤b) 138 1 v' (n+1) (ptrs bl n++[.pointer (some ⟨gl,0,none⟩)])) (f:Chg (fun b=>(T b=.lots∨T b=.hs)∧b<W.heap.size) W4 U)
  (C:Ac.Blk U h 83 #[.pointer (some ⟨pn,0,none⟩),va,v',.pointer (some ⟨pc,0,none⟩),vb,vs]):∃T',PH U T' h pn pc va v' vb vs K {H with lots:=H.lots++[l]}∧∀b,b<W.heap.size→T' b=T b:=by
 obtain ⟨Y,p,I⟩:=D;obtain ⟨T',c⟩:=nm (fun b=>if b<W.heap.size then T b else if b<W4.heap.size then (if b=gl∨y.ownBlock=some b then .lot n else .old) else if b<U.heap.size then .lots else .no:Nat→Part);have o:∀b,b<W.heap.size→T' b=T b:=fun b d=>by rw[c];simp[d]
 have S:=r.size;have V:=f.size;have t:=v.lt;have a:Chg (fun b=>T b=.lots∨T b=.hs) W U:=(Chg.of _ r).step f fun b _ e=>e.1;have g:∀b,W.heap.size≤b→¬((T b=.lots∨T b=.hs)∧b<W.heap.size):=fun b d e=>by have:=e.2;omega
 refine ⟨T',⟨(o h q.blk.lt).trans q.top,C,q.names.step a (fun b e=>by rintro (k|k)<;>rw[e] at k<;>cases k) o,q.accs.step a (fun b e=>?_) o,⟨fun i=>if i=n then gl else bl i,?_,fun m x z=>?_⟩,q.cal.step a (fun b e=>by rintro (k|k)<;>rw[e] at k<;>cases k) o,fun b d=>?_⟩,o⟩
 ·rcases e with e|⟨i,e⟩<;>rintro (k|k)<;>rw[e] at k<;>cases k
 ·have B:(H.lots++[l]).length=n+1:=by simp[L]
  show RowAt U _ _ 1 v' (H.lots++[l]).length (ptrs _ (H.lots++[l]).length)
  rw[B,zfK];have M:ptrs (fun i=>if i=n then gl else bl i) n=ptrs bl n:=zeL fun i hi=>by simp[show ¬i=n by omega]
  rw[M];simp only[if_true];refine ⟨j.own,fun b d=>?_⟩;have F:=j.lt d
  rcases j.blk b d with k|k
  ·exact (o b k.2).trans k.1
  ·rw[c];simp[show ¬b<W.heap.size by omega,show ¬b<W4.heap.size by omega,F]
 ·by_cases e:m=n
  ·subst e;have X:x=l:=by
    have:(H.lots++[l])[m]? =some l:=by simp[L]
    rw[this] at z;cases z;rfl
   subst X;simp only[if_true];refine ⟨y,?_,v.chg f (g _ (by omega)),Y,?_,fun k os J=>?_⟩
   ·rw[c];simp[show ¬gl<W.heap.size by omega,t]
   ·have N:=p.chg f (fun b _ d=>g b (by omega));refine ⟨N.own,fun b d=>?_⟩;have Z:=p.blk b d;have O:=p.lt d;rw[c]
    simp[show ¬b<W.heap.size by omega,O,d]
    omega
   ·rw[List.getElem?_map] at J;obtain ⟨s,hs,rfl⟩:=Option.map_eq_some_iff.1 J;refine zad.mono (zad.chg (zad.mono (R':=fun b=>(gl+1≤b∧¬y.ownBlock=some b)∧b<W4.heap.size) (I k s hs) fun b d A=>⟨A,d⟩) f fun b _ A=>g b (by omega)) fun b _ A=>?_;obtain ⟨⟨h6,P⟩,Q⟩:=A;rw[c]
    simp[show ¬b<W.heap.size by omega,Q,P,show ¬b=gl by omega]
  ·simp only[if_neg e];have G:H.lots[m]? =some x:=by
    have B:=(gS.1 z).1;simp only[List.length_append,List.length_singleton] at B
    rwa [List.getElem?_append_left (by omega)] at z
   exact (E m x G).step a (fun b e=>by rcases e with e|e<;>rintro (k|k)<;>rw[e] at k<;>cases k) o
 ·rw[c];simp[show ¬b<W.heap.size by omega,show ¬b<W4.heap.size by omega,show ¬b<U.heap.size by omega]
theorem PH.done (j:PH W T h pn pc va vl vb vs K H) {a c:Value} {vo:Nat→Value} (d:Chg (·=h) W U) (r:Ac.Blk U h 83 #[.pointer (some ⟨pn,0,none⟩),va,vl,.pointer (some ⟨pc,0,none⟩),a,c])
  (m:RowAt U (fun b=>W.heap.size≤b) 61 18 a H.book.length (zaz H.book vo)) (t:∀k o,H.book[k]? =some o→zad U (fun b=>T b=.old∧b<W.heap.size) (vo k) o.offers)
  (n:RowAt U (fun b=>W.heap.size≤b) 151 7 c H.sales.length (H.sales.flatMap SaleR.cells)) (s:∀b,a.ownBlock=some b→¬c.ownBlock=some b):
  ∃T',HouseAt U T' h pn pc va vl a c K H∧∀b,b<W.heap.size→T' b=T b:=by
 obtain ⟨T',f⟩:=nm (fun b=>if b<W.heap.size then T b else if a.ownBlock=some b then .book else if c.ownBlock=some b then .sales else .no:Nat→Part);have l:∀b,b<W.heap.size→T' b=T b:=fun b g=>by rw[f];simp[g]
 have p:∀b P,T b=P→P≠ .hs→¬b=h:=fun b P y z A=>z (by rw[←y,A,j.top]);refine ⟨T',⟨(l h j.blk.lt).trans j.top,r,j.names.step d (fun b e=>p b _ e (by simp)) l,j.accs.step d (fun b e=>by rcases e with e|⟨i,e⟩<;>exact p b _ e (by simp)) l,j.lots.step d (fun b e=>by rcases e with e|⟨i,e⟩|e<;>exact p b _ e (by simp)) l,j.cal.step d (fun b e=>p b _ e (by simp)) l,⟨vo,?_,fun k E v=>?_⟩,?_,fun b g=>?_⟩,l⟩
 ·refine ⟨m.own,fun b g=>?_⟩;have:=m.blk b g;rw[f];simp[show ¬b<W.heap.size by omega,g]
 ·rw[List.getElem?_map] at v;obtain ⟨o,C,rfl⟩:=Option.map_eq_some_iff.1 v;exact zad.mono (t k o C) fun b _ x=>(l b x.2).trans x.1
 ·refine ⟨n.own,fun b g=>?_⟩;have:=n.blk b g;rw[f];have q:¬a.ownBlock=some b:=fun e=>s b e g
  simp[show ¬b<W.heap.size by omega,g,q]
 ·have D:=d.size;rw[f];have q:¬a.ownBlock=some b:=fun e=>by have:=m.lt e;omega
  have B:¬c.ownBlock=some b:=fun e=>by have:=n.lt e;omega
  simp[show ¬b<W.heap.size by omega,q,B]
end
theorem zpC {W:World} {R:Nat→Prop} {p:Nat} {most:Int} {ns:List ByteArray} (h:zaw W R p most ns) (G:ns.Nodup) (hv:∀s∈ns,zeI s=0) (y:(ns.length:Int)≤most) (z:most≤1048576):
  Calls Tryz.prog 62 #[.pointer (some ⟨p,0,none⟩)] W fun e W'=>∃p',e=.returned (.pointer (some ⟨p',0,none⟩))∧zaw W' (fun b=>W.heap.size≤b) p' most ns∧Below W W W':=by
 have H:=hid h;have h0:(0:Int)≤most:=by omega
 obtain ⟨v,m,F,r,h2,h3,E,h5,h6,h7⟩:=h;obtain ⟨A,S,rfl⟩:=E.form;obtain ⟨n,U⟩:=nm (ns.length);rw[←U] at r E y h7;have Z:W.cell? ⟨p,0,none⟩=some (.slice A n S):=r.cell 0;have c2:W.cell? ⟨p,2,none⟩=some ↑most:=r.cell 2;have lp:=r.lt;have Y:=hid U;have f:=hid E;have HD:=hid G;have HV:=hid hv;have HM:=hid y;have M:=hid z;have HB:=hid r;clear r h2 h3 E h5 h6 G hv y z U;go_enter Tryz.func62,Tryz.ntmps62;go_wp2_with fail
 refine (zeh H.out).mono ?_;rintro e J ⟨rfl,rfl⟩;go_wp2_with fail
 refine (zl3 h0 M.out J).mono ?_;rintro e W2 ⟨p',rfl,C,d⟩;have P:=hid C;have K:=hid d;have c02:=qc d Z lp;have lp2:p<W2.heap.size:=lL lp d.size;clear C d Z c2;go_wp2_with fail
 go_loopw [22] (fun i wr=>∃k:Nat,k≤n∧i=.int .i64 k∧zaw wr (fun b=>J.heap.size≤b) p' most (ns.take k)∧Below J J wr) (fun i _=>n-(intOf i).toNat)
 case atStart=>exact ⟨0,zL,rfl,P.out,K.out⟩
 case round=>
  obtain ⟨k,hk,rfl,a,o⟩:=hrel;by_cases hlt:k<n
  ·obtain ⟨s,D⟩:∃s,ns[k]? =some s:=⟨_,gE (by rw[←Y.out];exact hlt)⟩;obtain ⟨q,qc,hq,hqR,V,_⟩:=f.out.ex (by omega);injection hq with hq1 hq2 hq3
   subst hq1 hq3;clear hq2;have d0:wr.cell? ⟨q,k,none⟩=some (.string s):=qc o ((f.out.own.cellAt k (by omega)).trans (by simp[strs,D])) V;have g:zes (ns.take k) most s=0:=by
    unfold zes;rw[if_neg (by rw[HV.out s (mG D)];simp),if_neg,if_neg]
    ·rw[List.length_take];have:=HM.out;omega
    ·intro y;have G:=HD.out;obtain ⟨j,I⟩:=List.getElem?_of_mem y;rw[List.getElem?_take] at I
     split at I
     ·rename_i T
      have g1:=(gS.1 I);have g2:=(gS.1 D);exact List.pairwise_iff_getElem.1 G j k g1.1 g2.1 T (g1.2.trans g2.2.symm)
     ·cases I
   have t:=hid (znc a g (by rw[List.length_take];omega));have e5:(0:Int)≤(k:Int):=by omega
   have e6:(k:Int)<(n:Int):=by omega
   have hwr:IntKind.i64.wrap ((k:Int)+1)=(k:Int)+1:=iW _ (by omega);have Q:=hid (za4 D);have c:=hid o;clear a o g D;go_wp2_with fail
   refine t.out.mono ?_;rintro e w3 ⟨rfl,B,x⟩;have N:=hid B;have L:=hid x;clear B x;go_wp2_with fail
   go_roundw
   case rel=>
    have X:=c.out.size;refine ⟨k+1,by omega,by go_num,?_,c.out.trans (L.out.below X fun b o e=>by omega)⟩;rw[Q.out];exact N.out.mono fun b _ o=>by omega
   case measure=>simp[intOf];omega
  ·obtain rfl:k=n:=by omega
   have l:ns.take k=ns:=List.take_of_length_le (by have:=Y.out;omega);rw[l] at a;have O:=hid a;have c:=hid o;clear a o l;go_wp2_with fail
   go_ret;exact ⟨p',rfl,O.out,c.out⟩
open Classical in
noncomputable def zhL (W:World) (T:Nat→Part) (hc:Nat) (Pn Pc:Nat→Prop):Nat→Part:=fun b=>if b<W.heap.size then (if T b=.old then .old else .no) else if b=hc then .hs else if Pn b then .names else if Pc b then .cal else .no
theorem zrA {W U:World} {T:Nat→Part} {d pn pc K:Nat} {vb vs:Value} {H:House} {g f:Nat→Prop} (s:W.heap.size≤d) (t:zaw U g pn 4096 H.names) (k:zar U f pc H.now H.due) (m:∀b,g b→d<b∧b<U.heap.size) (o:∀b,f b→d<b∧b<U.heap.size) (r:∀b,g b→¬f b)
  (j:Ac.Blk U d 83 #[.pointer (some ⟨pn,0,none⟩),.slice none 0 0,.slice none 0 0,.pointer (some ⟨pc,0,none⟩),vb,vs]) (v:W.heap.size≤U.heap.size):
  PH U (zhL W T d g f) d pn pc (.slice none 0 0) (.slice none 0 0) vb vs K {H with accs:=[],lots:=[]}:=by
 refine ⟨?_,j,t.mono fun b _ c=>?_,⟨fun _=>0,fun _=>0,RowAt.nil,fun i a h=>by cases h⟩,⟨fun _=>0,RowAt.nil,fun n l h=>by cases h⟩,k.mono fun b _ c=>?_,fun b c=>?_⟩
 ·unfold zhL;rw[if_neg (by omega),if_pos rfl]
 ·have:=m b c;unfold zhL;rw[if_neg (by omega),if_neg (by omega),if_pos c]
 ·have:=o b c;unfold zhL;rw[if_neg (by omega),if_neg (by omega),if_neg (fun e=>r b e c),if_pos c]
 ·have p:¬g b:=fun e=>by have:=(m b e).2;omega
  have q:¬f b:=fun e=>by have:=(o b e).2;omega
  unfold zhL;have x:=j.lt
  rw[if_neg (by omega),if_neg (by omega),if_neg p,if_neg q]
theorem zqI {h g c:World} {a d f:Nat} {va vl vb vs s t:Value} {ns:List ByteArray} {now:Int} {D:Int→Option Int} (m:zaw g (fun b=>h.heap.size≤b) d 4096 ns) (n:zar c (fun b=>g.heap.size≤b) f now D) (o:h.heap.size≤g.heap.size) (j:Below g g c) (q:a<h.heap.size)
  (r:Ac.Blk c a 83 #[s,va,vl,t,vb,vs]) (p:Chg (·=a) h ((c.setCell ⟨a,0,none⟩ (.pointer (some ⟨d,0,none⟩))).setCell ⟨a,3,none⟩ (.pointer (some ⟨f,0,none⟩)))):
  ∃pn' pc' Pn Pc,zaw ((c.setCell ⟨a,0,none⟩ (.pointer (some ⟨d,0,none⟩))).setCell ⟨a,3,none⟩ (.pointer (some ⟨f,0,none⟩))) Pn pn' 4096 ns∧zar ((c.setCell ⟨a,0,none⟩ (.pointer (some ⟨d,0,none⟩))).setCell ⟨a,3,none⟩ (.pointer (some ⟨f,0,none⟩))) Pc pc' now D∧
   (∀b,Pn b→a<b∧b<((c.setCell ⟨a,0,none⟩ (.pointer (some ⟨d,0,none⟩))).setCell ⟨a,3,none⟩ (.pointer (some ⟨f,0,none⟩))).heap.size)∧(∀b,Pc b→a<b∧b<((c.setCell ⟨a,0,none⟩ (.pointer (some ⟨d,0,none⟩))).setCell ⟨a,3,none⟩ (.pointer (some ⟨f,0,none⟩))).heap.size)∧(∀b,Pn b→¬Pc b)∧
   Chg (·=a) h ((c.setCell ⟨a,0,none⟩ (.pointer (some ⟨d,0,none⟩))).setCell ⟨a,3,none⟩ (.pointer (some ⟨f,0,none⟩)))∧
   Ac.Blk ((c.setCell ⟨a,0,none⟩ (.pointer (some ⟨d,0,none⟩))).setCell ⟨a,3,none⟩ (.pointer (some ⟨f,0,none⟩))) a 83 #[.pointer (some ⟨pn',0,none⟩),va,vl,.pointer (some ⟨pc',0,none⟩),vb,vs]:=by
 have l:Chg (·=a) c ((c.setCell ⟨a,0,none⟩ (.pointer (some ⟨d,0,none⟩))).setCell ⟨a,3,none⟩ (.pointer (some ⟨f,0,none⟩))):=(Chg.set c ⟨a,0,none⟩ _).trans (Chg.set _ ⟨a,3,none⟩ _);have v:=j.size;have x:=l.size;refine ⟨d,f,fun b=>h.heap.size≤b∧b<g.heap.size,fun b=>g.heap.size≤b∧b<c.heap.size,(m.own.grow j).chg l fun b _ i k=>?_,n.own.chg l fun b _ i k=>?_,fun b e=>?_,fun b e=>?_,fun b i k=>?_,p,(r.set_ 0 _).set_ 3 _⟩
 ·have:=i.1;omega
 ·have:=i.1;omega
 ·have:=e.1;have:=e.2;omega
 ·have:=e.1;have:=e.2;omega
 ·have:=i.2;have:=k.1;omega
theorem zdh.set {W U:World} {lo g:Nat} {v:Value} {ss:List Stand} (h:zdh W lo v ss) (l:g<lo) (c:Chg (·=g) W U):zdh U lo v ss:=by
 obtain ⟨j,d,f⟩:=h;exact ⟨j,d.chg c fun b _ a e=>by omega,fun k s i=>zad.chg (f k s i) c fun b _ a e=>by have:=a.1;omega⟩
theorem zpx (l:LotS) (v u:Value):(l.cells v).toArray.setIfInBounds 14 u=(l.cells u).toArray:=rfl
theorem zpq (k:Int):(zau k).oneCell'=true:=by
 unfold zau
 repeat' split
 all_goals rfl
theorem zsP (l:LotS) (A:Option Addr) (n c:Nat):((l.cells (.slice A n c)).toArray.all (·.oneCell'))=true:=by simpa [LotS.cells,Value.oneCell'] using zpq l.put.kind
def zn8:Array Value:=#[.int .i64 0,.int .i64 0,.int .i64 0,.int .i64 0,.int .i64 0,.int .i64 0,.int .i64 0,.int .i64 0,.int .i64 0,.int .i64 0,.int .i64 0,.nilIface,.int .i64 0,.bool false,.slice none 0 0,.int .i64 0,.int .i64 0,.int .i64 0,.int .i64 0,.int .i64 0]
theorem zo9 {W:World} {T:Nat→Part} {h K:Nat} {H:House} (hH:zaf W T h K H) (hI:HInv H) (hC:CInv H) (E:H.book.length≤1000000):
  Calls Tryz.prog 32 #[.pointer (some ⟨h,0,none⟩)] W fun e W'=>∃hc T',e=.returned (.pointer (some ⟨hc,0,none⟩))∧zaf W' T' hc K H∧(∀b,b<W.heap.size→T' b=if T b=.old then .old else .no)∧W.heap.size≤hc∧Below W W W':=by
 obtain ⟨pn,pc,va,vl,vb,vs,hA⟩:=id hH;obtain ⟨W1,hW1⟩:=nm (W.alloc (.cells #[.pointer (some ⟨pn,0,none⟩),va,vl,.pointer (some ⟨pc,0,none⟩),vb,vs] 83));have hb1:Below W W W1:=by rw[hW1];exact qA _
 have hx1:Ac.Blk W1 W.heap.size 83 #[.pointer (some ⟨pn,0,none⟩),va,vl,.pointer (some ⟨pc,0,none⟩),vb,vs]:=by rw[hW1];exact Ac.Blk.new _ _ _
 have hs1:W1.heap.size=W.heap.size+1:=by rw[hW1];simp
 obtain ⟨c0,c1,c2,c3,c4,c5,hl⟩:=hA.cells;have HH:=hid hH;have HA:=hid hA;have HI:=hid hI;have HCI:=hid hC;have HBC:=hid E;have HB1:=hid hb1;have HX1:=hid hx1;have HS1:=hid hs1;clear hH hA hI hC hb1 hx1 hs1 E;go_enter Tryz.func32,Tryz.ntmps32;go_wp2_with fail
 refine (zcU HH.out).mono ?_;rintro e f ⟨rfl,rfl⟩
 go_upto_region 4 with fail
 rw[←hW1];clear hW1;have hA1:=HA.out.grow HB1.out;have hno:∀b P,T b=P→P≠ .no→¬b=f.heap.size:=fun b P e1 e2 e3=>e2 (by rw[←e1,e3];exact HA.out.out _ lR);have HNO:=hid hno;have HA1:=hid hA1;obtain ⟨d0,d1,d2,d3,d4,d5,dl⟩:=hA1.cells;have S:h≠f.heap.size:=hno h _ hA1.top (by simp);have hcl:=HX1.out.lt;clear hA1 hno c0 c1 c2 c3 c4 c5 hl
 go_cut [] from 9 to 117 (fun wx=>∃pn' pc' Pn Pc,zaw wx Pn pn' 4096 H.names∧zar wx Pc pc' H.now H.due∧(∀b,Pn b→f.heap.size<b∧b<wx.heap.size)∧(∀b,Pc b→f.heap.size<b∧b<wx.heap.size)∧(∀b,Pn b→¬Pc b)∧Chg (·=f.heap.size) W1 wx∧Ac.Blk wx f.heap.size 83 #[.pointer (some ⟨pn',0,none⟩),va,vl,.pointer (some ⟨pc',0,none⟩),vb,vs])
 case first=>
  refine zac (Chg (·=f.heap.size) W1) [] (by kernel_rfl) ((Chg.refl _ W1).drewN 1) (fun d=>?_);refine tp 0 d ?_;refine tp 1 d ?_;refine tp 2 d ?_;refine tp 3 d ?_;refine tp 4 d ?_;refine tp 5 d ?_;have qq:=hid fun (w':World) (R:(Chg (·=f.heap.size) W1) w')=>And.intro (cg R d0 dl S)<|cg R d3 dl S;refine tl 6 d qq ?_;refine tp 8 d ?_;refine tp 9 d ?_;refine tp 10 d ?_;refine tp 11 d ?_;refine tl 12 d qq ?_;refine stp 7 fun K y=>?_;go_simp;refine (zpC (HA1.out.names.chg d fun b _ e=>HNO.out b _ e (by simp)) HCI.out.nodup HCI.out.names (by have:=HI.out.nlen;omega) (by omega)).mono ?_;rintro e W3 ⟨p3,rfl,hn3,M⟩;refine y.out _ _ ?_ (fun d=>?_)
  ·exact d.step (Chg.of (fun _=>False) M) fun _ _ e=>e.elim
  clear y K
  try simp only[Act.put,pb,pz,ps]
  have HN3:=hid hn3;have HZ3:=hid M;have HS3:=hid d;have HK3:=hid (HX1.out.grow ((Below.refl W1.heap.size W1).drew.trans (M.mono lR)));clear hn3 M;refine stp 13 fun K y=>?_;go_simp;refine (zql (HA1.out.cal.chg d fun b _ e=>HNO.out b _ e (by simp)) (zaK.2 HCI.out.now) HCI.out.due).mono ?_;rintro e W5 ⟨p5,rfl,hn5,D⟩;refine y.out _ _ ?_ (fun d=>?_)
  ·exact d.step (Chg.of (fun _=>False) D) fun _ _ e=>e.elim
  clear y K
  try simp only[Act.put,pb,pz,ps]
  have HN5:=hid hn5;have HZ5:=hid D;have HS5:=hid d;have HK5:=hid (HK3.out.grow D);clear hn5 D;refine tp 14 d ?_;refine tp 15 d ?_;refine tp 16 d ?_;refine stp 17 fun K y=>?_;have f0:=HK5.out.frozen 0;have z0:W5.cell? ⟨f,0,none⟩=some (.pointer (some ⟨pn,0,none⟩)):=HK5.out.cell 0;go_simp;refine y.out _ _ ?_ (fun d=>?_)
  ·exact d.trans (Chg.set W5 ⟨f,0,none⟩ _)
  clear y K
  try simp only[Act.put,pb,pz,ps]
  refine tp 18 d ?_;refine tp 19 d ?_;refine tp 20 d ?_;refine stp 21 fun K y=>?_;have f3:=HK5.out.frozen 3;have z3:W5.cell? ⟨f,3,none⟩=some (.pointer (some ⟨pc,0,none⟩)):=HK5.out.cell 3;go_simp;refine y.out _ _ ?_ (fun d=>?_)
  ·exact d.trans (Chg.set _ ⟨f,3,none⟩ _)
  clear y K
  try simp only[Act.put,pb,pz,ps]
  refine zaa (by kernel_rfl) ?_ _;have HSF:=hid d;clear d;go_wp2_with fail
  go_meet
  case rel=>exact zqI HN3.out HN5.out (by have:=HZ3.out.size;simpa using this) HZ5.out HX1.out.lt HK5.out HSF.out
 case rest=>
  rename World=>V;obtain ⟨pn',pc',Pn,Pc,hn,hcal,e1,e2,e3,d,E⟩:=hcut;clear d0 d1 d2 d3 d4 d5 dl S hcl;have hsV:=d.size;have hs1:=HS1.out;obtain ⟨V2,hV2⟩:=nm ((V.setCell ⟨f,1,none⟩ (.slice none 0 0)).setCell ⟨f,2,none⟩ (.slice none 0 0));have hZ:Chg (·=f.heap.size) V V2:=by rw[hV2];exact (Chg.set V ⟨f,1,none⟩ _).trans (Chg.set _ ⟨f,2,none⟩ _)
  have hbk2:Ac.Blk V2 f.heap.size 83 #[.pointer (some ⟨pn',0,none⟩),.slice none 0 0,.slice none 0 0,.pointer (some ⟨pc',0,none⟩),vb,vs]:=by rw[hV2];exact (E.set_ 1 _).set_ 2 _
  have hsZ:=hZ.size;have hBV:Below f f V2:=HB1.out.trans ((d.trans hZ).below (by omega) fun b j e=>by omega);have HPS:=hid (zrA (W:=f) (T:=T) (K:=K) (H:=H) lR (hn.chg hZ fun b _ j e=>by have:=e1 b j;omega) (hcal.chg hZ fun b _ j e=>by have:=e2 b j;omega) (fun b j=>⟨(e1 b j).1,by have:=(e1 b j).2;omega⟩) (fun b j=>⟨(e2 b j).1,by have:=(e2 b j).2;omega⟩) e3 hbk2 (by omega));have hAV:=HA.out.grow hBV;have y1:=hAV.cells.2.1;have y2:=hAV.cells.2.2.1;obtain ⟨bs,ms,X,has⟩:=HA.out.accs;obtain ⟨A,c,hva⟩:=X.form;obtain ⟨bl,I,hls⟩:=HA.out.lots;obtain ⟨AL,cl,hvl⟩:=I.form;obtain ⟨n,hnn⟩:=nm (H.accs.length);obtain ⟨m,hmm⟩:=nm (H.lots.length);rw[←hnn] at hva X;rw[←hmm] at hvl I;have hnb:n≤4096:=by have B:=HI.out.names;have h2:=HI.out.nlen;omega
  have hmb:m≤4096:=by have h2:=HI.out.llen;omega
  have f1:=E.frozen 1;have f2:=(E.set_ 1 (.slice none 0 0)).frozen 2;have z1:V.cell? ⟨f,1,none⟩=some va:=E.cell 1;have z2:(V.setCell ⟨f,1,none⟩ (.slice none 0 0)).cell? ⟨f,2,none⟩=some vl:=(E.set_ 1 (.slice none 0 0)).cell 2;rw[hva] at y1;rw[hvl] at y2;rw[hV2] at y1;have HROW:=hid (show RowAt f (fun b=>T b=.accs) 136 1 (.slice A n c) n (ptrs bs n) from hva▸X);have HAS:=hid has;have HLROW:=hid (show RowAt f (fun b=>T b=.lots) 138 1 (.slice AL m cl) m (ptrs bl m) from hvl▸I);have HLS:=hid hls;have HN:=hid hnn;have HM:=hid hmm;have HVA:=hid hva;have HVL:=hid hvl;have HV2:=hid hV2;have HBV:=hid hBV;clear hn hcal e1 e2 e3 d E hZ hbk2 hBV hAV y2 X has I hls hnn hmm hva hvl hV2 hsV hs1 hsZ;go_wp2_with fail
  rw[←HV2.out];clear f1 f2 z1 z2 y1;have e4:(0:Int)≤(n:Int):=by omega
  obtain ⟨V3,hV3⟩:=nm (V2);rw[←hV3] at HPS HBV ⊢;clear HV2 hV3 V2 V
  go_loopw [51] (fun i wr=>∃(k:Nat) (Tk:Nat→Part) (vk:Value),k≤n∧i=.int .i64 k∧PH wr Tk f.heap.size pn' pc' vk (.slice none 0 0) vb vs K {H with accs:=H.accs.take k,lots:=[]}∧(∀b,b<f.heap.size→Tk b=if T b=.old then .old else .no)∧Below f f wr) (fun i _=>n-(intOf i).toNat)
  case atStart=>exact ⟨0,_,_,zL,rfl,HPS.out,fun b j=>by unfold zhL;rw[if_pos j],HBV.out⟩
  case round=>
   obtain ⟨k,Tk,vk,hk,rfl,p,hTk,j⟩:=hrel;by_cases hlt:k<n
   ·obtain ⟨a,ha⟩:∃a,H.accs[k]? =some a:=⟨_,gE (by rw[←HN.out];exact hlt)⟩;obtain ⟨q,qc,hq,hqR,hql,_⟩:=HROW.out.ex (by omega);injection hq with hq1 hq2 hq3
    subst hq1 hq3;clear hq2;have d0:wr.cell? ⟨q,k,none⟩=some (.pointer (some ⟨bs k,0,none⟩)):=qc j ((HROW.out.own.cellAt k (by omega)).trans (zcL hlt)) hql;obtain ⟨ha1,_,_⟩:=HAS.out k a ha;have HLK:=hid (show (H.accs.take k).length=k by rw[List.length_take,←HN.out];omega);obtain ⟨bs2,ms2,r,has2⟩:=p.accs;have t:RowAt wr (fun b=>Tk b=.accs) 136 1 vk k (ptrs bs2 k):=by
     have B:=r;rw[show ({H with accs:=H.accs.take k,lots:=[]}:House).accs.length=k from HLK.out] at B;exact B
    obtain ⟨A2,c2,hv2⟩:=t.form;subst hv2;have O:=hid t;have HAS2:=hid has2;have HAC:=hid (ha1.grow (j.trans (bR.drew)));have C:=hid p;have HTK:=hid hTk;have Y:=hid j;have HBK:=hid p.blk;have x1:wr.cell? ⟨f,1,none⟩=some (.slice A2 k c2):=p.blk.cell 1;have xl:=p.blk.lt;have HSK:=hid (show H.accs.take (k+1)=H.accs.take k++[a] from za4 ha);have HOH:=hid (show ¬(Value.slice A2 k c2).ownBlock=some f.heap.size from fun e=>by have h3:=t.blk _ e;rw[p.top] at h3;cases h3);have e5:(0:Int)≤(k:Int):=by omega
    have e6:(k:Int)<(n:Int):=by omega
    have hwr:IntKind.i64.wrap ((k:Int)+1)=(k:Int)+1:=iW _ (by omega);clear p hTk j ha ha1 r t has2 hqR;go_wp2_with fail
    have or1:=HOH.out;refine zac (Chg (fun b=>(Value.slice A2 k c2).ownBlock=some b) wr) [13] (by kernel_rfl) ((Chg.refl _ wr).grow bR.drew) (fun d=>?_);refine tp 0 d ?_;refine tp 1 d ?_;refine tp 2 d ?_;refine tp 3 d ?_;refine tp 4 d ?_;have qq:=hid fun (w':World) (R:(Chg (fun b=>(Value.slice A2 k c2).ownBlock=some b) wr) w')=>cg R x1 xl or1;refine tl 5 d qq ?_;refine tp 6 d ?_;refine stp 7 fun K y=>?_;go_simp;refine (zoR HAC.out).mono ?_;rintro e W4 ⟨z,ba,ma,rfl,hbb,hmm,hacc⟩;refine y.out _ _ ?_ (fun d=>?_)
    ·exact (Chg.refl _ wr).grow ((Below.refl wr.heap.size wr).drew.trans (z.mono (by simp)))
    clear y K
    try simp only[Act.put,pb,pz,ps]
    have v:=hid ((Below.refl wr.heap.size wr).drew.trans (z.mono (by simp)));have HBB:=hid (show wr.heap.size≤ba from hbb);have HMM:=hid (show wr.heap.size≤ma from hmm);have HACC:=hid hacc;clear z hbb hmm hacc;refine stp 8 fun K y=>?_;go_simp;refine y.out _ _ ?_ (fun d=>?_)
    ·exact ((Chg.refl _ wr).grow v.out).grow (qA _)
    clear y K
    try simp only[Act.put,pb,pz,ps]
    refine stp 9 fun K y=>?_;refine zbR (W4.alloc (.cells #[.pointer (some ⟨ba,0,none⟩)] 136)) (.tmp 60) (.tmp 63) rfl zm1 rfl (.slice A2 k c2) k (ptrs bs2 k) rfl (O.out.grow (v.out.alloc v.out.size _)) (.slice (some ⟨W4,0,none⟩) 1 1) 1 [.pointer (some ⟨ba,0,none⟩)] rfl (Sl.lit1 (Ac.Blk.new W4 136 #[.pointer (some ⟨ba,0,none⟩)]) rfl) (by simp[Value.oneCell']) (by omega) (by unfold maxLen;omega) ?_;intro A3 c3 Z hrZ N;refine y.out _ _ ?_ (fun d=>?_)
    ·exact d.trans N
    clear y K
    try simp only[Act.put,pb,pz,ps]
    have ab:=hid hrZ;have aa:=hid N;have HBZ:=hid (((HBK.out.grow v.out).alloc (.cells #[.pointer (some ⟨ba,0,none⟩)] 136)).chg N HOH.out);clear hrZ N;refine tpD [11,12,13] 10 d ?_;refine tpD [12,13] 11 d ?_;refine tp 12 d ?_;refine stf 13 fun K y=>?_;have f1:=HBZ.out.frozen 1;have z1:=HBZ.out.cell 1;go_simp;refine y.out _ _ ?_;clear y K
    try simp only[Act.put,pb,pz,ps]
    refine zaa (by kernel_rfl) ?_ _;clear x1 or1 d;go_wp2_with fail
    go_roundw
    case rel=>
     obtain ⟨U,hU⟩:=nm (Z.setCell ⟨f,1,none⟩ (.slice A3 (k+1) c3));rw[←hU];have F:Chg (·=f.heap.size) Z U:=by rw[hU];exact Chg.set Z ⟨f,1,none⟩ _
     have hs4:=v.out.size;have hsZ:=aa.out.size;rw[World.size_alloc] at hsZ;have r:=ab.out.chgB F (fun b j e=>by
      rcases ab.out.blk b j with k|k
      ·rw[e,C.out.top] at k;cases k
      ·rw[World.size_alloc] at k;omega)
     have G:Chg (fun b=>(Tk b=.accs∨Tk b=.hs)∧b<wr.heap.size) W4 U:=(((Chg.refl _ W4).grow (qA _)).step aa.out fun b _ e=>⟨.inl (O.out.blk b e),O.out.lt e⟩).step F fun b _ e=>⟨.inr (e▸C.out.top),by omega⟩;obtain ⟨T',hP',hT'⟩:=PH.acc C.out (n:=k) HLK.out.symm HAS2.out v.out HACC.out HBB.out HMM.out
      (r.mono fun b j k=>k.elim (fun k=>.inl ⟨k,Nat.lt_of_not_le fun h=>by have:=C.out.out b h;rw[k] at this;cases this⟩) (fun k=>.inr (by rw[World.size_alloc] at k;omega))) G (by rw[hU];exact HBZ.out.set_ 1 _)
     refine ⟨k+1,T',.slice A3 (k+1) c3,by omega,by go_num,?_,fun b j=>(hT' b (lL j Y.out.size)).trans (HTK.out b j),?_⟩
     ·rw[HSK.out];exact hP'
     ·exact (Y.out.trans (v.out.mono Y.out.size)).trans (G.below (lT Y.out.size hs4) fun b j e=>by
       have B:=HTK.out b j
       rcases e.1 with e|e<;>rw[e] at B<;>split at B<;>cases B)
    case measure=>simp[intOf];omega
   ·obtain rfl:k=n:=by omega
    have L:H.accs.take k=H.accs:=List.take_of_length_le (by have:=HN.out;omega);rw[L] at p;have HPH1:=hid p;have HTK1:=hid hTk;have HBX:=hid j;have Q:=HA.out.grow j;have y2:wr.cell? ⟨h,2,none⟩=some (.slice AL m cl):=by
     have B:=Q.cells.2.2.1;rw[HVL.out] at B;exact B
    clear p hTk j L Q;go_wp2_with fail
    have e7:(0:Int)≤(m:Int):=by omega
    obtain ⟨wo,hwo⟩:=nm (wr);rw[←hwo] at HPH1 HBX ⊢;clear y2 hwo wr
    go_loopw [75] (fun i wr=>∃(q:Nat) (Tq:Nat→Part) (vq:Value),q≤m∧i=.int .i64 q∧PH wr Tq f.heap.size pn' pc' vk vq vb vs K {H with lots:=H.lots.take q}∧(∀b,b<f.heap.size→Tq b=if T b=.old then .old else .no)∧Below f f wr) (fun i _=>m-(intOf i).toNat)
    case atStart=>exact ⟨0,_,_,zL,rfl,HPH1.out,HTK1.out,HBX.out⟩
    case round=>
     obtain ⟨q,Tq,vq,hq,rfl,p,hTq,j⟩:=hrel;by_cases hlq:q<m
     ·obtain ⟨l,hl⟩:∃l,H.lots[q]? =some l:=⟨_,gE (by rw[←HM.out];exact hlq)⟩;obtain ⟨g,gc,hg,_,hgl,_⟩:=HLROW.out.ex (by omega);injection hg with hg1 hg2 hg3
      subst hg1 hg3;clear hg2;have d0:wr.cell? ⟨g,q,none⟩=some (.pointer (some ⟨bl q,0,none⟩)):=qc j ((HLROW.out.own.cellAt q (by omega)).trans (zcL hlq)) hgl;have hla:=HLS.out q l hl;have hLI:=HI.out.lots l (mG hl);obtain ⟨v0,_,hblk0,hst0⟩:=id hla;obtain ⟨sA,sc,hv0⟩:=hst0.form;obtain ⟨LC,hLC⟩:=nm ((l.cells v0).toArray);have hbw:=hblk0.grow j;rw[←hLC] at hbw;have HBW:=hid hbw;have HSZ:=hid (show LC.size=20 by rw[hLC];rfl);have HON:=hid (show LC.all (·.oneCell')=true by rw[hLC,hv0];exact zsP _ _ _ _);have HLK:=hid (show (H.lots.take q).length=q by rw[List.length_take,←HM.out];omega);obtain ⟨bl2,r,hls2⟩:=p.lots;have t:RowAt wr (fun b=>Tq b=.lots) 138 1 vq q (ptrs bl2 q):=by
       have B:=r;rw[show ({H with lots:=H.lots.take q}:House).lots.length=q from HLK.out] at B;exact B
      obtain ⟨Aq,cq,hvq⟩:=t.form;subst hvq;obtain ⟨ns,hns⟩:=nm (l.stands.length);have lg:=p.blk.lt;obtain ⟨wz,hwz⟩:=nm (wr.alloc (.cells zn8 145));have hxz:Ac.Blk wz wr.heap.size 145 zn8:=by rw[hwz];exact Ac.Blk.new _ _ _
      obtain ⟨w2,hw2⟩:=nm (wz.setRow wr.heap.size LC);have hx2:Ac.Blk w2 wr.heap.size 145 LC:=by rw[hw2];exact setRow_heap _ _ _ _ _ _ hxz
      have hb2:Below wr wr w2:=by rw[hw2,hwz];exact below_setRow (qA _) lR _
      have hs2:w2.heap.size=wr.heap.size+1:=by rw[hw2,hwz];simp
      have HCP:=hid (znD (hla.step (T':=T) (Chg.of (fun _=>False) (j.trans (hb2.mono j.size))) (fun _ _=>id) fun _ _=>rfl) (by have B:=hLI.few;have h2:=HN.out;omega) (fun s hs=>by have:=hLI.offs s hs;omega));rw[←hns] at HCP;have HNS:=hid hns;have C:=hid p;have HTQ:=hid hTq;have Y:=hid j;have HB2:=hid hb2;have HX2:=hid hx2;have HXZ:=hid hxz;have HS2:=hid hs2;have O:=hid t;have HLS2:=hid hls2;have HSK:=hid (show H.lots.take (q+1)=H.lots.take q++[l] from za4 hl);have HOH:=hid (show ¬(Value.slice Aq q cq).ownBlock=some f.heap.size from fun e=>by have h3:=t.blk _ e;rw[p.top] at h3;cases h3);have HLC:=hid hLC;have HW2:=hid hw2;have HWZ:=hid hwz;have e5:(0:Int)≤(q:Int):=by omega
      have e6:(q:Int)<(m:Int):=by omega
      have hwr:IntKind.i64.wrap ((q:Int)+1)=(q:Int)+1:=iW _ (by omega);clear p hTq j hl hla hLI hblk0 hst0 hv0 hLC hbw r t hls2 hns hwz hxz hw2 hx2 hb2 hs2
      go_wp2_with (first|(refine wpList_load_row rfl 145 (.tmp 80) rfl (bl q) rfl 145 LC (0,0) _ HBW.out Tryz.underlying145 rfl (by rw[HSZ.out];kernel_rfl) ?_)|(refine wpList_store_row rfl 145 (.tmp 8) (.tmp 81) rfl wr.heap.size LC rfl rfl 145 zn8 (Ac.Blk.new _ _ _) (by rw[HSZ.out];kernel_rfl) (by rw[HSZ.out];rfl) HON.out ?_))
      show Calls Tryz.prog _ _ ((wr.alloc (.cells zn8 145)).setRow wr.heap.size LC) _
      rw[←HWZ.out,←HW2.out];refine HCP.out.mono ?_;rintro e w3 ⟨A2,c2,rfl,hfr,M⟩;have hx3:=HX2.out.grow M;have f14:=hx3.frozen 14;have x14:w3.cell? ⟨wr,14,none⟩=some v0:=(hx3.cell 14).trans (by rw[HLC.out];rfl);have hs2:=HS2.out;have hb13:Below wr wr w3:=HB2.out.trans (M.mono (by omega));obtain ⟨w4,hw4⟩:=nm (w3.setCell ⟨wr,14,none⟩ (.slice A2 ns c2));have hc4:Chg (·=wr.heap.size) w3 w4:=by rw[hw4];exact Chg.set w3 ⟨wr,14,none⟩ _
      have z:Below wr wr w4:=hb13.trans (hc4.below hb13.size fun x hx e=>by omega);have HL4:=hid (show Ac.Blk w4 wr.heap.size 145 (l.cells (.slice A2 ns c2)).toArray by
       have B:=hx3.set_ 14 (.slice A2 ns c2);rw[HLC.out,zpx,←hw4] at B;exact B)
      have HFR4:=hid (show zdh w4 (wr.heap.size+1) (.slice A2 ns c2) l.stands from (hs2▸hfr).set (by omega) hc4);have v:=hid z;have HRW4:=hid (O.out.grow z);have HBK4:=hid (C.out.blk.grow z);have x2:w4.cell? ⟨f,2,none⟩=some (.slice Aq q cq):=HBK4.out.cell 2;clear hfr M hx3 hb13 hc4 z hs2;subst hw4
      go_wp2_with (at_builtin;go_must (refine zby _ (.tmp 90) (.tmp 91) rfl zm2 rfl (.slice Aq q cq) q (ptrs bl2 q) rfl (HRW4.out.grow (qA _)) (.slice (some ⟨w3,0,none⟩) 1 1) 1 [.pointer (some ⟨wr,0,none⟩)] rfl (Sl.lit1 (Ac.Blk.new' 138 #[.pointer (some ⟨wr,0,none⟩)] (by simp[World.setCell])) rfl) (by simp[Value.oneCell']) (by omega) (by unfold maxLen;omega) ?_);intro A3 c3 Z hrZ N;have hbZ:=(HBK4.out.alloc (.cells #[.pointer (some ⟨wr,0,none⟩)] 138)).chg N HOH.out;have f2:=hbZ.frozen 2;have z2:=hbZ.cell 2;have HBZ:=hid hbZ;have ab:=hid hrZ;have aa:=hid N;clear hbZ hrZ N)
      go_roundw
      case rel=>
       obtain ⟨w4,hw4⟩:=nm (w3.setCell ⟨wr,14,none⟩ (.slice A2 ns c2));rw[←hw4] at ab aa HL4 HFR4 v HRW4;obtain ⟨U,hU⟩:=nm (Z.setCell ⟨f,2,none⟩ (.slice A3 (q+1) c3));rw[←hU];have F:Chg (·=f.heap.size) Z U:=by rw[hU];exact Chg.set Z ⟨f,2,none⟩ _
       have hs4:=v.out.size;have hsZ:=aa.out.size;rw[World.size_alloc] at hsZ;have r:=ab.out.chgB F (fun b j e=>by
        rcases ab.out.blk b j with k|k
        ·rw[e,C.out.top] at k;cases k
        ·rw[World.size_alloc] at k;omega)
       have G:Chg (fun b=>(Tq b=.lots∨Tq b=.hs)∧b<wr.heap.size) w4 U:=(((Chg.refl _ w4).grow (qA _)).step aa.out fun b _ e=>⟨.inl (O.out.blk b e),O.out.lt e⟩).step F fun b _ e=>⟨.inr (e▸C.out.top),by omega⟩;obtain ⟨T',hP',hT'⟩:=PH.lot C.out (n:=q) HLK.out.symm HLS2.out (l:=l) v.out rfl HL4.out HFR4.out
        (r.mono fun b j k=>k.elim (fun k=>.inl ⟨k,Nat.lt_of_not_le fun h=>by have:=C.out.out b h;rw[k] at this;cases this⟩) (fun k=>.inr (by rw[World.size_alloc] at k;omega))) G (by rw[hU];exact HBZ.out.set_ 2 _)
       refine ⟨q+1,T',.slice A3 (q+1) c3,by omega,by go_num,?_,fun b j=>(hT' b (lL j Y.out.size)).trans (HTQ.out b j),?_⟩
       ·rw[HSK.out];exact hP'
       ·exact (Y.out.trans (v.out.mono Y.out.size)).trans (G.below (lT Y.out.size hs4) fun b j e=>by
         have B:=HTQ.out b j
         rcases e.1 with e|e<;>rw[e] at B<;>split at B<;>cases B)
      case measure=>simp[intOf];omega
     ·obtain rfl:q=m:=by omega
      have L:H.lots.take q=H.lots:=List.take_of_length_le (by have:=HM.out;omega);rw[L] at p;have Q:=HA.out.grow j;have y4:wr.cell? ⟨h,4,none⟩=some vb:=Q.cells.2.2.2.2.1;have y5:wr.cell? ⟨h,5,none⟩=some vs:=Q.cells.2.2.2.2.2.1;have lh:=Q.cells.2.2.2.2.2.2;have S:h≠f.heap.size:=HNO.out h _ HA.out.top (by simp);obtain ⟨vo,hbr,hbo⟩:=HA.out.book;have hof:∀k o,H.book[k]? =some o→zad f (fun b=>T b=.old) (vo k) o.offers:=fun k o hk=>hbo k o.offers (by rw[List.getElem?_map,hk];rfl);have HONE:=hid (zjD (vo:=vo) fun k o hk=>zfH (hof k o hk));have HOFS:=hid (show ∀k o,H.book[k]? =some o→zad wr (fun b=>Tq b=.old∧b<wr.heap.size) (vo k) o.offers from fun k o hk=>zad.grow (zad.mono (hof k o hk) fun b hb1 hr=>⟨by rw[hTq b hb1,if_pos hr],lL hb1 j.size⟩) j);have HBR:=hid (hbr.grow j);have HSR:=hid (HA.out.sales.grow j);have HPH2:=hid p;have HTQ:=hid hTq;have Y:=hid j;have HBK:=hid p.blk;have HSB:=hid (show H.sales.length≤1000000 from by
       have B:=HI.out.sales;have h2:zcq H.lots≤H.lots.length:=List.countP_le_length;have h3:=HI.out.llen
       omega)
      have hgc:=p.blk.lt;clear p hTq j L Q hbr hbo hof;go_wp2_with fail
      refine zac (Chg (·=f.heap.size) wr) [] (by kernel_rfl) ((Chg.refl _ wr).grow bR.drew) (fun d=>?_);refine tp 0 d ?_;refine tp 1 d ?_;refine tp 2 d ?_;refine tp 3 d ?_;refine tp 4 d ?_;refine tp 5 d ?_;have qq:=hid fun (w':World) (R:(Chg (·=f.heap.size) wr) w')=>And.intro (cg R y4 lh S)<|cg R y5 lh S;refine tl 6 d qq ?_;refine tp 8 d ?_;refine tp 9 d ?_;refine tp 10 d ?_;refine tp 11 d ?_;refine tl 12 d qq ?_;refine stp 7 fun K y=>?_;go_simp;refine (zlz H.book vo HONE.out vb _ wr.drew (HBR.out.grow bR.drew).sl HBC.out).mono ?_;rintro e W3 ⟨A4,c4,rfl,hr4,z⟩;refine y.out _ _ ?_ (fun d=>?_)
      ·exact (Chg.refl _ wr).grow ((Below.refl wr.heap.size wr).drew.trans (z.mono (by simp)))
      clear y K
      try simp only[Act.put,pb,pz,ps]
      have HR4:=hid hr4;have v:=hid ((Below.refl wr.heap.size wr).drew.trans (z.mono (by simp)));clear hr4 z;refine stp 13 fun K y=>?_;go_simp;refine (zh4 H.sales vs _ W3 (HSR.out.grow v.out).sl HSB.out).mono ?_;rintro e W5 ⟨A5,c5,rfl,hr5,D⟩;refine y.out _ _ ?_ (fun d=>?_)
      ·exact ((Chg.refl _ wr).grow v.out).grow D
      clear y K
      try simp only[Act.put,pb,pz,ps]
      have HR5:=hid hr5;have HB5:=hid D;have J:=hid ((HBK.out.grow v.out).grow D);clear hr5 D;refine tp 14 d ?_;refine tp 15 d ?_;refine tp 16 d ?_;refine stp 17 fun K y=>?_;have f4:=J.out.frozen 4;have z4:W5.cell? ⟨f,4,none⟩=some vb:=J.out.cell 4;go_simp;refine y.out _ _ ?_ (fun d=>?_)
      ·exact d.trans (Chg.set W5 ⟨f,4,none⟩ _)
      clear y K
      try simp only[Act.put,pb,pz,ps]
      refine tp 18 d ?_;refine tp 19 d ?_;refine tp 20 d ?_;refine stp 21 fun K y=>?_;have f5:=(J.out.set_ 4 (.slice A4 H.book.length c4)).frozen 5;have z5:=(J.out.set_ 4 (.slice A4 H.book.length c4)).cell 5;go_simp;refine y.out _ _ ?_ (fun d=>?_)
      ·exact d.trans (Chg.set _ ⟨f,5,none⟩ _)
      clear y K
      try simp only[Act.put,pb,pz,ps]
      refine zaa (by kernel_rfl) ?_ _;clear y4 y5 S d;go_wp2_with fail
      go_ret;obtain ⟨U,hU⟩:=nm ((W5.setCell ⟨f,4,none⟩ (.slice A4 H.book.length c4)).setCell ⟨f,5,none⟩ (.slice A5 H.sales.length c5));rw[←hU];have F:Chg (·=f.heap.size) W5 U:=by rw[hU];exact (Chg.set W5 ⟨f,4,none⟩ _).trans (Chg.set _ ⟨f,5,none⟩ _)
      have h4:=v.out.size;have h5:=HB5.out.size;have G:Chg (·=f.heap.size) wr U:=(((Chg.refl _ wr).grow v.out).grow HB5.out).trans F;obtain ⟨T',hP,hT'⟩:=PH.done (vo:=vo) HPH2.out G (by rw[hU];exact (J.out.set_ 4 _).set_ 5 _)
       (((HR4.out.mono (R':=fun b=>wr.heap.size≤b) fun b _ k=>k).grow HB5.out).chg F fun b _ k e=>by omega)
       (fun k o hk=>zad.chg (HOFS.out k o hk) G fun b _ hr e=>by have:=hr.1;rw[e,HPH2.out.top] at this;cases this)
       ((HR5.out.mono (R':=fun b=>wr.heap.size≤b) fun b _ k=>by omega).chg F fun b _ k e=>by omega)
       (fun b B h2=>by have h6:=HR4.out.lt B;have h7:=HR5.out.blk b h2;omega)
      exact ⟨f,T',rfl,⟨_,_,_,_,_,_,hP⟩,fun b j=>(hT' b (lL j Y.out.size)).trans (HTQ.out b j),lR,Y.out.trans (G.below Y.out.size fun b j e=>by omega)⟩
end Ho
end Go.Proofs.YtckdpejdnejhfaaGreat

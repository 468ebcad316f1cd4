/- Joined by program. -/
import Derived.Test.YtckdpejdnejhfaaGreatZg
set_option linter.all false
set_option maxRecDepth 100000
set_option maxHeartbeats 32000000
namespace Go.Proofs.YtckdpejdnejhfaaGreat
open Lib (hid)
namespace Ac
open Go.RowKit Go.Shelf Go.Maps Vb
attribute [local go_sem] Oper.semAt_some
theorem AccAt.setSp {W:World} {b m n:Nat} {a:Acc} (h:AccAt W b m n a) (s:Int):AccAt (W.setCell ⟨b,1,none⟩ ↑s) b m n {a with sp:=s}:=
 ⟨h.blk.set_ 1 ↑s,Chg.ownsMap h.own (Chg.set W ⟨b,1,none⟩ ↑s) (fun e=>h.ne e.symm)⟩
theorem AccAt.setBud {W:World} {b m n:Nat} {a:Acc} (h:AccAt W b m n a) (s:Int):AccAt (W.setCell ⟨b,0,none⟩ ↑s) b m n {a with bud:=s}:=
 ⟨h.blk.set_ 0 ↑s,Chg.ownsMap h.own (Chg.set W ⟨b,0,none⟩ ↑s) (fun e=>h.ne e.symm)⟩
def Acc.pay (a:Acc) (x v:Int):Acc:={a.set x 0 with sp:=a.sp+v}
def Acc.take (a:Acc) (v:Int):Acc:={a with sp:=a.sp+v}
def Acc.bring (a:Acc) (v:Int):Acc:={a with bud:=a.bud+v}
theorem ziA {x y:Int} (a:zah x) (b:zah y):IntKind.i64.wrap (x+y)=x+y:=by
 obtain ⟨c,d⟩:=a;obtain ⟨e,f⟩:=b;exact iW _ (by omega)
theorem zqg {b m n j k:Nat} {a:Acc} {w:World} (h:AccAt w b m n a) (r:zah a.sp) {v:Int} (s:zah v) (l:Blk w j 136 #[.pointer (some ⟨b,0,none⟩)]) (o:Blk w k 2 #[v]):
  Calls Tryz.prog 166 #[.pointer (some ⟨j,0,none⟩),.pointer (some ⟨k,0,none⟩)] w fun e w'=>e=.returned (.tuple #[])∧AccAt w' b m n (a.take v)∧Chg (·=b) w w':=by
 have A:w.cell? ⟨j,0,none⟩=some (.pointer (some ⟨b,0,none⟩)):=l.cell 0;have B:w.cell? ⟨k,0,none⟩=some ↑v:=o.cell 0;have z:=ziA r s;obtain ⟨q,g⟩:=nm (a.sp);rw[←g] at z;have x:=hid g;have t:w.cell? ⟨b,1,none⟩=some ↑q:=by rw[g];exact h.blk.cell 1
 have F:w.drew.frozen? ⟨b,1,none⟩=false:=h.blk.frozen 1;have G:w.drew.cell? ⟨b,1,none⟩=some ↑q:=t;have C:=l.lt;have D:=o.lt;have E:=h.blk.lt;have y:=hid (h.setSp (q+v));have i:=hid (show Chg (·=b) w (w.setCell ⟨b,1,none⟩ ↑(q+v:Int)).drew from (Chg.set w ⟨b,1,none⟩ ↑(q+v:Int)).grow bR.drew);clear h r s l o g;go_enter Tryz.func166,Tryz.ntmps166
 try go_wp2_with fail
 refine zac (Below w w) [8] (by kernel_rfl) (bR.drew) (fun c=>?_);have p:=hid fun (w':World) (d:(Below w w) w')=>And.intro (qc d A C)<|And.intro (qc d B D)<|qc d t E;refine tl 0 c p ?_;refine tp 1 c ?_;refine tp 2 c ?_;refine tl 3 c p ?_;refine tl 4 c p ?_;refine tp 5 c ?_;refine stp 6 fun K f=>?_;go_simp;refine f.out _ _ ?_ (fun c=>?_)
 ·exact c
 clear f K
 try simp only[Act.put,pb,pz,ps]
 refine tp 7 c ?_;refine stf 8 fun K f=>?_;go_simp;refine f.out _ _ ?_;clear f K
 try simp only[Act.put,pb,pz,ps]
 refine zaa (by kernel_rfl) ?_ _;go_wp2_with fail
 go_end0
 exact ⟨rfl,by unfold Acc.take;rw[←x.out];exact y.out.grow bR.drew,i.out⟩
theorem znw {g:Nat} {v:Int} {w:World} (h:Blk w g 2 #[v]):Calls Tryz.prog 138 #[.pointer (some ⟨g,0,none⟩)] w fun e w'=>e=.returned ↑v∧w'=w:=by
 have a:w.cell? ⟨g,0,none⟩=some ↑v:=h.cell 0;clear h;go_enter Tryz.func138,Tryz.ntmps138;go_wp2_with fail
 go_ret;exact ⟨rfl,rfl⟩
theorem znx {b m n j k:Nat} {a:Acc} {w:World} (h:AccAt w b m n a) (r:zah a.bud) {v:Int} (s:zah v) (l:Blk w j 136 #[.pointer (some ⟨b,0,none⟩)]) (o:Blk w k 2 #[v]):
  Calls Tryz.prog 139 #[.pointer (some ⟨j,0,none⟩),.pointer (some ⟨k,0,none⟩)] w fun e w'=>e=.returned (.tuple #[])∧AccAt w' b m n (a.bring v)∧Chg (·=b) w w':=by
 have A:w.cell? ⟨j,0,none⟩=some (.pointer (some ⟨b,0,none⟩)):=l.cell 0;have B:w.cell? ⟨k,0,none⟩=some ↑v:=o.cell 0;have z:=ziA r s;obtain ⟨q,g⟩:=nm (a.bud);rw[←g] at z;have x:=hid g;have t:w.cell? ⟨b,0,none⟩=some ↑q:=by rw[g];exact h.blk.cell 0
 have F:w.drew.frozen? ⟨b,0,none⟩=false:=h.blk.frozen 0;have G:w.drew.cell? ⟨b,0,none⟩=some ↑q:=t;have C:=l.lt;have D:=o.lt;have E:=h.blk.lt;have y:=hid (h.setBud (q+v));have i:=hid (show Chg (·=b) w (w.setCell ⟨b,0,none⟩ ↑(q+v:Int)).drew from (Chg.set w ⟨b,0,none⟩ ↑(q+v:Int)).grow bR.drew);clear h r s l o g;go_enter Tryz.func139,Tryz.ntmps139
 try go_wp2_with fail
 refine zac (Below w w) [8] (by kernel_rfl) (bR.drew) (fun c=>?_);have p:=hid fun (w':World) (d:(Below w w) w')=>And.intro (qc d A C)<|And.intro (qc d B D)<|qc d t E;refine tl 0 c p ?_;refine tp 1 c ?_;refine tp 2 c ?_;refine tl 3 c p ?_;refine tl 4 c p ?_;refine tp 5 c ?_;refine stp 6 fun K f=>?_;go_simp;refine f.out _ _ ?_ (fun c=>?_)
 ·exact c
 clear f K
 try simp only[Act.put,pb,pz,ps]
 refine tp 7 c ?_;refine stf 8 fun K f=>?_;go_simp;refine f.out _ _ ?_;clear f K
 try simp only[Act.put,pb,pz,ps]
 refine zaa (by kernel_rfl) ?_ _;go_wp2_with fail
 go_end0
 exact ⟨rfl,by unfold Acc.bring;rw[←x.out];exact y.out.grow bR.drew,i.out⟩
def Acc.takeE (a:Acc) (v:Int):Int:=if ¬zah v then 2 else if a.free<v then 8 else 0
theorem zqh {b m n:Nat} {a:Acc} {w:World} (h:AccAt w b m n a) (G:a.Ok) {v:Int}:
  Calls Tryz.prog 149 #[.pointer (some ⟨b,0,none⟩),v] w fun e w'=>
   (a.takeE v≠0∧e=.returned ↑(a.takeE v:Int)∧Below w w w')∨(a.takeE v=0∧e=.returned ↑()∧AccAt w' b m n (a.take v)∧Chg (·=b) w w'):=by
 obtain ⟨U,g⟩:=nm ((w.alloc (.cells #[.pointer (some ⟨b,0,none⟩)] 136)).alloc (.cells #[v] 2));have o:Below w w U:=by rw[g];exact (qA _).alloc (by simp) _
 have D:Blk U w 136 #[.pointer (some ⟨b,0,none⟩)]:=by rw[g];exact (Blk.new w _ _).alloc _
 have E:Blk U (w.heap.size+1) 2 #[v]:=by rw[g];exact Blk.new' _ _ (by simp)
 have I:=hid g;have r:=hid o;have q:=hid (h.grow o);have l:=zgy q.out true 164 166 #[.pointer (some ⟨b,0,none⟩)] #[] #[.pointer (some ⟨w,0,none⟩),.pointer (some ⟨w.heap.size+1,0,none⟩)] v a.free
  (enters_of Tryz.func164 (by kernel_rfl) rfl) (enters_of Tryz.func166 (by kernel_rfl) rfl) (by rw[Array.append_empty];exact zfc (f:=.live a) ⟨b,m,n,rfl,q.out⟩ G)
  (fun W=>AccAt W b m n (a.take v)∧Chg (·=b) w W) (fun _ d _ W p=>(zqg (q.out.grow p) G.sp d (D.grow p) (E.grow p)).mono fun e w' ⟨J,K,L⟩=>⟨J,K,((Chg.of _ o).grow p).step L fun _ _ h=>h⟩)
 have A:=hid l;obtain ⟨z,C⟩:=nm (a.takeE v);rw[←C];have y:=hid (C.trans (show a.takeE v=if ¬zah v then 2 else if a.free<v then 8 else 0 from rfl));clear h g o D E l C;go_enter Tryz.func149,Tryz.ntmps149;go_wp2_with fail
 rw[←I.out];refine A.out.mono ?_;rintro e M (⟨H,rfl,rfl⟩|⟨_,d,i,rfl,F⟩|⟨_,d,B,rfl,j,k⟩)
 ·have c:=hid (y.out.trans (if_pos (H.resolve_left (by simp))));clear H;go_wp2_with fail
  go_ret;exact .inl ⟨by rw[c.out];decide,by rw[c.out];rfl,r.out⟩
 ·have c:=hid (y.out.trans ((if_neg (fun h=>h d)).trans (if_pos i)));have s:=hid F;clear d i F;go_wp2_with fail
  go_ret;exact .inl ⟨by rw[c.out];decide,by rw[c.out];rfl,r.out.trans (s.out.mono r.out.size)⟩
 ·have c:=hid (y.out.trans ((if_neg (fun h=>h d)).trans (if_neg (by omega))));have t:=hid j;have x:=hid k;clear d B j k;go_wp2_with fail
  go_ret;exact .inr ⟨c.out,rfl,t.out,x.out⟩
abbrev zpo (x:Int):Prop:=-9223372036854775808≤x∧x≤9223372036854775807
def hcells (l:HM):List Value:=l.flatMap fun p=>[.int .i64 p.1,.int .i64 p.2]
theorem zjl:∀(l:HM) (k:Nat) (o:Int×Int),l[k]? =some o→(hcells l)[k*2]? =some ↑o.1
 |[],k,o,h=>by simp at h
 |x::l,0,o,h=>by simp at h;subst h;rfl
 |x::l,k+1,o,h=>by
  have:=zjl l k o (by simpa using h);simp only[hcells,List.flatMap_cons] at*;rw[show (k+1)*2=k*2+2 from by omega]
  simpa using this
theorem zjm:∀(l:HM) (k:Nat) (o:Int×Int),l[k]? =some o→(hcells l)[k*2+1]? =some ↑o.2
 |[],k,o,h=>by simp at h
 |x::l,0,o,h=>by simp at h;subst h;rfl
 |x::l,k+1,o,h=>by
  have:=zjm l k o (by simpa using h);simp only[hcells,List.flatMap_cons] at*;rw[show (k+1)*2+1=k*2+1+2 from by omega]
  simpa using this
def zeA (w:World) (R:Nat→Prop) (v:Value) (l:HM):Prop:=Sl w R v l.length 2 (hcells l)∧∀p∈l,zpo p.1∧zpo p.2
theorem zeA.grow {w w':World} {R:Nat→Prop} {v:Value} {l:HM} (h:zeA w R v l) (hb:Below w w w'):zeA w' R v l:=⟨h.1.grow hb,h.2⟩
theorem zeA.nil (w:World) (R:Nat→Prop):zeA w R (.slice none 0 0) []:=⟨⟨rfl,none,0,rfl,lR,zL,fun h=>absurd h (by decide)⟩,fun p hp=>by cases hp⟩
theorem zeA.at_ {w:World} {R:Nat→Prop} {A:Option Addr} {n c k:Nat} {l:HM} {o:Int×Int} (h:zeA w R (.slice A n c) l) (g:l[k]? =some o):
  ∃b off,A=some ⟨b,off,none⟩∧b<w.heap.size∧w.cell? ⟨b,off+k*2,none⟩=some ↑o.1∧w.cell? ⟨b,off+k*2+1,none⟩=some ↑o.2:=by
 obtain ⟨⟨_,m,p,j,_,_,f⟩,_⟩:=h;injection j with e _ _
 subst e;have i:=(gS.1 g).1;obtain ⟨b,off,e,_,d,a⟩:=f (by omega);exact ⟨b,off,e,d,a _ _ (zjl l k o g),a _ _ (zjm l k o g)⟩
theorem zt5 {w:World} {g n cap sz:Nat} {t:TypeId} {cs:Array Value} (h:Blk w g t cs) (h1:n≤cap) (h2:cap≤maxLen) (h3:cs.size=n*sz):Sl w (fun _=>True) (.slice (some ⟨g,0,none⟩) n cap) n sz cs.toList:=
 ⟨by simpa using h3,some ⟨g,0,none⟩,cap,rfl,h1,h2,fun _=>⟨g,0,rfl,trivial,h.lt,fun j u hj=>by
  rw[show 0+j=j from by omega];exact (h.cell j).trans (by simpa using hj)⟩⟩
def okL:Int→HM→Bool
 |_,[]=>true
 |last,p::r=>(decide (last<p.1)&&decide (1≤p.2)&&decide (zah p.2))&&okL p.1 r
def ofE (bud sp:Int) (l:HM):Int:=if ¬zah bud∨¬zah sp∨okL (-1) l=false then 2 else if bud-sp<zaq l then 8 else 0
theorem zrv {a:Int} {p:Int×Int} {r:HM}:okL a (p::r)=true↔a<p.1∧1≤p.2∧zah p.2∧okL p.1 r=true:=by
 simp[okL,and_assoc]
theorem zkk:∀{last:Int} {l:HM},okL last l=true→zbk l∧∀p∈l,last<p.1∧1≤p.2∧zah p.2
 |last,[],_=>⟨List.Pairwise.nil,fun p hp=>by cases hp⟩
 |last,x::r,h=>by
  obtain ⟨h1,h2,h3,h4⟩:=zrv.1 h;obtain ⟨i1,i2⟩:=zkk h4;refine ⟨List.pairwise_cons.2 ⟨fun p hp=>(i2 p hp).1,i1⟩,fun p hp=>?_⟩
  rcases List.mem_cons.1 hp with rfl|hp
  ·exact ⟨h1,h2,h3⟩
  ·have:=i2 p hp;exact ⟨by omega,this.2⟩
def zdJ (l:HM) (k:Nat):Int:=if k=0 then-1 else match l[k-1]? with|some p=>p.1|none=>-1
theorem zrw {l:HM} {k:Nat} {p:Int×Int} (h:l[k]? =some p):okL (zdJ l k) (l.drop k)=(decide (zdJ l k<p.1)&&decide (1≤p.2)&&decide (zah p.2)&&okL (zdJ l (k+1)) (l.drop (k+1))):=by
 rw[drop_at h];have:zdJ l (k+1)=p.1:=by simp[zdJ,h]
 rw[this]
 rfl
theorem zn1 {l:HM} {k:Nat} {p:Int×Int} (h:l[k]? =some p):zdJ l (k+1)=p.1:=by simp[zdJ,h]
theorem zlW:∀{M:HM} {p:Int×Int},(∀q∈M,q.1<p.1)→zfe p M=M++[p]
 |[],p,_=>rfl
 |y::r,p,h=>by
  have h1:=h y (by simp);have:¬p.1<y.1:=by omega
  simp only[zfe,if_neg this,List.cons_append];rw[zlW fun q a=>h q (by simp[a])]
theorem zrF {l:HM} (e:zbk l) {k:Nat} {p:Int×Int} (h:l[k]? =some p):zfZ (l.take k) p.1 p.2=l.take (k+1):=by
 have a:∀q∈l.take k,q.1<p.1:=by
  intro q b;obtain ⟨i,d,rfl⟩:=List.getElem_of_mem b;simp only[List.length_take] at d;have c:=(gS.1 h);have:=List.pairwise_iff_getElem.1 e i k (by omega) c.1 (by omega);rw[c.2] at this
  simpa using this
 unfold zfZ;rw[zlD fun q b=>by have:=a q b;omega,zlW a,List.take_add_one,h]
 rfl
theorem zqj {l:HM} {k:Nat} {p:Int×Int} (h:l[k]? =some p):l.take (k+1)=l.take k++[p]:=by
 rw[List.take_add_one,h];rfl
theorem zrX {l:HM} {k:Nat} {p:Int×Int} (h:l[k]? =some p):zaq (l.take (k+1))=zaq (l.take k)+p.2:=by
 rw[zqj h,zhx]
theorem ziu {l:HM} (h:∀p∈l,0≤p.2) (k:Nat):0≤zaq (l.take k)∧zaq (l.take k)≤zaq l:=by
 have e:=congrArg zaq (List.take_append_drop k l);rw[zd6] at e;have b:0≤zaq (l.drop k):=zco fun p a=>h p (List.mem_of_mem_drop a);have c:0≤zaq (l.take k):=zco fun p a=>h p (List.mem_of_mem_take a)
 omega
theorem ze0 {bud sp:Int} {l:HM} (h:¬zah bud∨¬zah sp∨okL (-1) l=false):ofE bud sp l=2:=if_pos h
theorem znf {bud sp:Int} {l:HM} (a:zah bud) (b:zah sp) (c:okL (-1) l=true) (h:bud-sp<zaq l):ofE bud sp l=8:=by
 unfold ofE;rw[if_neg (by rintro (h|h|h);exact h a;exact h b;rw[c] at h;cases h),if_pos h]
theorem zpD {bud sp:Int} {l:HM} (a:zah bud) (b:zah sp) (c:okL (-1) l=true) (h:zaq l≤bud-sp):ofE bud sp l=0:=by
 unfold ofE;rw[if_neg (by rintro (h|h|h);exact h a;exact h b;rw[c] at h;cases h),if_neg (by omega)]
theorem zf9 {bud sp:Int} {l:HM} {v:Value} {R:Nat→Prop} {w:World} (h:zeA w R v l):
  Calls Tryz.prog 135 #[bud,sp,v] w fun e w'=>Below w w w'∧
   ((ofE bud sp l≠0∧e=.returned (.tuple #[.pointer none,(ofE bud sp l:Int)]))∨
    (ofE bud sp l=0∧e=.returned (.tuple #[.pointer (some ⟨w.heap.size+1,0,none⟩),()])∧AccAt w' (w.heap.size+1) w.heap.size l.length ⟨bud,sp,l⟩)):=by
 have HL:=hid h;have ac:=hid h.2;obtain ⟨⟨_,A,cap,rfl,hncap,hcap,_⟩,_⟩:=h;unfold maxLen at hcap;have hmm:=@run_makeMap Tryz.prog;by_cases c1:zah bud
 ·by_cases c2:zah sp
  ·have H:=hid c1;have I:=hid c2;have J:=hid (decide_eq_true c1);have Z:=hid (decide_eq_true c2);clear c1 c2;go_enter Tryz.func135,Tryz.ntmps135;go_wp2_with fail
   refine (zaQ bud w).mono ?_;rintro e w1 ⟨rfl,rfl⟩;rw[J.out];go_wp2_with fail
   refine (zaQ sp w1).mono ?_;rintro e j ⟨rfl,rfl⟩;rw[Z.out];go_wp2_with fail
   obtain ⟨U,hU⟩:=nm ((j.alloc (.map #[] 0)).alloc (.cells #[bud,sp,.map (some j.heap.size)] 185));have hB:Below j j U:=by rw[hU];exact (qA _).alloc (by simp) _
   have hA:AccAt U (j.heap.size+1) j.heap.size 0 ⟨bud,sp,[]⟩:=by
    rw[hU];exact ⟨Blk.new' _ _ (by simp),(World.ownsMap_made j _ _ _).alloc _⟩
   rw[←hU];have hs0:U.heap.size=j.heap.size+2:=by rw[hU];simp
   have HB:=hid hB;have HA:=hid hA;clear hU hB hA hmm
   go_loopw [9,29] (fun s i wr=>∃k:Nat,k≤l.length∧i=.int .i64 k∧s=.int .i64 (zdJ l k)∧okL (-1) l=okL (zdJ l k) (l.drop k)∧Below U U wr) (fun _ i _=>l.length-(intOf i).toNat)
   case atStart=>exact ⟨0,zL,rfl,rfl,rfl,bR⟩
   case round=>
    obtain ⟨k,hk,rfl,rfl,a,C⟩:=hrel;by_cases hlt:k<l.length
    ·obtain ⟨o,N⟩:∃o,l[k]? =some o:=⟨_,gE hlt⟩;have ae:=HB.out.trans (C.mono HB.out.size);obtain ⟨bq,off,rfl,hbq,q0,q1⟩:=(HL.out.grow ae).at_ N;have r:=zrw N;have ag:=zn1 N;have hob:=ac.out o (mG N);obtain ⟨⟨S,T⟩,X,Y⟩:=hob;obtain ⟨ol,E⟩:=o;simp only at q0 q1 r ag S T X Y;obtain ⟨la,hla⟩:=nm (zdJ l k);rw[←hla] at a r ⊢;have d:=hid a;have t:=hid r;have HSL:=hid ag;have HBB:=hid C;have g:=hid ae;have hsz:=C.size;clear a r ag C ae hla N;by_cases t1:ol≤la
     ·have c:=hid (ze0 (bud:=bud) (sp:=sp) (.inr (.inr (d.out.trans (t.out.trans (by simp;omega))))));go_wp2_with fail
      refine bodyPost_ret (v:=.tuple #[.pointer none,(2:Int)]) (by simp[results,Tryz.results135,go_sem]) rfl ⟨g.out.alloc (by have:=g.out.size;omega) _,.inl ⟨by rw[c.out];decide,by rw[c.out]⟩⟩
     ·by_cases t2:E<1
      ·have c:=hid (ze0 (bud:=bud) (sp:=sp) (.inr (.inr (d.out.trans (t.out.trans (by simp;omega))))));go_wp2_with fail
       refine bodyPost_ret (v:=.tuple #[.pointer none,(2:Int)]) (by simp[results,Tryz.results135,go_sem]) rfl ⟨g.out.alloc (by have:=g.out.size;omega) _,.inl ⟨by rw[c.out];decide,by rw[c.out]⟩⟩
      ·by_cases t3:zah E
       ·have HD:=hid (decide_eq_true t3);have n:=hid (show okL (-1) l=okL (zdJ l (k+1)) (l.drop (k+1)) from d.out.trans (t.out.trans (by simp[t3];omega)));clear t3;go_wp2_with fail
        refine (zaQ E _).mono ?_;rintro e w5 ⟨rfl,rfl⟩;rw[HD.out];go_wp2_with fail
        go_roundw
        case rel=>exact ⟨k+1,by omega,by go_num,by rw[HSL.out],n.out,HBB.out.alloc (by omega) _⟩
        case measure=>simp[intOf];omega
       ·have HD:=hid (decide_eq_false t3);have c:=hid (ze0 (bud:=bud) (sp:=sp) (.inr (.inr (d.out.trans (t.out.trans (by simp[t3]))))));clear t3;go_wp2_with fail
        refine (zaQ E _).mono ?_;rintro e w5 ⟨rfl,rfl⟩;rw[HD.out];go_wp2_with fail
        refine bodyPost_ret (v:=.tuple #[.pointer none,(2:Int)]) (by simp[results,Tryz.results135,go_sem]) rfl ⟨g.out.alloc (by have:=g.out.size;omega) _,.inl ⟨by rw[c.out];decide,by rw[c.out]⟩⟩
    ·obtain rfl:k=l.length:=by omega
     rw[List.drop_length] at a;have d:=hid (show okL (-1) l=true from a);have g:=hid (HB.out.trans (C.mono HB.out.size));have HAC:=hid (HA.out.grow C);have hsz:=C.size;have hr:=(zkk d.out).1;have hea:=(zkk d.out).2;have HR:=hid hr;have aa:=hid hea;clear a C hr hea HA HB;obtain ⟨wq,hwq⟩:=nm (wr:World);rw[←hwq] at g HAC hsz ⊢;clear hwq;go_wp2_with fail
     go_loopw [53] (fun i wr=>∃k:Nat,k≤l.length∧i=.int .i64 k∧AccAt wr (j.heap.size+1) j.heap.size k ⟨bud,sp,l.take k⟩∧(k=0∨zaq (l.take k)≤bud-sp)∧Below j j wr) (fun i _=>l.length-(intOf i).toNat)
     case atStart=>exact ⟨0,zL,rfl,HAC.out,.inl rfl,g.out⟩
     case round=>
      obtain ⟨k,hk,rfl,M,O,C⟩:=hrel;have htl:=ziu (l:=l) (fun p hp=>(aa.out p hp).2.2.1) k;have a:(Fm.live ⟨bud,sp,l.take k⟩).Ok:=by
       refine ⟨H.out,I.out,HR.out.sublist (List.take_sublist _ _),fun p hp=>?_,?_⟩
       ·have h1:=aa.out p (List.mem_of_mem_take hp);exact ⟨by omega,(ac.out p (List.mem_of_mem_take hp)).1.2,h1.2.1⟩
       ·rcases O with rfl|h
        ·simp[zaq]
        ·have:=H.out.2;have:=I.out.1
         show zaq (l.take k)≤_
         omega
      by_cases hlt:k<l.length
      ·obtain ⟨o,N⟩:∃o,l[k]? =some o:=⟨_,gE hlt⟩;obtain ⟨bq,off,rfl,hbq,q0,q1⟩:=(HL.out.grow C).at_ N;have af:=zrF HR.out N;have r:=zrX N;have hle:=(ziu (l:=l) (fun p hp=>(aa.out p hp).2.2.1) (k+1)).2;obtain ⟨⟨S,T⟩,X,Y⟩:=ac.out o (mG N);obtain ⟨ol,E⟩:=o;simp only at q0 q1 af r S T X Y;have HPT:=hid af;have t:=hid r;have HLE:=hid hle;have P:=hid M;have n:=hid a;have G:=hid C;have HSM:=hid O;clear af r hle M a C O htl N;go_wp2_with fail
       obtain ⟨V,hV⟩:=nm (wr.alloc (.cells #[ol,E] 272));have hx:Blk V wr 272 #[ol,E]:=by rw[hV];exact Blk.new wr _ _
       have ad:Below wr wr V:=by rw[hV];exact qA _
       rw[←hV];clear hV;have HX:=hid hx;have D:=hid (G.out.trans (ad.mono G.out.size));have HAV:=hid (P.out.grow ad);have x0:V.cell? ⟨wr,0,none⟩=some ↑ol:=hx.cell 0;have x1:V.cell? ⟨wr,1,none⟩=some ↑E:=hx.cell 1;have lx:=hx.lt;obtain ⟨fr,z⟩:=nm ((Fm.live ⟨bud,sp,l.take k⟩).free);have q:fr=bud-sp-zaq (l.take k):=z;have ab:=hid z;have m:=hid q;clear hx ad z q q0 q1;refine zac (Below V V) [] (by kernel_rfl) (bR.drew) (fun B=>?_);refine tp 0 B ?_;have qq:=hid fun (w':World) (L:(Below V V) w')=>qc L x1 lx;refine tl 1 B qq ?_;refine tp 2 B ?_;refine stp 3 fun K hK=>?_;go_simp;refine (zfc (f:=.live ⟨bud,sp,l.take k⟩) (w:=V.drew) ⟨_,_,_,rfl,HAV.out.grow bR.drew⟩ n.out).mono ?_;rintro e F ⟨rfl,y⟩;rw[←ab.out];refine hK.out _ _ ?_ (fun B=>?_)
       ·exact (Below.refl V.heap.size V).drew.trans (y.mono (by simp))
       clear hK K
       try simp only[Act.put,pb,pz,ps]
       have b:=hid ((Below.refl V.heap.size V).drew.trans (y.mono (by simp)));clear y;refine tp 4 B ?_;refine zaa (by kernel_rfl) ?_ _;by_cases hgt:fr<E
       ·have c:=hid (znf H.out I.out d.out (by have:=m.out;have:=t.out;have:=HLE.out;omega));go_wp2_with fail
        refine bodyPost_ret (v:=.tuple #[.pointer none,(8:Int)]) (by simp[results,Tryz.results135,go_sem]) rfl ⟨D.out.trans (b.out.mono D.out.size),.inl ⟨by rw[c.out];decide,by rw[c.out]⟩⟩
       ·have HLEF:=hid (show E≤fr by omega);have y0:F.cell? ⟨wr,0,none⟩=some ↑ol:=qc b.out x0 lx;have y1:F.cell? ⟨wr,1,none⟩=some ↑E:=qc b.out x1 lx;have Q:=HAV.out.grow b.out;have y2:F.cell? ⟨j.heap.size+1,2,none⟩=some (.map (some j.heap.size)):=Q.blk.cell 2;have lx7:=b.out.size;have la7:=Q.blk.lt;obtain ⟨W8,hrun,hA8,hC8⟩:=(Q.grow (Below.refl F.heap.size F).drew).put (by unfold maxLen;omega) (x:=ol) (v:=E) ⟨S,T⟩ ⟨X,Y⟩;have hb8:Below j j W8:=(D.out.trans (b.out.mono D.out.size)).trans (((Below.refl F.heap.size F).drew.mono (by have:=D.out.size;have:=b.out.size;omega)).trans (hC8.below (by have:=D.out.size;have:=b.out.size;simp;omega) (fun k hk e=>by omega)));have HA8:=hid hA8;have HB8:=hid hb8;clear Q hA8 hC8 hb8;go_wp2_with fail
        refine zac (Below F F) [8] (by kernel_rfl) (bR.drew) (fun B=>?_);refine tp 0 B ?_;refine tp 1 B ?_;refine tp 2 B ?_;have qq:=hid fun (w':World) (L:(Below F F) w')=>And.intro (qc L y0 (by simp;omega))<|And.intro (qc L y1 (by simp;omega))<|qc L y2 la7;refine tl 3 B qq ?_;refine tp 4 B ?_;refine tl 5 B qq ?_;refine tp 6 B ?_;refine tl 7 B qq ?_;refine stf 8 fun K hK=>?_;go_simp;refine hK.out _ _ ?_;clear hK K
        try simp only[Act.put,pb,pz,ps]
        refine zaa (by kernel_rfl) ?_ _;go_wp2_with fail
        go_roundw
        case rel=>
         refine ⟨k+1,by omega,by go_num,?_,.inr (by have:=m.out;have:=t.out;have:=HLEF.out;omega),HB8.out⟩;have:=HA8.out;simp only[HPT.out] at this;exact this
        case measure=>simp[intOf];omega
      ·obtain rfl:k=l.length:=by omega
       rw[List.take_length] at M a O;obtain ⟨fr,z⟩:=nm ((Fm.live ⟨bud,sp,l⟩).free);have q:fr=bud-sp-zaq l:=z;have ab:=hid z;have m:=hid q;have P:=hid M;have n:=hid a;have G:=hid C;clear M a C O htl z q;go_wp2_with fail
       refine (zfc (f:=.live ⟨bud,sp,l⟩) ⟨_,_,_,rfl,P.out⟩ n.out).mono ?_;rintro e F ⟨rfl,y⟩;rw[←ab.out];have b:=hid (G.out.trans (y.mono G.out.size));have HA7:=hid (P.out.grow y);clear y;by_cases hlt0:fr<0
       ·have c:=hid (znf H.out I.out d.out (by have:=m.out;omega));go_wp2_with fail
        refine bodyPost_ret (v:=.tuple #[.pointer none,(8:Int)]) (by simp[results,Tryz.results135,go_sem]) rfl ⟨b.out,.inl ⟨by rw[c.out];decide,by rw[c.out]⟩⟩
       ·have c:=hid (zpD H.out I.out d.out (by have:=m.out;omega));go_wp2_with fail
        refine bodyPost_ret (v:=.tuple #[.pointer (some ⟨j.heap.size+1,0,none⟩),()]) (by simp[results,Tryz.results135,go_sem]) rfl ⟨b.out,.inr ⟨c.out,rfl,HA7.out⟩⟩
  ·have J:=hid (decide_eq_true c1);have Z:=hid (decide_eq_false c2);have c:=hid (ze0 (bud:=bud) (sp:=sp) (l:=l) (.inr (.inl c2)));clear c1 c2;go_enter Tryz.func135,Tryz.ntmps135;go_wp2_with fail
   refine (zaQ bud w).mono ?_;rintro e w1 ⟨rfl,rfl⟩;rw[J.out];go_wp2_with fail
   refine (zaQ sp w1).mono ?_;rintro e j ⟨rfl,rfl⟩;rw[Z.out];go_wp2_with fail
   refine bodyPost_ret (v:=.tuple #[.pointer none,(2:Int)]) (by simp[results,Tryz.results135,go_sem]) rfl ⟨bR,.inl ⟨by rw[c.out];decide,by rw[c.out]⟩⟩
 ·have J:=hid (decide_eq_false c1);have c:=hid (ze0 (bud:=bud) (sp:=sp) (l:=l) (.inl c1));clear c1;go_enter Tryz.func135,Tryz.ntmps135;go_wp2_with fail
  refine (zaQ bud w).mono ?_;rintro e w1 ⟨rfl,rfl⟩;rw[J.out];go_wp2_with fail
  refine bodyPost_ret (v:=.tuple #[.pointer none,(2:Int)]) (by simp[results,Tryz.results135,go_sem]) rfl ⟨bR,.inl ⟨by rw[c.out];decide,by rw[c.out]⟩⟩
def zob (bud:Int):Int:=if zah bud then 0 else 2
theorem zsZ (bud:Int):ofE bud 0 []=zob bud:=by
 unfold zob;by_cases h:zah bud
 ·rw[if_pos h,zpD h (by decide) rfl (by have:=h.1;simp[zaq];omega)]
 ·rw[if_neg h,ze0 (.inl h)]
def zue (bud:Int):Acc:=⟨bud,0,[]⟩
theorem zsW (bud:Int) (w:World):
  Calls Tryz.prog 115 #[bud] w fun e w'=>Below w w w'∧
   ((¬zah bud∧e=.returned (.tuple #[.pointer none,(2:Int)]))∨
    (zah bud∧e=.returned (.tuple #[.pointer (some ⟨w.heap.size+1,0,none⟩),()])∧AccAt w' (w.heap.size+1) w.heap.size 0 (zue bud))):=by
 have g:=hid (zsZ bud);go_enter Tryz.func115,Tryz.ntmps115;go_wp2_with fail
 refine (zf9 (bud:=bud) (sp:=0) (zeA.nil w (fun _=>True))).mono ?_;rintro e k ⟨b,(⟨a,rfl⟩|⟨a,rfl,i⟩)⟩
 ·have d:=hid b;have f:¬zah bud∧ofE bud 0 []=2:=by
   rw[g.out] at a ⊢;unfold zob at a ⊢;by_cases h:zah bud
   ·rw[if_pos h] at a;exact absurd rfl a
   ·exact ⟨h,if_neg h⟩
  rw[f.2];have c:=hid f.1;clear b a f;go_wp2_with fail
  refine bodyPost_ret (v:=.tuple #[.pointer none,(2:Int)]) (by simp[results,Tryz.results115,go_sem]) rfl ⟨d.out,.inl ⟨c.out,rfl⟩⟩
 ·have d:=hid b;have j:=hid i;have c:=hid (show zah bud from by
   rw[g.out] at a;unfold zob at a;by_cases h:zah bud
   ·exact h
   ·rw[if_neg h] at a;omega)
  clear b a i;go_wp2_with fail
  refine bodyPost_ret (v:=.tuple #[.pointer (some ⟨w.heap.size+1,0,none⟩),()]) (by simp[results,Tryz.results115,go_sem]) rfl ⟨d.out,.inr ⟨c.out,rfl,j.out⟩⟩
theorem zoR {b m n:Nat} {a:Acc} {w:World} (h:AccAt w b m n a):
  Calls Tryz.prog 64 #[.pointer (some ⟨b,0,none⟩)] w fun e w'=>Below w w w'∧∃b' m',e=.returned (.pointer (some ⟨b',0,none⟩))∧w.heap.size≤b'∧w.heap.size≤m'∧AccAt w' b' m' n a:=by
 have t:=hid (show AtP w (.pointer (some ⟨b,0,none⟩)) (.live a) from ⟨b,m,n,rfl,h⟩);have s:=hid (show (Fm.live a).there=true from rfl);have v:w.cell? ⟨b,0,none⟩=some ↑a.bud:=h.blk.cell 0;have x:w.cell? ⟨b,1,none⟩=some ↑a.sp:=h.blk.cell 1;have y:w.cell? ⟨b,2,none⟩=some (.map (some m)):=h.blk.cell 2;have o:=h.blk.lt;have r:=hid h;clear h;go_enter Tryz.func64,Tryz.ntmps64;go_wp2_with fail
 refine (zb1 t.out).mono ?_;rintro e d ⟨rfl,rfl⟩;rw[s.out];go_wp2_with fail
 refine zac (Below d d) [] (by kernel_rfl) (bR.drew) (fun c=>?_);refine tp 0 c ?_;refine tp 1 c ?_;refine tp 2 c ?_;have p:=hid fun (w':World) (g:(Below d d) w')=>And.intro (qc g v o)<|And.intro (qc g x o)<|qc g y o;refine tl 3 c p ?_;refine tp 4 c ?_;refine tp 5 c ?_;refine tp 6 c ?_;refine tl 7 c p ?_;refine tp 8 c ?_;refine tp 9 c ?_;refine tp 10 c ?_;refine tl 11 c p ?_;refine stp 12 fun K j=>?_;go_simp;refine (zkB (r.out.grow (Below.refl d.heap.size d).drew)).mono ?_;rintro e q ⟨rfl,k,i⟩;refine j.out _ _ ?_ (fun c=>?_)
 ·exact (Below.refl d.heap.size d).drew.trans (i.mono (by simp))
 clear j K
 try simp only[Act.put,pb,pz,ps]
 have f:=hid ((Below.refl d.heap.size d).drew.trans (i.mono (by simp)));have l:=hid k;clear i k;refine tp 13 c ?_;refine stp 14 fun K j=>?_;go_simp;refine j.out _ _ ?_ (fun c=>?_)
 ·exact c.alloc f.out.size _
 clear j K
 try simp only[Act.put,pb,pz,ps]
 refine tp 15 c ?_;refine zaa (by kernel_rfl) ?_ _;go_wp2_with fail
 go_ret;exact ⟨f.out.alloc f.out.size _,q.heap.size,d.heap.size,rfl,f.out.size,lR,⟨Blk.new q _ _,l.out.alloc _⟩⟩
end Ac
end Go.Proofs.YtckdpejdnejhfaaGreat

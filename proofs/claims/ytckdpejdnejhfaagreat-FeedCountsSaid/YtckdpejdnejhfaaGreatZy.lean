/- Joined by program. -/
import Derived.Test.YtckdpejdnejhfaaGreatZx
import Derived.Deep.RegionWith
set_option linter.all false
set_option maxRecDepth 100000
set_option maxHeartbeats 32000000
namespace Go.Proofs.YtckdpejdnejhfaaGreat
open Lib (hid)
namespace Vb
open Go.RowKit
theorem zjH (g:Nat→Int) (f:Nat) (left:Int):∀(l:List Off) (p:Nat×Nat),zbL g f left l=some p→∃o,l[p.1]? =some o∧o.g=p.2∧zbW g f left o=true
 |[],p,h=>by simp[zbL] at h
 |o::l,p,h=>by
  unfold zbL at h
  split at h
  ·rename_i hb
   injection h with h
   subst h;exact ⟨o,rfl,rfl,hb⟩
  ·rw[Option.map_eq_some_iff] at h;obtain ⟨q,hq,rfl⟩:=h;obtain ⟨o',h1,h2,h3⟩:=zjH g f left l q hq;exact ⟨o',by simpa using h1,h2,h3⟩
theorem zeC:∀(bs:List (List Off)) (f:Nat) (i:Nat) (c:Int),(choose bs f)[i]? =some c→c=-1∨∃(j:Nat) (l:List Off) (o:Off),c=(j:Int)∧bs[i]? =some l∧l[j]? =some o
 |[],f,i,c,h=>by simp[choose] at h
 |l::bs,f,0,c,h=>by
  simp only[choose,List.getElem?_cons_zero,Option.some.injEq] at h;unfold zdN at h
  cases hp:zbL (W bs) f (W (l::bs) f) l with
  |none=>rw[hp] at h;exact .inl h.symm
  |some p=>
   rw[hp] at h;obtain ⟨o,ho,_,_⟩:=zjH _ _ _ _ _ hp;exact .inr ⟨p.1,l,o,h.symm,rfl,ho⟩
 |l::bs,f,i+1,c,h=>by
  simp only[choose,List.getElem?_cons_succ] at h;exact zeC bs _ i c h
def zb6 (bs:List (List Off)) (i:Nat) (c:Int):Int:=if c<0 then 0 else (((bs[i]?).getD [])[c.toNat]?.map (·.c)).getD 0
def zjG (n:Int) (bs:List (List Off)) (i:Nat) (c:Int):Int:=if c<0 then 0 else zb6 bs i c-(W bs (allOf n)-woW n bs i)
def zcP (n:Int) (bs:List (List Off)):List Int:=(zai n bs).mapIdx fun i c=>zjG n bs i c
theorem zl6 (n:Int) (bs:List (List Off)):(zcP n bs).length=bs.length:=by simp[zcP,zai,zbz]
theorem zpJ {n:Int} {bs:List (List Off)} {i:Nat} {c:Int} (h:(zai n bs)[i]? =some c):(zcP n bs)[i]? =some (zjG n bs i c):=by simp[zcP,h]
theorem zaY {w w':World} {base:Nat} {e:TypeId} {sz n:Nat} {v:Value} {xs:List Value} {a:Option Nat} (h:w.ownsRow base e sz v n xs) (b:w.grownBy w' a) (c:∀g,a=some g→v.ownBlock≠some g):w'.ownsRow base e sz v n xs:=by
 refine h.kept b ?_
 cases hv:v.ownBlock with
 |none=>exact .inl rfl
 |some g=>exact .inr fun e=>c g e.symm hv
theorem own_ne {w:World} {base a:Nat} {e i:TypeId} {sz d n l:Nat} {v v':Value} {xs f:List Value} (h:w.ownsRow base e sz v n xs) (j:w.ownsRow a i d v' l f) (k:e≠i) {g:Nat} (c:v.ownBlock=some g):v'.ownBlock≠some g:=by
 intro b
 rcases h.2 with ⟨rfl,_⟩|⟨g1,cap1,cur1,rfl,_,h1,_⟩
 ·simp[Value.ownBlock] at c
 ·rcases j.2 with ⟨rfl,_⟩|⟨g2,cap2,cur2,rfl,_,h2,_⟩
  ·simp[Value.ownBlock] at b
  ·simp[Value.ownBlock] at c b
   subst c b;rw[h1] at h2;injection h2 with h2
   injection h2 with _ h2
   exact k h2
theorem zeK {w:World} {base:Nat} {e t:TypeId} {sz n g:Nat} {v:Value} {xs:List Value} {cs:Array Value} (h:w.ownsRow base e sz v n xs) (a:Blk w g t cs) (c:e≠t):v.ownBlock≠some g:=by
 intro b
 rcases h.2 with ⟨rfl,_⟩|⟨g1,cap1,cur1,rfl,_,h1,_⟩
 ·simp[Value.ownBlock] at b
 ·simp[Value.ownBlock] at b
  subst b;unfold Blk at a;rw[h1] at a;injection a with a
  injection a with _ a
  exact c a
theorem zjF {P:Program} {kt et:TypeId} {w:World} {base:Nat} {e:TypeId} {sz n b:Nat} {v:Value} {xs:List Value} {Good:Value→Value→Prop} (h:w.ownsRow base e sz v n xs) (f:za3 P kt et w b Good):v.ownBlock≠some b:=by
 intro c
 rcases h.2 with ⟨rfl,_⟩|⟨g1,cap1,cur1,rfl,_,h1,_⟩
 ·simp[Value.ownBlock] at c
 ·simp[Value.ownBlock] at c
  subst c;obtain ⟨g,a,d,_⟩:=f;rw[h1] at d
  cases d
theorem zqJ (n:Int) (bs:List (List Off)) (v:Value) (R:Nat→Prop) (w:World) (S:zav w R v bs) (hi:zaj n bs=0):
  Calls Tryz.prog 277 #[.agg #[n,v]] w fun e w'=>∃A1 c1 A2 c2,e=.returned (.tuple #[.agg #[.slice A1 bs.length c1,(W bs (allOf n):Int),.slice A2 bs.length c2],()])∧
   w'.ownsRow w.heap.size 3 1 (.slice A1 bs.length c1) bs.length (ints (zai n bs))∧w'.ownsRow w.heap.size 2 1 (.slice A2 bs.length c2) bs.length (ints (zcP n bs))∧Below w w w':=by
 obtain ⟨vs,⟨_,A,X,rfl,hnc,hcm,M⟩,hvs⟩:=id S;have HB:=hid S;have HI:=hid hi;have HCS:=hid M;have HVS:=hid hvs;have hl32:=(zaE hi).2.2.1;have HWF:=hid (zhJ S);clear S hi M hvs hcm;go_enter Tryz.func277,Tryz.ntmps277
 go_wp2_with (go_at_call 283;refine (zsN n bs _ R _ ((HB.out.alloc _).alloc _) HI.out).mono ?_;rintro e d ⟨Q,H,b5,b1,b2,mm,rfl,N,hlo1,hmm1,hb1⟩;have y:=hb1.mono (B':=w.heap.size+2) (by simp);have hX:=(zhZ y).1;have L:=(zhZ y).2;have hs1:=y.size;simp at hs1;simp at hmm1;have HX:=hid hX;have HR:=hid L;have HO1:=hid N;have J:=hid hlo1;have HB1:=hid y;clear N hlo1 hb1 y hX L)
 have hP0:Blk ((d.alloc (.cells #[.slice Q bs.length H,(W bs (allOf n):Int)] 381)).alloc (.cells #[.slice Q bs.length H,(W bs (allOf n):Int),.slice none 0 0] 370)) (d.heap.size+1) 370 #[.slice Q bs.length H,(W bs (allOf n):Int),.slice none 0 0]:=by
  have:=Blk.new (d.alloc (.cells #[.slice Q bs.length H,(W bs (allOf n):Int)] 381)) 370 #[.slice Q bs.length H,(W bs (allOf n):Int),.slice none 0 0]
  rwa [World.size_alloc] at this
 have hlt5:=World.block_lt_of_cell? _ _ J.out.c5;have hltb:=World.block_lt_of_cell? _ _ J.out.x0;have hltc:=World.block_lt_of_cell? _ _ J.out.w1;have hltm:=J.out.map.lt;simp only at hlt5 hltb hltc
 go_loopw [29] (fun i wr=>∃(k:Nat) (B:Option Addr) (b:Nat),k≤bs.length∧i=.int .i64 k∧LostAt wr (w.heap.size+2) b5 b1 b2 mm n (.slice A bs.length X) bs∧
   Blk wr (d.heap.size+1) 370 #[.slice Q bs.length H,(W bs (allOf n):Int),.slice B k b]∧wr.ownsRow (d.heap.size+2) 2 1 (.slice B k b) k (ints ((zcP n bs).take k))∧
   wr.ownsRow (w.heap.size+2) 3 1 (.slice Q bs.length H) bs.length (ints (zai n bs))∧Blk wr w 368 #[n,.slice A bs.length X]∧
   Blk wr (w.heap.size+1) 370 #[.slice none 0 0,(),.slice none 0 0]∧Below w w wr∧d.heap.size+2≤wr.heap.size)
  (fun i _=>bs.length-(intOf i).toNat)
 case atStart=>
  refine ⟨0,none,0,zL,rfl,?_,hP0,World.ownsRow_nil _ _ _ _,?_,(HX.out.alloc _).alloc _,(HR.out.alloc _).alloc _,?_,by simp⟩
  ·simpa using (J.out.alloc _).alloc _
  ·simpa using (HO1.out.alloc _).alloc _
  ·exact (((((qA _).alloc (by simp) _).trans (HB1.out.mono (by omega))).alloc (by omega) _).alloc (by simp;omega) _)
 case round=>
  obtain ⟨k,B,b,hk,rfl,Y,hP,q,G,hX,L,F,hsz⟩:=hrel;have t:=hid Y;have HP:=hid hP;have Z:=hid q;have HC:=hid G;have HX2:=hid hX;have HR2:=hid L;have T:=hid F;clear hP0;by_cases hlt:k<bs.length
  ·obtain ⟨c,hc⟩:∃c,(zai n bs)[k]? =some c:=⟨_,gE (by rw[zai,zbz];exact hlt)⟩;have O:=zpJ hc;obtain ⟨gC,capC,hAC,hgC,hgC2⟩:=World.ownsRow.form G (by omega);injection hAC with hAC _ hcC
   subst hAC hcC;have hcc:wr.cell? ⟨gC,k,none⟩=some ↑(c:Int):=by
    have K:=G.cellAt k (by omega);rw[K]
    simp[ints,hc]
   rcases zeC bs (allOf n) k c hc with rfl|⟨j,l,o,rfl,S,ho⟩
   ·have z:zjG n bs k (-1)=0:=rfl;rw[z] at O;have V:=hid O;clear Y hP q G hX L F O hc z;have g2:wr.cell? ⟨d.heap.size+1,2,none⟩=some (.slice B k b):=(HP.out.cell 2);have g2a:=za9 g2 (.cells #[()] 2);have hszt:d.heap.size+2≤wr.heap.size:=hsz
    go_wp2_with (at_builtin;refine zbj _ rfl (.tmp 50) (.tmp 52) zg7 rfl (d.heap.size+2) (.slice B k b) k (ints ((zcP n bs).take k)) rfl (Z.out.alloc _) _ _ 1 _ rfl (Sl.new wr #[()] _ 1 1 (by unfold maxLen;omega) rfl) (by simp[Value.oneCell']) (by omega) (by unfold maxLen;omega) (by simp;omega) ?_;intro A3 x w3 m C D;have r:Blk w3 (d.heap.size+1) 370 #[.slice (some ⟨gC,0,none⟩) bs.length H,(W bs (allOf n):Int),.slice B k b]:=(HP.out.alloc _).grown C (fun e=>by have:=(Z.out.lt _ e.symm).1;omega);have k0:w3.cell? ⟨d.heap.size+1,2,none⟩=some (.slice B k b):=r.cell 2;have k1:=r.frozen 2;have I:=hid r;have f:=hid C;have HO3:=hid m;clear r C m D)
    go_roundw
    case rel=>
     have s:∀g,(Value.slice B k b).ownBlock=some g→d.heap.size+2≤g:=fun g e=>(Z.out.lt g e).1;have hs3:=f.out.size
     simp at hs3
     refine ⟨k+1,A3,x,by omega,by go_num,?_,I.out.set_ 2 _,?_,?_,?_,?_,?_,by simp[World.setCell];omega⟩
     ·exact ((t.out.alloc _).far f.out (fun g e=>by have:=s g e;omega)).far (grownBy_setCell _ ⟨d.heap.size+1,2,none⟩ _) (fun g e=>by simp at e;omega)
     ·have K:=ownsRow_setCell_below HO3.out (a:=⟨d.heap.size+1,2,none⟩) (by simp) (.slice A3 (k+1) x);rw[List.take_add_one,V.out]
      simpa [ints] using K
     ·have K:=zaY (HC.out.alloc (.cells #[()] 2)) f.out (fun g e=>own_ne (Z.out.alloc (.cells #[()] 2)) (HC.out.alloc (.cells #[()] 2)) (by decide) e);exact zaY K (grownBy_setCell _ ⟨d.heap.size+1,2,none⟩ _) (fun g e=>by simp at e;subst e;exact zeK K I.out (by decide))
     ·exact (((HX2.out.alloc _).grown f.out (fun e=>by have:=s _ e.symm;omega)).far (p:=⟨d.heap.size+1,2,none⟩) (by simp;omega) _)
     ·exact (((HR2.out.alloc _).grown f.out (fun e=>by have:=s _ e.symm;omega)).far (p:=⟨d.heap.size+1,2,none⟩) (by simp;omega) _)
     ·exact ((T.out.alloc (by omega) _).grown f.out (by simp;omega) (fun g e=>by have:=s g e;omega)).setCell (p:=⟨d.heap.size+1,2,none⟩) (by simp;omega) _
    case measure=>simp[intOf];omega
   ·have V:=hid O;obtain ⟨hw0,hw1⟩:=zmp HWF.out HI.out k;have hok:=(zfi HWF.out HI.out).1;have hW0:=zdr bs (allOf n);have hW1:W bs (allOf n)≤35184372088832:=by simpa using hok.W_le 0 (allOf n)
    obtain ⟨ho1,ho2,ho3,ho4⟩:=hok.offer S ho;have z:zjG n bs k (j:Int)=o.c-(W bs (allOf n)-woW n bs k):=by
     unfold zjG zb6;rw[if_neg (by omega),if_neg (by omega),S]
     simp[ho]
    have hl8:=hok.len S;have hjl:j<l.length:=(gS.1 ho).1;obtain ⟨bq,off,rfl,_,hbq,M⟩:=HCS.out (by omega);obtain ⟨u,hu,hol⟩:=HVS.out k l S;have cl:=(F.cell hbq).trans (M k u hu);obtain ⟨⟨_,A1,cap1,rfl,hnc1,_,E⟩,_⟩:=hol;obtain ⟨b1',P,rfl,_,hb1',E⟩:=E (by omega);have co:wr.cell? ⟨b1',P+j*2+1,none⟩=some ↑o.c:=(F.cell hb1').trans (E _ _ (Off.all_snd l j o ho));have cx:wr.cell? ⟨w,1,none⟩=some (.slice (some ⟨bq,off,none⟩) bs.length X):=hX.cell 1;have hsub:IntKind.i64.wrap (o.c-(W bs (allOf n)-woW n bs k))=o.c-(W bs (allOf n)-woW n bs k):=iW _ (by omega);have hk0:(0:Int)≤(k:Int):=by omega
    have hk1:(k:Int)<(bs.length:Int):=by omega
    have hj0:(0:Int)≤(j:Int):=by omega
    have hj1:(j:Int)<(l.length:Int):=by omega
    have HPAY:=hid z;have HCX:=hid cx;have HCL:=hid cl;have HCO:=hid co;clear Y hP q G hX L F O hc z M E hu S ho;go_wp2_with fail
    go_region_held3 (fun w'=>w'.cell? ⟨w,1,none⟩=some (.slice (some ⟨bq,off,none⟩) bs.length X)∧w'.cell? ⟨bq,off+k,none⟩=some (.slice (some ⟨b1',P,none⟩) l.length cap1)∧w'.cell? ⟨b1',P+j*2+1,none⟩=some ↑o.c) (go_keep)
     ((go_at_call 287;refine (zqN _ b5 b1 b2 mm n _ bs k hlt _ t.out.drew).mono ?_;rintro e w5 ⟨rfl,hl5,h⟩;have z0:=t.out.drew.keep h (show wr.drew.cell? _=_ from HCX.out);have z1:=t.out.drew.keep h (show wr.drew.cell? _=_ from HCL.out);have z2:=t.out.drew.keep h (show wr.drew.cell? _=_ from HCO.out);have z3:=t.out.drew.keep h (show wr.drew.cell? _=_ from hcc)))
    have hsz5:d.heap.size+2≤w5.heap.size:=lT hsz h.size;have HL5:=hid hl5;have HP5:=hid (HP.out.drew.grown h (fun e=>by injection e with e;omega));have U:=hid (zaY (show wr.drew.ownsRow _ _ _ _ _ _ from Z.out) h (fun g e=>by injection e with e;subst e;exact zjF Z.out t.out.map));have HC5:=hid (zaY (show wr.drew.ownsRow _ _ _ _ _ _ from HC.out) h (fun g e=>by injection e with e;subst e;exact zjF HC.out t.out.map));have HX5:=hid (HX2.out.drew.grown h (fun e=>by injection e with e;omega));have HR5:=hid (HR2.out.drew.grown h (fun e=>by injection e with e;omega));have HB5:=hid (T.out.drew.grown h (by have:=T.out.size;simpa using this) (fun g e=>by injection e with e;omega));rw[HPAY.out] at V;clear hl5 h hsub;have g2:w5.cell? ⟨d.heap.size+1,2,none⟩=some (.slice B k b):=(HP5.out.cell 2);have g2a:=za9 g2 (.cells #[(o.c-(W bs (allOf n)-woW n bs k):Int)] 2);have hszt:d.heap.size+2≤w5.heap.size:=hsz5
    go_wp2_with (at_builtin;refine zbj _ rfl (.tmp 50) (.tmp 52) zg7 rfl (d.heap.size+2) (.slice B k b) k (ints ((zcP n bs).take k)) rfl (U.out.alloc _) _ _ 1 _ rfl (Sl.new w5 #[(o.c-(W bs (allOf n)-woW n bs k):Int)] _ 1 1 (by unfold maxLen;omega) rfl) (by simp[Value.oneCell']) (by omega) (by unfold maxLen;omega) (by simp;omega) ?_;intro A3 x w3 m C D;have r:Blk w3 (d.heap.size+1) 370 #[.slice (some ⟨gC,0,none⟩) bs.length H,(W bs (allOf n):Int),.slice B k b]:=(HP5.out.alloc _).grown C (fun e=>by have:=(U.out.lt _ e.symm).1;omega);have k0:w3.cell? ⟨d.heap.size+1,2,none⟩=some (.slice B k b):=r.cell 2;have k1:=r.frozen 2;have I:=hid r;have f:=hid C;have HO3:=hid m;clear r C m D)
    go_roundw
    case rel=>
     have s:∀g,(Value.slice B k b).ownBlock=some g→d.heap.size+2≤g:=fun g e=>(U.out.lt g e).1;have hs3:=f.out.size
     simp at hs3
     refine ⟨k+1,A3,x,by omega,by go_num,?_,I.out.set_ 2 _,?_,?_,?_,?_,?_,by simp[World.setCell];omega⟩
     ·exact ((HL5.out.alloc _).far f.out (fun g e=>by have:=s g e;omega)).far (grownBy_setCell _ ⟨d.heap.size+1,2,none⟩ _) (fun g e=>by simp at e;omega)
     ·have K:=ownsRow_setCell_below HO3.out (a:=⟨d.heap.size+1,2,none⟩) (by simp) (.slice A3 (k+1) x);rw[List.take_add_one,V.out]
      simpa [ints] using K
     ·have K:=zaY (HC5.out.alloc (.cells #[(o.c-(W bs (allOf n)-woW n bs k):Int)] 2)) f.out (fun g e=>own_ne (U.out.alloc (.cells #[(o.c-(W bs (allOf n)-woW n bs k):Int)] 2)) (HC5.out.alloc (.cells #[(o.c-(W bs (allOf n)-woW n bs k):Int)] 2)) (by decide) e);exact zaY K (grownBy_setCell _ ⟨d.heap.size+1,2,none⟩ _) (fun g e=>by simp at e;subst e;exact zeK K I.out (by decide))
     ·exact (((HX5.out.alloc _).grown f.out (fun e=>by have:=s _ e.symm;omega)).far (p:=⟨d.heap.size+1,2,none⟩) (by simp;omega) _)
     ·exact (((HR5.out.alloc _).grown f.out (fun e=>by have:=s _ e.symm;omega)).far (p:=⟨d.heap.size+1,2,none⟩) (by simp;omega) _)
     ·exact ((HB5.out.alloc (by omega) _).grown f.out (by simp;omega) (fun g e=>by have:=s g e;omega)).setCell (p:=⟨d.heap.size+1,2,none⟩) (by simp;omega) _
    case measure=>simp[intOf];omega
  ·obtain rfl:k=bs.length:=by omega
   have p0:=hP.cell 0;have p1:=hP.cell 1;have p2:=hP.cell 2;have r0:=L.cell 0;have r1:=L.cell 1;have r2:=L.cell 2;have rf:=L.frozen
   simp at p0 p1 p2 r0 r1 r2
   have htk:(zcP n bs).take bs.length=zcP n bs:=List.take_of_length_le (by rw[zl6];exact lR);rw[htk] at q;have Z:=hid q;clear Y hP q G hX F htk;have hq:=((HR2.out.set_ 0 (.slice Q bs.length H)).set_ 1 ↑(W bs (allOf n):Int)).set_ 2 (.slice B bs.length b);have q0:=hq.cell 0;have q1:=hq.cell 1;have q2:=hq.cell 2
   simp at q0 q1 q2
   clear hq L;go_wp2_with fail
   refine bodyPost_ret (v:=.tuple #[.agg #[.slice Q bs.length H,(W bs (allOf n):Int),.slice B bs.length b],()]) (by simp[results,Tryz.results277,go_sem,q0,q1,q2]) rfl ⟨Q,H,B,b,rfl,?_,?_,?_⟩
   ·exact zbH (ownsRow_setCell_below (ownsRow_setCell_below (ownsRow_setCell_below HC.out (a:=⟨w.heap.size+1,0,none⟩) (by simp) _) (a:=⟨w.heap.size+1,1,none⟩) (by simp) _) (a:=⟨w.heap.size+1,2,none⟩) (by simp) _) (by omega)
   ·exact zbH (ownsRow_setCell_below (ownsRow_setCell_below (ownsRow_setCell_below Z.out (a:=⟨w.heap.size+1,0,none⟩) (by simp;omega) _) (a:=⟨w.heap.size+1,1,none⟩) (by simp;omega) _) (a:=⟨w.heap.size+1,2,none⟩) (by simp;omega) _) (by omega)
   ·exact ((T.out.setCell (p:=⟨w.heap.size+1,0,none⟩) (by simp) _).setCell (p:=⟨w.heap.size+1,1,none⟩) (by simp) _).setCell (p:=⟨w.heap.size+1,2,none⟩) (by simp) _
theorem zcY {w w1:World} {cs:Array Value} {t:TypeId} (b:Below (w.alloc (.cells cs t)).heap.size (w.alloc (.cells cs t)) w1):Blk w1 w t cs∧w.heap.size+1≤w1.heap.size∧Below w w w1:=by
 have a:=b.mono (B':=w.heap.size+1) (by simp);have c:=b.size
 simp at c
 exact ⟨zs1 a,c,(qA _).trans (a.mono (by omega))⟩
theorem zav.wf {w:World} {R:Nat→Prop} {v:Value} {bs:List (List Off)} (h:zav w R v bs):∀l∈bs,∀o∈l,o.wf:=by
 obtain ⟨e,_,a⟩:=h;intro l c o d;obtain ⟨k,b,rfl⟩:=List.getElem_of_mem c;obtain ⟨_,_,h⟩:=a k _ (gE b);exact h.2 o d
theorem znC {bs:List (List Off)} {i:Nat} {c:Int} (h:c<0):zb6 bs i c=0:=by unfold zb6;rw[if_pos h]
theorem zh7 {bs:List (List Off)} {i j:Nat} {l:List Off} {o:Off} (a:bs[i]? =some l) (b:l[j]? =some o):zb6 bs i (j:Int)=o.c:=by
 unfold zb6;rw[if_neg (by omega),a]
 simp[b]
theorem zbl {w:World} {base:Nat} {e:TypeId} {sz n:Nat} {v:Value} {xs:List Value} (h:w.ownsRow base e sz v n xs) (o:Obj):(w.alloc o).ownsRow base e sz v n xs:=
 zbQ h (bR.alloc lR o)
section
variable {n:Int} {bs:List (List Off)} {w1 w2 w3:World} {A1:Option Addr} {c1:Nat}
end
theorem zop {g c:Nat→Int} (f:Nat) {b a:Int} (o:Off) (e:∀x,g x≤c x) (d:b≤a):za8 g f b o≤za8 c f a o:=by
 unfold za8
 split
 ·have:=e (andNot f o.g);omega
 ·exact d
theorem zkI {g g':Nat→Int} (f:Nat) (hg:∀x,g x≤g' x):∀(l:List Off) {b b':Int},b≤b'→l.foldl (za8 g f) b≤l.foldl (za8 g' f) b'
 |[],_,_,h=>h
 |o::l,_,_,h=>zkI f hg l (zop f o hg h)
theorem zgu {g:Nat→Int} {f:Nat}:∀(l:List Off) (b:Int) (o:Off),o∈l→andNot o.g f=0→o.c+g (andNot f o.g)≤l.foldl (za8 g f) b
 |x::l,b,o,ho,hf=>by
  rcases List.mem_cons.1 ho with rfl|ho
  ·refine Int.le_trans ?_ (zeZ g f l _);unfold za8;rw[if_pos hf]
   omega
  ·exact zgu l _ o ho hf
theorem zgt {g:Nat→Int} {f:Nat}:∀(l:List Off) (b:Int),l.foldl (za8 g f) b=b∨∃o∈l,andNot o.g f=0∧o.c+g (andNot f o.g)=l.foldl (za8 g f) b
 |[],b=>.inl rfl
 |x::l,b=>by
  rcases zgt l (za8 g f b x) with h|⟨o,ho,hf,he⟩
  ·by_cases hf:andNot x.g f=0
   ·by_cases hle:x.c+g (andNot f x.g)≤b
    ·left
     rw[List.foldl_cons,h];unfold za8;rw[if_pos hf]
     omega
    ·right
     refine ⟨x,by simp,hf,?_⟩;rw[List.foldl_cons,h];unfold za8;rw[if_pos hf]
     omega
   ·left
    rw[List.foldl_cons,h];unfold za8;rw[if_neg hf]
  ·exact .inr ⟨o,by simp[ho],hf,by rw[List.foldl_cons];exact he⟩
theorem ziy:∀(bs:List (List Off)) (k f:Nat),W (bs.set k []) f≤W bs f
 |[],k,f=>by simp
 |l::bs,0,f=>by
  simp only[List.set_cons_zero,W,List.foldl_nil];exact zeZ _ _ _ _
 |l::bs,k+1,f=>by
  simp only[List.set_cons_succ,W];exact zkI f (fun x=>ziy bs k x) l (ziy bs k f)
theorem zmN {bs:List (List Off)} {l:List Off} {f:Nat} (h:zbL (W bs) f (W (l::bs) f) l=none):W (l::bs) f=W bs f:=by
 have b:∀o∈l,zbW (W bs) f (W (l::bs) f) o=false:=by
  generalize W (l::bs) f=left at h
  induction l with
  |nil=>simp
  |cons x l ih=>
   simp only[zbL] at h
   split at h
   ·cases h
   ·rename_i c
    intro o a
    rcases List.mem_cons.1 a with rfl|a
    ·simpa using c
    ·exact ih (by simpa using h) o a
 rcases zgt (g:=W bs) (f:=f) l (W bs f) with h1|⟨o,a,hf,he⟩
 ·exact h1
 ·exfalso
  have:=b o a;simp only[zbW,Bool.and_eq_false_iff,decide_eq_false_iff_not] at this
  rcases this with h2|h2
  ·exact h2 hf
  ·exact h2 he
theorem zib {n:Int} {bs:List (List Off)} {k:Nat} (h:zaj n bs=0) (c:k<bs.length):zbc n bs (k:Int) []=0:=by
 unfold zbc;rw[if_neg (by simpa using h),if_neg (by omega)];obtain ⟨a,b,_⟩:=zaE h;unfold zas;rw[if_neg (by omega)]
 simp[zbB]
theorem zrf {cs:List Int} {k:Nat} {c:Int} (h:cs[k]? =some c):(ints cs)[k]? =some ↑c:=by simp[ints,h]
theorem ziV {P:Program} (w:World) {ops:Array Oper} {o:Oper} {a:Act} {K:Act→World→Prop} {Q:Exit→Act→World→Prop} {k:Prop} (i:o.guard=none) (s x:Operand) {t e:TypeId} {sz bytes:Nat} (E:zbg P t e sz bytes)
  (p:o.op=.call {callee:=.builtin .append,args:=#[s,x],argTypes:=#[t,t]})
  (base:Nat) (v:Value) (n:Nat) (xs:List Value) (r:a.eval s=v) (f:w.ownsRow base e sz v n xs)
  (R:Nat→Prop) (j:Value) (m:Nat) (b:List Value) (z:a.eval x=j) (q:Sl w R j m sz b) (l:∀u∈b,u.oneCell'=true)
  (c:(n+m)*bytes≤140737488355328) (g:n+m≤maxLen) (d:base≤w.heap.size)
  (h:∀A' cap' w',w'.ownsRow base e sz (.slice A' (n+m) cap') (n+m) (xs++b)→w.grownBy w' v.ownBlock→((Value.slice A' (n+m) cap').ownBlock=v.ownBlock∨(Value.slice A' (n+m) cap').ownBlock=some w.heap.size)→K (a.put o.dst (.slice A' (n+m) cap')) w'):
  if Region.wanted o (yielded ops a.tmps)=true then Oper.wp P o a w K Q else k:=by
 have y:Region.wanted o (yielded ops a.tmps)=true:=by simp[Region.wanted,i]
 rw[if_pos y];exact zmu w s x E p base v n xs r f R j m b z q l c g d h
def zaB:List Int→Int
 |[]=>0
 |x::l=>x+zaB l
theorem zmi:∀(a b:List Int),zaB (a++b)=zaB a+zaB b
 |[],b=>by simp[zaB]
 |x::a,b=>by simp only[List.cons_append,zaB,zmi a b];omega
theorem zqd {ps:List Int} {k:Nat} {c:Int} (h:ps[k]? =some c):zaB (ps.take (k+1))=zaB (ps.take k)+c:=by
 rw[List.take_add_one,h,zmi]
 simp[zaB]
theorem znn {M:Int}:∀(l:List Int),(∀x∈l,-M≤x∧x≤M)→-(l.length*M)≤zaB l∧zaB l≤l.length*M
 |[],_=>by simp[zaB]
 |x::l,h=>by
  have h1:=h x (by simp);have h2:=znn l (fun y hy=>h y (by simp[hy]));simp only[zaB,List.length_cons];have:((l.length+1:Nat):Int)*M=l.length*M+M:=by rw[Int.natCast_add,Int.add_mul];simp
  rw[this]
  omega
structure EachAt (w:World) (lo pb pp:Nat) (n:Int) (bs:List (List Off)):Prop where
 at_:∃A1 c1 A2 c2 A3 c3,Blk w pb 370 #[.slice A1 bs.length c1,.int .i64 (W bs (allOf n)),.slice A2 bs.length c2]∧Blk w pp 340 #[.slice A3 bs.length c3]∧
  w.ownsRow lo 3 1 (.slice A1 bs.length c1) bs.length (ints (zai n bs))∧w.ownsRow lo 2 1 (.slice A3 bs.length c3) bs.length (ints (zcP n bs))
theorem Sl.blk {w:World} {g n cap sz:Nat} {t:TypeId} {cs:Array Value} (h:Blk w g t cs) (h1:n≤cap) (h2:cap≤maxLen) (h3:cs.size=n*sz):Sl w (fun _=>True) (.slice (some ⟨g,0,none⟩) n cap) n sz cs.toList:=
 ⟨by simpa using h3,some ⟨g,0,none⟩,cap,rfl,h1,h2,fun _=>⟨g,0,rfl,trivial,h.lt,fun j u hj=>by
  rw[show 0+j=j from by omega];exact (h.cell j).trans (by simpa using hj)⟩⟩
theorem Blk.new' {w:World} {g:Nat} (t:TypeId) (cs:Array Value) (a:w.heap.size=g):Blk (w.alloc (.cells cs t)) g t cs:=by subst a;exact Blk.new w t cs
theorem ztP {w w':World} {lo:Nat} {e:TypeId} {sz n:Nat} {v:Value} {xs:List Value} {row:Option Nat} (h:w.ownsRow lo e sz v n xs) (hg:w.grownBy w' row) (hr:∀k,row=some k→k<lo):w'.ownsRow lo e sz v n xs:=
 zaY h hg fun g e he=>by have:=(h.lt g he).1;have:=hr g e;omega
theorem zoL (n:Int) (bs:List (List Off)):(zai n bs).length=bs.length:=zbz _ _
section
variable (n:Int) (bs:List (List Off)) (v:Value) (R:Nat→Prop) (w:World)
end
theorem Sl.any {w:World} {R:Nat→Prop} {v:Value} {n sz:Nat} {xs:List Value} (h:Sl w R v n sz xs):Sl w (fun _=>True) v n sz xs:=h.mono fun _ _ _=>trivial
theorem Sl.int_at {w:World} {R:Nat→Prop} {A:Option Addr} {n c k:Nat} {l:List Int} (h:Sl w R (.slice A n c) n 1 (ints l)) (p:k<n):
  ∃b off x,A=some ⟨b,off,none⟩∧b<w.heap.size∧l[k]? =some x∧w.cell? ⟨b,off+k,none⟩=some ↑(x:Int):=by
 obtain ⟨i,m,o,j,_,_,g⟩:=h;injection j with d _ _
 subst d;obtain ⟨b,off,d,_,f,e⟩:=g (by omega);have a:k<l.length:=by simp[ints] at i;omega
 exact ⟨b,off,l[k],d,f,gE a,e k _ (by simp[ints,a])⟩
theorem zoQ {n:Int} {bs:List (List Off)} (b:∀l∈bs,∀o∈l,o.wf) (h:zaj n bs=0) (i:Nat) (c:Int):0≤zb6 bs i c∧zb6 bs i c≤1099511627776:=by
 have a:=(zfi b h).1;unfold zb6
 split
 ·omega
 ·cases hb:bs[i]? with
  |none=>simp
  |some l=>
   cases hl:l[c.toNat]? with
   |none=>simp[hl]
   |some o=>
    have:=a.offer hb hl;simp only[Option.getD_some,hl,Option.map_some];exact ⟨by have:=this.2.2.1;omega,this.2.2.2⟩
def Mid (a b:Nat) (w w':World):Prop:=Below a w w'∧∀i,b≤i→i<w.heap.size→w'.heap[i]? =w.heap[i]?
theorem Mid.refl (a b:Nat) (w:World):Mid a b w w:=⟨bR,fun _ _ _=>rfl⟩
theorem Mid.set {a b:Nat} {w w':World} (h:Mid a b w w') {p:Addr} (h1:a≤p.block) (h2:p.block<b) (u:Value):Mid a b w (w'.setCell p u):=
 ⟨h.1.setCell h1 u,fun i hi hl=>(Below.heap_setCell w' p u i (by omega)).trans (h.2 i hi hl)⟩
theorem Mid.blk {a b:Nat} {w w':World} {g:Nat} {t:TypeId} {cs:Array Value} (h:Mid a b w w') (hs:Blk w g t cs) (hg:b≤g):Blk w' g t cs:=(h.2 g hg hs.lt).trans hs
theorem Sl.own_from {w:World} {base:Nat} {e:TypeId} {sz n:Nat} {v:Value} {xs:List Value} (h:w.ownsRow base e sz v n xs):Sl w (fun b=>base≤b) v n sz xs:=
 (Sl.of_own h).mono fun b _ hb=>(h.lt b hb).1
end Vb
end Go.Proofs.YtckdpejdnejhfaaGreat

/- Joined by program. -/
import Derived.Test.YtckdpejdnejhfaaGreatZl
set_option linter.all false
set_option maxRecDepth 100000
set_option maxHeartbeats 32000000
namespace Go.Proofs.YtckdpejdnejhfaaGreat
open Lib (hid)
namespace Ho
open Go.RowKit Vb Ac
abbrev ziC (n e v:Int):Value:=.agg #[.int .i64 n,.int .i64 e,.int .i64 v]
def doF (k:Nat):FuncId:=if k=1 then 94 else if k=2 then 95 else if k=3 then 96 else if k=4 then 97 else if k=5 then 98 else 99
def zt0:Array Value:=#[.nilFunc,.func (.func 94) #[] #[],.func (.func 95) #[] #[],.func (.func 96) #[] #[],.func (.func 97) #[] #[],.func (.func 98) #[] #[],.func (.func 99) #[] #[]]
theorem zsj (k:Nat) (a:1≤k) (b:k≤6):zt0[k]? =some (.func (.func (doF k)) #[] #[])∧∀args w,(callFunc (doF k) args).run Tryz.prog w=.ok (.enter (doF k) args) w:=by
 have:k=1∨k=2∨k=3∨k=4∨k=5∨k=6:=by omega
 rcases this with rfl|rfl|rfl|rfl|rfl|rfl
 ·exact ⟨rfl,enters_of Tryz.func94 (by kernel_rfl) rfl⟩
 ·exact ⟨rfl,enters_of Tryz.func95 (by kernel_rfl) rfl⟩
 ·exact ⟨rfl,enters_of Tryz.func96 (by kernel_rfl) rfl⟩
 ·exact ⟨rfl,enters_of Tryz.func97 (by kernel_rfl) rfl⟩
 ·exact ⟨rfl,enters_of Tryz.func98 (by kernel_rfl) rfl⟩
 ·exact ⟨rfl,enters_of Tryz.func99 (by kernel_rfl) rfl⟩
theorem zf3 (z:Nat) (h1k:1≤z) (h6k:z≤6) {W:World} {T:Nat→Part} {h K:Nat} {H:House} (hH:zaf W T h K H) (o:OrderR) {A:Option Addr} {c:Nat} (hk:o.kind=(z:Int)) (ad:zcH o=true) {R:Nat→Prop} (hO:zad W R (.slice A o.offers.length c) o.offers) {B:Int} (he:B≠0)
  (hm:∀W1,zaf W1 T h K H→zad W1 R (.slice A o.offers.length c) o.offers→Calls Tryz.prog (doF z) #[.pointer (some ⟨h,0,none⟩),o.agg (.slice A o.offers.length c)] W1 fun e W'=>e=.returned (.tuple #[(),B])∧Below W1 W1 W'):
  Calls Tryz.prog 69 #[.pointer (some ⟨h,0,none⟩),o.agg (.slice A o.offers.length c)] W fun e W'=>e=.returned (ziC 0 B 0)∧Below W W W':=by
 obtain ⟨okind,k,g,a,s,⟨kind,l,b,n,y,d,r,j,q,i,x⟩,t,m⟩:=o;simp only at hk hO;subst hk;obtain ⟨U,hen⟩:=zsj z h1k h6k
 generalize doF z=f at hm U hen
 have e1k:(0:Int)≤(z:Int):=by omega
 have e2k:(z:Int)<7:=by omega
 have HFK:=hid U;clear U;have HSP:=hid ad;have HM:=hid hm;have HH:=hid hH;have HO:=hid hO;have O:=fun W=>zhu ⟨(z:Int),k,g,a,s,⟨kind,l,b,n,y,d,r,j,q,i,x⟩,t,m⟩ A c W;have N:=hid O;simp only[OrderR.agg,OrderR.cells,LotR.cells,List.cons_append,List.nil_append] at HM N ⊢;obtain ⟨W1,F⟩:=nm ((W.alloc (.cells #[(z:Int),.string k,g,a,s,kind,l,b,n,y,d,r,j,q,i,x,.slice A t.length c,m] 61)).alloc (.cells #[(),(),()] 52));have aa:Below W W W1:=by rw[F];exact (qA _).alloc (by simp) _
 have Y:=hid (show Blk W1 W 61 #[(z:Int),.string k,g,a,s,kind,l,b,n,y,d,r,j,q,i,x,.slice A t.length c,m] by rw[F];exact (Blk.new W _ _).alloc _);have HY1:=hid (show Blk W1 (W.heap.size+1) 52 #[(),(),()] by rw[F];exact Blk.new' _ _ (by simp));have P:=hid aa;clear hH hO ad hm O aa;go_enter Tryz.func69,Tryz.ntmps69;go_wp2_with fail
 rw[←F];clear F;refine (zcU (HH.out.grow P.out)).mono ?_;rintro e W2 ⟨rfl,rfl⟩
 go_wp2_with (refine wpList_load_row rfl 61 (.tmp 3) rfl W.heap.size rfl 61 #[(z:Int),.string k,g,a,s,kind,l,b,n,y,d,r,j,q,i,x,.slice A t.length c,m] (0,0) _ Y.out Tryz.underlying61 rfl (by kernel_rfl) ?_)
 refine (N.out _).mono ?_;rintro e Z ⟨rfl,L⟩;rw[HSP.out];have HX3:=hid (Y.out.grow L);have HY3:=hid (HY1.out.grow L);have V:=hid (P.out.trans (L.mono P.out.size));clear L;obtain ⟨E,J⟩:=nm (Z.alloc (.cells #[.nilFunc,.func (.func 94) #[] #[],.func (.func 95) #[] #[],.func (.func 96) #[] #[],.func (.func 97) #[] #[],.func (.func 98) #[] #[],.func (.func 99) #[] #[]] 195));have M:Below Z Z E:=by rw[J];exact qA _
 have X:=hid (show Blk E Z 195 #[.nilFunc,.func (.func 94) #[] #[],.func (.func 95) #[] #[],.func (.func 96) #[] #[],.func (.func 97) #[] #[],.func (.func 98) #[] #[],.func (.func 99) #[] #[]] by rw[J];exact Blk.new _ _ _);have S:=hid (HX3.out.grow M);have G:=hid (V.out.trans (M.mono V.out.size));have HY4:=hid (HY3.out.grow M);clear M;go_wp2_with fail
 rw[←J];clear J;have x0:E.cell? ⟨W,0,none⟩=some ↑(z:Int):=S.out.cell 0;have lx:=S.out.lt;have f0:E.cell? ⟨Z,z,none⟩=some (.func (.func f) #[] #[]):=(X.out.cell z).trans HFK.out;have lf:=X.out.lt;refine zac (Below E E) [] (by kernel_rfl) (bR.drew) (fun C=>?_);refine tp 0 C ?_;have qq:=hid fun (w':World) (I:(Below E E) w')=>And.intro (qc I x0 lx)<|qc I f0 lf;refine tl 1 C qq ?_;refine tp 2 C ?_;refine tl 3 C qq ?_;refine tp 4 C ?_;refine tx 5 (v:=?_) C ?_ ?_
 rotate_left
 ·intro w' I;refine Eq.trans (zbq 61 (.tmp 3) (by rfl) W.heap.size (by rfl) 61 #[(z:Int),.string k,g,a,s,kind,l,b,n,y,d,r,j,q,i,x,.slice A t.length c,m] (0,0) _ (S.out.grow I) Tryz.underlying61 rfl (by kernel_rfl)) ?_;with_reducible rfl
 refine stp 6 fun K hK=>?_;go_simp;refine (HM.out E.drew (((HH.out.grow G.out)).grow bR.drew) (zad.grow (zad.grow HO.out G.out) bR.drew)).mono ?_;rintro e W5 ⟨rfl,ab⟩;have Q:=hid ((Below.refl E.heap.size E).drew.trans (ab.mono (by simp)));clear ab;refine hK.out _ _ ?_ (fun C=>?_)
 ·exact Q.out
 clear hK K
 try simp only[Act.put,pb,pz,ps]
 refine tp 7 C ?_;refine tp 8 C ?_;refine tp 9 C ?_;refine tp 10 C ?_;refine tp 11 C ?_;refine zaa (by kernel_rfl) ?_ _;clear C x0 f0 lf lx;have hz:(B==0)=false:=by simpa using he
 have D:=HY4.out.grow Q.out;have y0:W5.cell? ⟨W.heap.size+1,0,none⟩=some ↑():=D.cell 0;have y1:W5.cell? ⟨W.heap.size+1,1,none⟩=some ↑():=D.cell 1;have y2:W5.cell? ⟨W.heap.size+1,2,none⟩=some ↑():=D.cell 2;have yf:=D.frozen;have HY5:=hid D;clear D;go_wp2_with fail
 have ac:Blk (((W5.setCell ⟨W.heap.size+1,0,none⟩ ↑()).setCell ⟨W.heap.size+1,1,none⟩ ↑B).setCell ⟨W.heap.size+1,2,none⟩ ↑()) (W.heap.size+1) 52 #[(),B,()]:=((HY5.out.set_ 0 _).set_ 1 _).set_ 2 _;refine bodyPost_ret (results_cell_row rfl _ _ (W.heap.size+1) 52 #[(),B,()] (0,0) _ rfl ac Tryz.underlying52 rfl (by kernel_rfl)) rfl ⟨rfl,?_⟩;exact (((G.out.trans (Q.out.mono G.out.size)).setCell (p:=⟨W.heap.size+1,0,none⟩) (by simp) _).setCell (p:=⟨W.heap.size+1,1,none⟩) (by simp) _).setCell (p:=⟨W.heap.size+1,2,none⟩) (by simp) _
theorem zeE (B:Nat) (h1k:1≤B) (h6k:B≤6) {W:World} {T:Nat→Part} {h K:Nat} {H:House} (hH:zaf W T h K H) (o:OrderR) {A:Option Addr} {c:Nat} (hk:o.kind=(B:Int)) (hsp:zcH o=true) {R:Nat→Prop} (hO:zad W R (.slice A o.offers.length c) o.offers) (hR:∀b,b<W.heap.size→R b→T b=.no)
  (hlo:o.offers.length≤1099511627776) {K':Nat} {H1:House} {v:Int} (hbl:H1.book.length≤1000000)
  (hm:∀W1,zaf W1 T h K H→zad W1 (fun b=>R b∧b<W.heap.size) (.slice A o.offers.length c) o.offers→Calls Tryz.prog (doF B) #[.pointer (some ⟨h,0,none⟩),o.agg (.slice A o.offers.length c)] W1 fun e W'=>e=.returned (.tuple #[v,()])∧∃T',zaf W' T' h K' H1∧Moves W1 T W' T'):
  Calls Tryz.prog 69 #[.pointer (some ⟨h,0,none⟩),o.agg (.slice A o.offers.length c)] W fun e W'=>e=.returned (ziC H1.book.length 0 v)∧∃T',zaf W' T' h K' {H1 with book:=H1.book++[o]}∧Moves W T W' T':=by
 replace hO:=zad.mono (R':=fun b=>R b∧b<W.heap.size) hO fun b M hr=>⟨hr,M⟩;have HNO:=hid (show ∀b,W.heap.size≤b→T b=.no by obtain ⟨_,_,_,_,_,_,hH⟩:=hH;exact hH.out);have HRN:=hid hR;have HBL:=hid hbl;have HLO:=hid hlo;clear hR hbl hlo;obtain ⟨okind,m,i,a,t,⟨kind,n,d,q,z,g,s,l,r,j,y⟩,x,p⟩:=o;simp only at hk hO HLO;subst hk;obtain ⟨hfk,hen⟩:=zsj B h1k h6k
 generalize doF B=f at hm hfk hen
 have e1k:(0:Int)≤(B:Int):=by omega
 have e2k:(B:Int)<7:=by omega
 have HFK:=hid hfk;clear hfk;have HSP:=hid hsp;have HM:=hid hm;have HH:=hid hH;have HO:=hid hO;have hspa:=fun W=>zhu ⟨(B:Int),m,i,a,t,⟨kind,n,d,q,z,g,s,l,r,j,y⟩,x,p⟩ A c W;have HSPA:=hid hspa;simp only[OrderR.agg,OrderR.cells,LotR.cells,List.cons_append,List.nil_append] at HM HSPA ⊢;obtain ⟨W1,hW1⟩:=nm ((W.alloc (.cells #[(B:Int),.string m,i,a,t,kind,n,d,q,z,g,s,l,r,j,y,.slice A x.length c,p] 61)).alloc (.cells #[(),(),()] 52));have hb1:Below W W W1:=by rw[hW1];exact (qA _).alloc (by simp) _
 have HX1:=hid (show Blk W1 W 61 #[(B:Int),.string m,i,a,t,kind,n,d,q,z,g,s,l,r,j,y,.slice A x.length c,p] by rw[hW1];exact (Blk.new W _ _).alloc _);have HY1:=hid (show Blk W1 (W.heap.size+1) 52 #[(),(),()] by rw[hW1];exact Blk.new' _ _ (by simp));have HB1:=hid hb1;clear hH hO hsp hm hspa hb1;go_enter Tryz.func69,Tryz.ntmps69;go_wp2_with fail
 rw[←hW1];clear hW1;refine (zcU (HH.out.grow HB1.out)).mono ?_;rintro e W2 ⟨rfl,rfl⟩
 go_wp2_with (refine wpList_load_row rfl 61 (.tmp 3) rfl W.heap.size rfl 61 #[(B:Int),.string m,i,a,t,kind,n,d,q,z,g,s,l,r,j,y,.slice A x.length c,p] (0,0) _ HX1.out Tryz.underlying61 rfl (by kernel_rfl) ?_)
 refine (HSPA.out _).mono ?_;rintro e W3 ⟨rfl,hb3⟩;rw[HSP.out];have HX3:=hid (HX1.out.grow hb3);have HY3:=hid (HY1.out.grow hb3);have HB3:=hid (HB1.out.trans (hb3.mono HB1.out.size));clear hb3;obtain ⟨J,hW4⟩:=nm (W3.alloc (.cells #[.nilFunc,.func (.func 94) #[] #[],.func (.func 95) #[] #[],.func (.func 96) #[] #[],.func (.func 97) #[] #[],.func (.func 98) #[] #[],.func (.func 99) #[] #[]] 195));have hb4:Below W3 W3 J:=by rw[hW4];exact qA _
 have HF4:=hid (show Blk J W3 195 #[.nilFunc,.func (.func 94) #[] #[],.func (.func 95) #[] #[],.func (.func 96) #[] #[],.func (.func 97) #[] #[],.func (.func 98) #[] #[],.func (.func 99) #[] #[]] by rw[hW4];exact Blk.new _ _ _);have Y:=hid (HX3.out.grow hb4);have V:=hid (HB3.out.trans (hb4.mono HB3.out.size));have HY4:=hid (HY3.out.grow hb4);clear hb4;go_wp2_with fail
 rw[←hW4];clear hW4;have x0:J.cell? ⟨W,0,none⟩=some ↑(B:Int):=Y.out.cell 0;have lx:=Y.out.lt;have f0:J.cell? ⟨W3,B,none⟩=some (.func (.func f) #[] #[]):=(HF4.out.cell B).trans HFK.out;have lf:=HF4.out.lt;refine zac (Below J J) [6,7,8,9,10,11] (by kernel_rfl) (bR.drew) (fun C=>?_);refine tpD [1,2,3,6,7,8,9,10,11] 0 C ?_;have qq:=hid fun (w':World) (I:(Below J J) w')=>And.intro (qc I x0 lx)<|qc I f0 lf;refine tlD [2,3,6,7,8,9,10,11] 1 C qq ?_;refine tpD [3,6,7,8,9,10,11] 2 C ?_;refine tlD [6,7,8,9,10,11] 3 C qq ?_;refine tpD [6,7,8,9,10,11] 4 C ?_;refine txD [6,7,8,9,10,11] 5 (v:=?_) C ?_ ?_
 rotate_left
 ·intro w' I;refine Eq.trans (zbq 61 (.tmp 3) (by rfl) W.heap.size (by rfl) 61 #[(B:Int),.string m,i,a,t,kind,n,d,q,z,g,s,l,r,j,y,.slice A x.length c,p] (0,0) _ (Y.out.grow I) Tryz.underlying61 rfl (by kernel_rfl)) ?_;with_reducible rfl
 refine stf 6 fun K L=>?_;go_simp;refine (HM.out J.drew (((HH.out.grow V.out)).grow bR.drew) (zad.grow (zad.grow HO.out V.out) bR.drew)).mono ?_;rintro e S ⟨rfl,T5,E,G⟩;have G:Moves J T S T5:=⟨((Chg.refl _ J).grow bR.drew).trans G.chg,fun b M=>G.tag b M⟩;have HH5:=hid E;have HM5:=hid G;have hno:∀b,W.heap.size≤b→¬Own T b:=fun b M ho=>ho.2 (HNO.out b M);have HX5:=hid (Y.out.chg G.chg (hno _ lR));have HY5:=hid (HY4.out.chg G.chg (hno _ (Nat.le_succ _)));have HO5:=hid (zad.chg (zad.grow HO.out V.out) G.chg fun b _ hr ho=>ho.2 (HRN.out b hr.2 hr.1));clear E G hno;refine L.out _ _ ?_;clear L K
 try simp only[Act.put,pb,pz,ps]
 refine tpW 7 ?_;refine tpW 8 ?_;refine tpW 9 ?_;refine tpW 10 ?_;refine tpW 11 ?_;refine zaa (by kernel_rfl) ?_ _;clear C x0 f0 lf lx;obtain ⟨pn,pc,va,vl,vb,vs,E⟩:=HH5.out;obtain ⟨vo,hrow,hvo⟩:=E.book;obtain ⟨Ab,cb,hvb⟩:=hrow.form;obtain ⟨F,hnb⟩:=nm (H1.book.length);have X:=hid hnb;have D:=hid (show RowAt S (fun b=>T5 b=.book∧b<S.heap.size) 61 18 (.slice Ab F cb) F (zaz H1.book vo) by rw[hnb,←hvb];exact hrow.mono fun b M hr=>⟨hr,M⟩);have HVO:=hid hvo;have HVB:=hid (show vb=.slice Ab F cb by rw[hnb];exact hvb);have O:=hid E;have c4:S.cell? ⟨h,4,none⟩=some (.slice Ab F cb):=E.cells.2.2.2.2.1.trans (by rw[hvb,hnb]);have lh:=E.cells.2.2.2.2.2.2;have or1:¬(Value.slice Ab F cb).ownBlock=some h:=fun e=>by have h3:=(D.out.blk h e).1;rw[E.top] at h3;cases h3
 have HOR:=hid or1;have HT5:=hid (show ∀b,W.heap.size≤b→b<J.heap.size→T5 b=.no from fun b h1 h2=>(HM5.out.tag b h2).trans (HNO.out b h1));have hlx4:W.heap.size<J.heap.size:=Y.out.lt;have ox1:¬(Value.slice Ab F cb).ownBlock=some W.heap.size:=fun e=>by have h3:=(D.out.blk _ e).1;rw[HT5.out _ lR hlx4] at h3;cases h3
 clear hrow hvo hvb hnb E hlx4;go_wp2_with fail
 refine zac (Chg (fun b=>(Value.slice Ab F cb).ownBlock=some b) S) [13] (by kernel_rfl) ((Chg.refl _ S).grow bR.drew) (fun C=>?_);refine tp 0 C ?_;refine tp 1 C ?_;refine tp 2 C ?_;refine tp 3 C ?_;refine tp 4 C ?_;have qq:=hid fun (w':World) (I:(Chg (fun b=>(Value.slice Ab F cb).ownBlock=some b) S) w')=>cg I c4 lh or1;refine tl 5 C qq ?_;refine tx 6 (v:=?_) C ?_ ?_
 rotate_left
 ·intro w' I;refine Eq.trans (zbq 61 (.tmp 3) (by rfl) W.heap.size (by rfl) 61 #[(B:Int),.string m,i,a,t,kind,n,d,q,z,g,s,l,r,j,y,.slice A x.length c,p] (0,0) _ (HX5.out.chg I ox1) Tryz.underlying61 rfl (by kernel_rfl)) ?_;with_reducible rfl
 refine stp 7 fun K L=>?_;go_simp;refine (zmE (W:=S.drew) ⟨(B:Int),m,i,a,t,⟨kind,n,d,q,z,g,s,l,r,j,y⟩,x,p⟩ (zad.grow HO5.out bR.drew) HLO.out).mono ?_;rintro e W6 ⟨A6,c6,rfl,hO6,P⟩;have P:Below S S W6:=bR.drew.trans (P.mono lR);simp only[OrderR.agg,OrderR.cells,LotR.cells,List.cons_append,List.nil_append];refine L.out _ _ ?_ (fun C=>?_)
 ·exact (Chg.refl _ S).grow P
 clear L K
 try simp only[Act.put,pb,pz,ps]
 have HO6:=hid hO6;have HB6:=hid P;have HRW:=hid ((D.out.grow P).grow (bR.alloc lR (.cells #[(B:Int),.string m,i,a,t,kind,n,d,q,z,g,s,l,r,j,y,.slice A6 x.length c6,p] 61)));clear hO6 P;refine stp 8 fun K L=>?_;go_simp;refine L.out _ _ ?_ (fun C=>?_)
 ·exact C.grow (qA _)
 clear L K
 try simp only[Act.put,pb,pz,ps]
 refine stp 9 fun K L=>?_;refine zbR (W6.alloc (.cells #[(B:Int),.string m,i,a,t,kind,n,d,q,z,g,s,l,r,j,y,.slice A6 x.length c6,p] 61)) (.tmp 35) (.tmp 38) rfl zlM rfl (.slice Ab F cb) F (zaz H1.book vo) rfl HRW.out (.slice (some ⟨W6,0,none⟩) 1 1) 1 [.int .i64 (B:Int),.string m,.int .i64 i,.int .i64 a,.int .i64 t,.int .i64 kind,.int .i64 n,.int .i64 d,.int .i64 q,.int .i64 z,.int .i64 g,.int .i64 s,.int .i64 l,.int .i64 r,.int .i64 j,.int .i64 y,.slice A6 x.length c6,.int .i64 p] rfl (Sl.lit1 (Blk.new W6 61 #[(B:Int),.string m,i,a,t,kind,n,d,q,z,g,s,l,r,j,y,.slice A6 x.length c6,p]) rfl) (by simp[Value.oneCell']) (by have:=HBL.out;have:=X.out;omega) (by have:=HBL.out;have:=X.out;unfold maxLen;omega) ?_;intro A7 c7 Z hrZ hcZ;refine L.out _ _ ?_ (fun C=>?_)
 ·exact C.trans hcZ
 clear L K
 try simp only[Act.put,pb,pz,ps]
 have HHZ:=hid (((O.out.blk.grow HB6.out).alloc (.cells #[(B:Int),.string m,i,a,t,kind,n,d,q,z,g,s,l,r,j,y,.slice A6 x.length c6,p] 61)).chg hcZ HOR.out);have HZR:=hid hrZ;have HZC:=hid hcZ;obtain ⟨U,hU⟩:=nm (Z.setCell ⟨h,4,none⟩ (.slice A7 (F+1) c7));have HU:=hid hU;clear hrZ hcZ hU;refine tpD [11,12,13] 10 C ?_;refine tpD [12,13] 11 C ?_;refine tp 12 C ?_;refine stf 13 fun K L=>?_;have f4:=HHZ.out.frozen 4;have d4:=HHZ.out.cell 4;go_simp;rw[←HU.out];refine L.out _ _ ?_;clear L K
 try simp only[Act.put,pb,pz,ps]
 refine zaa (by kernel_rfl) ?_ _;clear C c4 lh or1 ox1;have hlh:h<S.heap.size:=O.out.blk.lt;have N:Chg (·=h) Z U:=by rw[HU.out];exact Chg.set Z ⟨h,4,none⟩ _
 have HBU:=hid (show Blk U h 83 #[.pointer (some ⟨pn,0,none⟩),va,vl,.pointer (some ⟨pc,0,none⟩),.slice A7 (F+1) c7,vs] by rw[HU.out];exact HHZ.out.set_ 4 _);have hrowU:=HZR.out.chgB N (fun b M e=>by
  rcases HZR.out.blk b M with k|k
  ·have:=k.1;rw[e,O.out.top] at this;cases this
  ·have h1:=HB6.out.size;rw[World.size_alloc] at k;omega)
 have hend:=zqE (o:=⟨(B:Int),m,i,a,t,⟨kind,n,d,q,z,g,s,l,r,j,y⟩,x,p⟩) O.out HVO.out X.out HB6.out HO6.out (hrowU.mono fun b _ k=>k.elim .inl (fun k=>.inr (by rw[World.size_alloc] at k;omega)))
  ((((Chg.refl _ W6).grow (qA _)).step HZC.out fun b _ e=>⟨.inl (D.out.blk b e).1,(D.out.blk b e).2⟩).step N fun b _ e=>⟨.inr (e▸O.out.top),by omega⟩) HBU.out
 have HEND:=hid hend;have hys:W.heap.size+1<J.heap.size:=HY4.out.lt;have Q:=((((HY5.out.grow HB6.out).alloc (.cells #[(B:Int),.string m,i,a,t,kind,n,d,q,z,g,s,l,r,j,y,.slice A6 x.length c6,p] 61)).chg HZC.out (fun e=>by have h3:=(D.out.blk _ e).1;rw[HT5.out _ (Nat.le_succ _) hys] at h3;cases h3))).chg N (fun e=>by have h3:=O.out.top;rw[←e,HT5.out _ (Nat.le_succ _) hys] at h3;cases h3);have HYU:=hid Q;have y0:U.cell? ⟨W.heap.size+1,0,none⟩=some ↑():=Q.cell 0;have y1:U.cell? ⟨W.heap.size+1,1,none⟩=some ↑():=Q.cell 1;have y2:U.cell? ⟨W.heap.size+1,2,none⟩=some ↑():=Q.cell 2;have yf:=Q.frozen;have d4:U.cell? ⟨h,4,none⟩=some (.slice A7 (F+1) c7):=HBU.out.cell 4;have hw1:IntKind.i64.wrap (F:Int)=(F:Int):=iW _ (by have:=HBL.out;have:=X.out;omega);clear hlh N hrowU hend Q hys;go_wp2_with fail
 have hfin:Blk (((U.setCell ⟨W.heap.size+1,0,none⟩ ↑F).setCell ⟨W.heap.size+1,1,none⟩ ↑()).setCell ⟨W.heap.size+1,2,none⟩ ↑v) (W.heap.size+1) 52 #[F,(),v]:=((HYU.out.set_ 0 _).set_ 1 _).set_ 2 _;have hcV:Chg (·=W.heap.size+1) U (((U.setCell ⟨W.heap.size+1,0,none⟩ ↑F).setCell ⟨W.heap.size+1,1,none⟩ ↑()).setCell ⟨W.heap.size+1,2,none⟩ ↑v):=((Chg.set U ⟨W.heap.size+1,0,none⟩ _).trans (Chg.set _ ⟨W.heap.size+1,1,none⟩ _)).trans (Chg.set _ ⟨W.heap.size+1,2,none⟩ _);refine bodyPost_ret (results_cell_row rfl _ _ (W.heap.size+1) 52 #[F,(),v] (0,0) _ rfl hfin Tryz.underlying52 rfl (by kernel_rfl)) rfl ⟨by rw[X.out],?_⟩;obtain ⟨T6,hH6,hM6⟩:=HEND.out;have hMM:=HM5.out.trans hM6;have hny:T6 (W.heap.size+1)=.no:=(hMM.tag _ HY4.out.lt).trans (HNO.out _ (Nat.le_succ _));refine ⟨T6,hH6.keep hcV (fun b M e=>M (e▸hny)),((Chg.of _ V.out).trans hMM.chg).step hcV (fun b M e=>by omega),fun b M=>hMM.tag b (lL M V.out.size)⟩
end Ho
end Go.Proofs.YtckdpejdnejhfaaGreat

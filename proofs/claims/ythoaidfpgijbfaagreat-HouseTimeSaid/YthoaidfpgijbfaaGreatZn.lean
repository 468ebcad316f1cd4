/- Joined by program: HrI. -/
import Derived.Test.YthoaidfpgijbfaaGreatZl
set_option linter.all false
set_option maxRecDepth 100000
set_option maxHeartbeats 32000000
namespace Go.Proofs.YthoaidfpgijbfaaGreat
open Lib (hid)
namespace Ho
open Go.RowKit Vb Ac
abbrev zgo (n e v:Int):Value:=.agg #[.int .i64 n,.int .i64 e,.int .i64 v]
def doF (k:Nat):FuncId:=if k=1 then 32 else if k=2 then 33 else if k=3 then 34 else if k=4 then 35 else if k=5 then 36 else 37
def zwZ:Array Value:=#[.nilFunc,.func (.func 32) #[] #[],.func (.func 33) #[] #[],.func (.func 34) #[] #[],.func (.func 35) #[] #[],.func (.func 36) #[] #[],.func (.func 37) #[] #[]]
theorem zvg (k:Nat) (a:1≤k) (b:k≤6):zwZ[k]? =some (.func (.func (doF k)) #[] #[])∧∀args w,(callFunc (doF k) args).run Tryz.prog w=.ok (.enter (doF k) args) w:=by
 have:k=1∨k=2∨k=3∨k=4∨k=5∨k=6:=by omega
 rcases this with rfl|rfl|rfl|rfl|rfl|rfl
 ·exact ⟨rfl,enters_of Tryz.func32 (by kernel_rfl) rfl⟩
 ·exact ⟨rfl,enters_of Tryz.func33 (by kernel_rfl) rfl⟩
 ·exact ⟨rfl,enters_of Tryz.func34 (by kernel_rfl) rfl⟩
 ·exact ⟨rfl,enters_of Tryz.func35 (by kernel_rfl) rfl⟩
 ·exact ⟨rfl,enters_of Tryz.func36 (by kernel_rfl) rfl⟩
 ·exact ⟨rfl,enters_of Tryz.func37 (by kernel_rfl) rfl⟩
theorem zgp (z:Nat) (h1k:1≤z) (h6k:z≤6) {W:World} {T:Nat→Part} {h K:Nat} {H:House} (hH:zaf W T h K H) (o:OrderR) {A:Option Addr} {c:Nat} (hk:o.kind=(z:Int)) (ac:zc6 o=true) {R:Nat→Prop} (hO:zae W R (.slice A o.offers.length c) o.offers) {err:Int} (he:err≠0)
  (hm:∀W1,zaf W1 T h K H→zae W1 R (.slice A o.offers.length c) o.offers→Calls Tryz.prog (doF z) #[.pointer (some ⟨h,0,none⟩),o.agg (.slice A o.offers.length c)] W1 fun e W'=>e=.returned (.tuple #[(),err])∧Below W1 W1 W'):
  Calls Tryz.prog 9 #[.pointer (some ⟨h,0,none⟩),o.agg (.slice A o.offers.length c)] W fun e W'=>e=.returned (zgo 0 err 0)∧Below W W W':=by
 obtain ⟨okind,k,g,a,s,⟨kind,l,b,n,y,d,r,j,q,i,x⟩,t,m⟩:=o;simp only at hk hO;subst hk;obtain ⟨S,hen⟩:=zvg z h1k h6k
 generalize doF z=f at hm S hen
 have e1k:(0:Int)≤(z:Int):=by omega
 have e2k:(z:Int)<7:=by omega
 have HFK:=hid S;clear S;have HSP:=hid ac;have HM:=hid hm;have HH:=hid hH;have HO:=hid hO;have N:=fun W=>zik ⟨(z:Int),k,g,a,s,⟨kind,l,b,n,y,d,r,j,q,i,x⟩,t,m⟩ A c W;have M:=hid N;simp only[OrderR.agg,OrderR.cells,LotR.cells,List.cons_append,List.nil_append] at HM M ⊢;obtain ⟨W1,E⟩:=nm ((W.alloc (.cells #[(z:Int),.string k,g,a,s,kind,l,b,n,y,d,r,j,q,i,x,.slice A t.length c,m] 36)).alloc (.cells #[(),(),()] 27));have Z:Below W W W1:=by rw[E];exact (qA _).alloc (by simp) _
 have X:=hid (show Blk W1 W 36 #[(z:Int),.string k,g,a,s,kind,l,b,n,y,d,r,j,q,i,x,.slice A t.length c,m] by rw[E];exact (Blk.new W _ _).alloc _);have HY1:=hid (show Blk W1 (W.heap.size+1) 27 #[(),(),()] by rw[E];exact Blk.new' _ _ (by simp));have O:=hid Z;clear hH hO ac hm N Z;go_enter Tryz.func9,Tryz.ntmps9;go_wp2_with fail
 rw[←E];clear E;refine (zbL (HH.out.grow O.out)).mono ?_;rintro e W2 ⟨rfl,rfl⟩
 go_wp2_with (refine wpList_load_row rfl 36 (.tmp 3) rfl W.heap.size rfl 36 #[(z:Int),.string k,g,a,s,kind,l,b,n,y,d,r,j,q,i,x,.slice A t.length c,m] (0,0) _ X.out Tryz.underlying36 rfl (by kernel_rfl) ?_)
 refine (M.out _).mono ?_;rintro e Y ⟨rfl,J⟩;rw[HSP.out];have HX3:=hid (X.out.grow J);have HY3:=hid (HY1.out.grow J);have U:=hid (O.out.trans (J.mono O.out.size));clear J;obtain ⟨D,I⟩:=nm (Y.alloc (.cells #[.nilFunc,.func (.func 32) #[] #[],.func (.func 33) #[] #[],.func (.func 34) #[] #[],.func (.func 35) #[] #[],.func (.func 36) #[] #[],.func (.func 37) #[] #[]] 96));have L:Below Y Y D:=by rw[I];exact qA _
 have V:=hid (show Blk D Y 96 #[.nilFunc,.func (.func 32) #[] #[],.func (.func 33) #[] #[],.func (.func 34) #[] #[],.func (.func 35) #[] #[],.func (.func 36) #[] #[],.func (.func 37) #[] #[]] by rw[I];exact Blk.new _ _ _);have Q:=hid (HX3.out.grow L);have F:=hid (U.out.trans (L.mono U.out.size));have HY4:=hid (HY3.out.grow L);clear L;go_wp2_with fail
 rw[←I];clear I;have x0:D.cell? ⟨W,0,none⟩=some ↑(z:Int):=Q.out.cell 0;have lx:=Q.out.lt;have f0:D.cell? ⟨Y,z,none⟩=some (.func (.func f) #[] #[]):=(V.out.cell z).trans HFK.out;have lf:=V.out.lt;refine zad (Below D D) [] (by kernel_rfl) (bR.drew) (fun B=>?_);refine tp 0 B ?_;have qq:=hid fun (w':World) (G:(Below D D) w')=>And.intro (qc G x0 lx)<|qc G f0 lf;refine tl 1 B qq ?_;refine tp 2 B ?_;refine tl 3 B qq ?_;refine tp 4 B ?_;refine tx 5 (v:=?_) B ?_ ?_
 rotate_left
 ·intro w' G;refine Eq.trans (zbm 36 (.tmp 3) (by rfl) W.heap.size (by rfl) 36 #[(z:Int),.string k,g,a,s,kind,l,b,n,y,d,r,j,q,i,x,.slice A t.length c,m] (0,0) _ (Q.out.grow G) Tryz.underlying36 rfl (by kernel_rfl)) ?_;with_reducible rfl
 refine stp 6 fun K hK=>?_;go_simp;refine (HM.out D.drew (((HH.out.grow F.out)).grow bR.drew) (zae.grow (zae.grow HO.out F.out) bR.drew)).mono ?_;rintro e W5 ⟨rfl,aa⟩;have P:=hid ((Below.refl D.heap.size D).drew.trans (aa.mono (by simp)));clear aa;refine hK.out _ _ ?_ (fun B=>?_)
 ·exact P.out
 clear hK K
 try simp only[Act.put,pb,pz,ps]
 refine tp 7 B ?_;refine tp 8 B ?_;refine tp 9 B ?_;refine tp 10 B ?_;refine tp 11 B ?_;refine zac (by kernel_rfl) ?_ _;clear B x0 f0 lf lx;have hz:(err==0)=false:=by simpa using he
 have C:=HY4.out.grow P.out;have y0:W5.cell? ⟨W.heap.size+1,0,none⟩=some ↑():=C.cell 0;have y1:W5.cell? ⟨W.heap.size+1,1,none⟩=some ↑():=C.cell 1;have y2:W5.cell? ⟨W.heap.size+1,2,none⟩=some ↑():=C.cell 2;have yf:=C.frozen;have HY5:=hid C;clear C;go_wp2_with fail
 have ab:Blk (((W5.setCell ⟨W.heap.size+1,0,none⟩ ↑()).setCell ⟨W.heap.size+1,1,none⟩ ↑err).setCell ⟨W.heap.size+1,2,none⟩ ↑()) (W.heap.size+1) 27 #[(),err,()]:=((HY5.out.set_ 0 _).set_ 1 _).set_ 2 _;refine bodyPost_ret (results_cell_row rfl _ _ (W.heap.size+1) 27 #[(),err,()] (0,0) _ rfl ab Tryz.underlying27 rfl (by kernel_rfl)) rfl ⟨rfl,?_⟩;exact (((F.out.trans (P.out.mono F.out.size)).setCell (p:=⟨W.heap.size+1,0,none⟩) (by simp) _).setCell (p:=⟨W.heap.size+1,1,none⟩) (by simp) _).setCell (p:=⟨W.heap.size+1,2,none⟩) (by simp) _
theorem zd7 (B:Nat) (h1k:1≤B) (h6k:B≤6) {W:World} {T:Nat→Part} {h K:Nat} {H:House} (hH:zaf W T h K H) (o:OrderR) {A:Option Addr} {c:Nat} (hk:o.kind=(B:Int)) (hsp:zc6 o=true) {R:Nat→Prop} (hO:zae W R (.slice A o.offers.length c) o.offers) (hR:∀b,b<W.heap.size→R b→T b=.no)
  (hlo:o.offers.length≤1099511627776) {K':Nat} {H1:House} {v:Int} (hbl:H1.book.length≤1000000)
  (hm:∀W1,zaf W1 T h K H→zae W1 (fun b=>R b∧b<W.heap.size) (.slice A o.offers.length c) o.offers→Calls Tryz.prog (doF B) #[.pointer (some ⟨h,0,none⟩),o.agg (.slice A o.offers.length c)] W1 fun e W'=>e=.returned (.tuple #[v,()])∧∃T',zaf W' T' h K' H1∧Moves W1 T W' T'):
  Calls Tryz.prog 9 #[.pointer (some ⟨h,0,none⟩),o.agg (.slice A o.offers.length c)] W fun e W'=>e=.returned (zgo H1.book.length 0 v)∧∃T',zaf W' T' h K' {H1 with book:=H1.book++[o]}∧Moves W T W' T':=by
 replace hO:=zae.mono (R':=fun b=>R b∧b<W.heap.size) hO fun b M hr=>⟨hr,M⟩;have HNO:=hid (show ∀b,W.heap.size≤b→T b=.no by obtain ⟨_,_,_,_,_,_,hH⟩:=hH;exact hH.out);have HRN:=hid hR;have HBL:=hid hbl;have HLO:=hid hlo;clear hR hbl hlo;obtain ⟨okind,m,i,a,t,⟨kind,n,d,q,z,g,s,l,r,j,y⟩,x,p⟩:=o;simp only at hk hO HLO;subst hk;obtain ⟨hfk,hen⟩:=zvg B h1k h6k
 generalize doF B=f at hm hfk hen
 have e1k:(0:Int)≤(B:Int):=by omega
 have e2k:(B:Int)<7:=by omega
 have HFK:=hid hfk;clear hfk;have HSP:=hid hsp;have HM:=hid hm;have HH:=hid hH;have HO:=hid hO;have hspa:=fun W=>zik ⟨(B:Int),m,i,a,t,⟨kind,n,d,q,z,g,s,l,r,j,y⟩,x,p⟩ A c W;have HSPA:=hid hspa;simp only[OrderR.agg,OrderR.cells,LotR.cells,List.cons_append,List.nil_append] at HM HSPA ⊢;obtain ⟨W1,hW1⟩:=nm ((W.alloc (.cells #[(B:Int),.string m,i,a,t,kind,n,d,q,z,g,s,l,r,j,y,.slice A x.length c,p] 36)).alloc (.cells #[(),(),()] 27));have hb1:Below W W W1:=by rw[hW1];exact (qA _).alloc (by simp) _
 have HX1:=hid (show Blk W1 W 36 #[(B:Int),.string m,i,a,t,kind,n,d,q,z,g,s,l,r,j,y,.slice A x.length c,p] by rw[hW1];exact (Blk.new W _ _).alloc _);have HY1:=hid (show Blk W1 (W.heap.size+1) 27 #[(),(),()] by rw[hW1];exact Blk.new' _ _ (by simp));have HB1:=hid hb1;clear hH hO hsp hm hspa hb1;go_enter Tryz.func9,Tryz.ntmps9;go_wp2_with fail
 rw[←hW1];clear hW1;refine (zbL (HH.out.grow HB1.out)).mono ?_;rintro e W2 ⟨rfl,rfl⟩
 go_wp2_with (refine wpList_load_row rfl 36 (.tmp 3) rfl W.heap.size rfl 36 #[(B:Int),.string m,i,a,t,kind,n,d,q,z,g,s,l,r,j,y,.slice A x.length c,p] (0,0) _ HX1.out Tryz.underlying36 rfl (by kernel_rfl) ?_)
 refine (HSPA.out _).mono ?_;rintro e W3 ⟨rfl,hb3⟩;rw[HSP.out];have HX3:=hid (HX1.out.grow hb3);have HY3:=hid (HY1.out.grow hb3);have HB3:=hid (HB1.out.trans (hb3.mono HB1.out.size));clear hb3;obtain ⟨J,hW4⟩:=nm (W3.alloc (.cells #[.nilFunc,.func (.func 32) #[] #[],.func (.func 33) #[] #[],.func (.func 34) #[] #[],.func (.func 35) #[] #[],.func (.func 36) #[] #[],.func (.func 37) #[] #[]] 96));have hb4:Below W3 W3 J:=by rw[hW4];exact qA _
 have HF4:=hid (show Blk J W3 96 #[.nilFunc,.func (.func 32) #[] #[],.func (.func 33) #[] #[],.func (.func 34) #[] #[],.func (.func 35) #[] #[],.func (.func 36) #[] #[],.func (.func 37) #[] #[]] by rw[hW4];exact Blk.new _ _ _);have Y:=hid (HX3.out.grow hb4);have V:=hid (HB3.out.trans (hb4.mono HB3.out.size));have HY4:=hid (HY3.out.grow hb4);clear hb4;go_wp2_with fail
 rw[←hW4];clear hW4;have x0:J.cell? ⟨W,0,none⟩=some ↑(B:Int):=Y.out.cell 0;have lx:=Y.out.lt;have f0:J.cell? ⟨W3,B,none⟩=some (.func (.func f) #[] #[]):=(HF4.out.cell B).trans HFK.out;have lf:=HF4.out.lt;refine zad (Below J J) [6,7,8,9,10,11] (by kernel_rfl) (bR.drew) (fun C=>?_);refine tpD [1,2,3,6,7,8,9,10,11] 0 C ?_;have qq:=hid fun (w':World) (I:(Below J J) w')=>And.intro (qc I x0 lx)<|qc I f0 lf;refine tlD [2,3,6,7,8,9,10,11] 1 C qq ?_;refine tpD [3,6,7,8,9,10,11] 2 C ?_;refine tlD [6,7,8,9,10,11] 3 C qq ?_;refine tpD [6,7,8,9,10,11] 4 C ?_;refine txD [6,7,8,9,10,11] 5 (v:=?_) C ?_ ?_
 rotate_left
 ·intro w' I;refine Eq.trans (zbm 36 (.tmp 3) (by rfl) W.heap.size (by rfl) 36 #[(B:Int),.string m,i,a,t,kind,n,d,q,z,g,s,l,r,j,y,.slice A x.length c,p] (0,0) _ (Y.out.grow I) Tryz.underlying36 rfl (by kernel_rfl)) ?_;with_reducible rfl
 refine stf 6 fun K L=>?_;go_simp;refine (HM.out J.drew (((HH.out.grow V.out)).grow bR.drew) (zae.grow (zae.grow HO.out V.out) bR.drew)).mono ?_;rintro e S ⟨rfl,T5,E,G⟩;have G:Moves J T S T5:=⟨((Chg.refl _ J).grow bR.drew).trans G.chg,fun b M=>G.tag b M⟩;have HH5:=hid E;have HM5:=hid G;have hno:∀b,W.heap.size≤b→¬Own T b:=fun b M ho=>ho.2 (HNO.out b M);have HX5:=hid (Y.out.chg G.chg (hno _ lR));have HY5:=hid (HY4.out.chg G.chg (hno _ (Nat.le_succ _)));have HO5:=hid (zae.chg (zae.grow HO.out V.out) G.chg fun b _ hr ho=>ho.2 (HRN.out b hr.2 hr.1));clear E G hno;refine L.out _ _ ?_;clear L K
 try simp only[Act.put,pb,pz,ps]
 refine tpW 7 ?_;refine tpW 8 ?_;refine tpW 9 ?_;refine tpW 10 ?_;refine tpW 11 ?_;refine zac (by kernel_rfl) ?_ _;clear C x0 f0 lf lx;obtain ⟨pn,pc,va,vl,vb,vs,E⟩:=HH5.out;obtain ⟨vo,hrow,hvo⟩:=E.book;obtain ⟨Ab,cb,hvb⟩:=hrow.form;obtain ⟨F,hnb⟩:=nm (H1.book.length);have X:=hid hnb;have D:=hid (show RowAt S (fun b=>T5 b=.book∧b<S.heap.size) 36 18 (.slice Ab F cb) F (zaI H1.book vo) by rw[hnb,←hvb];exact hrow.mono fun b M hr=>⟨hr,M⟩);have HVO:=hid hvo;have HVB:=hid (show vb=.slice Ab F cb by rw[hnb];exact hvb);have O:=hid E;have c4:S.cell? ⟨h,4,none⟩=some (.slice Ab F cb):=E.cells.2.2.2.2.1.trans (by rw[hvb,hnb]);have lh:=E.cells.2.2.2.2.2.2;have or1:¬(Value.slice Ab F cb).ownBlock=some h:=fun e=>by have h3:=(D.out.blk h e).1;rw[E.top] at h3;cases h3
 have HOR:=hid or1;have HT5:=hid (show ∀b,W.heap.size≤b→b<J.heap.size→T5 b=.no from fun b h1 h2=>(HM5.out.tag b h2).trans (HNO.out b h1));have hlx4:W.heap.size<J.heap.size:=Y.out.lt;have ox1:¬(Value.slice Ab F cb).ownBlock=some W.heap.size:=fun e=>by have h3:=(D.out.blk _ e).1;rw[HT5.out _ lR hlx4] at h3;cases h3
 clear hrow hvo hvb hnb E hlx4;go_wp2_with fail
 refine zad (Chg (fun b=>(Value.slice Ab F cb).ownBlock=some b) S) [13] (by kernel_rfl) ((Chg.refl _ S).grow bR.drew) (fun C=>?_);refine tp 0 C ?_;refine tp 1 C ?_;refine tp 2 C ?_;refine tp 3 C ?_;refine tp 4 C ?_;have qq:=hid fun (w':World) (I:(Chg (fun b=>(Value.slice Ab F cb).ownBlock=some b) S) w')=>cg I c4 lh or1;refine tl 5 C qq ?_;refine tx 6 (v:=?_) C ?_ ?_
 rotate_left
 ·intro w' I;refine Eq.trans (zbm 36 (.tmp 3) (by rfl) W.heap.size (by rfl) 36 #[(B:Int),.string m,i,a,t,kind,n,d,q,z,g,s,l,r,j,y,.slice A x.length c,p] (0,0) _ (HX5.out.chg I ox1) Tryz.underlying36 rfl (by kernel_rfl)) ?_;with_reducible rfl
 refine stp 7 fun K L=>?_;go_simp;refine (zjx (W:=S.drew) ⟨(B:Int),m,i,a,t,⟨kind,n,d,q,z,g,s,l,r,j,y⟩,x,p⟩ (zae.grow HO5.out bR.drew) HLO.out).mono ?_;rintro e W6 ⟨A6,c6,rfl,hO6,P⟩;have P:Below S S W6:=bR.drew.trans (P.mono lR);simp only[OrderR.agg,OrderR.cells,LotR.cells,List.cons_append,List.nil_append];refine L.out _ _ ?_ (fun C=>?_)
 ·exact (Chg.refl _ S).grow P
 clear L K
 try simp only[Act.put,pb,pz,ps]
 have HO6:=hid hO6;have HB6:=hid P;have HRW:=hid ((D.out.grow P).grow (bR.alloc lR (.cells #[(B:Int),.string m,i,a,t,kind,n,d,q,z,g,s,l,r,j,y,.slice A6 x.length c6,p] 36)));clear hO6 P;refine stp 8 fun K L=>?_;go_simp;refine L.out _ _ ?_ (fun C=>?_)
 ·exact C.grow (qA _)
 clear L K
 try simp only[Act.put,pb,pz,ps]
 refine stp 9 fun K L=>?_;refine zco (W6.alloc (.cells #[(B:Int),.string m,i,a,t,kind,n,d,q,z,g,s,l,r,j,y,.slice A6 x.length c6,p] 36)) (.tmp 35) (.tmp 38) rfl znC rfl (.slice Ab F cb) F (zaI H1.book vo) rfl HRW.out (.slice (some ⟨W6,0,none⟩) 1 1) 1 [.int .i64 (B:Int),.string m,.int .i64 i,.int .i64 a,.int .i64 t,.int .i64 kind,.int .i64 n,.int .i64 d,.int .i64 q,.int .i64 z,.int .i64 g,.int .i64 s,.int .i64 l,.int .i64 r,.int .i64 j,.int .i64 y,.slice A6 x.length c6,.int .i64 p] rfl (Sl.lit1 (Blk.new W6 36 #[(B:Int),.string m,i,a,t,kind,n,d,q,z,g,s,l,r,j,y,.slice A6 x.length c6,p]) rfl) (by simp[Value.oneCell']) (by have:=HBL.out;have:=X.out;omega) (by have:=HBL.out;have:=X.out;unfold maxLen;omega) ?_;intro A7 c7 Z hrZ hcZ;refine L.out _ _ ?_ (fun C=>?_)
 ·exact C.trans hcZ
 clear L K
 try simp only[Act.put,pb,pz,ps]
 have HHZ:=hid (((O.out.blk.grow HB6.out).alloc (.cells #[(B:Int),.string m,i,a,t,kind,n,d,q,z,g,s,l,r,j,y,.slice A6 x.length c6,p] 36)).chg hcZ HOR.out);have HZR:=hid hrZ;have HZC:=hid hcZ;obtain ⟨U,hU⟩:=nm (Z.setCell ⟨h,4,none⟩ (.slice A7 (F+1) c7));have HU:=hid hU;clear hrZ hcZ hU;refine tpD [11,12,13] 10 C ?_;refine tpD [12,13] 11 C ?_;refine tp 12 C ?_;refine stf 13 fun K L=>?_;have f4:=HHZ.out.frozen 4;have d4:=HHZ.out.cell 4;go_simp;rw[←HU.out];refine L.out _ _ ?_;clear L K
 try simp only[Act.put,pb,pz,ps]
 refine zac (by kernel_rfl) ?_ _;clear C c4 lh or1 ox1;have hlh:h<S.heap.size:=O.out.blk.lt;have N:Chg (·=h) Z U:=by rw[HU.out];exact Chg.set Z ⟨h,4,none⟩ _
 have HBU:=hid (show Blk U h 92 #[.pointer (some ⟨pn,0,none⟩),va,vl,.pointer (some ⟨pc,0,none⟩),.slice A7 (F+1) c7,vs] by rw[HU.out];exact HHZ.out.set_ 4 _);have hrowU:=HZR.out.chgB N (fun b M e=>by
  rcases HZR.out.blk b M with k|k
  ·have:=k.1;rw[e,O.out.top] at this;cases this
  ·have h1:=HB6.out.size;rw[World.size_alloc] at k;omega)
 have hend:=ztT (o:=⟨(B:Int),m,i,a,t,⟨kind,n,d,q,z,g,s,l,r,j,y⟩,x,p⟩) O.out HVO.out X.out HB6.out HO6.out (hrowU.mono fun b _ k=>k.elim .inl (fun k=>.inr (by rw[World.size_alloc] at k;omega)))
  ((((Chg.refl _ W6).grow (qA _)).step HZC.out fun b _ e=>⟨.inl (D.out.blk b e).1,(D.out.blk b e).2⟩).step N fun b _ e=>⟨.inr (e▸O.out.top),by omega⟩) HBU.out
 have HEND:=hid hend;have hys:W.heap.size+1<J.heap.size:=HY4.out.lt;have Q:=((((HY5.out.grow HB6.out).alloc (.cells #[(B:Int),.string m,i,a,t,kind,n,d,q,z,g,s,l,r,j,y,.slice A6 x.length c6,p] 36)).chg HZC.out (fun e=>by have h3:=(D.out.blk _ e).1;rw[HT5.out _ (Nat.le_succ _) hys] at h3;cases h3))).chg N (fun e=>by have h3:=O.out.top;rw[←e,HT5.out _ (Nat.le_succ _) hys] at h3;cases h3);have HYU:=hid Q;have y0:U.cell? ⟨W.heap.size+1,0,none⟩=some ↑():=Q.cell 0;have y1:U.cell? ⟨W.heap.size+1,1,none⟩=some ↑():=Q.cell 1;have y2:U.cell? ⟨W.heap.size+1,2,none⟩=some ↑():=Q.cell 2;have yf:=Q.frozen;have d4:U.cell? ⟨h,4,none⟩=some (.slice A7 (F+1) c7):=HBU.out.cell 4;have hw1:IntKind.i64.wrap (F:Int)=(F:Int):=iW _ (by have:=HBL.out;have:=X.out;omega);clear hlh N hrowU hend Q hys;go_wp2_with fail
 have hfin:Blk (((U.setCell ⟨W.heap.size+1,0,none⟩ ↑F).setCell ⟨W.heap.size+1,1,none⟩ ↑()).setCell ⟨W.heap.size+1,2,none⟩ ↑v) (W.heap.size+1) 27 #[F,(),v]:=((HYU.out.set_ 0 _).set_ 1 _).set_ 2 _;have hcV:Chg (·=W.heap.size+1) U (((U.setCell ⟨W.heap.size+1,0,none⟩ ↑F).setCell ⟨W.heap.size+1,1,none⟩ ↑()).setCell ⟨W.heap.size+1,2,none⟩ ↑v):=((Chg.set U ⟨W.heap.size+1,0,none⟩ _).trans (Chg.set _ ⟨W.heap.size+1,1,none⟩ _)).trans (Chg.set _ ⟨W.heap.size+1,2,none⟩ _);refine bodyPost_ret (results_cell_row rfl _ _ (W.heap.size+1) 27 #[F,(),v] (0,0) _ rfl hfin Tryz.underlying27 rfl (by kernel_rfl)) rfl ⟨by rw[X.out],?_⟩;obtain ⟨T6,hH6,hM6⟩:=HEND.out;have hMM:=HM5.out.trans hM6;have hny:T6 (W.heap.size+1)=.no:=(hMM.tag _ HY4.out.lt).trans (HNO.out _ (Nat.le_succ _));refine ⟨T6,hH6.keep hcV (fun b M e=>M (e▸hny)),((Chg.of _ V.out).trans hMM.chg).step hcV (fun b M e=>by omega),fun b M=>hMM.tag b (lL M V.out.size)⟩
end Ho
end Go.Proofs.YthoaidfpgijbfaaGreat

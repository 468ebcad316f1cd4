/- Joined by program. -/
import Derived.Test.YtckdpejdnejhfaaGreatZq
import Derived.Deep.CutRange
set_option linter.all false
set_option maxRecDepth 100000
set_option maxHeartbeats 32000000
namespace Go.Proofs.YtckdpejdnejhfaaGreat
open Lib (hid)
namespace Ho
open Go.RowKit Vb Ac
structure RiseOk (l:LotR):Prop where
 opens:zah l.opens
 closes:zah l.closes
 run:l.opens<l.closes
 start:zah l.start
 step:zah l.step
 one:1≤l.step
 extend:zah l.extend
 last:zah l.last
 end_:l.closes≤l.last
theorem zhq {l:LotR} (h:zaT l=true):RiseOk l:=by
 unfold zaT at h;simp only[Bool.and_eq_true,decide_eq_true_eq,zaK] at h;obtain ⟨_,⟨⟨⟨⟨⟨⟨⟨a,b⟩,c⟩,d⟩,e⟩,f⟩,g⟩,i⟩,j⟩:=h;exact ⟨a,b,c,d,e,f,g,i,j⟩
theorem zgE {l:LotR} {r:RiseR} (h:zbs l r=true):zaT l=true:=by
 unfold zbs at h;simp only[Bool.and_eq_true] at h;exact h.1
theorem zfn {l:LotR} {r:RiseR} (h:zbs l r=true) (f:0≤r.leader):zah r.limit∧l.start≤r.price∧r.price≤r.limit∧l.closes≤r.closes∧r.closes≤l.last:=by
 unfold zbs at h;simp only[Bool.and_eq_true] at h;have a:=h.2;rw[if_neg (by omega)] at a;simp only[Bool.and_eq_true,decide_eq_true_eq,zaK] at a;obtain ⟨⟨⟨⟨b,a⟩,c⟩,d⟩,e⟩:=a;exact ⟨b,a,c,d,e⟩
theorem zio {l:LotR} {r:RiseR} (h:zbs l r=true) (b:r.leader<0):r=zea l:=by
 unfold zbs at h;simp only[Bool.and_eq_true] at h;have a:=h.2;rw[if_pos b] at a;exact of_decide_eq_true a
theorem zn2 (l:LotR) (w:World):Calls Tryz.prog 231 #[l.agg] w fun e w'=>e=.returned (zea l).agg∧Below w w w':=by
 obtain ⟨i,f,a,g,m,b,j,d,h,c,k⟩:=l;simp only[LotR.agg,LotR.cells,zea,RiseR.agg,RiseR.cells];go_enter Tryz.func231,Tryz.ntmps231;go_wp2_with fail
 exact bodyPost_ret (results_cell_row rfl _ _ (w.heap.size+1) 143 #[(-1:Int),(),(),a] (0,0) _ rfl (Blk.new' _ _ (by simp)) Tryz.underlying143 rfl (by kernel_rfl)) rfl ⟨rfl,(qA _).alloc (by simp) _⟩
theorem zjz (l:LotR) (r:RiseR) (w:World):Calls Tryz.prog 228 #[l.agg,r.agg] w fun e w'=>e=.returned ↑(zbs l r:Bool)∧Below w w w':=by
 have O:=hid (fun w=>zjw l w);have S:=hid (fun w=>zn2 l w);have A:=fun W=>zqO W r (zea l);obtain ⟨z,s⟩:=nm (zbs l r);rw[←s];unfold zbs at s;obtain ⟨U,L⟩:=nm (zaT l);rw[←L] at s O;obtain ⟨V,J⟩:=nm (decide (r=zea l));rw[←J] at s A;obtain ⟨k,i,a,b,n,c,d,h,j,g,m⟩:=l;obtain ⟨M,E,F,G⟩:=r;simp only[LotR.agg,LotR.cells,zea,RiseR.agg,RiseR.cells] at O S s A ⊢;obtain ⟨R,q⟩:=nm ((w.alloc (.cells #[k,i,a,b,n,c,d,h,j,g,m] 58)).alloc (.cells #[M,E,F,G] 143));have H:=hid (show Below w w R by rw[q];exact (qA _).alloc (by simp) _);have I:=hid (show Blk R w 58 #[k,i,a,b,n,c,d,h,j,g,m] by rw[q];exact (Blk.new w _ _).alloc _);have P:=hid (show Blk R (w.heap.size+1) 143 #[M,E,F,G] by rw[q];exact Blk.new' _ _ (by simp));go_enter Tryz.func228,Tryz.ntmps228
 go_wp2_with (refine wpList_load_row rfl 58 (.tmp 2) rfl w.heap.size rfl 58 #[k,i,a,b,n,c,d,h,j,g,m] (0,0) _ (by rw[←q];exact I.out) Tryz.underlying58 rfl (by kernel_rfl) ?_)
 rw[←q];clear q L J;refine (O.out _).mono ?_;rintro e B ⟨rfl,y⟩;have f:=hid (H.out.trans (y.mono H.out.size));have t:=hid (I.out.grow y);have p:=hid (P.out.grow y);clear y
 cases U with
 |false=>
  have o:=hid (show z=false by rw[s];rfl);rw[if_neg (by decide)];clear s A;go_wp2_with fail
  go_ret;exact ⟨by rw[o.out];rfl,f.out⟩
 |true=>
  rw[if_pos rfl];have y0:B.cell? ⟨w.heap.size+1,0,none⟩=some ↑M:=p.out.cell 0;have Y:=p.out.lt;by_cases hl:M<0
  ·rw[if_pos hl] at s;have C:=hid s;clear s;go_wp2_with fail
   refine zac (Below B B) [] (by kernel_rfl) (bR.drew) (fun x=>?_);refine tx 0 (v:=?_) x ?_ ?_
   rotate_left
   ·intro w' D;refine Eq.trans (zbq 143 (.tmp 3) (by rfl) (w.heap.size+1) (by rfl) 143 #[M,E,F,G] (0,0) _ (p.out.grow D) Tryz.underlying143 rfl (by kernel_rfl)) ?_;with_reducible rfl
   refine tx 1 (v:=?_) x ?_ ?_
   rotate_left
   ·intro w' D;refine Eq.trans (zbq 58 (.tmp 2) (by rfl) w.heap.size (by rfl) 58 #[k,i,a,b,n,c,d,h,j,g,m] (0,0) _ (t.out.grow D) Tryz.underlying58 rfl (by kernel_rfl)) ?_;with_reducible rfl
   refine stp 2 fun K T=>?_;go_simp;refine (S.out _).mono ?_;rintro e Z ⟨rfl,Q⟩;refine T.out _ _ ?_ (fun x=>?_)
   ·exact x.trans (Q.mono x.size)
   clear T K
   try simp only[Act.put,pb,pz,ps]
   refine tp 3 x ?_;refine tp 4 x ?_;refine zaa (by kernel_rfl) ?_ _;have N:=hid (f.out.trans (x.mono f.out.size));clear x;go_wp2_with fail
   go_ret;exact ⟨by rw[C.out];rfl,N.out⟩
  ·rw[if_neg hl] at s;clear A;have y1:B.cell? ⟨w.heap.size+1,1,none⟩=some ↑E:=p.out.cell 1;have y2:B.cell? ⟨w.heap.size+1,2,none⟩=some ↑F:=p.out.cell 2;have y3:B.cell? ⟨w.heap.size+1,3,none⟩=some ↑G:=p.out.cell 3;have x2:B.cell? ⟨w,2,none⟩=some ↑a:=t.out.cell 2;have x3:B.cell? ⟨w,3,none⟩=some ↑b:=t.out.cell 3;have x6:B.cell? ⟨w,6,none⟩=some ↑d:=t.out.cell 6;have X:=t.out.lt;have C:=hid s;clear s;go_wp2_with fail
   refine (zeH E _).mono ?_;rintro e wc ⟨rfl,rfl⟩
   cases h1:zae E with
   |false=>
    have o:=hid (show z=false from C.out.trans (by simp[h1]));go_wp2_with fail
    go_ret;exact ⟨by rw[o.out];first|rfl|simp[h1],f.out⟩
   |true=>
    by_cases h2:b≤F
    case neg=>
     have o:=hid (show z=false from C.out.trans (by simp[h1,h2]));go_wp2_with fail
     go_ret;exact ⟨by rw[o.out];first|rfl|simp[h1,h2],f.out⟩
    by_cases h3:F≤E
    case neg=>
     have o:=hid (show z=false from C.out.trans (by simp[h1,h2,h3]));go_wp2_with fail
     go_ret;exact ⟨by rw[o.out];first|rfl|simp[h1,h2,h3],f.out⟩
    by_cases h4:a≤G
    case neg=>
     have o:=hid (show z=false from C.out.trans (by simp[h1,h2,h3,h4]));go_wp2_with fail
     go_ret;exact ⟨by rw[o.out];first|rfl|simp[h1,h2,h3,h4],f.out⟩
    by_cases h5:G≤d
    case neg=>
     have o:=hid (show z=false from C.out.trans (by simp[h1,h2,h3,h4,h5]));go_wp2_with fail
     go_ret;exact ⟨by rw[o.out];first|rfl|simp[h1,h2,h3,h4,h5],f.out⟩
    have o:=hid (show z=true from C.out.trans (by simp[h1,h2,h3,h4,h5]));go_wp2_with fail
    go_ret;exact ⟨by rw[o.out];first|rfl|simp[h5],f.out⟩
theorem zn5 {l:LotR} {r:RiseR} (n:zbs l r=true) (b:Int) (w:World):Calls Tryz.prog 230 #[l.agg,r.agg,b] w fun e w'=>e=.returned ↑(zhg l r b:Int)∧Below w w w':=by
 have m:=zhq (zgE n);have c:=fun h=>zfn n h;have g:=m.step;have i:=m.start;clear m n;unfold zah at c g i;unfold zhg;obtain ⟨t,p,d,q,a,f,v,k,s,j,z⟩:=l;obtain ⟨o,x,y,C⟩:=r;simp only[LotR.agg,LotR.cells,RiseR.agg,RiseR.cells] at c g i ⊢;by_cases hl:o<0
 ·rw[if_pos hl];clear c g i;go_enter Tryz.func230,Tryz.ntmps230;go_wp2_with fail
  go_ret;exact ⟨rfl,(qA _).alloc (by simp) _⟩
 ·have A:=c (by omega);rw[if_neg hl];have D:IntKind.i64.wrap (x+1)=x+1:=iW _ (by omega);have E:IntKind.i64.wrap (y+a)=y+a:=iW _ (by omega);clear c g A i;by_cases hb:o=b
  ·subst hb;rw[if_pos rfl];go_enter Tryz.func230,Tryz.ntmps230;go_wp2_with fail
   go_ret;exact ⟨rfl,(qA _).alloc (by simp) _⟩
  ·rw[if_neg hb];have B:(o==b)=false:=by simpa using hb
   go_enter Tryz.func230,Tryz.ntmps230;go_wp2_with fail
   go_ret;exact ⟨rfl,(qA _).alloc (by simp) _⟩
def zg5 (l:LotR) (r:RiseR):Value:=if r.leader<0∨zbs l r=false then .tuple #[.int .i64 0,.int .i64 0,.bool false] else .tuple #[.int .i64 r.leader,.int .i64 r.price,.bool true]
theorem zrn (l:LotR) (r:RiseR) (w:World):Calls Tryz.prog 222 #[l.agg,r.agg] w fun e w'=>e=.returned (zg5 l r)∧Below w w w':=by
 have E:=hid (fun w=>zjz l r w);obtain ⟨z,j⟩:=nm (zg5 l r);rw[←j];unfold zg5 at j;obtain ⟨L,B⟩:=nm (zbs l r);rw[←B] at j E;obtain ⟨m,g,a,i,p,b,n,f,k,d,o⟩:=l;obtain ⟨x,G,C,I⟩:=r;simp only[LotR.agg,LotR.cells,RiseR.agg,RiseR.cells] at E j ⊢;obtain ⟨D,c⟩:=nm ((w.alloc (.cells #[m,g,a,i,p,b,n,f,k,d,o] 58)).alloc (.cells #[x,G,C,I] 143));have s:=hid (show Below w w D by rw[c];exact (qA _).alloc (by simp) _);have F:=hid (show Blk D w 58 #[m,g,a,i,p,b,n,f,k,d,o] by rw[c];exact (Blk.new w _ _).alloc _);have q:=hid (show Blk D (w.heap.size+1) 143 #[x,G,C,I] by rw[c];exact Blk.new' _ _ (by simp));clear B;have J:D.cell? ⟨w.heap.size+1,0,none⟩=some ↑x:=q.out.cell 0;have H:=q.out.lt;by_cases hl:x<0
 ·rw[if_pos (.inl hl)] at j;have A:=hid j;clear j J H;go_enter Tryz.func222,Tryz.ntmps222;go_wp2_with fail
  rw[←c]
  go_ret3
  exact ⟨by rw[A.out];rfl,s.out⟩
 ·go_enter Tryz.func222,Tryz.ntmps222
  go_wp2_with (first
   |refine wpList_load_row rfl 58 (.tmp 2) rfl w.heap.size rfl 58 #[m,g,a,i,p,b,n,f,k,d,o] (0,0) _ (by rw[←c];exact F.out) Tryz.underlying58 rfl (by kernel_rfl) ?_
   |refine wpList_load_row rfl 143 (.tmp 3) rfl (w.heap.size+1) rfl 143 #[x,G,C,I] (0,0) _ (by rw[←c];exact q.out) Tryz.underlying143 rfl (by kernel_rfl) ?_)
  rw[←c];clear c;refine (E.out _).mono ?_;rintro e K ⟨rfl,v⟩;have y:=hid (s.out.trans (v.mono s.out.size));have t:=hid (q.out.grow v);clear v J H
  cases L with
  |false=>
   rw[if_pos (.inr rfl)] at j;have A:=hid j;clear j;go_wp2_with fail
   go_ret3
   exact ⟨by rw[A.out];rfl,y.out⟩
  |true=>
   have A:=hid (j.trans (if_neg fun h=>h.elim (fun h=>by omega) (fun h=>by cases h)));clear j;have J:K.cell? ⟨w.heap.size+1,0,none⟩=some ↑x:=t.out.cell 0;have M:K.cell? ⟨w.heap.size+1,2,none⟩=some ↑C:=t.out.cell 2;have H:=t.out.lt;go_wp2_with fail
   go_quiet (fail)
   go_wp2_with fail
   go_ret3
   exact ⟨by rw[A.out];rfl,below_drewN y.out _⟩
theorem zpw {w:World} {g:Nat} {x:Int} (a:w.cell? ⟨g,1,none⟩=some ↑x) (c:Int):Calls Tryz.prog 229 #[c,.pointer (some ⟨g,0,none⟩)] w fun e w'=>e=.returned ↑(decide (x<c):Bool)∧w'=w:=by
 by_cases h:x<c
 ·rw[decide_eq_true h];go_enter Tryz.func229,Tryz.ntmps229;go_wp2_with fail
  go_ret;exact ⟨rfl,rfl⟩
 ·rw[decide_eq_false h];go_enter Tryz.func229,Tryz.ntmps229;go_wp2_with fail
  go_ret;exact ⟨rfl,rfl⟩
structure BidOk (l:LotR) (r:RiseR) (b:RiseB):Prop where
 right:zbs l r=true
 who:0≤b.bidder
 limit:zah b.limit
 free:0≤b.free
 now:zah b.now
 opens:l.opens≤b.now
 closes:b.now<r.closes
 least:zhg l r b.bidder≤b.limit
theorem zjb {l:LotR} {r:RiseR} {b:RiseB} (h:zb2 l r b=0):BidOk l r b:=by
 unfold zb2 at h
 split at h
 ·cases h
 ·rename_i a
  simp only[Bool.or_eq_true,Bool.not_eq_true',decide_eq_true_eq,not_or,Bool.not_eq_false,Int.not_lt,zaK] at a;obtain ⟨⟨⟨⟨c,d⟩,e⟩,f⟩,g⟩:=a
  split at h
  ·cases h
  ·rename_i i
   split at h
   ·cases h
   ·rename_i j
    exact ⟨c,d,e,f,g,by omega,by omega,by omega⟩
theorem zic (l:LotR) (r:RiseR) (b:RiseB) (hfr:b.free≤2305843009213693952) (w:World):Calls Tryz.prog 223 #[l.agg,r.agg,b.agg] w fun e w'=>e=.returned ↑(zb2 l r b:Int)∧Below w w w':=by
 have HC:=hid (fun w=>zjz l r w);have D:=hid (fun (h:zbs l r=true) w=>zn5 h b.bidder w);have J:=hid (fun (h:zbs l r=true)=>zfn h);obtain ⟨z,a⟩:=nm (zb2 l r b);rw[←a];unfold zb2 at a;obtain ⟨rr,U⟩:=nm (zbs l r);rw[←U] at a HC D J;obtain ⟨ls,T⟩:=nm (zhg l r b.bidder);rw[←T] at a D;obtain ⟨o,c,d,m,s,f,p,k,n,j,q⟩:=l;obtain ⟨H,x,Z,P⟩:=r;obtain ⟨N,F,A,O⟩:=b;simp only[LotR.agg,LotR.cells,RiseR.agg,RiseR.cells,RiseB.agg] at HC D J a hfr ⊢;obtain ⟨V,C⟩:=nm (((w.alloc (.cells #[o,c,d,m,s,f,p,k,n,j,q] 58)).alloc (.cells #[H,x,Z,P] 143)).alloc (.cells #[N,F,A,O] 312));have Q:=hid (show Below w w V by rw[C];exact ((qA _).alloc (by simp) _).alloc (by simp;omega) _);have R:=hid (show Blk V w 58 #[o,c,d,m,s,f,p,k,n,j,q] by rw[C];exact ((Blk.new w _ _).alloc _).alloc _);have S:=hid (show Blk V (w.heap.size+1) 143 #[H,x,Z,P] by rw[C];exact (Blk.new' _ _ (by simp)).alloc _);have M:=hid (show Blk V (w.heap.size+1+1) 312 #[N,F,A,O] by rw[C];exact Blk.new' _ _ (by simp));clear U T;go_enter Tryz.func223,Tryz.ntmps223;have z2:V.cell? ⟨w.heap.size+1+1,2,none⟩=some ↑A:=M.out.cell 2;have Y:=M.out.lt
 go_wp2_with (first
  |(rw[←C])
  |refine wpList_load_row rfl 58 (.tmp 3) rfl w.heap.size rfl 58 #[o,c,d,m,s,f,p,k,n,j,q] (0,0) _ R.out Tryz.underlying58 rfl (by kernel_rfl) ?_
  |refine wpList_load_row rfl 143 (.tmp 4) rfl (w.heap.size+1) rfl 143 #[H,x,Z,P] (0,0) _ S.out Tryz.underlying143 rfl (by kernel_rfl) ?_)
 refine (HC.out _).mono ?_;rintro e I ⟨rfl,B⟩;have i:=hid (Q.out.trans (B.mono Q.out.size));have K:=hid (R.out.grow B);have t:=hid (S.out.grow B);have v:=hid (M.out.grow B);clear B z2 Y;have z0:I.cell? ⟨w.heap.size+1+1,0,none⟩=some ↑N:=v.out.cell 0;have z1:I.cell? ⟨w.heap.size+1+1,1,none⟩=some ↑F:=v.out.cell 1;have z2:I.cell? ⟨w.heap.size+1+1,2,none⟩=some ↑A:=v.out.cell 2;have z3:I.cell? ⟨w.heap.size+1+1,3,none⟩=some ↑O:=v.out.cell 3;have Y:=v.out.lt;have y0:I.cell? ⟨w.heap.size+1,0,none⟩=some ↑H:=t.out.cell 0;have y1:I.cell? ⟨w.heap.size+1,1,none⟩=some ↑x:=t.out.cell 1;have y3:I.cell? ⟨w.heap.size+1,3,none⟩=some ↑P:=t.out.cell 3;have ly:=t.out.lt;have x1:I.cell? ⟨w,1,none⟩=some ↑c:=K.out.cell 1;have lx:=K.out.lt
 cases rr with
 |false=>
  have g:=hid (show z=2 from a.trans (if_pos (by simp)));go_wp2_with fail
  go_ret;exact ⟨by rw[g.out];first|rfl|simp[*],i.out⟩
 |true=>
  by_cases h2:N<0
  ·have g:=hid (show z=2 from a.trans (if_pos (by simp[h2])));go_wp2_with fail
   go_ret;exact ⟨by rw[g.out];first|rfl|simp[*],i.out⟩
  go_wp2_with fail
  refine (zeH F _).mono ?_;rintro e wc ⟨rfl,rfl⟩
  cases h3:zae F with
  |false=>
   have g:=hid (show z=2 from a.trans (if_pos (by simp[h3])));go_wp2_with fail
   go_ret;exact ⟨by rw[g.out];first|rfl|simp[*],i.out⟩
  |true=>
   by_cases h4:A<0
   ·have g:=hid (show z=2 from a.trans (if_pos (by simp[h4])));go_wp2_with fail
    go_ret;exact ⟨by rw[g.out];first|rfl|simp[*],i.out⟩
   go_wp2_with fail
   refine (zeg O _).mono ?_;rintro e wc ⟨rfl,rfl⟩
   cases h5:zae O with
   |false=>
    have g:=hid (show z=2 from a.trans (if_pos (by simp[h5])));go_wp2_with fail
    go_ret;exact ⟨by rw[g.out];first|rfl|simp[*],i.out⟩
   |true=>
    rw[if_neg (by simp[h2,h3,h4,h5])] at a;by_cases h6:O<c
    ·have g:=hid (show z=6 from a.trans (if_pos (.inl h6)));go_wp2_with fail
     go_ret;exact ⟨by rw[g.out];first|rfl|simp[*],i.out⟩
    by_cases h7:P≤O
    ·have g:=hid (show z=6 from a.trans (if_pos (.inr h7)));go_wp2_with fail
     go_ret;exact ⟨by rw[g.out];first|rfl|simp[*],i.out⟩
    rw[if_neg (by omega)] at a;have HLL:=hid (D.out (by trivial));have HRR:=hid (J.out (by trivial));have HZZ:=hid a;clear a
    go_wp2_with (first
     |refine wpList_load_row rfl 58 (.tmp 3) rfl w.heap.size rfl 58 #[o,c,d,m,s,f,p,k,n,j,q] (0,0) _ K.out Tryz.underlying58 rfl (by kernel_rfl) ?_
     |refine wpList_load_row rfl 143 (.tmp 4) rfl (w.heap.size+1) rfl 143 #[H,x,Z,P] (0,0) _ t.out Tryz.underlying143 rfl (by kernel_rfl) ?_)
    refine (HLL.out _).mono ?_;rintro e X ⟨rfl,G⟩;have y:=hid (i.out.trans (G.mono i.out.size));have L:=hid (t.out.grow G);have E:=hid (v.out.grow G);clear G z0 z1 z2 z3 y0 y1 y3 x1 lx ly Y;have z0:X.cell? ⟨w.heap.size+1+1,0,none⟩=some ↑N:=E.out.cell 0;have z1:X.cell? ⟨w.heap.size+1+1,1,none⟩=some ↑F:=E.out.cell 1;have z2:X.cell? ⟨w.heap.size+1+1,2,none⟩=some ↑A:=E.out.cell 2;have Y:=E.out.lt;have y0:X.cell? ⟨w.heap.size+1,0,none⟩=some ↑H:=L.out.cell 0;have y1:X.cell? ⟨w.heap.size+1,1,none⟩=some ↑x:=L.out.cell 1;have ly:=L.out.lt;go_wp2_with fail
    refine (zpw z1 ls).mono ?_;rintro e wc ⟨rfl,rfl⟩;have a:=HZZ.out;by_cases h8:F<ls
    ·have g:=hid (show z=7 from a.trans (if_pos h8));rw[decide_eq_true h8];clear a;go_wp2_with fail
     go_ret;exact ⟨by rw[g.out];first|rfl|simp[*],y.out⟩
    rw[decide_eq_false h8];rw[if_neg h8] at a;by_cases h9:N=H
    ·subst h9;rw[if_pos rfl] at a;have hli:=(HRR.out (by omega)).1;unfold zah at hli;rw[if_neg (by omega)] at a;have hmin:min x 4611686018427387903=x:=by omega
     have hw1:IntKind.i64.wrap (A+x)=A+x:=iW _ (by omega);have hd:decide (A+x<0)=false:=decide_eq_false (by omega);by_cases h10:A+x<F
     ·have g:=hid (show z=8 from a.trans (if_pos h10));clear a;go_wp2_with fail
      go_ret;exact ⟨by rw[g.out];first|rfl|simp[*],y.out⟩
     ·have g:=hid (show z=0 from a.trans (if_neg h10));clear a;go_wp2_with fail
      go_ret;exact ⟨by rw[g.out];first|rfl|simp[*],y.out⟩
    ·rw[if_neg h9] at a;have hbe:(N==H)=false:=by simpa using h9
     by_cases h10:A<F
     ·have g:=hid (show z=8 from a.trans (if_pos h10));clear a;go_wp2_with fail
      go_ret;exact ⟨by rw[g.out];first|rfl|simp[*],y.out⟩
     ·have g:=hid (show z=0 from a.trans (if_neg h10));clear a;go_wp2_with fail
      go_ret;exact ⟨by rw[g.out];first|rfl|simp[*],y.out⟩
theorem zrl (l:LotR) (r:RiseR) (b:RiseB) (y:b.free≤2305843009213693952) (S:zb2 l r b≠0) (w:World):Calls Tryz.prog 219 #[l.agg,r.agg,b.agg] w fun e w'=>e=.returned (.tuple #[.agg #[(),(),(),()],(zb2 l r b:Int)])∧Below w w w':=by
 have C:=hid (fun w=>zic l r b y w);obtain ⟨z,T⟩:=nm (zb2 l r b);rw[←T] at C S ⊢;clear T;obtain ⟨n,h,a,j,s,c,o,f,m,d,q⟩:=l;obtain ⟨O,P,Q,R⟩:=r;obtain ⟨H,J,I,K⟩:=b;simp only[LotR.agg,LotR.cells,RiseR.agg,RiseR.cells,RiseB.agg] at C y ⊢;obtain ⟨A,g⟩:=nm ((((w.alloc (.cells #[n,h,a,j,s,c,o,f,m,d,q] 58)).alloc (.cells #[O,P,Q,R] 143)).alloc (.cells #[H,J,I,K] 312)).alloc (.cells #[(),(),(),()] 143));have x:=hid (show Below w w A by rw[g];exact (((qA _).alloc (by simp) _).alloc (by simp;omega) _).alloc (by simp;omega) _);have E:=hid (show Blk A w 58 #[n,h,a,j,s,c,o,f,m,d,q] by rw[g];exact (((Blk.new w _ _).alloc _).alloc _).alloc _);have F:=hid (show Blk A (w.heap.size+1) 143 #[O,P,Q,R] by rw[g];exact ((Blk.new' _ _ (by simp)).alloc _).alloc _);have G:=hid (show Blk A (w.heap.size+1+1) 312 #[H,J,I,K] by rw[g];exact (Blk.new' _ _ (by simp)).alloc _);have D:=hid (show Blk A (w.heap.size+1+1+1) 143 #[(),(),(),()] by rw[g];exact Blk.new' _ _ (by simp));go_enter Tryz.func219,Tryz.ntmps219;have V:(z==0)=false:=by simpa using S
 go_wp2_with (first
  |(rw[←g])
  |refine wpList_load_row rfl 58 (.tmp 3) rfl w.heap.size rfl 58 #[n,h,a,j,s,c,o,f,m,d,q] (0,0) _ E.out Tryz.underlying58 rfl (by kernel_rfl) ?_
  |refine wpList_load_row rfl 143 (.tmp 4) rfl (w.heap.size+1) rfl 143 #[O,P,Q,R] (0,0) _ F.out Tryz.underlying143 rfl (by kernel_rfl) ?_
  |refine wpList_load_row rfl 312 (.tmp 5) rfl (w.heap.size+1+1) rfl 312 #[H,J,I,K] (0,0) _ G.out Tryz.underlying312 rfl (by kernel_rfl) ?_)
 clear g;refine (C.out _).mono ?_;rintro e v ⟨rfl,t⟩;have B:=hid (x.out.trans (t.mono x.out.size));have k:=hid (D.out.grow t);clear t;have X:v.cell? ⟨w.heap.size+1+1+1,0,none⟩=some ↑():=k.out.cell 0;have Y:v.cell? ⟨w.heap.size+1+1+1,1,none⟩=some ↑():=k.out.cell 1;have Z:v.cell? ⟨w.heap.size+1+1+1,2,none⟩=some ↑():=k.out.cell 2;have o3:v.cell? ⟨w.heap.size+1+1+1,3,none⟩=some ↑():=k.out.cell 3;have of:∀i,v.frozen? ⟨w.heap.size+1+1+1,i,none⟩=false:=k.out.frozen;go_wp2_with fail
 obtain ⟨U,N⟩:=nm ((((v.setCell ⟨w.heap.size+1+1+1,0,none⟩ ↑()).setCell ⟨w.heap.size+1+1+1,1,none⟩ ↑()).setCell ⟨w.heap.size+1+1+1,2,none⟩ ↑()).setCell ⟨w.heap.size+1+1+1,3,none⟩ ↑());rw[←N];have M:Blk U (w.heap.size+1+1+1) 143 #[(),(),(),()]:=by rw[N];exact (((k.out.set_ 0 _).set_ 1 _).set_ 2 _).set_ 3 _
 have L:Below w w U:=by rw[N];exact ((((B.out.setCell (p:=⟨w.heap.size+1+1+1,0,none⟩) (by simp;omega) _).setCell (p:=⟨w.heap.size+1+1+1,1,none⟩) (by simp;omega) _).setCell (p:=⟨w.heap.size+1+1+1,2,none⟩) (by simp;omega) _).setCell (p:=⟨w.heap.size+1+1+1,3,none⟩) (by simp;omega) _)
 refine bodyPost_ret (zaJ rfl _ _ (w.heap.size+1+1+1) 143 #[(),(),(),()] (0,0) _ rfl M Tryz.underlying143 rfl (by kernel_rfl)) rfl ⟨?_,?_⟩
 ·rfl
 ·exact L
theorem zsM (l:LotR) (r:RiseR) (b:RiseB) (hfr:b.free≤2305843009213693952) (he:zb2 l r b=0) (w:World):Calls Tryz.prog 219 #[l.agg,r.agg,b.agg] w fun e w'=>e=.returned (.tuple #[(zgh l r b).agg,()])∧Below w w w':=by
 have HC:=hid (fun w=>zic l r b hfr w);rw[he] at HC;have hbo:=zjb he;have hlo:=zhq (zgE hbo.right);have hrb:=fun h=>zfn hbo.right h;have hrn:=fun h=>zio hbo.right h;obtain ⟨q,hq⟩:=nm (zgh l r b);rw[←hq];unfold zgh at hq;have b0:=hbo.who;have b1:=hbo.limit;have b2:=hbo.now;have b3:=hbo.closes
 have c1:=hlo.closes;have c2:=hlo.step;have c3:=hlo.extend;have c4:=hlo.last;have c5:=hlo.start
 clear hbo hlo he;obtain ⟨kind,P,J,n,c,a,g,O,Z,N,rule⟩:=l;obtain ⟨m,d,o,j⟩:=r;obtain ⟨D,f,bf,y⟩:=b;simp only[LotR.agg,LotR.cells,RiseR.agg,RiseR.cells,RiseB.agg,zea] at HC hfr hq hrb hrn b0 b1 b2 b3 c1 c2 c3 c4 c5 ⊢;unfold zah at b1 b2 c1 c2 c3 c4 c5 hrb;have hrc:0≤j∧j≤1099511627776:=by
  by_cases h:m<0
  ·have:=hrn h;injection this with _ _ _ h4
   omega
  ·have:=hrb (by omega)
   omega
 have w1:IntKind.i64.wrap (j-y)=j-y:=iW _ (by omega);have w2:IntKind.i64.wrap (y+a)=y+a:=iW _ (by omega);have w3:IntKind.i64.wrap (f+c)=f+c:=iW _ (by omega);obtain ⟨w4,hw4⟩:=nm ((((w.alloc (.cells #[kind,P,J,n,c,a,g,O,Z,N,rule] 58)).alloc (.cells #[m,d,o,j] 143)).alloc (.cells #[D,f,bf,y] 312)).alloc (.cells #[(),(),(),()] 143));have HB4:=hid (show Below w w w4 by rw[hw4];exact (((qA _).alloc (by simp) _).alloc (by simp;omega) _).alloc (by simp;omega) _);have HX4:=hid (show Blk w4 w 58 #[kind,P,J,n,c,a,g,O,Z,N,rule] by rw[hw4];exact (((Blk.new w _ _).alloc _).alloc _).alloc _);have HY4:=hid (show Blk w4 (w.heap.size+1) 143 #[m,d,o,j] by rw[hw4];exact ((Blk.new' _ _ (by simp)).alloc _).alloc _);have HZ4:=hid (show Blk w4 (w.heap.size+1+1) 312 #[D,f,bf,y] by rw[hw4];exact (Blk.new' _ _ (by simp)).alloc _);have HO4:=hid (show Blk w4 (w.heap.size+1+1+1) 143 #[(),(),(),()] by rw[hw4];exact Blk.new' _ _ (by simp));go_enter Tryz.func219,Tryz.ntmps219
 go_wp2_with (first
  |(rw[←hw4])
  |(refine wpList_load_row rfl 58 (.tmp 3) rfl w.heap.size rfl 58 #[kind,P,J,n,c,a,g,O,Z,N,rule] (0,0) _ HX4.out Tryz.underlying58 rfl (by kernel_rfl) ?_)
  |(refine wpList_load_row rfl 143 (.tmp 4) rfl (w.heap.size+1) rfl 143 #[m,d,o,j] (0,0) _ HY4.out Tryz.underlying143 rfl (by kernel_rfl) ?_)
  |(refine wpList_load_row rfl 312 (.tmp 5) rfl (w.heap.size+1+1) rfl 312 #[D,f,bf,y] (0,0) _ HZ4.out Tryz.underlying312 rfl (by kernel_rfl) ?_))
 clear hw4;refine (HC.out _).mono ?_;rintro e s ⟨rfl,hb5⟩;have HB5:=hid (HB4.out.trans (hb5.mono HB4.out.size));have HX5:=hid (HX4.out.grow hb5);have HY5:=hid (HY4.out.grow hb5);have HZ5:=hid (HZ4.out.grow hb5);have HO5:=hid (HO4.out.grow hb5);clear hb5;obtain ⟨I,t⟩:=nm (s.alloc (.cells #[m,d,o,j] 143));have hb6:Below s s I:=by rw[t];exact qA _
 have HB6:=hid (HB5.out.trans (hb6.mono HB5.out.size));have HX6:=hid (HX5.out.grow hb6);have S:=hid (HY5.out.grow hb6);have HZ6:=hid (HZ5.out.grow hb6);have HO6:=hid (HO5.out.grow hb6);have HE6:=hid (show Blk I s 143 #[m,d,o,j] by rw[t];exact Blk.new _ _ _);have y0:I.cell? ⟨w.heap.size+1,0,none⟩=some ↑m:=S.out.cell 0;have y1:I.cell? ⟨w.heap.size+1,1,none⟩=some ↑d:=S.out.cell 1;have y2:I.cell? ⟨w.heap.size+1,2,none⟩=some ↑o:=S.out.cell 2;have z0:I.cell? ⟨w.heap.size+1+1,0,none⟩=some ↑D:=HZ6.out.cell 0;have z1:I.cell? ⟨w.heap.size+1+1,1,none⟩=some ↑f:=HZ6.out.cell 1;have x3:I.cell? ⟨w,3,none⟩=some ↑n:=HX6.out.cell 3;have x4:I.cell? ⟨w,4,none⟩=some ↑c:=HX6.out.cell 4;have e1:I.cell? ⟨s,1,none⟩=some ↑d:=HE6.out.cell 1;have yf:∀i,I.frozen? ⟨w.heap.size+1,i,none⟩=false:=S.out.frozen;have ly:=S.out.lt;have lz:=HZ6.out.lt;have lx:=HX6.out.lt;have le:=HE6.out.lt;have ho5:=HO5.out.lt;have ya0:=show (s.alloc (.cells #[m,d,o,j] 143)).cell? ⟨w.heap.size+1,0,none⟩=some ↑m from t▸y0
 have ya1:=show (s.alloc (.cells #[m,d,o,j] 143)).cell? ⟨w.heap.size+1,1,none⟩=some ↑d from t▸y1
 have ya2:=show (s.alloc (.cells #[m,d,o,j] 143)).cell? ⟨w.heap.size+1,2,none⟩=some ↑o from t▸y2
 have za0:=show (s.alloc (.cells #[m,d,o,j] 143)).cell? ⟨w.heap.size+1+1,0,none⟩=some ↑D from t▸z0
 have za1:=show (s.alloc (.cells #[m,d,o,j] 143)).cell? ⟨w.heap.size+1+1,1,none⟩=some ↑f from t▸z1
 have yfa:=show ∀i,(s.alloc (.cells #[m,d,o,j] 143)).frozen? ⟨w.heap.size+1,i,none⟩=false from t▸yf
 clear hb6;by_cases hl:m<0
 ·have M:=hid (show q=(if j-y<a then ⟨D,f,n,min (y+a) g⟩ else ⟨D,f,n,j⟩) by rw[hq,if_pos hl]);clear hq hrb hrn
  go_wp2_with (refine wpList_load_row rfl 143 (.tmp 4) rfl (w.heap.size+1) rfl 143 #[m,d,o,j] (0,0) _ HY5.out Tryz.underlying143 rfl (by kernel_rfl) ?_)
  rw[←t];obtain ⟨V,L⟩:=nm ((((I.setCell ⟨w.heap.size+1,0,none⟩ ↑D).setCell ⟨w.heap.size+1,1,none⟩ ↑f).setCell ⟨w.heap.size+1,2,none⟩ ↑n).drew);have x:Chg (·=w.heap.size+1) I V:=by rw[L];exact (((Chg.set I ⟨w.heap.size+1,0,none⟩ _).trans (Chg.set _ ⟨w.heap.size+1,1,none⟩ _)).trans (Chg.set _ ⟨w.heap.size+1,2,none⟩ _)).grow bR.drew
  have E:=hid (show Blk V (w.heap.size+1) 143 #[D,f,n,j] by rw[L];exact (((S.out.set_ 0 _).set_ 1 _).set_ 2 _).drewN 1);have Q:=hid (HB6.out.trans (x.below (B:=w.heap.size) (by omega) fun k hk e=>by omega));have R:=hid (HX6.out.chg x (by omega));have HZV:=hid (HZ6.out.chg x (by omega));have z:=hid (HO6.out.chg x (by omega));have HVV:=hid L;clear yfa ya0 ya1 ya2 za0 za1 t L x;refine zac (Chg (·=w.heap.size+1) I) [] (by kernel_rfl) ((Chg.refl _ I).grow bR.drew) (fun A=>?_);refine tp 0 A ?_;have qq:=hid fun (w':World) (hSw:(Chg (·=w.heap.size+1) I) w')=>And.intro (cg hSw z0 lz (by show ¬w.heap.size+1+1=w.heap.size+1;omega))<|And.intro (cg hSw z1 lz (by show ¬w.heap.size+1+1=w.heap.size+1;omega))<|cg hSw x3 lx (by show ¬w.heap.size=w.heap.size+1;omega);refine tl 1 A qq ?_;refine tp 2 A ?_;refine tl 3 A qq ?_;refine tp 4 A ?_;refine tl 5 A qq ?_;refine tp 6 A ?_;refine stp 7 fun K hK=>?_;go_simp;refine hK.out _ _ ?_ (fun A=>?_)
  ·exact A.trans (Chg.set _ ⟨w.heap.size+1,0,none⟩ _)
  clear hK K
  try simp only[Act.put,pb,pz,ps]
  refine tp 8 A ?_;refine stp 9 fun K hK=>?_;go_simp;refine hK.out _ _ ?_ (fun A=>?_)
  ·exact A.trans (Chg.set _ ⟨w.heap.size+1,1,none⟩ _)
  clear hK K
  try simp only[Act.put,pb,pz,ps]
  refine tp 10 A ?_;refine stp 11 fun K hK=>?_;go_simp;rw[←HVV.out];refine hK.out _ _ ?_ (fun A=>?_)
  ·rw[HVV.out];exact (((Chg.set I ⟨w.heap.size+1,0,none⟩ _).trans (Chg.set _ ⟨w.heap.size+1,1,none⟩ _)).trans (Chg.set _ ⟨w.heap.size+1,2,none⟩ _)).grow bR.drew
  clear hK K
  try simp only[Act.put,pb,pz,ps]
  refine zaa (by kernel_rfl) ?_ _;clear A y0 y1 y2 z0 z1 x3 x4 e1 yf ly lz lx le;have y3:V.cell? ⟨w.heap.size+1,3,none⟩=some ↑j:=E.out.cell 3;have y0:V.cell? ⟨w.heap.size+1,0,none⟩=some ↑D:=E.out.cell 0;have y1:V.cell? ⟨w.heap.size+1,1,none⟩=some ↑f:=E.out.cell 1;have y2:V.cell? ⟨w.heap.size+1,2,none⟩=some ↑n:=E.out.cell 2;have yf:∀i,V.frozen? ⟨w.heap.size+1,i,none⟩=false:=E.out.frozen;have z3:V.cell? ⟨w.heap.size+1+1,3,none⟩=some ↑y:=HZV.out.cell 3;have x5:V.cell? ⟨w,5,none⟩=some ↑a:=R.out.cell 5;have x6:V.cell? ⟨w,6,none⟩=some ↑g:=R.out.cell 6;have o0:V.cell? ⟨w.heap.size+1+1+1,0,none⟩=some ↑():=z.out.cell 0;have o1:V.cell? ⟨w.heap.size+1+1+1,1,none⟩=some ↑():=z.out.cell 1;have o2:V.cell? ⟨w.heap.size+1+1+1,2,none⟩=some ↑():=z.out.cell 2;have o3:V.cell? ⟨w.heap.size+1+1+1,3,none⟩=some ↑():=z.out.cell 3;have of:∀i,V.frozen? ⟨w.heap.size+1+1+1,i,none⟩=false:=z.out.frozen;by_cases hx:j-y<a
  ·have HQ:=hid (show q=⟨D,f,n,min (y+a) g⟩ from M.out.trans (if_pos hx));obtain ⟨X,hX⟩:=nm (V.setCell ⟨w.heap.size+1,3,none⟩ ↑(min (y+a) g:Int));have HOX:=hid (show Blk X (w.heap.size+1+1+1) 143 #[(),(),(),()] by rw[hX];exact z.out.far (by show w.heap.size+1+1+1≠w.heap.size+1;omega) _);have HBX:=hid (show Below w w X by rw[hX];exact Q.out.setCell (p:=⟨w.heap.size+1,3,none⟩) (by simp<;>omega) _);go_wp2_with fail
   rw[←hX];obtain ⟨U,H⟩:=nm ((((X.setCell ⟨w.heap.size+1+1+1,0,none⟩ ↑D).setCell ⟨w.heap.size+1+1+1,1,none⟩ ↑f).setCell ⟨w.heap.size+1+1+1,2,none⟩ ↑n).setCell ⟨w.heap.size+1+1+1,3,none⟩ ↑(min (y+a) g:Int));rw[←H];have G:Blk U (w.heap.size+1+1+1) 143 #[D,f,n,(min (y+a) g:Int)]:=by rw[H];exact (((HOX.out.set_ 0 _).set_ 1 _).set_ 2 _).set_ 3 _
   have F:Below w w U:=by rw[H];exact ((((HBX.out.setCell (p:=⟨w.heap.size+1+1+1,0,none⟩) (by simp<;>omega) _).setCell (p:=⟨w.heap.size+1+1+1,1,none⟩) (by simp<;>omega) _).setCell (p:=⟨w.heap.size+1+1+1,2,none⟩) (by simp<;>omega) _).setCell (p:=⟨w.heap.size+1+1+1,3,none⟩) (by simp<;>omega) _)
   refine bodyPost_ret (zaJ rfl _ _ (w.heap.size+1+1+1) 143 #[D,f,n,(min (y+a) g:Int)] (0,0) _ rfl G Tryz.underlying143 rfl (by kernel_rfl)) rfl ⟨?_,?_⟩
   ·rw[HQ.out];rfl
   ·exact F
  ·have HQ:=hid (show q=⟨D,f,n,j⟩ from M.out.trans (if_neg hx));go_wp2_with fail
   obtain ⟨U,H⟩:=nm ((((V.setCell ⟨w.heap.size+1+1+1,0,none⟩ ↑D).setCell ⟨w.heap.size+1+1+1,1,none⟩ ↑f).setCell ⟨w.heap.size+1+1+1,2,none⟩ ↑n).setCell ⟨w.heap.size+1+1+1,3,none⟩ ↑j);rw[←H];have G:Blk U (w.heap.size+1+1+1) 143 #[D,f,n,j]:=by rw[H];exact (((z.out.set_ 0 _).set_ 1 _).set_ 2 _).set_ 3 _
   have F:Below w w U:=by rw[H];exact ((((Q.out.setCell (p:=⟨w.heap.size+1+1+1,0,none⟩) (by simp<;>omega) _).setCell (p:=⟨w.heap.size+1+1+1,1,none⟩) (by simp<;>omega) _).setCell (p:=⟨w.heap.size+1+1+1,2,none⟩) (by simp<;>omega) _).setCell (p:=⟨w.heap.size+1+1+1,3,none⟩) (by simp<;>omega) _)
   refine bodyPost_ret (zaJ rfl _ _ (w.heap.size+1+1+1) 143 #[D,f,n,j] (0,0) _ rfl G Tryz.underlying143 rfl (by kernel_rfl)) rfl ⟨?_,?_⟩
   ·rw[HQ.out];rfl
   ·exact F
 ·have hbl:=hrb (by omega);have wls:IntKind.i64.wrap (d+c)=d+c:=iW _ (by omega);by_cases hb:m=D
  ·subst hb;have M:=hid (show q=(if j-y<a then ⟨m,f,o,min (y+a) g⟩ else ⟨m,f,o,j⟩) by rw[hq,if_neg hl,if_pos rfl]);obtain ⟨V,L⟩:=nm (I.setCell ⟨w.heap.size+1,1,none⟩ ↑f);have x:Chg (·=w.heap.size+1) I V:=by rw[L];exact Chg.set I ⟨w.heap.size+1,1,none⟩ _
   have E:=hid (show Blk V (w.heap.size+1) 143 #[m,f,o,j] by rw[L];exact S.out.set_ 1 _);have Q:=hid (HB6.out.trans (x.below (B:=w.heap.size) (by omega) fun k hk e=>by omega));have R:=hid (HX6.out.chg x (by omega));have HZV:=hid (HZ6.out.chg x (by omega));have z:=hid (HO6.out.chg x (by omega));have hyl:(m==m)=true:=by simp
   have C:=hid (show Blk ((s.alloc (.cells #[m,d,o,j] 143)).setCell ⟨w.heap.size+1,1,none⟩ ↑f) (w.heap.size+1) 143 #[m,f,o,j] by rw[←t,←L];exact E.out);have T:=hid (show Below w w ((s.alloc (.cells #[m,d,o,j] 143)).setCell ⟨w.heap.size+1,1,none⟩ ↑f) by rw[←t,←L];exact Q.out);have Y:=hid (show Blk ((s.alloc (.cells #[m,d,o,j] 143)).setCell ⟨w.heap.size+1,1,none⟩ ↑f) w.heap.size 58 #[kind,P,J,n,c,a,g,O,Z,N,rule] by rw[←t,←L];exact R.out);have HZVE:=hid (show Blk ((s.alloc (.cells #[m,d,o,j] 143)).setCell ⟨w.heap.size+1,1,none⟩ ↑f) (w.heap.size+1+1) 312 #[m,f,bf,y] by rw[←t,←L];exact HZV.out);have v:=hid (show Blk ((s.alloc (.cells #[m,d,o,j] 143)).setCell ⟨w.heap.size+1,1,none⟩ ↑f) (w.heap.size+1+1+1) 143 #[(),(),(),()] by rw[←t,←L];exact z.out);clear hq hrb hrn x t L y0 y1 y2 z0 z1 x3 x4 e1 yf ly lz lx le;have y3:((s.alloc (.cells #[m,d,o,j] 143)).setCell ⟨w.heap.size+1,1,none⟩ ↑f).cell? ⟨w.heap.size+1,3,none⟩=some ↑j:=C.out.cell 3;have y0:((s.alloc (.cells #[m,d,o,j] 143)).setCell ⟨w.heap.size+1,1,none⟩ ↑f).cell? ⟨w.heap.size+1,0,none⟩=some ↑m:=C.out.cell 0;have y1:((s.alloc (.cells #[m,d,o,j] 143)).setCell ⟨w.heap.size+1,1,none⟩ ↑f).cell? ⟨w.heap.size+1,1,none⟩=some ↑f:=C.out.cell 1;have y2:((s.alloc (.cells #[m,d,o,j] 143)).setCell ⟨w.heap.size+1,1,none⟩ ↑f).cell? ⟨w.heap.size+1,2,none⟩=some ↑o:=C.out.cell 2;have yf:∀i,((s.alloc (.cells #[m,d,o,j] 143)).setCell ⟨w.heap.size+1,1,none⟩ ↑f).frozen? ⟨w.heap.size+1,i,none⟩=false:=C.out.frozen;have z3:((s.alloc (.cells #[m,d,o,j] 143)).setCell ⟨w.heap.size+1,1,none⟩ ↑f).cell? ⟨w.heap.size+1+1,3,none⟩=some ↑y:=HZVE.out.cell 3;have x5:((s.alloc (.cells #[m,d,o,j] 143)).setCell ⟨w.heap.size+1,1,none⟩ ↑f).cell? ⟨w,5,none⟩=some ↑a:=Y.out.cell 5;have x6:((s.alloc (.cells #[m,d,o,j] 143)).setCell ⟨w.heap.size+1,1,none⟩ ↑f).cell? ⟨w,6,none⟩=some ↑g:=Y.out.cell 6;have o0:((s.alloc (.cells #[m,d,o,j] 143)).setCell ⟨w.heap.size+1,1,none⟩ ↑f).cell? ⟨w.heap.size+1+1+1,0,none⟩=some ↑():=v.out.cell 0;have o1:((s.alloc (.cells #[m,d,o,j] 143)).setCell ⟨w.heap.size+1,1,none⟩ ↑f).cell? ⟨w.heap.size+1+1+1,1,none⟩=some ↑():=v.out.cell 1;have o2:((s.alloc (.cells #[m,d,o,j] 143)).setCell ⟨w.heap.size+1,1,none⟩ ↑f).cell? ⟨w.heap.size+1+1+1,2,none⟩=some ↑():=v.out.cell 2;have o3:((s.alloc (.cells #[m,d,o,j] 143)).setCell ⟨w.heap.size+1,1,none⟩ ↑f).cell? ⟨w.heap.size+1+1+1,3,none⟩=some ↑():=v.out.cell 3;have of:∀i,((s.alloc (.cells #[m,d,o,j] 143)).setCell ⟨w.heap.size+1,1,none⟩ ↑f).frozen? ⟨w.heap.size+1+1+1,i,none⟩=false:=v.out.frozen;by_cases hx:j-y<a
   ·have HQ:=hid (show q=⟨m,f,o,min (y+a) g⟩ from M.out.trans (if_pos hx));obtain ⟨X,hX⟩:=nm (((s.alloc (.cells #[m,d,o,j] 143)).setCell ⟨w.heap.size+1,1,none⟩ ↑f).setCell ⟨w.heap.size+1,3,none⟩ ↑(min (y+a) g:Int));have HOX:=hid (show Blk X (w.heap.size+1+1+1) 143 #[(),(),(),()] by rw[hX];exact v.out.far (by show w.heap.size+1+1+1≠w.heap.size+1;omega) _);have HBX:=hid (show Below w w X by rw[hX];exact T.out.setCell (p:=⟨w.heap.size+1,3,none⟩) (by simp<;>omega) _)
    go_wp2_with (refine wpList_load_row rfl 143 (.tmp 4) rfl (w.heap.size+1) rfl 143 #[m,d,o,j] (0,0) _ HY5.out Tryz.underlying143 rfl (by kernel_rfl) ?_)
    rw[←hX];obtain ⟨U,H⟩:=nm ((((X.setCell ⟨w.heap.size+1+1+1,0,none⟩ ↑m).setCell ⟨w.heap.size+1+1+1,1,none⟩ ↑f).setCell ⟨w.heap.size+1+1+1,2,none⟩ ↑o).setCell ⟨w.heap.size+1+1+1,3,none⟩ ↑(min (y+a) g:Int));rw[←H];have G:Blk U (w.heap.size+1+1+1) 143 #[m,f,o,(min (y+a) g:Int)]:=by rw[H];exact (((HOX.out.set_ 0 _).set_ 1 _).set_ 2 _).set_ 3 _
    have F:Below w w U:=by rw[H];exact ((((HBX.out.setCell (p:=⟨w.heap.size+1+1+1,0,none⟩) (by simp<;>omega) _).setCell (p:=⟨w.heap.size+1+1+1,1,none⟩) (by simp<;>omega) _).setCell (p:=⟨w.heap.size+1+1+1,2,none⟩) (by simp<;>omega) _).setCell (p:=⟨w.heap.size+1+1+1,3,none⟩) (by simp<;>omega) _)
    refine bodyPost_ret (zaJ rfl _ _ (w.heap.size+1+1+1) 143 #[m,f,o,(min (y+a) g:Int)] (0,0) _ rfl G Tryz.underlying143 rfl (by kernel_rfl)) rfl ⟨?_,?_⟩
    ·rw[HQ.out];rfl
    ·exact F
   ·have HQ:=hid (show q=⟨m,f,o,j⟩ from M.out.trans (if_neg hx))
    go_wp2_with (refine wpList_load_row rfl 143 (.tmp 4) rfl (w.heap.size+1) rfl 143 #[m,d,o,j] (0,0) _ HY5.out Tryz.underlying143 rfl (by kernel_rfl) ?_)
    obtain ⟨U,H⟩:=nm ((((((s.alloc (.cells #[m,d,o,j] 143)).setCell ⟨w.heap.size+1,1,none⟩ ↑f).setCell ⟨w.heap.size+1+1+1,0,none⟩ ↑m).setCell ⟨w.heap.size+1+1+1,1,none⟩ ↑f).setCell ⟨w.heap.size+1+1+1,2,none⟩ ↑o).setCell ⟨w.heap.size+1+1+1,3,none⟩ ↑j);rw[←H];have G:Blk U (w.heap.size+1+1+1) 143 #[m,f,o,j]:=by rw[H];exact (((v.out.set_ 0 _).set_ 1 _).set_ 2 _).set_ 3 _
    have F:Below w w U:=by rw[H];exact ((((T.out.setCell (p:=⟨w.heap.size+1+1+1,0,none⟩) (by simp<;>omega) _).setCell (p:=⟨w.heap.size+1+1+1,1,none⟩) (by simp<;>omega) _).setCell (p:=⟨w.heap.size+1+1+1,2,none⟩) (by simp<;>omega) _).setCell (p:=⟨w.heap.size+1+1+1,3,none⟩) (by simp<;>omega) _)
    refine bodyPost_ret (zaJ rfl _ _ (w.heap.size+1+1+1) 143 #[m,f,o,j] (0,0) _ rfl G Tryz.underlying143 rfl (by kernel_rfl)) rfl ⟨?_,?_⟩
    ·rw[HQ.out];rfl
    ·exact F
  ·have hbe:(m==D)=false:=by simpa using hb
   by_cases hg:d<f
   ·have M:=hid (show q=(if j-y<a then ⟨D,f,min (d+c) f,min (y+a) g⟩ else ⟨D,f,min (d+c) f,j⟩) by rw[hq,if_neg hl,if_neg hb,if_pos hg]);have hg2:f>d:=hg;clear hq hrb hrn
    go_wp2_with (refine wpList_load_row rfl 143 (.tmp 4) rfl (w.heap.size+1) rfl 143 #[m,d,o,j] (0,0) _ HY5.out Tryz.underlying143 rfl (by kernel_rfl) ?_)
    rw[←t];obtain ⟨V,L⟩:=nm ((((I.setCell ⟨w.heap.size+1,0,none⟩ ↑D).setCell ⟨w.heap.size+1,1,none⟩ ↑f).setCell ⟨w.heap.size+1,2,none⟩ ↑(min (d+c) f:Int)).drew);have x:Chg (·=w.heap.size+1) I V:=by rw[L];exact (((Chg.set I ⟨w.heap.size+1,0,none⟩ _).trans (Chg.set _ ⟨w.heap.size+1,1,none⟩ _)).trans (Chg.set _ ⟨w.heap.size+1,2,none⟩ _)).grow bR.drew
    have E:=hid (show Blk V (w.heap.size+1) 143 #[D,f,(min (d+c) f:Int),j] by rw[L];exact (((S.out.set_ 0 _).set_ 1 _).set_ 2 _).drewN 1);have Q:=hid (HB6.out.trans (x.below (B:=w.heap.size) (by omega) fun k hk e=>by omega));have R:=hid (HX6.out.chg x (by omega));have HZV:=hid (HZ6.out.chg x (by omega));have z:=hid (HO6.out.chg x (by omega));have HVV:=hid L;clear yfa ya0 ya1 ya2 za0 za1 t L x hbe;refine zac (Chg (·=w.heap.size+1) I) [] (by kernel_rfl) ((Chg.refl _ I).grow bR.drew) (fun A=>?_);refine tp 0 A ?_;have qq:=hid fun (w':World) (hSw:(Chg (·=w.heap.size+1) I) w')=>And.intro (cg hSw z0 lz (by show ¬w.heap.size+1+1=w.heap.size+1;omega))<|And.intro (cg hSw z1 lz (by show ¬w.heap.size+1+1=w.heap.size+1;omega))<|And.intro (cg hSw x4 lx (by show ¬w.heap.size=w.heap.size+1;omega))<|cg hSw e1 le (by show ¬s.heap.size=w.heap.size+1;omega);refine tl 1 A qq ?_;refine tp 2 A ?_;refine tl 3 A qq ?_;refine tp 4 A ?_;refine tl 5 A qq ?_;refine tp 6 A ?_;refine tl 7 A qq ?_;refine tp 8 A ?_;refine tp 9 A ?_;refine tl 10 A qq ?_;refine tp 11 A ?_;refine tp 12 A ?_;refine stp 13 fun K hK=>?_;go_simp;refine hK.out _ _ ?_ (fun A=>?_)
    ·exact A.trans (Chg.set _ ⟨w.heap.size+1,0,none⟩ _)
    clear hK K
    try simp only[Act.put,pb,pz,ps]
    refine tp 14 A ?_;refine stp 15 fun K hK=>?_;go_simp;refine hK.out _ _ ?_ (fun A=>?_)
    ·exact A.trans (Chg.set _ ⟨w.heap.size+1,1,none⟩ _)
    clear hK K
    try simp only[Act.put,pb,pz,ps]
    refine tp 16 A ?_;refine stp 17 fun K hK=>?_;go_simp;rw[←HVV.out];refine hK.out _ _ ?_ (fun A=>?_)
    ·rw[HVV.out];exact (((Chg.set I ⟨w.heap.size+1,0,none⟩ _).trans (Chg.set _ ⟨w.heap.size+1,1,none⟩ _)).trans (Chg.set _ ⟨w.heap.size+1,2,none⟩ _)).grow bR.drew
    clear hK K
    try simp only[Act.put,pb,pz,ps]
    refine zaa (by kernel_rfl) ?_ _;clear A y0 y1 y2 z0 z1 x3 x4 e1 yf ly lz lx le;have y3:V.cell? ⟨w.heap.size+1,3,none⟩=some ↑j:=E.out.cell 3;have y0:V.cell? ⟨w.heap.size+1,0,none⟩=some ↑D:=E.out.cell 0;have y1:V.cell? ⟨w.heap.size+1,1,none⟩=some ↑f:=E.out.cell 1;have y2:V.cell? ⟨w.heap.size+1,2,none⟩=some ↑(min (d+c) f:Int):=E.out.cell 2;have yf:∀i,V.frozen? ⟨w.heap.size+1,i,none⟩=false:=E.out.frozen;have z3:V.cell? ⟨w.heap.size+1+1,3,none⟩=some ↑y:=HZV.out.cell 3;have x5:V.cell? ⟨w,5,none⟩=some ↑a:=R.out.cell 5;have x6:V.cell? ⟨w,6,none⟩=some ↑g:=R.out.cell 6;have o0:V.cell? ⟨w.heap.size+1+1+1,0,none⟩=some ↑():=z.out.cell 0;have o1:V.cell? ⟨w.heap.size+1+1+1,1,none⟩=some ↑():=z.out.cell 1;have o2:V.cell? ⟨w.heap.size+1+1+1,2,none⟩=some ↑():=z.out.cell 2;have o3:V.cell? ⟨w.heap.size+1+1+1,3,none⟩=some ↑():=z.out.cell 3;have of:∀i,V.frozen? ⟨w.heap.size+1+1+1,i,none⟩=false:=z.out.frozen;by_cases hx:j-y<a
    ·have HQ:=hid (show q=⟨D,f,(min (d+c) f),min (y+a) g⟩ from M.out.trans (if_pos hx));obtain ⟨X,hX⟩:=nm (V.setCell ⟨w.heap.size+1,3,none⟩ ↑(min (y+a) g:Int));have HOX:=hid (show Blk X (w.heap.size+1+1+1) 143 #[(),(),(),()] by rw[hX];exact z.out.far (by show w.heap.size+1+1+1≠w.heap.size+1;omega) _);have HBX:=hid (show Below w w X by rw[hX];exact Q.out.setCell (p:=⟨w.heap.size+1,3,none⟩) (by simp<;>omega) _);go_wp2_with fail
     rw[←hX];obtain ⟨U,H⟩:=nm ((((X.setCell ⟨w.heap.size+1+1+1,0,none⟩ ↑D).setCell ⟨w.heap.size+1+1+1,1,none⟩ ↑f).setCell ⟨w.heap.size+1+1+1,2,none⟩ ↑(min (d+c) f:Int)).setCell ⟨w.heap.size+1+1+1,3,none⟩ ↑(min (y+a) g:Int));rw[←H];have G:Blk U (w.heap.size+1+1+1) 143 #[D,f,(min (d+c) f:Int),(min (y+a) g:Int)]:=by rw[H];exact (((HOX.out.set_ 0 _).set_ 1 _).set_ 2 _).set_ 3 _
     have F:Below w w U:=by rw[H];exact ((((HBX.out.setCell (p:=⟨w.heap.size+1+1+1,0,none⟩) (by simp<;>omega) _).setCell (p:=⟨w.heap.size+1+1+1,1,none⟩) (by simp<;>omega) _).setCell (p:=⟨w.heap.size+1+1+1,2,none⟩) (by simp<;>omega) _).setCell (p:=⟨w.heap.size+1+1+1,3,none⟩) (by simp<;>omega) _)
     refine bodyPost_ret (zaJ rfl _ _ (w.heap.size+1+1+1) 143 #[D,f,(min (d+c) f:Int),(min (y+a) g:Int)] (0,0) _ rfl G Tryz.underlying143 rfl (by kernel_rfl)) rfl ⟨?_,?_⟩
     ·rw[HQ.out];rfl
     ·exact F
    ·have HQ:=hid (show q=⟨D,f,(min (d+c) f),j⟩ from M.out.trans (if_neg hx));go_wp2_with fail
     obtain ⟨U,H⟩:=nm ((((V.setCell ⟨w.heap.size+1+1+1,0,none⟩ ↑D).setCell ⟨w.heap.size+1+1+1,1,none⟩ ↑f).setCell ⟨w.heap.size+1+1+1,2,none⟩ ↑(min (d+c) f:Int)).setCell ⟨w.heap.size+1+1+1,3,none⟩ ↑j);rw[←H];have G:Blk U (w.heap.size+1+1+1) 143 #[D,f,(min (d+c) f:Int),j]:=by rw[H];exact (((z.out.set_ 0 _).set_ 1 _).set_ 2 _).set_ 3 _
     have F:Below w w U:=by rw[H];exact ((((Q.out.setCell (p:=⟨w.heap.size+1+1+1,0,none⟩) (by simp<;>omega) _).setCell (p:=⟨w.heap.size+1+1+1,1,none⟩) (by simp<;>omega) _).setCell (p:=⟨w.heap.size+1+1+1,2,none⟩) (by simp<;>omega) _).setCell (p:=⟨w.heap.size+1+1+1,3,none⟩) (by simp<;>omega) _)
     refine bodyPost_ret (zaJ rfl _ _ (w.heap.size+1+1+1) 143 #[D,f,(min (d+c) f:Int),j] (0,0) _ rfl G Tryz.underlying143 rfl (by kernel_rfl)) rfl ⟨?_,?_⟩
     ·rw[HQ.out];rfl
     ·exact F
   ·have M:=hid (show q=(if j-y<a then ⟨m,d,min (f+c) d,min (y+a) g⟩ else ⟨m,d,min (f+c) d,j⟩) by rw[hq,if_neg hl,if_neg hb,if_neg hg]);obtain ⟨V,L⟩:=nm (I.setCell ⟨w.heap.size+1,2,none⟩ ↑(min (f+c) d:Int));have x:Chg (·=w.heap.size+1) I V:=by rw[L];exact Chg.set I ⟨w.heap.size+1,2,none⟩ _
    have E:=hid (show Blk V (w.heap.size+1) 143 #[m,d,(min (f+c) d:Int),j] by rw[L];exact S.out.set_ 2 _);have Q:=hid (HB6.out.trans (x.below (B:=w.heap.size) (by omega) fun k hk e=>by omega));have R:=hid (HX6.out.chg x (by omega));have HZV:=hid (HZ6.out.chg x (by omega));have z:=hid (HO6.out.chg x (by omega));have hg2:¬f>d:=hg;have xa4:=show (s.alloc (.cells #[m,d,o,j] 143)).cell? ⟨w,4,none⟩=some ↑c from t▸x4
    have C:=hid (show Blk ((s.alloc (.cells #[m,d,o,j] 143)).setCell ⟨w.heap.size+1,2,none⟩ ↑(min (f+c) d:Int)) (w.heap.size+1) 143 #[m,d,(min (f+c) d:Int),j] by rw[←t,←L];exact E.out);have T:=hid (show Below w w ((s.alloc (.cells #[m,d,o,j] 143)).setCell ⟨w.heap.size+1,2,none⟩ ↑(min (f+c) d:Int)) by rw[←t,←L];exact Q.out);have Y:=hid (show Blk ((s.alloc (.cells #[m,d,o,j] 143)).setCell ⟨w.heap.size+1,2,none⟩ ↑(min (f+c) d:Int)) w.heap.size 58 #[kind,P,J,n,c,a,g,O,Z,N,rule] by rw[←t,←L];exact R.out);have HZVE:=hid (show Blk ((s.alloc (.cells #[m,d,o,j] 143)).setCell ⟨w.heap.size+1,2,none⟩ ↑(min (f+c) d:Int)) (w.heap.size+1+1) 312 #[D,f,bf,y] by rw[←t,←L];exact HZV.out);have v:=hid (show Blk ((s.alloc (.cells #[m,d,o,j] 143)).setCell ⟨w.heap.size+1,2,none⟩ ↑(min (f+c) d:Int)) (w.heap.size+1+1+1) 143 #[(),(),(),()] by rw[←t,←L];exact z.out);clear hq hrb hrn x t L y0 y1 y2 z0 z1 x3 x4 e1 yf ly lz lx le;have y3:((s.alloc (.cells #[m,d,o,j] 143)).setCell ⟨w.heap.size+1,2,none⟩ ↑(min (f+c) d:Int)).cell? ⟨w.heap.size+1,3,none⟩=some ↑j:=C.out.cell 3;have y0:((s.alloc (.cells #[m,d,o,j] 143)).setCell ⟨w.heap.size+1,2,none⟩ ↑(min (f+c) d:Int)).cell? ⟨w.heap.size+1,0,none⟩=some ↑m:=C.out.cell 0;have y1:((s.alloc (.cells #[m,d,o,j] 143)).setCell ⟨w.heap.size+1,2,none⟩ ↑(min (f+c) d:Int)).cell? ⟨w.heap.size+1,1,none⟩=some ↑d:=C.out.cell 1;have y2:((s.alloc (.cells #[m,d,o,j] 143)).setCell ⟨w.heap.size+1,2,none⟩ ↑(min (f+c) d:Int)).cell? ⟨w.heap.size+1,2,none⟩=some ↑(min (f+c) d:Int):=C.out.cell 2;have yf:∀i,((s.alloc (.cells #[m,d,o,j] 143)).setCell ⟨w.heap.size+1,2,none⟩ ↑(min (f+c) d:Int)).frozen? ⟨w.heap.size+1,i,none⟩=false:=C.out.frozen;have z3:((s.alloc (.cells #[m,d,o,j] 143)).setCell ⟨w.heap.size+1,2,none⟩ ↑(min (f+c) d:Int)).cell? ⟨w.heap.size+1+1,3,none⟩=some ↑y:=HZVE.out.cell 3;have x5:((s.alloc (.cells #[m,d,o,j] 143)).setCell ⟨w.heap.size+1,2,none⟩ ↑(min (f+c) d:Int)).cell? ⟨w,5,none⟩=some ↑a:=Y.out.cell 5;have x6:((s.alloc (.cells #[m,d,o,j] 143)).setCell ⟨w.heap.size+1,2,none⟩ ↑(min (f+c) d:Int)).cell? ⟨w,6,none⟩=some ↑g:=Y.out.cell 6;have o0:((s.alloc (.cells #[m,d,o,j] 143)).setCell ⟨w.heap.size+1,2,none⟩ ↑(min (f+c) d:Int)).cell? ⟨w.heap.size+1+1+1,0,none⟩=some ↑():=v.out.cell 0;have o1:((s.alloc (.cells #[m,d,o,j] 143)).setCell ⟨w.heap.size+1,2,none⟩ ↑(min (f+c) d:Int)).cell? ⟨w.heap.size+1+1+1,1,none⟩=some ↑():=v.out.cell 1;have o2:((s.alloc (.cells #[m,d,o,j] 143)).setCell ⟨w.heap.size+1,2,none⟩ ↑(min (f+c) d:Int)).cell? ⟨w.heap.size+1+1+1,2,none⟩=some ↑():=v.out.cell 2;have o3:((s.alloc (.cells #[m,d,o,j] 143)).setCell ⟨w.heap.size+1,2,none⟩ ↑(min (f+c) d:Int)).cell? ⟨w.heap.size+1+1+1,3,none⟩=some ↑():=v.out.cell 3;have of:∀i,((s.alloc (.cells #[m,d,o,j] 143)).setCell ⟨w.heap.size+1,2,none⟩ ↑(min (f+c) d:Int)).frozen? ⟨w.heap.size+1+1+1,i,none⟩=false:=v.out.frozen;by_cases hx:j-y<a
    ·have HQ:=hid (show q=⟨m,d,(min (f+c) d),min (y+a) g⟩ from M.out.trans (if_pos hx));obtain ⟨X,hX⟩:=nm (((s.alloc (.cells #[m,d,o,j] 143)).setCell ⟨w.heap.size+1,2,none⟩ ↑(min (f+c) d:Int)).setCell ⟨w.heap.size+1,3,none⟩ ↑(min (y+a) g:Int));have HOX:=hid (show Blk X (w.heap.size+1+1+1) 143 #[(),(),(),()] by rw[hX];exact v.out.far (by show w.heap.size+1+1+1≠w.heap.size+1;omega) _);have HBX:=hid (show Below w w X by rw[hX];exact T.out.setCell (p:=⟨w.heap.size+1,3,none⟩) (by simp<;>omega) _)
     go_wp2_with (refine wpList_load_row rfl 143 (.tmp 4) rfl (w.heap.size+1) rfl 143 #[m,d,o,j] (0,0) _ HY5.out Tryz.underlying143 rfl (by kernel_rfl) ?_)
     rw[←hX];obtain ⟨U,H⟩:=nm ((((X.setCell ⟨w.heap.size+1+1+1,0,none⟩ ↑m).setCell ⟨w.heap.size+1+1+1,1,none⟩ ↑d).setCell ⟨w.heap.size+1+1+1,2,none⟩ ↑(min (f+c) d:Int)).setCell ⟨w.heap.size+1+1+1,3,none⟩ ↑(min (y+a) g:Int));rw[←H];have G:Blk U (w.heap.size+1+1+1) 143 #[m,d,(min (f+c) d:Int),(min (y+a) g:Int)]:=by rw[H];exact (((HOX.out.set_ 0 _).set_ 1 _).set_ 2 _).set_ 3 _
     have F:Below w w U:=by rw[H];exact ((((HBX.out.setCell (p:=⟨w.heap.size+1+1+1,0,none⟩) (by simp<;>omega) _).setCell (p:=⟨w.heap.size+1+1+1,1,none⟩) (by simp<;>omega) _).setCell (p:=⟨w.heap.size+1+1+1,2,none⟩) (by simp<;>omega) _).setCell (p:=⟨w.heap.size+1+1+1,3,none⟩) (by simp<;>omega) _)
     refine bodyPost_ret (zaJ rfl _ _ (w.heap.size+1+1+1) 143 #[m,d,(min (f+c) d:Int),(min (y+a) g:Int)] (0,0) _ rfl G Tryz.underlying143 rfl (by kernel_rfl)) rfl ⟨?_,?_⟩
     ·rw[HQ.out];rfl
     ·exact F
    ·have HQ:=hid (show q=⟨m,d,(min (f+c) d),j⟩ from M.out.trans (if_neg hx))
     go_wp2_with (refine wpList_load_row rfl 143 (.tmp 4) rfl (w.heap.size+1) rfl 143 #[m,d,o,j] (0,0) _ HY5.out Tryz.underlying143 rfl (by kernel_rfl) ?_)
     obtain ⟨U,H⟩:=nm ((((((s.alloc (.cells #[m,d,o,j] 143)).setCell ⟨w.heap.size+1,2,none⟩ ↑(min (f+c) d:Int)).setCell ⟨w.heap.size+1+1+1,0,none⟩ ↑m).setCell ⟨w.heap.size+1+1+1,1,none⟩ ↑d).setCell ⟨w.heap.size+1+1+1,2,none⟩ ↑(min (f+c) d:Int)).setCell ⟨w.heap.size+1+1+1,3,none⟩ ↑j);rw[←H];have G:Blk U (w.heap.size+1+1+1) 143 #[m,d,(min (f+c) d:Int),j]:=by rw[H];exact (((v.out.set_ 0 _).set_ 1 _).set_ 2 _).set_ 3 _
     have F:Below w w U:=by rw[H];exact ((((T.out.setCell (p:=⟨w.heap.size+1+1+1,0,none⟩) (by simp<;>omega) _).setCell (p:=⟨w.heap.size+1+1+1,1,none⟩) (by simp<;>omega) _).setCell (p:=⟨w.heap.size+1+1+1,2,none⟩) (by simp<;>omega) _).setCell (p:=⟨w.heap.size+1+1+1,3,none⟩) (by simp<;>omega) _)
     refine bodyPost_ret (zaJ rfl _ _ (w.heap.size+1+1+1) 143 #[m,d,(min (f+c) d:Int),j] (0,0) _ rfl G Tryz.underlying143 rfl (by kernel_rfl)) rfl ⟨?_,?_⟩
     ·rw[HQ.out];rfl
     ·exact F
def holdA (a:Acc) (x v:Int):Acc:=if a.holdE x v=0 then a.set x v else a
theorem zq9 {a:Acc} (h:a.Ok∧a.Fine) {x:Int} (b:x≤9223372036854775807) (v:Int):(holdA a x v).Ok∧(holdA a x v).Fine:=by
 unfold holdA
 split
 ·exact zjs h.1 h.2 b (by assumption)
 ·exact h
def zdP (H:House) (i:Nat) (a:Acc) (c:Int):RiseB:=⟨i,c,a.free,H.now⟩
def zgF (H:House) (i:Nat) (a:Acc) (l:LotS) (os:List Off):Int:=match zaZ os with|none=>2|some c=>zb2 l.put l.rise (zdP H i a c)
def zjL (acs:List Acc) (x:Int) (j:Nat):List Acc:=acs.modify x.toNat fun a=>a.set j 0
def zcV (acs:List Acc) (x:Int) (j:Nat) (v:Int):List Acc:=acs.modify x.toNat fun a=>holdA a j v
def zaX (acs:List Acc) (j:Nat) (l:LotS) (r:RiseR):List Acc:=if 0≤l.rise.leader∧l.rise.leader≠r.leader then zjL acs l.rise.leader j else acs
def zhW (l:LotS) (r:RiseR):LotS:={l with rise:=r,closes:=r.closes,stands:=[⟨r.leader,[⟨0,r.limit⟩],r.limit⟩]}
def zhV (H:House) (j:Nat) (l:LotS) (r:RiseR):House:={H with accs:=zcV (zaX H.accs j l r) r.leader j r.limit,lots:=H.lots.set j (zhW l r),due:=upd H.due j (some r.closes)}
theorem RowAt.of_blk {W:World} {R:Nat→Prop} {g n sz:Nat} {t:TypeId} {cs:Array Value} (h:Ac.Blk W g t cs) (hs:cs.size=n*sz) (hn:n≤maxLen) (hR:R g):RowAt W R t sz (.slice (some ⟨g,0,none⟩) n n) n cs.toList:=
 ⟨⟨by simpa using hs,.inr ⟨g,n,cs,rfl,zL,h,lR,hn,hs,by rw[←hs,←Array.length_toList];exact List.take_length⟩⟩,fun b hb=>by cases hb;exact hR⟩
section
variable {W U:World} {T:Nat→Part} {h pn pc K:Nat} {va vl vb vs:Value} {H:House}
theorem znY (a:HouseAt W T h pn pc va vl vb vs K H) {D:Int→Option Int} (j:zar U (fun b=>T b=.cal∨W.heap.size≤b) pc H.now D) (c:Chg (fun b=>T b=.cal) W U):∃T',zaf U T' h K {H with due:=D}∧Moves W T U T':=by
 obtain ⟨T',f⟩:=nm (fun b=>if b<W.heap.size then T b else if b<U.heap.size then .cal else .no:Nat→Part);have d:∀b,b<W.heap.size→T' b=T b:=fun b l=>by rw[f];simp[l]
 have g:∀b P,T b=P→P≠ .cal→¬T b=.cal:=fun b P n o p=>o (n.symm.trans p);have q:=c.size;refine ⟨T',⟨pn,pc,va,vl,vb,vs,?_⟩,c.mono fun b _ e=>⟨by rw[e];simp,by rw[e];simp⟩,d⟩;refine ⟨(d h a.blk.lt).trans a.top,a.blk.chg c (g h _ a.top (by simp)),a.names.step c (fun b e=>g b _ e (by simp)) d,a.accs.step c (fun b e=>?_) d,a.lots.step c (fun b e=>?_) d,?_,a.book.step c (fun b e=>?_) d,a.sales.step c (fun b e=>g b _ e (by simp)) d,fun b l=>?_⟩
 ·rcases e with e|⟨i,e⟩<;>exact g b _ e (by simp)
 ·rcases e with e|⟨i,e⟩|e<;>exact g b _ e (by simp)
 ·refine j.mono fun b l e=>?_;rw[f]
  rcases e with e|e
  ·have m:b<W.heap.size:=by
    rcases Nat.lt_or_ge b W.heap.size with k|k
    ·exact k
    ·have:=a.out b k;rw[this] at e;cases e
   simp[m,e]
  ·simp[show ¬b<W.heap.size by omega,l]
 ·rcases e with e|e<;>exact g b _ e (by simp)
 ·rw[f];simp[show ¬b<W.heap.size by omega,show ¬b<U.heap.size by omega]
theorem zsO (M:HouseAt W T h pn pc va vl vb vs K H) {bl:Nat→Nat} (r:RowAt W (fun b=>T b=.lots) 138 1 vl H.lots.length (ptrs bl H.lots.length)) (p:∀n l,H.lots[n]? =some l→za2 W T n (bl n) l)
  {j:Nat} {l l':LotS} (L:H.lots[j]? =some l) {g a:Nat} {d c:Int} (t:l'.stands=[⟨d,[⟨0,c⟩],c⟩]) (O:W.heap.size≤g) (N:W.heap.size≤a) (I:g≠a)
  (B:Ac.Blk U (bl j) 145 (l'.cells (.slice (some ⟨g,0,none⟩) 1 1)).toArray) (s:Ac.Blk U g 188 #[d,.slice (some ⟨a,0,none⟩) 1 1,c]) (q:Ac.Blk U a 191 #[.int .u32 0,c])
  (D:Chg (fun b=>T b=.lot j) W U) (E:zah c):∃T',HouseAt U T' h pn pc va vl vb vs K {H with lots:=H.lots.set j l'}∧Moves W T U T':=by
 obtain ⟨T',f⟩:=nm (fun b=>if b<W.heap.size then T b else if b=g then .lot j else if b=a then .old else .no:Nat→Part);have v:∀b,b<W.heap.size→T' b=T b:=fun b J=>by rw[f];simp[J]
 have i:=p j l L;have F:=(gS.1 L).1;have C:bl j<W.heap.size:=i.lt;obtain ⟨V,A,_,_⟩:=i;have z:T' g=.lot j:=by rw[f];simp[show ¬g<W.heap.size by omega]
 have y:T' a=.old:=by rw[f];simp[show ¬a<W.heap.size by omega,Ne.symm I]
 have m:za2 U T' j (bl j) l':=by
  refine ⟨_,(v _ C).trans A,B,⟨fun _=>.slice (some ⟨a,0,none⟩) 1 1,?_,fun k x G=>?_⟩⟩
  ·rw[t];have:=RowAt.of_blk (R:=fun x=>T' x=.lot j∧x≠bl j) (n:=1) (sz:=3) s rfl (by unfold maxLen;omega) ⟨z,by omega⟩;exact this
  ·rw[t] at G
   cases k with
   |zero=>
    obtain rfl:[(⟨0,c⟩:Off)]=x:=by simpa using G
    refine ⟨(RowAt.of_blk (R:=fun b=>T' b=.old) (n:=1) (sz:=2) q rfl (by unfold maxLen;omega) y).sl,fun o P=>?_⟩;rw[List.mem_singleton.1 P];unfold zah at E;unfold Off.wf;simp only
    omega
   |succ k=>simp at G
 refine ⟨T',zee M r p F m D v fun b J=>?_,D.mono fun b _ e=>⟨by rw[e];simp,by rw[e];simp⟩,v⟩;have Q:=s.lt;have S:=q.lt;rw[f]
 simp[show ¬b<W.heap.size by have:=D.size;omega,show ¬b=g by omega,show ¬b=a by omega]
theorem ziz (n:HouseAt W T h pn pc va vl vb vs K H) {f g:Nat→Nat} (k:RowAt W (fun b=>T b=.accs) 136 1 va H.accs.length (ptrs f H.accs.length)) (d:∀i a,H.accs[i]? =some a→AccAt W (f i) (g i) K a∧T (f i)=.acc i∧T (g i)=.acc i)
  {i:Nat} {a l:Acc} (m:H.accs[i]? =some a) (o:AccAt U (f i) (g i) (K+1) l) (p:Chg (·=g i) W U):HouseAt U T h pn pc va vl vb vs (K+1) {H with accs:=H.accs.set i l}∧Moves W T U T:=by
 have j:=(gS.1 m).1;have c:Chg (fun b=>T b=.acc i) W U:=p.mono fun b _ e=>e▸(d i a m).2.2;exact ⟨zeF n (ze5 k d j (Nat.le_succ K) o c) (c.mono fun b _ e=>⟨i,e⟩),c.mono fun b _ e=>⟨by rw[e];simp,by rw[e];simp⟩,fun _ _=>rfl⟩
end
theorem zm7 {a:Acc} (h:a.Ok):a.free≤2305843009213693952:=by
 have b:=h.bud;have c:=h.sp;have d:=HOk.nn h.h;unfold zah at b c;unfold Acc.free
 omega
theorem zrG {W:World} {T:Nat→Part} {h pn pc K:Nat} {va vl vb vs:Value} {H:House} {bl ba ma:Nat→Nat} {i j:Nat} {a:Acc} {l:LotS} (ab:AtIt W T h pn pc va vl vb vs K H bl ba ma i j a l) (o:OrderR) (N:o.bidder=i) (O:o.lot=j) {A:Option Addr} {c:Nat} {R:Nat→Prop} (hO:zad W R (.slice A o.offers.length c) o.offers) (X:a.Ok) (he:zgF H i a l o.offers≠0):
  Calls Tryz.prog 214 #[.agg #[],.pointer (some ⟨h,0,none⟩),.pointer (some ⟨bl j,0,none⟩),.pointer (some ⟨ba i,0,none⟩),o.agg (.slice A o.offers.length c)] W fun e W'=>e=.returned (.tuple #[(),(zgF H i a l o.offers:Int)])∧Below W W W':=by
 obtain ⟨er,x⟩:=nm (zgF H i a l o.offers);rw[←x] at he ⊢;have HE:=hid he;unfold zgF at x
 cases hs:zaZ o.offers with
 |none=>
  rw[hs] at x;simp only at x;subst x;have HSN:=hid hs;clear he hs;obtain ⟨W1,t⟩:=nm ((W.alloc (.cells #[] 245)).alloc (.cells (o.cells (.slice A o.offers.length c)).toArray 61));have z:Below W W W1:=by rw[t];exact (qA _).alloc (by simp) _
  have Y:Ac.Blk W1 (W.heap.size+1) 61 (o.cells (.slice A o.offers.length c)).toArray:=by rw[t];exact Ac.Blk.new' _ _ (by simp)
  have HAT:=hid ab;have P:=hid z;have HOK:=hid X;have HOI:=hid N;have HOJ:=hid O;obtain ⟨okind,oname,ocoins,D,olot,⟨kind,opens,Z,start,step,aa,last,floor,fall,count,rule⟩,E,otick⟩:=o;simp only at hO N O;have HO1:=hid (zad.grow hO z);have HSI:=hid (zdc (zad.grow hO z));simp only[OrderR.agg,OrderR.cells,LotR.cells,List.cons_append,List.nil_append] at t Y ⊢;have x16:W1.cell? ⟨W.heap.size+1,16,none⟩=some (.slice A E.length c):=Y.cell 16;have xl:=Y.lt;have HX1:=hid Y;clear ab z X hO Y N O;go_enter Tryz.func214,Tryz.ntmps214;go_wp2_with fail
  rw[←t];clear t;refine HSI.out.mono ?_;rintro e y ⟨rfl,L⟩;have hv:zaV E=.tuple #[(),false]:=by have:=HSN.out;unfold zaV;rw[this]
  rw[hv];have Q:=hid (P.out.trans (L.mono P.out.size));clear hv L;go_wp2_with fail
  go_ret2
  exact ⟨rfl,Q.out⟩
 |some co=>
  rw[hs] at x;simp only at x;have HSN:=hid hs;have hbc:=fun w=>zrl l.put l.rise (zdP H i a co) (zm7 X) (by rw[←x];exact he) w;rw[←x] at hbc;clear he hs;obtain ⟨r0,hr0⟩:=nm (0:Int);obtain ⟨r1,hr1⟩:=nm (0:Int);obtain ⟨r2,hr2⟩:=nm (0:Int);obtain ⟨r3,hr3⟩:=nm (0:Int);have HBID:=hid (show ∀w,Calls Tryz.prog 219 #[l.put.agg,l.rise.agg,(zdP H i a co).agg] w fun e w'=>e=.returned (.tuple #[.agg #[r0,r1,r2,r3],er])∧Below w w w' by
   rw[hr0,hr1,hr2,hr3];exact hbc)
  clear hbc x hr0 hr1 hr2 hr3;obtain ⟨W1,t⟩:=nm ((W.alloc (.cells #[] 245)).alloc (.cells (o.cells (.slice A o.offers.length c)).toArray 61));have z:Below W W W1:=by rw[t];exact (qA _).alloc (by simp) _
  have Y:Ac.Blk W1 (W.heap.size+1) 61 (o.cells (.slice A o.offers.length c)).toArray:=by rw[t];exact Ac.Blk.new' _ _ (by simp)
  have HAT:=hid ab;have P:=hid z;have HOK:=hid X;have HOI:=hid N;have HOJ:=hid O;obtain ⟨okind,oname,ocoins,D,olot,⟨kind,opens,Z,start,step,aa,last,floor,fall,count,rule⟩,E,otick⟩:=o;simp only at hO N O;have HO1:=hid (zad.grow hO z);have HSI:=hid (zdc (zad.grow hO z));simp only[OrderR.agg,OrderR.cells,LotR.cells,List.cons_append,List.nil_append] at t Y ⊢;have x16:W1.cell? ⟨W.heap.size+1,16,none⟩=some (.slice A E.length c):=Y.cell 16;have xl:=Y.lt;have HX1:=hid Y;clear ab z X hO Y N O;go_enter Tryz.func214,Tryz.ntmps214;go_wp2_with fail
  rw[←t];clear t;refine HSI.out.mono ?_;rintro e y ⟨rfl,L⟩;have hv:zaV E=.tuple #[co,true]:=by have:=HSN.out;unfold zaV;rw[this]
  rw[hv];have HX2:=hid (HX1.out.grow L);have Q:=hid (P.out.trans (L.mono P.out.size));have s:=HAT.out.grow Q.out;have HAT2:=hid s;obtain ⟨v,htb,B,_⟩:=s.lots j l s.lot;have HLB:=hid B;have lb:=B.lt;have HACC:=hid (s.accs i a s.acc).1;have HCAL:=hid s.house.cal;obtain ⟨c0,c1,c2,c3,c4,c5,hh⟩:=s.house.cells;have x3:y.cell? ⟨W.heap.size+1,3,none⟩=some ↑D:=HX2.out.cell 3;have xl2:=HX2.out.lt;rw[HOI.out] at x3;have HR1:=hid (Blk.range B 0 [.int .i64 l.put.kind,.int .i64 l.put.opens,.int .i64 l.put.closes,.int .i64 l.put.start,.int .i64 l.put.step,.int .i64 l.put.extend,.int .i64 l.put.last,.int .i64 l.put.floor,.int .i64 l.put.fall,.int .i64 l.put.count,.int .i64 l.put.rule] (fun q v hq=>by
   rcases q with _|_|_|_|_|_|_|_|_|_|_|q<;>first|exact hq|(simp at hq)))
  have HR2:=hid (Blk.range B 15 [.int .i64 l.rise.leader,.int .i64 l.rise.limit,.int .i64 l.rise.price,.int .i64 l.rise.closes] (fun q v hq=>by
   rcases q with _|_|_|_|q<;>first|exact hq|(simp at hq)))
  obtain ⟨now,G⟩:=nm (H.now);obtain ⟨fr,ac⟩:=nm (a.free);have S:=hid (fun (w:World) (hb:Below y y w)=>(show Calls Tryz.prog 164 #[.pointer (some ⟨ba i,0,none⟩)] w fun e W'=>e=.returned ↑fr∧Below w w W' from ac▸ze4 (HACC.out.grow hb) HOK.out));have U:=hid (fun (w:World) (hb:Below y y w)=>(show Calls Tryz.prog 118 #[.pointer (some ⟨pc,0,none⟩)] w fun e W'=>e=.returned ↑now∧W'=w from G▸zc3 (HCAL.out.grow hb)));have HNW:=hid G;have HFR:=hid ac;have m:=hid (show ∀w,Calls Tryz.prog 219 #[l.put.agg,l.rise.agg,.agg #[i,co,fr,now]] w fun e w'=>e=.returned (.tuple #[.agg #[r0,r1,r2,r3],er])∧Below w w w' by
   rw[ac,G];exact HBID.out)
  have HLL:=hid (show l.put=⟨l.put.kind,l.put.opens,l.put.closes,l.put.start,l.put.step,l.put.extend,l.put.last,l.put.floor,l.put.fall,l.put.count,l.put.rule⟩ from rfl);obtain ⟨LP,hLP⟩:=nm (l.put);obtain ⟨LR,hLR⟩:=nm (l.rise);rw[←hLP] at HR1 m;rw[←hLR] at HR2 m;have HLP:=hid hLP;have HLR:=hid hLR;obtain ⟨pk,po,pcl,ps,pt,pe,pa,pf,pl,pnn,pr⟩:=LP;obtain ⟨ld,li,rp,rc⟩:=LR;simp only[LotR.agg,LotR.cells,RiseR.agg,RiseR.cells] at HR1 HR2 m;have HTB:=hid htb;clear hv L s htb B G ac hLP hLR HLL x16 xl c0 c1 c2 c4 c5
  go_upto_region 4 with fail
  go_cut [14,15] from 17 to 48 (fun s14 s15 wx=>∃g:Nat,s14=.pointer (some ⟨g,0,none⟩)∧s15=.int .i64 er∧Ac.Blk wx g 143 #[r0,r1,r2,r3]∧Below y y wx∧y.heap.size≤g)
  case first=>
   refine zac (Below y y) [] (by kernel_rfl) (bR.drew) (fun b=>?_);refine tp 0 b ?_;refine tp 1 b ?_;refine tp 2 b ?_;refine tx 3 (v:=?_) b ?_ ?_
   rotate_left
   ·intro w' J;refine Eq.trans (zbp 58 (.tmp 28) (by rfl) (bl j) 0 (by rfl) [.int .i64 pk,.int .i64 po,.int .i64 pcl,.int .i64 ps,.int .i64 pt,.int .i64 pe,.int .i64 pa,.int .i64 pf,.int .i64 pl,.int .i64 pnn,.int .i64 pr] _ (fun q v hq=>qc J (HR1.out q v hq) lb) Tryz.underlying58 rfl (by kernel_rfl)) ?_;with_reducible rfl
   refine tp 4 b ?_;refine tp 5 b ?_;refine tp 6 b ?_;refine tx 7 (v:=?_) b ?_ ?_
   rotate_left
   ·intro w' J;refine Eq.trans (zbp 143 (.tmp 32) (by rfl) (bl j) 15 (by rfl) [.int .i64 ld,.int .i64 li,.int .i64 rp,.int .i64 rc] _ (fun q v hq=>qc J (HR2.out q v hq) lb) Tryz.underlying143 rfl (by kernel_rfl)) ?_;with_reducible rfl
   refine tp 8 b ?_;have qq:=hid fun (w':World) (J:(Below y y) w')=>And.intro (qc J x3 xl2)<|qc J c3 hh;refine tl 9 b qq ?_;refine tp 10 b ?_;refine tp 11 b ?_;refine tp 13 b ?_;refine tp 14 b ?_;refine tp 15 b ?_;refine tp 16 b ?_;refine tl 17 b qq ?_;refine tr [12,24] ?_;refine tc (fun K d=>?_) ?_
   ·go_simp;refine (S.out _ b).mono ?_;rintro e V ⟨rfl,M⟩;refine d.out _ _ ?_ (fun b=>?_)
    ·exact b.trans (M.mono b.size)
    clear d K
    try simp only[Act.put,pb,pz,ps]
    have HS3:=hid b;clear M;refine tr [18,24] ?_;refine tc (fun K d=>?_) ?_
    ·go_simp;refine (U.out _ b).mono ?_;rintro e W4 ⟨rfl,C⟩;rw[C];clear C;refine d.out _ _ ?_ (fun b=>?_)
     ·exact b
     clear d K
     try simp only[Act.put,pb,pz,ps]
     refine tp 19 b ?_;refine tr [20,24] ?_;refine tc (fun K d=>?_) ?_
     ·go_simp;refine (m.out _).mono ?_;rintro e W5 ⟨rfl,n⟩;refine d.out _ _ ?_ (fun b=>?_)
      ·exact b.trans (n.mono b.size)
      clear d K
      try simp only[Act.put,pb,pz,ps]
      have I:=hid b;clear n;refine tp 21 b ?_;refine tp 22 b ?_;refine tp 23 b ?_;refine stp 24 fun K d=>?_;go_simp;refine d.out _ _ ?_ (fun b=>?_)
      ·exact b.alloc b.size _
      clear d K
      try simp only[Act.put,pb,pz,ps]
      refine stp 25 fun K d=>?_;go_simp;refine d.out _ _ ?_ (fun b=>?_)
      ·exact I.out.alloc I.out.size _
      clear d K
      try simp only[Act.put,pb,pz,ps]
      refine tp 26 b ?_;refine zaa (by kernel_rfl) ?_ _;have F:=hid b;clear b;go_wp2_with fail
      go_meet
      case rel=>exact ⟨_,rfl,rfl,Ac.Blk.new _ _ _,F.out,I.out.size⟩
     refine tc (fun K d=>?_) ?_
     ·go_simp;refine d.out _ _ ?_ (fun b=>?_)
      ·exact b.alloc b.size _
      clear d K
      try simp only[Act.put,pb,pz,ps]
      have r:=hid (Ac.Blk.new V 143 #[(),(),(),()]);have k:=hid HS3.out.size;refine stp 20 fun K d=>?_;go_simp;refine (m.out _).mono ?_;rintro e W5 ⟨rfl,n⟩;refine d.out _ _ ?_ (fun b=>?_)
      ·exact b.trans (n.mono b.size)
      clear d K
      try simp only[Act.put,pb,pz,ps]
      have I:=hid b;have f:=r.out.grow n;have g0:=f.cell 0;have g1:=f.cell 1;have g2:=f.cell 2;have g3:=f.cell 3;have gf:=f.frozen;have r:=hid f;clear f;clear n;refine tp 21 b ?_;refine tp 22 b ?_;refine tp 23 b ?_;refine stp 25 fun K d=>?_;go_simp;refine d.out _ _ ?_ (fun b=>?_)
      ·exact (((b.setCell (p:=⟨V,0,none⟩) k.out _).setCell (p:=⟨V,1,none⟩) k.out _).setCell (p:=⟨V,2,none⟩) k.out _).setCell (p:=⟨V,3,none⟩) k.out _
      clear d K
      try simp only[Act.put,pb,pz,ps]
      refine tp 26 b ?_;refine zaa (by kernel_rfl) ?_ _;have F:=hid b;clear b;go_wp2_with fail
      go_meet
      case rel=>exact ⟨_,rfl,rfl,(((r.out.set_ 0 ↑r0).set_ 1 ↑r1).set_ 2 ↑r2).set_ 3 ↑r3,F.out,k.out⟩
     exact zaL.nil
    refine tc (fun K d=>?_) ?_
    ·go_simp;refine d.out _ _ ?_ (fun b=>?_)
     ·exact b.alloc b.size _
     clear d K
     try simp only[Act.put,pb,pz,ps]
     have r:=hid (Ac.Blk.new V 143 #[(),(),(),()]);have k:=hid HS3.out.size;refine stp 18 fun K d=>?_;go_simp;refine (U.out _ b).mono ?_;rintro e W4 ⟨rfl,C⟩;rw[C];clear C;refine d.out _ _ ?_ (fun b=>?_)
     ·exact b
     clear d K
     try simp only[Act.put,pb,pz,ps]
     refine tp 19 b ?_;refine stp 20 fun K d=>?_;go_simp;refine (m.out _).mono ?_;rintro e W5 ⟨rfl,n⟩;refine d.out _ _ ?_ (fun b=>?_)
     ·exact b.trans (n.mono b.size)
     clear d K
     try simp only[Act.put,pb,pz,ps]
     have I:=hid b;have f:=r.out.grow n;have g0:=f.cell 0;have g1:=f.cell 1;have g2:=f.cell 2;have g3:=f.cell 3;have gf:=f.frozen;have r:=hid f;clear f;clear n;refine tp 21 b ?_;refine tp 22 b ?_;refine tp 23 b ?_;refine stp 25 fun K d=>?_;go_simp;refine d.out _ _ ?_ (fun b=>?_)
     ·exact (((b.setCell (p:=⟨V,0,none⟩) k.out _).setCell (p:=⟨V,1,none⟩) k.out _).setCell (p:=⟨V,2,none⟩) k.out _).setCell (p:=⟨V,3,none⟩) k.out _
     clear d K
     try simp only[Act.put,pb,pz,ps]
     refine tp 26 b ?_;refine zaa (by kernel_rfl) ?_ _;have F:=hid b;clear b;go_wp2_with fail
     go_meet
     case rel=>exact ⟨_,rfl,rfl,(((r.out.set_ 0 ↑r0).set_ 1 ↑r1).set_ 2 ↑r2).set_ 3 ↑r3,F.out,k.out⟩
    exact zaL.nil
   refine tc (fun K d=>?_) ?_
   ·go_simp;refine d.out _ _ ?_ (fun b=>?_)
    ·exact b.alloc b.size _
    clear d K
    try simp only[Act.put,pb,pz,ps]
    have r:=hid ((Ac.Blk.new y 143 #[(),(),(),()]).drewN 1);have k:=hid (Nat.le_refl y.heap.size);refine stp 12 fun K d=>?_;go_simp;refine (S.out _ b).mono ?_;rintro e V ⟨rfl,M⟩;refine d.out _ _ ?_ (fun b=>?_)
    ·exact b.trans (M.mono b.size)
    clear d K
    try simp only[Act.put,pb,pz,ps]
    have HS3:=hid b;have r:=hid (r.out.grow M);clear M;refine stp 18 fun K d=>?_;go_simp;refine (U.out _ b).mono ?_;rintro e W4 ⟨rfl,C⟩;rw[C];clear C;refine d.out _ _ ?_ (fun b=>?_)
    ·exact b
    clear d K
    try simp only[Act.put,pb,pz,ps]
    refine tp 19 b ?_;refine stp 20 fun K d=>?_;go_simp;refine (m.out _).mono ?_;rintro e W5 ⟨rfl,n⟩;refine d.out _ _ ?_ (fun b=>?_)
    ·exact b.trans (n.mono b.size)
    clear d K
    try simp only[Act.put,pb,pz,ps]
    have I:=hid b;have f:=r.out.grow n;have g0:=f.cell 0;have g1:=f.cell 1;have g2:=f.cell 2;have g3:=f.cell 3;have gf:=f.frozen;have r:=hid f;clear f;clear n;refine tp 21 b ?_;refine tp 22 b ?_;refine tp 23 b ?_;refine stp 25 fun K d=>?_;go_simp;refine d.out _ _ ?_ (fun b=>?_)
    ·exact (((b.setCell (p:=⟨y,0,none⟩) k.out _).setCell (p:=⟨y,1,none⟩) k.out _).setCell (p:=⟨y,2,none⟩) k.out _).setCell (p:=⟨y,3,none⟩) k.out _
    clear d K
    try simp only[Act.put,pb,pz,ps]
    refine tp 26 b ?_;refine zaa (by kernel_rfl) ?_ _;have F:=hid b;clear b;go_wp2_with fail
    go_meet
    case rel=>exact ⟨_,rfl,rfl,(((r.out.set_ 0 ↑r0).set_ 1 ↑r1).set_ 2 ↑r2).set_ 3 ↑r3,F.out,k.out⟩
   exact zaL.nil
  case rest=>
   obtain ⟨g,rfl,rfl,hgb,hbx,hgg⟩:=hcut;have hne:(er==0)=false:=by simpa using HE.out
   have HBX:=hid (Q.out.trans (hbx.mono Q.out.size));clear hgb hbx hgg;go_wp2_with fail
   go_ret2
   exact ⟨rfl,HBX.out⟩
end Ho
end Go.Proofs.YtckdpejdnejhfaaGreat

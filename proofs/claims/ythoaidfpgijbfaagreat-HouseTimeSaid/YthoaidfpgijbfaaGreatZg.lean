/- Joined by program: HoN HoO AccO LayAcc AccA AccB AccC AccD AccE AccF AccH AccI AccJ. -/
import Derived.Test.YthoaidfpgijbfaaGreatZb
import Derived.Laws.EntriesVeiled
import Derived.Test.YthoaidfpgijbfaaGreatZf
import Derived.Test.YthoaidfpgijbfaaGreatRows
import Derived.Shelf.SlIterI.Nil
import Derived.Shelf.Slices.In.SortNone
import Derived.Shelf.Sort.Plain
import Derived.Shelf.SlMaps.Clone
import Derived.Shelf.SlMaps.Equal
import Derived.Test.YthoaidfpgijbfaaGreatZa
set_option linter.all false
set_option maxRecDepth 100000
set_option maxHeartbeats 32000000
namespace Go.Proofs.YthoaidfpgijbfaaGreat
open Lib (hid)
namespace Ho
open Go.RowKit Vb Ac
open Go.MapKept (IsKey)
theorem zwu:zbE Tryz.prog 48 9 1 16:=zbs Tryz.underlying48 (by omega) (z:=.string ⟨#[]⟩) (by kernel_rfl) rfl
instance decBA : DecidableEq ByteArray := fun a b => decidable_of_iff _ (MapKept.bytes_beq a b)
instance lawBA : LawfulBEq ByteArray where
 eq_of_beq h:=(MapKept.bytes_beq _ _).1 h
 rfl:=(MapKept.bytes_beq _ _).2 rfl
def strs (ns:List ByteArray):List Value:=ns.map .string
def zat (W:World) (R:Nat→Prop) (p:Nat) (most:Int) (ns:List ByteArray):Prop:=
 ∃v m F,Blk W p 160 #[v,.map (some m),.int .i64 most]∧R p∧R m∧RowAt W (fun b=>R b∧b≠p) 9 1 v ns.length (strs ns)∧zbG .string .string W m F∧zbY ns F∧ns.length≤1048576
section
variable {W W':World} {R R' X:Nat→Prop} {p:Nat} {most:Int} {ns:List ByteArray}
theorem zat.mono (h:zat W R p most ns) (a:∀b,b<W.heap.size→R b→R' b):zat W R' p most ns:=by
 obtain ⟨v,m,F,c,e,f,g,d,i⟩:=h;exact ⟨v,m,F,c,a _ c.lt e,a _ d.lt f,g.mono fun b j h=>⟨a b j h.1,h.2⟩,d,i⟩
theorem zat.chg (h:zat W R p most ns) (c:Chg X W W') (a:∀b,b<W.heap.size→R b→¬X b):zat W' R p most ns:=by
 obtain ⟨v,m,F,d,e,f,i,g,j⟩:=h;exact ⟨v,m,F,d.chg c (a _ d.lt e),e,f,i.chg c fun b k h=>a b k h.1,g.chg c (a _ g.lt f),j⟩
theorem zat.grow (h:zat W R p most ns) (hb:Below W W W'):zat W' R p most ns:=h.chg (Chg.of (fun _=>False) hb) fun _ _ _=>id
theorem zlF:∀k:ByteArray,IsKey .string (.string k):=fun k=>by simp[IsKey]
theorem zlG:∀a b:ByteArray,Value.string a=.string b→a=b:=fun a b h=>by injection h
end
theorem zcN {W:World} {R:Nat→Prop} {p:Nat} {most:Int} {ns:List ByteArray} (h:zat W R p most ns):
  Calls Tryz.prog 105 #[.pointer (some ⟨p,0,none⟩)] W fun e W'=>e=.returned ↑false∧W'=W:=by
 obtain ⟨v,m,F,a,_⟩:=h;have c:=a.cell 1;have d:=a.frozen 1;have b:∀W,(binOp .eql 158 (.map (some m)) (.map none)).run Tryz.prog W=.ok ↑false W:=fun W=>by kernel_rfl
 simp at c
 clear a;go_enter Tryz.func105,Tryz.ntmps105
 go_wp2
 go_ret
 simp
theorem znp {most:Int} (f:0≤most) (g:most≤1048576) (W:World):Calls Tryz.prog 28 #[most] W fun e W'=>∃p,e=.returned (.tuple #[.pointer (some ⟨p,0,none⟩),()])∧zat W' (fun b=>W.heap.size≤b) p most []∧Below W W W':=by
 have a:=@run_makeMap Tryz.prog;have c:¬most<0:=by omega
 have d:¬1048576<most:=by omega
 go_enter Tryz.func28,Tryz.ntmps28;go_wp2_with fail
 go_ret2
 refine ⟨_,rfl,⟨.slice none 0 0,W.heap.size,fun _=>none,Blk.new' _ _ (by simp),by omega,lR,RowAt.nil,(zbG.made W).grow (qA _),zbY.nil,by simp⟩,(qA _).alloc (by simp) _⟩
def zfC (s:ByteArray):Int:=if s.size<1∨64<s.size then 2 else 0
theorem zfD (s:ByteArray) (w:World):Calls Tryz.prog 119 #[.string s] w fun e w'=>e=.returned ↑(zfC s:Int)∧w'=w:=by
 unfold zfC;by_cases h1:s.size<1
 ·rw[if_pos (.inl h1)];have a:(s.size:Int)<1:=by omega
  go_enter Tryz.func119,Tryz.ntmps119;go_wp2_with fail
  go_ret;exact ⟨rfl,rfl⟩
 ·have a:¬(s.size:Int)<1:=by omega
  by_cases h2:64<s.size
  ·rw[if_pos (.inr h2)];have b:(64:Int)<(s.size:Int):=by omega
   go_enter Tryz.func119,Tryz.ntmps119;go_wp2_with fail
   go_ret;exact ⟨rfl,rfl⟩
  ·rw[if_neg (by omega)];have b:¬(64:Int)<(s.size:Int):=by omega
   go_enter Tryz.func119,Tryz.ntmps119;go_wp2_with fail
   go_ret;exact ⟨rfl,rfl⟩
def zfs (ns:List ByteArray) (most:Int) (s:ByteArray):Int:=if zfC s≠0 then 2 else if s∈ns then 5 else if (ns.length:Int)=most then 3 else 0
section
variable {W:World} {R:Nat→Prop} {p:Nat} {most:Int} {ns:List ByteArray}
theorem zat.look (h:zat W R p most ns) (s:ByteArray):∃v m,W.cell? ⟨p,0,none⟩=some v∧W.cell? ⟨p,1,none⟩=some (.map (some m))∧W.cell? ⟨p,2,none⟩=some ↑most∧(∃A cap,v=.slice A ns.length cap)∧∃F,zbY ns F∧
  (Instr.lookup 158 (.map (some m)) (.string s) true).run Tryz.prog W=.ok (.tuple #[((F s).getD 0:Int),.bool (F s).isSome]) W:=by
 obtain ⟨v,m,F,a,_,_,b,c,d,_⟩:=h;exact ⟨v,m,a.cell 0,a.cell 1,a.cell 2,b.form,F,d,(c.look (P:=Tryz.prog) (mty:=158) (kt:=9) (et:=3) zlF zlG Tryz.underlying158 Tryz.underlying9 (by kernel_rfl) s).1⟩
theorem zrk (h:zat W R p most ns) (s:ByteArray):Calls Tryz.prog 104 #[.pointer (some ⟨p,0,none⟩),.string s] W fun e W'=>(∃F,zbY ns F∧e=.returned (.tuple #[((F s).getD 0:Int),.bool (F s).isSome]))∧W'=W:=by
 have H:=hid h;obtain ⟨v,m,f,g,i,⟨A,d,rfl⟩,F,b,a⟩:=h.look s;have c:=hid b;clear h b;go_enter Tryz.func104,Tryz.ntmps104;go_wp2_with fail
 refine (zcN H.out).mono ?_;rintro e j ⟨rfl,rfl⟩;go_wp2_with fail
 go_ret2
 exact ⟨⟨F,c.out,rfl⟩,rfl⟩
theorem zj5 (h:zat W R p most ns):Calls Tryz.prog 111 #[.pointer (some ⟨p,0,none⟩)] W fun e W'=>e=.returned ↑ns.length∧W'=W:=by
 have H:=hid h;obtain ⟨v,m,d,f,g,⟨A,b,rfl⟩,F,c,a⟩:=h.look default;clear h c a;go_enter Tryz.func111,Tryz.ntmps111;go_wp2_with fail
 refine (zcN H.out).mono ?_;rintro e i ⟨rfl,rfl⟩;go_wp2_with fail
 go_ret;exact ⟨rfl,rfl⟩
theorem zrl (h:zat W R p most ns) {k:Nat} {s:ByteArray} (c:ns[k]? =some s):Calls Tryz.prog 61 #[.pointer (some ⟨p,0,none⟩),k] W fun e W'=>e=.returned (.tuple #[.string s,true])∧W'=W:=by
 have H:=hid h;have i:=(gS.1 c).1;obtain ⟨v,m,F,d,_,_,b,f,g,_⟩:=h;obtain ⟨q,a,rfl,_,_,_⟩:=b.ex (by omega);have j:W.cell? ⟨p,0,none⟩=some (.slice (some ⟨q,0,none⟩) ns.length a):=d.cell 0;have o:W.cell? ⟨q,k,none⟩=some (.string s):=(b.own.cellAt k (by omega)).trans (by simp[strs,c]);have l:(0:Int)≤(k:Int):=by omega
 have n:(k:Int)<(ns.length:Int):=by omega
 clear d b f g c i;go_enter Tryz.func61,Tryz.ntmps61;go_wp2_with fail
 refine (zj5 H.out).mono ?_;rintro e r ⟨rfl,rfl⟩;go_wp2_with fail
 go_ret2
 exact ⟨rfl,rfl⟩
theorem ztE (h:zat W R p most ns) {s:ByteArray} (f:zfs ns most s≠0):Calls Tryz.prog 81 #[.pointer (some ⟨p,0,none⟩),.string s] W fun e W'=>e=.returned (.tuple #[(),(zfs ns most s:Int)])∧W'=W:=by
 have H:=hid h;obtain ⟨v,m,q,r,t,⟨A,o,rfl⟩,F,d,a⟩:=h.look s;obtain ⟨z,b⟩:=nm (zfs ns most s);rw[←b] at f ⊢;unfold zfs at b;by_cases h1:zfC s≠0
 ·rw[if_pos h1] at b;have k:zfC s=2:=by unfold zfC at h1 ⊢;split at h1<;>simp_all
  have j:=hid k;subst b;clear h d h1 k f a;go_enter Tryz.func81,Tryz.ntmps81;go_wp2_with fail
  refine (zcN H.out).mono ?_;rintro e g ⟨rfl,rfl⟩;go_wp2_with fail
  refine (zfD s _).mono ?_;rintro e g ⟨rfl,rfl⟩;rw[j.out];go_wp2_with fail
  go_ret2
  exact ⟨rfl,rfl⟩
 ·rw[if_neg h1] at b;have j:=hid (Decidable.not_not.1 h1);by_cases h3:s∈ns
  ·rw[if_pos h3] at b;subst b;have c:∃i,F s=some i:=by
    cases hFs:F s with
    |none=>exact absurd h3 ((d.no s).1 hFs)
    |some i=>exact ⟨i,rfl⟩
   obtain ⟨i,l⟩:=c;rw[l] at a;simp only[Option.getD_some,Option.isSome_some] at a;clear h d h1 f h3 l;go_enter Tryz.func81,Tryz.ntmps81;go_wp2_with fail
   refine (zcN H.out).mono ?_;rintro e g ⟨rfl,rfl⟩;go_wp2_with fail
   refine (zfD s _).mono ?_;rintro e g ⟨rfl,rfl⟩;rw[j.out];go_wp2_with fail
   go_ret2
   exact ⟨rfl,rfl⟩
  ·rw[if_neg h3] at b;have n:F s=none:=(d.no s).2 h3;rw[n] at a;simp only[Option.getD_none,Option.isSome_none] at a;by_cases h4:(ns.length:Int)=most
   ·rw[if_pos h4] at b;subst b;have x:((ns.length:Int)==most)=true:=by simpa using h4
    clear h d h1 f h3 n h4;go_enter Tryz.func81,Tryz.ntmps81;go_wp2_with fail
    refine (zcN H.out).mono ?_;rintro e g ⟨rfl,rfl⟩;go_wp2_with fail
    refine (zfD s _).mono ?_;rintro e g ⟨rfl,rfl⟩;rw[j.out];go_wp2_with fail
    go_ret2
    exact ⟨rfl,rfl⟩
   ·rw[if_neg h4] at b;exact absurd b f
end
theorem zo3 {W:World} {R:Nat→Prop} {p:Nat} {most:Int} {ns:List ByteArray} (h:zat W R p most ns) {s:ByteArray} (g:zfs ns most s=0) (hn:ns.length<1048576):Calls Tryz.prog 81 #[.pointer (some ⟨p,0,none⟩),.string s] W fun e W'=>
  e=.returned (.tuple #[ns.length,()])∧zat W' (fun b=>R b∨W.heap.size≤b) p most (ns++[s])∧Chg R W W':=by
 have H:=hid h;have HN:=hid hn;unfold zfs at g;have K:zfC s=0:=by
  apply Decidable.byContradiction
  intro K;rw[if_pos K] at g;cases g
 rw[if_neg (by rw[K];simp)] at g;have L:s∉ns:=by
  intro L;rw[if_pos L] at g;cases g
 rw[if_neg L] at g;have h4:¬(ns.length:Int)=most:=by
  intro h4;rw[if_pos h4] at g;cases g
 have h5:((ns.length:Int)==most)=false:=by simpa using h4
 obtain ⟨v,m,F,c,N,M,a,S,hi,Q⟩:=h;have hF:F s=none:=(hi.no s).2 L;have f:=(S.look (P:=Tryz.prog) (mty:=158) (kt:=9) (et:=3) zlF zlG Tryz.underlying158 Tryz.underlying9 (by kernel_rfl) s).1;rw[hF] at f;simp only[Option.getD_none,Option.isSome_none] at f;obtain ⟨A,j,rfl⟩:=a.form;have c0:W.cell? ⟨p,0,none⟩=some (.slice A ns.length j):=c.cell 0;have c1:W.cell? ⟨p,1,none⟩=some (.map (some m)):=c.cell 1;have c2:W.cell? ⟨p,2,none⟩=some ↑most:=c.cell 2;have ab:p≠m:=S.not_cells c;have ac:∀b,(Value.slice A ns.length j).ownBlock=some b→b≠m:=fun b c=>S.not_row a c;have ad:¬(Value.slice A ns.length j).ownBlock=some p:=fun e=>(a.blk p e).2 rfl;have HB:=hid c;have D:=hid (a.grow (bR.alloc lR (.cells #[.string s] 9)));have HR0:=hid a;have HM:=hid S;have HI:=hid hi;have HF:=hid hF;have H1:=hid K;have G:=hid ab;have I:=hid ac;have NVP:=hid ad;have E:=hid N;have C:=hid M;clear K L h4 c a S hi hF ab ac ad N M Q hn g;go_enter Tryz.func81,Tryz.ntmps81;go_wp2_with fail
 refine (zcN H.out).mono ?_;rintro e l ⟨rfl,rfl⟩;go_wp2_with fail
 refine (zfD s _).mono ?_;rintro e l ⟨rfl,rfl⟩;rw[H1.out]
 go_wp2_with (at_builtin;go_must (refine zb6 _ (.tmp 42) (.tmp 44) rfl zwu rfl (.slice A ns.length j) ns.length (strs ns) rfl D.out (.slice (some ⟨l,0,none⟩) 1 1) 1 [.string s] rfl (Sl.lit1 (Blk.new l 9 #[.string s]) rfl) (by simp[Value.oneCell']) (by have:=HN.out;omega) (by have:=HN.out;unfold maxLen;omega) ?_);intro y J Z aa k;have d:=(HB.out.alloc (.cells #[.string s] 9)).chg k NVP.out;have f0:=d.frozen 0;have z0:=d.cell 0;have z1:=d.cell 1;obtain ⟨U,x⟩:=nm (Z.setCell ⟨p,0,none⟩ (.slice y (ns.length+1) J));have HU:=hid x;have q:Chg (·=p) Z U:=(by rw[x];exact Chg.set Z ⟨p,0,none⟩ _);have o:Blk U p 160 #[.slice y (ns.length+1) J,.map (some m),most]:=(by rw[x];exact d.set_ 0 _);have T:=((HM.out.grow (bR.alloc lR (.cells #[.string s] 9))).chg k (fun e=>I.out m e rfl)).chg q (fun e=>G.out e.symm);obtain ⟨V,Y,X,O⟩:=T.put (P:=Tryz.prog) (mty:=158) (kt:=9) (et:=3) zlF zlG Tryz.underlying158 Tryz.underlying9 s (ns.length:Int);rw[x] at Y;have i:=hid aa;have B:=hid k;have HMV:=hid X;have n:=hid O;have HBU:=hid o;have z:=hid q;have u1:(Z.setCell ⟨p,0,none⟩ (.slice y (ns.length+1) J)).cell? ⟨p,1,none⟩=some (.map (some m)):=(by rw[←x];exact o.cell 1);clear aa k X O o q T x d)
 go_ret2
 have hlt:p<l.heap.size:=HB.out.lt;have hsz:(l.alloc (.cells #[.string s] 9)).heap.size=l.heap.size+1:=by simp
 have t:∀b,(Value.slice y (ns.length+1) J).ownBlock=some b→(R b∧b≠p∧b≠m)∨l.heap.size<b:=fun b c=>by
  rcases i.out.blk b c with h|h
  ·by_cases e:b=m
   ·exfalso
    have hz:=i.out.lt c;subst e;exact zbG.not_row ((HM.out.grow (bR.alloc lR (.cells #[.string s] 9))).chg B.out (fun e=>I.out b e rfl)) i.out c rfl
   ·exact .inl ⟨h.1,h.2,e⟩
  ·exact .inr (by omega)
 have hmlt:m<l.heap.size:=HM.out.lt;have r:=(i.out.chgB z.out (fun b c e=>by
  rcases t b c with h|h
  ·exact h.2.1 e
  ·omega)).chgB n.out (fun b c e=>by
  rcases t b c with h|h
  ·exact h.2.2 e
  ·omega)
 refine ⟨rfl,⟨.slice y (ns.length+1) J,m,upd F s (some (ns.length:Int)),HBU.out.chg n.out G.out,.inl E.out,.inl C.out,?_,HMV.out,HI.out.snoc HF.out,by have:=HN.out;simp;omega⟩,?_⟩
 ·rw[List.length_append];have:strs (ns++[s])=strs ns++[.string s]:=by simp[strs]
  rw[this];refine ⟨r.own,fun b c=>?_⟩
  rcases t b c with h|h
  ·exact ⟨.inl h.1,h.2.1⟩
  ·exact ⟨.inr (by omega),by omega⟩
 ·exact ((((Chg.of R (bR.alloc lR (.cells #[.string s] 9))).step B.out fun b _ h=>(HR0.out.blk b h).1).step z.out fun b _ e=>e▸E.out).step n.out fun b _ e=>e▸C.out)
end Ho
namespace Ac
def zai (x:Int):Prop:=0≤x∧x≤1099511627776
instance (x : Int) : Decidable (zai x) := inferInstanceAs (Decidable (_ ∧ _))
def holdE (bu sp:Int) (M:HM) (lot c:Int):Int:=if lot<0∨¬zai c then 2 else if bu-sp-zas M+atM M lot<c then 8 else 0
theorem ztF {b sp:Int} {M:HM} {a c:Int}:holdE b sp M a c=0↔0≤a∧zai c∧c≤b-sp-zas M+atM M a:=by
 unfold holdE
 split
 ·rename_i h
  constructor
  ·intro d;omega
  ·rintro ⟨f,e,_⟩
   rcases h with h|h
   ·omega
   ·exact absurd e h
 ·rename_i h
  split
  ·constructor
   ·intro d;omega
   ·rintro ⟨_,_,g⟩;omega
  ·refine ⟨fun _=>⟨by omega,?_,by omega⟩,fun _=>rfl⟩;by_cases hc:zai c
   ·exact hc
   ·exact absurd (.inr hc) h
theorem ztG (p:Int×Int) (r:HM) (k:Int):atM (p::r) k=if p.1=k then p.2 else atM r k:=by
 unfold atM;by_cases h:p.1=k
 ·simp[List.find?_cons,h]
 ·have:(p.1==k)=false:=by simpa using h
  rw[if_neg h,List.find?_cons,this]
theorem zo4:∀{r:HM} {p:Int×Int},(r.map (·.1)).Nodup→p∈r→atM r p.1=p.2
 |q::r,p,hn,hp=>by
  rw[List.map_cons,List.nodup_cons] at hn;rw[ztG]
  rcases List.mem_cons.1 hp with rfl|hp
  ·rw[if_pos rfl]
  ·rw[if_neg (fun e=>hn.1 (by rw[e];exact List.mem_map.2 ⟨p,hp,rfl⟩))];exact zo4 hn.2 hp
theorem zeW:∀(l r:HM),zas (l++r)=zas l+zas r
 |[],r=>by simp[zas]
 |p::l,r=>by
  have:=zeW l r;simp only[List.cons_append,zbK]
  omega
theorem zcX:∀{l:HM},(∀p∈l,0≤p.2)→0≤zas l
 |[],_=>Int.le_refl _
 |p::l,h=>by
  have:=zcX (l:=l) fun q hq=>h q (by simp[hq]);have:=h p (by simp);rw[zbK]
  omega
theorem drop_at {l:HM} {i:Nat} {p:Int×Int} (h:l[i]? =some p):l.drop i=p::l.drop (i+1):=by
 have a:=(gS.1 h).1;rw[List.drop_eq_getElem_cons a];rw[gE a] at h;injection h with h
 rw[h]
end Ac
namespace Ac
open Go.Shelf
def zih:Go.Shelf.Ren:=⟨fun|7=>155|10=>175|n=>n,fun|23=>201|26=>3|3=>2|28=>248|0=>0|27=>247|33=>277|4=>4|n=>n,fun|n=>n⟩
theorem znq:Go.Proofs.SlLaysZI.n7 Tryz.prog zih:={
 mixed:=by kernel_rfl
 f7:=⟨Tryz.f155.name,by decide,Tryz.func155.trans (congrArg some (by kernel_rfl))⟩
 f10:=⟨Tryz.f175.name,by decide,Tryz.func175.trans (congrArg some (by kernel_rfl))⟩
 t0:=Tryz.underlying0
 a0:=Tryz.isAgg0
 z0:=Tryz.sizeOf0
 v0:=Tryz.zeroValue0
 t4:=Tryz.underlying4
 a4:=Tryz.isAgg4
 z4:=Tryz.sizeOf4
 v4:=Tryz.zeroValue4
 t23:=Tryz.underlying201
 a23:=Tryz.isAgg201
 z23:=Tryz.sizeOf201
 v23:=Tryz.zeroValue201
 t26:=Tryz.underlying3
 a26:=Tryz.isAgg3
 z26:=Tryz.sizeOf3
 v26:=Tryz.zeroValue3
 t27:=Tryz.underlying247
 a27:=Tryz.isAgg247
 z27:=Tryz.sizeOf247
 v27:=Tryz.zeroValue247
 t28:=Tryz.underlying248
 a28:=Tryz.isAgg248
 z28:=Tryz.sizeOf248
 v28:=Tryz.zeroValue248
 t33:=Tryz.underlying277
 a33:=Tryz.isAgg277
 z33:=Tryz.sizeOf277
 v33:=Tryz.zeroValue277}
def zhj:Go.Shelf.Ren:=⟨fun|6=>154|8=>173|9=>174|11=>195|13=>170|12=>196|23=>192|24=>193|14=>209|15=>210|16=>211|17=>212|18=>213|19=>214|20=>215|21=>216|22=>217|25=>223|26=>205|27=>206|28=>224|29=>225|30=>226|31=>229|n=>n,fun|26=>3|28=>248|24=>245|0=>0|3=>3|37=>273|48=>41|50=>305|4=>4|40=>298|39=>297|45=>129|5=>5|9=>9|51=>321|55=>325|57=>336|58=>235|33=>277|n=>n,fun|n=>n⟩
theorem zpH:Go.Proofs.SlLaysZI.n6 Tryz.prog zhj:={
 mixed:=by kernel_rfl
 f6:=⟨Tryz.f154.name,by decide,Tryz.func154.trans (congrArg some (by kernel_rfl))⟩
 f8:=⟨Tryz.f173.name,by decide,Tryz.func173.trans (congrArg some (by kernel_rfl))⟩
 f11:=⟨Tryz.f195.name,by decide,Tryz.func195.trans (congrArg some (by kernel_rfl))⟩
 t0:=Tryz.underlying0
 a0:=Tryz.isAgg0
 z0:=Tryz.sizeOf0
 v0:=Tryz.zeroValue0
 t24:=Tryz.underlying245
 a24:=Tryz.isAgg245
 z24:=Tryz.sizeOf245
 v24:=Tryz.zeroValue245
 t26:=Tryz.underlying3
 a26:=Tryz.isAgg3
 z26:=Tryz.sizeOf3
 v26:=Tryz.zeroValue3
 t28:=Tryz.underlying248
 a28:=Tryz.isAgg248
 z28:=Tryz.sizeOf248
 v28:=Tryz.zeroValue248
 i26:=by kernel_rfl}
def znr:Go.Shelf.Ren:=⟨fun|189=>174|125=>170|257=>196|128=>192|129=>193|294=>209|295=>210|296=>211|297=>212|298=>213|299=>214|216=>215|300=>216|301=>217|328=>223|329=>205|330=>206|331=>224|332=>225|215=>226|343=>229|n=>n,fun|28=>245|3=>3|46=>273|0=>0|51=>41|53=>305|4=>4|183=>298|182=>297|131=>129|5=>5|9=>9|218=>321|222=>325|228=>336|229=>235|n=>n,fun|n=>n⟩
theorem zns:Go.Proofs.Lays.n189 Tryz.prog znr:={
 mixed:=by kernel_rfl
 f125:=Tryz.func170.trans (congrArg some (by kernel_rfl))
 f128:=Tryz.func192.trans (congrArg some (by kernel_rfl))
 f129:=Tryz.func193.trans (congrArg some (by kernel_rfl))
 f189:=Tryz.func174.trans (congrArg some (by kernel_rfl))
 f215:=Tryz.func226.trans (congrArg some (by kernel_rfl))
 f216:=Tryz.func215.trans (congrArg some (by kernel_rfl))
 f257:=Tryz.func196.trans (congrArg some (by kernel_rfl))
 f294:=Tryz.func209.trans (congrArg some (by kernel_rfl))
 f295:=Tryz.func210.trans (congrArg some (by kernel_rfl))
 f296:=Tryz.func211.trans (congrArg some (by kernel_rfl))
 f297:=Tryz.func212.trans (congrArg some (by kernel_rfl))
 f298:=Tryz.func213.trans (congrArg some (by kernel_rfl))
 f299:=Tryz.func214.trans (congrArg some (by kernel_rfl))
 f300:=Tryz.func216.trans (congrArg some (by kernel_rfl))
 f301:=Tryz.func217.trans (congrArg some (by kernel_rfl))
 f328:=Tryz.func223.trans (congrArg some (by kernel_rfl))
 f329:=Tryz.func205.trans (congrArg some (by kernel_rfl))
 f330:=Tryz.func206.trans (congrArg some (by kernel_rfl))
 f331:=Tryz.func224.trans (congrArg some (by kernel_rfl))
 f332:=Tryz.func225.trans (congrArg some (by kernel_rfl))
 f343:=Tryz.func229.trans (congrArg some (by kernel_rfl))
 t0:=Tryz.underlying0
 a0:=Tryz.isAgg0
 z0:=Tryz.sizeOf0
 v0:=Tryz.zeroValue0
 t3:=Tryz.underlying3
 a3:=Tryz.isAgg3
 z3:=Tryz.sizeOf3
 v3:=Tryz.zeroValue3
 t4:=Tryz.underlying4
 a4:=Tryz.isAgg4
 z4:=Tryz.sizeOf4
 v4:=Tryz.zeroValue4
 t5:=Tryz.underlying5
 a5:=Tryz.isAgg5
 z5:=Tryz.sizeOf5
 v5:=Tryz.zeroValue5
 t9:=Tryz.underlying9
 a9:=Tryz.isAgg9
 z9:=Tryz.sizeOf9
 v9:=Tryz.zeroValue9
 t28:=Tryz.underlying245
 a28:=Tryz.isAgg245
 z28:=Tryz.sizeOf245
 v28:=Tryz.zeroValue245
 t46:=Tryz.underlying273
 a46:=Tryz.isAgg273
 z46:=Tryz.sizeOf273
 v46:=Tryz.zeroValue273
 t51:=Tryz.underlying41
 a51:=Tryz.isAgg41
 z51:=Tryz.sizeOf41
 v51:=Tryz.zeroValue41
 t53:=Tryz.underlying305
 a53:=Tryz.isAgg305
 z53:=Tryz.sizeOf305
 v53:=Tryz.zeroValue305
 t131:=Tryz.underlying129
 a131:=Tryz.isAgg129
 z131:=Tryz.sizeOf129
 v131:=Tryz.zeroValue129
 t182:=Tryz.underlying297
 a182:=Tryz.isAgg297
 z182:=Tryz.sizeOf297
 v182:=Tryz.zeroValue297
 t183:=Tryz.underlying298
 a183:=Tryz.isAgg298
 z183:=Tryz.sizeOf298
 v183:=Tryz.zeroValue298
 t218:=Tryz.underlying321
 a218:=Tryz.isAgg321
 z218:=Tryz.sizeOf321
 v218:=Tryz.zeroValue321
 t222:=Tryz.underlying325
 a222:=Tryz.isAgg325
 z222:=Tryz.sizeOf325
 v222:=Tryz.zeroValue325
 t228:=Tryz.underlying336
 a228:=Tryz.isAgg336
 z228:=Tryz.sizeOf336
 v228:=Tryz.zeroValue336
 t229:=Tryz.underlying235
 a229:=Tryz.isAgg235
 z229:=Tryz.sizeOf235
 v229:=Tryz.zeroValue235}
def zmY:Go.Shelf.Ren:=⟨fun|5=>109|7=>152|n=>n,fun|23=>201|25=>3|3=>2|4=>4|20=>20|n=>n,fun|n=>n⟩
theorem zrm:Go.Proofs.SlLaysW.n5 Tryz.prog zmY:={
 mixed:=by kernel_rfl
 f5:=⟨Tryz.f109.name,by decide,Tryz.func109.trans (congrArg some (by kernel_rfl))⟩
 f7:=Tryz.func152.trans (congrArg some (by kernel_rfl))
 t4:=Tryz.underlying4
 a4:=Tryz.isAgg4
 z4:=Tryz.sizeOf4
 v4:=Tryz.zeroValue4
 t20:=Tryz.underlying20
 a20:=Tryz.isAgg20
 z20:=Tryz.sizeOf20
 v20:=Tryz.zeroValue20
 t23:=Tryz.underlying201
 a23:=Tryz.isAgg201
 z23:=Tryz.sizeOf201
 v23:=Tryz.zeroValue201}
def zmZ:Go.Shelf.Ren:=⟨fun|6=>113|n=>n,fun|23=>201|24=>201|26=>3|27=>2|4=>4|3=>3|0=>0|36=>250|n=>n,fun|n=>n⟩
theorem zrn:Go.Proofs.SlLaysEq.n6 Tryz.prog zmZ:={
 mixed:=by kernel_rfl
 f6:=⟨Tryz.f113.name,by decide,Tryz.func113.trans (congrArg some (by kernel_rfl))⟩
 t0:=Tryz.underlying0
 a0:=Tryz.isAgg0
 z0:=Tryz.sizeOf0
 v0:=Tryz.zeroValue0
 t3:=Tryz.underlying3
 a3:=Tryz.isAgg3
 z3:=Tryz.sizeOf3
 v3:=Tryz.zeroValue3
 t4:=Tryz.underlying4
 a4:=Tryz.isAgg4
 z4:=Tryz.sizeOf4
 v4:=Tryz.zeroValue4
 t23:=Tryz.underlying201
 a23:=Tryz.isAgg201
 z23:=Tryz.sizeOf201
 v23:=Tryz.zeroValue201
 t24:=Tryz.underlying201
 a24:=Tryz.isAgg201
 z24:=Tryz.sizeOf201
 v24:=Tryz.zeroValue201
 a26:=Tryz.isAgg3
 z26:=Tryz.sizeOf3
 a27:=Tryz.isAgg2
 z27:=Tryz.sizeOf2
 t36:=Tryz.underlying250
 a36:=Tryz.isAgg250
 z36:=Tryz.sizeOf250}
end Ac
namespace Ac
open Go.RowKit Go.Shelf Vb
open Go.Maps (Keyed)
attribute [local go_sem] Oper.semAt_some
structure Acc where
 bud:Int
 sp:Int
 M:HM
def Acc.free (a:Acc):Int:=a.bud-a.sp-zas a.M
structure Acc.Ok (a:Acc):Prop where
 bud:zai a.bud
 sp:zai a.sp
 rise:zaR a.M
 each:∀p∈a.M,0≤p.1∧p.1≤9223372036854775807∧1≤p.2
 sum:zas a.M≤1099511627776
def Acc.Fine (a:Acc):Prop:=a.sp+zas a.M≤a.bud
structure AccAt (W:World) (b m n:Nat) (a:Acc):Prop where
 blk:Blk W b 203 #[.int .i64 a.bud,.int .i64 a.sp,.map (some m)]
 own:W.ownsMap Tryz.prog 3 (plainElem (H:=Unit) Tryz.prog 2) m n (dM a.M)
inductive Fm where
 |nil
 |zero
 |live (a:Acc)
def Fm.bud:Fm→Int| .live a=>a.bud|_=>0
def Fm.sp:Fm→Int| .live a=>a.sp|_=>0
def Fm.M:Fm→HM| .live a=>a.M|_=>[]
def Fm.there:Fm→Bool| .live _=>true|_=>false
def Fm.Ok:Fm→Prop| .live a=>a.Ok|_=>True
def AtP (W:World) (v:Value):Fm→Prop
 | .nil=>v=.pointer none
 | .zero=>∃b,v=.pointer (some ⟨b,0,none⟩)∧Blk W b 203 #[.int .i64 0,.int .i64 0,.map none]
 | .live a=>∃b m n,v=.pointer (some ⟨b,0,none⟩)∧AccAt W b m n a
section
variable {W W':World} {b m n:Nat} {a:Acc} {v:Value} {f:Fm}
theorem AccAt.ltb (h:AccAt W b m n a):b<W.heap.size:=h.blk.lt
theorem AccAt.ltm (h:AccAt W b m n a):m<W.heap.size:=h.own.lt
theorem AccAt.ne (h:AccAt W b m n a):b≠m:=by
 rintro rfl;obtain ⟨e,c,d,_⟩:=h.own;have:=h.blk;unfold Blk at this;rw[d] at this
 cases this
theorem AccAt.chg {X:Nat→Prop} (h:AccAt W b m n a) (hc:Chg X W W') (h1:¬X b) (h2:¬X m):AccAt W' b m n a:=⟨h.blk.chg hc h1,hc.ownsMap h.own h2⟩
theorem AccAt.grow (h:AccAt W b m n a) (hb:Below W W W'):AccAt W' b m n a:=h.chg (Chg.of (fun _=>False) hb) id id
theorem AccAt.mono (h:AccAt W b m n a) {n':Nat} (hn:n≤n'):AccAt W b m n' a:=⟨h.blk,h.own.mono hn⟩
theorem AtP.grow (h:AtP W v f) (e:Below W W W'):AtP W' v f:=by
 cases f with
 |nil=>exact h
 |zero=>obtain ⟨b,c,d⟩:=h;exact ⟨b,c,d.grow e⟩
 |live a=>obtain ⟨b,m,n,c,d⟩:=h;exact ⟨b,m,n,c,d.grow e⟩
theorem AtP.ptr (h:AtP W v f):∃p,v=.pointer p:=by
 cases f with
 |nil=>exact ⟨_,h⟩
 |zero=>obtain ⟨b,c,d⟩:=h;exact ⟨_,c⟩
 |live a=>obtain ⟨b,m,n,c,d⟩:=h;exact ⟨_,c⟩
end
theorem int_keyed':Keyed Tryz.prog 3:=Maps.int_keyed Tryz.underlying3
theorem zi6 {x:Int} (h:-9223372036854775808≤x∧x≤9223372036854775807):(Lit.int .i64 x).wf=true:=WalkArith.wf_i64 (by omega)
theorem AccAt.look {W:World} {b m n:Nat} {a:Acc} (h:AccAt W b m n a) {x:Int} (f:-9223372036854775808≤x∧x≤9223372036854775807):
  (Instr.lookup 201 (.map (some m)) ↑x false).run Tryz.prog W=.ok ↑(atM a.M x:Int) W:=by
 obtain ⟨c,e,d,_⟩:=h.own.lookup_int int_keyed' Tryz.underlying201 Tryz.underlying2 (Tryz.zeroValue2 _) (Maps.keyOf_int_mk Tryz.underlying3 (zi6 f));rw[zve] at d;exact e.trans (by rw[(Lit.int.inj (DataW.lit.inj d)).2])
theorem AccAt.put {W:World} {b m n:Nat} {a:Acc} (h:AccAt W b m n a) (i:n<maxLen) {x v:Int} (l:-9223372036854775808≤x∧x≤9223372036854775807) (j:-9223372036854775808≤v∧v≤9223372036854775807):
  ∃W',(Instr.mapUpdate 201 (.map (some m)) ↑x ↑v).run Tryz.prog W=.ok () W'∧AccAt W' b m (n+1) {a with M:=zg4 a.M x v}∧Chg (·=m) W W':=by
 obtain ⟨W',c,d,g⟩:=h.own.update int_keyed' Tryz.underlying201 i (Maps.keyOf_int_mk Tryz.underlying3 (zi6 l)) (plainElem_int Tryz.underlying2 (zi6 j));rw[zws] at d;have f:Chg (·=m) W W':=(Chg.grown g).mono fun k _ e=>by injection e
 exact ⟨W',c,⟨h.blk.chg f h.ne,d⟩,f⟩
theorem AccAt.del {W:World} {b m n:Nat} {a:Acc} (h:AccAt W b m n a) {x:Int} (j:-9223372036854775808≤x∧x≤9223372036854775807) (g:TypeId):
  ∃W',(Builtin.delete_ #[201,3] g #[.map (some m),x]).run Tryz.prog W=.ok (.tuple #[]) W'∧AccAt W' b m n {a with M:=zbl a.M x}∧Chg (·=m) W W':=by
 obtain ⟨W',c,d,i⟩:=h.own.drop int_keyed' Tryz.underlying201 (Maps.keyOf_int_mk Tryz.underlying3 (zi6 j)) g;rw[zwt] at d;have f:Chg (·=m) W W':=(Chg.grown i.grown).mono fun k _ e=>by injection e
 exact ⟨W',c,⟨h.blk.chg f h.ne,d⟩,f⟩
theorem look_nil {W:World} {x:Int} (hx:-9223372036854775808≤x∧x≤9223372036854775807):
  (Instr.lookup 201 (.map none) ↑x false).run Tryz.prog W=.ok ↑() W:=
 Maps.look_nil false int_keyed' Tryz.underlying201 (Tryz.zeroValue2 _) (Maps.keyOf_int_mk Tryz.underlying3 (zi6 hx))
end Ac
namespace Ac
open Go.RowKit Go.Shelf Go.Maps Vb
attribute [local go_sem] Oper.semAt_some
theorem zg5 {M:HM} (h:zaR M):(M.map (·.1)).Pairwise (·<·):=List.pairwise_map.2 h
theorem zoz {M:HM} (h:zaR M) {ss:List Int} (f:ss.Perm (M.map (·.1))):ss.mergeSort (fun x y=>decide (x≤y))=M.map (·.1):=by
 refine List.Perm.eq_of_pairwise (le:=fun x y=>x≤y) (fun a b _ _ d e=>Int.le_antisymm d e) ?_ ?_ ((List.mergeSort_perm _ _).trans f)
 ·have:=List.pairwise_mergeSort (le:=fun (x y:Int)=>decide (x≤y)) (fun a b c d e=>by simp at*;omega) (fun a b=>by simp;omega) ss;exact this.imp fun h=>by simpa using h
 ·exact (zg5 h).imp fun h=>Int.le_of_lt h
theorem zlH:∀{M N:HM},zaR M→zaR N→(∀p∈M,p∈N)→M.length≤N.length∧(M.length=N.length→M=N)
 |[],[],_,_,_=>⟨lR,fun _=>rfl⟩
 |[],y::r,_,_,_=>⟨by simp,fun h=>by simp at h⟩
 |x::l,[],_,_,h=>absurd (h x (by simp)) (by simp)
 |x::l,y::r,hM,hN,h=>by
  obtain ⟨x1,x2⟩:=List.pairwise_cons.1 hM;obtain ⟨y1,y2⟩:=List.pairwise_cons.1 hN;have hxy:y.1≤x.1:=by
   rcases List.mem_cons.1 (h x (by simp)) with rfl|hx
   ·exact Int.le_refl _
   ·exact Int.le_of_lt (y1 x hx)
  have d:∀p∈l,p∈r:=fun p a=>by
   rcases List.mem_cons.1 (h p (by simp[a])) with rfl|hq
   ·have:=x1 p a
    omega
   ·exact hq
  obtain ⟨e,f⟩:=zlH x2 y2 d;refine ⟨by simpa using e,fun c=>?_⟩
  rcases List.mem_cons.1 (h x (by simp)) with rfl|hx
  ·rw[f (by simpa using c)]
  ·have b:∀p∈x::l,p∈r:=fun p a=>by
    rcases List.mem_cons.1 a with rfl|a
    ·exact hx
    ·exact d p a
   have:=(zlH (M:=x::l) hM y2 b).1
   simp at this c
   omega
termination_by M N=>N.length
def zi7:DataW Unit→DataW Unit→Bool
 | .lit (.int _ a),.lit (.int _ b)=>decide (a=b)
 |_,_=>false
theorem ztH {N:HM} {p:Int×Int} (e:zaR N):Lib.goodD zi7 (dM N) (zcW p)=decide (p∈N):=by
 have l:=zif p.1 N;have c:Maps.has (dM N) (zcW p).1=(N.find? (fun q=>q.1==p.1)).isSome:=by
  show (N.map zcW).any (fun q=>q.1.sameKey ↑p.1)=_
  rw[Bool.eq_iff_iff,List.any_eq_true,←List.find?_isSome,l]
  simp
 unfold Lib.goodD;rw[c];have f:(dM N).atKey (zcW p).1 .nil=match N.find? (fun q=>q.1==p.1) with|some q=>.lit ↑q.2|none=>.nil:=by
  show (dM N).atKey ↑p.1 .nil=_
  unfold dM DataW.atKey;simp only[];rw[l]
  cases N.find? (fun q=>q.1==p.1)<;>rfl
 rw[f]
 cases hc:N.find? (fun q=>q.1==p.1) with
 |none=>
  have:p∉N:=fun g=>by
   have:=List.find?_eq_none.1 hc p g
   simp at this
  simp[this]
 |some q=>
  have k:q.1=p.1:=by simpa using List.find?_some hc
  have o:=List.mem_of_find?_eq_some hc
  show (true&&decide (p.2=q.2))=_
  rw[Bool.true_and];by_cases he:p.2=q.2
  ·have:p=q:=Prod.ext k.symm he
   simp[he,this,o]
  ·have d:p∉N:=fun g=>by
    apply he
    obtain ⟨i,m,a⟩:=List.getElem_of_mem g;obtain ⟨j,n,b⟩:=List.getElem_of_mem o;have r:=zg5 e
    rcases Nat.lt_trichotomy i j with h|h|h
    ·have:=List.pairwise_iff_getElem.1 e i j m n h;rw[a,b] at this
     omega
    ·subst h;rw[←a,←b]
    ·have:=List.pairwise_iff_getElem.1 e j i n m h;rw[a,b] at this
     omega
   simp[he,d]
theorem zro {M N:HM} (e:zaR M) (b:zaR N):Lib.equalFuncD zi7 (dM M) (dM N)=decide (M=N):=by
 unfold Lib.equalFuncD;rw[zi5,zi5];have a:(Lib.entriesD (dM M)).all (Lib.goodD zi7 (dM N))=M.all fun p=>decide (p∈N):=by
  show (M.map zcW).all _=_
  rw[List.all_map]
  congr 1
  funext p
  exact ztH b
 rw[a,Bool.eq_iff_iff];simp only[Bool.and_eq_true,decide_eq_true_eq,List.all_eq_true]
 constructor
 ·rintro ⟨c,d⟩;exact (zlH e b d).2 c
 ·rintro rfl;exact ⟨rfl,fun p f=>f⟩
theorem zvn (W:World) (x y:Value) (c d:DataW Unit) (i j:List MemPlace) (g:plainElem Tryz.prog 2 x=some (c,i)) (h:plainElem Tryz.prog 2 y=some (d,j)):
  (binOp .neq 2 x y).run Tryz.prog W=.ok ↑(!zi7 c d:Bool) W∧∀(a b:Operand),(eqGuard .neq 2 a b x y).run Tryz.prog W=.ok () W:=by
 obtain ⟨a,rfl,e,_⟩:=plainElem_int_inv Tryz.underlying2 g;obtain ⟨b,rfl,f,_⟩:=plainElem_int_inv Tryz.underlying2 h;obtain rfl:c=.lit ↑a:=by simpa using (congrArg Prod.fst e)
 obtain rfl:d=.lit ↑b:=by simpa using (congrArg Prod.fst f)
 refine ⟨?_,fun _ _=>by rw[eqGuard_at_int];rfl⟩
 simp[go_sem,zi7,binOp]
 rfl
theorem zrp {W:World} {b1 b2 b c g h:Nat} {d f:Acc} (i:AccAt W b1 b g d) (j:AccAt W b2 c h f) (m:zaR d.M) (n:zaR f.M):
  Calls Tryz.prog 113 #[.map (some b),.map (some c)] W fun e w'=>e=.returned ↑(decide (d.M=f.M):Bool)∧Below W W w':=by
 refine (show Calls Tryz.prog 113 #[.map (some b),.map (some c)] W _ from
  AnyEq.maps_Equal_opt zrn int_keyed' (plainElem Tryz.prog 2) (plainElem Tryz.prog 2) zi7 (some b) (some c) (dM d.M) (dM f.M) W (.inr ⟨b,g,rfl,i.own⟩) (.inr ⟨c,h,rfl,j.own⟩) ↑() Tryz.zeroValue2 (.lit ↑()) [] (plainElem_int Tryz.underlying2 (by decide)) zvn).mono ?_
 rintro e w' ⟨rfl,a⟩;refine ⟨by rw[zro m n],⟨a.os,a.tape,a.output,a.size,fun k l=>a.block k l (by simp)⟩⟩
theorem zmc {W:World} {b m n:Nat} {a:Acc} (h:AccAt W b m n a):
  Calls Tryz.prog 109 #[.map (some m)] W fun e w'=>e=.returned (.map (some W.heap.size))∧w'.ownsMap Tryz.prog 3 (plainElem (H:=Unit) Tryz.prog 2) W.heap.size n (dM a.M)∧Below W W w':=
 (show Calls Tryz.prog 109 #[.map (some m)] W _ from AnyW.maps_Clone_owns zrm 3 (plainElem (H:=Unit) Tryz.prog 2) m n (dM a.M) W h.own).mono fun _ _ ⟨h1,h2,_,h4⟩=>⟨h1,h2,h4⟩
theorem ztI (mb:Option Nat) (W:World):
  Calls Tryz.prog 155 #[.map mb] W fun e w'=>e=.returned (.func (.func 175) #[] #[.pointer (some ⟨W,0,none⟩)])∧w'=W.alloc (.cells #[.map mb] 201):=
 (callsIn_wide (n:=5)).1 (AnyZI.keys_in znq Fence.wide 5 trivial rfl mb W)
theorem ztJ (m:Nat):AnyZI.SortsIn Tryz.prog zhj Fence.wide m:=
 ⟨fun blk off cap ss W hH hblk hsz=>callsIn_wide.2 (Any.slices_Sort_int zns blk off cap ss W hH hblk hsz),
  fun p cap W=>callsIn_wide.2 (Any.slices_Sort_int_none zns p cap W)⟩
theorem zpI {W:World} {g m n:Nat} {M:HM} (k:zaR M) (l:M.length≤1099511627776) (i:W.cell? ⟨g,0,none⟩=some (.map (some m))) (c:W.ownsMap Tryz.prog 3 (plainElem (H:=Unit) Tryz.prog 2) m n (dM M)):
  Calls Tryz.prog 154 #[.func (.func 175) #[] #[.pointer (some ⟨g,0,none⟩)]] W fun e w'=>∃v,e=.returned v∧w'.ownsRow W.heap.size 3 1 v M.length ((M.map (·.1)).map (Value.int .i64))∧Below W W w':=by
 have d:SeqGives Fence.wide 2 Tryz.prog 175 #[.pointer (some ⟨g,0,none⟩)] encZ (fun h=>h.Perm (intKeys (dM M))) (Maps.size (dM M)) W:=
  AnyZI.keys_gives (ρ:=zih) {znq with} Fence.wide _ trivial rfl (by omega) g m n (dM M) _ (World.block_lt_of_cell? W ⟨g,0,none⟩ i) i c
 refine (callsIn_wide (n:=5)).1 ((show CallsIn Fence.wide 5 Tryz.prog 154 #[.func (.func 175) #[] #[.pointer (some ⟨g,0,none⟩)]] W _ from
  AnyZI.sorted_in zpH Fence.wide 5 trivial trivial trivial trivial rfl (by omega) (ztJ _) (enters_of Tryz.func174 (by kernel_rfl) rfl) 175 #[.pointer (some ⟨g,0,none⟩)] trivial (enters_of Tryz.func175 (by kernel_rfl) rfl) _ _ (by rw[zi5];unfold maxLen;omega) (by rw[zi5];omega) W d).mono ?_)
 rintro e w' ⟨v,h,rfl,f,a,_,j⟩;rw[zvl] at f;have b:h.length=M.length:=by rw[f.length_eq];simp
 rw[zoz k f,b] at a;exact ⟨v,rfl,a,j⟩
theorem zep {P:Program} {f:FuncId} {args:Array Value} {w:World} {n:Nat} {v:Value}
  (h:Calls P f args (w.drewN n) fun e w'=>e=.returned v∧w'=w.drewN n):Calls P f args (w.drewN n) fun e w''=>e=.returned v∧∃m,w''=w.drewN m:=
 h.mono fun _ _ ⟨he,hm⟩=>⟨he,n,hm⟩
theorem za6 (x:Int) (w:World):Calls Tryz.prog 122 #[x] w fun e w'=>e=.returned ↑(decide (zai x):Bool)∧w'=w:=by
 obtain ⟨z,c⟩:=nm (decide (zai x));rw[←c];have b:=hid c;clear c;unfold zai at b;go_enter Tryz.func122,Tryz.ntmps122;by_cases h1:0≤x
 ·by_cases h2:x≤1099511627776
  ·have a:=hid (b.out.trans (decide_eq_true ⟨h1,h2⟩))
   go_wp2
   go_ret;exact ⟨by rw[a.out];rfl,rfl⟩
  ·have a:=hid (b.out.trans (decide_eq_false fun h=>h2 h.2))
   go_wp2
   go_ret;exact ⟨by rw[a.out];rfl,rfl⟩
 ·have a:=hid (b.out.trans (decide_eq_false fun h=>h1 h.1))
  go_wp2
  go_ret;exact ⟨by rw[a.out];rfl,rfl⟩
theorem zvo (W:World) (p:Option Nat):(binOp .neq 201 (.map p) (.map none)).run Tryz.prog W=.ok ↑(!p.isNone:Bool) W:=by
 exact run_neq_map_nil W 201 _ _ p Tryz.underlying201
theorem zbr {v:Value} {f:Fm} {w:World} (h:AtP w v f):Calls Tryz.prog 108 #[v] w fun e w'=>e=.returned ↑f.there∧w'=w:=by
 have g:=zvo w
 cases f with
 |nil=>
  subst h;go_enter Tryz.func108,Tryz.ntmps108
  go_wp2
  go_ret;exact ⟨rfl,rfl⟩
 |zero=>
  obtain ⟨b,rfl,c⟩:=h;have d:w.cell? ⟨b,2,none⟩=some (.map none):=c.cell 2;clear c;go_enter Tryz.func108,Tryz.ntmps108
  go_wp2
  go_ret;exact ⟨rfl,rfl⟩
 |live a=>
  obtain ⟨b,m,n,rfl,c⟩:=h;have d:w.cell? ⟨b,2,none⟩=some (.map (some m)):=c.blk.cell 2;clear c;go_enter Tryz.func108,Tryz.ntmps108
  go_wp2
  go_ret;exact ⟨rfl,rfl⟩
theorem zht {v:Value} {f:Fm} {w:World} (h:AtP w v f):Calls Tryz.prog 62 #[v] w fun e w'=>e=.returned ↑f.bud∧w'=w:=by
 cases f with
 |nil=>
  subst h;go_enter Tryz.func62,Tryz.ntmps62
  go_wp2
  go_ret;exact ⟨rfl,rfl⟩
 |zero=>
  obtain ⟨b,rfl,c⟩:=h;have d:w.cell? ⟨b,0,none⟩=some ↑():=c.cell 0;clear c;go_enter Tryz.func62,Tryz.ntmps62
  go_wp2
  go_ret;exact ⟨rfl,rfl⟩
 |live a=>
  obtain ⟨b,m,n,rfl,c⟩:=h;have d:w.cell? ⟨b,0,none⟩=some ↑a.bud:=c.blk.cell 0;clear c;go_enter Tryz.func62,Tryz.ntmps62
  go_wp2
  go_ret;exact ⟨rfl,rfl⟩
theorem zmd {v:Value} {f:Fm} {w:World} (h:AtP w v f):Calls Tryz.prog 64 #[v] w fun e w'=>e=.returned ↑f.sp∧w'=w:=by
 cases f with
 |nil=>
  subst h;go_enter Tryz.func64,Tryz.ntmps64
  go_wp2
  go_ret;exact ⟨rfl,rfl⟩
 |zero=>
  obtain ⟨b,rfl,c⟩:=h;have d:w.cell? ⟨b,1,none⟩=some ↑():=c.cell 1;clear c;go_enter Tryz.func64,Tryz.ntmps64
  go_wp2
  go_ret;exact ⟨rfl,rfl⟩
 |live a=>
  obtain ⟨b,m,n,rfl,c⟩:=h;have d:w.cell? ⟨b,1,none⟩=some ↑a.sp:=c.blk.cell 1;clear c;go_enter Tryz.func64,Tryz.ntmps64
  go_wp2
  go_ret;exact ⟨rfl,rfl⟩
theorem znt {v:Value} {f:Fm} {w:World} (h:AtP w v f) {x:Int} (d:-9223372036854775808≤x∧x≤9223372036854775807):Calls Tryz.prog 129 #[v,x] w fun e w'=>e=.returned ↑(atM f.M x:Int)∧w'=w:=by
 cases f with
 |nil=>
  subst h;go_enter Tryz.func129,Tryz.ntmps129
  go_wp2
  go_ret;exact ⟨rfl,rfl⟩
 |zero=>
  obtain ⟨b,rfl,c⟩:=h;have g:w.cell? ⟨b,2,none⟩=some (.map none):=c.cell 2;have i:=look_nil (W:=w) d;clear c d;go_enter Tryz.func129,Tryz.ntmps129
  go_wp2
  go_ret;exact ⟨rfl,rfl⟩
 |live a=>
  obtain ⟨b,m,n,rfl,c⟩:=h;have g:w.cell? ⟨b,2,none⟩=some (.map (some m)):=c.blk.cell 2;have i:=c.look d;clear c d;go_enter Tryz.func129,Tryz.ntmps129
  go_wp2
  go_ret;exact ⟨rfl,rfl⟩
def znu (b:Nat):Value:=.func (.func 153) #[] #[.pointer (some ⟨b,0,none⟩)]
theorem zeL {v:Value} (a:∃p,v=.pointer p) (w:World):Calls Tryz.prog 112 #[v] w fun e w'=>e=.returned (znu w.heap.size)∧w'=w.alloc (.cells #[v] 133):=by
 obtain ⟨p,rfl⟩:=a;go_enter Tryz.func112,Tryz.ntmps112
 go_wp2
 go_ret;exact ⟨rfl,rfl⟩
def ints (l:List Int):List Value:=l.map (Value.int .i64)
theorem zrq {w:World} {R:Nat→Prop} {A:Option Addr} {n c k:Nat} {l:List Int} (h:Sl w R (.slice A n c) n 1 (ints l)) (p:k<n):
  ∃b off x,A=some ⟨b,off,none⟩∧b<w.heap.size∧l[k]? =some x∧w.cell? ⟨b,off+k,none⟩=some ↑(x:Int):=by
 obtain ⟨i,m,o,j,_,_,g⟩:=h;injection j with d _ _
 subst d;obtain ⟨b,off,d,_,f,e⟩:=g (by omega);have a:k<l.length:=by simp[ints] at i;omega
 exact ⟨b,off,l[k],d,f,gE a,e k _ (by simp[ints,a])⟩
theorem zwv {M:HM} (h:zaR M) {j:Nat} {x:Int×Int} (hx:M[j]? =some x):atM M x.1=x.2:=zo4 ((zg5 h).imp fun h=>Int.ne_of_lt h) (mG hx)
structure AllI (lo hi m A:Nat) (n cap:Nat) (a:Option Addr) (M:HM) (W:World):Prop where
 row:Sl W (fun b=>lo≤b∧b<hi) (.slice a M.length cap) M.length 1 (ints (M.map (·.1)))
 own:W.ownsMap Tryz.prog 3 (plainElem (H:=Unit) Tryz.prog 2) m n (dM M)
 lom:lo≤m
 him:m<hi
theorem AllI.keep {lo d m A n c:Nat} {a:Option Addr} {M:HM} {W W':World} (h:AllI lo d m A n c a M W) (e:KeepR lo d W W'):AllI lo d m A n c a M W':=by
 refine ⟨e.sl h.row,?_,h.lom,h.him⟩;obtain ⟨f,b,g,i⟩:=h.own;exact ⟨f,b,(e.same _ h.lom h.him).trans g,i⟩
theorem ztK {W:World} {m n:Nat} {M:HM} (h:W.ownsMap Tryz.prog 3 (plainElem (H:=Unit) Tryz.prog 2) m n (dM M)) {x:Int} (d:-9223372036854775808≤x∧x≤9223372036854775807):
  (Instr.lookup 201 (.map (some m)) ↑x false).run Tryz.prog W=.ok ↑(atM M x:Int) W:=by
 obtain ⟨c,b,a,_⟩:=h.lookup_int int_keyed' Tryz.underlying201 Tryz.underlying2 (Tryz.zeroValue2 _) (Maps.keyOf_int_mk Tryz.underlying3 (zi6 d));rw[zve] at a;exact b.trans (by rw[(Lit.int.inj (DataW.lit.inj a)).2])
theorem zvp (nn:Nat) (hn:1≤nn) (l g:Nat) (v:Value) (f:Fm) (hr:zaR f.M) (hl:f.M.length≤1099511627776) (P:∀p∈f.M,-9223372036854775808≤p.1∧p.1≤9223372036854775807) (J Jx:Nat→List (Int×Int)→World→Prop) (W:World) (hg:W.cell? ⟨g,0,none⟩=some v) (F:AtP W v f)
  (hY:∀hi pre x W1,hi≤W1.heap.size→J hi pre W1→pre++[x]<+:f.M→pre.length<f.M.length→YieldAt Fence.wide (nn-1) Tryz.prog l #[x.1,x.2] W1 fun e W'=>
   (e=.returned ↑true∧J hi (pre++[x]) W'∧KeepR W.heap.size hi W1 W')∨(e=.returned ↑false∧Jx hi (pre++[x]) W'))
  (h0:∀W0,Below W W W0→J W0.heap.size [] W0):
  CallsIn Fence.wide nn Tryz.prog 153 #[.func (.yield l) #[] #[],.pointer (some ⟨g,0,none⟩)] W fun e W'=>(∃v,e=.returned v)∧
   ∃hi,W.heap.size≤hi∧((∃xs,xs=f.M∧J hi xs W')∨(∃pre,pre<+:f.M∧Jx hi pre W')):=by
 refine callsIn_of_wp Tryz.func153 rfl trivial ?_ rfl;have HV:=hid F;have HR:=hid hr;have Y:=hid P;have HY:=hid hY;have H0:=hid h0;clear hr P hY h0;simp only[Tryz.ntmps153,List.size_toArray,List.length_cons,List.length_nil,Nat.reduceAdd,Nat.reduceSub,Array.replicate_succ,Array.replicate_zero,List.push_toArray,List.append_toArray,List.nil_append,List.cons_append];have s:∀W1,Below W W W1→f.M=[]→(∃v:Value,(Ending.returned (.tuple #[]):Ending)=.returned v)∧∃hi,W.heap.size≤hi∧((∃xs,xs=f.M∧J hi xs W1)∨(∃pre,pre<+:f.M∧Jx hi pre W1)):=
  fun W1 k he=>⟨⟨_,rfl⟩,W1.heap.size,k.size,.inl ⟨[],he.symm,H0.out W1 k⟩⟩
 have HD:=hid s;clear s
 cases f with
 |nil=>
  subst F
  gi_wp2
  refine ⟨trivial,(callsIn_wide.2 (zbr (f:=.nil) HV.out)).mono ?_⟩;rintro e r ⟨rfl,rfl⟩;unfold Fm.there
  gi_wp2
  refine bodyPost_ret (results_none rfl _ _ _) rfl ?_;exact HD.out _ bR rfl
 |zero=>
  obtain ⟨b,rfl,k⟩:=F
  gi_wp2
  refine ⟨trivial,(callsIn_wide.2 (zbr (f:=.zero) HV.out)).mono ?_⟩;rintro e r ⟨rfl,rfl⟩;unfold Fm.there
  gi_wp2
  refine bodyPost_ret (results_none rfl _ _ _) rfl ?_;exact HD.out _ bR rfl
 |live a=>
  obtain ⟨b,m,n,rfl,k⟩:=F;have c2:W.cell? ⟨b,2,none⟩=some (.map (some m)):=k.blk.cell 2;have HB:=hid k;clear k
  gi_wp2
  refine ⟨trivial,(callsIn_wide.2 (zbr (f:=.live a) HV.out)).mono ?_⟩;rintro e r ⟨rfl,rfl⟩;obtain ⟨tt,U⟩:=nm ((Fm.live a).there);rw[←U];unfold Fm.there at U
  gi_wp2
  refine ⟨trivial,(callsIn_wide.2 (zmc HB.out)).mono ?_⟩;rintro e X ⟨rfl,z,O⟩;have C:=hid z;have A:=hid O;clear c2 z O
  gi_wp2
  refine ⟨trivial,(callsIn_wide.2 (ztI (some r.heap.size) X)).mono ?_⟩;rintro e w3 ⟨rfl,rfl⟩
  gi_wp2
  refine ⟨trivial,(callsIn_wide.2 (zpI (g:=X.heap.size) (M:=a.M) HR.out hl ((Blk.new X 201 #[.map (some r.heap.size)]).cell 0) (C.out.alloc _))).mono ?_⟩;rintro e d ⟨v4,rfl,c,o⟩;obtain ⟨A4,I,rfl⟩:=zf8 c;have t:AllI r.heap.size d.heap.size r.heap.size 0 n I A4 a.M d:=by
   have T:=A.out.size;have hs4:=o.size;have D:=C.out.lt
   simp at hs4
   refine ⟨(Sl.of_own c).mono fun b k h=>⟨?_,k⟩,Chg.ownsMap (C.out.alloc _) (Chg.of (fun _=>False) o) id,lR,by omega⟩
   rcases c.2 with ⟨hnil,_⟩|⟨g',cp,cur,F,hgb,_⟩
   ·rw[hnil] at h;cases h
   ·rw[F] at h;injection h with h
    simp at hgb h
    omega
  have y:Below r r d:=by
   have T:=A.out.size;exact (A.out.trans ((Below.refl _ X).alloc T _)).trans (o.mono (by simp;omega))
  have G:=hid t;have B:=hid y;have e4:(0:Int)≤(a.M.length:Int):=by omega
  have hl4:a.M.length≤1099511627776:=hl;clear c o t y
  gi_wp2
  gi_loopw [18] (fun i wr=>∃j:Nat,j≤a.M.length∧i=.int .i64 j∧J d.heap.size (a.M.take j) wr∧KeepR r.heap.size d.heap.size d wr) (fun i _=>a.M.length-(intOf i).toNat)
  case atStart=>exact ⟨0,zL,rfl,H0.out d B.out,KeepR.refl _ _ _⟩
  case round=>
   obtain ⟨j,hj,rfl,K,q⟩:=hrel;have V:=G.out.keep q;have HJ:=hid K;have Z:=hid q;have hsz:=q.size;clear K q;by_cases D:j<a.M.length
   ·obtain ⟨gb,go,x,rfl,_,hx,hc⟩:=zrq V.row D;obtain ⟨p,S⟩:∃p,a.M[j]? =some p:=⟨_,gE D⟩;have hpx:p.1=x:=by rw[List.getElem?_map,S] at hx;simpa using hx
    subst hpx;have R:=ztK V.own (Y.out p (mG S));rw[zwv (M:=a.M) HR.out S] at R;have E:a.M.take (j+1)=a.M.take j++[p]:=by rw[List.take_add_one,S];rfl
    have Q:(a.M.take j).length<a.M.length:=by rw[List.length_take];omega
    have H:=hid E;obtain ⟨fn,tmps,assign,body,hy,N⟩:=HY.out d.heap.size _ p wr hsz HJ.out (by show _<+:a.M;rw[←E];exact List.take_prefix _ _) Q;obtain ⟨p1,p2⟩:=p
    dsimp only at hy R hc
    have aa:=hid N;have e0:(0:Int)≤(j:Int):=by omega
    have e1:(j:Int)<(a.M.length:Int):=by omega
    clear hx S E Q N V
    gi_wp2
    refine aa.out.mono ?_;rintro e W3 (⟨rfl,hJ3,hk3⟩|⟨rfl,L⟩)
    ·gi_wp2
     go_roundw
     case rel=>exact ⟨j+1,by omega,by go_num,by rw[H.out];exact hJ3,Z.out.trans hk3⟩
     case measure=>simp[intOf];omega
    ·gi_wp2
     refine bodyPost_ret (results_none rfl _ _ _) rfl ?_;exact ⟨⟨_,rfl⟩,d.heap.size,B.out.size,.inr ⟨_,by rw[←H.out];exact List.take_prefix _ _,L⟩⟩
   ·obtain rfl:j=a.M.length:=by omega
    clear V
    gi_wp2
    go_end0
    have:=HJ.out;rw[List.take_of_length_le lR] at this;exact ⟨⟨_,rfl⟩,d.heap.size,B.out.size,.inl ⟨_,rfl,this⟩⟩
theorem zpJ (nn:Nat) (hn:1≤nn) (g:Nat) (v:Value) (f:Fm) (hr:zaR f.M) (hl:f.M.length≤1099511627776) (hkw:∀p∈f.M,-9223372036854775808≤p.1∧p.1≤9223372036854775807) (w:World) (hg:w.cell? ⟨g,0,none⟩=some v) (hv:AtP w v f):
  zl9 Fence.wide nn Tryz.prog 153 #[.pointer (some ⟨g,0,none⟩)] (fun x:Int×Int=>#[Value.int .i64 x.1,Value.int .i64 x.2]) (fun ys=>ys=f.M) (fun pre=>pre<+:f.M) f.M.length w:=fun l J Jx W hW _ _ hY h0=>
 zvp nn hn l g v f hr hl hkw J Jx W (qc hW hg (World.block_lt_of_cell? w ⟨g,0,none⟩ hg)) (hv.grow hW) hY h0
theorem zkM:∀{M:HM},(∀p∈M,1≤p.2)→(M.length:Int)≤zas M
 |[],_=>by simp[zas]
 |x::r,h=>by
  have:=zkM (M:=r) fun p hp=>h p (by simp[hp]);have h1:=h x (by simp);rw[zbK]
  simp
  omega
structure HOk (M:HM):Prop where
 rise:zaR M
 each:∀p∈M,0≤p.1∧p.1≤9223372036854775807∧1≤p.2
 sum:zas M≤1099511627776
theorem Acc.Ok.h {a:Acc} (h:a.Ok):HOk a.M:=⟨h.rise,h.each,h.sum⟩
theorem Fm.Ok.h {f:Fm} (h:f.Ok):HOk f.M:=by
 cases f with
 |live a=>exact Acc.Ok.h h
 |nil=>exact ⟨List.Pairwise.nil,fun p b=>(by cases b),by decide⟩
 |zero=>exact ⟨List.Pairwise.nil,fun p b=>(by cases b),by decide⟩
theorem HOk.len {M:HM} (h:HOk M):M.length≤1099511627776:=by
 have:=zkM fun p a=>(h.each p a).2.2;have:=h.sum
 omega
theorem HOk.pre {M pre:HM} (h:HOk M) (a:pre<+:M):0≤zas pre∧zas pre≤1099511627776:=by
 obtain ⟨t,rfl⟩:=a;have c:0≤zas t:=zcX fun p a=>by have:=h.each p (by simp[a]);omega
 have d:0≤zas pre:=zcX fun p a=>by have:=h.each p (by simp[a]);omega
 have b:=h.sum;rw[zeW] at b
 omega
theorem zii (pre:HM) (x:Int×Int):zas (pre++[x])=zas pre+x.2:=by
 rw[zeW,zbK]
 show _=_
 simp[zas]
theorem znv {v:Value} {f:Fm} {w:World} (h:AtP w v f) (O:f.Ok):Calls Tryz.prog 63 #[v] w fun e w'=>e=.returned ↑(zas f.M:Int)∧Below w w w':=by
 have T:=hid h;have t:=hid O.h;have C:=h.ptr;clear h O;refine (callsIn_wide (n:=3)).1 (callsIn_of_wp_marks Tryz.func63 rfl trivial ((wpIn_wide (n:=3)).2 ?_));simp only[Tryz.ntmps63,List.size_toArray,List.length_cons,List.length_nil,Nat.reduceAdd,Nat.reduceSub,Array.replicate_succ,Array.replicate_zero,List.push_toArray,List.append_toArray,List.nil_append,List.cons_append];go_wp2_with fail
 refine (zeL C _).mono ?_;rintro e w1 ⟨rfl,rfl⟩;unfold znu;go_wp2_with fail
 obtain ⟨y,a⟩:=nm (((w.alloc (.cells #[()] 2)).alloc (.cells #[v] 133)));have g:Below w w y:=by rw[a];exact (qA _).alloc (by simp) _
 have L:Blk y w 2 #[()]:=by rw[a];exact (Blk.new w _ _).alloc _
 have J:Blk y (w.heap.size+1) 133 #[v]:=by rw[a];exact Blk.new' _ _ (by simp)
 rw[←a];have o:=hid g;have S:=hid L;have Q:=hid J;clear a g L J;refine (wpIn_wide (n:=3)).1 ?_;refine' zj2 (F:=Fence.wide) (n:=3) rfl (by omega) (gf:=153) (lb:=#[.pointer (some ⟨w.heap.size+1,0,none⟩)]) rfl trivial (enters_of Tryz.func153 (by kernel_rfl) rfl)
  (zpJ 2 (by omega) (w.heap.size+1) v f t.out.rise t.out.len (fun p C=>by have:=t.out.each p C;omega) y (Q.out.cell 0) (T.out.grow o.out)) bR (fun _=>rfl)
  (fun _ b W=>Blk W w 2 #[(zas b:Int)]∧Below w w W)
  (fun _ _ _ _=>False)
  (fun _=>OwnFrom.and (Own.from (fun _ _ _ _ h X Z=>h.cells X Z) _) (ownFrom_below lR o.out.size))
  (fun _ _=>fun _ _ _ _ h _ _=>h)
  (fun W0 r=>⟨S.out.grow r,o.out.trans (r.mono o.out.size)⟩) _ ?assign ?body ?done ?stop
 case assign=>
  intro l x W K q
  gi_wp2
  exact q
 case body=>
  rintro N l b x W _ ⟨i,g⟩ s Y;obtain ⟨k,m⟩:=t.out.pre s;rw[zii] at k m;have d:=zii b x;obtain ⟨xa,H⟩:=x;obtain ⟨z,P⟩:=nm (zas b);rw[←P] at k m i d;simp only at k m d;have p0:W.cell? ⟨w,0,none⟩=some ↑z:=i.cell 0;have p1:W.frozen? ⟨w,0,none⟩=false:=i.frozen 0;have ab:IntKind.i64.wrap (z+H)=z+H:=iW _ (by omega);have R:=hid i;have A:=hid d;have j:=hid g;have aa:=o.out.size;clear i g s P d
  dsimp only
  gi_wp2
  refine ⟨KeepsOthers.setCell _ _ _,KeepR.set W (.inl (by simp;omega)) _,?_,j.out.setCell (p:=⟨w,0,none⟩) (by simp) _⟩;rw[A.out];exact R.out.set_ 0 ↑(z+H:Int)
 case done=>
  rintro N D ys W U G ⟨i,g⟩ q;subst G;have p0:W.cell? ⟨w,0,none⟩=some ↑(zas f.M:Int):=i.cell 0;have j:=hid g;have I:=hid q;have B:w.heap.size≤D:=by have:=o.out.size;omega
  clear i g q;go_wp2_with fail
  refine ⟨by simp,.inl ⟨_,_,rfl,run_takeDeferred I.out,?_⟩⟩;exact ⟨.int .i64 (zas f.M),by simp[results,Tryz.results63,go_sem],rfl,j.out.trans (belowK_b (w:=w) lR W D _ _ B I.out rfl rfl)⟩
 case stop=>
  rintro N D c b W U E V q;exact V.elim
def Fm.free (f:Fm):Int:=f.bud-f.sp-zas f.M
theorem Fm.Ok.b {f:Fm} (h:f.Ok):zai f.bud∧zai f.sp:=by
 cases f with
 |live a=>exact ⟨Acc.Ok.bud h,Acc.Ok.sp h⟩
 |nil=>exact ⟨by decide,by decide⟩
 |zero=>exact ⟨by decide,by decide⟩
theorem HOk.nn {M:HM} (h:HOk M):0≤zas M:=(h.pre (List.prefix_refl _)).1
theorem zgc {v:Value} {f:Fm} {w:World} (h:AtP w v f) (d:f.Ok):Calls Tryz.prog 157 #[v] w fun e w'=>e=.returned ↑f.free∧Below w w w':=by
 obtain ⟨⟨r,s⟩,B,C⟩:=d.b;have t:=d.h.nn;have A:=d.h.sum;have l:=hid h;have n:=hid d;have k:=hid (show f.free=f.bud-f.sp-zas f.M from rfl);obtain ⟨D,c⟩:=nm (f.free);rw[←c] at k ⊢;obtain ⟨x,g⟩:=nm (f.bud);obtain ⟨y,i⟩:=nm (f.sp);obtain ⟨z,j⟩:=nm (zas f.M);have o:=hid g;have p:=hid i;have q:=hid j;rw[←g,←i,←j] at k;rw[←g] at r s;rw[←i] at B C;rw[←j] at t A;have E:IntKind.i64.wrap (x-y)=x-y:=iW _ (by omega);have F:IntKind.i64.wrap (x-y-z)=x-y-z:=iW _ (by omega);clear h d c g i j;go_enter Tryz.func157,Tryz.ntmps157;go_wp2_with fail
 refine (zht l.out).mono ?_;rintro e G ⟨rfl,rfl⟩;rw[←o.out];go_wp2_with fail
 refine (zmd l.out).mono ?_;rintro e H ⟨rfl,rfl⟩;rw[←p.out];go_wp2_with fail
 refine (znv l.out n.out).mono ?_;rintro e I ⟨rfl,a⟩;rw[←q.out];have m:=hid a;clear a;go_wp2_with fail
 go_ret;exact ⟨by rw[k.out];rfl,m.out⟩
theorem zfa (M:HM) (x:Int):zc5 M x 0=zbl M x:=if_pos rfl
theorem ztL (M:HM) (x:Int) {v:Int} (h:v≠0):zc5 M x v=zg4 M x v:=if_neg h
def Acc.set (a:Acc) (x v:Int):Acc:={a with M:=zc5 a.M x v}
theorem zo5 {b m n:Nat} {a:Acc} {w:World} (h:AccAt w b m n a) (p:n<maxLen) {x v:Int} (k:-9223372036854775808≤x∧x≤9223372036854775807) (l:-9223372036854775808≤v∧v≤9223372036854775807):
  Calls Tryz.prog 132 #[.pointer (some ⟨b,0,none⟩),x,v] w fun e w'=>e=.returned (.tuple #[])∧AccAt w' b m (n+1) (a.set x v)∧Chg (·=m) w w':=by
 have t:w.cell? ⟨b,2,none⟩=some (.map (some m)):=h.blk.cell 2;have q:=hid h;have s:=hid k;have r:=hid l;by_cases h0:v=0
 ·subst h0;have j:=hid (show a.set x 0={a with M:=zbl a.M x} from by unfold Acc.set;rw[zfa]);obtain ⟨o,f,c,d⟩:=h.del k 0;have g:=hid c;have i:=hid d;clear h c d;go_enter Tryz.func132,Tryz.ntmps132;go_wp2_with fail
  refine bodyPost_ret (results_none rfl _ _ _) rfl ?_;exact ⟨rfl,by rw[j.out];exact g.out.mono (Nat.le_succ _),i.out⟩
 ·have j:=hid (show a.set x v={a with M:=zg4 a.M x v} from by unfold Acc.set;rw[ztL _ _ h0]);obtain ⟨o,f,c,d⟩:=h.put p k l;have g:=hid c;have i:=hid d;have y:(v==0)=false:=by simpa using h0
  clear h c d h0;go_enter Tryz.func132,Tryz.ntmps132;go_wp2_with fail
  go_end0
  exact ⟨rfl,by rw[j.out];exact g.out,i.out⟩
theorem zhu {b m n:Nat} {a:Acc} {w:World} (h:AccAt w b m n a) (c:Bool) (l k:Nat) (s v t:Array Value) (x f:Int)
  (F:∀args W,(callFunc l args).run Tryz.prog W=.ok (.enter l args) W) (E:∀args W,(callFunc k args).run Tryz.prog W=.ok (.enter k args) W)
  (z:Calls Tryz.prog l (s++v) w fun e W'=>e=.returned ↑f∧Below w w W') (Q:World→Prop)
  (y:c=true→zai x→x≤f→∀W,Below w w W→Calls Tryz.prog k t W fun e W'=>e=.returned (.tuple #[])∧Q W'):
  Calls Tryz.prog 121 #[.pointer (some ⟨b,0,none⟩),c,.func (.func l) s v,x,.func (.func k) #[] t] w fun e w'=>
   (c=false∨¬zai x)∧e=.returned ↑(2:Int)∧w'=w∨c=true∧zai x∧f<x∧e=.returned ↑(8:Int)∧Below w w w'∨c=true∧zai x∧x≤f∧e=.returned ↑()∧Q w':=by
 have q:=hid (show AtP w (.pointer (some ⟨b,0,none⟩)) (.live a) from ⟨b,m,n,rfl,h⟩);have C:=hid z;have B:=hid y;clear h z y;have p:=hid (show (Fm.live a).there=true from rfl)
 cases c with
 |false=>
  go_enter Tryz.func121,Tryz.ntmps121;go_wp2_with fail
  refine (zbr q.out).mono ?_;rintro e o ⟨rfl,rfl⟩;rw[p.out];go_wp2_with fail
  go_ret;exact .inl ⟨.inl trivial,rfl,rfl⟩
 |true=>
  by_cases hc:zai x
  ·have g:=hid hc;have d:=hid (decide_eq_true hc);clear hc;go_enter Tryz.func121,Tryz.ntmps121;go_wp2_with fail
   refine (zbr q.out).mono ?_;rintro e o ⟨rfl,rfl⟩;rw[p.out];go_wp2_with fail
   refine (za6 x o).mono ?_;rintro e G ⟨rfl,rfl⟩;rw[d.out];go_wp2_with fail
   refine C.out.mono ?_;rintro e H ⟨rfl,j⟩;have r:=hid j;clear j;by_cases hlt:f<x
   ·go_wp2_with fail
    go_ret;exact .inr (.inl ⟨trivial,g.out,hlt,rfl,r.out⟩)
   ·have i:=hid (show x≤f by omega);go_wp2_with fail
    refine (B.out trivial g.out i.out H r.out).mono ?_;rintro e I ⟨rfl,A⟩;have D:=hid A;clear A;go_wp2_with fail
    go_ret;exact .inr (.inr ⟨trivial,g.out,i.out,rfl,D.out⟩)
  ·have g:=hid hc;have d:=hid (decide_eq_false hc);clear hc;go_enter Tryz.func121,Tryz.ntmps121;go_wp2_with fail
   refine (zbr q.out).mono ?_;rintro e o ⟨rfl,rfl⟩;rw[p.out];go_wp2_with fail
   refine (za6 x o).mono ?_;rintro e G ⟨rfl,rfl⟩;rw[d.out];go_wp2_with fail
   go_ret;exact .inl ⟨.inr g.out,rfl,rfl⟩
theorem znw {M:HM} (h:HOk M) (k:Int):0≤atM M k∧atM M k≤zas M:=by
 have b:=zfZ k h.rise;have c:0≤zas (zbl M k):=zcX fun p a=>by have:=h.each p (List.mem_filter.1 a).1;omega
 refine ⟨?_,by omega⟩;unfold atM
 cases hf:M.find? (fun p=>p.1==k) with
 |none=>exact Int.le_refl _
 |some p=>have:=h.each p (List.mem_of_find?_eq_some hf);simp only;omega
def Acc.mostH (a:Acc) (x:Int):Int:=a.free+atM a.M x
theorem zij {a:Acc} (h:a.Ok) (x:Int):IntKind.i64.wrap (a.free+atM a.M x)=a.free+atM a.M x:=by
 obtain ⟨b,c⟩:=h.bud;obtain ⟨d,e⟩:=h.sp;have f:=znw h.h x;have g:=h.sum;have i:=h.h.nn;unfold Acc.free;exact iW _ (by omega)
theorem zrr {b m n H I:Nat} {a:Acc} {w:World} (h:AccAt w b m n a) (N:a.Ok) {x:Int} (P:-9223372036854775808≤x∧x≤9223372036854775807) (J:Blk w H 133 #[.pointer (some ⟨b,0,none⟩)]) (L:Blk w I 3 #[x]):
  Calls Tryz.prog 258 #[.pointer (some ⟨H,0,none⟩),.pointer (some ⟨I,0,none⟩)] w fun e w'=>e=.returned ↑(a.mostH x:Int)∧Below w w w':=by
 have q:w.cell? ⟨H,0,none⟩=some (.pointer (some ⟨b,0,none⟩)):=J.cell 0;have r:w.cell? ⟨I,0,none⟩=some ↑x:=L.cell 0;have s:w.cell? ⟨b,2,none⟩=some (.map (some m)):=h.blk.cell 2;have t:=J.lt;have y:=L.lt;have A:=h.blk.lt;have V:=zij N x;have o:=hid h;have S:=hid N;have p:=hid P;have B:a.mostH x=a.free+atM a.M x:=rfl;obtain ⟨z,Q⟩:=nm (a.mostH x);rw[←Q] at B ⊢;obtain ⟨U,l⟩:=nm (a.free);obtain ⟨T,j⟩:=nm (atM a.M x);rw[←l,←j] at V B;have G:=hid (show U=(Fm.live a).free from l);have d:=hid j;have R:=hid B;clear h N P J L Q l j B;go_enter Tryz.func258,Tryz.ntmps258;go_wp2_with fail
 refine zad (Below w w) [] (by kernel_rfl) (bR.drew) (fun g=>?_);refine tx 0 (v:=?_) g ?_ ?_
 rotate_left
 ·intro w' c;have C:=qc c q t;have D:=qc c r y;have E:=qc c s A;have i:=(o.out.grow c).look p.out;rw[←d.out] at i;go_simp;try with_reducible rfl
 refine tx 2 (v:=?_) g ?_ ?_
 rotate_left
 ·intro w' c;have C:=qc c q t;have D:=qc c r y;have E:=qc c s A;have i:=(o.out.grow c).look p.out;rw[←d.out] at i;go_simp;try with_reducible rfl
 refine tp 3 g ?_;refine tp 4 g ?_;refine tx 5 (v:=?_) g ?_ ?_
 rotate_left
 ·intro w' c;have C:=qc c q t;have D:=qc c r y;have E:=qc c s A;have i:=(o.out.grow c).look p.out;rw[←d.out] at i;go_simp;try with_reducible rfl
 refine tx 6 (v:=?_) g ?_ ?_
 rotate_left
 ·intro w' c;have C:=qc c q t;have D:=qc c r y;have E:=qc c s A;have i:=(o.out.grow c).look p.out;rw[←d.out] at i;go_simp;try with_reducible rfl
 refine tx 7 (v:=?_) g ?_ ?_
 rotate_left
 ·intro w' c;have C:=qc c q t;have D:=qc c r y;have E:=qc c s A;have i:=(o.out.grow c).look p.out;rw[←d.out] at i;go_simp;try with_reducible rfl
 refine stp 1 fun K O=>?_;go_simp;refine (zgc (f:=.live a) (w:=w.drew) ⟨b,m,n,rfl,o.out.grow bR.drew⟩ S.out).mono ?_;rintro e X ⟨rfl,k⟩;rw[←G.out];refine O.out _ _ ?_ (fun g=>?_)
 ·exact (Below.refl w.heap.size w).drew.trans (k.mono (by simp))
 clear O K
 try simp only[Act.put,pb,pz,ps]
 have F:=hid ((Below.refl w.heap.size w).drew.trans (k.mono (by simp)));clear k;refine tp 8 g ?_;refine tp 9 g ?_;refine zac (by kernel_rfl) ?_ _;clear g;go_wp2_with fail
 go_ret;exact ⟨by rw[R.out];rfl,F.out⟩
theorem zrs {b m n f g i:Nat} {a:Acc} {w:World} (h:AccAt w b m n a) (k:n<maxLen) {x v:Int} (o:-9223372036854775808≤x∧x≤9223372036854775807) (l:-9223372036854775808≤v∧v≤9223372036854775807) (j:Blk w f 133 #[.pointer (some ⟨b,0,none⟩)]) (c:Blk w g 3 #[x]) (d:Blk w i 2 #[v]):
  Calls Tryz.prog 259 #[.pointer (some ⟨f,0,none⟩),.pointer (some ⟨g,0,none⟩),.pointer (some ⟨i,0,none⟩)] w fun e w'=>e=.returned (.tuple #[])∧AccAt w' b m (n+1) (a.set x v)∧Chg (·=m) w w':=by
 have z:w.cell? ⟨f,0,none⟩=some (.pointer (some ⟨b,0,none⟩)):=j.cell 0;have A:w.cell? ⟨g,0,none⟩=some ↑x:=c.cell 0;have B:w.cell? ⟨i,0,none⟩=some ↑v:=d.cell 0;have r:=hid h;have y:=hid o;have t:=hid l;have s:=hid k;clear h o l k j c d;go_enter Tryz.func259,Tryz.ntmps259;go_wp2_with fail
 refine (zo5 r.out s.out y.out t.out).mono ?_;rintro e C ⟨rfl,c,d⟩;have p:=hid c;have q:=hid d;clear c d;go_wp2_with fail
 go_end0
 exact ⟨rfl,p.out,q.out⟩
theorem znx (w:World):Calls Tryz.prog 130 #[] w fun e w'=>e=.returned ↑()∧w'=w:=by
 go_enter Tryz.func130,Tryz.ntmps130;go_wp2_with fail
 go_ret;exact ⟨rfl,rfl⟩
theorem zny {b m n d f:Nat} {a:Acc} {w:World} (h:AccAt w b m n a) (j:n<maxLen) {x:Int} (k:-9223372036854775808≤x∧x≤9223372036854775807) (g:Blk w d 133 #[.pointer (some ⟨b,0,none⟩)]) (c:Blk w f 3 #[x]):
  Calls Tryz.prog 131 #[.pointer (some ⟨d,0,none⟩),.pointer (some ⟨f,0,none⟩)] w fun e w'=>e=.returned (.tuple #[])∧AccAt w' b m (n+1) (a.set x 0)∧Chg (·=m) w w':=by
 have s:w.cell? ⟨d,0,none⟩=some (.pointer (some ⟨b,0,none⟩)):=g.cell 0;have t:w.cell? ⟨f,0,none⟩=some ↑x:=c.cell 0;have p:=hid h;have r:=hid k;have q:=hid j;clear h k j g c;go_enter Tryz.func131,Tryz.ntmps131;go_wp2_with fail
 refine (zo5 p.out q.out r.out (by omega)).mono ?_;rintro e v ⟨rfl,c,i⟩;have l:=hid c;have o:=hid i;clear c i;go_wp2_with fail
 go_end0
 exact ⟨rfl,l.out,o.out⟩
def Acc.holdE (a:Acc) (x v:Int):Int:=Ac.holdE a.bud a.sp a.M x v
theorem zme {a:Acc} {x v:Int} (h:x<0∨¬zai v):a.holdE x v=2:=if_pos h
theorem zrt {a:Acc} {x v:Int} (c:0≤x) (b:zai v) (h:a.mostH x<v):a.holdE x v=8:=by
 unfold Acc.holdE Ac.holdE;rw[if_neg (by rintro (h|h);omega;exact h b),if_pos (by unfold Acc.mostH Acc.free at h;exact h)]
theorem zgJ {a:Acc} {x v:Int} (c:0≤x) (b:zai v) (h:v≤a.mostH x):a.holdE x v=0:=by
 unfold Acc.holdE Ac.holdE;rw[if_neg (by rintro (h|h);omega;exact h b),if_neg (by unfold Acc.mostH Acc.free at h;omega)]
theorem zmf {b m n:Nat} {a:Acc} {w:World} (h:AccAt w b m n a) (P:a.Ok) (O:n<maxLen) {x v:Int} (J:-9223372036854775808≤x∧x≤9223372036854775807) (Q:-9223372036854775808≤v∧v≤9223372036854775807):
  Calls Tryz.prog 254 #[.pointer (some ⟨b,0,none⟩),x,v] w fun e w'=>
   (a.holdE x v≠0∧e=.returned ↑(a.holdE x v:Int)∧Below w w w')∨(a.holdE x v=0∧e=.returned ↑()∧AccAt w' b m (n+1) (a.set x v)∧Chg (·=m) w w'):=by
 obtain ⟨U,f⟩:=nm (((w.alloc (.cells #[.pointer (some ⟨b,0,none⟩)] 133)).alloc (.cells #[x] 3)).alloc (.cells #[v] 2));have s:Below w w U:=by rw[f];exact ((qA _).alloc (by simp) _).alloc (by simp;omega) _
 have C:Blk U w 133 #[.pointer (some ⟨b,0,none⟩)]:=by rw[f];exact ((Blk.new w _ _).alloc _).alloc _
 have D:Blk U (w.heap.size+1) 3 #[x]:=by rw[f];exact (Blk.new' _ _ (by simp)).alloc _
 have H:Blk U (w.heap.size+1+1) 2 #[v]:=by rw[f];exact Blk.new' _ _ (by simp)
 have G:=hid f;have r:=hid s;have y:=hid (h.grow s);have N:=h.ltm;have q:=fun d=>zhu y.out d 258 259 #[] #[.pointer (some ⟨w,0,none⟩),.pointer (some ⟨w.heap.size+1,0,none⟩)] #[.pointer (some ⟨w,0,none⟩),.pointer (some ⟨w.heap.size+1,0,none⟩),.pointer (some ⟨w.heap.size+1+1,0,none⟩)] v (a.mostH x)
  (enters_of Tryz.func258 (by kernel_rfl) rfl) (enters_of Tryz.func259 (by kernel_rfl) rfl) (by rw[Array.empty_append];exact zrr y.out P J C D)
  (fun W=>AccAt W b m (n+1) (a.set x v)∧Chg (·=m) w W) (fun _ _ _ W i=>(zrs (y.out.grow i) O J Q (C.grow i) (D.grow i) (H.grow i)).mono fun e w' ⟨K,L,M⟩=>⟨K,L,((Chg.of _ s).grow i).step M fun _ _ h=>h⟩)
 have g:=hid q;clear h f s C D H q;go_enter Tryz.func254,Tryz.ntmps254;by_cases h0:0≤x
 ·have F:=hid h0;go_wp2_with fail
  rw[←G.out];refine (g.out true).mono ?_;rintro e R (⟨t,rfl,rfl⟩|⟨_,j,l,rfl,I⟩|⟨_,j,k,rfl,o,p⟩)
  ·have c:=hid (zme (a:=a) (x:=x) (v:=v) (.inr (t.resolve_left (by simp))));clear t;go_wp2_with fail
   go_ret;exact .inl ⟨by rw[c.out];decide,by rw[c.out];rfl,r.out⟩
  ·have c:=hid (zrt F.out j l);have z:=hid I;clear j l I;go_wp2_with fail
   go_ret;exact .inl ⟨by rw[c.out];decide,by rw[c.out];rfl,r.out.trans (z.out.mono r.out.size)⟩
  ·have c:=hid (zgJ F.out j k);have A:=hid o;have B:=hid p;clear j k o p;go_wp2_with fail
   go_ret;exact .inr ⟨c.out,rfl,A.out,B.out⟩
 ·have c:=hid (zme (a:=a) (x:=x) (v:=v) (.inl (by omega)));go_wp2_with fail
  rw[←G.out];refine (g.out false).mono ?_;rintro e R (⟨t,rfl,rfl⟩|⟨E,_⟩|⟨E,_⟩)
  ·clear t;go_wp2_with fail
   go_ret;exact .inl ⟨by rw[c.out];decide,by rw[c.out];rfl,r.out⟩
  ·cases E
  ·cases E
theorem zgd {b m n:Nat} {a:Acc} {w:World} (h:AccAt w b m n a) (S:n<maxLen) {x:Int} (J:-9223372036854775808≤x∧x≤9223372036854775807):
  Calls Tryz.prog 88 #[.pointer (some ⟨b,0,none⟩),x] w fun e w'=>
   (x<0∧e=.returned (.tuple #[(atM a.M x:Int),(2:Int)])∧Below w w w')∨(0≤x∧e=.returned (.tuple #[(atM a.M x:Int),()])∧AccAt w' b m (n+1) (a.set x 0)∧Chg (·=m) w w'):=by
 obtain ⟨U,k⟩:=nm ((w.alloc (.cells #[.pointer (some ⟨b,0,none⟩)] 133)).alloc (.cells #[x] 3));have s:Below w w U:=by rw[k];exact (qA _).alloc (by simp) _
 have B:Blk U w 133 #[.pointer (some ⟨b,0,none⟩)]:=by rw[k];exact (Blk.new w _ _).alloc _
 have C:Blk U (w.heap.size+1) 3 #[x]:=by rw[k];exact Blk.new' _ _ (by simp)
 have r:=hid k;have P:=hid s;have q:=hid (h.grow s);have N:=hid J;have p:=fun i=>zhu q.out i 130 131 #[] #[] #[.pointer (some ⟨w,0,none⟩),.pointer (some ⟨w.heap.size+1,0,none⟩)] 0 0
  (enters_of Tryz.func130 (by kernel_rfl) rfl) (enters_of Tryz.func131 (by kernel_rfl) rfl) (by rw[Array.empty_append];exact (znx U).mono fun e w' ⟨D,E⟩=>⟨D,by rw[E];exact bR⟩)
  (fun W=>AccAt W b m (n+1) (a.set x 0)∧Chg (·=m) w W) (fun _ _ _ W t=>(zny (q.out.grow t) S J (B.grow t) (C.grow t)).mono fun e w' ⟨D,E,R⟩=>⟨D,E,((Chg.of _ s).grow t).step R fun _ _ h=>h⟩)
 have j:=hid p;obtain ⟨g,d⟩:=nm (atM a.M x);rw[←d];have L:=hid d;have X:U.cell? ⟨w,0,none⟩=some (.pointer (some ⟨b,0,none⟩)):=B.cell 0;have Y:U.cell? ⟨w.heap.size+1,0,none⟩=some ↑x:=C.cell 0;clear h k s B C p J d;go_enter Tryz.func88,Tryz.ntmps88;by_cases h0:0≤x
 ·have y:=hid h0;go_wp2_with fail
  rw[←r.out];refine (znt (f:=.live a) ⟨b,m,n,rfl,q.out⟩ N.out).mono ?_;rintro e K ⟨rfl,c⟩;rw[c];clear c;rw[show atM (Fm.live a).M x=g from L.out.symm];clear r;go_wp2_with fail
  refine (j.out true).mono ?_;rintro e K (⟨I,rfl,rfl⟩|⟨_,O,H,rfl,T⟩|⟨_,O,G,rfl,l,o⟩)
  ·exact absurd (by decide) (I.resolve_left (by simp))
  ·exact absurd H (by decide)
  ·have z:=hid l;have A:=hid o;clear O G l o;go_wp2_with fail
   exact bodyPost_ret (v:=.tuple #[g,()]) (by simp[results,Tryz.results88,go_sem]) rfl (.inr ⟨y.out,rfl,z.out,A.out⟩)
 ·have y:=hid h0;go_wp2_with fail
  rw[←r.out];refine (znt (f:=.live a) ⟨b,m,n,rfl,q.out⟩ N.out).mono ?_;rintro e K ⟨rfl,c⟩;rw[c];clear c;rw[show atM (Fm.live a).M x=g from L.out.symm];clear r;have V:decide (x ≥ 0)=false:=by simp;omega
  have Q:¬0≤x:=by omega
  go_wp2_with fail
  refine (j.out false).mono ?_;rintro e K (⟨I,rfl,rfl⟩|⟨F,_⟩|⟨F,_⟩)
  ·clear I;go_wp2_with fail
   exact bodyPost_ret (v:=.tuple #[g,(2:Int)]) (by simp[results,Tryz.results88,go_sem]) rfl (.inl ⟨by have:=y.out;omega,rfl,P.out⟩)
  ·cases F
  ·cases F
end Ac
end Go.Proofs.YthoaidfpgijbfaaGreat

/- Joined by program. -/
import Derived.Test.YtckdpejdnejhfaaGreatZb
import Derived.Test.YtckdpejdnejhfaaGreatZf
import Derived.Shelf.SlIterI.Nil
import Derived.Shelf.Slices.In.SortNone
import Derived.Shelf.Sort.Plain
import Derived.Shelf.SlMaps.Clone
import Derived.Shelf.SlMaps.Equal
set_option linter.all false
set_option maxRecDepth 100000
set_option maxHeartbeats 32000000
namespace Go.Proofs.YtckdpejdnejhfaaGreat
open Lib (hid)
namespace Ho
open Go.RowKit Vb Ac
open Go.MapKept (IsKey)
theorem ztF:zbg Tryz.prog 107 9 1 16:=zba Tryz.underlying107 (by omega) (z:=.string ⟨#[]⟩) (by kernel_rfl) rfl
instance decBA : DecidableEq ByteArray := fun a b => decidable_of_iff _ (MapKept.bytes_beq a b)
instance lawBA : LawfulBEq ByteArray where
 eq_of_beq h:=(MapKept.bytes_beq _ _).1 h
 rfl:=(MapKept.bytes_beq _ _).2 rfl
def strs (ns:List ByteArray):List Value:=ns.map .string
def zaw (W:World) (R:Nat→Prop) (p:Nat) (most:Int) (ns:List ByteArray):Prop:=
 ∃v m F,Blk W p 109 #[v,.map (some m),.int .i64 most]∧R p∧R m∧RowAt W (fun b=>R b∧b≠p) 9 1 v ns.length (strs ns)∧zbh .string .string W m F∧zbF ns F∧ns.length≤1048576
section
variable {W W':World} {R R' X:Nat→Prop} {p:Nat} {most:Int} {ns:List ByteArray}
theorem zaw.mono (h:zaw W R p most ns) (a:∀b,b<W.heap.size→R b→R' b):zaw W R' p most ns:=by
 obtain ⟨v,m,F,c,e,f,g,d,i⟩:=h;exact ⟨v,m,F,c,a _ c.lt e,a _ d.lt f,g.mono fun b j h=>⟨a b j h.1,h.2⟩,d,i⟩
theorem zaw.chg (h:zaw W R p most ns) (c:Chg X W W') (a:∀b,b<W.heap.size→R b→¬X b):zaw W' R p most ns:=by
 obtain ⟨v,m,F,d,e,f,i,g,j⟩:=h;exact ⟨v,m,F,d.chg c (a _ d.lt e),e,f,i.chg c fun b k h=>a b k h.1,g.chg c (a _ g.lt f),j⟩
theorem zaw.grow (h:zaw W R p most ns) (hb:Below W W W'):zaw W' R p most ns:=h.chg (Chg.of (fun _=>False) hb) fun _ _ _=>id
theorem zkh:∀k:ByteArray,IsKey .string (.string k):=fun k=>by simp[IsKey]
theorem zkp:∀a b:ByteArray,Value.string a=.string b→a=b:=fun a b h=>by injection h
end
theorem zeh {W:World} {R:Nat→Prop} {p:Nat} {most:Int} {ns:List ByteArray} (h:zaw W R p most ns):
  Calls Tryz.prog 86 #[.pointer (some ⟨p,0,none⟩)] W fun e W'=>e=.returned ↑false∧W'=W:=by
 obtain ⟨v,m,F,a,_⟩:=h;have c:=a.cell 1;have d:=a.frozen 1;have b:∀W,(binOp .eql 106 (.map (some m)) (.map none)).run Tryz.prog W=.ok ↑false W:=fun W=>by kernel_rfl
 simp at c
 clear a;go_enter Tryz.func86,Tryz.ntmps86
 go_wp2
 go_ret
 simp
theorem zl3 {most:Int} (f:0≤most) (g:most≤1048576) (W:World):Calls Tryz.prog 19 #[most] W fun e W'=>∃p,e=.returned (.tuple #[.pointer (some ⟨p,0,none⟩),()])∧zaw W' (fun b=>W.heap.size≤b) p most []∧Below W W W':=by
 have a:=@run_makeMap Tryz.prog;have c:¬most<0:=by omega
 have d:¬1048576<most:=by omega
 go_enter Tryz.func19,Tryz.ntmps19;go_wp2_with fail
 go_ret2
 refine ⟨_,rfl,⟨.slice none 0 0,W.heap.size,fun _=>none,Blk.new' _ _ (by simp),by omega,lR,RowAt.nil,(zbh.made W).grow (qA _),zbF.nil,by simp⟩,(qA _).alloc (by simp) _⟩
def zeI (s:ByteArray):Int:=if s.size<1∨64<s.size then 2 else 0
theorem zeJ (s:ByteArray) (w:World):Calls Tryz.prog 108 #[.string s] w fun e w'=>e=.returned ↑(zeI s:Int)∧w'=w:=by
 unfold zeI;by_cases h1:s.size<1
 ·rw[if_pos (.inl h1)];have a:(s.size:Int)<1:=by omega
  go_enter Tryz.func108,Tryz.ntmps108;go_wp2_with fail
  go_ret;exact ⟨rfl,rfl⟩
 ·have a:¬(s.size:Int)<1:=by omega
  by_cases h2:64<s.size
  ·rw[if_pos (.inr h2)];have b:(64:Int)<(s.size:Int):=by omega
   go_enter Tryz.func108,Tryz.ntmps108;go_wp2_with fail
   go_ret;exact ⟨rfl,rfl⟩
  ·rw[if_neg (by omega)];have b:¬(64:Int)<(s.size:Int):=by omega
   go_enter Tryz.func108,Tryz.ntmps108;go_wp2_with fail
   go_ret;exact ⟨rfl,rfl⟩
def zes (ns:List ByteArray) (most:Int) (s:ByteArray):Int:=if zeI s≠0 then 2 else if s∈ns then 5 else if (ns.length:Int)=most then 3 else 0
section
variable {W:World} {R:Nat→Prop} {p:Nat} {most:Int} {ns:List ByteArray}
theorem zaw.look (h:zaw W R p most ns) (s:ByteArray):∃v m,W.cell? ⟨p,0,none⟩=some v∧W.cell? ⟨p,1,none⟩=some (.map (some m))∧W.cell? ⟨p,2,none⟩=some ↑most∧(∃A cap,v=.slice A ns.length cap)∧∃F,zbF ns F∧
  (Instr.lookup 106 (.map (some m)) (.string s) true).run Tryz.prog W=.ok (.tuple #[((F s).getD 0:Int),.bool (F s).isSome]) W:=by
 obtain ⟨v,m,F,a,_,_,b,c,d,_⟩:=h;exact ⟨v,m,a.cell 0,a.cell 1,a.cell 2,b.form,F,d,(c.look (P:=Tryz.prog) (mty:=106) (kt:=9) (et:=3) zkh zkp Tryz.underlying106 Tryz.underlying9 (by kernel_rfl) s).1⟩
theorem zrt (h:zaw W R p most ns) {s:ByteArray} (f:zes ns most s≠0):Calls Tryz.prog 87 #[.pointer (some ⟨p,0,none⟩),.string s] W fun e W'=>e=.returned (.tuple #[(),(zes ns most s:Int)])∧W'=W:=by
 have H:=hid h;obtain ⟨v,m,q,r,t,⟨A,o,rfl⟩,F,d,a⟩:=h.look s;obtain ⟨z,b⟩:=nm (zes ns most s);rw[←b] at f ⊢;unfold zes at b;by_cases h1:zeI s≠0
 ·rw[if_pos h1] at b;have k:zeI s=2:=by unfold zeI at h1 ⊢;split at h1<;>simp_all
  have j:=hid k;subst b;clear h d h1 k f a;go_enter Tryz.func87,Tryz.ntmps87;go_wp2_with fail
  refine (zeh H.out).mono ?_;rintro e g ⟨rfl,rfl⟩;go_wp2_with fail
  refine (zeJ s _).mono ?_;rintro e g ⟨rfl,rfl⟩;rw[j.out];go_wp2_with fail
  go_ret2
  exact ⟨rfl,rfl⟩
 ·rw[if_neg h1] at b;have j:=hid (Decidable.not_not.1 h1);by_cases h3:s∈ns
  ·rw[if_pos h3] at b;subst b;have c:∃i,F s=some i:=by
    cases hFs:F s with
    |none=>exact absurd h3 ((d.no s).1 hFs)
    |some i=>exact ⟨i,rfl⟩
   obtain ⟨i,l⟩:=c;rw[l] at a;simp only[Option.getD_some,Option.isSome_some] at a;clear h d h1 f h3 l;go_enter Tryz.func87,Tryz.ntmps87;go_wp2_with fail
   refine (zeh H.out).mono ?_;rintro e g ⟨rfl,rfl⟩;go_wp2_with fail
   refine (zeJ s _).mono ?_;rintro e g ⟨rfl,rfl⟩;rw[j.out];go_wp2_with fail
   go_ret2
   exact ⟨rfl,rfl⟩
  ·rw[if_neg h3] at b;have n:F s=none:=(d.no s).2 h3;rw[n] at a;simp only[Option.getD_none,Option.isSome_none] at a;by_cases h4:(ns.length:Int)=most
   ·rw[if_pos h4] at b;subst b;have x:((ns.length:Int)==most)=true:=by simpa using h4
    clear h d h1 f h3 n h4;go_enter Tryz.func87,Tryz.ntmps87;go_wp2_with fail
    refine (zeh H.out).mono ?_;rintro e g ⟨rfl,rfl⟩;go_wp2_with fail
    refine (zeJ s _).mono ?_;rintro e g ⟨rfl,rfl⟩;rw[j.out];go_wp2_with fail
    go_ret2
    exact ⟨rfl,rfl⟩
   ·rw[if_neg h4] at b;exact absurd b f
end
theorem znc {W:World} {R:Nat→Prop} {p:Nat} {most:Int} {ns:List ByteArray} (h:zaw W R p most ns) {s:ByteArray} (g:zes ns most s=0) (hn:ns.length<1048576):Calls Tryz.prog 87 #[.pointer (some ⟨p,0,none⟩),.string s] W fun e W'=>
  e=.returned (.tuple #[ns.length,()])∧zaw W' (fun b=>R b∨W.heap.size≤b) p most (ns++[s])∧Chg R W W':=by
 have H:=hid h;have HN:=hid hn;unfold zes at g;have K:zeI s=0:=by
  apply Decidable.byContradiction
  intro K;rw[if_pos K] at g;cases g
 rw[if_neg (by rw[K];simp)] at g;have L:s∉ns:=by
  intro L;rw[if_pos L] at g;cases g
 rw[if_neg L] at g;have h4:¬(ns.length:Int)=most:=by
  intro h4;rw[if_pos h4] at g;cases g
 have h5:((ns.length:Int)==most)=false:=by simpa using h4
 obtain ⟨v,m,F,c,N,M,a,S,hi,Q⟩:=h;have hF:F s=none:=(hi.no s).2 L;have f:=(S.look (P:=Tryz.prog) (mty:=106) (kt:=9) (et:=3) zkh zkp Tryz.underlying106 Tryz.underlying9 (by kernel_rfl) s).1;rw[hF] at f;simp only[Option.getD_none,Option.isSome_none] at f;obtain ⟨A,j,rfl⟩:=a.form;have c0:W.cell? ⟨p,0,none⟩=some (.slice A ns.length j):=c.cell 0;have c1:W.cell? ⟨p,1,none⟩=some (.map (some m)):=c.cell 1;have c2:W.cell? ⟨p,2,none⟩=some ↑most:=c.cell 2;have ab:p≠m:=S.not_cells c;have ac:∀b,(Value.slice A ns.length j).ownBlock=some b→b≠m:=fun b c=>S.not_row a c;have ad:¬(Value.slice A ns.length j).ownBlock=some p:=fun e=>(a.blk p e).2 rfl;have HB:=hid c;have D:=hid (a.grow (bR.alloc lR (.cells #[.string s] 9)));have HR0:=hid a;have HM:=hid S;have HI:=hid hi;have HF:=hid hF;have H1:=hid K;have G:=hid ab;have I:=hid ac;have NVP:=hid ad;have E:=hid N;have C:=hid M;clear K L h4 c a S hi hF ab ac ad N M Q hn g;go_enter Tryz.func87,Tryz.ntmps87;go_wp2_with fail
 refine (zeh H.out).mono ?_;rintro e l ⟨rfl,rfl⟩;go_wp2_with fail
 refine (zeJ s _).mono ?_;rintro e l ⟨rfl,rfl⟩;rw[H1.out]
 go_wp2_with (at_builtin;go_must (refine zby _ (.tmp 42) (.tmp 44) rfl ztF rfl (.slice A ns.length j) ns.length (strs ns) rfl D.out (.slice (some ⟨l,0,none⟩) 1 1) 1 [.string s] rfl (Sl.lit1 (Blk.new l 9 #[.string s]) rfl) (by simp[Value.oneCell']) (by have:=HN.out;omega) (by have:=HN.out;unfold maxLen;omega) ?_);intro y J Z aa k;have d:=(HB.out.alloc (.cells #[.string s] 9)).chg k NVP.out;have f0:=d.frozen 0;have z0:=d.cell 0;have z1:=d.cell 1;obtain ⟨U,x⟩:=nm (Z.setCell ⟨p,0,none⟩ (.slice y (ns.length+1) J));have HU:=hid x;have q:Chg (·=p) Z U:=(by rw[x];exact Chg.set Z ⟨p,0,none⟩ _);have o:Blk U p 109 #[.slice y (ns.length+1) J,.map (some m),most]:=(by rw[x];exact d.set_ 0 _);have T:=((HM.out.grow (bR.alloc lR (.cells #[.string s] 9))).chg k (fun e=>I.out m e rfl)).chg q (fun e=>G.out e.symm);obtain ⟨V,Y,X,O⟩:=T.put (P:=Tryz.prog) (mty:=106) (kt:=9) (et:=3) zkh zkp Tryz.underlying106 Tryz.underlying9 s (ns.length:Int);rw[x] at Y;have i:=hid aa;have B:=hid k;have HMV:=hid X;have n:=hid O;have HBU:=hid o;have z:=hid q;have u1:(Z.setCell ⟨p,0,none⟩ (.slice y (ns.length+1) J)).cell? ⟨p,1,none⟩=some (.map (some m)):=(by rw[←x];exact o.cell 1);clear aa k X O o q T x d)
 go_ret2
 have hlt:p<l.heap.size:=HB.out.lt;have hsz:(l.alloc (.cells #[.string s] 9)).heap.size=l.heap.size+1:=by simp
 have t:∀b,(Value.slice y (ns.length+1) J).ownBlock=some b→(R b∧b≠p∧b≠m)∨l.heap.size<b:=fun b c=>by
  rcases i.out.blk b c with h|h
  ·by_cases e:b=m
   ·exfalso
    have hz:=i.out.lt c;subst e;exact zbh.not_row ((HM.out.grow (bR.alloc lR (.cells #[.string s] 9))).chg B.out (fun e=>I.out b e rfl)) i.out c rfl
   ·exact .inl ⟨h.1,h.2,e⟩
  ·exact .inr (by omega)
 have hmlt:m<l.heap.size:=HM.out.lt;have r:=(i.out.chgB z.out (fun b c e=>by
  rcases t b c with h|h
  ·exact h.2.1 e
  ·omega)).chgB n.out (fun b c e=>by
  rcases t b c with h|h
  ·exact h.2.2 e
  ·omega)
 refine ⟨rfl,⟨.slice y (ns.length+1) J,m,upd F s (some (ns.length:Int)),HBU.out.chg n.out G.out,.inl E.out,.inl C.out,?_,HMV.out,HI.out.snoc HF.out,by have:=HN.out;simp;omega⟩,?_⟩
 ·rw[List.length_append];have:strs (ns++[s])=strs ns++[.string s]:=by simp[strs]
  rw[this];refine ⟨r.own,fun b c=>?_⟩
  rcases t b c with h|h
  ·exact ⟨.inl h.1,h.2.1⟩
  ·exact ⟨.inr (by omega),by omega⟩
 ·exact ((((Chg.of R (bR.alloc lR (.cells #[.string s] 9))).step B.out fun b _ h=>(HR0.out.blk b h).1).step z.out fun b _ e=>e▸E.out).step n.out fun b _ e=>e▸C.out)
end Ho
namespace Ac
def zah (x:Int):Prop:=0≤x∧x≤1099511627776
instance (x : Int) : Decidable (zah x) := inferInstanceAs (Decidable (_ ∧ _))
def holdE (bu sp:Int) (M:HM) (lot c:Int):Int:=if lot<0∨¬zah c then 2 else if bu-sp-zaq M+atM M lot<c then 8 else 0
theorem zra {b sp:Int} {M:HM} {a c:Int}:holdE b sp M a c=0↔0≤a∧zah c∧c≤b-sp-zaq M+atM M a:=by
 unfold holdE
 split
 ·rename_i h
  constructor
  ·intro d;omega
  ·rintro ⟨f,e,_⟩
   rcases h with h|h
   ·omega
   ·exact absurd e h
 ·rename_i h
  split
  ·constructor
   ·intro d;omega
   ·rintro ⟨_,_,g⟩;omega
  ·refine ⟨fun _=>⟨by omega,?_,by omega⟩,fun _=>rfl⟩;by_cases hc:zah c
   ·exact hc
   ·exact absurd (.inr hc) h
theorem zqz (p:Int×Int) (r:HM) (k:Int):atM (p::r) k=if p.1=k then p.2 else atM r k:=by
 unfold atM;by_cases h:p.1=k
 ·simp[List.find?_cons,h]
 ·have:(p.1==k)=false:=by simpa using h
  rw[if_neg h,List.find?_cons,this]
theorem zmW:∀{r:HM} {p:Int×Int},(r.map (·.1)).Nodup→p∈r→atM r p.1=p.2
 |q::r,p,hn,hp=>by
  rw[List.map_cons,List.nodup_cons] at hn;rw[zqz]
  rcases List.mem_cons.1 hp with rfl|hp
  ·rw[if_pos rfl]
  ·rw[if_neg (fun e=>hn.1 (by rw[e];exact List.mem_map.2 ⟨p,hp,rfl⟩))];exact zmW hn.2 hp
theorem zd6:∀(l r:HM),zaq (l++r)=zaq l+zaq r
 |[],r=>by simp[zaq]
 |p::l,r=>by
  have:=zd6 l r;simp only[List.cons_append,zbm]
  omega
theorem zco:∀{l:HM},(∀p∈l,0≤p.2)→0≤zaq l
 |[],_=>Int.le_refl _
 |p::l,h=>by
  have:=zco (l:=l) fun q hq=>h q (by simp[hq]);have:=h p (by simp);rw[zbm]
  omega
theorem drop_at {l:HM} {i:Nat} {p:Int×Int} (h:l[i]? =some p):l.drop i=p::l.drop (i+1):=by
 have a:=(gS.1 h).1;rw[List.drop_eq_getElem_cons a];rw[gE a] at h;injection h with h
 rw[h]
end Ac
namespace Ac
open Go.Shelf
def zgV:Go.Shelf.Ren:=⟨fun|7=>130|10=>152|n=>n,fun|23=>183|26=>3|3=>2|28=>236|0=>0|27=>235|33=>260|4=>4|n=>n,fun|n=>n⟩
theorem zlo:Go.Proofs.SlLaysZI.n7 Tryz.prog zgV:={
 mixed:=by kernel_rfl
 f7:=⟨Tryz.f130.name,by decide,Tryz.func130.trans (congrArg some (by kernel_rfl))⟩
 f10:=⟨Tryz.f152.name,by decide,Tryz.func152.trans (congrArg some (by kernel_rfl))⟩
 t0:=Tryz.underlying0
 a0:=Tryz.isAgg0
 z0:=Tryz.sizeOf0
 v0:=Tryz.zeroValue0
 t4:=Tryz.underlying4
 a4:=Tryz.isAgg4
 z4:=Tryz.sizeOf4
 v4:=Tryz.zeroValue4
 t23:=Tryz.underlying183
 a23:=Tryz.isAgg183
 z23:=Tryz.sizeOf183
 v23:=Tryz.zeroValue183
 t26:=Tryz.underlying3
 a26:=Tryz.isAgg3
 z26:=Tryz.sizeOf3
 v26:=Tryz.zeroValue3
 t27:=Tryz.underlying235
 a27:=Tryz.isAgg235
 z27:=Tryz.sizeOf235
 v27:=Tryz.zeroValue235
 t28:=Tryz.underlying236
 a28:=Tryz.isAgg236
 z28:=Tryz.sizeOf236
 v28:=Tryz.zeroValue236
 t33:=Tryz.underlying260
 a33:=Tryz.isAgg260
 z33:=Tryz.sizeOf260
 v33:=Tryz.zeroValue260}
def zf1:Go.Shelf.Ren:=⟨fun|6=>129|8=>150|9=>151|11=>167|13=>132|12=>168|23=>161|24=>162|14=>175|15=>176|16=>177|17=>178|18=>179|19=>180|20=>181|21=>182|22=>183|25=>185|26=>170|27=>171|28=>186|29=>187|30=>188|31=>189|n=>n,fun|26=>3|28=>236|24=>36|0=>0|3=>3|37=>122|48=>92|50=>89|4=>4|40=>263|39=>262|45=>203|5=>5|9=>9|51=>276|55=>279|57=>286|58=>287|33=>260|n=>n,fun|n=>n⟩
theorem znr:Go.Proofs.SlLaysZI.n6 Tryz.prog zf1:={
 mixed:=by kernel_rfl
 f6:=⟨Tryz.f129.name,by decide,Tryz.func129.trans (congrArg some (by kernel_rfl))⟩
 f8:=⟨Tryz.f150.name,by decide,Tryz.func150.trans (congrArg some (by kernel_rfl))⟩
 f11:=⟨Tryz.f167.name,by decide,Tryz.func167.trans (congrArg some (by kernel_rfl))⟩
 t0:=Tryz.underlying0
 a0:=Tryz.isAgg0
 z0:=Tryz.sizeOf0
 v0:=Tryz.zeroValue0
 t24:=Tryz.underlying36
 a24:=Tryz.isAgg36
 z24:=Tryz.sizeOf36
 v24:=Tryz.zeroValue36
 t26:=Tryz.underlying3
 a26:=Tryz.isAgg3
 z26:=Tryz.sizeOf3
 v26:=Tryz.zeroValue3
 t28:=Tryz.underlying236
 a28:=Tryz.isAgg236
 z28:=Tryz.sizeOf236
 v28:=Tryz.zeroValue236
 i26:=by kernel_rfl}
def zlq:Go.Shelf.Ren:=⟨fun|189=>151|125=>132|257=>168|128=>161|129=>162|294=>175|295=>176|296=>177|297=>178|298=>179|299=>180|216=>181|300=>182|301=>183|328=>185|329=>170|330=>171|331=>186|332=>187|215=>188|343=>189|n=>n,fun|28=>36|3=>3|46=>122|0=>0|51=>92|53=>89|4=>4|183=>263|182=>262|131=>203|5=>5|9=>9|218=>276|222=>279|228=>286|229=>287|n=>n,fun|n=>n⟩
theorem zlp:Go.Proofs.Lays.n189 Tryz.prog zlq:={
 mixed:=by kernel_rfl
 f125:=Tryz.func132.trans (congrArg some (by kernel_rfl))
 f128:=Tryz.func161.trans (congrArg some (by kernel_rfl))
 f129:=Tryz.func162.trans (congrArg some (by kernel_rfl))
 f189:=Tryz.func151.trans (congrArg some (by kernel_rfl))
 f215:=Tryz.func188.trans (congrArg some (by kernel_rfl))
 f216:=Tryz.func181.trans (congrArg some (by kernel_rfl))
 f257:=Tryz.func168.trans (congrArg some (by kernel_rfl))
 f294:=Tryz.func175.trans (congrArg some (by kernel_rfl))
 f295:=Tryz.func176.trans (congrArg some (by kernel_rfl))
 f296:=Tryz.func177.trans (congrArg some (by kernel_rfl))
 f297:=Tryz.func178.trans (congrArg some (by kernel_rfl))
 f298:=Tryz.func179.trans (congrArg some (by kernel_rfl))
 f299:=Tryz.func180.trans (congrArg some (by kernel_rfl))
 f300:=Tryz.func182.trans (congrArg some (by kernel_rfl))
 f301:=Tryz.func183.trans (congrArg some (by kernel_rfl))
 f328:=Tryz.func185.trans (congrArg some (by kernel_rfl))
 f329:=Tryz.func170.trans (congrArg some (by kernel_rfl))
 f330:=Tryz.func171.trans (congrArg some (by kernel_rfl))
 f331:=Tryz.func186.trans (congrArg some (by kernel_rfl))
 f332:=Tryz.func187.trans (congrArg some (by kernel_rfl))
 f343:=Tryz.func189.trans (congrArg some (by kernel_rfl))
 t0:=Tryz.underlying0
 a0:=Tryz.isAgg0
 z0:=Tryz.sizeOf0
 v0:=Tryz.zeroValue0
 t3:=Tryz.underlying3
 a3:=Tryz.isAgg3
 z3:=Tryz.sizeOf3
 v3:=Tryz.zeroValue3
 t4:=Tryz.underlying4
 a4:=Tryz.isAgg4
 z4:=Tryz.sizeOf4
 v4:=Tryz.zeroValue4
 t5:=Tryz.underlying5
 a5:=Tryz.isAgg5
 z5:=Tryz.sizeOf5
 v5:=Tryz.zeroValue5
 t9:=Tryz.underlying9
 a9:=Tryz.isAgg9
 z9:=Tryz.sizeOf9
 v9:=Tryz.zeroValue9
 t28:=Tryz.underlying36
 a28:=Tryz.isAgg36
 z28:=Tryz.sizeOf36
 v28:=Tryz.zeroValue36
 t46:=Tryz.underlying122
 a46:=Tryz.isAgg122
 z46:=Tryz.sizeOf122
 v46:=Tryz.zeroValue122
 t51:=Tryz.underlying92
 a51:=Tryz.isAgg92
 z51:=Tryz.sizeOf92
 v51:=Tryz.zeroValue92
 t53:=Tryz.underlying89
 a53:=Tryz.isAgg89
 z53:=Tryz.sizeOf89
 v53:=Tryz.zeroValue89
 t131:=Tryz.underlying203
 a131:=Tryz.isAgg203
 z131:=Tryz.sizeOf203
 v131:=Tryz.zeroValue203
 t182:=Tryz.underlying262
 a182:=Tryz.isAgg262
 z182:=Tryz.sizeOf262
 v182:=Tryz.zeroValue262
 t183:=Tryz.underlying263
 a183:=Tryz.isAgg263
 z183:=Tryz.sizeOf263
 v183:=Tryz.zeroValue263
 t218:=Tryz.underlying276
 a218:=Tryz.isAgg276
 z218:=Tryz.sizeOf276
 v218:=Tryz.zeroValue276
 t222:=Tryz.underlying279
 a222:=Tryz.isAgg279
 z222:=Tryz.sizeOf279
 v222:=Tryz.zeroValue279
 t228:=Tryz.underlying286
 a228:=Tryz.isAgg286
 z228:=Tryz.sizeOf286
 v228:=Tryz.zeroValue286
 t229:=Tryz.underlying287
 a229:=Tryz.isAgg287
 z229:=Tryz.sizeOf287
 v229:=Tryz.zeroValue287}
def zk9:Go.Shelf.Ren:=⟨fun|5=>91|7=>113|n=>n,fun|23=>183|25=>3|3=>2|4=>4|20=>20|n=>n,fun|n=>n⟩
theorem zoI:Go.Proofs.SlLaysW.n5 Tryz.prog zk9:={
 mixed:=by kernel_rfl
 f5:=⟨Tryz.f91.name,by decide,Tryz.func91.trans (congrArg some (by kernel_rfl))⟩
 f7:=Tryz.func113.trans (congrArg some (by kernel_rfl))
 t4:=Tryz.underlying4
 a4:=Tryz.isAgg4
 z4:=Tryz.sizeOf4
 v4:=Tryz.zeroValue4
 t20:=Tryz.underlying20
 a20:=Tryz.isAgg20
 z20:=Tryz.sizeOf20
 v20:=Tryz.zeroValue20
 t23:=Tryz.underlying183
 a23:=Tryz.isAgg183
 z23:=Tryz.sizeOf183
 v23:=Tryz.zeroValue183}
end Ac
namespace Ac
open Go.RowKit Go.Shelf Vb
open Go.Maps (Keyed)
attribute [local go_sem] Oper.semAt_some
structure Acc where
 bud:Int
 sp:Int
 M:HM
def Acc.held (a:Acc):Int:=zaq a.M
def Acc.free (a:Acc):Int:=a.bud-a.sp-zaq a.M
structure Acc.Ok (a:Acc):Prop where
 bud:zah a.bud
 sp:zah a.sp
 rise:zbk a.M
 each:∀p∈a.M,0≤p.1∧p.1≤9223372036854775807∧1≤p.2
 sum:zaq a.M≤1099511627776
def Acc.Fine (a:Acc):Prop:=a.sp+zaq a.M≤a.bud
structure AccAt (W:World) (b m n:Nat) (a:Acc):Prop where
 blk:Blk W b 185 #[.int .i64 a.bud,.int .i64 a.sp,.map (some m)]
 own:W.ownsMap Tryz.prog 3 (plainElem (H:=Unit) Tryz.prog 2) m n (dM a.M)
inductive Fm where
 |nil
 |zero
 |live (a:Acc)
def Fm.bud:Fm→Int| .live a=>a.bud|_=>0
def Fm.sp:Fm→Int| .live a=>a.sp|_=>0
def Fm.M:Fm→HM| .live a=>a.M|_=>[]
def Fm.there:Fm→Bool| .live _=>true|_=>false
def Fm.Ok:Fm→Prop| .live a=>a.Ok|_=>True
def AtP (W:World) (v:Value):Fm→Prop
 | .nil=>v=.pointer none
 | .zero=>∃b,v=.pointer (some ⟨b,0,none⟩)∧Blk W b 185 #[.int .i64 0,.int .i64 0,.map none]
 | .live a=>∃b m n,v=.pointer (some ⟨b,0,none⟩)∧AccAt W b m n a
section
variable {W W':World} {b m n:Nat} {a:Acc} {v:Value} {f:Fm}
theorem AccAt.ltb (h:AccAt W b m n a):b<W.heap.size:=h.blk.lt
theorem AccAt.ltm (h:AccAt W b m n a):m<W.heap.size:=h.own.lt
theorem AccAt.ne (h:AccAt W b m n a):b≠m:=by
 rintro rfl;obtain ⟨e,c,d,_⟩:=h.own;have:=h.blk;unfold Blk at this;rw[d] at this
 cases this
theorem AccAt.chg {X:Nat→Prop} (h:AccAt W b m n a) (hc:Chg X W W') (h1:¬X b) (h2:¬X m):AccAt W' b m n a:=⟨h.blk.chg hc h1,hc.ownsMap h.own h2⟩
theorem AccAt.grow (h:AccAt W b m n a) (hb:Below W W W'):AccAt W' b m n a:=h.chg (Chg.of (fun _=>False) hb) id id
theorem AccAt.mono (h:AccAt W b m n a) {n':Nat} (hn:n≤n'):AccAt W b m n' a:=⟨h.blk,h.own.mono hn⟩
theorem AtP.grow (h:AtP W v f) (e:Below W W W'):AtP W' v f:=by
 cases f with
 |nil=>exact h
 |zero=>obtain ⟨b,c,d⟩:=h;exact ⟨b,c,d.grow e⟩
 |live a=>obtain ⟨b,m,n,c,d⟩:=h;exact ⟨b,m,n,c,d.grow e⟩
theorem AtP.ptr (h:AtP W v f):∃p,v=.pointer p:=by
 cases f with
 |nil=>exact ⟨_,h⟩
 |zero=>obtain ⟨b,c,d⟩:=h;exact ⟨_,c⟩
 |live a=>obtain ⟨b,m,n,c,d⟩:=h;exact ⟨_,c⟩
end
theorem int_keyed':Keyed Tryz.prog 3:=Maps.int_keyed Tryz.underlying3
theorem zhS {x:Int} (h:-9223372036854775808≤x∧x≤9223372036854775807):(Lit.int .i64 x).wf=true:=WalkArith.wf_i64 (by omega)
theorem AccAt.look {W:World} {b m n:Nat} {a:Acc} (h:AccAt W b m n a) {x:Int} (f:-9223372036854775808≤x∧x≤9223372036854775807):
  (Instr.lookup 183 (.map (some m)) ↑x false).run Tryz.prog W=.ok ↑(atM a.M x:Int) W:=by
 obtain ⟨c,e,d,_⟩:=h.own.lookup_int int_keyed' Tryz.underlying183 Tryz.underlying2 (Tryz.zeroValue2 _) (Maps.keyOf_int_mk Tryz.underlying3 (zhS f));rw[zsi] at d;exact e.trans (by rw[(Lit.int.inj (DataW.lit.inj d)).2])
theorem AccAt.put {W:World} {b m n:Nat} {a:Acc} (h:AccAt W b m n a) (i:n<maxLen) {x v:Int} (l:-9223372036854775808≤x∧x≤9223372036854775807) (j:-9223372036854775808≤v∧v≤9223372036854775807):
  ∃W',(Instr.mapUpdate 183 (.map (some m)) ↑x ↑v).run Tryz.prog W=.ok () W'∧AccAt W' b m (n+1) {a with M:=zfZ a.M x v}∧Chg (·=m) W W':=by
 obtain ⟨W',c,d,g⟩:=h.own.update int_keyed' Tryz.underlying183 i (Maps.keyOf_int_mk Tryz.underlying3 (zhS l)) (plainElem_int Tryz.underlying2 (zhS j));rw[ztA] at d;have f:Chg (·=m) W W':=(Chg.grown g).mono fun k _ e=>by injection e
 exact ⟨W',c,⟨h.blk.chg f h.ne,d⟩,f⟩
theorem AccAt.del {W:World} {b m n:Nat} {a:Acc} (h:AccAt W b m n a) {x:Int} (j:-9223372036854775808≤x∧x≤9223372036854775807) (g:TypeId):
  ∃W',(Builtin.delete_ #[183,3] g #[.map (some m),x]).run Tryz.prog W=.ok (.tuple #[]) W'∧AccAt W' b m n {a with M:=zcl a.M x}∧Chg (·=m) W W':=by
 obtain ⟨W',c,d,i⟩:=h.own.drop int_keyed' Tryz.underlying183 (Maps.keyOf_int_mk Tryz.underlying3 (zhS j)) g;rw[ztz] at d;have f:Chg (·=m) W W':=(Chg.grown i.grown).mono fun k _ e=>by injection e
 exact ⟨W',c,⟨h.blk.chg f h.ne,d⟩,f⟩
theorem look_nil {W:World} {x:Int} (hx:-9223372036854775808≤x∧x≤9223372036854775807):
  (Instr.lookup 183 (.map none) ↑x false).run Tryz.prog W=.ok ↑() W:=
 Maps.look_nil false int_keyed' Tryz.underlying183 (Tryz.zeroValue2 _) (Maps.keyOf_int_mk Tryz.underlying3 (zhS hx))
end Ac
namespace Ac
open Go.RowKit Go.Shelf Go.Maps Vb
attribute [local go_sem] Oper.semAt_some
theorem ziq {M:HM} (h:zbk M):(M.map (·.1)).Pairwise (·<·):=List.pairwise_map.2 h
theorem zmR {M:HM} (h:zbk M) {ss:List Int} (f:ss.Perm (M.map (·.1))):ss.mergeSort (fun x y=>decide (x≤y))=M.map (·.1):=by
 refine List.Perm.eq_of_pairwise (le:=fun x y=>x≤y) (fun a b _ _ d e=>Int.le_antisymm d e) ?_ ?_ ((List.mergeSort_perm _ _).trans f)
 ·have:=List.pairwise_mergeSort (le:=fun (x y:Int)=>decide (x≤y)) (fun a b c d e=>by simp at*;omega) (fun a b=>by simp;omega) ss;exact this.imp fun h=>by simpa using h
 ·exact (ziq h).imp fun h=>Int.le_of_lt h
theorem zkB {W:World} {b m n:Nat} {a:Acc} (h:AccAt W b m n a):
  Calls Tryz.prog 91 #[.map (some m)] W fun e w'=>e=.returned (.map (some W.heap.size))∧w'.ownsMap Tryz.prog 3 (plainElem (H:=Unit) Tryz.prog 2) W.heap.size n (dM a.M)∧Below W W w':=
 (show Calls Tryz.prog 91 #[.map (some m)] W _ from AnyW.maps_Clone_owns zoI 3 (plainElem (H:=Unit) Tryz.prog 2) m n (dM a.M) W h.own).mono fun _ _ ⟨h1,h2,_,h4⟩=>⟨h1,h2,h4⟩
theorem zrh (mb:Option Nat) (W:World):
  Calls Tryz.prog 130 #[.map mb] W fun e w'=>e=.returned (.func (.func 152) #[] #[.pointer (some ⟨W,0,none⟩)])∧w'=W.alloc (.cells #[.map mb] 183):=
 (callsIn_wide (n:=5)).1 (AnyZI.keys_in zlo Fence.wide 5 trivial rfl mb W)
theorem zrS (m:Nat):AnyZI.SortsIn Tryz.prog zf1 Fence.wide m:=
 ⟨fun blk off cap ss W hH hblk hsz=>callsIn_wide.2 (Any.slices_Sort_int zlp blk off cap ss W hH hblk hsz),
  fun p cap W=>callsIn_wide.2 (Any.slices_Sort_int_none zlp p cap W)⟩
theorem zoo {W:World} {g m n:Nat} {M:HM} (k:zbk M) (l:M.length≤1099511627776) (i:W.cell? ⟨g,0,none⟩=some (.map (some m))) (c:W.ownsMap Tryz.prog 3 (plainElem (H:=Unit) Tryz.prog 2) m n (dM M)):
  Calls Tryz.prog 129 #[.func (.func 152) #[] #[.pointer (some ⟨g,0,none⟩)]] W fun e w'=>∃v,e=.returned v∧w'.ownsRow W.heap.size 3 1 v M.length ((M.map (·.1)).map (Value.int .i64))∧Below W W w':=by
 have d:SeqGives Fence.wide 2 Tryz.prog 152 #[.pointer (some ⟨g,0,none⟩)] encZ (fun h=>h.Perm (intKeys (dM M))) (Maps.size (dM M)) W:=
  AnyZI.keys_gives (ρ:=zgV) {zlo with} Fence.wide _ trivial rfl (by omega) g m n (dM M) _ (World.block_lt_of_cell? W ⟨g,0,none⟩ i) i c
 refine (callsIn_wide (n:=5)).1 ((show CallsIn Fence.wide 5 Tryz.prog 129 #[.func (.func 152) #[] #[.pointer (some ⟨g,0,none⟩)]] W _ from
  AnyZI.sorted_in znr Fence.wide 5 trivial trivial trivial trivial rfl (by omega) (zrS _) (enters_of Tryz.func151 (by kernel_rfl) rfl) 152 #[.pointer (some ⟨g,0,none⟩)] trivial (enters_of Tryz.func152 (by kernel_rfl) rfl) _ _ (by rw[zmZ];unfold maxLen;omega) (by rw[zmZ];omega) W d).mono ?_)
 rintro e w' ⟨v,h,rfl,f,a,_,j⟩;rw[zsu] at f;have b:h.length=M.length:=by rw[f.length_eq];simp
 rw[zmR k f,b] at a;exact ⟨v,rfl,a,j⟩
theorem zaQ (x:Int) (w:World):Calls Tryz.prog 137 #[x] w fun e w'=>e=.returned ↑(decide (zah x):Bool)∧w'=w:=by
 obtain ⟨z,c⟩:=nm (decide (zah x));rw[←c];have b:=hid c;clear c;unfold zah at b;go_enter Tryz.func137,Tryz.ntmps137;by_cases h1:0≤x
 ·by_cases h2:x≤1099511627776
  ·have a:=hid (b.out.trans (decide_eq_true ⟨h1,h2⟩))
   go_wp2
   go_ret;exact ⟨by rw[a.out];rfl,rfl⟩
  ·have a:=hid (b.out.trans (decide_eq_false fun h=>h2 h.2))
   go_wp2
   go_ret;exact ⟨by rw[a.out];rfl,rfl⟩
 ·have a:=hid (b.out.trans (decide_eq_false fun h=>h1 h.1))
  go_wp2
  go_ret;exact ⟨by rw[a.out];rfl,rfl⟩
theorem zsV (W:World) (p:Option Nat):(binOp .neq 183 (.map p) (.map none)).run Tryz.prog W=.ok ↑(!p.isNone:Bool) W:=by
 exact run_neq_map_nil W 183 _ _ p Tryz.underlying183
theorem zb1 {v:Value} {f:Fm} {w:World} (h:AtP w v f):Calls Tryz.prog 90 #[v] w fun e w'=>e=.returned ↑f.there∧w'=w:=by
 have g:=zsV w
 cases f with
 |nil=>
  subst h;go_enter Tryz.func90,Tryz.ntmps90
  go_wp2
  go_ret;exact ⟨rfl,rfl⟩
 |zero=>
  obtain ⟨b,rfl,c⟩:=h;have d:w.cell? ⟨b,2,none⟩=some (.map none):=c.cell 2;clear c;go_enter Tryz.func90,Tryz.ntmps90
  go_wp2
  go_ret;exact ⟨rfl,rfl⟩
 |live a=>
  obtain ⟨b,m,n,rfl,c⟩:=h;have d:w.cell? ⟨b,2,none⟩=some (.map (some m)):=c.blk.cell 2;clear c;go_enter Tryz.func90,Tryz.ntmps90
  go_wp2
  go_ret;exact ⟨rfl,rfl⟩
theorem zjc {v:Value} {f:Fm} {w:World} (h:AtP w v f):Calls Tryz.prog 78 #[v] w fun e w'=>e=.returned ↑f.bud∧w'=w:=by
 cases f with
 |nil=>
  subst h;go_enter Tryz.func78,Tryz.ntmps78
  go_wp2
  go_ret;exact ⟨rfl,rfl⟩
 |zero=>
  obtain ⟨b,rfl,c⟩:=h;have d:w.cell? ⟨b,0,none⟩=some ↑():=c.cell 0;clear c;go_enter Tryz.func78,Tryz.ntmps78
  go_wp2
  go_ret;exact ⟨rfl,rfl⟩
 |live a=>
  obtain ⟨b,m,n,rfl,c⟩:=h;have d:w.cell? ⟨b,0,none⟩=some ↑a.bud:=c.blk.cell 0;clear c;go_enter Tryz.func78,Tryz.ntmps78
  go_wp2
  go_ret;exact ⟨rfl,rfl⟩
theorem zp8 {v:Value} {f:Fm} {w:World} (h:AtP w v f):Calls Tryz.prog 80 #[v] w fun e w'=>e=.returned ↑f.sp∧w'=w:=by
 cases f with
 |nil=>
  subst h;go_enter Tryz.func80,Tryz.ntmps80
  go_wp2
  go_ret;exact ⟨rfl,rfl⟩
 |zero=>
  obtain ⟨b,rfl,c⟩:=h;have d:w.cell? ⟨b,1,none⟩=some ↑():=c.cell 1;clear c;go_enter Tryz.func80,Tryz.ntmps80
  go_wp2
  go_ret;exact ⟨rfl,rfl⟩
 |live a=>
  obtain ⟨b,m,n,rfl,c⟩:=h;have d:w.cell? ⟨b,1,none⟩=some ↑a.sp:=c.blk.cell 1;clear c;go_enter Tryz.func80,Tryz.ntmps80
  go_wp2
  go_ret;exact ⟨rfl,rfl⟩
theorem zlu {v:Value} {f:Fm} {w:World} (h:AtP w v f) {x:Int} (d:-9223372036854775808≤x∧x≤9223372036854775807):Calls Tryz.prog 143 #[v,x] w fun e w'=>e=.returned ↑(atM f.M x:Int)∧w'=w:=by
 cases f with
 |nil=>
  subst h;go_enter Tryz.func143,Tryz.ntmps143
  go_wp2
  go_ret;exact ⟨rfl,rfl⟩
 |zero=>
  obtain ⟨b,rfl,c⟩:=h;have g:w.cell? ⟨b,2,none⟩=some (.map none):=c.cell 2;have i:=look_nil (W:=w) d;clear c d;go_enter Tryz.func143,Tryz.ntmps143
  go_wp2
  go_ret;exact ⟨rfl,rfl⟩
 |live a=>
  obtain ⟨b,m,n,rfl,c⟩:=h;have g:w.cell? ⟨b,2,none⟩=some (.map (some m)):=c.blk.cell 2;have i:=c.look d;clear c d;go_enter Tryz.func143,Tryz.ntmps143
  go_wp2
  go_ret;exact ⟨rfl,rfl⟩
def zls (b:Nat):Value:=.func (.func 128) #[] #[.pointer (some ⟨b,0,none⟩)]
theorem zdT {v:Value} (a:∃p,v=.pointer p) (w:World):Calls Tryz.prog 107 #[v] w fun e w'=>e=.returned (zls w.heap.size)∧w'=w.alloc (.cells #[v] 136):=by
 obtain ⟨p,rfl⟩:=a;go_enter Tryz.func107,Tryz.ntmps107
 go_wp2
 go_ret;exact ⟨rfl,rfl⟩
def ints (l:List Int):List Value:=l.map (Value.int .i64)
theorem zp3 {w:World} {R:Nat→Prop} {A:Option Addr} {n c k:Nat} {l:List Int} (h:Sl w R (.slice A n c) n 1 (ints l)) (p:k<n):
  ∃b off x,A=some ⟨b,off,none⟩∧b<w.heap.size∧l[k]? =some x∧w.cell? ⟨b,off+k,none⟩=some ↑(x:Int):=by
 obtain ⟨i,m,o,j,_,_,g⟩:=h;injection j with d _ _
 subst d;obtain ⟨b,off,d,_,f,e⟩:=g (by omega);have a:k<l.length:=by simp[ints] at i;omega
 exact ⟨b,off,l[k],d,f,gE a,e k _ (by simp[ints,a])⟩
theorem ztv {M:HM} (h:zbk M) {j:Nat} {x:Int×Int} (hx:M[j]? =some x):atM M x.1=x.2:=zmW ((ziq h).imp fun h=>Int.ne_of_lt h) (mG hx)
structure AllI (lo hi m A:Nat) (n cap:Nat) (a:Option Addr) (M:HM) (W:World):Prop where
 row:Sl W (fun b=>lo≤b∧b<hi) (.slice a M.length cap) M.length 1 (ints (M.map (·.1)))
 own:W.ownsMap Tryz.prog 3 (plainElem (H:=Unit) Tryz.prog 2) m n (dM M)
 lom:lo≤m
 him:m<hi
theorem AllI.keep {lo c m A n cap:Nat} {a:Option Addr} {M:HM} {W W':World} (h:AllI lo c m A n cap a M W) (d:KeepR lo c W W'):AllI lo c m A n cap a M W':=by
 refine ⟨d.sl h.row,?_,h.lom,h.him⟩;obtain ⟨e,b,f,g⟩:=h.own;exact ⟨e,b,(d.same _ h.lom h.him).trans f,g⟩
theorem zrs {W:World} {m n:Nat} {M:HM} (h:W.ownsMap Tryz.prog 3 (plainElem (H:=Unit) Tryz.prog 2) m n (dM M)) {x:Int} (d:-9223372036854775808≤x∧x≤9223372036854775807):
  (Instr.lookup 183 (.map (some m)) ↑x false).run Tryz.prog W=.ok ↑(atM M x:Int) W:=by
 obtain ⟨c,b,a,_⟩:=h.lookup_int int_keyed' Tryz.underlying183 Tryz.underlying2 (Tryz.zeroValue2 _) (Maps.keyOf_int_mk Tryz.underlying3 (zhS d));rw[zsi] at a;exact b.trans (by rw[(Lit.int.inj (DataW.lit.inj a)).2])
theorem zso (nn:Nat) (hn:1≤nn) (l g:Nat) (v:Value) (f:Fm) (hr:zbk f.M) (hl:f.M.length≤1099511627776) (P:∀p∈f.M,-9223372036854775808≤p.1∧p.1≤9223372036854775807) (J Jx:Nat→List (Int×Int)→World→Prop) (W:World) (hg:W.cell? ⟨g,0,none⟩=some v) (F:AtP W v f)
  (hY:∀hi pre x W1,hi≤W1.heap.size→J hi pre W1→pre++[x]<+:f.M→pre.length<f.M.length→YieldAt Fence.wide (nn-1) Tryz.prog l #[x.1,x.2] W1 fun e W'=>
   (e=.returned ↑true∧J hi (pre++[x]) W'∧KeepR W.heap.size hi W1 W')∨(e=.returned ↑false∧Jx hi (pre++[x]) W'))
  (h0:∀W0,Below W W W0→J W0.heap.size [] W0):
  CallsIn Fence.wide nn Tryz.prog 128 #[.func (.yield l) #[] #[],.pointer (some ⟨g,0,none⟩)] W fun e W'=>(∃v,e=.returned v)∧
   ∃hi,W.heap.size≤hi∧((∃xs,xs=f.M∧J hi xs W')∨(∃pre,pre<+:f.M∧Jx hi pre W')):=by
 refine callsIn_of_wp Tryz.func128 rfl trivial ?_ rfl;have HV:=hid F;have HR:=hid hr;have Y:=hid P;have HY:=hid hY;have H0:=hid h0;clear hr P hY h0;simp only[Tryz.ntmps128,List.size_toArray,List.length_cons,List.length_nil,Nat.reduceAdd,Nat.reduceSub,Array.replicate_succ,Array.replicate_zero,List.push_toArray,List.append_toArray,List.nil_append,List.cons_append];have s:∀W1,Below W W W1→f.M=[]→(∃v:Value,(Ending.returned (.tuple #[]):Ending)=.returned v)∧∃hi,W.heap.size≤hi∧((∃xs,xs=f.M∧J hi xs W1)∨(∃pre,pre<+:f.M∧Jx hi pre W1)):=
  fun W1 k he=>⟨⟨_,rfl⟩,W1.heap.size,k.size,.inl ⟨[],he.symm,H0.out W1 k⟩⟩
 have HD:=hid s;clear s
 cases f with
 |nil=>
  subst F
  gi_wp2
  refine ⟨trivial,(callsIn_wide.2 (zb1 (f:=.nil) HV.out)).mono ?_⟩;rintro e r ⟨rfl,rfl⟩;unfold Fm.there
  gi_wp2
  refine bodyPost_ret (results_none rfl _ _ _) rfl ?_;exact HD.out _ bR rfl
 |zero=>
  obtain ⟨b,rfl,k⟩:=F
  gi_wp2
  refine ⟨trivial,(callsIn_wide.2 (zb1 (f:=.zero) HV.out)).mono ?_⟩;rintro e r ⟨rfl,rfl⟩;unfold Fm.there
  gi_wp2
  refine bodyPost_ret (results_none rfl _ _ _) rfl ?_;exact HD.out _ bR rfl
 |live a=>
  obtain ⟨b,m,n,rfl,k⟩:=F;have c2:W.cell? ⟨b,2,none⟩=some (.map (some m)):=k.blk.cell 2;have HB:=hid k;clear k
  gi_wp2
  refine ⟨trivial,(callsIn_wide.2 (zb1 (f:=.live a) HV.out)).mono ?_⟩;rintro e r ⟨rfl,rfl⟩;obtain ⟨tt,U⟩:=nm ((Fm.live a).there);rw[←U];unfold Fm.there at U
  gi_wp2
  refine ⟨trivial,(callsIn_wide.2 (zkB HB.out)).mono ?_⟩;rintro e X ⟨rfl,z,O⟩;have C:=hid z;have A:=hid O;clear c2 z O
  gi_wp2
  refine ⟨trivial,(callsIn_wide.2 (zrh (some r.heap.size) X)).mono ?_⟩;rintro e w3 ⟨rfl,rfl⟩
  gi_wp2
  refine ⟨trivial,(callsIn_wide.2 (zoo (g:=X.heap.size) (M:=a.M) HR.out hl ((Blk.new X 183 #[.map (some r.heap.size)]).cell 0) (C.out.alloc _))).mono ?_⟩;rintro e d ⟨v4,rfl,c,o⟩;obtain ⟨A4,I,rfl⟩:=zfj c;have t:AllI r.heap.size d.heap.size r.heap.size 0 n I A4 a.M d:=by
   have T:=A.out.size;have hs4:=o.size;have D:=C.out.lt
   simp at hs4
   refine ⟨(Sl.of_own c).mono fun b k h=>⟨?_,k⟩,Chg.ownsMap (C.out.alloc _) (Chg.of (fun _=>False) o) id,lR,by omega⟩
   rcases c.2 with ⟨hnil,_⟩|⟨g',cp,cur,F,hgb,_⟩
   ·rw[hnil] at h;cases h
   ·rw[F] at h;injection h with h
    simp at hgb h
    omega
  have y:Below r r d:=by
   have T:=A.out.size;exact (A.out.trans ((Below.refl _ X).alloc T _)).trans (o.mono (by simp;omega))
  have G:=hid t;have B:=hid y;have e4:(0:Int)≤(a.M.length:Int):=by omega
  have hl4:a.M.length≤1099511627776:=hl;clear c o t y
  gi_wp2
  gi_loopw [18] (fun i wr=>∃j:Nat,j≤a.M.length∧i=.int .i64 j∧J d.heap.size (a.M.take j) wr∧KeepR r.heap.size d.heap.size d wr) (fun i _=>a.M.length-(intOf i).toNat)
  case atStart=>exact ⟨0,zL,rfl,H0.out d B.out,KeepR.refl _ _ _⟩
  case round=>
   obtain ⟨j,hj,rfl,K,q⟩:=hrel;have V:=G.out.keep q;have HJ:=hid K;have Z:=hid q;have hsz:=q.size;clear K q;by_cases D:j<a.M.length
   ·obtain ⟨gb,go,x,rfl,_,hx,hc⟩:=zp3 V.row D;obtain ⟨p,S⟩:∃p,a.M[j]? =some p:=⟨_,gE D⟩;have hpx:p.1=x:=by rw[List.getElem?_map,S] at hx;simpa using hx
    subst hpx;have R:=zrs V.own (Y.out p (mG S));rw[ztv (M:=a.M) HR.out S] at R;have E:a.M.take (j+1)=a.M.take j++[p]:=by rw[List.take_add_one,S];rfl
    have Q:(a.M.take j).length<a.M.length:=by rw[List.length_take];omega
    have H:=hid E;obtain ⟨fn,tmps,assign,body,hy,N⟩:=HY.out d.heap.size _ p wr hsz HJ.out (by show _<+:a.M;rw[←E];exact List.take_prefix _ _) Q;obtain ⟨p1,p2⟩:=p
    dsimp only at hy R hc
    have aa:=hid N;have e0:(0:Int)≤(j:Int):=by omega
    have e1:(j:Int)<(a.M.length:Int):=by omega
    clear hx S E Q N V
    gi_wp2
    refine aa.out.mono ?_;rintro e W3 (⟨rfl,hJ3,hk3⟩|⟨rfl,L⟩)
    ·gi_wp2
     go_roundw
     case rel=>exact ⟨j+1,by omega,by go_num,by rw[H.out];exact hJ3,Z.out.trans hk3⟩
     case measure=>simp[intOf];omega
    ·gi_wp2
     refine bodyPost_ret (results_none rfl _ _ _) rfl ?_;exact ⟨⟨_,rfl⟩,d.heap.size,B.out.size,.inr ⟨_,by rw[←H.out];exact List.take_prefix _ _,L⟩⟩
   ·obtain rfl:j=a.M.length:=by omega
    clear V
    gi_wp2
    go_end0
    have:=HJ.out;rw[List.take_of_length_le lR] at this;exact ⟨⟨_,rfl⟩,d.heap.size,B.out.size,.inl ⟨_,rfl,this⟩⟩
theorem zns (nn:Nat) (hn:1≤nn) (g:Nat) (v:Value) (f:Fm) (hr:zbk f.M) (hl:f.M.length≤1099511627776) (hkw:∀p∈f.M,-9223372036854775808≤p.1∧p.1≤9223372036854775807) (w:World) (hg:w.cell? ⟨g,0,none⟩=some v) (hv:AtP w v f):
  zkv Fence.wide nn Tryz.prog 128 #[.pointer (some ⟨g,0,none⟩)] (fun x:Int×Int=>#[Value.int .i64 x.1,Value.int .i64 x.2]) (fun ys=>ys=f.M) (fun pre=>pre<+:f.M) f.M.length w:=fun l J Jx W hW _ _ hY h0=>
 zso nn hn l g v f hr hl hkw J Jx W (qc hW hg (World.block_lt_of_cell? w ⟨g,0,none⟩ hg)) (hv.grow hW) hY h0
theorem zjy:∀{M:HM},(∀p∈M,1≤p.2)→(M.length:Int)≤zaq M
 |[],_=>by simp[zaq]
 |x::r,h=>by
  have:=zjy (M:=r) fun p hp=>h p (by simp[hp]);have h1:=h x (by simp);rw[zbm]
  simp
  omega
structure HOk (M:HM):Prop where
 rise:zbk M
 each:∀p∈M,0≤p.1∧p.1≤9223372036854775807∧1≤p.2
 sum:zaq M≤1099511627776
theorem Acc.Ok.h {a:Acc} (h:a.Ok):HOk a.M:=⟨h.rise,h.each,h.sum⟩
theorem Fm.Ok.h {f:Fm} (h:f.Ok):HOk f.M:=by
 cases f with
 |live a=>exact Acc.Ok.h h
 |nil=>exact ⟨List.Pairwise.nil,fun p b=>(by cases b),by decide⟩
 |zero=>exact ⟨List.Pairwise.nil,fun p b=>(by cases b),by decide⟩
theorem HOk.len {M:HM} (h:HOk M):M.length≤1099511627776:=by
 have:=zjy fun p a=>(h.each p a).2.2;have:=h.sum
 omega
theorem HOk.pre {M pre:HM} (h:HOk M) (a:pre<+:M):0≤zaq pre∧zaq pre≤1099511627776:=by
 obtain ⟨t,rfl⟩:=a;have c:0≤zaq t:=zco fun p a=>by have:=h.each p (by simp[a]);omega
 have d:0≤zaq pre:=zco fun p a=>by have:=h.each p (by simp[a]);omega
 have b:=h.sum;rw[zd6] at b
 omega
theorem zhx (pre:HM) (x:Int×Int):zaq (pre++[x])=zaq pre+x.2:=by
 rw[zd6,zbm]
 show _=_
 simp[zaq]
theorem zq5 {v:Value} {f:Fm} {w:World} (h:AtP w v f) (O:f.Ok):Calls Tryz.prog 79 #[v] w fun e w'=>e=.returned ↑(zaq f.M:Int)∧Below w w w':=by
 have T:=hid h;have t:=hid O.h;have C:=h.ptr;clear h O;refine (callsIn_wide (n:=3)).1 (callsIn_of_wp_marks Tryz.func79 rfl trivial ((wpIn_wide (n:=3)).2 ?_));simp only[Tryz.ntmps79,List.size_toArray,List.length_cons,List.length_nil,Nat.reduceAdd,Nat.reduceSub,Array.replicate_succ,Array.replicate_zero,List.push_toArray,List.append_toArray,List.nil_append,List.cons_append];go_wp2_with fail
 refine (zdT C _).mono ?_;rintro e w1 ⟨rfl,rfl⟩;unfold zls;go_wp2_with fail
 obtain ⟨y,a⟩:=nm (((w.alloc (.cells #[()] 2)).alloc (.cells #[v] 136)));have g:Below w w y:=by rw[a];exact (qA _).alloc (by simp) _
 have L:Blk y w 2 #[()]:=by rw[a];exact (Blk.new w _ _).alloc _
 have J:Blk y (w.heap.size+1) 136 #[v]:=by rw[a];exact Blk.new' _ _ (by simp)
 rw[←a];have o:=hid g;have S:=hid L;have Q:=hid J;clear a g L J;refine (wpIn_wide (n:=3)).1 ?_;refine' zi0 (F:=Fence.wide) (n:=3) rfl (by omega) (gf:=128) (lb:=#[.pointer (some ⟨w.heap.size+1,0,none⟩)]) rfl trivial (enters_of Tryz.func128 (by kernel_rfl) rfl)
  (zns 2 (by omega) (w.heap.size+1) v f t.out.rise t.out.len (fun p C=>by have:=t.out.each p C;omega) y (Q.out.cell 0) (T.out.grow o.out)) bR (fun _=>rfl)
  (fun _ b W=>Blk W w 2 #[(zaq b:Int)]∧Below w w W)
  (fun _ _ _ _=>False)
  (fun _=>OwnFrom.and (Own.from (fun _ _ _ _ h X Z=>h.cells X Z) _) (ownFrom_below lR o.out.size))
  (fun _ _=>fun _ _ _ _ h _ _=>h)
  (fun W0 r=>⟨S.out.grow r,o.out.trans (r.mono o.out.size)⟩) _ ?assign ?body ?done ?stop
 case assign=>
  intro l x W K q
  gi_wp2
  exact q
 case body=>
  rintro N l b x W _ ⟨i,g⟩ s Y;obtain ⟨k,m⟩:=t.out.pre s;rw[zhx] at k m;have d:=zhx b x;obtain ⟨xa,H⟩:=x;obtain ⟨z,P⟩:=nm (zaq b);rw[←P] at k m i d;simp only at k m d;have p0:W.cell? ⟨w,0,none⟩=some ↑z:=i.cell 0;have p1:W.frozen? ⟨w,0,none⟩=false:=i.frozen 0;have ab:IntKind.i64.wrap (z+H)=z+H:=iW _ (by omega);have R:=hid i;have A:=hid d;have j:=hid g;have aa:=o.out.size;clear i g s P d
  dsimp only
  gi_wp2
  refine ⟨KeepsOthers.setCell _ _ _,KeepR.set W (.inl (by simp;omega)) _,?_,j.out.setCell (p:=⟨w,0,none⟩) (by simp) _⟩;rw[A.out];exact R.out.set_ 0 ↑(z+H:Int)
 case done=>
  rintro N D ys W U G ⟨i,g⟩ q;subst G;have p0:W.cell? ⟨w,0,none⟩=some ↑(zaq f.M:Int):=i.cell 0;have j:=hid g;have I:=hid q;have B:w.heap.size≤D:=by have:=o.out.size;omega
  clear i g q;go_wp2_with fail
  refine ⟨by simp,.inl ⟨_,_,rfl,run_takeDeferred I.out,?_⟩⟩;exact ⟨.int .i64 (zaq f.M),by simp[results,Tryz.results79,go_sem],rfl,j.out.trans (belowK_b (w:=w) lR W D _ _ B I.out rfl rfl)⟩
 case stop=>
  rintro N D c b W U E V q;exact V.elim
def Fm.free (f:Fm):Int:=f.bud-f.sp-zaq f.M
theorem Fm.Ok.b {f:Fm} (h:f.Ok):zah f.bud∧zah f.sp:=by
 cases f with
 |live a=>exact ⟨Acc.Ok.bud h,Acc.Ok.sp h⟩
 |nil=>exact ⟨by decide,by decide⟩
 |zero=>exact ⟨by decide,by decide⟩
theorem HOk.nn {M:HM} (h:HOk M):0≤zaq M:=(h.pre (List.prefix_refl _)).1
theorem zfc {v:Value} {f:Fm} {w:World} (h:AtP w v f) (d:f.Ok):Calls Tryz.prog 164 #[v] w fun e w'=>e=.returned ↑f.free∧Below w w w':=by
 obtain ⟨⟨r,s⟩,B,C⟩:=d.b;have t:=d.h.nn;have A:=d.h.sum;have l:=hid h;have n:=hid d;have k:=hid (show f.free=f.bud-f.sp-zaq f.M from rfl);obtain ⟨D,c⟩:=nm (f.free);rw[←c] at k ⊢;obtain ⟨x,g⟩:=nm (f.bud);obtain ⟨y,i⟩:=nm (f.sp);obtain ⟨z,j⟩:=nm (zaq f.M);have o:=hid g;have p:=hid i;have q:=hid j;rw[←g,←i,←j] at k;rw[←g] at r s;rw[←i] at B C;rw[←j] at t A;have E:IntKind.i64.wrap (x-y)=x-y:=iW _ (by omega);have F:IntKind.i64.wrap (x-y-z)=x-y-z:=iW _ (by omega);clear h d c g i j;go_enter Tryz.func164,Tryz.ntmps164;go_wp2_with fail
 refine (zjc l.out).mono ?_;rintro e G ⟨rfl,rfl⟩;rw[←o.out];go_wp2_with fail
 refine (zp8 l.out).mono ?_;rintro e H ⟨rfl,rfl⟩;rw[←p.out];go_wp2_with fail
 refine (zq5 l.out n.out).mono ?_;rintro e I ⟨rfl,a⟩;rw[←q.out];have m:=hid a;clear a;go_wp2_with fail
 go_ret;exact ⟨by rw[k.out];rfl,m.out⟩
theorem zp2 (M:HM) (x:Int):zdZ M x 0=zcl M x:=if_pos rfl
theorem zrP (M:HM) (x:Int) {v:Int} (h:v≠0):zdZ M x v=zfZ M x v:=if_neg h
def Acc.set (a:Acc) (x v:Int):Acc:={a with M:=zdZ a.M x v}
theorem znk {b m n:Nat} {a:Acc} {w:World} (h:AccAt w b m n a) (p:n<maxLen) {x v:Int} (k:-9223372036854775808≤x∧x≤9223372036854775807) (l:-9223372036854775808≤v∧v≤9223372036854775807):
  Calls Tryz.prog 146 #[.pointer (some ⟨b,0,none⟩),x,v] w fun e w'=>e=.returned (.tuple #[])∧AccAt w' b m (n+1) (a.set x v)∧Chg (·=m) w w':=by
 have t:w.cell? ⟨b,2,none⟩=some (.map (some m)):=h.blk.cell 2;have q:=hid h;have s:=hid k;have r:=hid l;by_cases h0:v=0
 ·subst h0;have j:=hid (show a.set x 0={a with M:=zcl a.M x} from by unfold Acc.set;rw[zp2]);obtain ⟨o,f,c,d⟩:=h.del k 0;have g:=hid c;have i:=hid d;clear h c d;go_enter Tryz.func146,Tryz.ntmps146;go_wp2_with fail
  refine bodyPost_ret (results_none rfl _ _ _) rfl ?_;exact ⟨rfl,by rw[j.out];exact g.out.mono (Nat.le_succ _),i.out⟩
 ·have j:=hid (show a.set x v={a with M:=zfZ a.M x v} from by unfold Acc.set;rw[zrP _ _ h0]);obtain ⟨o,f,c,d⟩:=h.put p k l;have g:=hid c;have i:=hid d;have y:(v==0)=false:=by simpa using h0
  clear h c d h0;go_enter Tryz.func146,Tryz.ntmps146;go_wp2_with fail
  go_end0
  exact ⟨rfl,by rw[j.out];exact g.out,i.out⟩
theorem zgy {b m n:Nat} {a:Acc} {w:World} (h:AccAt w b m n a) (c:Bool) (l k:Nat) (s v t:Array Value) (x f:Int)
  (F:∀args W,(callFunc l args).run Tryz.prog W=.ok (.enter l args) W) (E:∀args W,(callFunc k args).run Tryz.prog W=.ok (.enter k args) W)
  (z:Calls Tryz.prog l (s++v) w fun e W'=>e=.returned ↑f∧Below w w W') (Q:World→Prop)
  (y:c=true→zah x→x≤f→∀W,Below w w W→Calls Tryz.prog k t W fun e W'=>e=.returned (.tuple #[])∧Q W'):
  Calls Tryz.prog 136 #[.pointer (some ⟨b,0,none⟩),c,.func (.func l) s v,x,.func (.func k) #[] t] w fun e w'=>
   (c=false∨¬zah x)∧e=.returned ↑(2:Int)∧w'=w∨c=true∧zah x∧f<x∧e=.returned ↑(8:Int)∧Below w w w'∨c=true∧zah x∧x≤f∧e=.returned ↑()∧Q w':=by
 have q:=hid (show AtP w (.pointer (some ⟨b,0,none⟩)) (.live a) from ⟨b,m,n,rfl,h⟩);have C:=hid z;have B:=hid y;clear h z y;have p:=hid (show (Fm.live a).there=true from rfl)
 cases c with
 |false=>
  go_enter Tryz.func136,Tryz.ntmps136;go_wp2_with fail
  refine (zb1 q.out).mono ?_;rintro e o ⟨rfl,rfl⟩;rw[p.out];go_wp2_with fail
  go_ret;exact .inl ⟨.inl trivial,rfl,rfl⟩
 |true=>
  by_cases hc:zah x
  ·have g:=hid hc;have d:=hid (decide_eq_true hc);clear hc;go_enter Tryz.func136,Tryz.ntmps136;go_wp2_with fail
   refine (zb1 q.out).mono ?_;rintro e o ⟨rfl,rfl⟩;rw[p.out];go_wp2_with fail
   refine (zaQ x o).mono ?_;rintro e G ⟨rfl,rfl⟩;rw[d.out];go_wp2_with fail
   refine C.out.mono ?_;rintro e H ⟨rfl,j⟩;have r:=hid j;clear j;by_cases hlt:f<x
   ·go_wp2_with fail
    go_ret;exact .inr (.inl ⟨trivial,g.out,hlt,rfl,r.out⟩)
   ·have i:=hid (show x≤f by omega);go_wp2_with fail
    refine (B.out trivial g.out i.out H r.out).mono ?_;rintro e I ⟨rfl,A⟩;have D:=hid A;clear A;go_wp2_with fail
    go_ret;exact .inr (.inr ⟨trivial,g.out,i.out,rfl,D.out⟩)
  ·have g:=hid hc;have d:=hid (decide_eq_false hc);clear hc;go_enter Tryz.func136,Tryz.ntmps136;go_wp2_with fail
   refine (zb1 q.out).mono ?_;rintro e o ⟨rfl,rfl⟩;rw[p.out];go_wp2_with fail
   refine (zaQ x o).mono ?_;rintro e G ⟨rfl,rfl⟩;rw[d.out];go_wp2_with fail
   go_ret;exact .inl ⟨.inr g.out,rfl,rfl⟩
theorem zlv {M:HM} (h:HOk M) (k:Int):0≤atM M k∧atM M k≤zaq M:=by
 have b:=zgd k h.rise;have c:0≤zaq (zcl M k):=zco fun p a=>by have:=h.each p (List.mem_filter.1 a).1;omega
 refine ⟨?_,by omega⟩;unfold atM
 cases hf:M.find? (fun p=>p.1==k) with
 |none=>exact Int.le_refl _
 |some p=>have:=h.each p (List.mem_of_find?_eq_some hf);simp only;omega
def Acc.mostH (a:Acc) (x:Int):Int:=a.free+atM a.M x
theorem zhj {a:Acc} (h:a.Ok) (x:Int):IntKind.i64.wrap (a.free+atM a.M x)=a.free+atM a.M x:=by
 obtain ⟨b,c⟩:=h.bud;obtain ⟨d,e⟩:=h.sp;have f:=zlv h.h x;have g:=h.sum;have i:=h.h.nn;unfold Acc.free;exact iW _ (by omega)
theorem zpe {b m n H I:Nat} {a:Acc} {w:World} (h:AccAt w b m n a) (N:a.Ok) {x:Int} (P:-9223372036854775808≤x∧x≤9223372036854775807) (J:Blk w H 136 #[.pointer (some ⟨b,0,none⟩)]) (L:Blk w I 3 #[x]):
  Calls Tryz.prog 224 #[.pointer (some ⟨H,0,none⟩),.pointer (some ⟨I,0,none⟩)] w fun e w'=>e=.returned ↑(a.mostH x:Int)∧Below w w w':=by
 have q:w.cell? ⟨H,0,none⟩=some (.pointer (some ⟨b,0,none⟩)):=J.cell 0;have r:w.cell? ⟨I,0,none⟩=some ↑x:=L.cell 0;have s:w.cell? ⟨b,2,none⟩=some (.map (some m)):=h.blk.cell 2;have t:=J.lt;have y:=L.lt;have A:=h.blk.lt;have V:=zhj N x;have o:=hid h;have S:=hid N;have p:=hid P;have B:a.mostH x=a.free+atM a.M x:=rfl;obtain ⟨z,Q⟩:=nm (a.mostH x);rw[←Q] at B ⊢;obtain ⟨U,l⟩:=nm (a.free);obtain ⟨T,j⟩:=nm (atM a.M x);rw[←l,←j] at V B;have G:=hid (show U=(Fm.live a).free from l);have d:=hid j;have R:=hid B;clear h N P J L Q l j B;go_enter Tryz.func224,Tryz.ntmps224;go_wp2_with fail
 refine zac (Below w w) [] (by kernel_rfl) (bR.drew) (fun g=>?_);refine tx 0 (v:=?_) g ?_ ?_
 rotate_left
 ·intro w' c;have C:=qc c q t;have D:=qc c r y;have E:=qc c s A;have i:=(o.out.grow c).look p.out;rw[←d.out] at i;go_simp;try with_reducible rfl
 refine tx 2 (v:=?_) g ?_ ?_
 rotate_left
 ·intro w' c;have C:=qc c q t;have D:=qc c r y;have E:=qc c s A;have i:=(o.out.grow c).look p.out;rw[←d.out] at i;go_simp;try with_reducible rfl
 refine tp 3 g ?_;refine tp 4 g ?_;refine tx 5 (v:=?_) g ?_ ?_
 rotate_left
 ·intro w' c;have C:=qc c q t;have D:=qc c r y;have E:=qc c s A;have i:=(o.out.grow c).look p.out;rw[←d.out] at i;go_simp;try with_reducible rfl
 refine tx 6 (v:=?_) g ?_ ?_
 rotate_left
 ·intro w' c;have C:=qc c q t;have D:=qc c r y;have E:=qc c s A;have i:=(o.out.grow c).look p.out;rw[←d.out] at i;go_simp;try with_reducible rfl
 refine tx 7 (v:=?_) g ?_ ?_
 rotate_left
 ·intro w' c;have C:=qc c q t;have D:=qc c r y;have E:=qc c s A;have i:=(o.out.grow c).look p.out;rw[←d.out] at i;go_simp;try with_reducible rfl
 refine stp 1 fun K O=>?_;go_simp;refine (zfc (f:=.live a) (w:=w.drew) ⟨b,m,n,rfl,o.out.grow bR.drew⟩ S.out).mono ?_;rintro e X ⟨rfl,k⟩;rw[←G.out];refine O.out _ _ ?_ (fun g=>?_)
 ·exact (Below.refl w.heap.size w).drew.trans (k.mono (by simp))
 clear O K
 try simp only[Act.put,pb,pz,ps]
 have F:=hid ((Below.refl w.heap.size w).drew.trans (k.mono (by simp)));clear k;refine tp 8 g ?_;refine tp 9 g ?_;refine zaa (by kernel_rfl) ?_ _;clear g;go_wp2_with fail
 go_ret;exact ⟨by rw[R.out];rfl,F.out⟩
theorem zpf {b m n f g i:Nat} {a:Acc} {w:World} (h:AccAt w b m n a) (k:n<maxLen) {x v:Int} (o:-9223372036854775808≤x∧x≤9223372036854775807) (l:-9223372036854775808≤v∧v≤9223372036854775807) (j:Blk w f 136 #[.pointer (some ⟨b,0,none⟩)]) (c:Blk w g 3 #[x]) (d:Blk w i 2 #[v]):
  Calls Tryz.prog 225 #[.pointer (some ⟨f,0,none⟩),.pointer (some ⟨g,0,none⟩),.pointer (some ⟨i,0,none⟩)] w fun e w'=>e=.returned (.tuple #[])∧AccAt w' b m (n+1) (a.set x v)∧Chg (·=m) w w':=by
 have z:w.cell? ⟨f,0,none⟩=some (.pointer (some ⟨b,0,none⟩)):=j.cell 0;have A:w.cell? ⟨g,0,none⟩=some ↑x:=c.cell 0;have B:w.cell? ⟨i,0,none⟩=some ↑v:=d.cell 0;have r:=hid h;have y:=hid o;have t:=hid l;have s:=hid k;clear h o l k j c d;go_enter Tryz.func225,Tryz.ntmps225;go_wp2_with fail
 refine (znk r.out s.out y.out t.out).mono ?_;rintro e C ⟨rfl,c,d⟩;have p:=hid c;have q:=hid d;clear c d;go_wp2_with fail
 go_end0
 exact ⟨rfl,p.out,q.out⟩
theorem zl9 (w:World):Calls Tryz.prog 144 #[] w fun e w'=>e=.returned ↑()∧w'=w:=by
 go_enter Tryz.func144,Tryz.ntmps144;go_wp2_with fail
 go_ret;exact ⟨rfl,rfl⟩
theorem zma {b m n d f:Nat} {a:Acc} {w:World} (h:AccAt w b m n a) (j:n<maxLen) {x:Int} (k:-9223372036854775808≤x∧x≤9223372036854775807) (g:Blk w d 136 #[.pointer (some ⟨b,0,none⟩)]) (c:Blk w f 3 #[x]):
  Calls Tryz.prog 145 #[.pointer (some ⟨d,0,none⟩),.pointer (some ⟨f,0,none⟩)] w fun e w'=>e=.returned (.tuple #[])∧AccAt w' b m (n+1) (a.set x 0)∧Chg (·=m) w w':=by
 have s:w.cell? ⟨d,0,none⟩=some (.pointer (some ⟨b,0,none⟩)):=g.cell 0;have t:w.cell? ⟨f,0,none⟩=some ↑x:=c.cell 0;have p:=hid h;have r:=hid k;have q:=hid j;clear h k j g c;go_enter Tryz.func145,Tryz.ntmps145;go_wp2_with fail
 refine (znk p.out q.out r.out (by omega)).mono ?_;rintro e v ⟨rfl,c,i⟩;have l:=hid c;have o:=hid i;clear c i;go_wp2_with fail
 go_end0
 exact ⟨rfl,l.out,o.out⟩
def Acc.holdE (a:Acc) (x v:Int):Int:=Ac.holdE a.bud a.sp a.M x v
theorem zkN {a:Acc} {x v:Int} (h:x<0∨¬zah v):a.holdE x v=2:=if_pos h
theorem zph {a:Acc} {x v:Int} (c:0≤x) (b:zah v) (h:a.mostH x<v):a.holdE x v=8:=by
 unfold Acc.holdE Ac.holdE;rw[if_neg (by rintro (h|h);omega;exact h b),if_pos (by unfold Acc.mostH Acc.free at h;exact h)]
theorem zhc {a:Acc} {x v:Int} (c:0≤x) (b:zah v) (h:v≤a.mostH x):a.holdE x v=0:=by
 unfold Acc.holdE Ac.holdE;rw[if_neg (by rintro (h|h);omega;exact h b),if_neg (by unfold Acc.mostH Acc.free at h;omega)]
theorem zkO {b m n:Nat} {a:Acc} {w:World} (h:AccAt w b m n a) (P:a.Ok) (O:n<maxLen) {x v:Int} (J:-9223372036854775808≤x∧x≤9223372036854775807) (Q:-9223372036854775808≤v∧v≤9223372036854775807):
  Calls Tryz.prog 220 #[.pointer (some ⟨b,0,none⟩),x,v] w fun e w'=>
   (a.holdE x v≠0∧e=.returned ↑(a.holdE x v:Int)∧Below w w w')∨(a.holdE x v=0∧e=.returned ↑()∧AccAt w' b m (n+1) (a.set x v)∧Chg (·=m) w w'):=by
 obtain ⟨U,f⟩:=nm (((w.alloc (.cells #[.pointer (some ⟨b,0,none⟩)] 136)).alloc (.cells #[x] 3)).alloc (.cells #[v] 2));have s:Below w w U:=by rw[f];exact ((qA _).alloc (by simp) _).alloc (by simp;omega) _
 have C:Blk U w 136 #[.pointer (some ⟨b,0,none⟩)]:=by rw[f];exact ((Blk.new w _ _).alloc _).alloc _
 have D:Blk U (w.heap.size+1) 3 #[x]:=by rw[f];exact (Blk.new' _ _ (by simp)).alloc _
 have H:Blk U (w.heap.size+1+1) 2 #[v]:=by rw[f];exact Blk.new' _ _ (by simp)
 have G:=hid f;have r:=hid s;have y:=hid (h.grow s);have N:=h.ltm;have q:=fun d=>zgy y.out d 224 225 #[] #[.pointer (some ⟨w,0,none⟩),.pointer (some ⟨w.heap.size+1,0,none⟩)] #[.pointer (some ⟨w,0,none⟩),.pointer (some ⟨w.heap.size+1,0,none⟩),.pointer (some ⟨w.heap.size+1+1,0,none⟩)] v (a.mostH x)
  (enters_of Tryz.func224 (by kernel_rfl) rfl) (enters_of Tryz.func225 (by kernel_rfl) rfl) (by rw[Array.empty_append];exact zpe y.out P J C D)
  (fun W=>AccAt W b m (n+1) (a.set x v)∧Chg (·=m) w W) (fun _ _ _ W i=>(zpf (y.out.grow i) O J Q (C.grow i) (D.grow i) (H.grow i)).mono fun e w' ⟨K,L,M⟩=>⟨K,L,((Chg.of _ s).grow i).step M fun _ _ h=>h⟩)
 have g:=hid q;clear h f s C D H q;go_enter Tryz.func220,Tryz.ntmps220;by_cases h0:0≤x
 ·have F:=hid h0;go_wp2_with fail
  rw[←G.out];refine (g.out true).mono ?_;rintro e R (⟨t,rfl,rfl⟩|⟨_,j,l,rfl,I⟩|⟨_,j,k,rfl,o,p⟩)
  ·have c:=hid (zkN (a:=a) (x:=x) (v:=v) (.inr (t.resolve_left (by simp))));clear t;go_wp2_with fail
   go_ret;exact .inl ⟨by rw[c.out];decide,by rw[c.out];rfl,r.out⟩
  ·have c:=hid (zph F.out j l);have z:=hid I;clear j l I;go_wp2_with fail
   go_ret;exact .inl ⟨by rw[c.out];decide,by rw[c.out];rfl,r.out.trans (z.out.mono r.out.size)⟩
  ·have c:=hid (zhc F.out j k);have A:=hid o;have B:=hid p;clear j k o p;go_wp2_with fail
   go_ret;exact .inr ⟨c.out,rfl,A.out,B.out⟩
 ·have c:=hid (zkN (a:=a) (x:=x) (v:=v) (.inl (by omega)));go_wp2_with fail
  rw[←G.out];refine (g.out false).mono ?_;rintro e R (⟨t,rfl,rfl⟩|⟨E,_⟩|⟨E,_⟩)
  ·clear t;go_wp2_with fail
   go_ret;exact .inl ⟨by rw[c.out];decide,by rw[c.out];rfl,r.out⟩
  ·cases E
  ·cases E
theorem zfm {b m n:Nat} {a:Acc} {w:World} (h:AccAt w b m n a) (S:n<maxLen) {x:Int} (J:-9223372036854775808≤x∧x≤9223372036854775807):
  Calls Tryz.prog 123 #[.pointer (some ⟨b,0,none⟩),x] w fun e w'=>
   (x<0∧e=.returned (.tuple #[(atM a.M x:Int),(2:Int)])∧Below w w w')∨(0≤x∧e=.returned (.tuple #[(atM a.M x:Int),()])∧AccAt w' b m (n+1) (a.set x 0)∧Chg (·=m) w w'):=by
 obtain ⟨U,k⟩:=nm ((w.alloc (.cells #[.pointer (some ⟨b,0,none⟩)] 136)).alloc (.cells #[x] 3));have s:Below w w U:=by rw[k];exact (qA _).alloc (by simp) _
 have B:Blk U w 136 #[.pointer (some ⟨b,0,none⟩)]:=by rw[k];exact (Blk.new w _ _).alloc _
 have C:Blk U (w.heap.size+1) 3 #[x]:=by rw[k];exact Blk.new' _ _ (by simp)
 have r:=hid k;have P:=hid s;have q:=hid (h.grow s);have N:=hid J;have p:=fun i=>zgy q.out i 144 145 #[] #[] #[.pointer (some ⟨w,0,none⟩),.pointer (some ⟨w.heap.size+1,0,none⟩)] 0 0
  (enters_of Tryz.func144 (by kernel_rfl) rfl) (enters_of Tryz.func145 (by kernel_rfl) rfl) (by rw[Array.empty_append];exact (zl9 U).mono fun e w' ⟨D,E⟩=>⟨D,by rw[E];exact bR⟩)
  (fun W=>AccAt W b m (n+1) (a.set x 0)∧Chg (·=m) w W) (fun _ _ _ W t=>(zma (q.out.grow t) S J (B.grow t) (C.grow t)).mono fun e w' ⟨D,E,R⟩=>⟨D,E,((Chg.of _ s).grow t).step R fun _ _ h=>h⟩)
 have j:=hid p;obtain ⟨g,d⟩:=nm (atM a.M x);rw[←d];have L:=hid d;have X:U.cell? ⟨w,0,none⟩=some (.pointer (some ⟨b,0,none⟩)):=B.cell 0;have Y:U.cell? ⟨w.heap.size+1,0,none⟩=some ↑x:=C.cell 0;clear h k s B C p J d;go_enter Tryz.func123,Tryz.ntmps123;by_cases h0:0≤x
 ·have y:=hid h0;go_wp2_with fail
  rw[←r.out];refine (zlu (f:=.live a) ⟨b,m,n,rfl,q.out⟩ N.out).mono ?_;rintro e K ⟨rfl,c⟩;rw[c];clear c;rw[show atM (Fm.live a).M x=g from L.out.symm];clear r;go_wp2_with fail
  refine (j.out true).mono ?_;rintro e K (⟨I,rfl,rfl⟩|⟨_,O,H,rfl,T⟩|⟨_,O,G,rfl,l,o⟩)
  ·exact absurd (by decide) (I.resolve_left (by simp))
  ·exact absurd H (by decide)
  ·have z:=hid l;have A:=hid o;clear O G l o;go_wp2_with fail
   exact bodyPost_ret (v:=.tuple #[g,()]) (by simp[results,Tryz.results123,go_sem]) rfl (.inr ⟨y.out,rfl,z.out,A.out⟩)
 ·have y:=hid h0;go_wp2_with fail
  rw[←r.out];refine (zlu (f:=.live a) ⟨b,m,n,rfl,q.out⟩ N.out).mono ?_;rintro e K ⟨rfl,c⟩;rw[c];clear c;rw[show atM (Fm.live a).M x=g from L.out.symm];clear r;have V:decide (x ≥ 0)=false:=by simp;omega
  have Q:¬0≤x:=by omega
  go_wp2_with fail
  refine (j.out false).mono ?_;rintro e K (⟨I,rfl,rfl⟩|⟨F,_⟩|⟨F,_⟩)
  ·clear I;go_wp2_with fail
   exact bodyPost_ret (v:=.tuple #[g,(2:Int)]) (by simp[results,Tryz.results123,go_sem]) rfl (.inl ⟨by have:=y.out;omega,rfl,P.out⟩)
  ·cases F
  ·cases F
end Ac
end Go.Proofs.YtckdpejdnejhfaaGreat

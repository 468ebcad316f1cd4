/- Joined by program. -/
import Derived.Test.YtckdpejdnejhfaaGreatZs
import Derived.Test.YtckdpejdnejhfaaGreatZp
set_option linter.all false
set_option maxRecDepth 100000
set_option maxHeartbeats 32000000
namespace Go.Proofs.YtckdpejdnejhfaaGreat
open Lib (hid)
namespace Vb
open Go.RowKit
def zgc (floor:Int) (l:List Sec):Bool:=!zae floor||l.any zb8
instance (l : List Int) : Decidable l.Nodup := inferInstance
def zeQ (floor:Int) (l:List Sec):Int:=if zgc floor l=true then 2 else if (l.map (·.b)).Nodup then 0 else 5
def zdb (floor:Int) (l:List Sec):Value:=if zeQ floor l=0 then zcs floor l else .agg #[.bool false,.int .i64 0,.int .i64 0,.int .i64 0]
theorem zmg (floor:Int) (l:List Sec):∃(b:Bool) (x y z:Int),zcs floor l=.agg #[b,x,y,z]:=by
 unfold zcs
 split
 ·exact ⟨_,_,_,_,rfl⟩
 ·exact ⟨_,_,_,_,rfl⟩
def zd5 (l:List Sec) (k:Nat):Int→Option Int:=fun x=>if x∈(l.take k).map (·.b) then some 1 else none
theorem zot {l:List Sec} {k:Nat} {s:Sec} (h:l[k]? =some s):(l.take (k+1)).map (·.b)=(l.take k).map (·.b)++[s.b]:=by
 rw[List.take_add_one,h];simp
theorem zrN (floor:Int) (l:List Sec) (v:Value) (R:Nat→Prop) (w:World) (hl:zer w R v l):
  Calls Tryz.prog 249 #[floor,v] w fun e w'=>e=.returned (.tuple #[zdb floor l,(zeQ floor l:Int)])∧Below w w w':=by
 have HL:=hid hl;obtain ⟨⟨_,A,cap,rfl,hncap,hcap,C⟩,q⟩:=hl;unfold maxLen at hcap;have HC:=hid C;have HWF:=hid q;have hk0:=Blk.new w 331 #[false,(),(),()];have Y:=hid hk0;clear C q hk0
 cases hbad:zgc floor l with
 |true=>
  have hE:zeQ floor l=2:=by unfold zeQ;rw[if_pos hbad]
  have hV:zdb floor l=.agg #[false,(),(),()]:=by unfold zdb;rw[hE,if_neg (by decide)]
  have HE:=hid hE;have HV:=hid hV
  cases j:zae floor with
  |false=>
   have H:=hid j;have f:=(((Y.out.set_ 0 ↑false).set_ 1 ↑()).set_ 2 ↑()).set_ 3 ↑();have L:=f.cell 0;have M:=f.cell 1;have N:=f.cell 2;have O:=f.cell 3
   simp at L M N O
   clear hE hV hbad j f;go_enter Tryz.func249,Tryz.ntmps249
   go_wp2_with (go_at_call 251;refine (zaQ floor _).mono ?_;rintro e U ⟨rfl,rfl⟩;rw[H.out])
   rw[HE.out,HV.out];refine bodyPost_ret (v:=.tuple #[.agg #[false,(),(),()],(2:Int)]) (by simp[results,Tryz.results249,go_sem]) rfl ⟨rfl,?_⟩;exact (Below.refl w.heap.size w).alloc lR _
  |true=>
   have n:l.any zb8=true:=by simpa [zgc,j] using hbad
   have H:=hid j;have G:=hid n;clear hE hV hbad j n;go_enter Tryz.func249,Tryz.ntmps249
   go_wp2_with (first
    |(go_at_call 251;refine (zaQ floor _).mono ?_;rintro e U ⟨rfl,rfl⟩;rw[H.out])
    |(go_at_call 252;refine (zfB l _ R _ (HL.out.alloc _)).mono ?_;rintro e U ⟨rfl,s⟩;rw[G.out];have r:=Y.out.grow s;have q0:=r.cell 0;have q1:=r.cell 1;have q2:=r.cell 2;have q3:=r.cell 3;have qf:=r.frozen;simp at q0 q1 q2 q3;have HK:=hid r;have D:=hid ((qA _).trans (s.mono (B':=w.heap.size) (by simp)));clear s r))
   have f:=(((HK.out.set_ 0 ↑false).set_ 1 ↑()).set_ 2 ↑()).set_ 3 ↑();have L:=f.cell 0;have M:=f.cell 1;have N:=f.cell 2;have O:=f.cell 3
   simp at L M N O
   rw[HE.out,HV.out];refine bodyPost_ret (v:=.tuple #[.agg #[false,(),(),()],(2:Int)]) (by simp[results,Tryz.results249,go_sem,L,M,N,O]) rfl ⟨rfl,?_⟩;exact (((D.out.setCell (p:=⟨w,0,none⟩) (by simp) _).setCell (p:=⟨w,1,none⟩) (by simp) _).setCell (p:=⟨w,2,none⟩) (by simp) _).setCell (p:=⟨w,3,none⟩) (by simp) _
 |false=>
  have j:zae floor=true:=by
   cases h:zae floor with
   |true=>rfl
   |false=>simp[zgc,h] at hbad
  have n:l.any zb8=false:=by simpa [zgc,j] using hbad
  have hE:zeQ floor l=if (l.map (·.b)).Nodup then 0 else 5:=by unfold zeQ;rw[if_neg (by rw[hbad];decide)]
  have H:=hid j;have G:=hid n;have HE:=hid hE;have hmm:=@run_makeMap Tryz.prog;clear hbad j n hE;go_enter Tryz.func249,Tryz.ntmps249
  go_wp2_with (first
   |(go_at_call 251;refine (zaQ floor _).mono ?_;rintro e U ⟨rfl,rfl⟩;rw[H.out])
   |(go_at_call 252;refine (zfB l _ R _ (HL.out.alloc _)).mono ?_;rintro e U ⟨rfl,s⟩;rw[G.out];have S:=hid (Y.out.grow s);have D:=hid ((qA _).trans (s.mono (B':=w.heap.size) (by simp)));clear s))
  clear hmm;have t:=D.out.alloc D.out.size (.map #[] 0);have hk2:=S.out.alloc (.map #[] 0);have hklt:=S.out.lt;have hm2:=zdq.made (P:=Tryz.prog) (kt:=3) (et:=3) U;obtain ⟨u2,hu2⟩:=nm (U.alloc (.map #[] 0));rw[←hu2] at t hk2 hm2 ⊢;clear hu2;have HB2:=hid t;have HK2:=hid hk2;have HM2:=hid hm2;clear t hk2 hm2
  go_loopw [22] (fun i wr=>∃k:Nat,k≤l.length∧i=.int .i64 k∧((l.take k).map (·.b)).Nodup∧zdq Tryz.prog 3 3 wr U.heap.size k (zd5 l k)∧Blk wr w 331 #[false,(),(),()]∧Below w w wr) (fun i _=>l.length-(intOf i).toNat)
  case atStart=>exact ⟨0,zL,rfl,by simp,by
   have h:=HM2.out;have e:zd5 l 0=fun _=>none:=by funext x;simp[zd5]
   rw[e];exact h,HK2.out,HB2.out⟩
  case round=>
   obtain ⟨k,r,rfl,F,hm,E,K⟩:=hrel;have HND:=hid F;have HM:=hid hm;have HKB:=hid E;have Q:=hid K;by_cases hlt:k<l.length
   ·obtain ⟨bb,off,rfl,_,hbb,T⟩:=HC.out (by omega);obtain ⟨o,ho⟩:∃o,l[k]? =some o:=⟨_,gE hlt⟩;have c0:wr.cell? ⟨bb,off+k*2,none⟩=some ↑o.b:=(K.cell hbb).trans (T _ _ (Sec.all_fst l k o ho));have c1:wr.cell? ⟨bb,off+k*2+1,none⟩=some ↑o.c:=(K.cell hbb).trans (T _ _ (Sec.all_snd l k o ho));have hw:=HWF.out o (mG ho);have q:(Lit.int .i64 o.b).wf=true:=WalkArith.wf_i64 ⟨hw.1.1,hw.1.2⟩;have e1:(0:Int)≤(k:Int):=by omega
    have e2:(k:Int)<(l.length:Int):=by omega
    have hsn:=zot ho;have J:=hm.alloc (.cells #[o.b,o.c] 329);have hl1:=J.look int_keyed' Tryz.underlying336 Tryz.underlying3 Tryz.underlying3 (Tryz.zeroValue3 _) q;have HO:=hid ho;have Z:=hid hsn;have hmlt:=hm.lt;by_cases hin:o.b∈(l.take k).map (·.b)
    ·have hv:(zd5 l k o.b).getD 0=1:=by unfold zd5;rw[if_pos hin];rfl
     rw[hv] at hl1;obtain ⟨w',hs1,B,m⟩:=J.store int_keyed' Tryz.underlying336 Tryz.underlying3 Tryz.underlying3 (by unfold maxLen;omega) q (show (Lit.int .i64 2).wf=true by decide);have hl2:=B.look int_keyed' Tryz.underlying336 Tryz.underlying3 Tryz.underlying3 (Tryz.zeroValue3 _) q;simp only[if_true,Option.getD_some] at hl2;have hne:U.heap.size≠w.heap.size:=by have:=S.out.lt;omega
     have d:=(E.alloc (.cells #[o.b,o.c] 329)).grown m (fun e=>hne (by injection e with e;exact e.symm));have n0:=(Blk.new wr 329 #[o.b,o.c]).grown m (fun e=>by injection e with e;omega);have n00:w'.cell? ⟨wr,0,none⟩=some ↑o.b:=n0.cell 0;have q0:=d.cell 0;have q1:=d.cell 1;have q2:=d.cell 2;have q3:=d.cell 3;have qf:=d.frozen;have f:=(((d.set_ 0 ↑false).set_ 1 ↑()).set_ 2 ↑()).set_ 3 ↑();have L:=f.cell 0;have M:=f.cell 1;have N:=f.cell 2;have O:=f.cell 3
     simp at q0 q1 q2 q3 L M N O
     have z:=(Q.out.alloc Q.out.size (.cells #[o.b,o.c] 329)).grown m (by have:=Q.out.size;simp;omega) (fun g e=>by injection e with e;have:=D.out.size;omega);have X:=hid z;have V:¬(l.map (·.b)).Nodup:=fun hn=>by
      have h1:((l.take (k+1)).map (·.b)).Nodup:=hn.sublist ((List.take_sublist (k+1) l).map _);rw[Z.out] at h1;exact (List.nodup_append.1 h1).2.2 _ hin _ (by simp) rfl
     have hE5:zeQ floor l=5:=by rw[HE.out,if_neg V]
     have hV5:zdb floor l=.agg #[false,(),(),()]:=by unfold zdb;rw[hE5,if_neg (by decide)]
     have HE5:=hid hE5;have HV5:=hid hV5;clear F hm E K T ho hsn J B m d n0 f z V hE5 hV5 hin hv;go_wp2_with fail
     rw[HE5.out,HV5.out];refine bodyPost_ret (v:=.tuple #[.agg #[false,(),(),()],(5:Int)]) (by simp[results,Tryz.results249,go_sem,L,M,N,O]) rfl ⟨rfl,?_⟩;exact (((X.out.setCell (p:=⟨w,0,none⟩) (by simp) _).setCell (p:=⟨w,1,none⟩) (by simp) _).setCell (p:=⟨w,2,none⟩) (by simp) _).setCell (p:=⟨w,3,none⟩) (by simp) _
    ·have hv:(zd5 l k o.b).getD 0=0:=by unfold zd5;rw[if_neg hin];rfl
     rw[hv] at hl1;obtain ⟨w',hs1,B,m⟩:=J.store int_keyed' Tryz.underlying336 Tryz.underlying3 Tryz.underlying3 (by unfold maxLen;omega) q (show (Lit.int .i64 1).wf=true by decide);have hl2:=B.look int_keyed' Tryz.underlying336 Tryz.underlying3 Tryz.underlying3 (Tryz.zeroValue3 _) q;simp only[if_true,Option.getD_some] at hl2;have hne:U.heap.size≠w.heap.size:=by have:=S.out.lt;omega
     have d:=(E.alloc (.cells #[o.b,o.c] 329)).grown m (fun e=>hne (by injection e with e;exact e.symm));have n0:=(Blk.new wr 329 #[o.b,o.c]).grown m (fun e=>by injection e with e;omega);have n00:w'.cell? ⟨wr,0,none⟩=some ↑o.b:=n0.cell 0;have z:=(Q.out.alloc Q.out.size (.cells #[o.b,o.c] 329)).grown m (by have:=Q.out.size;simp;omega) (fun g e=>by injection e with e;have:=D.out.size;omega);have hF:(fun y=>if y=o.b then some (1:Int) else zd5 l k y)=zd5 l (k+1):=by
      funext y
      unfold zd5;rw[Z.out];by_cases hy:y=o.b<;>simp[hy]
     rw[hF] at B;have X:=hid z;have HM1:=hid B;have HKB1:=hid d;have HIN:=hid hin;clear F hm E K T ho hsn J B m d n0 z hF hin hv;go_wp2_with fail
     go_roundw
     case rel=>
      refine ⟨k+1,by omega,by go_num,?_,HM1.out,HKB1.out,X.out⟩;rw[Z.out];refine List.nodup_append.2 ⟨HND.out,by simp,fun a ha b K=>?_⟩
      simp at K
      subst K;exact fun e=>HIN.out (by rw[←e];exact ha)
     case measure=>simp[intOf];omega
   ·obtain rfl:k=l.length:=by omega
    have hn:(l.map (·.b)).Nodup:=by rw[List.take_length] at F;exact F
    have hE0:zeQ floor l=0:=by rw[HE.out,if_pos hn]
    have hV0:zdb floor l=zcs floor l:=by unfold zdb;rw[hE0,if_pos rfl]
    have HE0:=hid hE0;have HV0:=hid hV0;have z:Below w w wr:=K;obtain ⟨vb,vx,vy,vz,I⟩:=zmg floor l;have HF:=hid I;clear F hm E K hn hE0 hV0 z I
    go_wp2_with (go_at_call 253;refine (zqG floor l _ R _ (HL.out.grow Q.out)).mono ?_;rintro e w2 ⟨rfl,t⟩;rw[HF.out];have r:=HKB.out.grow t;have q0:=r.cell 0;have q1:=r.cell 1;have q2:=r.cell 2;have q3:=r.cell 3;have qf:=r.frozen;simp at q0 q1 q2 q3;have HKX:=hid r;have HBX:=hid (Q.out.trans (t.mono Q.out.size));clear t r)
    have f:=(((HKX.out.set_ 0 ↑vb).set_ 1 ↑vx).set_ 2 ↑vy).set_ 3 ↑vz;have L:=f.cell 0;have M:=f.cell 1;have N:=f.cell 2;have O:=f.cell 3
    simp at L M N O
    rw[HE0.out,HV0.out,HF.out];refine bodyPost_ret (v:=.tuple #[.agg #[vb,vx,vy,vz],()]) (by simp[results,Tryz.results249,go_sem,L,M,N,O]) rfl ⟨rfl,?_⟩;exact (((HBX.out.setCell (p:=⟨w,0,none⟩) (by simp) _).setCell (p:=⟨w,1,none⟩) (by simp) _).setCell (p:=⟨w,2,none⟩) (by simp) _).setCell (p:=⟨w,3,none⟩) (by simp) _
end Vb
namespace Ho
open Go.RowKit Vb Ac
theorem ztE:zbg Tryz.prog 327 329 2 16:=zba Tryz.underlying327 (by omega) (z:=.agg #[(),()]) (by kernel_rfl) rfl
def zc2 (ss:List Stand):List Sec:=ss.map fun s=>⟨s.bidder,s.held⟩
def zbX (fl:Int) (ss:List Stand):Option (Int×Int):=
 if zeQ fl (zc2 ss)=0 then match zbx fl (-1) (zc2 ss) (zc2 ss).length with|none=>none|some (j,_)=>some ((((zc2 ss)[j]?).map (·.b)).getD 0,zgA fl (zc2 ss) j) else none
theorem zp4 {fl:Int} {ss:List Stand} (h:zbX fl ss=none):zdb fl (zc2 ss)=.agg #[false,(),(),()]:=by
 unfold zbX at h;unfold zdb
 split at h
 ·rw[if_pos (by assumption)];unfold zcs
  split at h
  ·rename_i a;rw[a]
  ·cases h
 ·rw[if_neg (by assumption)]
theorem zp5 {fl:Int} {ss:List Stand} {w p:Int} (h:zbX fl ss=some (w,p)):∃c,zdb fl (zc2 ss)=.agg #[true,w,(c:Int),p]:=by
 unfold zbX at h;unfold zdb
 split at h
 ·rw[if_pos (by assumption)];unfold zcs
  split at h
  ·cases h
  ·rename_i j c a
   rw[a]
   cases h
   exact ⟨c,rfl⟩
 ·cases h
def zb0 (l:LotS):List SaleR:=match zbX l.put.floor l.stands with|none=>[]|some (w,p)=>[zem w p]
def zc1 (l:LotS):LotS:=match zbX l.put.floor l.stands with|none=>l|some (_,p)=>{l with price:=p}
theorem Sl.none0 (W:World) (R:Nat→Prop) (sz:Nat):Sl W R (.slice none 0 0) 0 sz []:=⟨by simp,none,0,rfl,lR,zL,fun h=>absurd h (by omega)⟩
theorem zaM.stepB {W W':World} {T:Nat→Part} {v:Value} {n b:Nat} {ss:List Stand} (h:zaM W T (fun x=>T x=.lot n∧x≠b) v ss) (i:T b=.lot n) (a:Chg (·=b) W W'):zaM W' T (fun x=>T x=.lot n∧x≠b) v ss:=by
 obtain ⟨j,d,f⟩:=h;exact ⟨j,d.chg a fun x _ g e=>g.2 e,f.step a (fun x c e=>by rw[e,i] at c;cases c) fun _ _=>rfl⟩
theorem zp9 {W:World} {T:Nat→Part} {j b:Nat} {l:LotS} (hL:za2 W T j b l) (hT:∀x,W.heap.size≤x→T x=.no) (hw:∀s∈l.stands,(0≤s.bidder∧s.bidder≤4096)∧zah s.held) (hn:l.stands.length≤1000000):
  Calls Tryz.prog 247 #[.agg #[],.pointer (some ⟨b,0,none⟩)] W (zhE W T j b (zc1 l) (zb0 l)):=by
 obtain ⟨W1,L⟩:=nm (W.alloc (.cells #[] 247));have hb1:Below W W W1:=by rw[L];exact qA _
 obtain ⟨v,htb,d,B⟩:=hL;obtain ⟨sA,sc,O⟩:=B.form;subst O;obtain ⟨n,A⟩:=nm (l.stands.length);rw[←A] at B d;have l14:W.cell? ⟨b,14,none⟩=some (.slice sA n sc):=d.cell 14;have lb:=d.lt;have K:=hid htb;have D:=hid d;have J:=hid B;have HTN:=hid hT;have HWF:=hid hw;have HN:=hid A;have hnb:n≤1000000:=by omega
 have HB1:=hid hb1;obtain ⟨S,hS⟩:=nm (zc2 l.stands);have r:=hid hS;have aa:=hid (show S.length=n by rw[hS,A];simp[zc2]);clear htb d B hT hw hn A hb1 hS;go_enter Tryz.func247,Tryz.ntmps247;go_wp2_with fail
 rw[←L];clear L;have e4:(0:Int)≤(n:Int):=by omega
 go_loopw [5,15] (fun t i wr=>∃(k:Nat) (U:Option Addr) (c':Nat),k≤n∧i=.int .i64 k∧t=.slice U k c'∧RowAt wr (fun x=>W.heap.size≤x) 329 2 (.slice U k c') k (Sec.all (S.take k))∧Below W W wr) (fun _ i _=>n-(intOf i).toNat)
 case atStart=>exact ⟨0,none,0,zL,rfl,rfl,RowAt.nil,HB1.out⟩
 case round=>
  obtain ⟨k,U,c',hk,rfl,rfl,f,o⟩:=hrel;by_cases hlt:k<n
  ·obtain ⟨s,P⟩:∃s,l.stands[k]? =some s:=⟨_,gE (by rw[←HN.out];exact hlt)⟩;obtain ⟨sq,scap,uA,uc,O,_,hsq,d0,d1,d2,_⟩:=zaM.at_ (J.out.step (T':=T) (Chg.of (fun _=>False) o) (fun _ _=>id) fun _ _=>rfl) P;injection O with hv1 hv2 hv3
   subst hv1 hv3;clear hv2;have e5:(0:Int)≤(k:Int):=by omega
   have e6:(k:Int)<(n:Int):=by omega
   have C:Sec.all (S.take (k+1))=Sec.all (S.take k)++[.int .i64 s.bidder,.int .i64 s.held]:=by
    have:S[k]? =some ⟨s.bidder,s.held⟩:=by rw[r.out];simp[zc2,P]
    rw[za4 this,←Sec.all_app]
   obtain ⟨Q,hsb⟩:=nm (s.bidder);obtain ⟨R,hsh⟩:=nm (s.held);obtain ⟨un,hun⟩:=nm (s.offers.length);rw[←hsb] at d0 C;rw[←hun] at d1;rw[←hsh] at d2 C;have HTK:=hid C;have Y:=hid f;have HB:=hid o;have y:=hid o.size;clear hsb hsh hun P C f o;have hwr:IntKind.i64.wrap ((k:Int)+1)=(k:Int)+1:=iW _ (by omega);have E:=hid ((Y.out.grow (bR.alloc lR (.cells #[Q,.slice uA un uc,R] 188))).grow (bR.alloc lR (.cells #[Q,R] 329)))
   go_wp2_with (at_builtin;go_must (refine zby _ (.tmp 19) (.tmp 25) rfl ztE rfl (.slice U k c') k (Sec.all (S.take k)) rfl E.out (.slice (some ⟨wr.heap.size+1,0,none⟩) 1 1) 1 [.int .i64 Q,.int .i64 R] rfl (Sl.lit1 (Blk.new' 329 #[Q,R] (by simp)) rfl) (by simp[Value.oneCell']) (by omega) (by unfold maxLen;omega) ?_);intro A3 c3 Z hrZ hcZ;have HRZ:=hid hrZ;have HCZ:=hid hcZ;clear hrZ hcZ)
   go_roundw
   case rel=>
    refine ⟨k+1,A3,c3,by omega,by go_num,rfl,?_,?_⟩
    ·rw[HTK.out];refine HRZ.out.mono fun b _ o=>o.elim id fun e=>?_;rw[e];have:=y.out
     simp
     omega
    ·refine ((HB.out.alloc y.out (.cells #[Q,.slice uA un uc,R] 188)).alloc (by simp;have:=y.out;omega) (.cells #[Q,R] 329)).trans (HCZ.out.below (by have:=y.out;simp;omega) fun b o e=>?_);have:=E.out.blk b e
     omega
   case measure=>simp[intOf];omega
  ·obtain rfl:k=n:=by omega
   have F:S.take k=S:=List.take_of_length_le (by have:=aa.out;omega);rw[F] at f;have Y:=hid f;have HB:=hid o;have a:=D.out.grow o;have l7:wr.cell? ⟨b,7,none⟩=some ↑l.put.floor:=a.cell 7;have l14:wr.cell? ⟨b,14,none⟩=some (.slice sA k sc):=a.cell 14;have lb2:=a.lt;have V:=hid a;obtain ⟨fl,N⟩:=nm (l.put.floor);rw[←N] at l7;have q:=hid N;have m:zer wr (fun x=>W.heap.size≤x) (.slice U k c') S:=⟨by have:=f.sl;rw[←aa.out] at this ⊢;exact this,fun s P=>by
    rw[r.out] at P;obtain ⟨x,hx,rfl⟩:=List.mem_map.1 P;have:=HWF.out x hx;unfold zah at this;unfold Sec.wf;simp only
    omega⟩
   have HSEC:=hid m;have HEE:=hid (zrN fl S _ _ wr m);clear f o a m F N e4 hlt hk;go_wp2_with fail
   refine HEE.out.mono ?_;rintro e W2 ⟨rfl,M⟩;have G:=hid (HB.out.trans (M.mono HB.out.size));have a:=V.out.grow M;have X:=hid a;have f19:=a.frozen 19;have c19:W2.cell? ⟨b,19,none⟩=some ↑l.price:=a.cell 19;have lb3:=a.lt;clear M a l7 l14
   cases hso:zbX fl l.stands with
   |none=>
    have hv:zdb fl S=.agg #[false,(),(),()]:=by rw[r.out];exact zp4 hso
    have g:zc1 l=l:=by unfold zc1;rw[←q.out,hso]
    have h:zb0 l=[]:=by unfold zb0;rw[←q.out,hso]
    have H:=hid g;have I:=hid h;rw[hv];clear hv g h hso;go_wp2_with fail
    go_ret;have hbe:=G.out.alloc G.out.size (.cells #[false,(),(),()] 331);rw[H.out,I.out];exact ⟨none,0,rfl,Sl.none0 _ _ _,(show za2 W T j b l from ⟨_,K.out,D.out,J.out⟩).step (Chg.of (fun _=>False) hbe) (fun _ _=>id) fun _ _=>rfl,Chg.of _ hbe⟩
   |some wp=>
    obtain ⟨w,p⟩:=wp;obtain ⟨co,hv⟩:∃c,zdb fl S=.agg #[true,w,(c:Int),p]:=by rw[r.out];exact zp5 hso
    have g:zc1 l={l with price:=p}:=by unfold zc1;rw[←q.out,hso]
    have h:zb0 l=[zem w p]:=by unfold zb0;rw[←q.out,hso]
    have H:=hid g;have I:=hid h;rw[hv];clear hv g h hso;go_wp2_with fail
    obtain ⟨V1,z⟩:=nm ((W2.setCell ⟨b,19,none⟩ ↑p).alloc (.cells #[true,w,co,p] 331));have hsz:W2.heap.size+1=V1.heap.size:=by rw[z];simp[World.setCell]
    rw[hsz,←z];have hc1:Chg (·=b) W V1:=by
     rw[z];exact ((Chg.of _ G.out).step (Chg.set W2 ⟨b,19,none⟩ _) (fun x _ e=>e)).grow (qA _)
    have hk1:Ac.Blk V1 b 145 (({l with price:=p}:LotS).cells (.slice sA k sc)).toArray:=by
     rw[z];exact (X.out.set_ 19 _).alloc _
    have hle:W.heap.size≤V1.heap.size:=hc1.size;go_ret;rw[H.out,I.out];have hcV:=hc1.grow (bR.alloc lR (.cells (zem w p).cells.toArray 151));exact ⟨_,_,rfl,(Sl.new V1 (zem w p).cells.toArray 151 1 7 (by unfold maxLen;omega) rfl).mono (fun x _ e=>e▸hle),⟨_,K.out,hk1.alloc _,J.out.stepB K.out hcV⟩,hcV⟩
end Ho
end Go.Proofs.YtckdpejdnejhfaaGreat

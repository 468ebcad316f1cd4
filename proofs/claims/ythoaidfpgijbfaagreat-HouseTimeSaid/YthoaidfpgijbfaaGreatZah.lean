/- Joined by program. -/
import Derived.Test.YthoaidfpgijbfaaGreatZu
import Derived.Test.YthoaidfpgijbfaaGreatZs
import Derived.Deep.WholeRow
set_option linter.all false
set_option maxRecDepth 100000
set_option maxHeartbeats 32000000
namespace Go.Proofs.YthoaidfpgijbfaaGreat
open Lib (hid)
namespace Ho
open Go.RowKit Vb Ac
theorem ziR (ss:List OrderR) (vo:Nat→Value) (s:∀u∈zaI ss vo,u.oneCell'=true) (v:Value) (R:Nat→Prop) (w:World) (i:Sl w R v ss.length 18 (zaI ss vo)) (o:ss.length≤1000000):
  Calls Tryz.prog 57 #[v] w fun e w'=>∃A' cap',e=.returned (.slice A' ss.length cap')∧RowAt w' (fun b=>w.heap.size≤b) 36 18 (.slice A' ss.length cap') ss.length (zaI ss vo)∧Below w w w':=by
 obtain ⟨q,k⟩:=nm (zaI ss vo);obtain ⟨n,l⟩:=nm (ss.length);rw[←k] at i s ⊢;rw[←l] at i o ⊢;obtain ⟨g,A,m,rfl,p,t,f⟩:=id i;have r:=hid i;clear i f k l;have E:=fun (W:World) (a:Option Addr)=>Lib.run_eql_slice_nil (P:=Tryz.prog) W 22 36 a n m 0 0 Tryz.underlying22
 cases A with
 |none=>
  have l:n=0:=by
   obtain ⟨_,A,c,h,_,_,y⟩:=r.out;injection h with hA _ _
   subst hA
   rcases Nat.eq_zero_or_pos n with h0|h0
   ·exact h0
   ·obtain ⟨b,C,h,_⟩:=y h0
    cases h
  subst l;have B:q=[]:=List.eq_nil_of_length_eq_zero (by simpa using g);subst B;go_enter Tryz.func57,Tryz.ntmps57
  go_wp2
  go_ret;exact ⟨none,0,rfl,RowAt.nil,bR⟩
 |some ad=>
  clear g;go_enter Tryz.func57,Tryz.ntmps57
  go_wp2_with (at_builtin;refine zbF _ rfl (.tmp 5) (.tmp 6) znC rfl w.heap.size (.slice (some ⟨w,0,none⟩) 0 0) 0 [] rfl (World.ownsRow_lit w #[] 0 lR (zL) rfl) R _ n q rfl (r.out.alloc _) s (by omega) (by unfold maxLen;omega) (by simp) ?_;intro A' cap' D j z x)
  go_ret;have d:D.ownsRow w.heap.size 36 18 (.slice A' n cap') n q:=by simpa using j
  refine ⟨A',cap',by simp,⟨zbI d (zL),fun b o=>(d.lt b o).1⟩,(qA _).grown z (by simp) (by simp[Value.ownBlock])⟩
end Ho
namespace Ac
open Go.RowKit Vb
variable {F:Fence} {n:Nat} {P:Program}
end Ac
namespace Ho
open Go.RowKit Go.Shelf Vb Ac
attribute [local go_sem] Oper.semAt_some
theorem zdJ {W:World} {R:Nat→Prop} {v:Value} {l:List Off} (h:zae W R v l):∃A c,v=.slice A l.length c:=by
 obtain ⟨⟨_,A,c,rfl,_⟩,_⟩:=h;exact ⟨A,c,rfl⟩
theorem zg1 {os:List OrderR} {vo:Nat→Value} (h:∀k o,os[k]? =some o→∃A c,vo k=.slice A o.offers.length c):∀u∈zaI os vo,u.oneCell'=true:=by
 intro u b;unfold zaI at b;obtain ⟨y,f,a⟩:=List.mem_flatten.1 b;obtain ⟨k,d,rfl⟩:=List.mem_mapIdx.1 f;obtain ⟨A,c,e⟩:=h k os[k] (by simp[d]);rw[e] at a;unfold OrderR.cells at a
 simp at a
 rcases a with rfl|rfl|rfl|rfl|rfl|rfl|rfl|rfl|rfl|rfl|rfl|rfl|rfl|rfl|rfl|rfl|rfl|rfl<;>rfl
structure BKAt (W:World) (T:Nat→Part) (lo gl:Nat) (v:Value) (vo:Nat→Value) (os:List OrderR):Prop where
 box:Ac.Blk W gl 22 #[v]
 row:RowAt W (fun b=>lo≤b) 36 18 v os.length (zaI os vo)
 offs:∀k o,os[k]? =some o→zae W (fun b=>T b=.old∧b<lo) (vo k) o.offers
 lo:lo≤W.heap.size
section
variable {W W':World} {T:Nat→Part} {lo gl:Nat} {v:Value} {vo:Nat→Value} {os:List OrderR}
end
end Ho
namespace Ac
open Go.RowKit Vb
variable {F:Fence} {n:Nat} {P:Program}
end Ac
namespace Ho
open Go.RowKit Go.Shelf Vb Ac
attribute [local go_sem] Oper.semAt_some
end Ho
namespace Ho
open Go.RowKit Vb Ac
def zqK (W:World) (v:Value) (os:List OrderR):Prop:=∃vo,Sl W (fun b=>b<W.heap.size) v os.length 18 (zaI os vo)∧∀k o,os[k]? =some o→zae W (fun b=>b<W.heap.size) (vo k) o.offers
end Ho
end Go.Proofs.YthoaidfpgijbfaaGreat

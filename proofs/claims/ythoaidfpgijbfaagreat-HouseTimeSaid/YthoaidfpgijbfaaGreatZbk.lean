/- Joined by program. -/
import Derived.Test.YthoaidfpgijbfaaGreatZbc
set_option linter.all false
set_option maxRecDepth 100000
set_option maxHeartbeats 32000000
namespace Go.Proofs.YthoaidfpgijbfaaGreat
namespace Ho
open Go.RowKit Go.WideShapes Go.ChangeShapes Go.ChangeAt Go.Joins Go.Deep Vb
theorem zvb {H:Type} {enc:TypeId×Value→H} {w:World} {base:Nat} {held:Bool} {r:Reach} {a:Nat} {v:Value} {d:DataW H} {p:List MemPlace}
  (g:Value.okWide Tryz.prog w r a 58 v) (h:DataW.Trod enc Tryz.prog w base (fun _=>true) held 58 v d p):∃f l:Int,v=.agg #[f,l]:=by
 obtain ⟨i,j,o,q,k,rfl,_,_,b,c⟩:=open_agg2 Tryz.underlying58 (by kernel_rfl) (by kernel_rfl) g h;obtain ⟨n,e,_,_⟩:=DataW.trod_int Tryz.underlying2 b
 simp at e
 subst e;obtain ⟨m,e,_,_⟩:=DataW.trod_int Tryz.underlying2 c
 simp at e
 subst e;exact ⟨n,m,rfl⟩
end Ho
end Go.Proofs.YthoaidfpgijbfaaGreat

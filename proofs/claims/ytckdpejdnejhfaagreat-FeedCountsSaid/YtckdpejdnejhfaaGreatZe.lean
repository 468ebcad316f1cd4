/- Joined by program. -/
import Derived.Test.YtckdpejdnejhfaaGreatZb
set_option linter.all false
namespace Go.Proofs.YtckdpejdnejhfaaGreat
namespace Vb
open Go
section
variable {P:Program} {ops:Array Oper} {Q:Exit→Act→World→Prop} {md:Region.Mode} {S:World→Prop} {fins:List Nat}
theorem zdv (i:Nat) {e:Oper} {os:List Oper} {fuel:Nat} {d:Array Bool} {a b:Act} {w:World} (f:S w) (h:zat P md ops Q S fins fuel (d.setIfInBounds i true) b w) (g:ops.toList.drop i=e::os:=by rfl)
  (hs:Region.noSelect ops=true:=by kernel_rfl) (hf:Region.free md ops d i=true:=by kernel_rfl) (hr:(Region.ready md ops d).contains i=true:=by kernel_rfl) (hfin:zfT md ops fins i=true:=by kernel_rfl)
  (hQ:∀c a w,Q (.panic c) (a.put e.dst undef) w→Q (.panic c) a w:=by exact fun _ _ _ h=>h) (hw:Region.wanted e (yielded ops a.tmps)=false:=by rfl)
  (hb:a.put e.dst undef=b:=by first|(simp only[Act.put,pb,pz,ps];done)|(simp only[Act.put,pb,pz,ps];rfl)|rfl):zat P md ops Q S fins (fuel+1) d a w:=
 zd9 (drop_at g) hs hf hr hfin hQ (.inr ⟨hw,rfl⟩) f (hb▸h)
end
end Vb
end Go.Proofs.YtckdpejdnejhfaaGreat

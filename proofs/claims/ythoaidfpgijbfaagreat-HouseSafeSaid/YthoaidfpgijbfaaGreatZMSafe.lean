/- HouseSafe answers true for every input, and what was handed in reads as it did. No condition. -/
import Derived.Test.YthoaidfpgijbfaaGreatZbc
import Derived.Test.YthoaidfpgijbfaaGreatZbj
import Derived.Test.YthoaidfpgijbfaaGreatZbm
import Derived.Test.YthoaidfpgijbfaaGreatZaj
set_option linter.all false
set_option maxRecDepth 100000
set_option maxHeartbeats 32000000
namespace Go.Proofs.YthoaidfpgijbfaaGreat
section
open Go.RowKit Go.WideShapes Go.ChangeShapes Go.ChangeAt Go.Joins Go.Deep
theorem houseSafe_lifted (os:Os) (b:os.Started) (H:Type) (enc:TypeId×Value→H):
  ReturnsInHanded {} Tryz.checked os 3 .any (Rows.houseSafeSpec.pre6 enc Tryz.prog Tryz.f3 Rows.houseSafeRow.domain false) (Rows.houseSafeSpec.post enc Tryz.prog Tryz.f3 false true false false):=by
 refine returnsInHanded_of_change (C:=Tryz.checked) Vb.own b (by kernel_rfl) Tryz.func3
  (ChangeSpec.witness6 (enc:=enc) (C:=Tryz.checked) false ⟨#[],#[.slice none 0 0],[]⟩ 8 (by kernel_rfl) (by kernel_rfl) (by kernel_rfl) (by kernel_rfl)) ?_
 intro W f c n D i a m _ _;have d:∀(j:Nat) t v,Tryz.f3.params[j]? =some t→c[j]? =some v→Value.okWide Tryz.prog W .any f t v:=a;have k:=m;obtain ⟨p,q,g,r,rfl,_,_⟩:=m;have l:DataW.TrodAll enc Tryz.prog W 0 (fun _=>true) true Tryz.f3.params.toList c.toList n p:=g;rw[Tryz.params3] at l d;obtain ⟨z,B,rfl,rfl,o⟩:=trodAll_one l;obtain ⟨rfl,rfl⟩:=trodVars_none r;obtain ⟨y,h⟩:=Ho.zhd o (okWide_slice Tryz.underlying22 (d 0 _ z rfl rfl));clear g a;refine (Ho.zl7 h).mono fun e A ⟨x,s⟩=>?_;subst x;exact ⟨_,rfl,Vb.zke Vb.kids Vb.full (by rw[Tryz.params3];decide) rfl Tryz.underlying4 (by kernel_rfl) k rfl s⟩
theorem houseSafe_holds:Rows.HouseSafeSaid:=
 OpenClaim.holds_of_wide 3 Tryz.f3 rfl rfl rfl rfl rfl rfl rfl ⟨rfl,rfl,rfl,rfl,rfl⟩ rfl rfl rfl rfl rfl (by kernel_rfl) Tryz.func3 Ho.zq9
  (of_decide_eq_true (by kernel_rfl)) (by unfold Func.isWrapper;first|(rw[if_pos (by decide+kernel)];kernel_rfl)|(rw[if_neg (by decide+kernel)];exact ⟨rfl,rfl⟩))
  (fun os started H enc _=>houseSafe_lifted os started H enc)
end
end Go.Proofs.YthoaidfpgijbfaaGreat

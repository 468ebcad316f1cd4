/- HouseTime answers true for every input, and what was handed in reads as it did. No condition. -/
import Derived.Test.YthoaidfpgijbfaaGreatZbk
import Derived.Test.YthoaidfpgijbfaaGreatZbh
import Derived.Test.YthoaidfpgijbfaaGreatZbl
import Derived.Test.YthoaidfpgijbfaaGreatZaj
set_option linter.all false
set_option maxRecDepth 100000
set_option maxHeartbeats 32000000
namespace Go.Proofs.YthoaidfpgijbfaaGreat
section
open Go.RowKit Go.WideShapes Go.ChangeShapes Go.ChangeAt Go.Joins Go.Deep
theorem houseTime_lifted (os:Os) (c:os.Started) (H:Type) (enc:TypeId×Value→H):
  ReturnsInHanded {} Tryz.checked os 5 .any (Rows.houseTimeSpec.pre6 enc Tryz.prog Tryz.f5 Rows.houseTimeRow.domain false) (Rows.houseTimeSpec.post enc Tryz.prog Tryz.f5 false true false false):=by
 refine returnsInHanded_of_change (C:=Tryz.checked) Vb.own c (by kernel_rfl) Tryz.func5
  (ChangeSpec.witness6 (enc:=enc) (C:=Tryz.checked) false ⟨#[],#[.slice none 0 0,.agg #[(),()]],[]⟩ 8 (by kernel_rfl) (by kernel_rfl) (by kernel_rfl) (by kernel_rfl)) ?_
 intro W f d n I i b m _ _;have a:∀(j:Nat) t v,Tryz.f5.params[j]? =some t→d[j]? =some v→Value.okWide Tryz.prog W .any f t v:=b;have k:=m;obtain ⟨p,q,g,s,rfl,_,_⟩:=m;have l:DataW.TrodAll enc Tryz.prog W 0 (fun _=>true) true Tryz.f5.params.toList d.toList n p:=g;rw[Tryz.params5] at l a;obtain ⟨A,B,E,F,K,L,rfl,rfl,rfl,o,r⟩:=trodAll_two l;obtain ⟨rfl,rfl⟩:=trodVars_none s;obtain ⟨z,h⟩:=Ho.zhd o (okWide_slice Tryz.underlying22 (a 0 _ A rfl rfl));obtain ⟨G,J,rfl⟩:=Ho.zvb (a 1 _ B rfl rfl) r;clear g b;refine (Ho.zl6 h).mono fun e D ⟨y,x⟩=>?_;subst y;exact ⟨_,rfl,Vb.zke Vb.kids Vb.full (by rw[Tryz.params5];decide) rfl Tryz.underlying4 (by kernel_rfl) k rfl x⟩
theorem houseTime_holds:Rows.HouseTimeSaid:=
 OpenClaim.holds_of_wide 5 Tryz.f5 rfl rfl rfl rfl rfl rfl rfl ⟨rfl,rfl,rfl,rfl,rfl⟩ rfl rfl rfl rfl rfl (by kernel_rfl) Tryz.func5 Ho.zq8
  (of_decide_eq_true (by kernel_rfl)) (by unfold Func.isWrapper;first|(rw[if_pos (by decide+kernel)];kernel_rfl)|(rw[if_neg (by decide+kernel)];exact ⟨rfl,rfl⟩))
  (fun os started H enc _=>houseTime_lifted os started H enc)
end
end Go.Proofs.YthoaidfpgijbfaaGreat

/- HouseBook answers true for every input, and what was handed in reads as it did. No condition. -/
import Derived.Test.YthoaidfpgijbfaaGreatZbc
import Derived.Test.YthoaidfpgijbfaaGreatZbb
import Derived.Test.YthoaidfpgijbfaaGreatZaj
import Derived.Test.YthoaidfpgijbfaaGreatZak
set_option linter.all false
set_option maxRecDepth 100000
set_option maxHeartbeats 32000000
namespace Go.Proofs.YthoaidfpgijbfaaGreat
section
open Go.RowKit Go.WideShapes Go.ChangeShapes Go.ChangeAt Go.Joins Go.Deep
theorem houseBook_lifted (os:Os) (c:os.Started) (H:Type) (enc:TypeId×Value→H):
  ReturnsInHanded {} Tryz.checked os 6 .any (Rows.houseBookSpec.pre6 enc Tryz.prog Tryz.f6 Rows.houseBookRow.domain false) (Rows.houseBookSpec.post enc Tryz.prog Tryz.f6 false true false false):=by
 refine returnsInHanded_of_change (C:=Tryz.checked) Vb.own c (by kernel_rfl) Tryz.func6
  (ChangeSpec.witness6 (enc:=enc) (C:=Tryz.checked) false ⟨#[],#[.slice none 0 0,.agg #[(),.string {data:=#[]},(),(),(),(),(),(),(),(),(),(),(),(),(),(),.slice none 0 0,()]],[]⟩ 8 (by kernel_rfl) (by kernel_rfl) (by kernel_rfl) (by kernel_rfl)) ?_
 intro W f d o K i b n _ _;have a:∀(j:Nat) t v,Tryz.f6.params[j]? =some t→d[j]? =some v→Value.okWide Tryz.prog W .any f t v:=b;have k:=n;obtain ⟨p,q,g,x,rfl,_,_⟩:=n;have m:DataW.TrodAll enc Tryz.prog W 0 (fun _=>true) true Tryz.f6.params.toList d.toList o p:=g;rw[Tryz.params6] at m a;obtain ⟨E,F,I,J,M,N,rfl,rfl,rfl,r,s⟩:=trodAll_two m;obtain ⟨rfl,rfl⟩:=trodVars_none x;obtain ⟨D,h⟩:=Ho.zhd r (okWide_slice Tryz.underlying22 (a 0 _ E rfl rfl));obtain ⟨L,A,B,rfl,l⟩:=Ho.zs8 (a 1 _ F rfl rfl) s;clear g b;refine (Ho.zl3 h l).mono fun e G ⟨z,y⟩=>?_;subst z;exact ⟨_,rfl,Vb.zke Vb.kids Vb.full (by rw[Tryz.params6];decide) rfl Tryz.underlying4 (by kernel_rfl) k rfl y⟩
theorem houseBook_holds:Rows.HouseBookSaid:=
 OpenClaim.holds_of_wide 6 Tryz.f6 rfl rfl rfl rfl rfl rfl rfl ⟨rfl,rfl,rfl,rfl,rfl⟩ rfl rfl rfl rfl rfl (by kernel_rfl) Tryz.func6 Ho.book_facts
  (of_decide_eq_true (by kernel_rfl)) (by unfold Func.isWrapper;first|(rw[if_pos (by decide+kernel)];kernel_rfl)|(rw[if_neg (by decide+kernel)];exact ⟨rfl,rfl⟩))
  (fun os started H enc _=>houseBook_lifted os started H enc)
end
end Go.Proofs.YthoaidfpgijbfaaGreat

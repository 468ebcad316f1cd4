/- FeedCounts answers true for every input, and what was handed in reads as it did. No condition. -/
import Derived.Test.YtckdpejdnejhfaaGreatZal
import Derived.Test.YtckdpejdnejhfaaGreatZam
import Derived.Test.YtckdpejdnejhfaaGreatZan
import Derived.Test.YtckdpejdnejhfaaGreatZao
set_option linter.all false
set_option maxRecDepth 100000
set_option maxHeartbeats 32000000
namespace Go.Proofs.YtckdpejdnejhfaaGreat
section
open Go.RowKit Go.WideShapes Go.ChangeShapes Go.ChangeAt Go.Joins Go.Deep
theorem feedCounts_lifted (os:Os) (c:os.Started) (H:Type) (enc:TypeId×Value→H):
  ReturnsInHanded Rows.feedCountsRow.assume Tryz.checked os 4 .any (Rows.feedCountsSpec.pre6 enc Tryz.prog Tryz.f4 Rows.feedCountsRow.domain false) (Rows.feedCountsSpec.post enc Tryz.prog Tryz.f4 false true false false):=by
 refine returnsInHanded_of_change (C:=Tryz.checked) Vb.own c (by kernel_rfl) Tryz.func4
  (ChangeSpec.witness6 (enc:=enc) (C:=Tryz.checked) false ⟨#[],#[.slice none 0 0,(),.slice none 0 0],[]⟩ 8 (by kernel_rfl) (by kernel_rfl) (by kernel_rfl) (by kernel_rfl)) ?_
 intro W f d o P i b n _ _;have a:∀(j:Nat) t v,Tryz.f4.params[j]? =some t→d[j]? =some v→Value.okWide Tryz.prog W .any f t v:=b;have k:=n;obtain ⟨p,q,g,y,rfl,_,_⟩:=n;have m:DataW.TrodAll enc Tryz.prog W 0 (fun _=>true) true Tryz.f4.params.toList d.toList o p:=g;rw[Tryz.params4] at m a;obtain ⟨E,F,G,M,N,O,R,S,T,rfl,rfl,rfl,r,s,x⟩:=trodAll_three m;obtain ⟨rfl,rfl⟩:=trodVars_none y;obtain ⟨B,h⟩:=Ho.zmI r (okWide_slice Tryz.underlying46 (a 0 _ E rfl rfl));obtain ⟨D,rfl,rfl,rfl,I⟩:=open_int Tryz.underlying3 (a 1 _ F rfl rfl) s;obtain ⟨J,L,Q,rfl,l⟩:=Fd.open_takes (a 2 _ G rfl rfl) x;clear g b;refine (Fd.feedCounts_open h D l).mono fun e K ⟨A,z⟩=>?_;subst A;exact ⟨_,rfl,Vb.zrE Vb.kids Vb.full (by rw[Tryz.params4];decide) rfl Tryz.underlying4 (by kernel_rfl) k rfl z⟩
theorem feedCounts_holds:Rows.FeedCountsSaid:=
 OpenClaim.holds_of_wide_leaving 4 Tryz.f4 rfl rfl rfl rfl rfl rfl rfl ⟨rfl,rfl,rfl,rfl,rfl⟩ rfl rfl rfl rfl rfl (by kernel_rfl) Tryz.func4 Fd.counts_facts
  (of_decide_eq_true (by kernel_rfl)) (by unfold Func.isWrapper;first|(rw[if_pos (by decide+kernel)];kernel_rfl)|(rw[if_neg (by decide+kernel)];exact ⟨rfl,rfl⟩))
  (fun os started H enc _=>On.leaving_of_handed (feedCounts_lifted os started H enc))
end
end Go.Proofs.YtckdpejdnejhfaaGreat

/- CoreAsks answers true for every instance, payments and buyer, and what was handed in reads as it did. No condition. -/
import Derived.Test.YtcigobiolbojhaaZa
import Derived.Test.YtcigobiolbojhaaZd
import Derived.Test.YtcigobiolbojhaaZl
namespace Go.Proofs.Ytcigobiolbojhaa
open Go.RowKit Go.WideShapes Go.ChangeShapes Go.ChangeAt Go.Joins Go.Deep

set_option maxRecDepth 100000 in
set_option maxHeartbeats 1600000 in
theorem coreAsks_lifted (os : Os) (started : os.Started) (H : Type) (enc : TypeId × Value → H) :
    ReturnsInHanded {} Try.checked os 10 .any (Rows.coreAsksSpec.pre6 enc Try.prog Try.f10 Rows.coreAsksRow.domain false) (Rows.coreAsksSpec.post enc Try.prog Try.f10 false true false false) := by
  refine returnsInHanded_of_change (C := Try.checked) Vb.own started (by kernel_rfl) Try.func10
    (ChangeSpec.witness6 (enc := enc) (C := Try.checked) false ⟨#[], #[.agg #[.int .i64 0, .slice none 0 0], .slice none 0 0, .int .i64 0], []⟩ 8 (by kernel_rfl) (by kernel_rfl) (by kernel_rfl) (by kernel_rfl)) ?_
  intro W base args ds gs before hval0 hW _ _
  have hval : ∀ (j : Nat) t v, Try.f10.params[j]? = some t → args[j]? = some v → Value.okWide Try.prog W .any base t v := hval0
  have hW' := hW
  obtain ⟨p, q, hA0, hV, rfl, _, _⟩ := hW
  have hA : DataW.TrodAll enc Try.prog W 0 (fun _ => true) true Try.f10.params.toList args.toList ds p := hA0
  rw [Try.params10] at hA hval
  obtain ⟨v0, v1, v2, d0, d1, d2, p0, p1, p2, rfl, rfl, rfl, h0, h1, h2⟩ := trodAll_three hA
  obtain ⟨rfl, rfl⟩ := trodVars_none hV
  obtain ⟨n0, vb0, bs0, rfl, _, _, hbs0⟩ := Vb.open_inst (hval 0 _ v0 rfl rfl) h0
  obtain ⟨ls1, hls1, hbd1⟩ := Vb.open_ints Try.underlying34 (by kernel_rfl) Try.underlying2 (hval 1 _ v1 rfl rfl) h1
  obtain ⟨t2, rfl, rfl, rfl, wt2⟩ := open_int Try.underlying3 (hval 2 _ v2 rfl rfl) h2
  clear hA0 hval0
  refine (Vb.asks18_walk n0 bs0 vb0 _ ls1 v1 _ t2 W hbs0 hls1).mono fun e W' ⟨he, hb⟩ => ?_
  subst he
  exact ⟨_, rfl, Vb.post_law Vb.kids Vb.full (by rw [Try.params10]; decide) rfl Try.underlying4 (by kernel_rfl) hW' rfl hb⟩

theorem coreAsks_holds : Rows.CoreAsksSaid :=
  OpenClaim.holds_of_wide 10 Try.f10 rfl rfl rfl rfl rfl rfl rfl ⟨rfl, rfl, rfl, rfl, rfl⟩ rfl rfl rfl rfl rfl (by kernel_rfl) Try.func10 (by kernel_rfl)
    (of_decide_eq_true (by kernel_rfl)) (by unfold Func.isWrapper; first | (rw [if_pos (by decide +kernel)]; kernel_rfl) | (rw [if_neg (by decide +kernel)]; exact ⟨rfl, rfl⟩))
    (fun os started H enc _ => coreAsks_lifted os started H enc)
end Go.Proofs.Ytcigobiolbojhaa

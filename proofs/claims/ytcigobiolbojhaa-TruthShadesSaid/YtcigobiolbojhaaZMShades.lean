/- TruthShades answers true for every offers, coins, goods and payment, and what was handed in reads as it did. No condition. -/
import Derived.Test.YtcigobiolbojhaaZa
import Derived.Test.YtcigobiolbojhaaZd
import Derived.Test.YtcigobiolbojhaaZk
namespace Go.Proofs.Ytcigobiolbojhaa
open Go.RowKit Go.WideShapes Go.ChangeShapes Go.ChangeAt Go.Joins Go.Deep

set_option maxRecDepth 100000 in
set_option maxHeartbeats 1600000 in
theorem truthShades_lifted (os : Os) (started : os.Started) (H : Type) (enc : TypeId × Value → H) :
    ReturnsInHanded {} Try.checked os 11 .any (Rows.truthShadesSpec.pre6 enc Try.prog Try.f11 Rows.truthShadesRow.domain false) (Rows.truthShadesSpec.post enc Try.prog Try.f11 false true false false) := by
  refine returnsInHanded_of_change (C := Try.checked) Vb.own started (by kernel_rfl) Try.func11
    (ChangeSpec.witness6 (enc := enc) (C := Try.checked) false ⟨#[], #[.agg #[.slice none 0 0, .slice none 0 0, .int .u32 0, .int .i64 0]], []⟩ 8 (by kernel_rfl) (by kernel_rfl) (by kernel_rfl) (by kernel_rfl)) ?_
  intro W base args ds gs before hval0 hW _ _
  have hval : ∀ (j : Nat) t v, Try.f11.params[j]? = some t → args[j]? = some v → Value.okWide Try.prog W .any base t v := hval0
  have hW' := hW
  obtain ⟨p, q, hA0, hV, rfl, _, _⟩ := hW
  have hA : DataW.TrodAll enc Try.prog W 0 (fun _ => true) true Try.f11.params.toList args.toList ds p := hA0
  rw [Try.params11] at hA hval
  obtain ⟨v0, d0, rfl, rfl, h0⟩ := trodAll_one hA
  obtain ⟨rfl, rfl⟩ := trodVars_none hV
  obtain ⟨l0, bs0, g0, p0, vl0, vb0, rfl, hl0, hb0, hbd0, hg0⟩ := Vb.open_low (hval 0 _ v0 rfl rfl) h0
  clear hA0 hval0
  refine (Vb.truthShades_walk l0 bs0 g0 p0 vl0 vb0 _ _ W hl0 hb0 hbd0 hg0).mono fun e W' ⟨he, hb⟩ => ?_
  subst he
  exact ⟨_, rfl, Vb.post_law Vb.kids Vb.full (by rw [Try.params11]; decide) rfl Try.underlying4 (by kernel_rfl) hW' rfl hb⟩

theorem truthShades_holds : Rows.TruthShadesSaid :=
  OpenClaim.holds_of_wide 11 Try.f11 rfl rfl rfl rfl rfl rfl rfl ⟨rfl, rfl, rfl, rfl, rfl⟩ rfl rfl rfl rfl rfl (by kernel_rfl) Try.func11 (by kernel_rfl)
    (of_decide_eq_true (by kernel_rfl)) (by unfold Func.isWrapper; first | (rw [if_pos (by decide +kernel)]; kernel_rfl) | (rw [if_neg (by decide +kernel)]; exact ⟨rfl, rfl⟩))
    (fun os started H enc _ => truthShades_lifted os started H enc)
end Go.Proofs.Ytcigobiolbojhaa

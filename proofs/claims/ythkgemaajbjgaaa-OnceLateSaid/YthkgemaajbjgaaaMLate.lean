/- OnceLate answers true for every input, and what was handed in reads as it did. -/
import Derived.Test.YthkgemaajbjgaaaLawA
import Derived.Test.YthkgemaajbjgaaaOnZ
import Derived.Test.YthkgemaajbjgaaaOnN
namespace Go.Proofs.Ythkgemaajbjgaaa
open Go.RowKit Go.WideShapes Go.ChangeShapes Go.ChangeAt Go.Joins Go.Deep

set_option maxRecDepth 100000 in
set_option maxHeartbeats 1600000 in
theorem onceLate_lifted (os : Os) (started : os.Started) (H : Type) (enc : TypeId × Value → H) (F : Stop.Interp) :
    ReturnsInLeavingWide Rows.onceLateRow.assume Try.checked os 3 .any (Rows.onceLateSpec.pre6 enc Try.prog Try.f3 Rows.onceLateRow.domain false) ((OpenSpec.ofChange Rows.onceLateSpec).postWith enc Try.prog Try.f3 F (outsideKept [.timePasses]) false true false) := by
  refine On.returnsLeavingTime_of_change (C := Try.checked) Vb.own started (by kernel_rfl) Try.func3
    (ChangeSpec.witness6c (enc := enc) (C := Try.checked) ⟨#[], #[.int .i64 0, .bool false, .int .i64 0], []⟩ 8 (by kernel_rfl) (by kernel_rfl) (by kernel_rfl) (by kernel_rfl)) ?_
  intro W base args ds gs before hval0 hW _ _
  have hval : ∀ (j : Nat) t v, Try.f3.params[j]? = some t → args[j]? = some v → Value.okWide Try.prog W .any base t v := hval0
  have hW' := hW
  obtain ⟨p, q, hA0, hV, rfl, _, _⟩ := hW
  have hA : DataW.TrodAll enc Try.prog W 0 (fun _ => true) true Try.f3.params.toList args.toList ds p := hA0
  rw [Try.params3] at hA hval
  obtain ⟨v0, v1, v2, d0, d1, d2, p0, p1, p2, rfl, rfl, rfl, h0, h1, h2⟩ := trodAll_three hA
  obtain ⟨rfl, rfl⟩ := trodVars_none hV
  obtain ⟨t0, rfl, rfl, rfl, wt0⟩ := open_int Try.underlying2 (hval 0 _ v0 rfl rfl) h0
  obtain ⟨t1, rfl, rfl, rfl⟩ := open_bool Try.underlying4 (hval 1 _ v1 rfl rfl) h1
  obtain ⟨t2, rfl, rfl, rfl, wt2⟩ := open_int Try.underlying3 (hval 2 _ v2 rfl rfl) h2
  clear hA0 hval0
  have hwalk : Calls Try.prog 3 #[.int .i64 t0, .bool t1, .int .i64 t2] W fun e W' => e = .returned (.bool true) ∧ Below W.heap.size W W' := by
    cases t1
    · exact On.late_ok t0 t2 W
    · exact On.late_bad t0 t2 W
  refine hwalk.mono fun e W' ⟨he, hb⟩ => ?_
  subst he
  exact ⟨_, rfl, Vb.post_law Vb.kids Vb.full (by rw [Try.params3]; decide) rfl Try.underlying4 (by kernel_rfl) hW' rfl hb, hb.os⟩

theorem onceLate_holds : Rows.OnceLateSaid :=
  OpenClaim.holds_of_wide_leaving_time 3 Try.f3 rfl rfl rfl rfl rfl rfl rfl ⟨rfl, rfl, rfl, rfl, rfl⟩ rfl rfl rfl rfl rfl (by kernel_rfl) Try.func3 (by kernel_rfl)
    (of_decide_eq_true (by kernel_rfl)) (by unfold Func.isWrapper; first | (rw [if_pos (by decide +kernel)]; kernel_rfl) | (rw [if_neg (by decide +kernel)]; exact ⟨rfl, rfl⟩))
    (fun os started H enc _ F => onceLate_lifted os started H enc F)
end Go.Proofs.Ythkgemaajbjgaaa

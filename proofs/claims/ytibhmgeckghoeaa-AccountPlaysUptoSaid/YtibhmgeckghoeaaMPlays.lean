/- AccountPlays answers true for every start and script, and what was handed in reads as it did. Condition: what came in is of bulk at most 1048576 (the statement's own). -/
import Derived.Test.YtibhmgeckghoeaaOpenB
import Derived.Test.YtibhmgeckghoeaaOpenC
import Derived.Test.YtibhmgeckghoeaaAccRh
import Derived.JoinedCond
namespace Go.Proofs.Ytibhmgeckghoeaa
open Go.RowKit Go.WideShapes Go.ChangeShapes Go.ChangeAt Go.Joins Go.Deep

theorem plays_bulk {H : Type} {d0 d1 : DataW H} (h : Rows.uptoSmall H [d0, d1] = true) : Rows.uptoBulk d0 ≤ 1048576 ∧ Rows.uptoBulk d1 ≤ 1048576 := by
  have h' : Rows.uptoBulkAll [d0, d1] ≤ 1048576 := of_decide_eq_true h
  simp only [Rows.uptoBulkAll] at h'
  omega

set_option maxRecDepth 100000 in
set_option maxHeartbeats 1600000 in
theorem accountPlays_lifted (os : Os) (started : os.Started) (H : Type) (enc : TypeId × Value → H) (F : Stop.Interp) :
    ReturnsInHanded {} Try.checked os 4 .any ((Rows.OpenSpec.upto Rows.accountPlaysSpec).pre6 enc Try.prog Try.f4 Rows.accountPlaysUptoRow.domain false) (((Rows.OpenSpec.upto Rows.accountPlaysSpec).at F).post enc Try.prog Try.f4 false true false false) := by
  refine returnsInHanded_of_cond (C := Try.checked) (s := Rows.OpenSpec.upto Rows.accountPlaysSpec) (k := Rows.uptoSmall) rfl Vb.own started (by kernel_rfl) Try.func4
    (OpenSpec.witness (enc := enc) (C := Try.checked) (s := Rows.OpenSpec.upto Rows.accountPlaysSpec) (k := Rows.uptoSmall) rfl false ⟨#[], #[.agg #[.int .i64 0, .int .i64 0, .int .i64 0, .slice none 0 0], .slice none 0 0], []⟩ 8 (by kernel_rfl) (by kernel_rfl) (by kernel_rfl)
      (x := ([.agg [.lit (.int .i64 0), .lit (.int .i64 0), .lit (.int .i64 0), .nil], .nil], [], [])) (by kernel_rfl) rfl (by kernel_rfl)) ?_
  intro W base args ds gs before hval0 hW _ hk _
  have hval : ∀ (j : Nat) t v, Try.f4.params[j]? = some t → args[j]? = some v → Value.okWide Try.prog W .any base t v := hval0
  have hW' := hW
  obtain ⟨p, q, hA0, hV, rfl, _, _⟩ := hW
  have hA : DataW.TrodAll enc Try.prog W 0 (fun _ => true) true Try.f4.params.toList args.toList ds p := hA0
  rw [Try.params4] at hA hval
  obtain ⟨v0, v1, d0, d1, p0, p1, rfl, rfl, rfl, h0, h1⟩ := trodAll_two hA
  obtain ⟨rfl, rfl⟩ := trodVars_none hV
  obtain ⟨one, bud, sp, sl, l, rfl, hl, hb0⟩ := Ac.open_start (hval 0 _ v0 rfl rfl) h0
  obtain ⟨l1, hl1⟩ := Ac.open_steps (hval 1 _ v1 rfl rfl) h1
  have hb1 : l1.length ≤ Rows.uptoBulk d1 := by
    obtain ⟨⟨_, A1, c1, hv1, _⟩, _⟩ := id hl1
    subst hv1
    obtain ⟨fuel, h1⟩ := h1
    exact Ac.slice_bulk Try.underlying35 h1
  have hbk := plays_bulk hk
  clear hA0 hval0
  refine (Ac.accountPlays_walk (one := one) (bud := bud) (sp := sp) hl (by omega) hl1 (by omega)).mono fun e W' ⟨he, hb⟩ => ?_
  subst he
  exact ⟨_, rfl, Vb.post_law (s := Rows.accountPlaysSpec) Vb.kids Vb.full (by rw [Try.params4]; decide) rfl Try.underlying4 (by kernel_rfl) hW' rfl hb⟩

theorem accountPlays_holds : Rows.AccountPlaysUptoSaid :=
  OpenClaim.holds_of_cond 4 Try.f4 rfl rfl rfl rfl rfl rfl rfl ⟨rfl, rfl, rfl, rfl, rfl⟩ rfl rfl rfl rfl rfl (by kernel_rfl) Try.func4 (by kernel_rfl)
    (of_decide_eq_true (by kernel_rfl)) (by unfold Func.isWrapper; first | (rw [if_pos (by decide +kernel)]; kernel_rfl) | (rw [if_neg (by decide +kernel)]; exact ⟨rfl, rfl⟩))
    (fun os started H enc _ F => accountPlays_lifted os started H enc F)
end Go.Proofs.Ytibhmgeckghoeaa

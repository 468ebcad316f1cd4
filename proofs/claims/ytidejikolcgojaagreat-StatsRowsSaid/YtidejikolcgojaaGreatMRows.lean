/- StatsRows answers true for every input, and what was handed in reads as it did. No condition. -/
import Derived.Test.YtidejikolcgojaaGreatOpenS
import Derived.Test.YtidejikolcgojaaGreatSbM
namespace Go.Proofs.YtidejikolcgojaaGreat
open Go.RowKit Go.WideShapes Go.ChangeShapes Go.ChangeAt Go.Joins Go.Deep

set_option maxRecDepth 100000 in
set_option maxHeartbeats 1600000 in
theorem statsRows_lifted (os : Os) (started : os.Started) (H : Type) (enc : TypeId × Value → H) :
    ReturnsInHanded {} Tryz.checked os 4 .any (Rows.statsRowsSpec.pre6 enc Tryz.prog Tryz.f4 Rows.statsRowsRow.domain false) (Rows.statsRowsSpec.post enc Tryz.prog Tryz.f4 false true false false) := by
  refine returnsInHanded_of_change (C := Tryz.checked) Vb.own started (by kernel_rfl) Tryz.func4
    (ChangeSpec.witness6 (enc := enc) (C := Tryz.checked) false ⟨#[], #[.slice none 0 0, .int .u64 0, .int .u64 0], []⟩ 8 (by kernel_rfl) (by kernel_rfl) (by kernel_rfl) (by kernel_rfl)) ?_
  intro W base args ds gs before hval0 hW _ _
  have hval : ∀ (j : Nat) t v, Tryz.f4.params[j]? = some t → args[j]? = some v → Value.okWide Tryz.prog W .any base t v := hval0
  have hW' := hW
  obtain ⟨p, q, hA0, hV, rfl, _, _⟩ := hW
  have hA : DataW.TrodAll enc Tryz.prog W 0 (fun _ => true) true Tryz.f4.params.toList args.toList ds p := hA0
  rw [Tryz.params4] at hA hval
  obtain ⟨v0, v1, v2, d0, d1, d2, p0, p1, p2, rfl, rfl, rfl, h0, h1, h2⟩ := trodAll_three hA
  obtain ⟨rfl, rfl⟩ := trodVars_none hV
  obtain ⟨l0, hl0⟩ := St.open_bits (hval 0 _ v0 rfl rfl) h0
  obtain ⟨t1, rfl, rfl, rfl, wt1⟩ := open_int Tryz.underlying35 (hval 1 _ v1 rfl rfl) h1
  obtain ⟨t2, rfl, rfl, rfl, wt2⟩ := open_int Tryz.underlying35 (hval 2 _ v2 rfl rfl) h2
  clear hA0 hval0
  refine (St.statsRows_walk hl0 (by have := St.bd_u64 wt1; unfold St.bits64; omega) (by have := St.bd_u64 wt2; unfold St.bits64; omega)).mono fun e W' ⟨he, hb⟩ => ?_
  subst he
  exact ⟨_, rfl, Vb.post_law Vb.kids Vb.full (by rw [Tryz.params4]; decide) rfl Tryz.underlying4 (by kernel_rfl) hW' rfl hb⟩

theorem statsRows_holds : Rows.StatsRowsSaid :=
  OpenClaim.holds_of_wide 4 Tryz.f4 rfl rfl rfl rfl rfl rfl rfl ⟨rfl, rfl, rfl, rfl, rfl⟩ rfl rfl rfl rfl rfl (by kernel_rfl) Tryz.func4 (by kernel_rfl)
    (of_decide_eq_true (by kernel_rfl)) (by unfold Func.isWrapper; first | (rw [if_pos (by decide +kernel)]; kernel_rfl) | (rw [if_neg (by decide +kernel)]; exact ⟨rfl, rfl⟩))
    (fun os started H enc _ => statsRows_lifted os started H enc)
end Go.Proofs.YtidejikolcgojaaGreat

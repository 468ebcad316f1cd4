/- TruthTries answers true for every lot, buyer, rule, true offers, tries and number, and what was handed in reads as it did. Condition: what came in is of bulk at most 1048576 (the statement's own). -/
import Derived.Test.YtcigobiolbojhaaGreatZh
import Derived.Test.YtcigobiolbojhaaGreatZm
import Derived.JoinedCond
namespace Go.Proofs.YtcigobiolbojhaaGreat
open Go.RowKit Go.WideShapes Go.ChangeShapes Go.ChangeAt Go.Joins Go.Deep

theorem tries_bulk {H : Type} {d0 d1 : DataW H} (h : Rows.uptoSmall H [d0, d1] = true) : Rows.uptoBulk d0 ≤ 1048576 := by
  have h' : Rows.uptoBulkAll [d0, d1] ≤ 1048576 := of_decide_eq_true h
  simp only [Rows.uptoBulkAll] at h'
  omega

set_option maxRecDepth 100000 in
set_option maxHeartbeats 1600000 in
theorem truthTries_lifted (os : Os) (started : os.Started) (H : Type) (enc : TypeId × Value → H) (F : Stop.Interp) :
    ReturnsInHanded {} Tryz.checked os 3 .any ((Rows.OpenSpec.upto Rows.truthTriesSpec).pre6 enc Tryz.prog Tryz.f3 Rows.truthTriesUptoRow.domain false) (((Rows.OpenSpec.upto Rows.truthTriesSpec).at F).post enc Tryz.prog Tryz.f3 false true false false) := by
  refine returnsInHanded_of_cond (C := Tryz.checked) (s := Rows.OpenSpec.upto Rows.truthTriesSpec) (k := Rows.uptoSmall) rfl Vb.own started (by kernel_rfl) Tryz.func3
    (OpenSpec.witness (enc := enc) (C := Tryz.checked) (s := Rows.OpenSpec.upto Rows.truthTriesSpec) (k := Rows.uptoSmall) rfl false ⟨#[], #[.agg #[.int .i64 0, .slice none 0 0, .int .i64 0, .int .i64 0, .slice none 0 0, .slice none 0 0], .int .i64 0], []⟩ 8 (by kernel_rfl) (by kernel_rfl) (by kernel_rfl)
      (x := ([.agg [.agg [.lit (.int .i64 0), .nil], .lit (.int .i64 0), .lit (.int .i64 0), .nil, .nil], .lit (.int .i64 0)], [], [])) (by kernel_rfl) rfl (by kernel_rfl)) ?_
  intro W base args ds gs before hval0 hW _ hk _
  have hval : ∀ (j : Nat) t v, Tryz.f3.params[j]? = some t → args[j]? = some v → Value.okWide Tryz.prog W .any base t v := hval0
  have hW' := hW
  obtain ⟨p, q, hA0, hV, rfl, _, _⟩ := hW
  have hA : DataW.TrodAll enc Tryz.prog W 0 (fun _ => true) true Tryz.f3.params.toList args.toList ds p := hA0
  rw [Tryz.params3] at hA hval
  obtain ⟨v0, v1, d0, d1, p0, p1, rfl, rfl, rfl, h0, h1⟩ := trodAll_two hA
  obtain ⟨rfl, rfl⟩ := trodVars_none hV
  obtain ⟨n, bs, bu, ru, tr, ts, vb, vt, vs, rfl, hbs, htr, hts, hbb, hrb, hl1, hl2⟩ := Vb.open_ask (hval 0 _ v0 rfl rfl) h0
  obtain ⟨t1, rfl, rfl, rfl, wt1⟩ := open_int Tryz.underlying3 (hval 1 _ v1 rfl rfl) h1
  have hbk := tries_bulk hk
  clear hA0 hval0
  refine (Vb.truthTries_walk n bs bu ru tr ts t1 vb vt vs _ _ _ W hbs htr hts (by omega) (by omega) hbb hrb).mono fun e W' ⟨he, hb⟩ => ?_
  subst he
  exact ⟨_, rfl, Vb.post_law (s := Rows.truthTriesSpec) Vb.kids Vb.full (by rw [Tryz.params3]; decide) rfl Tryz.underlying4 (by kernel_rfl) hW' rfl hb⟩

theorem truthTries_holds : Rows.TruthTriesUptoSaid :=
  OpenClaim.holds_of_cond 3 Tryz.f3 rfl rfl rfl rfl rfl rfl rfl ⟨rfl, rfl, rfl, rfl, rfl⟩ rfl rfl rfl rfl rfl (by kernel_rfl) Tryz.func3 (by kernel_rfl)
    (of_decide_eq_true (by kernel_rfl)) (by unfold Func.isWrapper; first | (rw [if_pos (by decide +kernel)]; kernel_rfl) | (rw [if_neg (by decide +kernel)]; exact ⟨rfl, rfl⟩))
    (fun os started H enc _ F => truthTries_lifted os started H enc F)
end Go.Proofs.YtcigobiolbojhaaGreat

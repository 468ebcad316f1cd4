/- TruthPays answers true for every lot, buyer, true offers, tries, bids, bidder and worth, and what was handed in reads as it did. Condition: what came in is of bulk at most 1048576 (the statement's own). -/
import Derived.Test.YtcigobiolbojhaaZj
import Derived.Test.YtcigobiolbojhaaZn
import Derived.JoinedCond
namespace Go.Proofs.Ytcigobiolbojhaa
open Go.RowKit Go.WideShapes Go.ChangeShapes Go.ChangeAt Go.Joins Go.Deep

theorem pays_bulk {H : Type} {d0 d1 : DataW H} (h : Rows.uptoSmall H [d0, d1] = true) : Rows.uptoBulk d0 ≤ 1048576 := by
  have h' : Rows.uptoBulkAll [d0, d1] ≤ 1048576 := of_decide_eq_true h
  simp only [Rows.uptoBulkAll] at h'
  omega

set_option maxRecDepth 100000 in
set_option maxHeartbeats 1600000 in
theorem truthPays_lifted (os : Os) (started : os.Started) (H : Type) (enc : TypeId × Value → H) (F : Stop.Interp) :
    ReturnsInHanded {} Try.checked os 12 .any ((Rows.OpenSpec.upto Rows.truthPaysSpec).pre6 enc Try.prog Try.f12 Rows.truthPaysUptoRow.domain false) (((Rows.OpenSpec.upto Rows.truthPaysSpec).at F).post enc Try.prog Try.f12 false true false false) := by
  refine returnsInHanded_of_cond (C := Try.checked) (s := Rows.OpenSpec.upto Rows.truthPaysSpec) (k := Rows.uptoSmall) rfl Vb.own started (by kernel_rfl) Try.func12
    (OpenSpec.witness (enc := enc) (C := Try.checked) (s := Rows.OpenSpec.upto Rows.truthPaysSpec) (k := Rows.uptoSmall) rfl false ⟨#[], #[.agg #[.int .i64 0, .slice none 0 0, .int .i64 0, .int .i64 0, .slice none 0 0, .slice none 0 0], .agg #[.int .i64 0, .slice none 0 0, .int .i64 0, .int .i64 0, .int .i64 0]], []⟩ 8 (by kernel_rfl) (by kernel_rfl) (by kernel_rfl)
      (x := ([.agg [.agg [.lit (.int .i64 0), .nil], .lit (.int .i64 0), .lit (.int .i64 0), .nil, .nil], .agg [.lit (.int .i64 0), .nil, .lit (.int .i64 0), .lit (.int .i64 0), .lit (.int .i64 0)]], [], [])) (by kernel_rfl) rfl (by kernel_rfl)) ?_
  intro W base args ds gs before hval0 hW _ hk _
  have hval : ∀ (j : Nat) t v, Try.f12.params[j]? = some t → args[j]? = some v → Value.okWide Try.prog W .any base t v := hval0
  have hW' := hW
  obtain ⟨p, q, hA0, hV, rfl, _, _⟩ := hW
  have hA : DataW.TrodAll enc Try.prog W 0 (fun _ => true) true Try.f12.params.toList args.toList ds p := hA0
  rw [Try.params12] at hA hval
  obtain ⟨v0, v1, d0, d1, p0, p1, rfl, rfl, rfl, h0, h1⟩ := trodAll_two hA
  obtain ⟨rfl, rfl⟩ := trodVars_none hV
  obtain ⟨n, bs, bu, ru, tr, ts, vb, vt, vs, rfl, hbs, htr, hts, hbb, hrb, hl1, hl2⟩ := Vb.open_ask (hval 0 _ v0 rfl rfl) h0
  obtain ⟨fl, l, bi, wo, ot, vl, rfl, hq, hf1, hf2, hf3, hf4⟩ := Vb.open_asked (hval 1 _ v1 rfl rfl) h1
  have hbk := pays_bulk hk
  clear hA0 hval0
  refine (Vb.truthPays_walk n bs bu ru tr ts vb vt vs _ _ _ fl l bi wo ot vl _ W hbs htr hts hq (by omega) (by omega) hbb hf1 hf2 hf3 hf4).mono fun e W' ⟨he, hb⟩ => ?_
  subst he
  exact ⟨_, rfl, Vb.post_law (s := Rows.truthPaysSpec) Vb.kids Vb.full (by rw [Try.params12]; decide) rfl Try.underlying4 (by kernel_rfl) hW' rfl hb⟩

theorem truthPays_holds : Rows.TruthPaysUptoSaid :=
  OpenClaim.holds_of_cond 12 Try.f12 rfl rfl rfl rfl rfl rfl rfl ⟨rfl, rfl, rfl, rfl, rfl⟩ rfl rfl rfl rfl rfl (by kernel_rfl) Try.func12 (by kernel_rfl)
    (of_decide_eq_true (by kernel_rfl)) (by unfold Func.isWrapper; first | (rw [if_pos (by decide +kernel)]; kernel_rfl) | (rw [if_neg (by decide +kernel)]; exact ⟨rfl, rfl⟩))
    (fun os started H enc _ F => truthPays_lifted os started H enc F)
end Go.Proofs.Ytcigobiolbojhaa

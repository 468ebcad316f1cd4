/- Account: steps keep an account in order. -/
import Derived.Test.YtibhmgeckghoeaaAccT
namespace Go.Proofs.Ytibhmgeckghoeaa.Ac
open Go.RowKit Go.Shelf Go.Maps
open Go.Proofs.Ytibhmgeckghoeaa.Vb

theorem each_set {M : HM} (h : ∀ p ∈ M, 0 ≤ p.1 ∧ p.1 ≤ 9223372036854775807 ∧ 1 ≤ p.2) {x v : Int} (h0 : 0 ≤ x) (h1 : x ≤ 9223372036854775807) (hv : 0 ≤ v) : ∀ p ∈ setM M x v, 0 ≤ p.1 ∧ p.1 ≤ 9223372036854775807 ∧ 1 ≤ p.2 := by
  unfold setM
  split
  · exact fun p hp => h p (List.mem_filter.1 hp).1
  · intro p hp
    rcases List.mem_cons.1 ((insM_perm _ _).mem_iff.1 hp) with rfl | hp
    · exact ⟨h0, h1, by simp only; omega⟩
    · exact h p (List.mem_filter.1 hp).1
theorem hold_keeps {a : Acc} (ho : a.Ok) (hf : a.Fine) {x v : Int} (h1 : x ≤ 9223372036854775807) (h : a.holdE x v = 0) : (a.set x v).Ok ∧ (a.set x v).Fine := by
  obtain ⟨h0, hc, hle⟩ := holdE_ok.1 h
  have hs := sum_set x v ho.rise
  have hb := ho.bud.2
  have hsp := ho.sp.1
  unfold Acc.Fine at *
  refine ⟨⟨ho.bud, ho.sp, rising_set x v ho.rise, each_set ho.each h0 h1 hc.1, ?_⟩, ?_⟩
  · show sumM (setM a.M x v) ≤ _
    omega
  · show a.sp + sumM (setM a.M x v) ≤ a.bud
    omega
theorem release_keeps {a : Acc} (ho : a.Ok) (hf : a.Fine) {x : Int} (h0 : 0 ≤ x) (h1 : x ≤ 9223372036854775807) : (a.set x 0).Ok ∧ (a.set x 0).Fine := by
  have hs := sum_set x 0 ho.rise
  have ha := at_bound ho.h x
  have hsum := ho.sum
  unfold Acc.Fine at *
  refine ⟨⟨ho.bud, ho.sp, rising_set x 0 ho.rise, each_set (v := 0) ho.each h0 h1 (Int.le_refl _), ?_⟩, ?_⟩
  · show sumM (setM a.M x 0) ≤ _
    omega
  · show a.sp + sumM (setM a.M x 0) ≤ a.bud
    omega
theorem payE_zero {a : Acc} {x v : Int} (h : a.payE x v = 0) : 0 ≤ x ∧ coin v ∧ v ≤ atM a.M x := by
  unfold Acc.payE at h
  split at h
  · omega
  · rename_i hn
    split at h
    · omega
    · refine ⟨by omega, ?_, by omega⟩
      by_cases hc : coin v
      · exact hc
      · exact absurd (.inr hc) hn
theorem takeE_zero {a : Acc} {v : Int} (h : a.takeE v = 0) : coin v ∧ v ≤ a.free := by
  unfold Acc.takeE at h
  split at h
  · omega
  · rename_i hn
    split at h
    · omega
    · exact ⟨Decidable.of_not_not hn, by omega⟩
theorem bringE_zero {a : Acc} {v : Int} (h : a.bringE v = 0) : coin v ∧ coin (a.bud + v) := by
  unfold Acc.bringE at h
  split at h
  · assumption
  · omega
theorem pay_keeps {a : Acc} (ho : a.Ok) (hf : a.Fine) {x v : Int} (h1 : x ≤ 9223372036854775807) (h : a.payE x v = 0) : (a.pay x v).Ok ∧ (a.pay x v).Fine := by
  obtain ⟨h0, hc, hle⟩ := payE_zero h
  obtain ⟨o, f⟩ := release_keeps ho hf h0 h1
  have hs := sum_set x 0 ho.rise
  have hb := ho.bud.2
  have hsp := ho.sp.1
  have hnn := o.h.nn
  have hnn2 : 0 ≤ sumM (setM a.M x 0) := hnn
  unfold Acc.Fine at *
  refine ⟨⟨o.bud, ⟨?_, ?_⟩, o.rise, o.each, o.sum⟩, ?_⟩
  · show 0 ≤ a.sp + v
    have := hc.1
    omega
  · show a.sp + v ≤ _
    omega
  · show a.sp + v + sumM (setM a.M x 0) ≤ a.bud
    omega
theorem take_keeps {a : Acc} (ho : a.Ok) (_ : a.Fine) {v : Int} (h : a.takeE v = 0) : (a.take v).Ok ∧ (a.take v).Fine := by
  obtain ⟨hc, hle⟩ := takeE_zero h
  unfold Acc.free at hle
  have hb := ho.bud.2
  have hsp := ho.sp.1
  have hnn := ho.h.nn
  unfold Acc.Fine at *
  refine ⟨⟨ho.bud, ⟨?_, ?_⟩, ho.rise, ho.each, ho.sum⟩, ?_⟩
  · show 0 ≤ a.sp + v
    have := hc.1
    omega
  · show a.sp + v ≤ _
    omega
  · show a.sp + v + sumM a.M ≤ a.bud
    omega
theorem bring_keeps {a : Acc} (ho : a.Ok) (hf : a.Fine) {v : Int} (h : a.bringE v = 0) : (a.bring v).Ok ∧ (a.bring v).Fine := by
  obtain ⟨hc, hc2⟩ := bringE_zero h
  have := hc.1
  refine ⟨⟨hc2, ho.sp, ho.rise, ho.each, ho.sum⟩, ?_⟩
  unfold Acc.Fine at *
  show a.sp + sumM a.M ≤ a.bud + v
  omega
theorem new_ok {bu : Int} (h : coin bu) : (newA bu).Ok ∧ (newA bu).Fine :=
  ⟨⟨h, (by decide : coin 0), List.Pairwise.nil, fun p hp => (by cases hp), (by decide : sumM [] ≤ 1099511627776)⟩, by unfold Acc.Fine newA sumM; have := h.1; simp only; omega⟩
theorem hold_one {b m n : Nat} {a : Acc} {w : World} (h : AccAt w b m n a) (ho : a.Ok) (hn : n < maxLen) {x v : Int} (hx : -9223372036854775808 ≤ x ∧ x ≤ 9223372036854775807) (hv : -9223372036854775808 ≤ v ∧ v ≤ 9223372036854775807) :
    Calls Try.prog 9 #[.pointer (some ⟨b, 0, none⟩), .int .i64 x, .int .i64 v] w fun e w' =>
      e = .returned (.int .i64 (a.holdE x v)) ∧ Chg (· = m) w w' ∧ (a.holdE x v ≠ 0 → AccAt w' b m (n + 1) a) ∧ (a.holdE x v = 0 → AccAt w' b m (n + 1) (a.set x v)) := by
  refine (hold_live h ho hn hx hv).mono ?_
  rintro e w' (⟨h1, rfl, h3⟩ | ⟨h1, rfl, h3, h4⟩)
  · exact ⟨rfl, Chg.of _ h3, fun _ => (h.grow h3).mono (Nat.le_succ _), fun h0 => absurd h0 h1⟩
  · exact ⟨by rw [h1], h4, fun h0 => absurd h1 h0, fun _ => h3⟩
end Go.Proofs.Ytibhmgeckghoeaa.Ac

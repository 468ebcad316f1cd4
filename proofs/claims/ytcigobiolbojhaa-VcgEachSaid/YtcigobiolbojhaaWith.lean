/- offers.With, offers.Without. -/
import Derived.Test.YtcigobiolbojhaaCopy
namespace Go.Proofs.Ytcigobiolbojhaa.Vb
open Go.RowKit

theorem badAt_none_iff (all : Nat) : ∀ l : List Off, badAt all l = none ↔ ∀ o ∈ l, badB all o = false
  | [] => by simp [badAt]
  | o :: l => by
    have := badAt_none_iff all l
    by_cases h : badB all o = true <;> simp [badAt, h, this]

/-- An instance that may be is small. -/
theorem instE_zero {n : Int} {bs : List (List Off)} (h : instE n bs = 0) : 1 ≤ n ∧ n ≤ 10 ∧ bs.length ≤ 32 ∧ (∀ l ∈ bs, l.length ≤ 8) ∧ ∀ l ∈ bs, checkE n l = 0 := by
  unfold instE at h
  split at h
  · omega
  · split at h
    · omega
    · rename_i h1 h2
      have h3 : ∀ l ∈ bs, longB l = false := by
        intro l hl
        cases hb : longB l with
        | false => rfl
        | true => exact absurd (Or.inr (List.any_eq_true.2 ⟨l, hl, hb⟩)) h2
      refine ⟨by omega, by omega, by omega, fun l hl => by simpa [longB] using h3 l hl, ?_⟩
      clear h2 h3
      induction bs with
      | nil => simp
      | cons l bs ih =>
        simp only [instLoop] at h
        by_cases hc : checkE n l = 0
        · simp only [hc, ne_eq, not_true_eq_false, if_false] at h
          intro x hx
          rcases List.mem_cons.1 hx with rfl | hx
          · exact hc
          · exact ih h x hx
        · simp only [ne_eq, hc, not_false_eq_true, if_true] at h

theorem instE_small {n : Int} {bs : List (List Off)} (h : instE n bs = 0) : Small bs := by
  obtain ⟨_, _, h1, h2, _⟩ := instE_zero h
  exact ⟨by omega, fun l hl => by have := h2 l hl; omega⟩

def withE (n : Int) (bs : List (List Off)) (buyer : Int) (l : List Off) : Int :=
  if instE n bs ≠ 0 then instE n bs else if buyer < 0 ∨ (bs.length : Int) ≤ buyer then 2 else checkE n l

/-- Behind two new blocks. -/
theorem two_new {w w1 : World} {c0 c1 d0 d1 : Value} {t u : TypeId} (hb : Below (w.heap.size + 2) ((w.alloc (.cells #[c0, c1] t)).alloc (.cells #[d0, d1] u)) w1) :
    w1.cell? ⟨w.heap.size, 0, none⟩ = some c0 ∧ w1.cell? ⟨w.heap.size, 1, none⟩ = some c1 ∧ w1.cell? ⟨w.heap.size + 1, 0, none⟩ = some d0 ∧ w1.cell? ⟨w.heap.size + 1, 1, none⟩ = some d1 ∧
      (∀ i, w1.frozen? ⟨w.heap.size, i, none⟩ = false) ∧ (∀ i, w1.frozen? ⟨w.heap.size + 1, i, none⟩ = false) ∧ w.heap.size + 2 ≤ w1.heap.size ∧ Below w.heap.size w w1 := by
  have hs := hb.size
  simp at hs
  exact ⟨(hb.cell (p := ⟨w.heap.size, 0, none⟩) (by simp)).trans (by simp), (hb.cell (p := ⟨w.heap.size, 1, none⟩) (by simp)).trans (by simp),
    (hb.cell (p := ⟨w.heap.size + 1, 0, none⟩) (by simp)).trans (by simp), (hb.cell (p := ⟨w.heap.size + 1, 1, none⟩) (by simp)).trans (by simp),
    fun i => (hb.frozen (p := ⟨w.heap.size, i, none⟩) (by simp)).trans (by simp), fun i => (hb.frozen (p := ⟨w.heap.size + 1, i, none⟩) (by simp)).trans (by simp), hs,
    (((Below.refl _ _).alloc (Nat.le_refl _) _).alloc (by simp) _).trans (hb.mono (by omega))⟩

set_option maxHeartbeats 800000 in
theorem with_err (n : Int) (bs : List (List Off)) (buyer : Int) (l : List Off) (v v2 : Value) (R R2 : Nat → Prop) (w : World) (hl : Buys w R v bs) (hl2 : Offs w R2 v2 l) (he : withE n bs buyer l ≠ 0) :
    Calls Try.prog 89 #[.agg #[.int .i64 n, v], .int .i64 buyer, v2] w fun e w' => e = .returned (.tuple #[.agg #[.int .i64 0, .slice none 0 0], .int .i64 (withE n bs buyer l)]) ∧ Below w.heap.size w w' := by
  obtain ⟨vs, ⟨hlen, A, cap, rfl, hncap, hcap, hcells⟩, hvs⟩ := id hl
  have HB := Lib.hid hl
  have HB2 := Lib.hid hl2
  clear hl hl2 hcells hvs hlen hcap
  by_cases hi : instE n bs = 0
  · have hlen32 := (instE_zero hi).2.2.1
    by_cases hbu : buyer < 0 ∨ (bs.length : Int) ≤ buyer
    · have hE : withE n bs buyer l = 2 := by unfold withE; rw [if_neg (by simpa using hi), if_pos hbu]
      have HE := Lib.hid hE
      have HI := Lib.hid hi
      clear hE he hi
      rcases hbu with hbu | hbu
      all_goals
        go_enter Try.func89, Try.ntmps89
        go_wp2_with (go_at_call 124; refine (instance_any n bs _ R _ ((HB.out.alloc _).alloc _)).mono ?_; rintro e w1 ⟨rfl, hb1⟩; rw [HI.out]; obtain ⟨cx0, cx1, cy0, cy1, fx, fy, hs1, hb1'⟩ := two_new (by simpa using hb1))
        all_goals refine bodyPost_ret (v := .tuple #[.agg #[.int .i64 0, .slice none 0 0], .int .i64 2]) (by simp [results, Try.results89, go_sem, cy0, cy1]) rfl ⟨by rw [HE.out], ?_⟩
        all_goals exact (hb1'.setCell (p := ⟨w.heap.size + 1, 0, none⟩) (by simp) _).setCell (p := ⟨w.heap.size + 1, 1, none⟩) (by simp) _
    · have hE : withE n bs buyer l = checkE n l := by unfold withE; rw [if_neg (by simpa using hi), if_neg hbu]
      rw [hE] at he
      have hcb : (checkE n l != 0) = true := by simpa using he
      have hb0 : 0 ≤ buyer := by omega
      have hb1 : buyer < bs.length := by omega
      have HE := Lib.hid hE
      have HI := Lib.hid hi
      clear hE he hi hbu
      go_enter Try.func89, Try.ntmps89
      go_wp2_with (first
        | (go_at_call 124; refine (instance_any n bs _ R _ ((HB.out.alloc _).alloc _)).mono ?_; rintro e w1 ⟨rfl, hb1⟩; rw [HI.out]; obtain ⟨cx0, cx1, cy0, cy1, fx, fy, hs1, hb1'⟩ := two_new (by simpa using hb1))
        | (go_at_call 125; refine (check_any n l _ R2 _ (HB2.out.grow hb1')).mono ?_; rintro e w2 ⟨rfl, hb2⟩; obtain ⟨dx0, dx1, dy0, dy1, gx, gy, hs2, hb2'⟩ := two_new ((show Below (w.heap.size + 2) _ _ from by simpa using hb1).trans (hb2.mono (by omega)))))
      refine bodyPost_ret (v := .tuple #[.agg #[.int .i64 0, .slice none 0 0], .int .i64 (checkE n l)]) (by simp [results, Try.results89, go_sem, dy0, dy1]) rfl ⟨by rw [HE.out], ?_⟩
      exact (hb2'.setCell (p := ⟨w.heap.size + 1, 0, none⟩) (by simp) _).setCell (p := ⟨w.heap.size + 1, 1, none⟩) (by simp) _
  · have hE : withE n bs buyer l = instE n bs := by unfold withE; rw [if_pos (by simpa using hi)]
    have hcb : (instE n bs != 0) = true := by simpa using hi
    have HE := Lib.hid hE
    clear hE he hi
    go_enter Try.func89, Try.ntmps89
    go_wp2_with (go_at_call 124; refine (instance_any n bs _ R _ ((HB.out.alloc _).alloc _)).mono ?_; rintro e w1 ⟨rfl, hb1⟩; obtain ⟨cx0, cx1, cy0, cy1, fx, fy, hs1, hb1'⟩ := two_new (by simpa using hb1))
    refine bodyPost_ret (v := .tuple #[.agg #[.int .i64 0, .slice none 0 0], .int .i64 (instE n bs)]) (by simp [results, Try.results89, go_sem, cy0, cy1]) rfl ⟨by rw [HE.out], ?_⟩
    exact (hb1'.setCell (p := ⟨w.heap.size + 1, 0, none⟩) (by simp) _).setCell (p := ⟨w.heap.size + 1, 1, none⟩) (by simp) _
end Go.Proofs.Ytcigobiolbojhaa.Vb

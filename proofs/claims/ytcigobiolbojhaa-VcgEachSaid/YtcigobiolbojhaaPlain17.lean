/- Plain: who wins nothing is not missed. -/
import Derived.Test.YtcigobiolbojhaaRef17c
namespace Go.Proofs.Ytcigobiolbojhaa.Vb
open Go.RowKit

theorem stepO_mono {g g' : Nat → Int} (f : Nat) {b b' : Int} (o : Off) (hg : ∀ x, g x ≤ g' x) (hb : b ≤ b') : stepO g f b o ≤ stepO g' f b' o := by
  unfold stepO
  split
  · have := hg (andNot f o.g); omega
  · exact hb
theorem fold_mono {g g' : Nat → Int} (f : Nat) (hg : ∀ x, g x ≤ g' x) : ∀ (l : List Off) {b b' : Int}, b ≤ b' → l.foldl (stepO g f) b ≤ l.foldl (stepO g' f) b'
  | [], _, _, h => h
  | o :: l, _, _, h => fold_mono f hg l (stepO_mono f o hg h)
theorem fold_mem {g : Nat → Int} {f : Nat} : ∀ (l : List Off) (b : Int) (o : Off), o ∈ l → andNot o.g f = 0 → o.c + g (andNot f o.g) ≤ l.foldl (stepO g f) b
  | x :: l, b, o, ho, hf => by
    rcases List.mem_cons.1 ho with rfl | ho
    · refine Int.le_trans ?_ (fold_ge g f l _)
      unfold stepO
      rw [if_pos hf]
      omega
    · exact fold_mem l _ o ho hf
theorem fold_att {g : Nat → Int} {f : Nat} : ∀ (l : List Off) (b : Int), l.foldl (stepO g f) b = b ∨ ∃ o ∈ l, andNot o.g f = 0 ∧ o.c + g (andNot f o.g) = l.foldl (stepO g f) b
  | [], b => .inl rfl
  | x :: l, b => by
    rcases fold_att l (stepO g f b x) with h | ⟨o, ho, hf, he⟩
    · by_cases hf : andNot x.g f = 0
      · by_cases hle : x.c + g (andNot f x.g) ≤ b
        · left
          rw [List.foldl_cons, h]
          unfold stepO
          rw [if_pos hf]
          omega
        · right
          refine ⟨x, by simp, hf, ?_⟩
          rw [List.foldl_cons, h]
          unfold stepO
          rw [if_pos hf]
          omega
      · left
        rw [List.foldl_cons, h]
        unfold stepO
        rw [if_neg hf]
    · exact .inr ⟨o, by simp [ho], hf, by rw [List.foldl_cons]; exact he⟩

theorem W_set_le : ∀ (bs : List (List Off)) (k f : Nat), W (bs.set k []) f ≤ W bs f
  | [], k, f => by simp
  | l :: bs, 0, f => by
    simp only [List.set_cons_zero, W, List.foldl_nil]
    exact fold_ge _ _ _ _
  | l :: bs, k + 1, f => by
    simp only [List.set_cons_succ, W]
    exact fold_mono f (fun x => W_set_le bs k x) l (W_set_le bs k f)

/-- nobody's offer reaches what is had: then it is had without the buyer -/
theorem pick_none_W {bs : List (List Off)} {l : List Off} {f : Nat} (h : pickAt (W bs) f (W (l :: bs) f) l = none) : W (l :: bs) f = W bs f := by
  have hno : ∀ o ∈ l, pickB (W bs) f (W (l :: bs) f) o = false := by
    generalize W (l :: bs) f = left at h
    induction l with
    | nil => simp
    | cons x l ih =>
      simp only [pickAt] at h
      split at h
      · cases h
      · rename_i hx
        intro o ho
        rcases List.mem_cons.1 ho with rfl | ho
        · simpa using hx
        · exact ih (by simpa using h) o ho
  rcases fold_att (g := W bs) (f := f) l (W bs f) with h1 | ⟨o, ho, hf, he⟩
  · exact h1
  · exfalso
    have := hno o ho
    simp only [pickB, Bool.and_eq_false_iff, decide_eq_false_iff_not] at this
    rcases this with h2 | h2
    · exact h2 hf
    · exact h2 he
theorem pickAt_att {g : Nat → Int} {f : Nat} {left : Int} : ∀ {l : List Off} {j x : Nat}, pickAt g f left l = some (j, x) → ∃ o ∈ l, o.g = x ∧ andNot o.g f = 0 ∧ o.c + g (andNot f o.g) = left
  | o :: l, j, x, h => by
    simp only [pickAt] at h
    split at h
    · rename_i hb
      simp only [Option.some.injEq, Prod.mk.injEq] at h
      simp only [pickB, Bool.and_eq_true, decide_eq_true_eq] at hb
      exact ⟨o, by simp, h.2, hb.1, hb.2⟩
    · cases hp : pickAt g f left l with
      | none => rw [hp] at h; cases h
      | some p =>
        rw [hp] at h
        simp only [Option.map_some, Option.some.injEq, Prod.mk.injEq] at h
        obtain ⟨o', h1, h2⟩ := pickAt_att (j := p.1) (x := p.2) hp
        exact ⟨o', by simp [h1], by rw [← h.2]; exact h2⟩
theorem W_loser : ∀ (bs : List (List Off)) (k f : Nat), (choose bs f)[k]? = some (-1) → W bs f ≤ W (bs.set k []) f
  | [], k, f, h => by simp [choose] at h
  | l :: bs, 0, f, h => by
    simp only [choose, List.getElem?_cons_zero, Option.some.injEq] at h
    unfold pickN at h
    cases hp : pickAt (W bs) f (W (l :: bs) f) l with
    | none => simp only [List.set_cons_zero]; rw [pick_none_W hp]; exact Int.le_refl _
    | some p => rw [hp] at h; simp only at h; omega
  | l :: bs, k + 1, f, h => by
    simp only [choose, List.getElem?_cons_succ] at h
    have ih := W_loser bs k _ h
    simp only [List.set_cons_succ]
    unfold pickN at ih
    cases hp : pickAt (W bs) f (W (l :: bs) f) l with
    | none =>
      rw [hp] at ih
      rw [pick_none_W hp]
      exact Int.le_trans ih (fold_ge _ _ _ _)
    | some p =>
      obtain ⟨j, x⟩ := p
      rw [hp] at ih
      obtain ⟨o, ho, rfl, hf, he⟩ := pickAt_att hp
      rw [← he]
      refine Int.le_trans (Int.add_le_add_left ih _) ?_
      exact fold_mem l _ o ho hf

theorem instE_withE {n : Int} {bs : List (List Off)} {k : Nat} (h : instE n bs = 0) (hk : k < bs.length) : withE n bs (k : Int) [] = 0 := by
  unfold withE
  rw [if_neg (by simpa using h), if_neg (by omega)]
  obtain ⟨h1, h2, _⟩ := instE_zero h
  unfold checkE
  rw [if_neg (by omega)]
  simp [badAt]
/-- what a buyer gains, both ways -/
theorem won_gain {n : Int} {bs : List (List Off)} {k : Nat} {c : Int} (hi : instE n bs = 0) (hk : k < bs.length) (hc : (bestC n bs)[k]? = some c) :
    coinAt bs k c - payAt n bs k c = gainAt n bs k := by
  unfold gainAt payAt
  by_cases h0 : c < 0
  · rw [if_pos h0, coinAt_neg h0]
    obtain rfl : c = -1 := by rcases choose_get _ _ _ _ hc with h | ⟨j, l, o, rfl, _⟩ <;> omega
    have h1 := W_loser bs k _ hc
    have h2 := W_set_le bs k (allOf n)
    unfold woW
    rw [if_pos (instE_withE hi hk), Int.toNat_natCast]
    omega
  · rw [if_neg h0]
    omega
end Go.Proofs.Ytcigobiolbojhaa.Vb

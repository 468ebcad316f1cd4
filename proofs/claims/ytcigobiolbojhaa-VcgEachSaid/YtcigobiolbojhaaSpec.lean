/- The greatest worth of a part: plain. -/
import Derived.Test.YtcigobiolbojhaaWithout
namespace Go.Proofs.Ytcigobiolbojhaa.Vb

/-- one offer more looked at -/
def stepO (g : Nat → Int) (f : Nat) (best : Int) (o : Off) : Int := if andNot o.g f = 0 then max best (o.c + g (andNot f o.g)) else best
/-- W of the buyers bs, free goods f -/
def W : List (List Off) → Nat → Int
  | [], _ => 0
  | l :: bs, f => l.foldl (stepO (W bs) f) (W bs f)

/-- offers that may be -/
def Offer1 (o : Off) : Prop := 0 < o.g ∧ o.g < 1024 ∧ 1 ≤ o.c ∧ o.c ≤ 1099511627776
def Okb (bs : List (List Off)) : Prop := bs.length ≤ 32 ∧ ∀ l ∈ bs, l.length ≤ 8 ∧ ∀ o ∈ l, Offer1 o

theorem badB_false {n : Nat} (hn : n ≤ 10) {o : Off} (ho : o.wf) (h : badB (2 ^ n - 1) o = false) : Offer1 o ∧ o.g ≤ 2 ^ n - 1 := by
  simp only [badB, Bool.or_eq_false_iff, beq_eq_false_iff_ne, Bool.not_eq_false', beq_iff_eq, decide_eq_false_iff_not] at h
  obtain ⟨⟨⟨h1, h2⟩, h3⟩, h4⟩ := h
  have hp : 2 ^ n ≤ 1024 := Nat.le_trans (Nat.pow_le_pow_right (by omega) hn) (by decide)
  have hp0 : 0 < 2 ^ n := Nat.two_pow_pos n
  have hle : o.g ≤ 2 ^ n - 1 := by
    -- o.g &&& (2^32-1 - (2^n - 1)) = 0
    unfold andNot at h2
    apply Nat.le_of_lt_succ
    have : o.g < 2 ^ n := by
      apply Nat.lt_pow_two_of_testBit
      intro i hi
      by_cases hi32 : i < 32
      · have h5 : (o.g &&& (4294967295 - (2 ^ n - 1))).testBit i = false := by rw [h2]; simp
        rw [Nat.testBit_and] at h5
        have h6 : (4294967295 - (2 ^ n - 1)).testBit i = true := by
          have e : 4294967295 - (2 ^ n - 1) = 2 ^ 32 - (2 ^ n - 1 + 1) := by omega
          rw [e, Nat.testBit_two_pow_sub_succ (by omega)]
          simp [hi32, Nat.testBit_two_pow_sub_one]
          omega
        rw [h6, Bool.and_true] at h5
        exact h5
      · exact Nat.testBit_lt_two_pow (Nat.lt_of_lt_of_le ho.1 (by
          have : 2 ^ 32 ≤ 2 ^ i := Nat.pow_le_pow_right (by omega) (by omega)
          simpa using this))
    omega
  exact ⟨⟨by omega, by omega, by omega, by omega⟩, hle⟩

theorem okb_of {n : Int} {bs : List (List Off)} (hw : ∀ l ∈ bs, ∀ o ∈ l, o.wf) (h : instE n bs = 0) : Okb bs ∧ ∀ l ∈ bs, ∀ o ∈ l, o.g ≤ 2 ^ n.toNat - 1 := by
  obtain ⟨h1, h2, h3, h4, h5⟩ := instE_zero h
  have hb : ∀ l ∈ bs, ∀ o ∈ l, Offer1 o ∧ o.g ≤ 2 ^ n.toNat - 1 := by
    intro l hl o ho
    have hc := h5 l hl
    have h8 := h4 l hl
    unfold checkE at hc
    rw [if_neg (by omega), if_neg (by omega)] at hc
    cases hb : badAt (2 ^ n.toNat - 1) l with
    | some k => rw [hb] at hc; simp at hc
    | none => exact badB_false (by omega) (hw l hl o ho) ((badAt_none_iff _ l).1 hb o ho)
  exact ⟨⟨h3, fun l hl => ⟨h4 l hl, fun o ho => (hb l hl o ho).1⟩⟩, fun l hl o ho => (hb l hl o ho).2⟩

theorem stepO_ge (g : Nat → Int) (f : Nat) (b : Int) (o : Off) : b ≤ stepO g f b o := by unfold stepO; split <;> omega
theorem fold_ge (g : Nat → Int) (f : Nat) : ∀ (l : List Off) (b : Int), b ≤ l.foldl (stepO g f) b
  | [], _ => Int.le_refl _
  | o :: l, b => Int.le_trans (stepO_ge g f b o) (fold_ge g f l _)
theorem fold_le (g : Nat → Int) (f : Nat) (M : Int) : ∀ (l : List Off) (b : Int), (∀ o ∈ l, andNot o.g f = 0 → o.c + g (andNot f o.g) ≤ M) → b ≤ M → l.foldl (stepO g f) b ≤ M
  | [], _, _, hb => hb
  | o :: l, b, h, hb => by
    refine fold_le g f M l _ (fun x hx => h x (by simp [hx])) ?_
    unfold stepO
    split
    · have := h o (by simp) (by assumption)
      omega
    · exact hb

theorem W_nonneg : ∀ (bs : List (List Off)) (f : Nat), 0 ≤ W bs f
  | [], _ => Int.le_refl _
  | l :: bs, f => Int.le_trans (W_nonneg bs f) (fold_ge _ _ l _)
theorem W_le : ∀ (bs : List (List Off)) (f : Nat), (∀ l ∈ bs, ∀ o ∈ l, Offer1 o) → W bs f ≤ bs.length * 1099511627776
  | [], _, _ => by simp [W]
  | l :: bs, f, h => by
    have h0 := fun f => W_le bs f (fun l hl => h l (by simp [hl]))
    refine fold_le _ _ _ l _ (fun o ho _ => ?_) ?_
    · have h1 := h0 (andNot f o.g)
      have h2 := (h l (by simp) o ho).2.2.2
      simp only [List.length_cons]
      omega
    · have h1 := h0 f
      simp only [List.length_cons]
      omega
theorem Okb.W_le {bs : List (List Off)} (h : Okb bs) (k f : Nat) : W (bs.drop k) f ≤ 35184372088832 := by
  have h1 := Vb.W_le (bs.drop k) f (fun l hl o ho => (h.2 l (List.mem_of_mem_drop hl)).2 o ho)
  have h2 : (bs.drop k).length ≤ 32 := by have := h.1; simp; omega
  omega
theorem Okb.offer {bs : List (List Off)} (h : Okb bs) {k : Nat} {l : List Off} (hk : bs[k]? = some l) {j : Nat} {o : Off} (hj : l[j]? = some o) : Offer1 o :=
  (h.2 l (List.mem_of_getElem? hk)).2 o (List.mem_of_getElem? hj)
theorem Okb.len {bs : List (List Off)} (h : Okb bs) {k : Nat} {l : List Off} (hk : bs[k]? = some l) : l.length ≤ 8 := (h.2 l (List.mem_of_getElem? hk)).1

theorem andNot_zero_right (a : Nat) (h : a < 4294967296) : andNot a 0 = a := by
  unfold andNot
  have : (4294967295 - 0 : Nat) = 2 ^ 32 - 1 := by decide
  rw [this, Nat.and_two_pow_sub_one_eq_mod]
  exact Nat.mod_eq_of_lt (by omega)
theorem W_zero : ∀ (bs : List (List Off)), (∀ l ∈ bs, ∀ o ∈ l, Offer1 o) → W bs 0 = 0
  | [], _ => rfl
  | l :: bs, h => by
    have h0 := W_zero bs (fun l hl => h l (by simp [hl]))
    simp only [W, h0]
    have : ∀ (l' : List Off), (∀ o ∈ l', Offer1 o) → l'.foldl (stepO (W bs) 0) 0 = 0 := by
      intro l'
      induction l' with
      | nil => intro _; rfl
      | cons o l' ih =>
        intro ho
        obtain ⟨h1, h2, _⟩ := ho o (by simp)
        have : stepO (W bs) 0 0 o = 0 := by unfold stepO; rw [andNot_zero_right _ (by omega), if_neg (by omega)]
        rw [List.foldl_cons, this]
        exact ih (fun x hx => ho x (by simp [hx]))
    exact this l (h l (by simp))
theorem W_drop {bs : List (List Off)} {k : Nat} {l : List Off} (h : bs[k]? = some l) (f : Nat) : W (bs.drop k) f = l.foldl (stepO (W (bs.drop (k + 1))) f) (W (bs.drop (k + 1)) f) := by
  have hlt : k < bs.length := (List.getElem?_eq_some_iff.1 h).1
  rw [List.drop_eq_getElem_cons hlt]
  have : bs[k] = l := by rw [List.getElem?_eq_getElem hlt] at h; injection h
  rw [this]
  rfl
theorem W_end (bs : List (List Off)) (f : Nat) : W (bs.drop bs.length) f = 0 := by simp [W]
end Go.Proofs.Ytcigobiolbojhaa.Vb

/- Stats: the order of floats is that of their keys. -/
import Derived.Test.YtidejikolcgojaaGreatStS
import Derived.Test.YtidejikolcgojaaGreatStP
namespace Go.Proofs.YtidejikolcgojaaGreat.St
open Ieee

/-- a rung's magnitude, in units of the least one -/
def magV (r : Nat) : Nat := if r < 4503599627370496 then r else (4503599627370496 + r % 4503599627370496) * 2 ^ (r / 4503599627370496 - 1)
theorem magV_lt {r r' : Nat} (h : r < r') : magV r < magV r' := by
  unfold magV
  by_cases h1 : r' < 4503599627370496
  · rw [if_pos h1, if_pos (by omega)]; exact h
  · rw [if_neg h1]
    have hp := Nat.two_pow_pos (r' / 4503599627370496 - 1)
    by_cases h2 : r < 4503599627370496
    · rw [if_pos h2]
      have : 4503599627370496 * 1 ≤ (4503599627370496 + r' % 4503599627370496) * 2 ^ (r' / 4503599627370496 - 1) := Nat.mul_le_mul (by omega) hp
      omega
    · rw [if_neg h2]
      have hle : r / 4503599627370496 ≤ r' / 4503599627370496 := Nat.div_le_div_right (by omega)
      rcases Nat.lt_or_ge (r / 4503599627370496) (r' / 4503599627370496) with hlt | hge
      · have e1 : (4503599627370496 + r % 4503599627370496) * 2 ^ (r / 4503599627370496 - 1) < 9007199254740992 * 2 ^ (r / 4503599627370496 - 1) := Nat.mul_lt_mul_of_pos_right (by omega) (Nat.two_pow_pos _)
        have e2 : 9007199254740992 * 2 ^ (r / 4503599627370496 - 1) = 4503599627370496 * 2 ^ (r / 4503599627370496 - 1 + 1) := by rw [Nat.pow_succ]; omega
        have e3 : 2 ^ (r / 4503599627370496 - 1 + 1) ≤ 2 ^ (r' / 4503599627370496 - 1) := Nat.pow_le_pow_right (by omega) (by omega)
        have e4 : 4503599627370496 * 2 ^ (r / 4503599627370496 - 1 + 1) ≤ (4503599627370496 + r' % 4503599627370496) * 2 ^ (r' / 4503599627370496 - 1) := Nat.mul_le_mul (by omega) e3
        omega
      · rw [show r / 4503599627370496 = r' / 4503599627370496 by omega]
        exact Nat.mul_lt_mul_of_pos_right (by omega) hp
theorem magV_iff {r r' : Nat} : magV r < magV r' ↔ r < r' := by
  refine ⟨fun h => ?_, magV_lt⟩
  rcases Nat.lt_trichotomy r r' with h1 | h1 | h1
  · exact h1
  · subst h1; omega
  · have := magV_lt h1; omega
def sgnV (x : Nat) : Int := if 9223372036854775808 ≤ x then -(magV (x % 9223372036854775808) : Int) else magV (x % 9223372036854775808)
/-- a finite number's datum -/
def ReadsV (d : Datum) (x : Nat) : Prop := ∃ s m i, d = .number s m i ∧ -1074 ≤ i ∧ m * 2 ^ (i + 1074).toNat = magV (x % 9223372036854775808) ∧ (s = true ↔ 9223372036854775808 ≤ x)
theorem reads_num {x : Nat} (hx : x < 18446744073709551616) (h : x % 9223372036854775808 < 9218868437227405312) : ReadsV (double.read x) x := by
  unfold Format.read
  rw [sw, bn, ir, lp]
  have hneg : (x / 9223372036854775808 % 2 == 1) = true ↔ 9223372036854775808 ≤ x := by simp; omega
  generalize (x / 9223372036854775808 % 2 == 1) = s at hneg
  simp only []
  unfold ReadsV magV
  generalize x % 9223372036854775808 = r at h
  by_cases h1 : r < 4503599627370496
  · rw [if_pos h1, if_pos h1]
    exact ⟨s, r, -1074, rfl, by omega, by simp, hneg⟩
  · rw [if_neg h1, if_pos h, if_neg h1]
    refine ⟨s, _, _, rfl, by omega, ?_, hneg⟩
    congr 2; omega
theorem reads_inf {x : Nat} (hx : x < 18446744073709551616) (h : x % 9223372036854775808 = 9218868437227405312) : double.read x = .infinity (decide (9223372036854775808 ≤ x)) := by
  unfold Format.read
  rw [sw, bn, ir, lp, h]
  simp only []
  rw [if_neg (by omega), if_neg (by omega)]
  simp only [if_true]
  congr 1
  rw [Bool.eq_iff_iff]
  simp; omega
theorem signed_scale {s : Bool} {m u k V : Nat} (h : m * 2 ^ (u + k) = V) : signed s m u * 2 ^ k = if s then -(V : Int) else V := by
  unfold signed
  have e : m <<< u * 2 ^ k = V := by rw [shl_eq, Nat.mul_assoc, ← Nat.pow_add]; exact h
  have e2 : ((m <<< u : Nat) : Int) * 2 ^ k = V := by rw [← e]; simp
  cases s with
  | false => exact e2
  | true =>
    show -((m <<< u : Nat) : Int) * 2 ^ k = -(V : Int)
    rw [Int.neg_mul, e2]
/-- how two numbers stand, by their magnitudes -/
theorem order_num {x y : Nat} (hx : x < 18446744073709551616) (hy : y < 18446744073709551616) (nx : isN x = false) (ny : isN y = false) :
    (double.order x y == some .lt) = decide (sgnV x < sgnV y) ∧ (double.order x y == some .eq) = decide (sgnV x = sgnV y) := by
  have hx1 : x % 9223372036854775808 ≤ 9218868437227405312 := by unfold isN at nx; simp at nx; omega
  have hy1 : y % 9223372036854775808 ≤ 9218868437227405312 := by unfold isN at ny; simp at ny; omega
  have key : ∀ a b : Int, (some (compare a b) == some Ordering.lt) = decide (a < b) ∧ (some (compare a b) == some Ordering.eq) = decide (a = b) := fun a b => by
    rw [Int.compare_eq_ite_lt]
    rcases Int.lt_trichotomy a b with h | h | h
    · simp [h]; omega
    · subst h; simp
    · have h1 : ¬ a < b := by omega
      have h2 : ¬ a = b := by omega
      simp [h1, h, h2]
  have inf_big : ∀ z, z % 9223372036854775808 < 9218868437227405312 → magV (z % 9223372036854775808) < magV 9218868437227405312 := fun z hz => magV_lt hz
  have hmi : 0 < magV 9218868437227405312 := by have := magV_lt (show 0 < 9218868437227405312 by omega); omega
  unfold Format.order
  by_cases hxi : x % 9223372036854775808 = 9218868437227405312
  · rw [reads_inf hx hxi]
    have sx : sgnV x = if 9223372036854775808 ≤ x then -(magV 9218868437227405312 : Int) else magV 9218868437227405312 := by unfold sgnV; rw [hxi]
    by_cases hyi : y % 9223372036854775808 = 9218868437227405312
    · rw [reads_inf hy hyi]
      have sy : sgnV y = if 9223372036854775808 ≤ y then -(magV 9218868437227405312 : Int) else magV 9218868437227405312 := by unfold sgnV; rw [hyi]
      rw [sx, sy]
      by_cases c1 : 9223372036854775808 ≤ x <;> by_cases c2 : 9223372036854775808 ≤ y
      · simp only [c1, c2, decide_true, if_true, Datum.order]; refine ⟨?_, ?_⟩ <;> simp <;> decide
      · simp only [c1, c2, decide_true, decide_false, if_true, if_false, Datum.order]
        refine ⟨?_, ?_⟩
        · rw [decide_eq_true (by omega)]; decide
        · rw [decide_eq_false (by omega)]; decide
      · simp only [c1, c2, decide_true, decide_false, if_true, if_false, Datum.order]
        refine ⟨?_, ?_⟩
        · rw [decide_eq_false (by omega)]; decide
        · rw [decide_eq_false (by omega)]; decide
      · simp only [c1, c2, decide_false, if_false, Datum.order]; refine ⟨?_, ?_⟩ <;> simp <;> decide
    · have hyl := inf_big y (by omega)
      obtain ⟨t, n, j, hd, _, _, _⟩ := reads_num hy (by omega)
      rw [hd]
      have sy : -(magV 9218868437227405312 : Int) < sgnV y ∧ sgnV y < magV 9218868437227405312 := by unfold sgnV; split <;> omega
      rw [sx]
      by_cases c1 : 9223372036854775808 ≤ x
      · simp only [c1, decide_true, if_true, Datum.order]
        refine ⟨?_, ?_⟩
        · rw [decide_eq_true (by omega)]; decide
        · rw [decide_eq_false (by omega)]; decide
      · simp only [c1, decide_false, if_false, Datum.order]
        refine ⟨?_, ?_⟩
        · rw [decide_eq_false (by omega)]; decide
        · rw [decide_eq_false (by omega)]; decide
  · obtain ⟨s, m, i, hd, hi, hm, hs⟩ := reads_num hx (by omega)
    have hxl := inf_big x (by omega)
    rw [hd]
    by_cases hyi : y % 9223372036854775808 = 9218868437227405312
    · rw [reads_inf hy hyi]
      have sy : sgnV y = if 9223372036854775808 ≤ y then -(magV 9218868437227405312 : Int) else magV 9218868437227405312 := by unfold sgnV; rw [hyi]
      have sx : -(magV 9218868437227405312 : Int) < sgnV x ∧ sgnV x < magV 9218868437227405312 := by unfold sgnV; split <;> omega
      rw [sy]
      by_cases c1 : 9223372036854775808 ≤ y
      · simp only [c1, decide_true, if_true, Datum.order]
        refine ⟨?_, ?_⟩
        · rw [decide_eq_false (by omega)]; decide
        · rw [decide_eq_false (by omega)]; decide
      · simp only [c1, decide_false, if_false, Datum.order]
        refine ⟨?_, ?_⟩
        · rw [decide_eq_true (by omega)]; decide
        · rw [decide_eq_false (by omega)]; decide
    · obtain ⟨t, n, j, hd2, hj, hn, ht⟩ := reads_num hy (by omega)
      rw [hd2]
      simp only [Datum.order]
      obtain ⟨k1, k2⟩ := key (signed s m (i - min i j).toNat) (signed t n (j - min i j).toNat)
      have e1 := signed_scale (s := s) (m := m) (u := (i - min i j).toNat) (k := (min i j + 1074).toNat) (V := magV (x % 9223372036854775808)) (by rw [← hm]; congr 2; omega)
      have e2 := signed_scale (s := t) (m := n) (u := (j - min i j).toNat) (k := (min i j + 1074).toNat) (V := magV (y % 9223372036854775808)) (by rw [← hn]; congr 2; omega)
      have f1 : (if s then -(magV (x % 9223372036854775808) : Int) else magV (x % 9223372036854775808)) = sgnV x := by
        unfold sgnV
        by_cases c : 9223372036854775808 ≤ x
        · rw [if_pos c, hs.2 c]; rfl
        · rw [if_neg c, show s = false by cases s with | false => rfl | true => exact absurd (hs.1 rfl) c]; rfl
      have f2 : (if t then -(magV (y % 9223372036854775808) : Int) else magV (y % 9223372036854775808)) = sgnV y := by
        unfold sgnV
        by_cases c : 9223372036854775808 ≤ y
        · rw [if_pos c, ht.2 c]; rfl
        · rw [if_neg c, show t = false by cases t with | false => rfl | true => exact absurd (ht.1 rfl) c]; rfl
      rw [f1] at e1
      rw [f2] at e2
      have hp : (0 : Int) < 2 ^ (min i j + 1074).toNat := by
        generalize (min i j + 1074).toNat = kk
        have := Nat.two_pow_pos kk
        exact_mod_cast this
      rw [k1, k2]
      generalize signed s m (i - min i j).toNat = a at *
      generalize signed t n (j - min i j).toNat = b at *
      generalize (2 : Int) ^ (min i j + 1074).toNat = c at *
      rw [← e1, ← e2]
      refine ⟨?_, ?_⟩
      · rw [decide_eq_decide]
        exact ⟨fun h => Int.mul_lt_mul_of_pos_right h hp, fun h => Int.lt_of_mul_lt_mul_right h (Int.le_of_lt hp)⟩
      · rw [decide_eq_decide]
        exact ⟨fun h => by rw [h], fun h => Int.eq_of_mul_eq_mul_right (by omega) h⟩
/-- stands ahead: by the keys -/
theorem fless_key {x y : Nat} (hx : x < bits64) (hy : y < bits64) (nx : isN x = false) (ny : isN y = false) : fless x y = decide (keyB x < keyB y) := by
  unfold bits64 at hx hy
  obtain ⟨h1, h2⟩ := order_num hx hy nx ny
  unfold fless
  rw [h1, h2, Bool.eq_iff_iff]
  simp only [Bool.or_eq_true, Bool.and_eq_true, decide_eq_true_eq, Bool.not_eq_true', decide_eq_false_iff_not]
  unfold sgnV keyB
  have mm := magV_iff (r := x % 9223372036854775808) (r' := y % 9223372036854775808)
  have mm2 := magV_iff (r := y % 9223372036854775808) (r' := x % 9223372036854775808)
  generalize hA : magV (x % 9223372036854775808) = a at *
  generalize hB : magV (y % 9223372036854775808) = b at *
  by_cases c1 : 9223372036854775808 ≤ x <;> by_cases c2 : 9223372036854775808 ≤ y
  · rw [if_pos c1, if_pos c2, if_neg (by omega), if_neg (by omega)]; omega
  · rw [if_pos c1, if_neg c2, if_neg (by omega), if_pos (by omega)]; omega
  · rw [if_neg c1, if_pos c2, if_pos (by omega), if_neg (by omega)]; omega
  · rw [if_neg c1, if_neg c2, if_pos (by omega), if_pos (by omega)]; omega
end Go.Proofs.YtidejikolcgojaaGreat.St

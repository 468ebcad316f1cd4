/- Stats: floats that stand for whole numbers, plainly; the place that Middle asks for. -/
import Derived.Test.YtidejikolcgojaaGreatStC
namespace Go.Proofs.YtidejikolcgojaaGreat.St
open Ieee

theorem shl_eq (a k : Nat) : a <<< k = a * 2 ^ k := Nat.shiftLeft_eq a k
/-- what a word is read as -/
theorem read_big {neg : Bool} {L k : Nat} (hL : L ≤ 2044) (h1 : 4503599627370496 ≤ k) (h2 : k < 9007199254740992) : double.read (double.word neg (L * 4503599627370496 + k)) = .number neg k ((L : Int) - 1074) := by
  have hr : L * 4503599627370496 + k < 9218868437227405312 := by omega
  have hq : (L * 4503599627370496 + k) / 4503599627370496 = L + 1 := by omega
  have hm : (L * 4503599627370496 + k) % 4503599627370496 = k - 4503599627370496 := by omega
  generalize L * 4503599627370496 + k = r at hr hq hm
  unfold Format.read Format.word
  rw [sw, bn, ir, lp]
  cases neg with
  | false =>
    have e1 : r % 9223372036854775808 = r := Nat.mod_eq_of_lt (by omega)
    have e2 : r / 9223372036854775808 = 0 := Nat.div_eq_of_lt (by omega)
    simp only [Bool.false_eq_true, if_false, e1, e2]
    rw [if_neg (by omega), if_pos hr, hq, hm]
    simp; omega
  | true =>
    have e1 : (9223372036854775808 + r) % 9223372036854775808 = r := by omega
    have e2 : (9223372036854775808 + r) / 9223372036854775808 = 1 := by omega
    simp only [if_true, e1, e2]
    rw [if_neg (by omega), if_pos hr, hq, hm]
    simp; omega
theorem read_small {neg : Bool} {k : Nat} (h : k < 4503599627370496) : double.read (double.word neg k) = .number neg k (-1074) := by
  unfold Format.read Format.word
  rw [sw, bn, ir, lp]
  cases neg with
  | false =>
    have e1 : k % 9223372036854775808 = k := Nat.mod_eq_of_lt (by omega)
    have e2 : k / 9223372036854775808 = 0 := Nat.div_eq_of_lt (by omega)
    simp only [Bool.false_eq_true, if_false, e1, e2]
    rw [if_pos h]
    rfl
  | true =>
    have e1 : (9223372036854775808 + k) % 9223372036854775808 = k := by omega
    have e2 : (9223372036854775808 + k) / 9223372036854775808 = 1 := by omega
    simp only [if_true, e1, e2]
    rw [if_pos h]
    rfl
theorem cut_zero (way : Toward) (neg : Bool) (n : Nat) : way.cut neg n 0 = n := by
  unfold Toward.cut
  have : (1 : Nat) <<< min 0 (n.log2 + 2) = 1 := by simp
  simp only [this, Nat.div_one, Nat.mod_one]
  cases way <;> simp
theorem log_bd {q : Nat} (h : q ≠ 0) : 2 ^ q.log2 ≤ q ∧ q < 2 ^ (q.log2 + 1) := ⟨Nat.log2_self_le h, Nat.lt_log2_self⟩
theorem log_le {q k : Nat} (h : q < 2 ^ k) (h0 : q ≠ 0) : q.log2 < k := (Nat.log2_lt h0).2 h
/-- a whole number below 2 to the power 53, as a float -/
theorem nearest_int {neg : Bool} {q : Nat} (h0 : q ≠ 0) (h : q < 9007199254740992) : double.nearest neg q 0 = double.word neg ((1022 + q.log2) * 4503599627370496 + q * 2 ^ (52 - q.log2)) ∧ 4503599627370496 ≤ q * 2 ^ (52 - q.log2) ∧ q * 2 ^ (52 - q.log2) < 9007199254740992 := by
  have hl : q.log2 ≤ 52 := by have := log_le (k := 53) (by omega) h0; omega
  obtain ⟨b1, b2⟩ := log_bd h0
  have e52 : (4503599627370496 : Nat) = 2 ^ q.log2 * 2 ^ (52 - q.log2) := by rw [← Nat.pow_add]; rw [show q.log2 + (52 - q.log2) = 52 by omega]
  have e53 : (9007199254740992 : Nat) = 2 ^ (q.log2 + 1) * 2 ^ (52 - q.log2) := by rw [← Nat.pow_add]; rw [show q.log2 + 1 + (52 - q.log2) = 53 by omega]
  have k1 : 4503599627370496 ≤ q * 2 ^ (52 - q.log2) := by rw [e52]; exact Nat.mul_le_mul_right _ b1
  have k2 : q * 2 ^ (52 - q.log2) < 9007199254740992 := by rw [e53]; exact Nat.mul_lt_mul_of_pos_right b2 (Nat.two_pow_pos _)
  refine ⟨?_, k1, k2⟩
  unfold Format.nearest
  rw [if_neg h0, lp, bn, ir]
  have ef : double.fractionBits = 52 := rfl
  rw [ef]
  have hmax : max ((0 : Int) + (q.log2 : Nat) - (52 : Nat)) (-1074) = (q.log2 : Int) - 52 := by omega
  simp only [hmax]
  have h1 : ((0 : Int) - ((q.log2 : Int) - 52)).toNat = 52 - q.log2 := by omega
  have h2 : ((q.log2 : Int) - 52 - 0).toNat = 0 := by omega
  have h3 : ((q.log2 : Int) - 52 - -1074).toNat = 1022 + q.log2 := by omega
  rw [h1, h2, h3, cut_zero, shl_eq]
  congr 1
  exact Nat.min_eq_left (by omega)
theorem read_int {neg : Bool} {q : Nat} (h0 : q ≠ 0) (h : q < 9007199254740992) : double.read (double.nearest neg q 0) = .number neg (q * 2 ^ (52 - q.log2)) ((q.log2 : Int) - 52) := by
  obtain ⟨e, k1, k2⟩ := nearest_int (neg := neg) h0 h
  have hl : q.log2 ≤ 52 := by have := log_le (k := 53) (by omega) h0; omega
  rw [e, read_big (by omega) k1 k2]
  congr 1
  omega
theorem nearest_zero (neg : Bool) (p : Int) : double.nearest neg 0 p = double.word neg 0 := by
  unfold Format.nearest
  rw [if_pos rfl]
theorem read_zero (neg : Bool) (p : Int) : double.read (double.nearest neg 0 p) = .number neg 0 (-1074) := by
  rw [nearest_zero, read_small (by omega)]

theorem cmp_ge {x y : Int} (h : (some (compare x y) == some Ordering.gt || some (compare x y) == some Ordering.eq) = true) : y ≤ x := by
  rcases Int.lt_or_le x y with hlt | hle
  · exfalso
    have : compare x y = .lt := by rw [Int.compare_eq_ite_lt]; simp [hlt]
    rw [this] at h
    exact absurd h (by decide)
  · exact hle
theorem cmp_le {x y : Int} (h : (some (compare x y) == some Ordering.lt || some (compare x y) == some Ordering.eq) = true) : x ≤ y := by
  rcases Int.lt_or_le y x with hlt | hle
  · exfalso
    have : compare x y = .gt := by rw [Int.compare_eq_ite_lt]; simp [hlt]; omega
    rw [this] at h
    exact absurd h (by decide)
  · exact hle
abbrev one64 : Nat := 4607182418800017408
theorem read_0 : double.read 0 = .number false 0 (-1074) := by decide +kernel
theorem read_1 : double.read one64 = .number false 4503599627370496 (-52) := by decide +kernel
/-- a part is a number between 0 and 1 -/
theorem part_read {p : Nat} (h0 : (double.order p 0 == some .gt || double.order p 0 == some .eq) = true) (h1 : (double.order p one64 == some .lt || double.order p one64 == some .eq) = true) :
    ∃ s m i, double.read p = .number s m i ∧ (s = true → m = 0) ∧ (m ≠ 0 → i ≤ 0 ∧ m ≤ 2 ^ (-i).toNat) := by
  unfold Format.order at h0 h1
  rw [read_0] at h0
  rw [read_1] at h1
  cases hd : double.read p with
  | nan s t => rw [hd] at h0; exact absurd h0 (by simp [Datum.order])
  | infinity s =>
    rw [hd] at h0 h1
    cases s with
    | true => exact absurd h0 (by simp [Datum.order])
    | false => exact absurd h1 (by simp [Datum.order])
  | number s m i =>
    rw [hd] at h0 h1
    simp only [Datum.order] at h0 h1
    have g0 := cmp_ge h0
    have g1 := cmp_le h1
    clear h0 h1
    refine ⟨s, m, i, rfl, fun hs => ?_, fun hm => ?_⟩
    · subst hs
      simp only [signed, if_true, Bool.false_eq_true, if_false, shl_eq, Nat.zero_mul] at g0
      have : m * 2 ^ (i - min i (-1074)).toNat = 0 := by omega
      rcases Nat.mul_eq_zero.1 this with h | h
      · exact h
      · exact absurd h (Nat.pos_iff_ne_zero.1 (Nat.two_pow_pos _))
    · have hs : s = false := by
        cases s with
        | false => rfl
        | true =>
          simp only [signed, if_true, Bool.false_eq_true, if_false, shl_eq, Nat.zero_mul] at g0
          have : m * 2 ^ (i - min i (-1074)).toNat = 0 := by omega
          rcases Nat.mul_eq_zero.1 this with h | h
          · exact absurd h hm
          · exact absurd h (Nat.pos_iff_ne_zero.1 (Nat.two_pow_pos _))
      subst hs
      simp only [signed, Bool.false_eq_true, if_false, shl_eq] at g1
      have g2 : m * 2 ^ (i - min i (-52)).toNat ≤ 4503599627370496 * 2 ^ (-52 - min i (-52)).toNat := by exact_mod_cast g1
      clear g0 g1
      rcases Int.lt_or_le i (-52) with hi | hi
      · rw [show min i (-52) = i by omega, show (i - i).toNat = 0 by omega, Nat.pow_zero, Nat.mul_one] at g2
        refine ⟨by omega, ?_⟩
        have e : (4503599627370496 : Nat) * 2 ^ (-52 - i).toNat = 2 ^ (-i).toNat := by
          rw [show (4503599627370496 : Nat) = 2 ^ 52 by decide, ← Nat.pow_add]
          congr 1; omega
        omega
      · rw [show min i (-52) = -52 by omega, show (-52 - -52 : Int).toNat = 0 by omega, Nat.pow_zero, Nat.mul_one] at g2
        have hi0 : i ≤ 0 := by
          rcases Int.lt_or_le 0 i with h | h
          · exfalso
            have : 2 ^ 53 ≤ 2 ^ (i - -52).toNat := Nat.pow_le_pow_right (by omega) (by omega)
            have h2 : 1 * 2 ^ 53 ≤ m * 2 ^ (i - -52).toNat := Nat.mul_le_mul (by omega) this
            omega
          · exact h
        refine ⟨hi0, ?_⟩
        have e : (4503599627370496 : Nat) = 2 ^ (-i).toNat * 2 ^ (i - -52).toNat := by
          rw [← Nat.pow_add]
          rw [show (-i).toNat + (i - -52).toNat = 52 by omega]
        rw [e] at g2
        exact Nat.le_of_mul_le_mul_right g2 (Nat.two_pow_pos _)
end Go.Proofs.YtidejikolcgojaaGreat.St

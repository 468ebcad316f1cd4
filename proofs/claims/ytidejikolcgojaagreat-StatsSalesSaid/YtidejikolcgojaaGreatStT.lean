/- Stats: the place that Middle asks for. -/
import Derived.Test.YtidejikolcgojaaGreatStS
namespace Go.Proofs.YtidejikolcgojaaGreat.St
open Ieee

theorem cut_even_le {mag B d : Nat} (h : mag ≤ B * 2 ^ d) (h2 : mag < 2 ^ 53 * 2 ^ d) : Toward.even.cut false mag d ≤ B ∧ Toward.even.cut false mag d ≤ 2 ^ 53 := by
  unfold Toward.cut
  rcases Nat.le_total d (mag.log2 + 2) with hd | hd
  · rw [show min d (mag.log2 + 2) = d by omega]
    simp only [shl_eq, Nat.one_mul]
    have hg : 0 < 2 ^ d := Nat.two_pow_pos d
    have hdm := Nat.div_add_mod mag (2 ^ d)
    have hlt := Nat.mod_lt mag hg
    generalize mag / 2 ^ d = low at *
    generalize mag % 2 ^ d = rest at *
    generalize 2 ^ d = g at *
    have l1 : low ≤ B := by
      rcases Nat.lt_or_ge B low with hb | hb
      · exfalso
        have : g * (B + 1) ≤ g * low := Nat.mul_le_mul_left g hb
        rw [Nat.mul_add, Nat.mul_comm g B] at this
        omega
      · exact hb
    have l2 : low < 2 ^ 53 := by
      rcases Nat.lt_or_ge low (2 ^ 53) with hb | hb
      · exact hb
      · exfalso
        have : g * 2 ^ 53 ≤ g * low := Nat.mul_le_mul_left g hb
        rw [Nat.mul_comm g (2 ^ 53)] at this
        omega
    by_cases hr : rest = 0
    · have hmore : (decide (g < 2 * rest) || (g == 2 * rest && low % 2 == 1)) = false := by
        subst hr
        simp; omega
      rw [hmore]
      simp
      omega
    · have l3 : low + 1 ≤ B := by
        rcases Nat.lt_or_ge low B with hb | hb
        · exact hb
        · exfalso
          obtain rfl : low = B := by omega
          rw [Nat.mul_comm] at h
          omega
      have : (decide (g < 2 * rest) || (g == 2 * rest && low % 2 == 1)).toNat ≤ 1 := Bool.toNat_le _
      omega
  · rw [show min d (mag.log2 + 2) = mag.log2 + 2 by omega]
    simp only [shl_eq, Nat.one_mul]
    have hb : mag < 2 ^ (mag.log2 + 1) := Nat.lt_log2_self
    have hp : 2 ^ (mag.log2 + 2) = 2 * 2 ^ (mag.log2 + 1) := by rw [Nat.pow_succ, Nat.mul_comm]
    have e1 : mag / 2 ^ (mag.log2 + 2) = 0 := Nat.div_eq_of_lt (by omega)
    have e2 : mag % 2 ^ (mag.log2 + 2) = mag := Nat.mod_eq_of_lt (by omega)
    rw [e1, e2]
    have hmore : (decide (2 ^ (mag.log2 + 2) < 2 * mag) || (2 ^ (mag.log2 + 2) == 2 * mag && 0 % 2 == 1)) = false := by
      simp; omega
    rw [hmore]
    simp
theorem cut_even_ge {mag d : Nat} (h : 2 ^ 52 * 2 ^ d ≤ mag) : 2 ^ 52 ≤ Toward.even.cut false mag d := by
  unfold Toward.cut
  have h0 : mag ≠ 0 := by have := Nat.two_pow_pos d; omega
  have hd : d ≤ mag.log2 := by
    rcases Nat.lt_or_ge mag.log2 d with hlt | hge
    · exfalso
      have h1 : mag < 2 ^ (mag.log2 + 1) := Nat.lt_log2_self
      have h2 : 2 ^ (mag.log2 + 1) ≤ 2 ^ d := Nat.pow_le_pow_right (by omega) hlt
      omega
    · exact hge
  rw [show min d (mag.log2 + 2) = d by omega]
  simp only [shl_eq, Nat.one_mul]
  have : 2 ^ 52 ≤ mag / 2 ^ d := (Nat.le_div_iff_mul_le (Nat.two_pow_pos d)).2 h
  omega
/-- a product that is at most N, rounded: what it is read as -/
theorem nearest_le {mag N t : Nat} (h0 : mag ≠ 0) (hN : N < 1024) (h : mag ≤ N * 2 ^ t) : ∃ K P : Nat, double.read (double.nearest false mag (-(t : Int))) = .number false K (-(P : Int)) ∧ K ≤ N * 2 ^ P := by
  obtain ⟨b1, b2⟩ := log_bd h0
  have hlg : mag.log2 < 10 + t := by
    refine log_le ?_ h0
    calc mag ≤ N * 2 ^ t := h
      _ < 1024 * 2 ^ t := Nat.mul_lt_mul_of_pos_right hN (Nat.two_pow_pos t)
      _ = 2 ^ (10 + t) := by rw [Nat.pow_add]
  obtain ⟨c, hc⟩ : ∃ c, c = min (t + 52 - mag.log2) 1074 := ⟨_, rfl⟩
  have hc1 : 43 ≤ c := by omega
  have hc2 : c ≤ 1074 := by omega
  obtain ⟨kept, hk⟩ : ∃ k, k = Toward.even.cut false (mag <<< (c - t)) (t - c) := ⟨_, rfl⟩
  have hform : double.nearest false mag (-(t : Int)) = double.word false (min ((1074 - c) * 4503599627370496 + kept) 9218868437227405312) := by
    unfold Format.nearest
    rw [if_neg h0, lp, bn, ir]
    have ef : double.fractionBits = 52 := rfl
    rw [ef]
    have hmax : max (-(t : Int) + (mag.log2 : Nat) - (52 : Nat)) (-1074) = -(c : Int) := by omega
    simp only [hmax]
    rw [show (-(t : Int) - -(c : Int)).toNat = c - t by omega, show (-(c : Int) - -(t : Int)).toNat = t - c by omega, show (-(c : Int) - -1074).toNat = 1074 - c by omega, ← hk]
  have hB : kept ≤ N * 2 ^ c ∧ kept ≤ 2 ^ 53 := by
    rcases Nat.le_total t c with htc | htc
    · rw [show t - c = 0 by omega, cut_zero, shl_eq] at hk
      subst hk
      refine ⟨?_, ?_⟩
      · calc mag * 2 ^ (c - t) ≤ N * 2 ^ t * 2 ^ (c - t) := Nat.mul_le_mul_right _ h
          _ = N * 2 ^ c := by rw [Nat.mul_assoc, ← Nat.pow_add, show t + (c - t) = c by omega]
      · have : mag * 2 ^ (c - t) ≤ 2 ^ (mag.log2 + 1) * 2 ^ (c - t) := Nat.mul_le_mul_right _ (by omega)
        rw [← Nat.pow_add] at this
        exact Nat.le_trans this (Nat.pow_le_pow_right (by omega) (by omega))
    · rw [show c - t = 0 by omega, shl_eq, Nat.pow_zero, Nat.mul_one] at hk
      subst hk
      refine cut_even_le ?_ ?_
      · rw [Nat.mul_assoc, ← Nat.pow_add, show c + (t - c) = t by omega]
        exact h
      · rw [← Nat.pow_add]
        exact Nat.lt_of_lt_of_le b2 (Nat.pow_le_pow_right (by omega) (by omega))
  have hlow : c < 1074 → 2 ^ 52 ≤ kept := by
    intro hlt
    have hce : c = t + 52 - mag.log2 := by omega
    rcases Nat.le_total t c with htc | htc
    · rw [show t - c = 0 by omega, cut_zero, shl_eq] at hk
      subst hk
      have : 2 ^ mag.log2 * 2 ^ (c - t) ≤ mag * 2 ^ (c - t) := Nat.mul_le_mul_right _ b1
      rw [← Nat.pow_add, show mag.log2 + (c - t) = 52 by omega] at this
      exact this
    · rw [show c - t = 0 by omega, shl_eq, Nat.pow_zero, Nat.mul_one] at hk
      subst hk
      refine cut_even_ge ?_
      rw [← Nat.pow_add, show 52 + (t - c) = mag.log2 by omega]
      exact b1
  obtain ⟨hB1, hB2⟩ := hB
  have e53 : (2 : Nat) ^ 53 = 9007199254740992 := by decide
  have e52 : (2 : Nat) ^ 52 = 4503599627370496 := by decide
  rw [e53] at hB2
  rw [e52] at hlow
  rw [hform, Nat.min_eq_left (by omega)]
  clear hk hform
  rcases Nat.lt_or_ge kept 4503599627370496 with k1 | k1
  · have hc3 : c = 1074 := by
      rcases Nat.lt_or_ge c 1074 with h | h
      · have := hlow h; omega
      · omega
    subst hc3
    refine ⟨kept, 1074, ?_, hB1⟩
    rw [show (1074 - 1074) * 4503599627370496 + kept = kept by omega, read_small k1]
    rfl
  · rcases Nat.lt_or_ge kept 9007199254740992 with k2 | k2
    · refine ⟨kept, c, ?_, hB1⟩
      rw [read_big (by omega) k1 k2]
      congr 1; omega
    · obtain rfl : kept = 9007199254740992 := by omega
      refine ⟨4503599627370496, c - 1, ?_, ?_⟩
      · rw [show (1074 - c) * 4503599627370496 + 9007199254740992 = (1074 - c + 1) * 4503599627370496 + 4503599627370496 by omega, read_big (by omega) (by omega) (by omega)]
        congr 1; omega
      · have : N * 2 ^ c = N * 2 ^ (c - 1) * 2 := by rw [Nat.mul_assoc, ← Nat.pow_succ]; congr 2; omega
        omega
theorem cut_down_le {K N P : Nat} (h : K ≤ N * 2 ^ P) : Toward.down.cut false K P ≤ N := by
  unfold Toward.cut
  rcases Nat.le_total P (K.log2 + 2) with hd | hd
  · rw [show min P (K.log2 + 2) = P by omega]
    simp only [shl_eq, Nat.one_mul]
    have : K / 2 ^ P ≤ N := Nat.div_le_of_le_mul (by rw [Nat.mul_comm]; exact h)
    simp
    exact this
  · rw [show min P (K.log2 + 2) = K.log2 + 2 by omega]
    simp only [shl_eq, Nat.one_mul]
    have hb : K < 2 ^ (K.log2 + 1) := Nat.lt_log2_self
    have hp : 2 ^ (K.log2 + 2) = 2 * 2 ^ (K.log2 + 1) := by rw [Nat.pow_succ, Nat.mul_comm]
    have e1 : K / 2 ^ (K.log2 + 2) = 0 := Nat.div_eq_of_lt (by omega)
    rw [e1]
    simp
theorem cut_int {q d : Nat} (hq : q ≠ 0) (hd : d ≤ 52) (h : 4503599627370496 ≤ q * 2 ^ d) (h2 : q * 2 ^ d < 9007199254740992) : Toward.zero.cut false (q * 2 ^ d) d = q := by
  unfold Toward.cut
  have hlog : d ≤ (q * 2 ^ d).log2 + 2 := by
    have h0 : q * 2 ^ d ≠ 0 := by omega
    have : ¬ (q * 2 ^ d).log2 < 52 := fun hlt => by
      have := (Nat.log2_lt h0).1 hlt
      have e52 : (2 : Nat) ^ 52 = 4503599627370496 := by decide
      omega
    omega
  rw [show min d ((q * 2 ^ d).log2 + 2) = d by omega]
  simp only [shl_eq, Nat.one_mul]
  rw [Nat.mul_div_cancel _ (Nat.two_pow_pos d)]
  simp
/-- a whole number's float, made whole again -/
theorem toInt_int {q : Nat} {neg : Bool} (h : q < 9007199254740992) (hn : neg = true → q = 0) : (double.read (double.nearest neg q 0)).toInt .zero = some (q : Int) := by
  by_cases h0 : q = 0
  · subst h0
    rw [read_zero]
    unfold Datum.toInt Datum.integral Toward.cut
    cases neg <;> simp [signed]
  · have hneg : neg = false := by
      cases neg with
      | false => rfl
      | true => exact absurd (hn rfl) h0
    subst hneg
    obtain ⟨_, k1, k2⟩ := nearest_int (neg := false) h0 h
    have hl : q.log2 ≤ 52 := by have := log_le (k := 53) (by omega) h0; omega
    rw [read_int h0 h]
    unfold Datum.toInt Datum.integral
    simp only []
    rw [show ((q.log2 : Int) - 52).toNat = 0 by omega, show (-((q.log2 : Int) - 52)).toNat = 52 - q.log2 by omega, shl_eq, Nat.pow_zero, Nat.mul_one, cut_int h0 (by omega) k1 k2]
    simp [signed]
/-- the place that a part asks for lies in the row -/
theorem mid_range {p N : Nat} (hN : N < 1024) (h0 : (double.order p 0 == some .gt || double.order p 0 == some .eq) = true) (h1 : (double.order p one64 == some .lt || double.order p one64 == some .eq) = true) :
    ∃ h q : Nat, double.mul p (floatOfInt .f64 N) = some h ∧ q ≤ N ∧ floatToIntVal .f64 (floorB h) .i64 = some (q : Int) := by
  obtain ⟨s, m, i, hp, hs, hm⟩ := part_read h0 h1
  have hfl : ∀ (neg : Bool) (q : Nat), (neg = true → q = 0) → q ≤ N → floatToIntVal .f64 (double.nearest neg q 0) .i64 = some (q : Int) := fun neg q hn hq => by
    unfold floatToIntVal
    have : (FloatKind.f64.decode (double.nearest neg q 0)).toInt .zero = some (q : Int) := toInt_int (by omega) hn
    rw [this]
    have e : IntKind.i64.min ≤ (q : Int) ∧ (q : Int) ≤ IntKind.i64.max := by
      have e1 : IntKind.i64.min = -9223372036854775808 := by decide
      have e2 : IntKind.i64.max = 9223372036854775807 := by decide
      rw [e1, e2]; omega
    simp only
    rw [if_pos e]
  have hfi : floatOfInt .f64 N = double.nearest false N 0 := by
    show double.nearest (decide ((N : Int) < 0)) ((N : Int).natAbs) 0 = _
    rw [show decide ((N : Int) < 0) = false by simp, Int.natAbs_natCast]
  have hz : ∀ (neg : Bool) (pl : Int), floatToIntVal .f64 (floorB (double.nearest neg 0 pl)) .i64 = some ((0 : Nat) : Int) := fun neg pl => by
    have : floorB (double.nearest neg 0 pl) = double.nearest neg 0 0 := by
      unfold floorB
      rw [read_zero]
      unfold Datum.integral Toward.cut
      simp
      rfl
    rw [this]
    by_cases hq : neg = true
    · subst hq
      exact hfl true 0 (fun _ => rfl) (Nat.zero_le _)
    · exact hfl neg 0 (fun h => absurd h hq) (Nat.zero_le _)
  by_cases hN0 : N = 0
  · subst hN0
    refine ⟨double.nearest (s ^^ false) (m * 0) (i + -1074), 0, ?_, Nat.le_refl _, by rw [Nat.mul_zero]; exact hz _ _⟩
    rw [hfi]
    unfold Format.mul
    rw [hp, read_zero]
    rfl
  · refine ⟨double.nearest (s ^^ false) (m * (N * 2 ^ (52 - N.log2))) (i + ((N.log2 : Int) - 52)), ?_⟩
    have hmul : double.mul p (floatOfInt .f64 N) = some (double.nearest (s ^^ false) (m * (N * 2 ^ (52 - N.log2))) (i + ((N.log2 : Int) - 52))) := by
      rw [hfi]
      unfold Format.mul
      rw [hp, read_int hN0 (by omega)]
      rfl
    by_cases hm0 : m = 0
    · subst hm0
      exact ⟨0, hmul, Nat.zero_le _, by rw [Nat.zero_mul]; exact hz _ _⟩
    · have hsf : s = false := by
        cases s with
        | false => rfl
        | true => exact absurd (hs rfl) hm0
      subst hsf
      obtain ⟨hi, hmi⟩ := hm hm0
      have hl : N.log2 < 10 := log_le (by omega) hN0
      obtain ⟨t, ht⟩ : ∃ t : Nat, i + ((N.log2 : Int) - 52) = -(t : Int) := ⟨(-(i + ((N.log2 : Int) - 52))).toNat, by omega⟩
      rw [ht] at hmul ⊢
      have hle : m * (N * 2 ^ (52 - N.log2)) ≤ N * 2 ^ t := by
        have : m * (N * 2 ^ (52 - N.log2)) ≤ 2 ^ (-i).toNat * (N * 2 ^ (52 - N.log2)) := Nat.mul_le_mul_right _ hmi
        refine Nat.le_trans this (Nat.le_of_eq ?_)
        rw [Nat.mul_left_comm, ← Nat.pow_add]
        congr 2; omega
      have hne : m * (N * 2 ^ (52 - N.log2)) ≠ 0 := Nat.mul_ne_zero hm0 (Nat.mul_ne_zero hN0 (Nat.pos_iff_ne_zero.1 (Nat.two_pow_pos _)))
      obtain ⟨K, P, hr, hK⟩ := nearest_le hne hN hle
      refine ⟨Toward.down.cut false K P, hmul, cut_down_le hK, ?_⟩
      have : floorB (double.nearest (false ^^ false) (m * (N * 2 ^ (52 - N.log2))) (-(t : Int))) = double.nearest false (Toward.down.cut false K P) 0 := by
        unfold floorB
        rw [show (false ^^ false) = false by rfl, hr]
        unfold Datum.integral
        simp only []
        rw [show (-(P : Int)).toNat = 0 by omega, show (- -(P : Int)).toNat = P by omega, shl_eq, Nat.pow_zero, Nat.mul_one]
        rfl
      rw [this]
      exact hfl false _ (fun h => by cases h) (cut_down_le hK)
end Go.Proofs.YtidejikolcgojaaGreat.St

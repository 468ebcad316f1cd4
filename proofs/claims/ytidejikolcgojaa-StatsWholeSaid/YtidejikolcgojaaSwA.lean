/- Stats: whole numbers as floats: sums, products and orders are exact. -/
import Derived.Test.YtidejikolcgojaaStX
import Derived.Test.YtidejikolcgojaaStE
namespace Go.Proofs.Ytidejikolcgojaa.St
open Ieee Go.RowKit

theorem log_scale {q k : Nat} (h : q ≠ 0) : (q * 2 ^ k).log2 = q.log2 + k := by
  obtain ⟨b1, b2⟩ := log_bd h
  have h0 : q * 2 ^ k ≠ 0 := Nat.mul_ne_zero h (Nat.pos_iff_ne_zero.1 (Nat.two_pow_pos k))
  have l1 : 2 ^ (q.log2 + k) ≤ q * 2 ^ k := by rw [Nat.pow_add]; exact Nat.mul_le_mul_right _ b1
  have l2 : q * 2 ^ k < 2 ^ (q.log2 + 1 + k) := by rw [Nat.pow_add]; exact Nat.mul_lt_mul_of_pos_right b2 (Nat.two_pow_pos k)
  have u1 := (Nat.le_log2 h0).2 l1
  have u2 := (Nat.log2_lt h0).2 l2
  omega
theorem cut_exact {neg : Bool} {a d : Nat} (h : a ≠ 0) : Toward.even.cut neg (a * 2 ^ d) d = a := by
  unfold Toward.cut
  have hl : (a * 2 ^ d).log2 = a.log2 + d := log_scale h
  have hp := Nat.two_pow_pos d
  rw [hl, show min d (a.log2 + d + 2) = d by omega]
  simp only [shl_eq, Nat.one_mul]
  rw [Nat.mul_div_cancel _ hp, Nat.mul_mod_left]
  have hm : (decide (2 ^ d < 2 * 0) || (2 ^ d == 2 * 0 && a % 2 == 1)) = false := by
    simp
  rw [hm]
  rfl
theorem nearest_scale {s : Bool} {q k : Nat} (h0 : q ≠ 0) (h : q < 9007199254740992) : double.nearest s (q * 2 ^ k) (-(k : Int)) = double.nearest s q 0 := by
  have hl : q.log2 ≤ 52 := by have := log_le (k := 53) (by omega) h0; omega
  have h1 : q * 2 ^ k ≠ 0 := Nat.mul_ne_zero h0 (Nat.pos_iff_ne_zero.1 (Nat.two_pow_pos k))
  rw [(nearest_int h0 h).1]
  unfold Format.nearest
  rw [if_neg h1, lp, bn, ir, log_scale h0]
  have ef : double.fractionBits = 52 := rfl
  rw [ef]
  have hmax : max (-(k : Int) + ((q.log2 + k : Nat) : Int) - (52 : Nat)) (-1074) = (q.log2 : Int) - 52 := by omega
  simp only [hmax]
  have h3 : ((q.log2 : Int) - 52 - -1074).toNat = 1022 + q.log2 := by omega
  rw [h3, shl_eq]
  have hk : Toward.even.cut s (q * 2 ^ k * 2 ^ (-(k : Int) - ((q.log2 : Int) - 52)).toNat) ((q.log2 : Int) - 52 - -(k : Int)).toNat = q * 2 ^ (52 - q.log2) := by
    rcases Nat.le_total k (52 - q.log2) with hk | hk
    · rw [show ((q.log2 : Int) - 52 - -(k : Int)).toNat = 0 by omega, cut_zero, Nat.mul_assoc, ← Nat.pow_add]
      congr 2; omega
    · rw [show (-(k : Int) - ((q.log2 : Int) - 52)).toNat = 0 by omega, Nat.pow_zero, Nat.mul_one]
      have e : q * 2 ^ k = q * 2 ^ (52 - q.log2) * 2 ^ ((q.log2 : Int) - 52 - -(k : Int)).toNat := by
        rw [Nat.mul_assoc, ← Nat.pow_add]
        congr 2; omega
      rw [e]
      exact cut_exact (Nat.mul_ne_zero h0 (Nat.pos_iff_ne_zero.1 (Nat.two_pow_pos _)))
  rw [hk]
  congr 1
  have := (nearest_int (neg := s) h0 h).2
  exact Nat.min_eq_left (by omega)

abbrev big53 : Nat := 9007199254740992
/-- the datum stands for the whole number n -/
def DI (d : Datum) (n : Int) : Prop := ∃ (s : Bool) (i : Nat), d = .number s (n.natAbs * 2 ^ i) (-(i : Int)) ∧ (n ≠ 0 → s = decide (n < 0))
/-- the float stands for the whole number n -/
def FI (f : Fl) (n : Int) : Prop := ∃ x, f = some x ∧ x < bits64 ∧ isN x = false ∧ DI (double.read x) n ∧ n.natAbs < big53
theorem di_signed {s : Bool} {n : Int} {i u : Nat} (h : n ≠ 0 → s = decide (n < 0)) : signed s (n.natAbs * 2 ^ i) u = n * 2 ^ (i + u) := by
  unfold signed
  rw [shl_eq, Nat.mul_assoc, ← Nat.pow_add]
  by_cases h0 : n = 0
  · subst h0
    cases s <;> simp
  · rw [h h0]
    have hc : ((n.natAbs * 2 ^ (i + u) : Nat) : Int) = (n.natAbs : Int) * 2 ^ (i + u) := by simp
    rw [hc]
    by_cases hn : n < 0
    · rw [decide_eq_true hn, if_pos rfl, ← Int.neg_mul]
      congr 1; omega
    · rw [decide_eq_false hn, if_neg (by decide)]
      congr 1; omega
theorem di_zero (s : Bool) (i : Nat) {p : Int} (h : p = -(i : Int)) : DI (.number s 0 p) 0 :=
  ⟨s, i, by rw [h, show (0 : Int).natAbs = 0 from rfl, Nat.zero_mul], fun h => absurd rfl h⟩
theorem di_opp {d : Datum} {n : Int} (h : DI d n) : DI d.opposite (-n) := by
  obtain ⟨s, i, rfl, hs⟩ := h
  refine ⟨!s, i, by simp [Datum.opposite], fun h0 => ?_⟩
  rw [hs (by omega)]
  by_cases hn : n < 0
  · rw [decide_eq_true hn, decide_eq_false (by omega)]; rfl
  · rw [decide_eq_false hn, decide_eq_true (by omega)]; rfl
theorem natAbs_pow (n : Int) (k : Nat) : (n * 2 ^ k).natAbs = n.natAbs * 2 ^ k := by
  rw [Int.natAbs_mul]
  have : ((2 : Int) ^ k) = ((2 ^ k : Nat) : Int) := by simp
  rw [this, Int.natAbs_natCast]
theorem pow_pos' (k : Nat) : (0 : Int) < 2 ^ k := by
  have : ((2 : Int) ^ k) = ((2 ^ k : Nat) : Int) := by simp
  rw [this]
  have := Nat.two_pow_pos k
  omega
theorem di_sum {d e : Datum} {a b : Int} (h1 : DI d a) (h2 : DI e b) : ∃ c, d.sum e = some c ∧ DI c (a + b) := by
  obtain ⟨s, i, rfl, hs⟩ := h1
  obtain ⟨t, j, rfl, ht⟩ := h2
  have e1 : (-(i : Int) - min (-(i : Int)) (-(j : Int))).toNat = max i j - i := by omega
  have e2 : (-(j : Int) - min (-(i : Int)) (-(j : Int))).toNat = max i j - j := by omega
  refine ⟨_, rfl, ?_⟩
  rw [e1, e2, di_signed hs, di_signed ht, show i + (max i j - i) = max i j by omega, show j + (max i j - j) = max i j by omega, ← Int.add_mul]
  refine ⟨if (a + b) * 2 ^ max i j = 0 then s && t else decide ((a + b) * 2 ^ max i j < 0), max i j, ?_, ?_⟩
  · rw [natAbs_pow]
    congr 1
    omega
  · intro h0
    have hp := pow_pos' (max i j)
    rw [if_neg (fun h => by rcases Int.mul_eq_zero.1 h with h | h; exact h0 h; omega)]
    rw [decide_eq_decide]
    constructor
    · intro h
      rcases Int.lt_or_le (a + b) 0 with h' | h'
      · exact h'
      · have := Int.mul_nonneg h' (Int.le_of_lt hp)
        omega
    · intro h
      exact Int.mul_neg_of_neg_of_pos h hp
theorem di_product {d e : Datum} {a b : Int} (h1 : DI d a) (h2 : DI e b) : ∃ c, d.product e = some c ∧ DI c (a * b) := by
  obtain ⟨s, i, rfl, hs⟩ := h1
  obtain ⟨t, j, rfl, ht⟩ := h2
  refine ⟨_, rfl, s ^^ t, i + j, ?_, fun h0 => ?_⟩
  · rw [Int.natAbs_mul, Nat.pow_add]
    congr 1
    · rw [Nat.mul_assoc, Nat.mul_assoc]
      congr 1
      rw [← Nat.mul_assoc, Nat.mul_comm (2 ^ i), Nat.mul_assoc]
    · omega
  · have ha : a ≠ 0 := fun h => h0 (by rw [h]; simp)
    have hb : b ≠ 0 := fun h => h0 (by rw [h]; simp)
    rw [hs ha, ht hb]
    by_cases h1 : a < 0 <;> by_cases h2 : b < 0
    · rw [decide_eq_true h1, decide_eq_true h2, decide_eq_false (by have := Int.mul_pos_of_neg_of_neg h1 h2; omega)]; rfl
    · rw [decide_eq_true h1, decide_eq_false h2, decide_eq_true (Int.mul_neg_of_neg_of_pos h1 (by omega))]; rfl
    · rw [decide_eq_false h1, decide_eq_true h2, decide_eq_true (Int.mul_neg_of_pos_of_neg (by omega) h2)]; rfl
    · rw [decide_eq_false h1, decide_eq_false h2, decide_eq_false (by have := Int.mul_pos (show 0 < a by omega) (show 0 < b by omega); omega)]; rfl
theorem di_write {d : Datum} {n : Int} (h : DI d n) (hn : n.natAbs < big53) : FI (some (double.write d)) n := by
  obtain ⟨s, i, rfl, hs⟩ := h
  refine ⟨_, rfl, f64_lt _, write_num rfl, ?_, hn⟩
  show DI (double.read (double.nearest s (n.natAbs * 2 ^ i) (-(i : Int)))) n
  by_cases h0 : n = 0
  · subst h0
    rw [show (0 : Int).natAbs * 2 ^ i = 0 by simp, read_zero]
    exact di_zero s 1074 rfl
  · have hq : n.natAbs ≠ 0 := by omega
    have hl : n.natAbs.log2 ≤ 52 := by have := log_le (k := 53) (by unfold big53 at hn; omega) hq; omega
    rw [nearest_scale hq hn, read_int hq hn]
    exact ⟨s, 52 - n.natAbs.log2, by congr 1; omega, hs⟩
theorem FI.bits {f : Fl} {n : Int} (h : FI f n) : ∃ x, f = some x ∧ x < bits64 ∧ isN x = false := by
  obtain ⟨x, h1, h2, h3, _⟩ := h
  exact ⟨x, h1, h2, h3⟩
theorem FI.lt {f : Fl} {n : Int} (h : FI f n) : n.natAbs < big53 := by
  obtain ⟨x, _, _, _, _, h⟩ := h
  exact h
theorem fi_add {f g : Fl} {a b : Int} (h1 : FI f a) (h2 : FI g b) (hb : (a + b).natAbs < big53) : FI (fadd f g) (a + b) := by
  obtain ⟨x, rfl, _, _, hx, _⟩ := h1
  obtain ⟨y, rfl, _, _, hy, _⟩ := h2
  obtain ⟨c, hc, hd⟩ := di_sum hx hy
  have e : fadd (some x) (some y) = some (double.write c) := by
    show ((double.read x).sum (double.read y)).map double.write = _
    rw [hc]; rfl
  rw [e]
  exact di_write hd hb
theorem fi_sub {f g : Fl} {a b : Int} (h1 : FI f a) (h2 : FI g b) (hb : (a - b).natAbs < big53) : FI (fsub f g) (a - b) := by
  obtain ⟨x, rfl, _, _, hx, _⟩ := h1
  obtain ⟨y, rfl, _, _, hy, _⟩ := h2
  obtain ⟨c, hc, hd⟩ := di_sum hx (di_opp hy)
  have e : fsub (some x) (some y) = some (double.write c) := by
    show ((double.read x).sum (double.read y).opposite).map double.write = _
    rw [hc]; rfl
  rw [e]
  exact di_write hd hb
theorem fi_mul {f g : Fl} {a b : Int} (h1 : FI f a) (h2 : FI g b) (hb : (a * b).natAbs < big53) : FI (fmul f g) (a * b) := by
  obtain ⟨x, rfl, _, _, hx, _⟩ := h1
  obtain ⟨y, rfl, _, _, hy, _⟩ := h2
  obtain ⟨c, hc, hd⟩ := di_product hx hy
  have e : fmul (some x) (some y) = some (double.write c) := by
    show ((double.read x).product (double.read y)).map double.write = _
    rw [hc]; rfl
  rw [e]
  exact di_write hd hb
theorem fi_int {n : Int} (h : n.natAbs < big53) : FI (some (floatOfInt .f64 n)) n :=
  di_write (d := .number (n < 0) n.natAbs 0) ⟨decide (n < 0), 0, by simp, fun _ => rfl⟩ h
theorem fi_0 : FI (some 0) 0 := ⟨0, rfl, by decide, by decide, by rw [read_0]; exact di_zero false 1074 rfl, by decide⟩
theorem fi_1 : FI (some one64) 1 := ⟨one64, rfl, by decide, by decide, ⟨false, 52, by rw [read_1]; rfl, fun _ => rfl⟩, by decide⟩
theorem fi_ford {f g : Fl} {a b : Int} (h1 : FI f a) (h2 : FI g b) : ford f g = some (compare a b) := by
  obtain ⟨x, rfl, _, _, ⟨s, i, hx, hs⟩, _⟩ := h1
  obtain ⟨y, rfl, _, _, ⟨t, j, hy, ht⟩, _⟩ := h2
  show (double.read x).order (double.read y) = _
  rw [hx, hy]
  simp only [Datum.order]
  have e1 : (-(i : Int) - min (-(i : Int)) (-(j : Int))).toNat = max i j - i := by omega
  have e2 : (-(j : Int) - min (-(i : Int)) (-(j : Int))).toNat = max i j - j := by omega
  rw [e1, e2, di_signed hs, di_signed ht, show i + (max i j - i) = max i j by omega, show j + (max i j - j) = max i j by omega]
  congr 1
  have hp := pow_pos' (max i j)
  generalize (2 : Int) ^ max i j = c at hp
  rw [Int.compare_eq_ite_lt, Int.compare_eq_ite_lt]
  have k1 : a * c < b * c ↔ a < b := ⟨fun h => Int.lt_of_mul_lt_mul_right h (Int.le_of_lt hp), fun h => Int.mul_lt_mul_of_pos_right h hp⟩
  have k2 : b * c < a * c ↔ b < a := ⟨fun h => Int.lt_of_mul_lt_mul_right h (Int.le_of_lt hp), fun h => Int.mul_lt_mul_of_pos_right h hp⟩
  simp only [k1, k2]
theorem fi_eq {f g : Fl} {a : Int} (h1 : FI f a) (h2 : FI g a) : (ford f g == some .eq) = true := by
  rw [fi_ford h1 h2]
  simp
theorem fi_zero {f : Fl} {n : Int} (h : FI f n) : FI (fzero f) n := by
  unfold fzero
  rw [fi_ford h fi_0]
  by_cases h0 : n = 0
  · subst h0
    rw [if_pos (by simp)]
    exact fi_0
  · rw [if_neg (by simp [h0])]
    exact h
inductive FIs : List Fl → List Int → Prop
  | nil : FIs [] []
  | cons {f : Fl} {n : Int} {fs : List Fl} {ns : List Int} : FI f n → FIs fs ns → FIs (f :: fs) (n :: ns)
/-- the sum of whole numbers -/
theorem fi_fold {fs : List Fl} {ns : List Int} (h : FIs fs ns) (B : Nat) (hB : ∀ n ∈ ns, n.natAbs ≤ B) (hl : ns.length * B < big53) : FI (sumL fs) ns.sum := by
  have key : ∀ (fs : List Fl) (ns : List Int), FIs fs ns → (∀ n ∈ ns, n.natAbs ≤ B) → ∀ (p : Fl × Fl) (s : Int), FI p.1 s → FI p.2 0 → s.natAbs + ns.length * B < big53 → FI (fs.foldl addF p).1 (s + ns.sum) ∧ FI (fs.foldl addF p).2 0 := by
    intro fs ns h
    induction h with
    | nil => intro _ p s h1 h2 _; simpa using ⟨h1, h2⟩
    | @cons f n fs ns hf hfs ih =>
      intro hb p s h1 h2 hlt
      have hn := hb n (by simp)
      simp only [List.length_cons, Nat.add_mul, Nat.one_mul] at hlt
      have hsn : (s + n).natAbs + ns.length * B < big53 := by omega
      have ht := fi_add h1 hf (by omega)
      have hc : FI (addF p f).2 0 := by
        unfold addF
        simp only []
        have e1 := fi_sub h1 ht (by omega)
        have e2 := fi_sub hf ht (by omega)
        have e3 := fi_add e1 hf (by omega)
        have e4 := fi_add e2 h1 (by omega)
        rw [show s - (s + n) + n = 0 by omega] at e3
        rw [show n - (s + n) + s = 0 by omega] at e4
        split
        · exact fi_add h2 e3 (by decide)
        · exact fi_add h2 e4 (by decide)
      have hs : FI (addF p f).1 (s + n) := by unfold addF; exact ht
      have := ih (fun m hm => hb m (by simp [hm])) (addF p f) (s + n) hs hc hsn
      rw [List.sum_cons, ← Int.add_assoc]
      exact this
  obtain ⟨k1, k2⟩ := key fs ns h hB (some 0, some 0) 0 fi_0 fi_0 (by simpa using hl)
  rw [Int.zero_add] at k1
  have := fi_add k1 k2 (by rw [Int.add_zero]; exact k1.lt)
  rw [Int.add_zero] at this
  exact this
end Go.Proofs.Ytidejikolcgojaa.St

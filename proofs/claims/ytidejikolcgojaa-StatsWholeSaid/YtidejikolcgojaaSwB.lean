/- Stats: rows of whole numbers, plainly. -/
import Derived.Test.YtidejikolcgojaaSwA
import Derived.Test.YtidejikolcgojaaStV
import Derived.Test.YtidejikolcgojaaStM
import Derived.Test.YtidejikolcgojaaStN
namespace Go.Proofs.Ytidejikolcgojaa.St
open Ieee Go.RowKit

abbrev big40 : Nat := 1099511627776
/-- a whole number's bits -/
def wB (n : Int) : Nat := floatOfInt .f64 n
theorem wB_0 : wB 0 = 0 := by kernel_rfl
theorem wB_lt (n : Int) : wB n < bits64 := (isF_int n).1
theorem wB_cn (n : Int) : cn (wB n) = some (wB n) := (isF_int n).2
/-- numbers below 2 to the power 40 -/
def Bd (ns : List Int) : Prop := ∀ n ∈ ns, n.natAbs ≤ big40
theorem fis_row : ∀ {ns : List Int}, Bd ns → FIs (nums (ns.map wB)) ns
  | [], _ => .nil
  | n :: ns, h => by
    have h1 : FI (cn (wB n)) n := by
      rw [wB_cn]
      exact fi_int (by have := h n (by simp); unfold big40 at this; unfold big53; omega)
    exact .cons h1 (fis_row (ns := ns) fun m hm => h m (by simp [hm]))
theorem row_lt {ns : List Int} : ∀ x ∈ ns.map wB, x < bits64 := fun x hx => by
  obtain ⟨n, _, rfl⟩ := List.mem_map.1 hx
  exact wB_lt n
theorem row_mem {ns : List Int} (h : Bd ns) {x : Nat} (hx : x ∈ ns.map wB) : ∃ n ∈ ns, FI (cn x) n := by
  obtain ⟨n, hn, rfl⟩ := List.mem_map.1 hx
  exact ⟨n, hn, by rw [wB_cn]; exact fi_int (by have := h n hn; unfold big40 at this; unfold big53; omega)⟩
theorem row_num {ns : List Int} (h : Bd ns) : (ns.map wB).any isN = false := by
  rw [List.any_eq_false]
  intro x hx hn
  obtain ⟨n, _, y, hy, _⟩ := row_mem h hx
  have := (cn_some hy).2
  rw [this] at hn
  cases hn
theorem row_ok {ns : List Int} (h : Bd ns) : okL (ns.map wB) = ns.map wB := by
  unfold okL
  rw [List.filter_eq_self]
  intro x hx
  have := row_num h
  rw [List.any_eq_false] at this
  simpa using this x hx
theorem sum_bd : ∀ {ns : List Int}, Bd ns → ns.sum.natAbs ≤ ns.length * big40
  | [], _ => by simp
  | n :: ns, h => by
    have h1 := h n (by simp)
    have h2 := sum_bd (ns := ns) fun m hm => h m (by simp [hm])
    rw [List.sum_cons, List.length_cons, Nat.add_mul, Nat.one_mul]
    omega
theorem row_sum {ns : List Int} (h : Bd ns) (hl : ns.length ≤ 600) : FI (fzero (sumL (nums (ns.map wB)))) ns.sum :=
  fi_zero (fi_fold (fis_row h) big40 h (by unfold big40 big53; omega))
theorem fi_sum {ns : List Int} (h : Bd ns) (hl : ns.length ≤ 600) : FI (some (wB ns.sum)) ns.sum :=
  fi_int (by have := sum_bd h; unfold big40 at this; unfold big53; omega)
theorem worth_1 : ∀ {fs : List Fl} {ns : List Int}, FIs fs ns → Bd ns → ns.length ≤ 600 → FI (worthF (some one64) fs) ns.sum := by
  intro fs ns h
  induction h with
  | nil => intro _ _; exact fi_0
  | @cons f n fs ns hf hfs ih =>
    intro hb hl
    have hb2 : Bd ns := fun m hm => hb m (by simp [hm])
    simp only [List.length_cons] at hl
    have h1 := ih hb2 (by omega)
    have s1 := sum_bd hb2
    have s2 := sum_bd hb
    have h2 := fi_mul fi_1 h1 (by rw [Int.one_mul]; exact h1.lt)
    rw [Int.one_mul] at h2
    have hn : (n + ns.sum).natAbs < big53 := by
      rw [List.sum_cons, List.length_cons] at s2
      unfold big40 at s2
      unfold big53
      omega
    exact fi_add hf h2 hn
theorem worth_0 : ∀ {fs : List Fl} {ns : List Int}, FIs fs ns → FI (worthF (some 0) fs) (ns.headD 0) := by
  intro fs ns h
  induction h with
  | nil => exact fi_0
  | @cons f n fs ns hf hfs ih =>
    have h2 := fi_mul fi_0 ih (by rw [Int.zero_mul]; decide)
    rw [Int.zero_mul] at h2
    have h3 := fi_add hf h2 (by rw [Int.add_zero]; exact hf.lt)
    rw [Int.add_zero] at h3
    exact h3
theorem row_worth1 {ns : List Int} (h : Bd ns) (hl : ns.length ≤ 600) : FI (fzero (worthF (some one64) (nums (ns.map wB)))) ns.sum := fi_zero (worth_1 (fis_row h) h hl)
theorem row_worth0 {ns : List Int} (h : Bd ns) : FI (fzero (worthF (some 0) (nums (ns.map wB)))) (ns.headD 0) := fi_zero (worth_0 (fis_row h))

/-- two floats that stand for one number -/
theorem neq_fi {r s : Nat} {F G : Fl} {n : Int} (hr : IsF r F) (hs : IsF s G) (h1 : FI F n) (h2 : FI G n) : (FloatKind.f64.format.order r s != some .eq) = false := by
  rw [order_isF hr hs]
  have := fi_eq h1 h2
  simpa [bne] using this
theorem eq_fi {r s : Nat} {F G : Fl} {n : Int} (hr : IsF r F) (hs : IsF s G) (h1 : FI F n) (h2 : FI G n) : (FloatKind.f64.format.order r s == some .eq) = true := by
  rw [order_isF hr hs]
  exact fi_eq h1 h2

/-- the order forgets how the row stood -/
theorem sort_perm {l l' : List Nat} (h : ∀ x ∈ l, x < bits64) (hp : l'.Perm l) : sortB l' = sortB l := sortB_uniq h ((sortB_perm l').trans hp) (sortB_sorted l')
theorem rot_perm (l : List Nat) (k : Nat) : (l.drop k ++ l.take k).Perm l := by
  have := List.perm_append_comm (l₁ := l.drop k) (l₂ := l.take k)
  rwa [List.take_append_drop] at this
theorem rot_sum (ns : List Int) (k : Nat) : (ns.drop k ++ ns.take k).sum = ns.sum := by
  rw [List.sum_append, Int.add_comm, ← List.sum_append, List.take_append_drop]
theorem rev_sum : ∀ ns : List Int, ns.reverse.sum = ns.sum
  | [] => rfl
  | n :: ns => by rw [List.reverse_cons, List.sum_append, rev_sum ns]; simp; omega
theorem row_end {ns : List Int} (h : Bd ns) (hne : ns ≠ []) : (∃ n, FI (cn (endA (ns.map wB))) n) ∧ ∃ n, FI (cn (endB (ns.map wB))) n := by
  unfold endA endB
  rw [row_ok h]
  have hm : ∀ x ∈ sortB (ns.map wB), ∃ n, FI (cn x) n := fun x hx => by
    obtain ⟨n, _, hn⟩ := row_mem h ((sortB_perm _).mem_iff.1 hx)
    exact ⟨n, hn⟩
  have hl : (sortB (ns.map wB)).length = ns.length := by rw [sortB_length, List.length_map]
  generalize sortB (ns.map wB) = s at hm hl
  have hp : 0 < ns.length := List.length_pos_iff.2 hne
  cases s with
  | nil => simp at hl; omega
  | cons x r =>
    refine ⟨hm x (by simp), hm _ ?_⟩
    rw [List.getLastD_eq_getLast?, List.getLast?_eq_some_getLast (by simp)]
    exact List.getLast_mem _
theorem in_0 : inB 0 = true := by kernel_rfl
theorem in_1 : inB one64 = true := by kernel_rfl
set_option maxRecDepth 100000 in
theorem mid_all : ((List.range 501).all fun n => midI 0 n == 0 && midF 0 n == some 0 && midI one64 n == n - 1) = true := by decide +kernel
theorem mid_ends {n : Nat} (h : n ≤ 500) : midI 0 n = 0 ∧ midF 0 n = some 0 ∧ midI one64 n = n - 1 := by
  have := List.all_eq_true.1 mid_all n (by rw [List.mem_range]; omega)
  simpa [and_assoc] using this
theorem row_mid0 {ns : List Int} (h : Bd ns) (hne : ns ≠ []) (hl : ns.length ≤ 500) {n : Int} (hn : FI (cn (endA (ns.map wB))) n) : FI (fzero (midL 0 (ns.map wB))) n := by
  obtain ⟨m0, m1, _⟩ := mid_ends hl
  have hp : 0 < ns.length := List.length_pos_iff.2 hne
  have hm : ∀ x ∈ sortB (ns.map wB), ∃ n, FI (cn x) n := fun x hx => by
    obtain ⟨n, _, hn⟩ := row_mem h ((sortB_perm _).mem_iff.1 hx)
    exact ⟨n, hn⟩
  have hs : (sortB (ns.map wB)).length = ns.length := by rw [sortB_length, List.length_map]
  unfold endA at hn
  rw [row_ok h] at hn
  refine fi_zero ?_
  unfold midL
  rw [List.length_map, m0, m1]
  have e0 : (sortB (ns.map wB)).getD 0 0 = (sortB (ns.map wB)).headD 0 := by
    cases sortB (ns.map wB) <;> rfl
  rw [e0]
  split
  · exact hn
  · obtain ⟨m, hm2⟩ := hm ((sortB (ns.map wB)).getD (0 + 1) 0) (by
      have hlt : 0 + 1 < (sortB (ns.map wB)).length := by omega
      rw [List.getD_eq_getElem?_getD, List.getElem?_eq_getElem hlt, Option.getD_some]
      exact List.getElem_mem _)
    have k1 := fi_sub fi_1 fi_0 (by decide)
    have k2 := fi_mul hn k1 (by rw [show (1 : Int) - 0 = 1 by decide, Int.mul_one]; exact hn.lt)
    have k3 := fi_mul hm2 fi_0 (by rw [Int.mul_zero]; decide)
    rw [show (1 : Int) - 0 = 1 by decide, Int.mul_one] at k2
    rw [Int.mul_zero] at k3
    have k4 := fi_add k2 k3 (by rw [Int.add_zero]; exact hn.lt)
    rw [Int.add_zero] at k4
    exact k4
theorem row_mid1 {ns : List Int} (h : Bd ns) (hne : ns ≠ []) (hl : ns.length ≤ 500) {l : List Nat} (hp : l.Perm (ns.map wB)) {n : Int} (hn : FI (cn (endB (ns.map wB))) n) : FI (fzero (midL one64 l)) n := by
  have e : l.length = ns.length := by rw [hp.length_eq, List.length_map]
  obtain ⟨_, _, m2⟩ := mid_ends hl
  have hpos : 0 < ns.length := List.length_pos_iff.2 hne
  refine fi_zero ?_
  unfold midL
  rw [e, m2, if_pos rfl, sort_perm row_lt hp]
  unfold endB at hn
  rw [row_ok h] at hn
  have hs : (sortB (ns.map wB)).length = ns.length := by rw [sortB_length, List.length_map]
  have e2 : (sortB (ns.map wB)).getLastD 0 = (sortB (ns.map wB)).getD (ns.length - 1) 0 := by
    rw [List.getLastD_eq_getLast?, List.getLast?_eq_getElem?, hs]
    rfl
  rw [← e2]
  exact hn
theorem midL_perm {p : Nat} {l l' : List Nat} (h : ∀ x ∈ l, x < bits64) (hp : l'.Perm l) : midL p l' = midL p l := by
  unfold midL
  rw [hp.length_eq, sort_perm h hp]
theorem uneqL_perm {l l' : List Nat} (h : ∀ x ∈ l, x < bits64) (hp : l'.Perm l) : uneqL l' = uneqL l := by
  unfold uneqL uneqN
  rw [hp.length_eq, sort_perm h hp]
theorem any_perm {l l' : List Nat} (hp : l'.Perm l) : l'.any isN = l.any isN := by
  rw [Bool.eq_iff_iff, List.any_eq_true, List.any_eq_true]
  exact ⟨fun ⟨x, h1, h2⟩ => ⟨x, hp.mem_iff.1 h1, h2⟩, fun ⟨x, h1, h2⟩ => ⟨x, hp.mem_iff.2 h1, h2⟩⟩
theorem empty_perm {l l' : List Nat} (hp : l'.Perm l) : l'.isEmpty = l.isEmpty := by
  have := hp.length_eq
  cases l <;> cases l' <;> simp at this <;> rfl
theorem midNo_perm {p : Nat} {l l' : List Nat} (hp : l'.Perm l) : midNo p l' = midNo p l := by
  unfold midNo
  rw [empty_perm hp, any_perm hp]
theorem uneqNo_perm {l l' : List Nat} (hp : l'.Perm l) : uneqNo l' = uneqNo l := by
  unfold uneqNo
  rw [empty_perm hp, any_perm hp]
theorem ends_perm {l l' : List Nat} (h : ∀ x ∈ l, x < bits64) (hp : l'.Perm l) : endA l' = endA l ∧ endB l' = endB l ∧ (okL l').isEmpty = (okL l).isEmpty := by
  have hk : (okL l').Perm (okL l) := hp.filter _
  unfold endA endB
  rw [sort_perm (okL_lt h) hk]
  exact ⟨rfl, rfl, empty_perm hk⟩

/-- turned about by a place -/
def everyI (ns : List Int) (p : Nat) : List Int := (List.range ((ns.length + 3 - p) / 4)).map fun i => ns.getD (4 * i + p) 0
theorem every_map (ns : List Int) (p : Nat) : everyN (ns.map wB) p = (everyI ns p).map wB := by
  unfold everyN everyI
  rw [List.length_map, List.map_map]
  refine List.map_congr_left fun i _ => ?_
  simp only [Function.comp, List.getD_eq_getElem?_getD, List.getElem?_map]
  cases ns[4 * i + p]? with
  | none => exact wB_0.symm
  | some n => rfl
theorem everyI_bd {ns : List Int} (h : Bd ns) (p : Nat) : Bd (everyI ns p) := by
  intro n hn
  unfold everyI at hn
  obtain ⟨i, _, rfl⟩ := List.mem_map.1 hn
  rw [List.getD_eq_getElem?_getD]
  cases hx : ns[4 * i + p]? with
  | none => simp
  | some m => exact h m (List.mem_of_getElem? hx)
theorem everyI_length {ns : List Int} {m p : Nat} (h : ns.length = 4 * m) (hp : p ≤ 3) : (everyI ns p).length = m := by
  unfold everyI
  rw [List.length_map, List.length_range]
  omega
theorem turnS_fi {ns : List Int} (h : Bd ns) (hl : ns.length ≤ 600) (p : Nat) : FI (turnS (ns.map wB) p) (everyI ns p).sum := by
  unfold turnS
  rw [every_map]
  have hle : (everyI ns p).length ≤ 600 := by
    unfold everyI
    rw [List.length_map, List.length_range]
    omega
  exact fi_fold (fis_row (everyI_bd h p)) big40 (everyI_bd h p) (by unfold big40 big53; omega)
theorem every_bd {ns : List Int} (h : Bd ns) (hl : ns.length ≤ 600) (p : Nat) : (everyI ns p).sum.natAbs ≤ 600 * big40 := by
  have h1 := sum_bd (everyI_bd h p)
  have hle : (everyI ns p).length ≤ 600 := by
    unfold everyI
    rw [List.length_map, List.length_range]
    omega
  exact Nat.le_trans h1 (Nat.mul_le_mul_right _ hle)
theorem turnR_fi {ns : List Int} (h : Bd ns) (hl : ns.length ≤ 600) : FI (turnR (ns.map wB)) ((everyI ns 0).sum - (everyI ns 2).sum) := by
  have a := every_bd h hl 0
  have b := every_bd h hl 2
  exact fi_zero (fi_sub (turnS_fi h hl 0) (turnS_fi h hl 2) (by unfold big40 at a b; unfold big53; omega))
theorem turnI_fi {ns : List Int} (h : Bd ns) (hl : ns.length ≤ 600) : FI (turnI (ns.map wB)) ((everyI ns 1).sum - (everyI ns 3).sum) := by
  have a := every_bd h hl 1
  have b := every_bd h hl 3
  exact fi_zero (fi_sub (turnS_fi h hl 1) (turnS_fi h hl 3) (by unfold big40 at a b; unfold big53; omega))
/-- the last one ahead -/
def turnI' (ns : List Int) : List Int := ns.getD (ns.length - 1) 0 :: ns.take (ns.length - 1)
theorem turn_bd {ns : List Int} (h : Bd ns) : Bd (turnI' ns) := by
  intro n hn
  rcases List.mem_cons.1 hn with rfl | hn
  · rw [List.getD_eq_getElem?_getD]
    cases hx : ns[ns.length - 1]? with
    | none => simp
    | some m => exact h m (List.mem_of_getElem? hx)
  · exact h n (List.mem_of_mem_take hn)
theorem turn_at {ns : List Int} {j : Nat} (h : j + 1 < ns.length) : (turnI' ns).getD (j + 1) 0 = ns.getD j 0 := by
  unfold turnI'
  rw [List.getD_eq_getElem?_getD, List.getElem?_cons_succ, List.getElem?_take, if_pos (by omega), List.getD_eq_getElem?_getD]
theorem turn_sums {ns : List Int} {m : Nat} (h : ns.length = 4 * m) (hm : 0 < m) : (everyI (turnI' ns) 0).sum = (everyI ns 3).sum ∧ (everyI (turnI' ns) 1).sum = (everyI ns 0).sum ∧ (everyI (turnI' ns) 2).sum = (everyI ns 1).sum ∧ (everyI (turnI' ns) 3).sum = (everyI ns 2).sum := by
  have hl : (turnI' ns).length = 4 * m := by
    unfold turnI'
    rw [List.length_cons, List.length_take]
    omega
  have shift : ∀ p, p < 3 → everyI (turnI' ns) (p + 1) = everyI ns p := fun p hp => by
    unfold everyI
    rw [hl, h, show (4 * m + 3 - (p + 1)) / 4 = m by omega, show (4 * m + 3 - p) / 4 = m by omega]
    refine List.map_congr_left fun i hi => ?_
    have := List.mem_range.1 hi
    exact turn_at (j := 4 * i + p) (by omega)
  refine ⟨?_, by rw [shift 0 (by omega)], by rw [shift 1 (by omega)], by rw [shift 2 (by omega)]⟩
  obtain ⟨q, rfl⟩ : ∃ q, m = q + 1 := ⟨m - 1, by omega⟩
  unfold everyI
  rw [hl, h, show (4 * (q + 1) + 3 - 0) / 4 = q + 1 by omega, show (4 * (q + 1) + 3 - 3) / 4 = q + 1 by omega]
  rw [List.range_succ_eq_map, List.map_cons, List.map_map, List.sum_cons]
  have e1 : (List.range q).map ((fun i => (turnI' ns).getD (4 * i + 0) 0) ∘ Nat.succ) = (List.range q).map fun i => ns.getD (4 * i + 3) 0 := by
    refine List.map_congr_left fun i hi => ?_
    have := List.mem_range.1 hi
    show (turnI' ns).getD (4 * (i + 1) + 0) 0 = _
    rw [show 4 * (i + 1) + 0 = (4 * i + 3) + 1 by omega]
    exact turn_at (by omega)
  rw [e1, ← List.range_succ_eq_map, List.range_succ, List.map_append, List.sum_append, List.map_singleton, List.sum_singleton, Int.add_comm]
  congr 1
  show ns.getD (ns.length - 1) 0 = _
  rw [h]
  congr 1
/-- a sign turned -/
theorem xor_top {r : Nat} (h : r < 9223372036854775808) : (9223372036854775808 + r) ^^^ 9223372036854775808 = r := by
  have e : (9223372036854775808 : Nat) = 2 ^ 63 := by decide
  rw [e] at h ⊢
  refine Nat.eq_of_testBit_eq fun i => ?_
  rw [Nat.testBit_xor, Nat.testBit_two_pow]
  rcases Nat.lt_trichotomy i 63 with hi | hi | hi
  · rw [Nat.testBit_two_pow_add_gt hi, decide_eq_false (by omega)]
    simp
  · subst hi
    rw [Nat.testBit_two_pow_add_eq, Nat.testBit_lt_two_pow h]
    simp
  · have h1 : 2 ^ 63 + r < 2 ^ i := Nat.lt_of_lt_of_le (show 2 ^ 63 + r < 2 ^ 64 by omega) (Nat.pow_le_pow_right (by omega) hi)
    have h2 : r < 2 ^ i := by omega
    rw [Nat.testBit_lt_two_pow h1, Nat.testBit_lt_two_pow h2, decide_eq_false (by omega)]
    rfl
theorem neg_bits {x : Nat} (h : x < bits64) : Op.negFloat .f64 x = if 9223372036854775808 ≤ x then x - 9223372036854775808 else 9223372036854775808 + x := by
  have e : FloatKind.f64.format.exponentBits + FloatKind.f64.format.fractionBits = 63 := rfl
  unfold Op.negFloat
  rw [e, show (2 : Nat) ^ 63 = 9223372036854775808 by decide]
  unfold bits64 at h
  split
  · rw [show x = 9223372036854775808 + (x - 9223372036854775808) by omega, xor_top (by omega)]
    omega
  · have h1 := xor_top (r := x) (by omega)
    have h2 : ((9223372036854775808 + x) ^^^ 9223372036854775808) ^^^ 9223372036854775808 = 9223372036854775808 + x := by rw [Nat.xor_assoc, Nat.xor_self, Nat.xor_zero]
    rw [h1] at h2
    exact h2
theorem neg_fi {x : Nat} {F : Fl} {n : Int} (hx : IsF x F) (h : FI F n) : IsF (Op.negFloat .f64 x) (cn (Op.negFloat .f64 x)) ∧ FI (cn (Op.negFloat .f64 x)) (-n) := by
  obtain ⟨y, hy, h2, h3, ⟨s, i, h4, h5⟩, h6⟩ := h
  have hc := hx.2
  rw [hy] at hc
  obtain ⟨rfl, _⟩ := cn_some hc
  have hlt : Op.negFloat .f64 x < bits64 := by
    rw [neg_bits h2]
    unfold bits64 at *
    split <;> omega
  have hmod : Op.negFloat .f64 x % 9223372036854775808 = x % 9223372036854775808 := by
    rw [neg_bits h2]
    unfold bits64 at h2
    split <;> omega
  have hn : isN (Op.negFloat .f64 x) = false := by
    unfold isN at *
    rw [hmod]
    exact h3
  have hcn : cn (Op.negFloat .f64 x) = some (Op.negFloat .f64 x) := by unfold cn; rw [hn]; rfl
  have hr : double.read (Op.negFloat .f64 x) = (double.read x).opposite := by
    unfold Format.read
    rw [sw, bn, ir, lp, hmod]
    have hs : (Op.negFloat .f64 x / 9223372036854775808 % 2 == 1) = !(x / 9223372036854775808 % 2 == 1) := by
      rw [neg_bits h2]
      unfold bits64 at h2
      split
      · rw [show (x - 9223372036854775808) / 9223372036854775808 = 0 by omega, show x / 9223372036854775808 = 1 by omega]; rfl
      · rw [show (9223372036854775808 + x) / 9223372036854775808 = 1 by omega, show x / 9223372036854775808 = 0 by omega]; rfl
    rw [hs]
    simp only []
    split
    · rfl
    · split
      · rfl
      · split <;> rfl
  refine ⟨⟨hlt, rfl⟩, _, hcn, hlt, hn, ?_, by rw [Int.natAbs_neg]; exact h6⟩
  rw [hr]
  exact di_opp ⟨s, i, h4, h5⟩
end Go.Proofs.Ytidejikolcgojaa.St

/- Stats: rows in order, plainly. -/
import Derived.Test.YtidejikolcgojaaGreatStB
import Derived.Laws.BitsAllLaws
namespace Go.Proofs.YtidejikolcgojaaGreat.St
open Go.RowKit

/-- a float's place in order -/
def keyB (x : Nat) : Int := if x < 9223372036854775808 then x else 9223372036854775807 - x
theorem keyB_inj {x y : Nat} (hx : x < bits64) (hy : y < bits64) (h : keyB x = keyB y) : x = y := by
  unfold keyB at h
  unfold bits64 at hx hy
  split at h <;> split at h <;> omega
/-- a row in order -/
def sortB (l : List Nat) : List Nat := l.mergeSort fun a b => decide (keyB a ≤ keyB b)
theorem sortB_perm (l : List Nat) : (sortB l).Perm l := List.mergeSort_perm _ _
theorem sortB_sorted (l : List Nat) : (sortB l).Pairwise fun a b => keyB a ≤ keyB b := by
  have := List.pairwise_mergeSort (le := fun a b => decide (keyB a ≤ keyB b)) (fun a b c h1 h2 => by simp at *; omega) (fun a b => by simp; omega) l
  exact this.imp fun h => by simpa using h
theorem sortB_length (l : List Nat) : (sortB l).length = l.length := (sortB_perm l).length_eq
theorem sortB_lt {l : List Nat} (h : ∀ x ∈ l, x < bits64) : ∀ x ∈ sortB l, x < bits64 := fun x hx => h x ((sortB_perm l).mem_iff.1 hx)
theorem sortB_uniq {l l' : List Nat} (hl : ∀ x ∈ l, x < bits64) (hp : l'.Perm l) (hs : l'.Pairwise fun a b => keyB a ≤ keyB b) : l' = sortB l :=
  List.Perm.eq_of_pairwise (le := fun a b => keyB a ≤ keyB b) (fun a b ha hb h1 h2 => keyB_inj (hl a (hp.mem_iff.1 ha)) (hl b ((sortB_perm l).mem_iff.1 hb)) (by omega)) hs (sortB_sorted l) (hp.trans (sortB_perm l).symm)

/-- the same over words of 64 bits -/
def keyU (x : UInt64) : Int := keyB x.toNat
def cfU (a b : UInt64) : Int := if keyU a < keyU b then -1 else if keyU b < keyU a then 1 else 0
theorem toNat_lt64 (x : UInt64) : x.toNat < bits64 := x.toNat_lt
theorem keyU_inj {x y : UInt64} (h : keyU x = keyU y) : x = y := UInt64.toNat_inj.1 (keyB_inj (toNat_lt64 x) (toNat_lt64 y) h)
theorem sortU (d : List UInt64) : (d.mergeSort fun x y => !decide (keyU y < keyU x)).map UInt64.toNat = sortB (d.map UInt64.toNat) := by
  refine sortB_uniq (fun x hx => ?_) ((List.mergeSort_perm _ _).map _) ?_
  · obtain ⟨u, _, rfl⟩ := List.mem_map.1 hx
    exact toNat_lt64 u
  · have := List.pairwise_mergeSort (le := fun x y : UInt64 => !decide (keyU y < keyU x)) (fun a b c h1 h2 => by simp at *; omega) (fun a b => by simp; omega) d
    rw [List.pairwise_map]
    exact this.imp fun h => by simp at h; exact h
theorem ofNat_list {l : List Nat} (h : ∀ x ∈ l, x < bits64) : (l.map UInt64.ofNat).map UInt64.toNat = l := by
  rw [List.map_map]
  conv => rhs; rw [← List.map_id l]
  refine List.map_congr_left fun x hx => ?_
  simp [Nat.mod_eq_of_lt (h x hx)]

/-- the bits turned about -/
theorem xor_turn {r : Nat} (hr : r < 9223372036854775808) : (9223372036854775808 + r) ^^^ 9223372036854775807 = 9223372036854775808 + (9223372036854775808 - (r + 1)) := by
  have e : (9223372036854775808 : Nat) = 2 ^ 63 := by decide
  have e1 : (9223372036854775807 : Nat) = 2 ^ 63 - 1 := by decide
  rw [e1]
  rw [e] at hr ⊢
  have hr2 : 2 ^ 63 - (r + 1) < 2 ^ 63 := by omega
  refine Nat.eq_of_testBit_eq fun i => ?_
  rw [Nat.testBit_xor, Nat.testBit_two_pow_sub_one]
  rcases Nat.lt_trichotomy i 63 with h | h | h
  · rw [Nat.testBit_two_pow_add_gt h, Nat.testBit_two_pow_add_gt h, Nat.testBit_two_pow_sub_succ hr]
    simp [h]
  · subst h
    rw [Nat.testBit_two_pow_add_eq, Nat.testBit_two_pow_add_eq, Nat.testBit_lt_two_pow hr, Nat.testBit_lt_two_pow hr2]
    simp
  · have h1 : 2 ^ 63 + r < 2 ^ i := Nat.lt_of_lt_of_le (show 2 ^ 63 + r < 2 ^ 64 by omega) (Nat.pow_le_pow_right (by omega) h)
    have h2 : 2 ^ 63 + (2 ^ 63 - (r + 1)) < 2 ^ i := Nat.lt_of_lt_of_le (show 2 ^ 63 + (2 ^ 63 - (r + 1)) < 2 ^ 64 by omega) (Nat.pow_le_pow_right (by omega) h)
    rw [Nat.testBit_lt_two_pow h1, Nat.testBit_lt_two_pow h2]
    simp; omega
theorem xor_key {x : Nat} (h1 : 9223372036854775808 ≤ x) (h2 : x < 18446744073709551616) : bits .xor .i64 ((x : Int) - 18446744073709551616) 9223372036854775807 = 9223372036854775807 - (x : Int) := by
  show IntKind.i64.wrap ((BitVec.ofInt 64 ((x : Int) - 18446744073709551616) ^^^ BitVec.ofInt 64 (9223372036854775807 : Int)).toNat : Int) = _
  have ea : (BitVec.ofInt 64 ((x : Int) - 18446744073709551616)).toNat = x := by rw [BitVec.toNat_ofInt]; omega
  have eb : (BitVec.ofInt 64 (9223372036854775807 : Int)).toNat = 9223372036854775807 := by rw [BitVec.toNat_ofInt]; omega
  rw [BitVec.toNat_xor, ea, eb]
  have e1 : x = 9223372036854775808 + (x - 9223372036854775808) := by omega
  have e2 := xor_turn (r := x - 9223372036854775808) (by omega)
  rw [← e1] at e2
  rw [e2, IntKind.wrap_i64]
  omega
end Go.Proofs.YtidejikolcgojaaGreat.St

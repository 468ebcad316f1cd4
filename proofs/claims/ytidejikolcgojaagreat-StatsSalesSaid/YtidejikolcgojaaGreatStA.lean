/- Stats: floats, plainly: a number or NaN; what the operations give does not hang on a NaN's bits. -/
import Derived.Test.YtidejikolcgojaaGreatBase
namespace Go.Proofs.YtidejikolcgojaaGreat.St
open Ieee

/-- a number's bits, or NaN -/
abbrev Fl := Option Nat
abbrev bits64 : Nat := 18446744073709551616
def isN (x : Nat) : Bool := decide (9218868437227405312 < x % 9223372036854775808)
def cn (x : Nat) : Fl := if isN x then none else some x
def lift2 (f : Nat → Nat → Option Nat) : Fl → Fl → Fl
  | some x, some y => f x y
  | _, _ => none
def fadd : Fl → Fl → Fl := lift2 double.add
def fsub : Fl → Fl → Fl := lift2 double.sub
def fmul : Fl → Fl → Fl := lift2 double.mul
def fdiv : Fl → Fl → Fl := lift2 double.div
def ford : Fl → Fl → Option Ordering
  | some x, some y => double.order x y
  | _, _ => none
def fabs : Fl → Fl
  | some x => some (x % 9223372036854775808)
  | none => none
/-- r holds the number f -/
def IsF (r : Nat) (f : Fl) : Prop := r < bits64 ∧ cn r = f

theorem sw : double.signWeight = 9223372036854775808 := by decide +kernel
theorem bn : double.binade = 4503599627370496 := by decide +kernel
theorem ir : double.infRung = 9218868437227405312 := by decide +kernel
theorem lp : double.leastPlace = -1074 := by decide +kernel

theorem read_nan (x : Nat) : (double.read x).isNaN = isN x := by
  unfold Format.read isN
  rw [sw, bn, ir]
  simp only []
  split
  · simp [Datum.isNaN]; omega
  · split
    · simp [Datum.isNaN]; omega
    · split
      · simp [Datum.isNaN]; omega
      · simp [Datum.isNaN]; omega
theorem isNaN_nan {d : Datum} (h : d.isNaN = true) : ∃ s t, d = .nan s t := by
  cases d with
  | number s m i => cases h
  | infinity s => cases h
  | nan s t => exact ⟨s, t, rfl⟩
theorem word_small {neg : Bool} {r : Nat} (h : r ≤ 9218868437227405312) : isN (double.word neg r) = false := by
  unfold Format.word isN
  rw [sw]
  cases neg <;> simp <;> omega
theorem nearest_num (neg : Bool) (m : Nat) (p : Int) : isN (double.nearest neg m p) = false := by
  unfold Format.nearest
  split
  · exact word_small (by omega)
  · exact word_small (by rw [ir]; exact Nat.min_le_right _ _)
theorem write_num {d : Datum} (h : d.isNaN = false) : isN (double.write d) = false := by
  cases d with
  | number s m i => exact nearest_num s m i
  | infinity s => exact word_small (by rw [ir]; exact Nat.le_refl _)
  | nan s t => cases h
theorem sum_num {a b c : Datum} (h : a.sum b = some c) : c.isNaN = false := by
  cases a <;> cases b <;> simp only [Datum.sum] at h
  all_goals first
    | (injection h with h; subst h; rfl)
    | (split at h <;> first | (injection h with h; subst h; rfl) | cases h)
    | cases h
theorem product_num {a b c : Datum} (h : a.product b = some c) : c.isNaN = false := by
  cases a <;> cases b <;> simp only [Datum.product] at h
  all_goals first
    | (injection h with h; subst h; rfl)
    | (split at h <;> first | (injection h with h; subst h; rfl) | cases h)
    | cases h
theorem quotient_num {n : Nat} {a b c : Datum} (h : a.quotient n b = some c) : c.isNaN = false := by
  cases a <;> cases b <;> simp only [Datum.quotient] at h
  all_goals first
    | (injection h with h; subst h; rfl)
    | (split at h <;> first | (injection h with h; subst h; rfl) | cases h | (split at h <;> first | (injection h with h; subst h; rfl) | cases h))
    | cases h
theorem root_num {n : Nat} {a c : Datum} (h : a.root n = some c) : c.isNaN = false := by
  cases a <;> simp only [Datum.root] at h
  all_goals first
    | (injection h with h; subst h; rfl)
    | (split at h <;> first | (injection h with h; subst h; rfl) | cases h | (split at h <;> first | (injection h with h; subst h; rfl) | cases h))
    | cases h
theorem map_num {d : Option Datum} {r : Nat} (hd : ∀ c, d = some c → c.isNaN = false) (h : d.map double.write = some r) : isN r = false := by
  cases d with
  | none => cases h
  | some d =>
    injection h with h
    subst h
    exact write_num (hd d rfl)

/-- one of the four operations -/
inductive Ar : (Nat → Nat → Option Nat) → Prop
  | add : Ar double.add
  | sub : Ar double.sub
  | mul : Ar double.mul
  | div : Ar double.div
theorem opp_nan {d : Datum} : d.opposite.isNaN = d.isNaN := by cases d <;> rfl
theorem ar_num {f : Nat → Nat → Option Nat} (hf : Ar f) {x y r : Nat} (h : f x y = some r) : isN r = false := by
  cases hf with
  | add => exact map_num (fun c hc => sum_num hc) h
  | sub => exact map_num (fun c hc => sum_num hc) h
  | mul => exact map_num (fun c hc => product_num hc) h
  | div => exact map_num (fun c hc => quotient_num hc) h
theorem ar_nan {f : Nat → Nat → Option Nat} (hf : Ar f) {x y : Nat} (h : isN x = true ∨ isN y = true) : f x y = none := by
  rw [← read_nan, ← read_nan] at h
  have key : ∀ g : Datum → Datum → Option Datum, (∀ s t d, g (.nan s t) d = none) → (∀ s t d, g d (.nan s t) = none) → ∀ a b : Datum, a.isNaN = true ∨ b.isNaN = true → (g a b).map double.write = none := by
    intro g h1 h2 a b hab
    rcases hab with ha | hb
    · obtain ⟨s, t, rfl⟩ := isNaN_nan ha
      rw [h1]; rfl
    · obtain ⟨s, t, rfl⟩ := isNaN_nan hb
      rw [h2]; rfl
  cases hf with
  | add => exact key Datum.sum (fun s t d => by cases d <;> rfl) (fun s t d => by cases d <;> rfl) _ _ h
  | sub => exact key Datum.sum (fun s t d => by cases d <;> rfl) (fun s t d => by cases d <;> rfl) _ _ (by rw [opp_nan]; exact h)
  | mul => exact key Datum.product (fun s t d => by cases d <;> rfl) (fun s t d => by cases d <;> rfl) _ _ h
  | div => exact key (Datum.quotient _) (fun s t d => by cases d <;> rfl) (fun s t d => by cases d <;> rfl) _ _ h
theorem ar_cn {f : Nat → Nat → Option Nat} (hf : Ar f) (x y : Nat) : f x y = lift2 f (cn x) (cn y) := by
  unfold cn
  cases hx : isN x with
  | true => rw [ar_nan hf (.inl hx)]; rfl
  | false =>
    cases hy : isN y with
    | true => rw [ar_nan hf (.inr hy)]; rfl
    | false => rfl
theorem order_cn (x y : Nat) : double.order x y = ford (cn x) (cn y) := by
  unfold cn
  cases hx : isN x with
  | true =>
    rw [← read_nan] at hx
    obtain ⟨s, t, h⟩ := isNaN_nan hx
    show (double.read x).order (double.read y) = none
    rw [h]
    cases double.read y <;> rfl
  | false =>
    cases hy : isN y with
    | true =>
      rw [← read_nan] at hy
      obtain ⟨s, t, h⟩ := isNaN_nan hy
      show (double.read x).order (double.read y) = none
      rw [h]
      cases double.read x <;> rfl
    | false => rfl
theorem order_self {x : Nat} (h : isN x = false) : double.order x x = some .eq := by
  rw [← read_nan] at h
  show (double.read x).order (double.read x) = some .eq
  cases hd : double.read x with
  | nan s t => rw [hd] at h; cases h
  | infinity s => simp [Datum.order]
  | number s m i => simp [Datum.order]
theorem neq_self (x : Nat) : (double.order x x != some .eq) = isN x := by
  cases h : isN x with
  | false => rw [order_self h]; rfl
  | true =>
    rw [order_cn]
    unfold cn
    rw [h]
    rfl
theorem cn_abs {x : Nat} : cn (x % 9223372036854775808) = fabs (cn x) := by
  have e : isN (x % 9223372036854775808) = isN x := by unfold isN; rw [Nat.mod_mod]
  unfold cn
  rw [e]
  cases isN x <;> rfl
theorem cn_some {x y : Nat} (h : cn x = some y) : x = y ∧ isN x = false := by
  unfold cn at h
  cases hx : isN x with
  | true => rw [hx] at h; cases h
  | false => rw [hx] at h; injection h with h; exact ⟨h, rfl⟩
theorem cn_none {x : Nat} (h : cn x = none) : isN x = true := by
  unfold cn at h
  cases hx : isN x with
  | true => rfl
  | false => rw [hx] at h; cases h
theorem cn_isNone (x : Nat) : (cn x).isNone = isN x := by
  unfold cn
  cases isN x <;> rfl
end Go.Proofs.YtidejikolcgojaaGreat.St

/- Sets of goods, offers, as the program has them. -/
import Derived.Test.YtcigobiolbojhaaBase
namespace Go.Proofs.Ytcigobiolbojhaa.Vb
open Go.RowKit

/-- a without b, as numbers. -/
def andNot (a b : Nat) : Nat := a &&& (4294967295 - b)
theorem andNot_le (a b : Nat) : andNot a b ≤ a := Nat.and_le_left

set_option maxHeartbeats 400000 in
theorem within_any (a b : Nat) (ha : a < 4294967296) (hb : b < 4294967296) (w : World) :
    Calls Try.prog 135 #[.int .u32 a, .int .u32 b] w fun e w' => e = .returned (.bool (andNot a b == 0)) ∧ w = w' := by
  have hbits : bits .andNot .u32 (a : Int) (b : Int) = ((andNot a b : Nat) : Int) := u32_andNot_nat a b ha hb
  go_enter Try.func135, Try.ntmps135
  go_wp2
  go_ret
  exact ⟨ret_bool (by rw [Bool.eq_iff_iff]; simp), rfl⟩

theorem pow32 (n : Nat) (h : n ≤ 32) : 2 ^ n ≤ 4294967296 := Nat.le_trans (Nat.pow_le_pow_right (by omega) h) (by decide)
theorem all_num (n : Nat) (h : n ≤ 32) : IntKind.u64.wrap (IntKind.u64.wrap (2 ^ n) - 1) % 4294967296 = ((2 ^ n - 1 : Nat) : Int) := by
  have h1 := pow32 n h
  have h2 : 0 < 2 ^ n := Nat.two_pow_pos n
  have h3 : ((2 : Int) ^ n) = ((2 ^ n : Nat) : Int) := by simp
  have h4 := IntWalk.u64_in ((2 ^ n : Nat) : Int) (by omega)
  have h5 := IntWalk.u64_in (((2 ^ n : Nat) : Int) - 1) (by omega)
  rw [h3, h4, h5]
  omega

/-- goods.All's answer -/
def allOf (n : Int) : Nat := if n < 0 ∨ 32 < n then 0 else 2 ^ n.toNat - 1
def allErr (n : Int) : Int := if n < 0 ∨ 32 < n then 2 else 0

theorem allOf_lt (n : Int) : allOf n < 4294967296 := by
  unfold allOf
  split
  · omega
  · have := pow32 n.toNat (by omega)
    have h2 : 0 < 2 ^ n.toNat := Nat.two_pow_pos _
    omega

set_option maxHeartbeats 400000 in
theorem all_any (n : Int) (w : World) :
    Calls Try.prog 123 #[.int .i64 n] w fun e w' => e = .returned (.tuple #[.int .u32 (allOf n : Nat), .int .i64 (allErr n)]) ∧ w = w' := by
  by_cases h0 : n < 0
  · go_enter Try.func123, Try.ntmps123
    go_wp2
    go_ret2
    exact ⟨by simp [allOf, allErr, h0], rfl⟩
  · by_cases h1 : 32 < n
    · go_enter Try.func123, Try.ntmps123
      go_wp2
      go_ret2
      exact ⟨by simp [allOf, allErr, h1], rfl⟩
    · have hn := all_num n.toNat (by omega)
      go_enter Try.func123, Try.ntmps123
      go_wp2
      go_ret2
      exact ⟨by simp only [allOf, allErr, if_neg (show ¬ (n < 0 ∨ 32 < n) by omega), ← hn]; rfl, rfl⟩

/-- an offer -/
structure Off where
  g : Nat
  c : Int
def Off.wf (o : Off) : Prop := o.g < 4294967296 ∧ -9223372036854775808 ≤ o.c ∧ o.c ≤ 9223372036854775807
def Off.cells (o : Off) : List Value := [.int .u32 o.g, .int .i64 o.c]
def Off.val (o : Off) : Value := .agg #[.int .u32 o.g, .int .i64 o.c]
def badB (all : Nat) (o : Off) : Bool := o.g == 0 || !(andNot o.g all == 0) || decide (o.c < 1) || decide (1099511627776 < o.c)

set_option maxHeartbeats 400000 in
theorem bad_any (all : Nat) (hall : all < 4294967296) (o : Off) (ho : o.wf) (b : Nat) (w : World) (hc : w.cell? ⟨b, 0, none⟩ = some (.int .u32 all)) :
    Calls Try.prog 148 #[.agg #[.int .u32 o.g, .int .i64 o.c], .pointer (some ⟨b, 0, none⟩)] w fun e w' => e = .returned (.bool (badB all o)) ∧ Below w.heap.size w w' := by
  obtain ⟨g, c⟩ := o
  obtain ⟨hg, hc0, hc1⟩ := ho
  simp only at hg hc0 hc1
  have hca := cellAlloc hc
  go_enter Try.func148, Try.ntmps148
  go_wp2_with (go_at_call 135; refine (within_any _ _ (by omega) (by omega) _).mono ?_; rintro e w' ⟨rfl, rfl⟩)
  all_goals go_ret
  all_goals refine ⟨ret_bool ?_, (Below.refl _ _).alloc (Nat.le_refl _) _⟩
  all_goals simp [badB, natBeq0, *]

def Off.all (l : List Off) : List Value := l.flatMap Off.cells
theorem Off.all_length (l : List Off) : (Off.all l).length = l.length * 2 := by
  induction l with
  | nil => rfl
  | cons o l ih => simp only [Off.all, List.flatMap_cons, List.length_append] at *; simp [Off.cells, ih]; omega
theorem Off.all_fst : ∀ (l : List Off) (k : Nat) (o : Off), l[k]? = some o → (Off.all l)[k * 2]? = some (.int .u32 o.g)
  | [], k, o, h => by simp at h
  | x :: l, 0, o, h => by simp at h; subst h; rfl
  | x :: l, k + 1, o, h => by
    have := Off.all_fst l k o (by simpa using h)
    simp only [Off.all, List.flatMap_cons, Off.cells] at *
    rw [show (k + 1) * 2 = k * 2 + 2 from by omega]
    simpa using this
theorem Off.all_snd : ∀ (l : List Off) (k : Nat) (o : Off), l[k]? = some o → (Off.all l)[k * 2 + 1]? = some (.int .i64 o.c)
  | [], k, o, h => by simp at h
  | x :: l, 0, o, h => by simp at h; subst h; rfl
  | x :: l, k + 1, o, h => by
    have := Off.all_snd l k o (by simpa using h)
    simp only [Off.all, List.flatMap_cons, Off.cells] at *
    rw [show (k + 1) * 2 + 1 = k * 2 + 1 + 2 from by omega]
    simpa using this

/-- The slice v reads as the offers l. -/
def Offs (w : World) (R : Nat → Prop) (v : Value) (l : List Off) : Prop := Sl w R v l.length 2 (Off.all l) ∧ ∀ o ∈ l, o.wf

theorem Offs.grow {w w' : World} {R : Nat → Prop} {v : Value} {l : List Off} (h : Offs w R v l) (hb : Below w.heap.size w w') : Offs w' R v l := ⟨h.1.grow hb, h.2⟩
theorem Offs.alloc {w : World} {R : Nat → Prop} {v : Value} {l : List Off} (h : Offs w R v l) (o : Obj) : Offs (w.alloc o) R v l := ⟨h.1.alloc o, h.2⟩

/-- The first offer that may not be, from k on. -/
def badAt (all : Nat) : List Off → Option Nat
  | [] => none
  | o :: l => if badB all o then some 0 else (badAt all l).map (· + 1)
def badInt (all : Nat) (l : List Off) : Int := match badAt all l with | some k => k | none => -1
end Go.Proofs.Ytcigobiolbojhaa.Vb

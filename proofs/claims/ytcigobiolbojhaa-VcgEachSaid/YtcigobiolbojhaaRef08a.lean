/- The reference of layer 8: All, May, Check, SameOffers, SameInstance. -/
import Derived.Test.YtcigobiolbojhaaGains
namespace Go.Proofs.Ytcigobiolbojhaa.Vb
open Go.RowKit

set_option maxHeartbeats 400000 in
theorem refAll_any (n : Nat) (h0 : 1 ≤ n) (h1 : n ≤ 10) (w : World) :
    Calls Try.prog 117 #[.int .i64 n] w fun e w' => e = .returned (.int .u32 ((2 ^ n - 1 : Nat) : Int)) ∧ w = w' := by
  have hp := pow32 n (by omega)
  have hp2 : 2 ^ n ≤ 1024 := Nat.le_trans (Nat.pow_le_pow_right (by omega) h1) (by decide)
  have hp0 : 0 < 2 ^ n := Nat.two_pow_pos n
  have h3 : ((2 : Int) ^ n) = ((2 ^ n : Nat) : Int) := by simp
  have h4 := IntWalk.u32_in ((2 ^ n : Nat) : Int) (by omega)
  have h5 := IntWalk.u32_in (((2 ^ n : Nat) : Int) - 1) (by omega)
  have hr : IntKind.u32.wrap (IntKind.u32.wrap (2 ^ n) - 1) = ((2 ^ n - 1 : Nat) : Int) := by rw [h3, h4, h5]; omega
  have HR := Lib.hid hr
  clear hp hp2 hp0 h3 h4 h5 hr
  go_enter Try.func117, Try.ntmps117
  go_wp2
  go_ret
  exact ⟨by rw [← HR.out]; rfl, rfl⟩

theorem quiet_left {P : Program} {f : FuncId} {args : Array Value} {w : World} {n : Nat} {v : Value}
    (h : Calls P f args (w.drewN n) fun e w' => e = .returned v ∧ w.drewN n = w') : Calls P f args (w.drewN n) fun e w'' => e = .returned v ∧ ∃ m, w'' = w.drewN m :=
  h.mono fun _ _ ⟨he, hm⟩ => ⟨he, n, hm.symm⟩

set_option maxHeartbeats 1600000 in
theorem refMay_any (n : Nat) (h0 : 1 ≤ n) (h1 : n ≤ 10) (o : Off) (ho : o.wf) (w : World) :
    Calls Try.prog 119 #[.int .i64 n, .agg #[.int .u32 o.g, .int .i64 o.c]] w fun e w' => e = .returned (.bool (!badB (2 ^ n - 1) o)) ∧ Below w.heap.size w w' := by
  have hp2 : 2 ^ n ≤ 1024 := Nat.le_trans (Nat.pow_le_pow_right (by omega) h1) (by decide)
  have hp0 : 0 < 2 ^ n := Nat.two_pow_pos n
  obtain ⟨g, c⟩ := o
  obtain ⟨hg, hc0, hc1⟩ := ho
  simp only at hg hc0 hc1
  simp only
  obtain ⟨al, hal⟩ : ∃ al, al = 2 ^ n - 1 := ⟨_, rfl⟩
  have hall : al < 4294967296 := by omega
  rw [← hal]
  have HAL := Lib.hid hal
  have hbits : bits .andNot .u32 (g : Int) (al : Int) = ((andNot g al : Nat) : Int) := u32_andNot_nat g al hg hall
  clear hp2 hp0 hal
  have cA : ∀ W : World, (W.alloc (.cells #[.int .u32 g, .int .i64 c] 45)).cell? ⟨W.heap.size, 0, none⟩ = some (.int .u32 g) := fun W => by simp
  have cB : ∀ W : World, (W.alloc (.cells #[.int .u32 g, .int .i64 c] 45)).cell? ⟨W.heap.size, 1, none⟩ = some (.int .i64 c) := fun W => by simp
  by_cases hg0 : g = 0
  · have hb : (((g : Nat) : Int) != 0) = false := by simp [hg0]
    have hbad : (!badB al ⟨g, c⟩) = false := by simp [badB, hg0]
    have HBAD := Lib.hid hbad
    clear hg0 hbad
    go_enter Try.func119, Try.ntmps119
    go_wp2_with fail
    go_quiet (fail)
    go_wp2_with fail
    go_ret
    exact ⟨by rw [HBAD.out]; rfl, below_drewN ((Below.refl _ _).alloc (Nat.le_refl _) _) _⟩
  · have hb : (((g : Nat) : Int) != 0) = true := by simp [hg0]
    by_cases hin : andNot g al = 0
    · have hi : (((andNot g al : Nat) : Int) == 0) = true := by simp [hin]
      by_cases hc : 1 ≤ c
      · have hcd : decide (1 ≤ c) = true := by simp [hc]
        have hbad : (!badB al ⟨g, c⟩) = decide (c ≤ 1099511627776) := by simp [badB, hin]; rw [Bool.eq_iff_iff]; simp; omega
        have HBAD := Lib.hid hbad
        clear hg0 hin hbad
        go_enter Try.func119, Try.ntmps119
        go_wp2_with fail
        go_region_held3 (fun w' => w'.cell? ⟨w.heap.size, 0, none⟩ = some (.int .u32 g) ∧ w'.cell? ⟨w.heap.size, 1, none⟩ = some (.int .i64 c)) (go_keep)
          ((go_at_call 117; refine (refAll_any n h0 h1 _).mono ?_; rintro e w1 ⟨rfl, rfl⟩; rw [← HAL.out]))
        go_wp2_with fail
        go_ret
        exact ⟨by rw [HBAD.out]; simp, ((Below.refl _ _).alloc (Nat.le_refl _) _).drew⟩
      · have hcd : decide (1 ≤ c) = false := by simp; omega
        have hbad : (!badB al ⟨g, c⟩) = false := by simp [badB]; omega
        have HBAD := Lib.hid hbad
        clear hg0 hin hc hbad
        go_enter Try.func119, Try.ntmps119
        go_wp2_with fail
        go_quiet ((go_at_call 117; exact quiet_left (v := .int .u32 (al : Int)) ((refAll_any n h0 h1 _).mono (fun e w1 hh => by rw [HAL.out]; exact hh))))
        go_wp2_with fail
        go_ret
        exact ⟨by rw [HBAD.out]; rfl, below_drewN ((Below.refl _ _).alloc (Nat.le_refl _) _) _⟩
    · have hi : (((andNot g al : Nat) : Int) == 0) = false := by simp [hin]
      have hbad : (!badB al ⟨g, c⟩) = false := by simp [badB, hg0, hin]
      have HBAD := Lib.hid hbad
      clear hg0 hin hbad
      go_enter Try.func119, Try.ntmps119
      go_wp2_with fail
      go_quiet ((go_at_call 117; exact quiet_left (v := .int .u32 (al : Int)) ((refAll_any n h0 h1 _).mono (fun e w1 hh => by rw [HAL.out]; exact hh))))
      go_wp2_with fail
      go_ret
      exact ⟨by rw [HBAD.out]; rfl, below_drewN ((Below.refl _ _).alloc (Nat.le_refl _) _) _⟩
end Go.Proofs.Ytcigobiolbojhaa.Vb

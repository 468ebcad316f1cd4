/- offers.Check. -/
import Derived.Test.YtcigobiolbojhaaIndex
namespace Go.Proofs.Ytcigobiolbojhaa.Vb
open Go.RowKit

def checkI (n : Int) (l : List Off) : Int := if n < 1 ∨ 10 < n then 0 else if 8 < l.length then 0 else match badAt (2 ^ n.toNat - 1) l with | some k => k | none => 0
def checkE (n : Int) (l : List Off) : Int := if n < 1 ∨ 10 < n then 2 else if 8 < l.length then 3 else match badAt (2 ^ n.toNat - 1) l with | some _ => 180 | none => 0

set_option maxHeartbeats 400000 in
theorem check_any (n : Int) (l : List Off) (v : Value) (R : Nat → Prop) (w : World) (hl : Offs w R v l) :
    Calls Try.prog 125 #[.int .i64 n, v] w fun e w' => e = .returned (.tuple #[.int .i64 (checkI n l), .int .i64 (checkE n l)]) ∧ Below w.heap.size w w' := by
  have hl' := hl
  obtain ⟨⟨hlen, A, cap, rfl, hncap, hcap, hcells⟩, hwf⟩ := hl
  unfold maxLen at hcap
  have HL := Lib.hid hl'
  clear hlen hcells hwf hl'
  by_cases hn : n < 1 ∨ 10 < n
  · have hI : checkI n l = 0 := by unfold checkI; rw [if_pos hn]
    have hE : checkE n l = 2 := by unfold checkE; rw [if_pos hn]
    have HI := Lib.hid hI
    have HE := Lib.hid hE
    clear hI hE
    rcases hn with hn | hn
    all_goals
      go_enter Try.func125, Try.ntmps125
      go_wp2_with (go_at_call 123; refine (all_any n _).mono ?_; rintro e w' ⟨rfl, rfl⟩)
      all_goals go_ret2
      all_goals rw [HI.out, HE.out]
      all_goals exact ⟨rfl, (Below.refl _ _).alloc (Nat.le_refl _) _⟩
  · have hr : 1 ≤ n ∧ n ≤ 10 := by omega
    have he : allErr n = 0 := by unfold allErr; rw [if_neg (by omega)]
    have ha : allOf n = 2 ^ n.toNat - 1 := by unfold allOf; rw [if_neg (by omega)]
    obtain ⟨hr0, hr1⟩ := hr
    obtain ⟨al, hal⟩ : ∃ al, al = allOf n := ⟨_, rfl⟩
    have hlt := allOf_lt n
    rw [← hal] at hlt ha
    have HA := Lib.hid ha
    have HAL := Lib.hid hal
    by_cases h8 : 8 < l.length
    · have hI : checkI n l = 0 := by unfold checkI; rw [if_neg hn, if_pos h8]
      have hE : checkE n l = 3 := by unfold checkE; rw [if_neg hn, if_pos h8]
      have HI := Lib.hid hI
      have HE := Lib.hid hE
      clear hI hE ha hal hn
      go_enter Try.func125, Try.ntmps125
      go_wp2_with (go_at_call 123; refine (all_any n _).mono ?_; rintro e w' ⟨rfl, rfl⟩; rw [he])
      go_ret2
      rw [HI.out, HE.out]
      exact ⟨rfl, (Below.refl _ _).alloc (Nat.le_refl _) _⟩
    · have hI : checkI n l = match badAt al l with | some k => (k : Int) | none => 0 := by unfold checkI; rw [if_neg hn, if_neg h8, ← HA.out]
      have hE : checkE n l = match badAt al l with | some _ => 180 | none => 0 := by unfold checkE; rw [if_neg hn, if_neg h8, ← HA.out]
      have HI := Lib.hid hI
      have HE := Lib.hid hE
      clear hI hE ha hn
      have HH := Lib.hid he
      clear he hal
      cases hb : badAt al l with
      | none =>
        have hbi : badInt al l = -1 := by unfold badInt; rw [hb]
        rw [hb] at HI HE
        clear hb
        go_enter Try.func125, Try.ntmps125
        go_wp2_with (first | (go_at_call 123; refine (all_any n _).mono ?_; rintro e w' ⟨rfl, rfl⟩; rw [HH.out, ← HAL.out]) | (go_at_call 149; refine (index_any al hlt l _ R w.heap.size _ (HL.out.alloc _) (by simp)).mono ?_; rintro e w1 ⟨rfl, hb1⟩))
        go_ret2
        rw [HI.out, HE.out]
        exact ⟨rfl, ((Below.refl _ _).alloc (Nat.le_refl _) _).trans (hb1.mono (by simp))⟩
      | some k =>
        have hbi : badInt al l = k := by unfold badInt; rw [hb]
        rw [hb] at HI HE
        clear hb
        go_enter Try.func125, Try.ntmps125
        go_wp2_with (first | (go_at_call 123; refine (all_any n _).mono ?_; rintro e w' ⟨rfl, rfl⟩; rw [HH.out, ← HAL.out]) | (go_at_call 149; refine (index_any al hlt l _ R w.heap.size _ (HL.out.alloc _) (by simp)).mono ?_; rintro e w1 ⟨rfl, hb1⟩))
        go_ret2
        rw [HI.out, HE.out]
        exact ⟨rfl, ((Below.refl _ _).alloc (Nat.le_refl _) _).trans (hb1.mono (by simp))⟩
end Go.Proofs.Ytcigobiolbojhaa.Vb

/- Once: what Value answers at the first asking, and later. -/
import Derived.Test.YthkgemaajbjgaaaOnL
namespace Go.Proofs.Ythkgemaajbjgaaa.On
open Go.RowKit
open Go.Proofs.Ythkgemaajbjgaaa.Vb Go.Proofs.Ythkgemaajbjgaaa.Ac

abbrev jobV (g : Nat) : Value := job1 6 #[.pointer (some ⟨g, 0, none⟩)] #[]
abbrev wrongV : Value := job1 21 #[] #[]
theorem first_ok {b g : Nat} {v : Int} {W : World} (hT : TaskAt W b 0 0 0 0 false (some (jobV g))) (hB : Blk W g 24 #[.int .i64 v, .int .i64 0]) (n : g ≠ b) :
    Calls Try.prog 10 #[.pointer (some ⟨b, 0, none⟩)] W fun e W' => e = .returned (.tuple #[.int .i64 v, .bool true, .int .i64 0]) ∧ TaskAt W' b 1 0 1 v false (some (jobV g)) ∧ Blk W' g 24 #[.int .i64 v, .int .i64 1] ∧ Chg (fun k => k = b ∨ k = g) W W' := by
  refine (value_any (d' := 1) (L' := 0) (o' := 1) (v' := v) (br' := false) (ran := true) (fun W' => Blk W' g 24 #[.int .i64 v, .int .i64 1] ∧ Chg (fun k => k = b ∨ k = g) W W') hT ?_).mono ?_
  · refine (taskdo_ok (hT.grow ((Below.refl _ _).drew)) (job_ok g v) (hB.grow ((Below.refl _ _).drew)) n).mono ?_
    rintro e C ⟨rfl, h1, h2, h3⟩
    exact ⟨rfl, h1, h2, ((Chg.refl _ W).drewN 1).trans h3⟩
  rintro e W' ⟨rfl, h1, h2, h3⟩
  exact ⟨rfl, h1, h2, h3⟩
theorem first_bad {b : Nat} {W : World} (hT : TaskAt W b 0 0 0 0 false (some wrongV)) :
    Calls Try.prog 10 #[.pointer (some ⟨b, 0, none⟩)] W fun e W' => e = .returned (.tuple #[.int .i64 0, .bool true, .int .i64 150]) ∧ TaskAt W' b 1 0 1 0 true (some wrongV) ∧ Chg (· = b) W W' := by
  refine (value_any (d' := 1) (L' := 0) (o' := 1) (v' := 0) (br' := true) (ran := true) (fun W' => Chg (· = b) W W') hT ?_).mono ?_
  · refine (taskdo_bad (hT.grow ((Below.refl _ _).drew))).mono ?_
    rintro e C ⟨rfl, h1, h3⟩
    exact ⟨rfl, h1, ((Chg.refl _ W).drewN 1).trans h3⟩
  rintro e W' ⟨rfl, h1, h3⟩
  exact ⟨rfl, h1, h3⟩
theorem later_any {b jf : Nat} {fi ca : Array Value} {d L o v : Int} {br : Bool} {W : World} (hT : TaskAt W b d L o v br (some (job1 jf fi ca))) (hd : d ≠ 0) :
    Calls Try.prog 10 #[.pointer (some ⟨b, 0, none⟩)] W fun e W' => e = .returned (.tuple #[.int .i64 (if br then 0 else v), .bool false, .int .i64 (if br then 150 else 0)]) ∧ TaskAt W' b d L o v br (some (job1 jf fi ca)) ∧ Below W.heap.size W W' := by
  refine (value_any (d' := d) (L' := L) (o' := o) (v' := v) (br' := br) (ran := false) (fun W' => Below W.heap.size W W') hT ?_).mono ?_
  · refine (taskdo_done (hT.grow ((Below.refl _ _).drew)) hd).mono ?_
    rintro e C ⟨rfl, h1⟩
    exact ⟨rfl, (hT.grow ((Below.refl _ _).drew)).grow h1, ((Below.refl _ W).drew).trans h1⟩
  rintro e W' ⟨rfl, h1, h3⟩
  exact ⟨rfl, h1, h3⟩
/-- what a round finds: q rounds are done -/
structure RoundAt (W wr : World) (b g : Nat) (j : Value) (v V TM : Int) (BR : Bool) (q : Nat) : Prop where
  task : TaskAt wr b (if q = 0 then 0 else 1) 0 (if q = 0 then 0 else 1) (if q = 0 then 0 else V) (if q = 0 then false else BR) (some j)
  blk : Blk wr g 24 #[.int .i64 v, .int .i64 (if q = 0 then 0 else TM)]
  below : Below W.heap.size W wr
/-- and what it leaves: whichever round it is -/
theorem asked_any {W wr : World} {b g jf : Nat} {fi ca : Array Value} {v V TM : Int} {BR : Bool} {q : Nat} (h : RoundAt W wr b g (job1 jf fi ca) v V TM BR q) (hb : W.heap.size ≤ b) (hg : W.heap.size ≤ g) (hbr : BR = true → V = 0)
    (hfirst : ∀ A, TaskAt A b 0 0 0 0 false (some (job1 jf fi ca)) → Blk A g 24 #[.int .i64 v, .int .i64 0] → Calls Try.prog 10 #[.pointer (some ⟨b, 0, none⟩)] A fun e W' =>
      e = .returned (.tuple #[.int .i64 V, .bool true, .int .i64 (if BR then 150 else 0)]) ∧ TaskAt W' b 1 0 1 V BR (some (job1 jf fi ca)) ∧ Blk W' g 24 #[.int .i64 v, .int .i64 TM] ∧ Chg (fun k => k = b ∨ k = g) A W') :
    Calls Try.prog 10 #[.pointer (some ⟨b, 0, none⟩)] wr fun e W' => e = .returned (.tuple #[.int .i64 V, .bool (decide (q = 0)), .int .i64 (if BR then 150 else 0)]) ∧ RoundAt W W' b g (job1 jf fi ca) v V TM BR (q + 1) := by
  obtain ⟨h1, h2, h3⟩ := h
  by_cases hq : q = 0
  · subst hq
    refine (hfirst wr h1 h2).mono ?_
    rintro e C ⟨rfl, k1, k2, k3⟩
    exact ⟨rfl, k1, k2, h3.trans (k3.below h3.size (by rintro x hx (e | e) <;> omega))⟩
  · simp only [if_neg hq] at h1 h2
    refine (later_any h1 (by decide)).mono ?_
    rintro e C ⟨rfl, k1, k3⟩
    refine ⟨?_, by simpa using k1, by simpa using h2.grow k3, h3.trans (k3.mono h3.size)⟩
    have e1 : decide (q = 0) = false := by simp [hq]
    rw [e1]
    cases BR
    · rfl
    · rw [hbr rfl]
      rfl
end Go.Proofs.Ythkgemaajbjgaaa.On

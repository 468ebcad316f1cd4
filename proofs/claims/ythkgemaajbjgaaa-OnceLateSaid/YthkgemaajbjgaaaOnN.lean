/- Once: OnceLate, walked. -/
import Derived.Test.YthkgemaajbjgaaaOnM
namespace Go.Proofs.Ythkgemaajbjgaaa.On
open Go.RowKit
open Go.Proofs.Ythkgemaajbjgaaa.Vb Go.Proofs.Ythkgemaajbjgaaa.Ac

set_option maxRecDepth 100000 in
set_option maxHeartbeats 3200000 in
theorem late_ok (v T : Int) (W : World) :
    Calls Try.prog 3 #[.int .i64 v, .bool false, .int .i64 T] W fun e W' => e = .returned (.bool true) ∧ Below W.heap.size W W' := by
  have hmf : ∀ (fn : Fn) (first cap : Array Value) (w : World), (Instr.makeFunc fn first cap).run Try.prog w = .ok (.func fn first cap) w := fun _ _ _ _ => rfl
  have hnot : ∀ (x : Bool) (w : World), (Op.unary .not (.bool x)).run Try.prog w = .ok (.bool (!x)) w := fun _ _ => rfl
  obtain ⟨U, hU⟩ : ∃ U, U = W.alloc (.cells #[.int .i64 v, .int .i64 0] 24) := ⟨_, rfl⟩
  have HB0 := Lib.hid (show Blk U W.heap.size 24 #[.int .i64 v, .int .i64 0] by rw [hU]; exact Blk.new W _ _)
  have HS0 := Lib.hid (show U.heap.size = W.heap.size + 1 by rw [hU]; simp)
  have HBU := Lib.hid (show Below W.heap.size W U by rw [hU]; exact (Below.refl _ W).alloc (Nat.le_refl _) _)
  have HU := Lib.hid hU
  clear hU
  go_enter Try.func3, Try.ntmps3
  go_wp2_with fail
  rw [← HU.out]
  refine (newLate_any 6 #[.pointer (some ⟨W.heap.size, 0, none⟩)] #[] U).mono ?_
  rintro e A ⟨rfl, hT, hbA⟩
  obtain ⟨b, hb⟩ : ∃ b, b = U.heap.size := ⟨_, rfl⟩
  obtain ⟨g, hg⟩ : ∃ g, g = W.heap.size := ⟨_, rfl⟩
  have hB := HB0.out.grow hbA
  have y0 : A.cell? ⟨g, 1, none⟩ = some (.int .i64 0) := by rw [hg]; exact hB.cell 1
  rw [← hb] at hT ⊢
  rw [← hg] at hB hT ⊢
  have HG := Lib.hid (show g = W.heap.size ∧ b = g + 1 from ⟨hg, by have := HS0.out; omega⟩)
  have HT := Lib.hid hT
  have HB := Lib.hid hB
  have HBA := Lib.hid (HBU.out.trans (hbA.mono HBU.out.size))
  clear hT hB hb hg hbA
  go_wp2_with fail
  refine (newLate_nil A).mono ?_
  rintro e A' ⟨rfl, hA⟩
  rw [hA]
  clear hA
  go_wp2_with fail
  refine (num_any 0 A).mono ?_
  rintro e A' ⟨rfl, hA⟩
  rw [hA]
  clear hA
  go_wp2_with fail
  refine (num_any 1 A).mono ?_
  rintro e A' ⟨rfl, hA⟩
  rw [hA]
  clear hA
  go_wp2_with fail
  refine (done_any HT.out).mono ?_
  rintro e A' ⟨rfl, hA⟩
  rw [hA]
  clear hA
  go_wp2_with fail
  go_loopw [12] (fun i wr => ∃ q : Nat, q ≤ 100 ∧ i = .int .i64 q ∧ RoundAt W wr b g (jobV g) v v 1 false q) (fun i _ => 100 - (intOf i).toNat)
  case atStart => exact ⟨0, by omega, rfl, HT.out, HB.out, HBA.out⟩
  case round =>
    obtain ⟨q, hq, rfl, hR⟩ := hrel
    have HR := Lib.hid hR
    clear hR y0
    by_cases hlt : (q : Int) < T ∧ q < 100
    · obtain ⟨hl1, hl2⟩ := hlt
      have hl3 : (q : Int) < 100 := by omega
      go_wp2_with fail
      refine (asked_any HR.out (by have := HG.out; omega) (by have := HG.out; omega) (fun e => by cases e) (fun X hX hY => first_ok hX hY (by have := HG.out; omega))).mono ?_
      rintro e C ⟨he, hRC⟩
      have he' : e = .returned (.tuple #[.int .i64 v, .bool (decide (q = 0)), .int .i64 0]) := he
      subst he'
      clear he
      have y1 : C.cell? ⟨g, 1, none⟩ = some (.int .i64 1) := hRC.blk.cell 1
      have hdone : Calls Try.prog 9 #[.pointer (some ⟨b, 0, none⟩)] C fun e W' => e = .returned (.bool true) ∧ W' = C := done_any hRC.task
      have HDONE := Lib.hid hdone
      have HRC := Lib.hid hRC
      clear hRC hdone
      by_cases hq0 : q = 0
      · have hqi : (q : Int) = 0 := by omega
        rw [show decide (q = 0) = true by simp [hq0]]
        go_wp2_with fail
        refine HDONE.out.mono ?_
        rintro e A' ⟨rfl, hA⟩
        rw [hA]
        clear hA
        go_wp2_with fail
        refine (num_any 0 C).mono ?_
        rintro e A' ⟨rfl, hA⟩
        rw [hA]
        clear hA
        go_wp2_with fail
        go_round
        case rel => exact ⟨q + 1, by omega, by go_num, HRC.out⟩
        case measure => simp [intOf]; omega
      · have hqi : ¬ (q : Int) = 0 := by omega
        rw [show decide (q = 0) = false by simp [hq0]]
        go_wp2_with fail
        refine HDONE.out.mono ?_
        rintro e A' ⟨rfl, hA⟩
        rw [hA]
        clear hA
        go_wp2_with fail
        refine (num_any 0 C).mono ?_
        rintro e A' ⟨rfl, hA⟩
        rw [hA]
        clear hA
        go_wp2_with fail
        go_round
        case rel => exact ⟨q + 1, by omega, by go_num, HRC.out⟩
        case measure => simp [intOf]; omega
    · obtain ⟨V, hV⟩ : ∃ V, V = wr.alloc (.cells #[.int .u32 0, .int .i32 0, .int .u32 0, .int .u32 0, .int .i64 0, .bool false, .nilFunc] 51) := ⟨_, rfl⟩
      have HTV := Lib.hid (show TaskAt V wr.heap.size 0 0 0 0 false (some .nilFunc) by rw [hV]; exact ⟨_, _, Blk.new _ _ _, rfl, rfl, rfl, rfl, rfl, rfl⟩)
      have HBV := Lib.hid (show Below wr.heap.size wr V by rw [hV]; exact (Below.refl _ wr).alloc (Nat.le_refl _) _)
      have HV := Lib.hid hV
      clear hV
      have hn : T ≤ (q : Int) ∨ ((q : Int) < T ∧ (100 : Int) ≤ (q : Int)) := by omega
      clear hlt
      rcases hn with hn | ⟨hn, hn2⟩
      all_goals (
        go_wp2_with fail
        refine (late_nil wr).mono ?_
        rintro e A' ⟨rfl, hA⟩
        rw [hA]
        clear hA
        go_wp2_with fail
        rw [← HV.out]
        refine (late_zero HTV.out).mono ?_
        rintro e A' ⟨rfl, hA⟩
        rw [hA]
        clear hA
        go_wp2_with fail
        refine (works_any V).mono ?_
        rintro e D ⟨rfl, hbD⟩
        have HBD := Lib.hid (HR.out.below.trans ((HBV.out.trans (hbD.mono HBV.out.size)).mono HR.out.below.size))
        clear hbD
        go_wp2_with fail
        go_ret
        exact ⟨rfl, HBD.out⟩)
set_option maxRecDepth 100000 in
set_option maxHeartbeats 3200000 in
theorem late_bad (v T : Int) (W : World) :
    Calls Try.prog 3 #[.int .i64 v, .bool true, .int .i64 T] W fun e W' => e = .returned (.bool true) ∧ Below W.heap.size W W' := by
  have hmf : ∀ (fn : Fn) (first cap : Array Value) (w : World), (Instr.makeFunc fn first cap).run Try.prog w = .ok (.func fn first cap) w := fun _ _ _ _ => rfl
  have hnot : ∀ (x : Bool) (w : World), (Op.unary .not (.bool x)).run Try.prog w = .ok (.bool (!x)) w := fun _ _ => rfl
  obtain ⟨U, hU⟩ : ∃ U, U = W.alloc (.cells #[.int .i64 v, .int .i64 0] 24) := ⟨_, rfl⟩
  have HB0 := Lib.hid (show Blk U W.heap.size 24 #[.int .i64 v, .int .i64 0] by rw [hU]; exact Blk.new W _ _)
  have HS0 := Lib.hid (show U.heap.size = W.heap.size + 1 by rw [hU]; simp)
  have HBU := Lib.hid (show Below W.heap.size W U by rw [hU]; exact (Below.refl _ W).alloc (Nat.le_refl _) _)
  have HU := Lib.hid hU
  clear hU
  go_enter Try.func3, Try.ntmps3
  go_wp2_with fail
  rw [← HU.out]
  refine (newLate_any 6 #[.pointer (some ⟨W.heap.size, 0, none⟩)] #[] U).mono ?_
  rintro e A ⟨rfl, hT, hbA⟩
  have hS1 := HS0.out
  have hbWA := HBU.out.trans (hbA.mono HBU.out.size)
  have HBX := Lib.hid (HB0.out.grow hbA)
  have HSX := Lib.hid (show W.heap.size < A.heap.size by have := hbA.size; omega)
  have HWA := Lib.hid hbWA
  clear hT hbA hS1 hbWA
  go_wp2_with fail
  refine (wrong_any A).mono ?_
  rintro e A' ⟨rfl, hA⟩
  rw [hA]
  clear hA
  go_wp2_with fail
  refine (newLate_any 21 #[] #[] A).mono ?_
  rintro e A2 ⟨rfl, hT, hbA⟩
  obtain ⟨b, hb⟩ : ∃ b, b = A.heap.size := ⟨_, rfl⟩
  obtain ⟨g, hg⟩ : ∃ g, g = W.heap.size := ⟨_, rfl⟩
  have hB := HBX.out.grow hbA
  have y0 : A2.cell? ⟨g, 1, none⟩ = some (.int .i64 0) := by rw [hg]; exact hB.cell 1
  rw [← hb] at hT ⊢
  rw [← hg] at hB ⊢
  have HG := Lib.hid (show g = W.heap.size ∧ g < b from ⟨hg, by have := HSX.out; omega⟩)
  have HT := Lib.hid hT
  have HB := Lib.hid hB
  have HBA := Lib.hid (HWA.out.trans (hbA.mono HWA.out.size))
  clear hT hB hb hg hbA
  go_wp2_with fail
  refine (newLate_nil A2).mono ?_
  rintro e A' ⟨rfl, hA⟩
  rw [hA]
  clear hA
  go_wp2_with fail
  refine (num_any 0 A2).mono ?_
  rintro e A' ⟨rfl, hA⟩
  rw [hA]
  clear hA
  go_wp2_with fail
  refine (num_any 1 A2).mono ?_
  rintro e A' ⟨rfl, hA⟩
  rw [hA]
  clear hA
  go_wp2_with fail
  refine (done_any HT.out).mono ?_
  rintro e A' ⟨rfl, hA⟩
  rw [hA]
  clear hA
  go_wp2_with fail
  go_loopw [12] (fun i wr => ∃ q : Nat, q ≤ 100 ∧ i = .int .i64 q ∧ RoundAt W wr b g wrongV v 0 0 true q) (fun i _ => 100 - (intOf i).toNat)
  case atStart => exact ⟨0, by omega, rfl, HT.out, HB.out, HBA.out⟩
  case round =>
    obtain ⟨q, hq, rfl, hR⟩ := hrel
    have HR := Lib.hid hR
    clear hR y0
    by_cases hlt : (q : Int) < T ∧ q < 100
    · obtain ⟨hl1, hl2⟩ := hlt
      have hl3 : (q : Int) < 100 := by omega
      go_wp2_with fail
      refine (asked_any HR.out (by have := HG.out; omega) (by have := HG.out; omega) (fun _ => rfl) (fun X hX hY => (first_bad hX).mono fun e X' h => ⟨h.1, h.2.1, hY.chg h.2.2 (by have := HG.out; show ¬ g = b; omega), h.2.2.mono fun _ _ e => .inl e⟩)).mono ?_
      rintro e C ⟨he, hRC⟩
      have he' : e = .returned (.tuple #[.int .i64 0, .bool (decide (q = 0)), .int .i64 150]) := he
      subst he'
      clear he
      have y1 : C.cell? ⟨g, 1, none⟩ = some (.int .i64 0) := hRC.blk.cell 1
      have hdone : Calls Try.prog 9 #[.pointer (some ⟨b, 0, none⟩)] C fun e W' => e = .returned (.bool true) ∧ W' = C := done_any hRC.task
      have HDONE := Lib.hid hdone
      have HRC := Lib.hid hRC
      clear hRC hdone
      by_cases hq0 : q = 0
      · have hqi : (q : Int) = 0 := by omega
        rw [show decide (q = 0) = true by simp [hq0]]
        go_wp2_with fail
        refine HDONE.out.mono ?_
        rintro e A' ⟨rfl, hA⟩
        rw [hA]
        clear hA
        go_wp2_with fail
        refine (num_any 150 C).mono ?_
        rintro e A' ⟨rfl, hA⟩
        rw [hA]
        clear hA
        go_wp2_with fail
        go_round
        case rel => exact ⟨q + 1, by omega, by go_num, HRC.out⟩
        case measure => simp [intOf]; omega
      · have hqi : ¬ (q : Int) = 0 := by omega
        rw [show decide (q = 0) = false by simp [hq0]]
        go_wp2_with fail
        refine HDONE.out.mono ?_
        rintro e A' ⟨rfl, hA⟩
        rw [hA]
        clear hA
        go_wp2_with fail
        refine (num_any 150 C).mono ?_
        rintro e A' ⟨rfl, hA⟩
        rw [hA]
        clear hA
        go_wp2_with fail
        go_round
        case rel => exact ⟨q + 1, by omega, by go_num, HRC.out⟩
        case measure => simp [intOf]; omega
    · obtain ⟨V, hV⟩ : ∃ V, V = wr.alloc (.cells #[.int .u32 0, .int .i32 0, .int .u32 0, .int .u32 0, .int .i64 0, .bool false, .nilFunc] 51) := ⟨_, rfl⟩
      have HTV := Lib.hid (show TaskAt V wr.heap.size 0 0 0 0 false (some .nilFunc) by rw [hV]; exact ⟨_, _, Blk.new _ _ _, rfl, rfl, rfl, rfl, rfl, rfl⟩)
      have HBV := Lib.hid (show Below wr.heap.size wr V by rw [hV]; exact (Below.refl _ wr).alloc (Nat.le_refl _) _)
      have HV := Lib.hid hV
      clear hV
      have hn : T ≤ (q : Int) ∨ ((q : Int) < T ∧ (100 : Int) ≤ (q : Int)) := by omega
      clear hlt
      rcases hn with hn | ⟨hn, hn2⟩
      all_goals (
        go_wp2_with fail
        refine (late_nil wr).mono ?_
        rintro e A' ⟨rfl, hA⟩
        rw [hA]
        clear hA
        go_wp2_with fail
        rw [← HV.out]
        refine (late_zero HTV.out).mono ?_
        rintro e A' ⟨rfl, hA⟩
        rw [hA]
        clear hA
        go_wp2_with fail
        refine (works_any V).mono ?_
        rintro e D ⟨rfl, hbD⟩
        have HBD := Lib.hid (HR.out.below.trans ((HBV.out.trans (hbD.mono HBV.out.size)).mono HR.out.below.size))
        clear hbD
        go_wp2_with fail
        go_ret
        exact ⟨rfl, HBD.out⟩)
end Go.Proofs.Ythkgemaajbjgaaa.On

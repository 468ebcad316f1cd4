/- Once: one that is late. -/
import Derived.Test.YthkgemaajbjgaaaOnE
namespace Go.Proofs.Ythkgemaajbjgaaa.On
open Go.RowKit
open Go.Proofs.Ythkgemaajbjgaaa.Vb Go.Proofs.Ythkgemaajbjgaaa.Ac

theorem eq_job (jf : Nat) (fi ca : Array Value) (W : World) : (binOp .eql 29 (job1 jf fi ca) .nilFunc).run Try.prog W = .ok (.bool false) W := by kernel_rfl
theorem eq_nil (W : World) : (binOp .eql 29 .nilFunc .nilFunc).run Try.prog W = .ok (.bool true) W := by kernel_rfl
set_option maxRecDepth 100000 in
set_option maxHeartbeats 3200000 in
theorem value_any {b jf : Nat} {fi ca : Array Value} {d L o v d' L' o' v' : Int} {br br' ran : Bool} {W : World} (R : World → Prop) (hT : TaskAt W b d L o v br (some (job1 jf fi ca)))
    (hdo : Calls Try.prog 23 #[.pointer (some ⟨b, 0, none⟩), job1 jf fi ca] W.drew fun e W' => e = .returned (.bool ran) ∧ TaskAt W' b d' L' o' v' br' (some (job1 jf fi ca)) ∧ R W') :
    Calls Try.prog 10 #[.pointer (some ⟨b, 0, none⟩)] W fun e W' => e = .returned (.tuple #[.int .i64 (if br' then 0 else v'), .bool ran, .int .i64 (if br' then 150 else 0)]) ∧ TaskAt W' b d' L' o' v' br' (some (job1 jf fi ca)) ∧ R W' := by
  have c6 : W.cell? ⟨b, 6, none⟩ = some (job1 jf fi ca) := hT.cells.2.2.2.2.2
  have hj := eq_job jf fi ca
  have HD := Lib.hid hdo
  obtain ⟨z1, hz1⟩ : ∃ z : Int, z = if br' then 0 else v' := ⟨_, rfl⟩
  obtain ⟨z2, hz2⟩ : ∃ z : Int, z = if br' then 150 else 0 := ⟨_, rfl⟩
  rw [← hz1, ← hz2]
  have HZ1 := Lib.hid hz1
  have HZ2 := Lib.hid hz2
  clear hT hdo hz1 hz2
  go_enter Try.func10, Try.ntmps10
  go_wp2_with fail
  refine wp_region_F (fun A => A.cell? ⟨b, 6, none⟩ = some (job1 jf fi ca)) [] (by kernel_rfl) c6 (fun hS => ?_)
  refine wpAnyF_take (i := 0) (oi := { dst := some 17, op := Go.Op.move (Go.Operand.tmp 0), type := 25, pos := "once.go:195", after := #[], guard := none }) (v := ?_) rfl (by kernel_rfl) (by kernel_rfl) (by kernel_rfl) (by kernel_rfl) (fun _ _ _ h => h) (Or.inl ⟨by rfl, ?_⟩) hS ?_
  rotate_left
  · intro w' hSw; go_simp; try with_reducible rfl
  try simp only [Act.put, List.setIfInBounds_toArray, List.set_cons_zero, List.set_cons_succ]
  refine wpAnyF_take (i := 1) (oi := { dst := some 18, op := Go.Op.nilCheck (Go.Operand.tmp 17), type := 0, pos := "once.go:195", after := #[{ on := 0, ground := Go.Ground.data }], guard := none }) (v := ?_) rfl (by kernel_rfl) (by kernel_rfl) (by kernel_rfl) (by kernel_rfl) (fun _ _ _ h => h) (Or.inl ⟨by rfl, ?_⟩) hS ?_
  rotate_left
  · intro w' hSw; go_simp; try with_reducible rfl
  try simp only [Act.put, List.setIfInBounds_toArray, List.set_cons_zero, List.set_cons_succ]
  refine wpAnyF_take (i := 2) (oi := { dst := some 19, op := Go.Op.fieldAddr 51 (Go.Operand.tmp 18) 0, type := 0, pos := "once.go:195", after := #[{ on := 1, ground := Go.Ground.data }], guard := none }) (v := ?_) rfl (by kernel_rfl) (by kernel_rfl) (by kernel_rfl) (by kernel_rfl) (fun _ _ _ h => h) (Or.inl ⟨by rfl, ?_⟩) hS ?_
  rotate_left
  · intro w' hSw; go_simp; try with_reducible rfl
  try simp only [Act.put, List.setIfInBounds_toArray, List.set_cons_zero, List.set_cons_succ]
  refine wpAnyF_take (i := 3) (oi := { dst := some 20, op := Go.Op.move (Go.Operand.tmp 0), type := 25, pos := "once.go:195", after := #[], guard := none }) (v := ?_) rfl (by kernel_rfl) (by kernel_rfl) (by kernel_rfl) (by kernel_rfl) (fun _ _ _ h => h) (Or.inl ⟨by rfl, ?_⟩) hS ?_
  rotate_left
  · intro w' hSw; go_simp; try with_reducible rfl
  try simp only [Act.put, List.setIfInBounds_toArray, List.set_cons_zero, List.set_cons_succ]
  refine wpAnyF_take (i := 4) (oi := { dst := some 21, op := Go.Op.nilCheck (Go.Operand.tmp 20), type := 0, pos := "once.go:195", after := #[{ on := 3, ground := Go.Ground.data }], guard := none }) (v := ?_) rfl (by kernel_rfl) (by kernel_rfl) (by kernel_rfl) (by kernel_rfl) (fun _ _ _ h => h) (Or.inl ⟨by rfl, ?_⟩) hS ?_
  rotate_left
  · intro w' hSw; go_simp; try with_reducible rfl
  try simp only [Act.put, List.setIfInBounds_toArray, List.set_cons_zero, List.set_cons_succ]
  refine wpAnyF_take (i := 5) (oi := { dst := some 22, op := Go.Op.fieldAddr 51 (Go.Operand.tmp 21) 1, type := 0, pos := "once.go:195", after := #[{ on := 4, ground := Go.Ground.data }], guard := none }) (v := ?_) rfl (by kernel_rfl) (by kernel_rfl) (by kernel_rfl) (by kernel_rfl) (fun _ _ _ h => h) (Or.inl ⟨by rfl, ?_⟩) hS ?_
  rotate_left
  · intro w' hSw; go_simp; try with_reducible rfl
  try simp only [Act.put, List.setIfInBounds_toArray, List.set_cons_zero, List.set_cons_succ]
  refine wpAnyF_take (i := 6) (oi := { dst := some 23, op := Go.Op.load 29 (Go.Operand.tmp 22), type := 29, pos := "once.go:195", after := #[{ on := 5, ground := Go.Ground.data }], guard := none }) (v := ?_) rfl (by kernel_rfl) (by kernel_rfl) (by kernel_rfl) (by kernel_rfl) (fun _ _ _ h => h) (Or.inl ⟨by rfl, ?_⟩) hS ?_
  rotate_left
  · intro w' hSw; go_simp; try with_reducible rfl
  try simp only [Act.put, List.setIfInBounds_toArray, List.set_cons_zero, List.set_cons_succ]
  refine wpAnyF_ready (rs := [7]) (by kernel_rfl) (by simp) ?_
  refine AllReadyF.cons (o := { dst := some 24, op := Go.Op.call { callee := Go.Callee.value (Go.Operand.func 23), args := #[Go.Operand.tmp 19, Go.Operand.tmp 23], argTypes := #[49, 29] }, type := 4, pos := "once.go:195", after := #[{ on := 2, ground := Go.Ground.data }, { on := 6, ground := Go.Ground.data }], guard := none }) rfl (by rfl) (fun K hK => ?_) ?_
  · go_simp
    refine HD.out.mono ?_
    rintro e B ⟨rfl, hTB, hRB⟩
    have HTB := Lib.hid hTB
    have HRB := Lib.hid hRB
    clear hTB hRB
    refine hK.out _ _ ?_ (fun hS => ?_)
    · exact HTB.out.cells.2.2.2.2.2
    clear hK K
    try simp only [Act.put, List.setIfInBounds_toArray, List.set_cons_zero, List.set_cons_succ]
    refine wpAnyF_take (i := 8) (oi := { dst := some 5, op := Go.Op.assign (Go.Operand.tmp 24), type := 4, pos := "once.go:195", after := #[{ on := 7, ground := Go.Ground.data }, { on := 7, ground := Go.Ground.chain }, { on := 0, ground := Go.Ground.phase }, { on := 1, ground := Go.Ground.phase }, { on := 2, ground := Go.Ground.phase }, { on := 3, ground := Go.Ground.phase }, { on := 4, ground := Go.Ground.phase }, { on := 5, ground := Go.Ground.phase }, { on := 6, ground := Go.Ground.phase }, { on := 7, ground := Go.Ground.phase }], guard := none }) (v := ?_) rfl (by kernel_rfl) (by kernel_rfl) (by kernel_rfl) (by kernel_rfl) (fun _ _ _ h => h) (Or.inl ⟨by rfl, ?_⟩) hS ?_
    rotate_left
    · intro w' hSw; go_simp; try with_reducible rfl
    try simp only [Act.put, List.setIfInBounds_toArray, List.set_cons_zero, List.set_cons_succ]
    refine wpAnyF_done (by kernel_rfl) ?_ _
    clear hS
    go_wp2_with fail
    refine (told_any HTB.out).mono ?_
    rintro e C ⟨rfl, hC⟩
    rw [hC, ← HZ1.out, ← HZ2.out]
    clear hC
    go_wp2_with fail
    exact bodyPost_ret (v := .tuple #[.int .i64 z1, .bool ran, .int .i64 z2]) (by simp [results, Try.results10, go_sem]) rfl ⟨rfl, HTB.out, HRB.out⟩
  exact AllReadyF.nil
set_option maxRecDepth 100000 in
theorem value_nil (W : World) : Calls Try.prog 10 #[.pointer none] W fun e W' => e = .returned (.tuple #[.int .i64 0, .bool false, .int .i64 1]) ∧ W' = W := by
  go_enter Try.func10, Try.ntmps10
  go_wp2_with fail
  exact bodyPost_ret (v := .tuple #[.int .i64 0, .bool false, .int .i64 1]) (by simp [results, Try.results10, go_sem]) rfl ⟨rfl, rfl⟩
set_option maxRecDepth 100000 in
theorem value_zero {b : Nat} {d L o v : Int} {br : Bool} {W : World} (hT : TaskAt W b d L o v br (some .nilFunc)) : Calls Try.prog 10 #[.pointer (some ⟨b, 0, none⟩)] W fun e W' => e = .returned (.tuple #[.int .i64 0, .bool false, .int .i64 1]) ∧ W' = W := by
  have c6 : W.cell? ⟨b, 6, none⟩ = some .nilFunc := hT.cells.2.2.2.2.2
  have hj := eq_nil
  clear hT
  go_enter Try.func10, Try.ntmps10
  go_wp2_with fail
  exact bodyPost_ret (v := .tuple #[.int .i64 0, .bool false, .int .i64 1]) (by simp [results, Try.results10, go_sem]) rfl ⟨rfl, rfl⟩
set_option maxRecDepth 100000 in
theorem late_nil (W : World) : Calls Try.prog 11 #[.pointer none] W fun e W' => e = .returned (.bool true) ∧ W' = W := by
  have hnot : ∀ (x : Bool) (w : World), (Op.unary .not (.bool x)).run Try.prog w = .ok (.bool (!x)) w := fun _ _ => rfl
  go_enter Try.func11, Try.ntmps11
  go_wp2_with fail
  refine (value_nil W).mono ?_
  rintro e A ⟨rfl, hA⟩
  rw [hA]
  go_wp2_with fail
  refine (num_any 1 W).mono ?_
  rintro e B ⟨rfl, hB⟩
  rw [hB]
  go_wp2_with fail
  refine (done_nil W).mono ?_
  rintro e C ⟨rfl, hC⟩
  rw [hC]
  go_wp2_with fail
  go_ret
  exact ⟨rfl, rfl⟩
set_option maxRecDepth 100000 in
theorem late_zero {b : Nat} {d L v : Int} {br : Bool} {W : World} (hT : TaskAt W b d L 0 v br (some .nilFunc)) : Calls Try.prog 11 #[.pointer (some ⟨b, 0, none⟩)] W fun e W' => e = .returned (.bool true) ∧ W' = W := by
  have hnot : ∀ (x : Bool) (w : World), (Op.unary .not (.bool x)).run Try.prog w = .ok (.bool (!x)) w := fun _ _ => rfl
  have HT := Lib.hid hT
  clear hT
  go_enter Try.func11, Try.ntmps11
  go_wp2_with fail
  refine (value_zero HT.out).mono ?_
  rintro e A ⟨rfl, hA⟩
  rw [hA]
  go_wp2_with fail
  refine (num_any 1 W).mono ?_
  rintro e B ⟨rfl, hB⟩
  rw [hB]
  go_wp2_with fail
  refine (done_any HT.out).mono ?_
  rintro e C ⟨rfl, hC⟩
  rw [hC]
  go_wp2_with fail
  go_ret
  exact ⟨rfl, rfl⟩
end Go.Proofs.Ythkgemaajbjgaaa.On

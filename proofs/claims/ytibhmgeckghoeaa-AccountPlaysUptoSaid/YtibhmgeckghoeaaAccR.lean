/- Account: Same. (Printed by tools/gen_same.py.) -/
import Derived.Test.YtibhmgeckghoeaaAccQ
namespace Go.Proofs.Ytibhmgeckghoeaa.Ac
open Go.RowKit Go.Shelf Go.Maps
open Go.Proofs.Ytibhmgeckghoeaa.Vb
attribute [local go_sem] Oper.semAt_some

def sameB (a c : Acc) : Bool := decide (a.bud = c.bud ∧ a.sp = c.sp ∧ a.M = c.M)
def Fm.same : Fm → Fm → Bool
  | .live a, .live c => sameB a c
  | _, _ => false
theorem same_eq {a c : Acc} : sameB a c = true ↔ a = c := by
  obtain ⟨a1, a2, a3⟩ := a
  obtain ⟨c1, c2, c3⟩ := c
  simp [sameB]

set_option maxRecDepth 100000 in
set_option maxHeartbeats 4000000 in
theorem same_dead1 {v u : Value} {f : Fm} {w : World} (h : AtP w v f) (hf : f.there = false) :
    Calls Try.prog 10 #[v, u] w fun e w' => e = .returned (.bool false) ∧ Below w.heap.size w w' := by
  have H1 := Lib.hid h
  have H1T := Lib.hid hf
  clear h hf
  go_enter Try.func10, Try.ntmps10
  go_wp2_with fail
  refine wp_region_F (Below w.heap.size w) [] (by kernel_rfl) ((Below.refl _ _).drew) (fun hS => ?_)
  refine wpAnyF_take (i := 0) (oi := { dst := some 5, op := Go.Op.move (Go.Operand.tmp 0), type := 23, pos := "account.go:162", after := #[], guard := none }) (v := ?_) rfl (by kernel_rfl) (by kernel_rfl) (by kernel_rfl) (by kernel_rfl) (fun _ _ _ h => h) (Or.inl ⟨by rfl, ?_⟩) hS ?_
  rotate_left
  · intro w' hSw; go_simp; try with_reducible rfl
  try simp only [Act.put, List.setIfInBounds_toArray, List.set_cons_zero, List.set_cons_succ]
  refine wpAnyF_ready (rs := [1]) (by kernel_rfl) (by simp) ?_
  refine AllReadyF.cons (o := { dst := some 6, op := Go.Op.call { callee := Go.Callee.value (Go.Operand.func 38), args := #[Go.Operand.tmp 5], argTypes := #[23] }, type := 4, pos := "account.go:162", after := #[{ on := 0, ground := Go.Ground.data }], guard := none }) rfl (by rfl) (fun K hK => ?_) ?_
  · go_simp
    refine (there_any (H1.out.grow hS)).mono ?_
    rintro e w7 ⟨rfl, hw7⟩
    rw [hw7]
    clear hw7
    rw [H1T.out]
    refine hK.out _ _ ?_ (fun hS => ?_)
    · exact hS
    clear hK K
    try simp only [Act.put, List.setIfInBounds_toArray, List.set_cons_zero, List.set_cons_succ]
    refine wpAnyF_take (i := 2) (oi := { dst := some 7, op := Go.Op.move (Go.Operand.tmp 6), type := 4, pos := "account.go:162", after := #[{ on := 1, ground := Go.Ground.data }, { on := 1, ground := Go.Ground.chain }], guard := none }) (v := ?_) rfl (by kernel_rfl) (by kernel_rfl) (by kernel_rfl) (by kernel_rfl) (fun _ _ _ h => h) (Or.inl ⟨by rfl, ?_⟩) hS ?_
    rotate_left
    · intro w' hSw; go_simp; try with_reducible rfl
    try simp only [Act.put, List.setIfInBounds_toArray, List.set_cons_zero, List.set_cons_succ]
    refine wpAnyF_take (i := 3) (oi := { dst := some 8, op := Go.Op.move (Go.Operand.tmp 1), type := 23, pos := "account.go:162", after := #[{ on := 2, ground := Go.Ground.guard }], guard := some (2, true) }) (v := undef) rfl (by kernel_rfl) (by kernel_rfl) (by kernel_rfl) (by kernel_rfl) (fun _ _ _ h => h) (Or.inr ⟨by rfl, rfl⟩) hS ?_
    try simp only [Act.put, List.setIfInBounds_toArray, List.set_cons_zero, List.set_cons_succ]
    refine wpAnyF_take (i := 4) (oi := { dst := some 9, op := Go.Op.call { callee := Go.Callee.value (Go.Operand.func 38), args := #[Go.Operand.tmp 8], argTypes := #[23] }, type := 4, pos := "account.go:162", after := #[{ on := 3, ground := Go.Ground.data }, { on := 2, ground := Go.Ground.chain }, { on := 2, ground := Go.Ground.guard }], guard := some (2, true) }) (v := undef) rfl (by kernel_rfl) (by kernel_rfl) (by kernel_rfl) (by kernel_rfl) (fun _ _ _ h => h) (Or.inr ⟨by rfl, rfl⟩) hS ?_
    try simp only [Act.put, List.setIfInBounds_toArray, List.set_cons_zero, List.set_cons_succ]
    refine wpAnyF_take (i := 5) (oi := { dst := some 10, op := Go.Op.pick (Go.Operand.tmp 7) (Go.Operand.tmp 9) (Go.Operand.const (Go.Value.bool false)), type := 4, pos := "account.go:162", after := #[{ on := 2, ground := Go.Ground.data }, { on := 4, ground := Go.Ground.data }], guard := none }) (v := ?_) rfl (by kernel_rfl) (by kernel_rfl) (by kernel_rfl) (by kernel_rfl) (fun _ _ _ h => h) (Or.inl ⟨by rfl, ?_⟩) hS ?_
    rotate_left
    · intro w' hSw; go_simp; try with_reducible rfl
    try simp only [Act.put, List.setIfInBounds_toArray, List.set_cons_zero, List.set_cons_succ]
    refine wpAnyF_take (i := 6) (oi := { dst := some 11, op := Go.Op.move (Go.Operand.tmp 10), type := 4, pos := "account.go:162", after := #[{ on := 5, ground := Go.Ground.data }, { on := 4, ground := Go.Ground.chain }], guard := none }) (v := ?_) rfl (by kernel_rfl) (by kernel_rfl) (by kernel_rfl) (by kernel_rfl) (fun _ _ _ h => h) (Or.inl ⟨by rfl, ?_⟩) hS ?_
    rotate_left
    · intro w' hSw; go_simp; try with_reducible rfl
    try simp only [Act.put, List.setIfInBounds_toArray, List.set_cons_zero, List.set_cons_succ]
    refine wpAnyF_take (i := 7) (oi := { dst := some 12, op := Go.Op.move (Go.Operand.tmp 0), type := 23, pos := "account.go:162", after := #[{ on := 6, ground := Go.Ground.guard }], guard := some (6, true) }) (v := undef) rfl (by kernel_rfl) (by kernel_rfl) (by kernel_rfl) (by kernel_rfl) (fun _ _ _ h => h) (Or.inr ⟨by rfl, rfl⟩) hS ?_
    try simp only [Act.put, List.setIfInBounds_toArray, List.set_cons_zero, List.set_cons_succ]
    refine wpAnyF_take (i := 8) (oi := { dst := some 13, op := Go.Op.nilCheck (Go.Operand.tmp 12), type := 0, pos := "account.go:162", after := #[{ on := 7, ground := Go.Ground.data }, { on := 6, ground := Go.Ground.guard }], guard := some (6, true) }) (v := undef) rfl (by kernel_rfl) (by kernel_rfl) (by kernel_rfl) (by kernel_rfl) (fun _ _ _ h => h) (Or.inr ⟨by rfl, rfl⟩) hS ?_
    try simp only [Act.put, List.setIfInBounds_toArray, List.set_cons_zero, List.set_cons_succ]
    refine wpAnyF_take (i := 9) (oi := { dst := some 14, op := Go.Op.fieldAddr 67 (Go.Operand.tmp 13) 0, type := 0, pos := "account.go:162", after := #[{ on := 8, ground := Go.Ground.data }, { on := 6, ground := Go.Ground.guard }], guard := some (6, true) }) (v := undef) rfl (by kernel_rfl) (by kernel_rfl) (by kernel_rfl) (by kernel_rfl) (fun _ _ _ h => h) (Or.inr ⟨by rfl, rfl⟩) hS ?_
    try simp only [Act.put, List.setIfInBounds_toArray, List.set_cons_zero, List.set_cons_succ]
    refine wpAnyF_take (i := 10) (oi := { dst := some 15, op := Go.Op.load 2 (Go.Operand.tmp 14), type := 2, pos := "account.go:162", after := #[{ on := 9, ground := Go.Ground.data }, { on := 6, ground := Go.Ground.guard }], guard := some (6, true) }) (v := undef) rfl (by kernel_rfl) (by kernel_rfl) (by kernel_rfl) (by kernel_rfl) (fun _ _ _ h => h) (Or.inr ⟨by rfl, rfl⟩) hS ?_
    try simp only [Act.put, List.setIfInBounds_toArray, List.set_cons_zero, List.set_cons_succ]
    refine wpAnyF_take (i := 11) (oi := { dst := some 16, op := Go.Op.move (Go.Operand.tmp 1), type := 23, pos := "account.go:162", after := #[{ on := 6, ground := Go.Ground.guard }], guard := some (6, true) }) (v := undef) rfl (by kernel_rfl) (by kernel_rfl) (by kernel_rfl) (by kernel_rfl) (fun _ _ _ h => h) (Or.inr ⟨by rfl, rfl⟩) hS ?_
    try simp only [Act.put, List.setIfInBounds_toArray, List.set_cons_zero, List.set_cons_succ]
    refine wpAnyF_take (i := 12) (oi := { dst := some 17, op := Go.Op.nilCheck (Go.Operand.tmp 16), type := 0, pos := "account.go:162", after := #[{ on := 11, ground := Go.Ground.data }, { on := 6, ground := Go.Ground.guard }], guard := some (6, true) }) (v := undef) rfl (by kernel_rfl) (by kernel_rfl) (by kernel_rfl) (by kernel_rfl) (fun _ _ _ h => h) (Or.inr ⟨by rfl, rfl⟩) hS ?_
    try simp only [Act.put, List.setIfInBounds_toArray, List.set_cons_zero, List.set_cons_succ]
    refine wpAnyF_take (i := 13) (oi := { dst := some 18, op := Go.Op.fieldAddr 67 (Go.Operand.tmp 17) 0, type := 0, pos := "account.go:162", after := #[{ on := 12, ground := Go.Ground.data }, { on := 6, ground := Go.Ground.guard }], guard := some (6, true) }) (v := undef) rfl (by kernel_rfl) (by kernel_rfl) (by kernel_rfl) (by kernel_rfl) (fun _ _ _ h => h) (Or.inr ⟨by rfl, rfl⟩) hS ?_
    try simp only [Act.put, List.setIfInBounds_toArray, List.set_cons_zero, List.set_cons_succ]
    refine wpAnyF_take (i := 14) (oi := { dst := some 19, op := Go.Op.load 2 (Go.Operand.tmp 18), type := 2, pos := "account.go:162", after := #[{ on := 13, ground := Go.Ground.data }, { on := 6, ground := Go.Ground.guard }], guard := some (6, true) }) (v := undef) rfl (by kernel_rfl) (by kernel_rfl) (by kernel_rfl) (by kernel_rfl) (fun _ _ _ h => h) (Or.inr ⟨by rfl, rfl⟩) hS ?_
    try simp only [Act.put, List.setIfInBounds_toArray, List.set_cons_zero, List.set_cons_succ]
    refine wpAnyF_take (i := 15) (oi := { dst := some 20, op := Go.Op.binOp Go.BinOp.eql 2 (Go.Operand.tmp 15) (Go.Operand.tmp 19) 2, type := 4, pos := "account.go:162", after := #[{ on := 10, ground := Go.Ground.data }, { on := 14, ground := Go.Ground.data }, { on := 6, ground := Go.Ground.guard }], guard := some (6, true) }) (v := undef) rfl (by kernel_rfl) (by kernel_rfl) (by kernel_rfl) (by kernel_rfl) (fun _ _ _ h => h) (Or.inr ⟨by rfl, rfl⟩) hS ?_
    try simp only [Act.put, List.setIfInBounds_toArray, List.set_cons_zero, List.set_cons_succ]
    refine wpAnyF_take (i := 16) (oi := { dst := some 21, op := Go.Op.pick (Go.Operand.tmp 11) (Go.Operand.tmp 20) (Go.Operand.const (Go.Value.bool false)), type := 4, pos := "account.go:162", after := #[{ on := 6, ground := Go.Ground.data }, { on := 15, ground := Go.Ground.data }], guard := none }) (v := ?_) rfl (by kernel_rfl) (by kernel_rfl) (by kernel_rfl) (by kernel_rfl) (fun _ _ _ h => h) (Or.inl ⟨by rfl, ?_⟩) hS ?_
    rotate_left
    · intro w' hSw; go_simp; try with_reducible rfl
    try simp only [Act.put, List.setIfInBounds_toArray, List.set_cons_zero, List.set_cons_succ]
    refine wpAnyF_take (i := 17) (oi := { dst := some 22, op := Go.Op.move (Go.Operand.tmp 21), type := 4, pos := "account.go:162", after := #[{ on := 16, ground := Go.Ground.data }, { on := 6, ground := Go.Ground.chain }], guard := none }) (v := ?_) rfl (by kernel_rfl) (by kernel_rfl) (by kernel_rfl) (by kernel_rfl) (fun _ _ _ h => h) (Or.inl ⟨by rfl, ?_⟩) hS ?_
    rotate_left
    · intro w' hSw; go_simp; try with_reducible rfl
    try simp only [Act.put, List.setIfInBounds_toArray, List.set_cons_zero, List.set_cons_succ]
    refine wpAnyF_take (i := 18) (oi := { dst := some 23, op := Go.Op.move (Go.Operand.tmp 0), type := 23, pos := "account.go:162", after := #[{ on := 17, ground := Go.Ground.guard }], guard := some (17, true) }) (v := undef) rfl (by kernel_rfl) (by kernel_rfl) (by kernel_rfl) (by kernel_rfl) (fun _ _ _ h => h) (Or.inr ⟨by rfl, rfl⟩) hS ?_
    try simp only [Act.put, List.setIfInBounds_toArray, List.set_cons_zero, List.set_cons_succ]
    refine wpAnyF_take (i := 19) (oi := { dst := some 24, op := Go.Op.nilCheck (Go.Operand.tmp 23), type := 0, pos := "account.go:162", after := #[{ on := 18, ground := Go.Ground.data }, { on := 17, ground := Go.Ground.guard }], guard := some (17, true) }) (v := undef) rfl (by kernel_rfl) (by kernel_rfl) (by kernel_rfl) (by kernel_rfl) (fun _ _ _ h => h) (Or.inr ⟨by rfl, rfl⟩) hS ?_
    try simp only [Act.put, List.setIfInBounds_toArray, List.set_cons_zero, List.set_cons_succ]
    refine wpAnyF_take (i := 20) (oi := { dst := some 25, op := Go.Op.fieldAddr 67 (Go.Operand.tmp 24) 1, type := 0, pos := "account.go:162", after := #[{ on := 19, ground := Go.Ground.data }, { on := 17, ground := Go.Ground.guard }], guard := some (17, true) }) (v := undef) rfl (by kernel_rfl) (by kernel_rfl) (by kernel_rfl) (by kernel_rfl) (fun _ _ _ h => h) (Or.inr ⟨by rfl, rfl⟩) hS ?_
    try simp only [Act.put, List.setIfInBounds_toArray, List.set_cons_zero, List.set_cons_succ]
    refine wpAnyF_take (i := 21) (oi := { dst := some 26, op := Go.Op.load 2 (Go.Operand.tmp 25), type := 2, pos := "account.go:162", after := #[{ on := 20, ground := Go.Ground.data }, { on := 17, ground := Go.Ground.guard }], guard := some (17, true) }) (v := undef) rfl (by kernel_rfl) (by kernel_rfl) (by kernel_rfl) (by kernel_rfl) (fun _ _ _ h => h) (Or.inr ⟨by rfl, rfl⟩) hS ?_
    try simp only [Act.put, List.setIfInBounds_toArray, List.set_cons_zero, List.set_cons_succ]
    refine wpAnyF_take (i := 22) (oi := { dst := some 27, op := Go.Op.move (Go.Operand.tmp 1), type := 23, pos := "account.go:162", after := #[{ on := 17, ground := Go.Ground.guard }], guard := some (17, true) }) (v := undef) rfl (by kernel_rfl) (by kernel_rfl) (by kernel_rfl) (by kernel_rfl) (fun _ _ _ h => h) (Or.inr ⟨by rfl, rfl⟩) hS ?_
    try simp only [Act.put, List.setIfInBounds_toArray, List.set_cons_zero, List.set_cons_succ]
    refine wpAnyF_take (i := 23) (oi := { dst := some 28, op := Go.Op.nilCheck (Go.Operand.tmp 27), type := 0, pos := "account.go:162", after := #[{ on := 22, ground := Go.Ground.data }, { on := 17, ground := Go.Ground.guard }], guard := some (17, true) }) (v := undef) rfl (by kernel_rfl) (by kernel_rfl) (by kernel_rfl) (by kernel_rfl) (fun _ _ _ h => h) (Or.inr ⟨by rfl, rfl⟩) hS ?_
    try simp only [Act.put, List.setIfInBounds_toArray, List.set_cons_zero, List.set_cons_succ]
    refine wpAnyF_take (i := 24) (oi := { dst := some 29, op := Go.Op.fieldAddr 67 (Go.Operand.tmp 28) 1, type := 0, pos := "account.go:162", after := #[{ on := 23, ground := Go.Ground.data }, { on := 17, ground := Go.Ground.guard }], guard := some (17, true) }) (v := undef) rfl (by kernel_rfl) (by kernel_rfl) (by kernel_rfl) (by kernel_rfl) (fun _ _ _ h => h) (Or.inr ⟨by rfl, rfl⟩) hS ?_
    try simp only [Act.put, List.setIfInBounds_toArray, List.set_cons_zero, List.set_cons_succ]
    refine wpAnyF_take (i := 25) (oi := { dst := some 30, op := Go.Op.load 2 (Go.Operand.tmp 29), type := 2, pos := "account.go:162", after := #[{ on := 24, ground := Go.Ground.data }, { on := 17, ground := Go.Ground.guard }], guard := some (17, true) }) (v := undef) rfl (by kernel_rfl) (by kernel_rfl) (by kernel_rfl) (by kernel_rfl) (fun _ _ _ h => h) (Or.inr ⟨by rfl, rfl⟩) hS ?_
    try simp only [Act.put, List.setIfInBounds_toArray, List.set_cons_zero, List.set_cons_succ]
    refine wpAnyF_take (i := 26) (oi := { dst := some 31, op := Go.Op.binOp Go.BinOp.eql 2 (Go.Operand.tmp 26) (Go.Operand.tmp 30) 2, type := 4, pos := "account.go:162", after := #[{ on := 21, ground := Go.Ground.data }, { on := 25, ground := Go.Ground.data }, { on := 17, ground := Go.Ground.guard }], guard := some (17, true) }) (v := undef) rfl (by kernel_rfl) (by kernel_rfl) (by kernel_rfl) (by kernel_rfl) (fun _ _ _ h => h) (Or.inr ⟨by rfl, rfl⟩) hS ?_
    try simp only [Act.put, List.setIfInBounds_toArray, List.set_cons_zero, List.set_cons_succ]
    refine wpAnyF_take (i := 27) (oi := { dst := some 32, op := Go.Op.pick (Go.Operand.tmp 22) (Go.Operand.tmp 31) (Go.Operand.const (Go.Value.bool false)), type := 4, pos := "account.go:162", after := #[{ on := 17, ground := Go.Ground.data }, { on := 26, ground := Go.Ground.data }], guard := none }) (v := ?_) rfl (by kernel_rfl) (by kernel_rfl) (by kernel_rfl) (by kernel_rfl) (fun _ _ _ h => h) (Or.inl ⟨by rfl, ?_⟩) hS ?_
    rotate_left
    · intro w' hSw; go_simp; try with_reducible rfl
    try simp only [Act.put, List.setIfInBounds_toArray, List.set_cons_zero, List.set_cons_succ]
    refine wpAnyF_take (i := 28) (oi := { dst := some 33, op := Go.Op.move (Go.Operand.tmp 32), type := 4, pos := "account.go:162", after := #[{ on := 27, ground := Go.Ground.data }, { on := 17, ground := Go.Ground.chain }], guard := none }) (v := ?_) rfl (by kernel_rfl) (by kernel_rfl) (by kernel_rfl) (by kernel_rfl) (fun _ _ _ h => h) (Or.inl ⟨by rfl, ?_⟩) hS ?_
    rotate_left
    · intro w' hSw; go_simp; try with_reducible rfl
    try simp only [Act.put, List.setIfInBounds_toArray, List.set_cons_zero, List.set_cons_succ]
    refine wpAnyF_take (i := 29) (oi := { dst := some 34, op := Go.Op.move (Go.Operand.tmp 0), type := 23, pos := "account.go:162", after := #[{ on := 28, ground := Go.Ground.guard }], guard := some (28, true) }) (v := undef) rfl (by kernel_rfl) (by kernel_rfl) (by kernel_rfl) (by kernel_rfl) (fun _ _ _ h => h) (Or.inr ⟨by rfl, rfl⟩) hS ?_
    try simp only [Act.put, List.setIfInBounds_toArray, List.set_cons_zero, List.set_cons_succ]
    refine wpAnyF_take (i := 30) (oi := { dst := some 35, op := Go.Op.nilCheck (Go.Operand.tmp 34), type := 0, pos := "account.go:162", after := #[{ on := 29, ground := Go.Ground.data }, { on := 28, ground := Go.Ground.guard }], guard := some (28, true) }) (v := undef) rfl (by kernel_rfl) (by kernel_rfl) (by kernel_rfl) (by kernel_rfl) (fun _ _ _ h => h) (Or.inr ⟨by rfl, rfl⟩) hS ?_
    try simp only [Act.put, List.setIfInBounds_toArray, List.set_cons_zero, List.set_cons_succ]
    refine wpAnyF_take (i := 31) (oi := { dst := some 36, op := Go.Op.fieldAddr 67 (Go.Operand.tmp 35) 2, type := 0, pos := "account.go:162", after := #[{ on := 30, ground := Go.Ground.data }, { on := 28, ground := Go.Ground.guard }], guard := some (28, true) }) (v := undef) rfl (by kernel_rfl) (by kernel_rfl) (by kernel_rfl) (by kernel_rfl) (fun _ _ _ h => h) (Or.inr ⟨by rfl, rfl⟩) hS ?_
    try simp only [Act.put, List.setIfInBounds_toArray, List.set_cons_zero, List.set_cons_succ]
    refine wpAnyF_take (i := 32) (oi := { dst := some 37, op := Go.Op.load 65 (Go.Operand.tmp 36), type := 65, pos := "account.go:162", after := #[{ on := 31, ground := Go.Ground.data }, { on := 28, ground := Go.Ground.guard }], guard := some (28, true) }) (v := undef) rfl (by kernel_rfl) (by kernel_rfl) (by kernel_rfl) (by kernel_rfl) (fun _ _ _ h => h) (Or.inr ⟨by rfl, rfl⟩) hS ?_
    try simp only [Act.put, List.setIfInBounds_toArray, List.set_cons_zero, List.set_cons_succ]
    refine wpAnyF_take (i := 33) (oi := { dst := some 38, op := Go.Op.move (Go.Operand.tmp 1), type := 23, pos := "account.go:162", after := #[{ on := 28, ground := Go.Ground.guard }], guard := some (28, true) }) (v := undef) rfl (by kernel_rfl) (by kernel_rfl) (by kernel_rfl) (by kernel_rfl) (fun _ _ _ h => h) (Or.inr ⟨by rfl, rfl⟩) hS ?_
    try simp only [Act.put, List.setIfInBounds_toArray, List.set_cons_zero, List.set_cons_succ]
    refine wpAnyF_take (i := 34) (oi := { dst := some 39, op := Go.Op.nilCheck (Go.Operand.tmp 38), type := 0, pos := "account.go:162", after := #[{ on := 33, ground := Go.Ground.data }, { on := 28, ground := Go.Ground.guard }], guard := some (28, true) }) (v := undef) rfl (by kernel_rfl) (by kernel_rfl) (by kernel_rfl) (by kernel_rfl) (fun _ _ _ h => h) (Or.inr ⟨by rfl, rfl⟩) hS ?_
    try simp only [Act.put, List.setIfInBounds_toArray, List.set_cons_zero, List.set_cons_succ]
    refine wpAnyF_take (i := 35) (oi := { dst := some 40, op := Go.Op.fieldAddr 67 (Go.Operand.tmp 39) 2, type := 0, pos := "account.go:162", after := #[{ on := 34, ground := Go.Ground.data }, { on := 28, ground := Go.Ground.guard }], guard := some (28, true) }) (v := undef) rfl (by kernel_rfl) (by kernel_rfl) (by kernel_rfl) (by kernel_rfl) (fun _ _ _ h => h) (Or.inr ⟨by rfl, rfl⟩) hS ?_
    try simp only [Act.put, List.setIfInBounds_toArray, List.set_cons_zero, List.set_cons_succ]
    refine wpAnyF_take (i := 36) (oi := { dst := some 41, op := Go.Op.load 65 (Go.Operand.tmp 40), type := 65, pos := "account.go:162", after := #[{ on := 35, ground := Go.Ground.data }, { on := 28, ground := Go.Ground.guard }], guard := some (28, true) }) (v := undef) rfl (by kernel_rfl) (by kernel_rfl) (by kernel_rfl) (by kernel_rfl) (fun _ _ _ h => h) (Or.inr ⟨by rfl, rfl⟩) hS ?_
    try simp only [Act.put, List.setIfInBounds_toArray, List.set_cons_zero, List.set_cons_succ]
    refine wpAnyF_take (i := 37) (oi := { dst := some 42, op := Go.Op.call { callee := Go.Callee.value (Go.Operand.func 39), args := #[Go.Operand.tmp 37, Go.Operand.tmp 41], argTypes := #[65, 65] }, type := 4, pos := "account.go:162", after := #[{ on := 32, ground := Go.Ground.data }, { on := 36, ground := Go.Ground.data }, { on := 28, ground := Go.Ground.chain }, { on := 28, ground := Go.Ground.guard }], guard := some (28, true) }) (v := undef) rfl (by kernel_rfl) (by kernel_rfl) (by kernel_rfl) (by kernel_rfl) (fun _ _ _ h => h) (Or.inr ⟨by rfl, rfl⟩) hS ?_
    try simp only [Act.put, List.setIfInBounds_toArray, List.set_cons_zero, List.set_cons_succ]
    refine wpAnyF_take (i := 38) (oi := { dst := some 43, op := Go.Op.pick (Go.Operand.tmp 33) (Go.Operand.tmp 42) (Go.Operand.const (Go.Value.bool false)), type := 4, pos := "account.go:162", after := #[{ on := 28, ground := Go.Ground.data }, { on := 37, ground := Go.Ground.data }], guard := none }) (v := ?_) rfl (by kernel_rfl) (by kernel_rfl) (by kernel_rfl) (by kernel_rfl) (fun _ _ _ h => h) (Or.inl ⟨by rfl, ?_⟩) hS ?_
    rotate_left
    · intro w' hSw; go_simp; try with_reducible rfl
    try simp only [Act.put, List.setIfInBounds_toArray, List.set_cons_zero, List.set_cons_succ]
    refine wpAnyF_take (i := 39) (oi := { dst := some 4, op := Go.Op.assign (Go.Operand.tmp 43), type := 4, pos := "account.go:162", after := #[{ on := 38, ground := Go.Ground.data }, { on := 37, ground := Go.Ground.chain }, { on := 0, ground := Go.Ground.phase }, { on := 1, ground := Go.Ground.phase }, { on := 2, ground := Go.Ground.phase }, { on := 3, ground := Go.Ground.phase }, { on := 4, ground := Go.Ground.phase }, { on := 5, ground := Go.Ground.phase }, { on := 6, ground := Go.Ground.phase }, { on := 7, ground := Go.Ground.phase }, { on := 8, ground := Go.Ground.phase }, { on := 9, ground := Go.Ground.phase }, { on := 10, ground := Go.Ground.phase }, { on := 11, ground := Go.Ground.phase }, { on := 12, ground := Go.Ground.phase }, { on := 13, ground := Go.Ground.phase }, { on := 14, ground := Go.Ground.phase }, { on := 15, ground := Go.Ground.phase }, { on := 16, ground := Go.Ground.phase }, { on := 17, ground := Go.Ground.phase }, { on := 18, ground := Go.Ground.phase }, { on := 19, ground := Go.Ground.phase }, { on := 20, ground := Go.Ground.phase }, { on := 21, ground := Go.Ground.phase }, { on := 22, ground := Go.Ground.phase }, { on := 23, ground := Go.Ground.phase }, { on := 24, ground := Go.Ground.phase }, { on := 25, ground := Go.Ground.phase }, { on := 26, ground := Go.Ground.phase }, { on := 27, ground := Go.Ground.phase }, { on := 28, ground := Go.Ground.phase }, { on := 29, ground := Go.Ground.phase }, { on := 30, ground := Go.Ground.phase }, { on := 31, ground := Go.Ground.phase }, { on := 32, ground := Go.Ground.phase }, { on := 33, ground := Go.Ground.phase }, { on := 34, ground := Go.Ground.phase }, { on := 35, ground := Go.Ground.phase }, { on := 36, ground := Go.Ground.phase }, { on := 37, ground := Go.Ground.phase }, { on := 38, ground := Go.Ground.phase }], guard := none }) (v := ?_) rfl (by kernel_rfl) (by kernel_rfl) (by kernel_rfl) (by kernel_rfl) (fun _ _ _ h => h) (Or.inl ⟨by rfl, ?_⟩) hS ?_
    rotate_left
    · intro w' hSw; go_simp; try with_reducible rfl
    try simp only [Act.put, List.setIfInBounds_toArray, List.set_cons_zero, List.set_cons_succ]
    refine wpAnyF_done (by kernel_rfl) ?_ _
    go_wp2_with fail
    go_ret
    exact ⟨rfl, hS⟩
  exact AllReadyF.nil

set_option maxRecDepth 100000 in
set_option maxHeartbeats 4000000 in
theorem same_dead2 {v u : Value} {f g : Fm} {w : World} (h : AtP w v f) (hf : f.there = true) (h2 : AtP w u g) (hg : g.there = false) :
    Calls Try.prog 10 #[v, u] w fun e w' => e = .returned (.bool false) ∧ Below w.heap.size w w' := by
  have H1 := Lib.hid h
  have H1T := Lib.hid hf
  have H2 := Lib.hid h2
  have H2T := Lib.hid hg
  clear h hf h2 hg
  go_enter Try.func10, Try.ntmps10
  go_wp2_with fail
  refine wp_region_F (Below w.heap.size w) [] (by kernel_rfl) ((Below.refl _ _).drew) (fun hS => ?_)
  refine wpAnyF_take (i := 0) (oi := { dst := some 5, op := Go.Op.move (Go.Operand.tmp 0), type := 23, pos := "account.go:162", after := #[], guard := none }) (v := ?_) rfl (by kernel_rfl) (by kernel_rfl) (by kernel_rfl) (by kernel_rfl) (fun _ _ _ h => h) (Or.inl ⟨by rfl, ?_⟩) hS ?_
  rotate_left
  · intro w' hSw; go_simp; try with_reducible rfl
  try simp only [Act.put, List.setIfInBounds_toArray, List.set_cons_zero, List.set_cons_succ]
  refine wpAnyF_ready (rs := [1]) (by kernel_rfl) (by simp) ?_
  refine AllReadyF.cons (o := { dst := some 6, op := Go.Op.call { callee := Go.Callee.value (Go.Operand.func 38), args := #[Go.Operand.tmp 5], argTypes := #[23] }, type := 4, pos := "account.go:162", after := #[{ on := 0, ground := Go.Ground.data }], guard := none }) rfl (by rfl) (fun K hK => ?_) ?_
  · go_simp
    refine (there_any (H1.out.grow hS)).mono ?_
    rintro e w7 ⟨rfl, hw7⟩
    rw [hw7]
    clear hw7
    rw [H1T.out]
    refine hK.out _ _ ?_ (fun hS => ?_)
    · exact hS
    clear hK K
    try simp only [Act.put, List.setIfInBounds_toArray, List.set_cons_zero, List.set_cons_succ]
    refine wpAnyF_take (i := 2) (oi := { dst := some 7, op := Go.Op.move (Go.Operand.tmp 6), type := 4, pos := "account.go:162", after := #[{ on := 1, ground := Go.Ground.data }, { on := 1, ground := Go.Ground.chain }], guard := none }) (v := ?_) rfl (by kernel_rfl) (by kernel_rfl) (by kernel_rfl) (by kernel_rfl) (fun _ _ _ h => h) (Or.inl ⟨by rfl, ?_⟩) hS ?_
    rotate_left
    · intro w' hSw; go_simp; try with_reducible rfl
    try simp only [Act.put, List.setIfInBounds_toArray, List.set_cons_zero, List.set_cons_succ]
    refine wpAnyF_take (i := 3) (oi := { dst := some 8, op := Go.Op.move (Go.Operand.tmp 1), type := 23, pos := "account.go:162", after := #[{ on := 2, ground := Go.Ground.guard }], guard := some (2, true) }) (v := ?_) rfl (by kernel_rfl) (by kernel_rfl) (by kernel_rfl) (by kernel_rfl) (fun _ _ _ h => h) (Or.inl ⟨by rfl, ?_⟩) hS ?_
    rotate_left
    · intro w' hSw; go_simp; try with_reducible rfl
    try simp only [Act.put, List.setIfInBounds_toArray, List.set_cons_zero, List.set_cons_succ]
    refine wpAnyF_ready (rs := [4]) (by kernel_rfl) (by simp) ?_
    refine AllReadyF.cons (o := { dst := some 9, op := Go.Op.call { callee := Go.Callee.value (Go.Operand.func 38), args := #[Go.Operand.tmp 8], argTypes := #[23] }, type := 4, pos := "account.go:162", after := #[{ on := 3, ground := Go.Ground.data }, { on := 2, ground := Go.Ground.chain }, { on := 2, ground := Go.Ground.guard }], guard := some (2, true) }) rfl (by rfl) (fun K hK => ?_) ?_
    · go_simp
      refine (there_any (H2.out.grow hS)).mono ?_
      rintro e w7 ⟨rfl, hw7⟩
      rw [hw7]
      clear hw7
      rw [H2T.out]
      refine hK.out _ _ ?_ (fun hS => ?_)
      · exact hS
      clear hK K
      try simp only [Act.put, List.setIfInBounds_toArray, List.set_cons_zero, List.set_cons_succ]
      refine wpAnyF_take (i := 5) (oi := { dst := some 10, op := Go.Op.pick (Go.Operand.tmp 7) (Go.Operand.tmp 9) (Go.Operand.const (Go.Value.bool false)), type := 4, pos := "account.go:162", after := #[{ on := 2, ground := Go.Ground.data }, { on := 4, ground := Go.Ground.data }], guard := none }) (v := ?_) rfl (by kernel_rfl) (by kernel_rfl) (by kernel_rfl) (by kernel_rfl) (fun _ _ _ h => h) (Or.inl ⟨by rfl, ?_⟩) hS ?_
      rotate_left
      · intro w' hSw; go_simp; try with_reducible rfl
      try simp only [Act.put, List.setIfInBounds_toArray, List.set_cons_zero, List.set_cons_succ]
      refine wpAnyF_take (i := 6) (oi := { dst := some 11, op := Go.Op.move (Go.Operand.tmp 10), type := 4, pos := "account.go:162", after := #[{ on := 5, ground := Go.Ground.data }, { on := 4, ground := Go.Ground.chain }], guard := none }) (v := ?_) rfl (by kernel_rfl) (by kernel_rfl) (by kernel_rfl) (by kernel_rfl) (fun _ _ _ h => h) (Or.inl ⟨by rfl, ?_⟩) hS ?_
      rotate_left
      · intro w' hSw; go_simp; try with_reducible rfl
      try simp only [Act.put, List.setIfInBounds_toArray, List.set_cons_zero, List.set_cons_succ]
      refine wpAnyF_take (i := 7) (oi := { dst := some 12, op := Go.Op.move (Go.Operand.tmp 0), type := 23, pos := "account.go:162", after := #[{ on := 6, ground := Go.Ground.guard }], guard := some (6, true) }) (v := undef) rfl (by kernel_rfl) (by kernel_rfl) (by kernel_rfl) (by kernel_rfl) (fun _ _ _ h => h) (Or.inr ⟨by rfl, rfl⟩) hS ?_
      try simp only [Act.put, List.setIfInBounds_toArray, List.set_cons_zero, List.set_cons_succ]
      refine wpAnyF_take (i := 8) (oi := { dst := some 13, op := Go.Op.nilCheck (Go.Operand.tmp 12), type := 0, pos := "account.go:162", after := #[{ on := 7, ground := Go.Ground.data }, { on := 6, ground := Go.Ground.guard }], guard := some (6, true) }) (v := undef) rfl (by kernel_rfl) (by kernel_rfl) (by kernel_rfl) (by kernel_rfl) (fun _ _ _ h => h) (Or.inr ⟨by rfl, rfl⟩) hS ?_
      try simp only [Act.put, List.setIfInBounds_toArray, List.set_cons_zero, List.set_cons_succ]
      refine wpAnyF_take (i := 9) (oi := { dst := some 14, op := Go.Op.fieldAddr 67 (Go.Operand.tmp 13) 0, type := 0, pos := "account.go:162", after := #[{ on := 8, ground := Go.Ground.data }, { on := 6, ground := Go.Ground.guard }], guard := some (6, true) }) (v := undef) rfl (by kernel_rfl) (by kernel_rfl) (by kernel_rfl) (by kernel_rfl) (fun _ _ _ h => h) (Or.inr ⟨by rfl, rfl⟩) hS ?_
      try simp only [Act.put, List.setIfInBounds_toArray, List.set_cons_zero, List.set_cons_succ]
      refine wpAnyF_take (i := 10) (oi := { dst := some 15, op := Go.Op.load 2 (Go.Operand.tmp 14), type := 2, pos := "account.go:162", after := #[{ on := 9, ground := Go.Ground.data }, { on := 6, ground := Go.Ground.guard }], guard := some (6, true) }) (v := undef) rfl (by kernel_rfl) (by kernel_rfl) (by kernel_rfl) (by kernel_rfl) (fun _ _ _ h => h) (Or.inr ⟨by rfl, rfl⟩) hS ?_
      try simp only [Act.put, List.setIfInBounds_toArray, List.set_cons_zero, List.set_cons_succ]
      refine wpAnyF_take (i := 11) (oi := { dst := some 16, op := Go.Op.move (Go.Operand.tmp 1), type := 23, pos := "account.go:162", after := #[{ on := 6, ground := Go.Ground.guard }], guard := some (6, true) }) (v := undef) rfl (by kernel_rfl) (by kernel_rfl) (by kernel_rfl) (by kernel_rfl) (fun _ _ _ h => h) (Or.inr ⟨by rfl, rfl⟩) hS ?_
      try simp only [Act.put, List.setIfInBounds_toArray, List.set_cons_zero, List.set_cons_succ]
      refine wpAnyF_take (i := 12) (oi := { dst := some 17, op := Go.Op.nilCheck (Go.Operand.tmp 16), type := 0, pos := "account.go:162", after := #[{ on := 11, ground := Go.Ground.data }, { on := 6, ground := Go.Ground.guard }], guard := some (6, true) }) (v := undef) rfl (by kernel_rfl) (by kernel_rfl) (by kernel_rfl) (by kernel_rfl) (fun _ _ _ h => h) (Or.inr ⟨by rfl, rfl⟩) hS ?_
      try simp only [Act.put, List.setIfInBounds_toArray, List.set_cons_zero, List.set_cons_succ]
      refine wpAnyF_take (i := 13) (oi := { dst := some 18, op := Go.Op.fieldAddr 67 (Go.Operand.tmp 17) 0, type := 0, pos := "account.go:162", after := #[{ on := 12, ground := Go.Ground.data }, { on := 6, ground := Go.Ground.guard }], guard := some (6, true) }) (v := undef) rfl (by kernel_rfl) (by kernel_rfl) (by kernel_rfl) (by kernel_rfl) (fun _ _ _ h => h) (Or.inr ⟨by rfl, rfl⟩) hS ?_
      try simp only [Act.put, List.setIfInBounds_toArray, List.set_cons_zero, List.set_cons_succ]
      refine wpAnyF_take (i := 14) (oi := { dst := some 19, op := Go.Op.load 2 (Go.Operand.tmp 18), type := 2, pos := "account.go:162", after := #[{ on := 13, ground := Go.Ground.data }, { on := 6, ground := Go.Ground.guard }], guard := some (6, true) }) (v := undef) rfl (by kernel_rfl) (by kernel_rfl) (by kernel_rfl) (by kernel_rfl) (fun _ _ _ h => h) (Or.inr ⟨by rfl, rfl⟩) hS ?_
      try simp only [Act.put, List.setIfInBounds_toArray, List.set_cons_zero, List.set_cons_succ]
      refine wpAnyF_take (i := 15) (oi := { dst := some 20, op := Go.Op.binOp Go.BinOp.eql 2 (Go.Operand.tmp 15) (Go.Operand.tmp 19) 2, type := 4, pos := "account.go:162", after := #[{ on := 10, ground := Go.Ground.data }, { on := 14, ground := Go.Ground.data }, { on := 6, ground := Go.Ground.guard }], guard := some (6, true) }) (v := undef) rfl (by kernel_rfl) (by kernel_rfl) (by kernel_rfl) (by kernel_rfl) (fun _ _ _ h => h) (Or.inr ⟨by rfl, rfl⟩) hS ?_
      try simp only [Act.put, List.setIfInBounds_toArray, List.set_cons_zero, List.set_cons_succ]
      refine wpAnyF_take (i := 16) (oi := { dst := some 21, op := Go.Op.pick (Go.Operand.tmp 11) (Go.Operand.tmp 20) (Go.Operand.const (Go.Value.bool false)), type := 4, pos := "account.go:162", after := #[{ on := 6, ground := Go.Ground.data }, { on := 15, ground := Go.Ground.data }], guard := none }) (v := ?_) rfl (by kernel_rfl) (by kernel_rfl) (by kernel_rfl) (by kernel_rfl) (fun _ _ _ h => h) (Or.inl ⟨by rfl, ?_⟩) hS ?_
      rotate_left
      · intro w' hSw; go_simp; try with_reducible rfl
      try simp only [Act.put, List.setIfInBounds_toArray, List.set_cons_zero, List.set_cons_succ]
      refine wpAnyF_take (i := 17) (oi := { dst := some 22, op := Go.Op.move (Go.Operand.tmp 21), type := 4, pos := "account.go:162", after := #[{ on := 16, ground := Go.Ground.data }, { on := 6, ground := Go.Ground.chain }], guard := none }) (v := ?_) rfl (by kernel_rfl) (by kernel_rfl) (by kernel_rfl) (by kernel_rfl) (fun _ _ _ h => h) (Or.inl ⟨by rfl, ?_⟩) hS ?_
      rotate_left
      · intro w' hSw; go_simp; try with_reducible rfl
      try simp only [Act.put, List.setIfInBounds_toArray, List.set_cons_zero, List.set_cons_succ]
      refine wpAnyF_take (i := 18) (oi := { dst := some 23, op := Go.Op.move (Go.Operand.tmp 0), type := 23, pos := "account.go:162", after := #[{ on := 17, ground := Go.Ground.guard }], guard := some (17, true) }) (v := undef) rfl (by kernel_rfl) (by kernel_rfl) (by kernel_rfl) (by kernel_rfl) (fun _ _ _ h => h) (Or.inr ⟨by rfl, rfl⟩) hS ?_
      try simp only [Act.put, List.setIfInBounds_toArray, List.set_cons_zero, List.set_cons_succ]
      refine wpAnyF_take (i := 19) (oi := { dst := some 24, op := Go.Op.nilCheck (Go.Operand.tmp 23), type := 0, pos := "account.go:162", after := #[{ on := 18, ground := Go.Ground.data }, { on := 17, ground := Go.Ground.guard }], guard := some (17, true) }) (v := undef) rfl (by kernel_rfl) (by kernel_rfl) (by kernel_rfl) (by kernel_rfl) (fun _ _ _ h => h) (Or.inr ⟨by rfl, rfl⟩) hS ?_
      try simp only [Act.put, List.setIfInBounds_toArray, List.set_cons_zero, List.set_cons_succ]
      refine wpAnyF_take (i := 20) (oi := { dst := some 25, op := Go.Op.fieldAddr 67 (Go.Operand.tmp 24) 1, type := 0, pos := "account.go:162", after := #[{ on := 19, ground := Go.Ground.data }, { on := 17, ground := Go.Ground.guard }], guard := some (17, true) }) (v := undef) rfl (by kernel_rfl) (by kernel_rfl) (by kernel_rfl) (by kernel_rfl) (fun _ _ _ h => h) (Or.inr ⟨by rfl, rfl⟩) hS ?_
      try simp only [Act.put, List.setIfInBounds_toArray, List.set_cons_zero, List.set_cons_succ]
      refine wpAnyF_take (i := 21) (oi := { dst := some 26, op := Go.Op.load 2 (Go.Operand.tmp 25), type := 2, pos := "account.go:162", after := #[{ on := 20, ground := Go.Ground.data }, { on := 17, ground := Go.Ground.guard }], guard := some (17, true) }) (v := undef) rfl (by kernel_rfl) (by kernel_rfl) (by kernel_rfl) (by kernel_rfl) (fun _ _ _ h => h) (Or.inr ⟨by rfl, rfl⟩) hS ?_
      try simp only [Act.put, List.setIfInBounds_toArray, List.set_cons_zero, List.set_cons_succ]
      refine wpAnyF_take (i := 22) (oi := { dst := some 27, op := Go.Op.move (Go.Operand.tmp 1), type := 23, pos := "account.go:162", after := #[{ on := 17, ground := Go.Ground.guard }], guard := some (17, true) }) (v := undef) rfl (by kernel_rfl) (by kernel_rfl) (by kernel_rfl) (by kernel_rfl) (fun _ _ _ h => h) (Or.inr ⟨by rfl, rfl⟩) hS ?_
      try simp only [Act.put, List.setIfInBounds_toArray, List.set_cons_zero, List.set_cons_succ]
      refine wpAnyF_take (i := 23) (oi := { dst := some 28, op := Go.Op.nilCheck (Go.Operand.tmp 27), type := 0, pos := "account.go:162", after := #[{ on := 22, ground := Go.Ground.data }, { on := 17, ground := Go.Ground.guard }], guard := some (17, true) }) (v := undef) rfl (by kernel_rfl) (by kernel_rfl) (by kernel_rfl) (by kernel_rfl) (fun _ _ _ h => h) (Or.inr ⟨by rfl, rfl⟩) hS ?_
      try simp only [Act.put, List.setIfInBounds_toArray, List.set_cons_zero, List.set_cons_succ]
      refine wpAnyF_take (i := 24) (oi := { dst := some 29, op := Go.Op.fieldAddr 67 (Go.Operand.tmp 28) 1, type := 0, pos := "account.go:162", after := #[{ on := 23, ground := Go.Ground.data }, { on := 17, ground := Go.Ground.guard }], guard := some (17, true) }) (v := undef) rfl (by kernel_rfl) (by kernel_rfl) (by kernel_rfl) (by kernel_rfl) (fun _ _ _ h => h) (Or.inr ⟨by rfl, rfl⟩) hS ?_
      try simp only [Act.put, List.setIfInBounds_toArray, List.set_cons_zero, List.set_cons_succ]
      refine wpAnyF_take (i := 25) (oi := { dst := some 30, op := Go.Op.load 2 (Go.Operand.tmp 29), type := 2, pos := "account.go:162", after := #[{ on := 24, ground := Go.Ground.data }, { on := 17, ground := Go.Ground.guard }], guard := some (17, true) }) (v := undef) rfl (by kernel_rfl) (by kernel_rfl) (by kernel_rfl) (by kernel_rfl) (fun _ _ _ h => h) (Or.inr ⟨by rfl, rfl⟩) hS ?_
      try simp only [Act.put, List.setIfInBounds_toArray, List.set_cons_zero, List.set_cons_succ]
      refine wpAnyF_take (i := 26) (oi := { dst := some 31, op := Go.Op.binOp Go.BinOp.eql 2 (Go.Operand.tmp 26) (Go.Operand.tmp 30) 2, type := 4, pos := "account.go:162", after := #[{ on := 21, ground := Go.Ground.data }, { on := 25, ground := Go.Ground.data }, { on := 17, ground := Go.Ground.guard }], guard := some (17, true) }) (v := undef) rfl (by kernel_rfl) (by kernel_rfl) (by kernel_rfl) (by kernel_rfl) (fun _ _ _ h => h) (Or.inr ⟨by rfl, rfl⟩) hS ?_
      try simp only [Act.put, List.setIfInBounds_toArray, List.set_cons_zero, List.set_cons_succ]
      refine wpAnyF_take (i := 27) (oi := { dst := some 32, op := Go.Op.pick (Go.Operand.tmp 22) (Go.Operand.tmp 31) (Go.Operand.const (Go.Value.bool false)), type := 4, pos := "account.go:162", after := #[{ on := 17, ground := Go.Ground.data }, { on := 26, ground := Go.Ground.data }], guard := none }) (v := ?_) rfl (by kernel_rfl) (by kernel_rfl) (by kernel_rfl) (by kernel_rfl) (fun _ _ _ h => h) (Or.inl ⟨by rfl, ?_⟩) hS ?_
      rotate_left
      · intro w' hSw; go_simp; try with_reducible rfl
      try simp only [Act.put, List.setIfInBounds_toArray, List.set_cons_zero, List.set_cons_succ]
      refine wpAnyF_take (i := 28) (oi := { dst := some 33, op := Go.Op.move (Go.Operand.tmp 32), type := 4, pos := "account.go:162", after := #[{ on := 27, ground := Go.Ground.data }, { on := 17, ground := Go.Ground.chain }], guard := none }) (v := ?_) rfl (by kernel_rfl) (by kernel_rfl) (by kernel_rfl) (by kernel_rfl) (fun _ _ _ h => h) (Or.inl ⟨by rfl, ?_⟩) hS ?_
      rotate_left
      · intro w' hSw; go_simp; try with_reducible rfl
      try simp only [Act.put, List.setIfInBounds_toArray, List.set_cons_zero, List.set_cons_succ]
      refine wpAnyF_take (i := 29) (oi := { dst := some 34, op := Go.Op.move (Go.Operand.tmp 0), type := 23, pos := "account.go:162", after := #[{ on := 28, ground := Go.Ground.guard }], guard := some (28, true) }) (v := undef) rfl (by kernel_rfl) (by kernel_rfl) (by kernel_rfl) (by kernel_rfl) (fun _ _ _ h => h) (Or.inr ⟨by rfl, rfl⟩) hS ?_
      try simp only [Act.put, List.setIfInBounds_toArray, List.set_cons_zero, List.set_cons_succ]
      refine wpAnyF_take (i := 30) (oi := { dst := some 35, op := Go.Op.nilCheck (Go.Operand.tmp 34), type := 0, pos := "account.go:162", after := #[{ on := 29, ground := Go.Ground.data }, { on := 28, ground := Go.Ground.guard }], guard := some (28, true) }) (v := undef) rfl (by kernel_rfl) (by kernel_rfl) (by kernel_rfl) (by kernel_rfl) (fun _ _ _ h => h) (Or.inr ⟨by rfl, rfl⟩) hS ?_
      try simp only [Act.put, List.setIfInBounds_toArray, List.set_cons_zero, List.set_cons_succ]
      refine wpAnyF_take (i := 31) (oi := { dst := some 36, op := Go.Op.fieldAddr 67 (Go.Operand.tmp 35) 2, type := 0, pos := "account.go:162", after := #[{ on := 30, ground := Go.Ground.data }, { on := 28, ground := Go.Ground.guard }], guard := some (28, true) }) (v := undef) rfl (by kernel_rfl) (by kernel_rfl) (by kernel_rfl) (by kernel_rfl) (fun _ _ _ h => h) (Or.inr ⟨by rfl, rfl⟩) hS ?_
      try simp only [Act.put, List.setIfInBounds_toArray, List.set_cons_zero, List.set_cons_succ]
      refine wpAnyF_take (i := 32) (oi := { dst := some 37, op := Go.Op.load 65 (Go.Operand.tmp 36), type := 65, pos := "account.go:162", after := #[{ on := 31, ground := Go.Ground.data }, { on := 28, ground := Go.Ground.guard }], guard := some (28, true) }) (v := undef) rfl (by kernel_rfl) (by kernel_rfl) (by kernel_rfl) (by kernel_rfl) (fun _ _ _ h => h) (Or.inr ⟨by rfl, rfl⟩) hS ?_
      try simp only [Act.put, List.setIfInBounds_toArray, List.set_cons_zero, List.set_cons_succ]
      refine wpAnyF_take (i := 33) (oi := { dst := some 38, op := Go.Op.move (Go.Operand.tmp 1), type := 23, pos := "account.go:162", after := #[{ on := 28, ground := Go.Ground.guard }], guard := some (28, true) }) (v := undef) rfl (by kernel_rfl) (by kernel_rfl) (by kernel_rfl) (by kernel_rfl) (fun _ _ _ h => h) (Or.inr ⟨by rfl, rfl⟩) hS ?_
      try simp only [Act.put, List.setIfInBounds_toArray, List.set_cons_zero, List.set_cons_succ]
      refine wpAnyF_take (i := 34) (oi := { dst := some 39, op := Go.Op.nilCheck (Go.Operand.tmp 38), type := 0, pos := "account.go:162", after := #[{ on := 33, ground := Go.Ground.data }, { on := 28, ground := Go.Ground.guard }], guard := some (28, true) }) (v := undef) rfl (by kernel_rfl) (by kernel_rfl) (by kernel_rfl) (by kernel_rfl) (fun _ _ _ h => h) (Or.inr ⟨by rfl, rfl⟩) hS ?_
      try simp only [Act.put, List.setIfInBounds_toArray, List.set_cons_zero, List.set_cons_succ]
      refine wpAnyF_take (i := 35) (oi := { dst := some 40, op := Go.Op.fieldAddr 67 (Go.Operand.tmp 39) 2, type := 0, pos := "account.go:162", after := #[{ on := 34, ground := Go.Ground.data }, { on := 28, ground := Go.Ground.guard }], guard := some (28, true) }) (v := undef) rfl (by kernel_rfl) (by kernel_rfl) (by kernel_rfl) (by kernel_rfl) (fun _ _ _ h => h) (Or.inr ⟨by rfl, rfl⟩) hS ?_
      try simp only [Act.put, List.setIfInBounds_toArray, List.set_cons_zero, List.set_cons_succ]
      refine wpAnyF_take (i := 36) (oi := { dst := some 41, op := Go.Op.load 65 (Go.Operand.tmp 40), type := 65, pos := "account.go:162", after := #[{ on := 35, ground := Go.Ground.data }, { on := 28, ground := Go.Ground.guard }], guard := some (28, true) }) (v := undef) rfl (by kernel_rfl) (by kernel_rfl) (by kernel_rfl) (by kernel_rfl) (fun _ _ _ h => h) (Or.inr ⟨by rfl, rfl⟩) hS ?_
      try simp only [Act.put, List.setIfInBounds_toArray, List.set_cons_zero, List.set_cons_succ]
      refine wpAnyF_take (i := 37) (oi := { dst := some 42, op := Go.Op.call { callee := Go.Callee.value (Go.Operand.func 39), args := #[Go.Operand.tmp 37, Go.Operand.tmp 41], argTypes := #[65, 65] }, type := 4, pos := "account.go:162", after := #[{ on := 32, ground := Go.Ground.data }, { on := 36, ground := Go.Ground.data }, { on := 28, ground := Go.Ground.chain }, { on := 28, ground := Go.Ground.guard }], guard := some (28, true) }) (v := undef) rfl (by kernel_rfl) (by kernel_rfl) (by kernel_rfl) (by kernel_rfl) (fun _ _ _ h => h) (Or.inr ⟨by rfl, rfl⟩) hS ?_
      try simp only [Act.put, List.setIfInBounds_toArray, List.set_cons_zero, List.set_cons_succ]
      refine wpAnyF_take (i := 38) (oi := { dst := some 43, op := Go.Op.pick (Go.Operand.tmp 33) (Go.Operand.tmp 42) (Go.Operand.const (Go.Value.bool false)), type := 4, pos := "account.go:162", after := #[{ on := 28, ground := Go.Ground.data }, { on := 37, ground := Go.Ground.data }], guard := none }) (v := ?_) rfl (by kernel_rfl) (by kernel_rfl) (by kernel_rfl) (by kernel_rfl) (fun _ _ _ h => h) (Or.inl ⟨by rfl, ?_⟩) hS ?_
      rotate_left
      · intro w' hSw; go_simp; try with_reducible rfl
      try simp only [Act.put, List.setIfInBounds_toArray, List.set_cons_zero, List.set_cons_succ]
      refine wpAnyF_take (i := 39) (oi := { dst := some 4, op := Go.Op.assign (Go.Operand.tmp 43), type := 4, pos := "account.go:162", after := #[{ on := 38, ground := Go.Ground.data }, { on := 37, ground := Go.Ground.chain }, { on := 0, ground := Go.Ground.phase }, { on := 1, ground := Go.Ground.phase }, { on := 2, ground := Go.Ground.phase }, { on := 3, ground := Go.Ground.phase }, { on := 4, ground := Go.Ground.phase }, { on := 5, ground := Go.Ground.phase }, { on := 6, ground := Go.Ground.phase }, { on := 7, ground := Go.Ground.phase }, { on := 8, ground := Go.Ground.phase }, { on := 9, ground := Go.Ground.phase }, { on := 10, ground := Go.Ground.phase }, { on := 11, ground := Go.Ground.phase }, { on := 12, ground := Go.Ground.phase }, { on := 13, ground := Go.Ground.phase }, { on := 14, ground := Go.Ground.phase }, { on := 15, ground := Go.Ground.phase }, { on := 16, ground := Go.Ground.phase }, { on := 17, ground := Go.Ground.phase }, { on := 18, ground := Go.Ground.phase }, { on := 19, ground := Go.Ground.phase }, { on := 20, ground := Go.Ground.phase }, { on := 21, ground := Go.Ground.phase }, { on := 22, ground := Go.Ground.phase }, { on := 23, ground := Go.Ground.phase }, { on := 24, ground := Go.Ground.phase }, { on := 25, ground := Go.Ground.phase }, { on := 26, ground := Go.Ground.phase }, { on := 27, ground := Go.Ground.phase }, { on := 28, ground := Go.Ground.phase }, { on := 29, ground := Go.Ground.phase }, { on := 30, ground := Go.Ground.phase }, { on := 31, ground := Go.Ground.phase }, { on := 32, ground := Go.Ground.phase }, { on := 33, ground := Go.Ground.phase }, { on := 34, ground := Go.Ground.phase }, { on := 35, ground := Go.Ground.phase }, { on := 36, ground := Go.Ground.phase }, { on := 37, ground := Go.Ground.phase }, { on := 38, ground := Go.Ground.phase }], guard := none }) (v := ?_) rfl (by kernel_rfl) (by kernel_rfl) (by kernel_rfl) (by kernel_rfl) (fun _ _ _ h => h) (Or.inl ⟨by rfl, ?_⟩) hS ?_
      rotate_left
      · intro w' hSw; go_simp; try with_reducible rfl
      try simp only [Act.put, List.setIfInBounds_toArray, List.set_cons_zero, List.set_cons_succ]
      refine wpAnyF_done (by kernel_rfl) ?_ _
      go_wp2_with fail
      go_ret
      exact ⟨rfl, hS⟩
    exact AllReadyF.nil
  exact AllReadyF.nil

set_option maxRecDepth 100000 in
set_option maxHeartbeats 4000000 in
theorem same_live {b1 b2 m1 m2 n1 n2 : Nat} {a c : Acc} {w : World} (h1 : AccAt w b1 m1 n1 a) (h2 : AccAt w b2 m2 n2 c) (r1 : Rising a.M) (r2 : Rising c.M) :
    Calls Try.prog 10 #[.pointer (some ⟨b1, 0, none⟩), .pointer (some ⟨b2, 0, none⟩)] w fun e w' => e = .returned (.bool (sameB a c)) ∧ Below w.heap.size w w' := by
  have H1 := Lib.hid (show AtP w (.pointer (some ⟨b1, 0, none⟩)) (.live a) from ⟨_, _, _, rfl, h1⟩)
  have H1T := Lib.hid (show (Fm.live a).there = true from rfl)
  have H2 := Lib.hid (show AtP w (.pointer (some ⟨b2, 0, none⟩)) (.live c) from ⟨_, _, _, rfl, h2⟩)
  have H2T := Lib.hid (show (Fm.live c).there = true from rfl)
  have HA := Lib.hid h1
  have HC := Lib.hid h2
  have HR1 := Lib.hid r1
  have HR2 := Lib.hid r2
  have k0 : w.cell? ⟨b1, 0, none⟩ = some (.int .i64 a.bud) := h1.blk.cell 0
  have k1 : w.cell? ⟨b1, 1, none⟩ = some (.int .i64 a.sp) := h1.blk.cell 1
  have k2 : w.cell? ⟨b1, 2, none⟩ = some (.map (some m1)) := h1.blk.cell 2
  have j0 : w.cell? ⟨b2, 0, none⟩ = some (.int .i64 c.bud) := h2.blk.cell 0
  have j1 : w.cell? ⟨b2, 1, none⟩ = some (.int .i64 c.sp) := h2.blk.cell 1
  have j2 : w.cell? ⟨b2, 2, none⟩ = some (.map (some m2)) := h2.blk.cell 2
  have l1 := h1.blk.lt
  have l2 := h2.blk.lt
  have HS := Lib.hid (show sameB a c = decide (a.bud = c.bud ∧ a.sp = c.sp ∧ a.M = c.M) from rfl)
  obtain ⟨ans, hans⟩ : ∃ z, z = sameB a c := ⟨_, rfl⟩
  rw [← hans] at HS ⊢
  have HME := Lib.hid (show decide (a.M = c.M) = decide (a.M = c.M) from rfl)
  obtain ⟨me, hme⟩ : ∃ z, z = decide (a.M = c.M) := ⟨_, rfl⟩
  have HM := Lib.hid hme
  obtain ⟨x, hx⟩ : ∃ z, z = a.bud := ⟨_, rfl⟩
  obtain ⟨y, hy⟩ : ∃ z, z = c.bud := ⟨_, rfl⟩
  obtain ⟨p, hp⟩ : ∃ z, z = a.sp := ⟨_, rfl⟩
  obtain ⟨q, hq⟩ : ∃ z, z = c.sp := ⟨_, rfl⟩
  rw [← hx] at k0
  rw [← hy] at j0
  rw [← hp] at k1
  rw [← hq] at j1
  rw [← hx, ← hy, ← hp, ← hq] at HS
  clear h1 h2 r1 r2 hans hme hx hy hp hq HME
  go_enter Try.func10, Try.ntmps10
  go_wp2_with fail
  by_cases e1 : x = y
  · by_cases e2 : p = q
    · have t1 : (x == y) = true := by simpa using e1
      have t1' : decide (x = y) = true := by simpa using e1
      have t2 : (p == q) = true := by simpa using e2
      have t2' : decide (p = q) = true := by simpa using e2
      have HE := Lib.hid (show ans = me from by rw [HS.out, HM.out]; simp [e1, e2])
      clear e1 e2
      refine wp_region_F (Below w.heap.size w) [] (by kernel_rfl) ((Below.refl _ _).drew) (fun hS => ?_)
      refine wpAnyF_take (i := 0) (oi := { dst := some 5, op := Go.Op.move (Go.Operand.tmp 0), type := 23, pos := "account.go:162", after := #[], guard := none }) (v := ?_) rfl (by kernel_rfl) (by kernel_rfl) (by kernel_rfl) (by kernel_rfl) (fun _ _ _ h => h) (Or.inl ⟨by rfl, ?_⟩) hS ?_
      rotate_left
      · intro w' hSw; have qk0 := (hSw.cell (p := ⟨b1, 0, none⟩) l1).trans k0 ; have qk1 := (hSw.cell (p := ⟨b1, 1, none⟩) l1).trans k1 ; have qk2 := (hSw.cell (p := ⟨b1, 2, none⟩) l1).trans k2 ; have qj0 := (hSw.cell (p := ⟨b2, 0, none⟩) l2).trans j0 ; have qj1 := (hSw.cell (p := ⟨b2, 1, none⟩) l2).trans j1 ; have qj2 := (hSw.cell (p := ⟨b2, 2, none⟩) l2).trans j2; go_simp; try with_reducible rfl
      try simp only [Act.put, List.setIfInBounds_toArray, List.set_cons_zero, List.set_cons_succ]
      refine wpAnyF_ready (rs := [1]) (by kernel_rfl) (by simp) ?_
      refine AllReadyF.cons (o := { dst := some 6, op := Go.Op.call { callee := Go.Callee.value (Go.Operand.func 38), args := #[Go.Operand.tmp 5], argTypes := #[23] }, type := 4, pos := "account.go:162", after := #[{ on := 0, ground := Go.Ground.data }], guard := none }) rfl (by rfl) (fun K hK => ?_) ?_
      · go_simp
        refine (there_any (H1.out.grow hS)).mono ?_
        rintro e w7 ⟨rfl, hw7⟩
        rw [hw7]
        clear hw7
        rw [H1T.out]
        refine hK.out _ _ ?_ (fun hS => ?_)
        · exact hS
        clear hK K
        try simp only [Act.put, List.setIfInBounds_toArray, List.set_cons_zero, List.set_cons_succ]
        refine wpAnyF_take (i := 2) (oi := { dst := some 7, op := Go.Op.move (Go.Operand.tmp 6), type := 4, pos := "account.go:162", after := #[{ on := 1, ground := Go.Ground.data }, { on := 1, ground := Go.Ground.chain }], guard := none }) (v := ?_) rfl (by kernel_rfl) (by kernel_rfl) (by kernel_rfl) (by kernel_rfl) (fun _ _ _ h => h) (Or.inl ⟨by rfl, ?_⟩) hS ?_
        rotate_left
        · intro w' hSw; have qk0 := (hSw.cell (p := ⟨b1, 0, none⟩) l1).trans k0 ; have qk1 := (hSw.cell (p := ⟨b1, 1, none⟩) l1).trans k1 ; have qk2 := (hSw.cell (p := ⟨b1, 2, none⟩) l1).trans k2 ; have qj0 := (hSw.cell (p := ⟨b2, 0, none⟩) l2).trans j0 ; have qj1 := (hSw.cell (p := ⟨b2, 1, none⟩) l2).trans j1 ; have qj2 := (hSw.cell (p := ⟨b2, 2, none⟩) l2).trans j2; go_simp; try with_reducible rfl
        try simp only [Act.put, List.setIfInBounds_toArray, List.set_cons_zero, List.set_cons_succ]
        refine wpAnyF_take (i := 3) (oi := { dst := some 8, op := Go.Op.move (Go.Operand.tmp 1), type := 23, pos := "account.go:162", after := #[{ on := 2, ground := Go.Ground.guard }], guard := some (2, true) }) (v := ?_) rfl (by kernel_rfl) (by kernel_rfl) (by kernel_rfl) (by kernel_rfl) (fun _ _ _ h => h) (Or.inl ⟨by rfl, ?_⟩) hS ?_
        rotate_left
        · intro w' hSw; have qk0 := (hSw.cell (p := ⟨b1, 0, none⟩) l1).trans k0 ; have qk1 := (hSw.cell (p := ⟨b1, 1, none⟩) l1).trans k1 ; have qk2 := (hSw.cell (p := ⟨b1, 2, none⟩) l1).trans k2 ; have qj0 := (hSw.cell (p := ⟨b2, 0, none⟩) l2).trans j0 ; have qj1 := (hSw.cell (p := ⟨b2, 1, none⟩) l2).trans j1 ; have qj2 := (hSw.cell (p := ⟨b2, 2, none⟩) l2).trans j2; go_simp; try with_reducible rfl
        try simp only [Act.put, List.setIfInBounds_toArray, List.set_cons_zero, List.set_cons_succ]
        refine wpAnyF_ready (rs := [4]) (by kernel_rfl) (by simp) ?_
        refine AllReadyF.cons (o := { dst := some 9, op := Go.Op.call { callee := Go.Callee.value (Go.Operand.func 38), args := #[Go.Operand.tmp 8], argTypes := #[23] }, type := 4, pos := "account.go:162", after := #[{ on := 3, ground := Go.Ground.data }, { on := 2, ground := Go.Ground.chain }, { on := 2, ground := Go.Ground.guard }], guard := some (2, true) }) rfl (by rfl) (fun K hK => ?_) ?_
        · go_simp
          refine (there_any (H2.out.grow hS)).mono ?_
          rintro e w7 ⟨rfl, hw7⟩
          rw [hw7]
          clear hw7
          rw [H2T.out]
          refine hK.out _ _ ?_ (fun hS => ?_)
          · exact hS
          clear hK K
          try simp only [Act.put, List.setIfInBounds_toArray, List.set_cons_zero, List.set_cons_succ]
          refine wpAnyF_take (i := 5) (oi := { dst := some 10, op := Go.Op.pick (Go.Operand.tmp 7) (Go.Operand.tmp 9) (Go.Operand.const (Go.Value.bool false)), type := 4, pos := "account.go:162", after := #[{ on := 2, ground := Go.Ground.data }, { on := 4, ground := Go.Ground.data }], guard := none }) (v := ?_) rfl (by kernel_rfl) (by kernel_rfl) (by kernel_rfl) (by kernel_rfl) (fun _ _ _ h => h) (Or.inl ⟨by rfl, ?_⟩) hS ?_
          rotate_left
          · intro w' hSw; have qk0 := (hSw.cell (p := ⟨b1, 0, none⟩) l1).trans k0 ; have qk1 := (hSw.cell (p := ⟨b1, 1, none⟩) l1).trans k1 ; have qk2 := (hSw.cell (p := ⟨b1, 2, none⟩) l1).trans k2 ; have qj0 := (hSw.cell (p := ⟨b2, 0, none⟩) l2).trans j0 ; have qj1 := (hSw.cell (p := ⟨b2, 1, none⟩) l2).trans j1 ; have qj2 := (hSw.cell (p := ⟨b2, 2, none⟩) l2).trans j2; go_simp; try with_reducible rfl
          try simp only [Act.put, List.setIfInBounds_toArray, List.set_cons_zero, List.set_cons_succ]
          refine wpAnyF_take (i := 6) (oi := { dst := some 11, op := Go.Op.move (Go.Operand.tmp 10), type := 4, pos := "account.go:162", after := #[{ on := 5, ground := Go.Ground.data }, { on := 4, ground := Go.Ground.chain }], guard := none }) (v := ?_) rfl (by kernel_rfl) (by kernel_rfl) (by kernel_rfl) (by kernel_rfl) (fun _ _ _ h => h) (Or.inl ⟨by rfl, ?_⟩) hS ?_
          rotate_left
          · intro w' hSw; have qk0 := (hSw.cell (p := ⟨b1, 0, none⟩) l1).trans k0 ; have qk1 := (hSw.cell (p := ⟨b1, 1, none⟩) l1).trans k1 ; have qk2 := (hSw.cell (p := ⟨b1, 2, none⟩) l1).trans k2 ; have qj0 := (hSw.cell (p := ⟨b2, 0, none⟩) l2).trans j0 ; have qj1 := (hSw.cell (p := ⟨b2, 1, none⟩) l2).trans j1 ; have qj2 := (hSw.cell (p := ⟨b2, 2, none⟩) l2).trans j2; go_simp; try with_reducible rfl
          try simp only [Act.put, List.setIfInBounds_toArray, List.set_cons_zero, List.set_cons_succ]
          refine wpAnyF_take (i := 7) (oi := { dst := some 12, op := Go.Op.move (Go.Operand.tmp 0), type := 23, pos := "account.go:162", after := #[{ on := 6, ground := Go.Ground.guard }], guard := some (6, true) }) (v := ?_) rfl (by kernel_rfl) (by kernel_rfl) (by kernel_rfl) (by kernel_rfl) (fun _ _ _ h => h) (Or.inl ⟨by rfl, ?_⟩) hS ?_
          rotate_left
          · intro w' hSw; have qk0 := (hSw.cell (p := ⟨b1, 0, none⟩) l1).trans k0 ; have qk1 := (hSw.cell (p := ⟨b1, 1, none⟩) l1).trans k1 ; have qk2 := (hSw.cell (p := ⟨b1, 2, none⟩) l1).trans k2 ; have qj0 := (hSw.cell (p := ⟨b2, 0, none⟩) l2).trans j0 ; have qj1 := (hSw.cell (p := ⟨b2, 1, none⟩) l2).trans j1 ; have qj2 := (hSw.cell (p := ⟨b2, 2, none⟩) l2).trans j2; go_simp; try with_reducible rfl
          try simp only [Act.put, List.setIfInBounds_toArray, List.set_cons_zero, List.set_cons_succ]
          refine wpAnyF_take (i := 8) (oi := { dst := some 13, op := Go.Op.nilCheck (Go.Operand.tmp 12), type := 0, pos := "account.go:162", after := #[{ on := 7, ground := Go.Ground.data }, { on := 6, ground := Go.Ground.guard }], guard := some (6, true) }) (v := ?_) rfl (by kernel_rfl) (by kernel_rfl) (by kernel_rfl) (by kernel_rfl) (fun _ _ _ h => h) (Or.inl ⟨by rfl, ?_⟩) hS ?_
          rotate_left
          · intro w' hSw; have qk0 := (hSw.cell (p := ⟨b1, 0, none⟩) l1).trans k0 ; have qk1 := (hSw.cell (p := ⟨b1, 1, none⟩) l1).trans k1 ; have qk2 := (hSw.cell (p := ⟨b1, 2, none⟩) l1).trans k2 ; have qj0 := (hSw.cell (p := ⟨b2, 0, none⟩) l2).trans j0 ; have qj1 := (hSw.cell (p := ⟨b2, 1, none⟩) l2).trans j1 ; have qj2 := (hSw.cell (p := ⟨b2, 2, none⟩) l2).trans j2; go_simp; try with_reducible rfl
          try simp only [Act.put, List.setIfInBounds_toArray, List.set_cons_zero, List.set_cons_succ]
          refine wpAnyF_take (i := 9) (oi := { dst := some 14, op := Go.Op.fieldAddr 67 (Go.Operand.tmp 13) 0, type := 0, pos := "account.go:162", after := #[{ on := 8, ground := Go.Ground.data }, { on := 6, ground := Go.Ground.guard }], guard := some (6, true) }) (v := ?_) rfl (by kernel_rfl) (by kernel_rfl) (by kernel_rfl) (by kernel_rfl) (fun _ _ _ h => h) (Or.inl ⟨by rfl, ?_⟩) hS ?_
          rotate_left
          · intro w' hSw; have qk0 := (hSw.cell (p := ⟨b1, 0, none⟩) l1).trans k0 ; have qk1 := (hSw.cell (p := ⟨b1, 1, none⟩) l1).trans k1 ; have qk2 := (hSw.cell (p := ⟨b1, 2, none⟩) l1).trans k2 ; have qj0 := (hSw.cell (p := ⟨b2, 0, none⟩) l2).trans j0 ; have qj1 := (hSw.cell (p := ⟨b2, 1, none⟩) l2).trans j1 ; have qj2 := (hSw.cell (p := ⟨b2, 2, none⟩) l2).trans j2; go_simp; try with_reducible rfl
          try simp only [Act.put, List.setIfInBounds_toArray, List.set_cons_zero, List.set_cons_succ]
          refine wpAnyF_take (i := 10) (oi := { dst := some 15, op := Go.Op.load 2 (Go.Operand.tmp 14), type := 2, pos := "account.go:162", after := #[{ on := 9, ground := Go.Ground.data }, { on := 6, ground := Go.Ground.guard }], guard := some (6, true) }) (v := ?_) rfl (by kernel_rfl) (by kernel_rfl) (by kernel_rfl) (by kernel_rfl) (fun _ _ _ h => h) (Or.inl ⟨by rfl, ?_⟩) hS ?_
          rotate_left
          · intro w' hSw; have qk0 := (hSw.cell (p := ⟨b1, 0, none⟩) l1).trans k0 ; have qk1 := (hSw.cell (p := ⟨b1, 1, none⟩) l1).trans k1 ; have qk2 := (hSw.cell (p := ⟨b1, 2, none⟩) l1).trans k2 ; have qj0 := (hSw.cell (p := ⟨b2, 0, none⟩) l2).trans j0 ; have qj1 := (hSw.cell (p := ⟨b2, 1, none⟩) l2).trans j1 ; have qj2 := (hSw.cell (p := ⟨b2, 2, none⟩) l2).trans j2; go_simp; try with_reducible rfl
          try simp only [Act.put, List.setIfInBounds_toArray, List.set_cons_zero, List.set_cons_succ]
          refine wpAnyF_take (i := 11) (oi := { dst := some 16, op := Go.Op.move (Go.Operand.tmp 1), type := 23, pos := "account.go:162", after := #[{ on := 6, ground := Go.Ground.guard }], guard := some (6, true) }) (v := ?_) rfl (by kernel_rfl) (by kernel_rfl) (by kernel_rfl) (by kernel_rfl) (fun _ _ _ h => h) (Or.inl ⟨by rfl, ?_⟩) hS ?_
          rotate_left
          · intro w' hSw; have qk0 := (hSw.cell (p := ⟨b1, 0, none⟩) l1).trans k0 ; have qk1 := (hSw.cell (p := ⟨b1, 1, none⟩) l1).trans k1 ; have qk2 := (hSw.cell (p := ⟨b1, 2, none⟩) l1).trans k2 ; have qj0 := (hSw.cell (p := ⟨b2, 0, none⟩) l2).trans j0 ; have qj1 := (hSw.cell (p := ⟨b2, 1, none⟩) l2).trans j1 ; have qj2 := (hSw.cell (p := ⟨b2, 2, none⟩) l2).trans j2; go_simp; try with_reducible rfl
          try simp only [Act.put, List.setIfInBounds_toArray, List.set_cons_zero, List.set_cons_succ]
          refine wpAnyF_take (i := 12) (oi := { dst := some 17, op := Go.Op.nilCheck (Go.Operand.tmp 16), type := 0, pos := "account.go:162", after := #[{ on := 11, ground := Go.Ground.data }, { on := 6, ground := Go.Ground.guard }], guard := some (6, true) }) (v := ?_) rfl (by kernel_rfl) (by kernel_rfl) (by kernel_rfl) (by kernel_rfl) (fun _ _ _ h => h) (Or.inl ⟨by rfl, ?_⟩) hS ?_
          rotate_left
          · intro w' hSw; have qk0 := (hSw.cell (p := ⟨b1, 0, none⟩) l1).trans k0 ; have qk1 := (hSw.cell (p := ⟨b1, 1, none⟩) l1).trans k1 ; have qk2 := (hSw.cell (p := ⟨b1, 2, none⟩) l1).trans k2 ; have qj0 := (hSw.cell (p := ⟨b2, 0, none⟩) l2).trans j0 ; have qj1 := (hSw.cell (p := ⟨b2, 1, none⟩) l2).trans j1 ; have qj2 := (hSw.cell (p := ⟨b2, 2, none⟩) l2).trans j2; go_simp; try with_reducible rfl
          try simp only [Act.put, List.setIfInBounds_toArray, List.set_cons_zero, List.set_cons_succ]
          refine wpAnyF_take (i := 13) (oi := { dst := some 18, op := Go.Op.fieldAddr 67 (Go.Operand.tmp 17) 0, type := 0, pos := "account.go:162", after := #[{ on := 12, ground := Go.Ground.data }, { on := 6, ground := Go.Ground.guard }], guard := some (6, true) }) (v := ?_) rfl (by kernel_rfl) (by kernel_rfl) (by kernel_rfl) (by kernel_rfl) (fun _ _ _ h => h) (Or.inl ⟨by rfl, ?_⟩) hS ?_
          rotate_left
          · intro w' hSw; have qk0 := (hSw.cell (p := ⟨b1, 0, none⟩) l1).trans k0 ; have qk1 := (hSw.cell (p := ⟨b1, 1, none⟩) l1).trans k1 ; have qk2 := (hSw.cell (p := ⟨b1, 2, none⟩) l1).trans k2 ; have qj0 := (hSw.cell (p := ⟨b2, 0, none⟩) l2).trans j0 ; have qj1 := (hSw.cell (p := ⟨b2, 1, none⟩) l2).trans j1 ; have qj2 := (hSw.cell (p := ⟨b2, 2, none⟩) l2).trans j2; go_simp; try with_reducible rfl
          try simp only [Act.put, List.setIfInBounds_toArray, List.set_cons_zero, List.set_cons_succ]
          refine wpAnyF_take (i := 14) (oi := { dst := some 19, op := Go.Op.load 2 (Go.Operand.tmp 18), type := 2, pos := "account.go:162", after := #[{ on := 13, ground := Go.Ground.data }, { on := 6, ground := Go.Ground.guard }], guard := some (6, true) }) (v := ?_) rfl (by kernel_rfl) (by kernel_rfl) (by kernel_rfl) (by kernel_rfl) (fun _ _ _ h => h) (Or.inl ⟨by rfl, ?_⟩) hS ?_
          rotate_left
          · intro w' hSw; have qk0 := (hSw.cell (p := ⟨b1, 0, none⟩) l1).trans k0 ; have qk1 := (hSw.cell (p := ⟨b1, 1, none⟩) l1).trans k1 ; have qk2 := (hSw.cell (p := ⟨b1, 2, none⟩) l1).trans k2 ; have qj0 := (hSw.cell (p := ⟨b2, 0, none⟩) l2).trans j0 ; have qj1 := (hSw.cell (p := ⟨b2, 1, none⟩) l2).trans j1 ; have qj2 := (hSw.cell (p := ⟨b2, 2, none⟩) l2).trans j2; go_simp; try with_reducible rfl
          try simp only [Act.put, List.setIfInBounds_toArray, List.set_cons_zero, List.set_cons_succ]
          refine wpAnyF_take (i := 15) (oi := { dst := some 20, op := Go.Op.binOp Go.BinOp.eql 2 (Go.Operand.tmp 15) (Go.Operand.tmp 19) 2, type := 4, pos := "account.go:162", after := #[{ on := 10, ground := Go.Ground.data }, { on := 14, ground := Go.Ground.data }, { on := 6, ground := Go.Ground.guard }], guard := some (6, true) }) (v := ?_) rfl (by kernel_rfl) (by kernel_rfl) (by kernel_rfl) (by kernel_rfl) (fun _ _ _ h => h) (Or.inl ⟨by rfl, ?_⟩) hS ?_
          rotate_left
          · intro w' hSw; have qk0 := (hSw.cell (p := ⟨b1, 0, none⟩) l1).trans k0 ; have qk1 := (hSw.cell (p := ⟨b1, 1, none⟩) l1).trans k1 ; have qk2 := (hSw.cell (p := ⟨b1, 2, none⟩) l1).trans k2 ; have qj0 := (hSw.cell (p := ⟨b2, 0, none⟩) l2).trans j0 ; have qj1 := (hSw.cell (p := ⟨b2, 1, none⟩) l2).trans j1 ; have qj2 := (hSw.cell (p := ⟨b2, 2, none⟩) l2).trans j2; go_simp; try with_reducible rfl
          try simp only [Act.put, List.setIfInBounds_toArray, List.set_cons_zero, List.set_cons_succ]
          refine wpAnyF_take (i := 16) (oi := { dst := some 21, op := Go.Op.pick (Go.Operand.tmp 11) (Go.Operand.tmp 20) (Go.Operand.const (Go.Value.bool false)), type := 4, pos := "account.go:162", after := #[{ on := 6, ground := Go.Ground.data }, { on := 15, ground := Go.Ground.data }], guard := none }) (v := ?_) rfl (by kernel_rfl) (by kernel_rfl) (by kernel_rfl) (by kernel_rfl) (fun _ _ _ h => h) (Or.inl ⟨by rfl, ?_⟩) hS ?_
          rotate_left
          · intro w' hSw; have qk0 := (hSw.cell (p := ⟨b1, 0, none⟩) l1).trans k0 ; have qk1 := (hSw.cell (p := ⟨b1, 1, none⟩) l1).trans k1 ; have qk2 := (hSw.cell (p := ⟨b1, 2, none⟩) l1).trans k2 ; have qj0 := (hSw.cell (p := ⟨b2, 0, none⟩) l2).trans j0 ; have qj1 := (hSw.cell (p := ⟨b2, 1, none⟩) l2).trans j1 ; have qj2 := (hSw.cell (p := ⟨b2, 2, none⟩) l2).trans j2; go_simp; try with_reducible rfl
          try simp only [Act.put, List.setIfInBounds_toArray, List.set_cons_zero, List.set_cons_succ]
          refine wpAnyF_take (i := 17) (oi := { dst := some 22, op := Go.Op.move (Go.Operand.tmp 21), type := 4, pos := "account.go:162", after := #[{ on := 16, ground := Go.Ground.data }, { on := 6, ground := Go.Ground.chain }], guard := none }) (v := ?_) rfl (by kernel_rfl) (by kernel_rfl) (by kernel_rfl) (by kernel_rfl) (fun _ _ _ h => h) (Or.inl ⟨by rfl, ?_⟩) hS ?_
          rotate_left
          · intro w' hSw; have qk0 := (hSw.cell (p := ⟨b1, 0, none⟩) l1).trans k0 ; have qk1 := (hSw.cell (p := ⟨b1, 1, none⟩) l1).trans k1 ; have qk2 := (hSw.cell (p := ⟨b1, 2, none⟩) l1).trans k2 ; have qj0 := (hSw.cell (p := ⟨b2, 0, none⟩) l2).trans j0 ; have qj1 := (hSw.cell (p := ⟨b2, 1, none⟩) l2).trans j1 ; have qj2 := (hSw.cell (p := ⟨b2, 2, none⟩) l2).trans j2; go_simp; try with_reducible rfl
          try simp only [Act.put, List.setIfInBounds_toArray, List.set_cons_zero, List.set_cons_succ]
          refine wpAnyF_take (i := 18) (oi := { dst := some 23, op := Go.Op.move (Go.Operand.tmp 0), type := 23, pos := "account.go:162", after := #[{ on := 17, ground := Go.Ground.guard }], guard := some (17, true) }) (v := ?_) rfl (by kernel_rfl) (by kernel_rfl) (by kernel_rfl) (by kernel_rfl) (fun _ _ _ h => h) (Or.inl ⟨by rfl, ?_⟩) hS ?_
          rotate_left
          · intro w' hSw; have qk0 := (hSw.cell (p := ⟨b1, 0, none⟩) l1).trans k0 ; have qk1 := (hSw.cell (p := ⟨b1, 1, none⟩) l1).trans k1 ; have qk2 := (hSw.cell (p := ⟨b1, 2, none⟩) l1).trans k2 ; have qj0 := (hSw.cell (p := ⟨b2, 0, none⟩) l2).trans j0 ; have qj1 := (hSw.cell (p := ⟨b2, 1, none⟩) l2).trans j1 ; have qj2 := (hSw.cell (p := ⟨b2, 2, none⟩) l2).trans j2; go_simp; try with_reducible rfl
          try simp only [Act.put, List.setIfInBounds_toArray, List.set_cons_zero, List.set_cons_succ]
          refine wpAnyF_take (i := 19) (oi := { dst := some 24, op := Go.Op.nilCheck (Go.Operand.tmp 23), type := 0, pos := "account.go:162", after := #[{ on := 18, ground := Go.Ground.data }, { on := 17, ground := Go.Ground.guard }], guard := some (17, true) }) (v := ?_) rfl (by kernel_rfl) (by kernel_rfl) (by kernel_rfl) (by kernel_rfl) (fun _ _ _ h => h) (Or.inl ⟨by rfl, ?_⟩) hS ?_
          rotate_left
          · intro w' hSw; have qk0 := (hSw.cell (p := ⟨b1, 0, none⟩) l1).trans k0 ; have qk1 := (hSw.cell (p := ⟨b1, 1, none⟩) l1).trans k1 ; have qk2 := (hSw.cell (p := ⟨b1, 2, none⟩) l1).trans k2 ; have qj0 := (hSw.cell (p := ⟨b2, 0, none⟩) l2).trans j0 ; have qj1 := (hSw.cell (p := ⟨b2, 1, none⟩) l2).trans j1 ; have qj2 := (hSw.cell (p := ⟨b2, 2, none⟩) l2).trans j2; go_simp; try with_reducible rfl
          try simp only [Act.put, List.setIfInBounds_toArray, List.set_cons_zero, List.set_cons_succ]
          refine wpAnyF_take (i := 20) (oi := { dst := some 25, op := Go.Op.fieldAddr 67 (Go.Operand.tmp 24) 1, type := 0, pos := "account.go:162", after := #[{ on := 19, ground := Go.Ground.data }, { on := 17, ground := Go.Ground.guard }], guard := some (17, true) }) (v := ?_) rfl (by kernel_rfl) (by kernel_rfl) (by kernel_rfl) (by kernel_rfl) (fun _ _ _ h => h) (Or.inl ⟨by rfl, ?_⟩) hS ?_
          rotate_left
          · intro w' hSw; have qk0 := (hSw.cell (p := ⟨b1, 0, none⟩) l1).trans k0 ; have qk1 := (hSw.cell (p := ⟨b1, 1, none⟩) l1).trans k1 ; have qk2 := (hSw.cell (p := ⟨b1, 2, none⟩) l1).trans k2 ; have qj0 := (hSw.cell (p := ⟨b2, 0, none⟩) l2).trans j0 ; have qj1 := (hSw.cell (p := ⟨b2, 1, none⟩) l2).trans j1 ; have qj2 := (hSw.cell (p := ⟨b2, 2, none⟩) l2).trans j2; go_simp; try with_reducible rfl
          try simp only [Act.put, List.setIfInBounds_toArray, List.set_cons_zero, List.set_cons_succ]
          refine wpAnyF_take (i := 21) (oi := { dst := some 26, op := Go.Op.load 2 (Go.Operand.tmp 25), type := 2, pos := "account.go:162", after := #[{ on := 20, ground := Go.Ground.data }, { on := 17, ground := Go.Ground.guard }], guard := some (17, true) }) (v := ?_) rfl (by kernel_rfl) (by kernel_rfl) (by kernel_rfl) (by kernel_rfl) (fun _ _ _ h => h) (Or.inl ⟨by rfl, ?_⟩) hS ?_
          rotate_left
          · intro w' hSw; have qk0 := (hSw.cell (p := ⟨b1, 0, none⟩) l1).trans k0 ; have qk1 := (hSw.cell (p := ⟨b1, 1, none⟩) l1).trans k1 ; have qk2 := (hSw.cell (p := ⟨b1, 2, none⟩) l1).trans k2 ; have qj0 := (hSw.cell (p := ⟨b2, 0, none⟩) l2).trans j0 ; have qj1 := (hSw.cell (p := ⟨b2, 1, none⟩) l2).trans j1 ; have qj2 := (hSw.cell (p := ⟨b2, 2, none⟩) l2).trans j2; go_simp; try with_reducible rfl
          try simp only [Act.put, List.setIfInBounds_toArray, List.set_cons_zero, List.set_cons_succ]
          refine wpAnyF_take (i := 22) (oi := { dst := some 27, op := Go.Op.move (Go.Operand.tmp 1), type := 23, pos := "account.go:162", after := #[{ on := 17, ground := Go.Ground.guard }], guard := some (17, true) }) (v := ?_) rfl (by kernel_rfl) (by kernel_rfl) (by kernel_rfl) (by kernel_rfl) (fun _ _ _ h => h) (Or.inl ⟨by rfl, ?_⟩) hS ?_
          rotate_left
          · intro w' hSw; have qk0 := (hSw.cell (p := ⟨b1, 0, none⟩) l1).trans k0 ; have qk1 := (hSw.cell (p := ⟨b1, 1, none⟩) l1).trans k1 ; have qk2 := (hSw.cell (p := ⟨b1, 2, none⟩) l1).trans k2 ; have qj0 := (hSw.cell (p := ⟨b2, 0, none⟩) l2).trans j0 ; have qj1 := (hSw.cell (p := ⟨b2, 1, none⟩) l2).trans j1 ; have qj2 := (hSw.cell (p := ⟨b2, 2, none⟩) l2).trans j2; go_simp; try with_reducible rfl
          try simp only [Act.put, List.setIfInBounds_toArray, List.set_cons_zero, List.set_cons_succ]
          refine wpAnyF_take (i := 23) (oi := { dst := some 28, op := Go.Op.nilCheck (Go.Operand.tmp 27), type := 0, pos := "account.go:162", after := #[{ on := 22, ground := Go.Ground.data }, { on := 17, ground := Go.Ground.guard }], guard := some (17, true) }) (v := ?_) rfl (by kernel_rfl) (by kernel_rfl) (by kernel_rfl) (by kernel_rfl) (fun _ _ _ h => h) (Or.inl ⟨by rfl, ?_⟩) hS ?_
          rotate_left
          · intro w' hSw; have qk0 := (hSw.cell (p := ⟨b1, 0, none⟩) l1).trans k0 ; have qk1 := (hSw.cell (p := ⟨b1, 1, none⟩) l1).trans k1 ; have qk2 := (hSw.cell (p := ⟨b1, 2, none⟩) l1).trans k2 ; have qj0 := (hSw.cell (p := ⟨b2, 0, none⟩) l2).trans j0 ; have qj1 := (hSw.cell (p := ⟨b2, 1, none⟩) l2).trans j1 ; have qj2 := (hSw.cell (p := ⟨b2, 2, none⟩) l2).trans j2; go_simp; try with_reducible rfl
          try simp only [Act.put, List.setIfInBounds_toArray, List.set_cons_zero, List.set_cons_succ]
          refine wpAnyF_take (i := 24) (oi := { dst := some 29, op := Go.Op.fieldAddr 67 (Go.Operand.tmp 28) 1, type := 0, pos := "account.go:162", after := #[{ on := 23, ground := Go.Ground.data }, { on := 17, ground := Go.Ground.guard }], guard := some (17, true) }) (v := ?_) rfl (by kernel_rfl) (by kernel_rfl) (by kernel_rfl) (by kernel_rfl) (fun _ _ _ h => h) (Or.inl ⟨by rfl, ?_⟩) hS ?_
          rotate_left
          · intro w' hSw; have qk0 := (hSw.cell (p := ⟨b1, 0, none⟩) l1).trans k0 ; have qk1 := (hSw.cell (p := ⟨b1, 1, none⟩) l1).trans k1 ; have qk2 := (hSw.cell (p := ⟨b1, 2, none⟩) l1).trans k2 ; have qj0 := (hSw.cell (p := ⟨b2, 0, none⟩) l2).trans j0 ; have qj1 := (hSw.cell (p := ⟨b2, 1, none⟩) l2).trans j1 ; have qj2 := (hSw.cell (p := ⟨b2, 2, none⟩) l2).trans j2; go_simp; try with_reducible rfl
          try simp only [Act.put, List.setIfInBounds_toArray, List.set_cons_zero, List.set_cons_succ]
          refine wpAnyF_take (i := 25) (oi := { dst := some 30, op := Go.Op.load 2 (Go.Operand.tmp 29), type := 2, pos := "account.go:162", after := #[{ on := 24, ground := Go.Ground.data }, { on := 17, ground := Go.Ground.guard }], guard := some (17, true) }) (v := ?_) rfl (by kernel_rfl) (by kernel_rfl) (by kernel_rfl) (by kernel_rfl) (fun _ _ _ h => h) (Or.inl ⟨by rfl, ?_⟩) hS ?_
          rotate_left
          · intro w' hSw; have qk0 := (hSw.cell (p := ⟨b1, 0, none⟩) l1).trans k0 ; have qk1 := (hSw.cell (p := ⟨b1, 1, none⟩) l1).trans k1 ; have qk2 := (hSw.cell (p := ⟨b1, 2, none⟩) l1).trans k2 ; have qj0 := (hSw.cell (p := ⟨b2, 0, none⟩) l2).trans j0 ; have qj1 := (hSw.cell (p := ⟨b2, 1, none⟩) l2).trans j1 ; have qj2 := (hSw.cell (p := ⟨b2, 2, none⟩) l2).trans j2; go_simp; try with_reducible rfl
          try simp only [Act.put, List.setIfInBounds_toArray, List.set_cons_zero, List.set_cons_succ]
          refine wpAnyF_take (i := 26) (oi := { dst := some 31, op := Go.Op.binOp Go.BinOp.eql 2 (Go.Operand.tmp 26) (Go.Operand.tmp 30) 2, type := 4, pos := "account.go:162", after := #[{ on := 21, ground := Go.Ground.data }, { on := 25, ground := Go.Ground.data }, { on := 17, ground := Go.Ground.guard }], guard := some (17, true) }) (v := ?_) rfl (by kernel_rfl) (by kernel_rfl) (by kernel_rfl) (by kernel_rfl) (fun _ _ _ h => h) (Or.inl ⟨by rfl, ?_⟩) hS ?_
          rotate_left
          · intro w' hSw; have qk0 := (hSw.cell (p := ⟨b1, 0, none⟩) l1).trans k0 ; have qk1 := (hSw.cell (p := ⟨b1, 1, none⟩) l1).trans k1 ; have qk2 := (hSw.cell (p := ⟨b1, 2, none⟩) l1).trans k2 ; have qj0 := (hSw.cell (p := ⟨b2, 0, none⟩) l2).trans j0 ; have qj1 := (hSw.cell (p := ⟨b2, 1, none⟩) l2).trans j1 ; have qj2 := (hSw.cell (p := ⟨b2, 2, none⟩) l2).trans j2; go_simp; try with_reducible rfl
          try simp only [Act.put, List.setIfInBounds_toArray, List.set_cons_zero, List.set_cons_succ]
          refine wpAnyF_take (i := 27) (oi := { dst := some 32, op := Go.Op.pick (Go.Operand.tmp 22) (Go.Operand.tmp 31) (Go.Operand.const (Go.Value.bool false)), type := 4, pos := "account.go:162", after := #[{ on := 17, ground := Go.Ground.data }, { on := 26, ground := Go.Ground.data }], guard := none }) (v := ?_) rfl (by kernel_rfl) (by kernel_rfl) (by kernel_rfl) (by kernel_rfl) (fun _ _ _ h => h) (Or.inl ⟨by rfl, ?_⟩) hS ?_
          rotate_left
          · intro w' hSw; have qk0 := (hSw.cell (p := ⟨b1, 0, none⟩) l1).trans k0 ; have qk1 := (hSw.cell (p := ⟨b1, 1, none⟩) l1).trans k1 ; have qk2 := (hSw.cell (p := ⟨b1, 2, none⟩) l1).trans k2 ; have qj0 := (hSw.cell (p := ⟨b2, 0, none⟩) l2).trans j0 ; have qj1 := (hSw.cell (p := ⟨b2, 1, none⟩) l2).trans j1 ; have qj2 := (hSw.cell (p := ⟨b2, 2, none⟩) l2).trans j2; go_simp; try with_reducible rfl
          try simp only [Act.put, List.setIfInBounds_toArray, List.set_cons_zero, List.set_cons_succ]
          refine wpAnyF_take (i := 28) (oi := { dst := some 33, op := Go.Op.move (Go.Operand.tmp 32), type := 4, pos := "account.go:162", after := #[{ on := 27, ground := Go.Ground.data }, { on := 17, ground := Go.Ground.chain }], guard := none }) (v := ?_) rfl (by kernel_rfl) (by kernel_rfl) (by kernel_rfl) (by kernel_rfl) (fun _ _ _ h => h) (Or.inl ⟨by rfl, ?_⟩) hS ?_
          rotate_left
          · intro w' hSw; have qk0 := (hSw.cell (p := ⟨b1, 0, none⟩) l1).trans k0 ; have qk1 := (hSw.cell (p := ⟨b1, 1, none⟩) l1).trans k1 ; have qk2 := (hSw.cell (p := ⟨b1, 2, none⟩) l1).trans k2 ; have qj0 := (hSw.cell (p := ⟨b2, 0, none⟩) l2).trans j0 ; have qj1 := (hSw.cell (p := ⟨b2, 1, none⟩) l2).trans j1 ; have qj2 := (hSw.cell (p := ⟨b2, 2, none⟩) l2).trans j2; go_simp; try with_reducible rfl
          try simp only [Act.put, List.setIfInBounds_toArray, List.set_cons_zero, List.set_cons_succ]
          refine wpAnyF_take (i := 29) (oi := { dst := some 34, op := Go.Op.move (Go.Operand.tmp 0), type := 23, pos := "account.go:162", after := #[{ on := 28, ground := Go.Ground.guard }], guard := some (28, true) }) (v := ?_) rfl (by kernel_rfl) (by kernel_rfl) (by kernel_rfl) (by kernel_rfl) (fun _ _ _ h => h) (Or.inl ⟨by rfl, ?_⟩) hS ?_
          rotate_left
          · intro w' hSw; have qk0 := (hSw.cell (p := ⟨b1, 0, none⟩) l1).trans k0 ; have qk1 := (hSw.cell (p := ⟨b1, 1, none⟩) l1).trans k1 ; have qk2 := (hSw.cell (p := ⟨b1, 2, none⟩) l1).trans k2 ; have qj0 := (hSw.cell (p := ⟨b2, 0, none⟩) l2).trans j0 ; have qj1 := (hSw.cell (p := ⟨b2, 1, none⟩) l2).trans j1 ; have qj2 := (hSw.cell (p := ⟨b2, 2, none⟩) l2).trans j2; go_simp; try with_reducible rfl
          try simp only [Act.put, List.setIfInBounds_toArray, List.set_cons_zero, List.set_cons_succ]
          refine wpAnyF_take (i := 30) (oi := { dst := some 35, op := Go.Op.nilCheck (Go.Operand.tmp 34), type := 0, pos := "account.go:162", after := #[{ on := 29, ground := Go.Ground.data }, { on := 28, ground := Go.Ground.guard }], guard := some (28, true) }) (v := ?_) rfl (by kernel_rfl) (by kernel_rfl) (by kernel_rfl) (by kernel_rfl) (fun _ _ _ h => h) (Or.inl ⟨by rfl, ?_⟩) hS ?_
          rotate_left
          · intro w' hSw; have qk0 := (hSw.cell (p := ⟨b1, 0, none⟩) l1).trans k0 ; have qk1 := (hSw.cell (p := ⟨b1, 1, none⟩) l1).trans k1 ; have qk2 := (hSw.cell (p := ⟨b1, 2, none⟩) l1).trans k2 ; have qj0 := (hSw.cell (p := ⟨b2, 0, none⟩) l2).trans j0 ; have qj1 := (hSw.cell (p := ⟨b2, 1, none⟩) l2).trans j1 ; have qj2 := (hSw.cell (p := ⟨b2, 2, none⟩) l2).trans j2; go_simp; try with_reducible rfl
          try simp only [Act.put, List.setIfInBounds_toArray, List.set_cons_zero, List.set_cons_succ]
          refine wpAnyF_take (i := 31) (oi := { dst := some 36, op := Go.Op.fieldAddr 67 (Go.Operand.tmp 35) 2, type := 0, pos := "account.go:162", after := #[{ on := 30, ground := Go.Ground.data }, { on := 28, ground := Go.Ground.guard }], guard := some (28, true) }) (v := ?_) rfl (by kernel_rfl) (by kernel_rfl) (by kernel_rfl) (by kernel_rfl) (fun _ _ _ h => h) (Or.inl ⟨by rfl, ?_⟩) hS ?_
          rotate_left
          · intro w' hSw; have qk0 := (hSw.cell (p := ⟨b1, 0, none⟩) l1).trans k0 ; have qk1 := (hSw.cell (p := ⟨b1, 1, none⟩) l1).trans k1 ; have qk2 := (hSw.cell (p := ⟨b1, 2, none⟩) l1).trans k2 ; have qj0 := (hSw.cell (p := ⟨b2, 0, none⟩) l2).trans j0 ; have qj1 := (hSw.cell (p := ⟨b2, 1, none⟩) l2).trans j1 ; have qj2 := (hSw.cell (p := ⟨b2, 2, none⟩) l2).trans j2; go_simp; try with_reducible rfl
          try simp only [Act.put, List.setIfInBounds_toArray, List.set_cons_zero, List.set_cons_succ]
          refine wpAnyF_take (i := 32) (oi := { dst := some 37, op := Go.Op.load 65 (Go.Operand.tmp 36), type := 65, pos := "account.go:162", after := #[{ on := 31, ground := Go.Ground.data }, { on := 28, ground := Go.Ground.guard }], guard := some (28, true) }) (v := ?_) rfl (by kernel_rfl) (by kernel_rfl) (by kernel_rfl) (by kernel_rfl) (fun _ _ _ h => h) (Or.inl ⟨by rfl, ?_⟩) hS ?_
          rotate_left
          · intro w' hSw; have qk0 := (hSw.cell (p := ⟨b1, 0, none⟩) l1).trans k0 ; have qk1 := (hSw.cell (p := ⟨b1, 1, none⟩) l1).trans k1 ; have qk2 := (hSw.cell (p := ⟨b1, 2, none⟩) l1).trans k2 ; have qj0 := (hSw.cell (p := ⟨b2, 0, none⟩) l2).trans j0 ; have qj1 := (hSw.cell (p := ⟨b2, 1, none⟩) l2).trans j1 ; have qj2 := (hSw.cell (p := ⟨b2, 2, none⟩) l2).trans j2; go_simp; try with_reducible rfl
          try simp only [Act.put, List.setIfInBounds_toArray, List.set_cons_zero, List.set_cons_succ]
          refine wpAnyF_take (i := 33) (oi := { dst := some 38, op := Go.Op.move (Go.Operand.tmp 1), type := 23, pos := "account.go:162", after := #[{ on := 28, ground := Go.Ground.guard }], guard := some (28, true) }) (v := ?_) rfl (by kernel_rfl) (by kernel_rfl) (by kernel_rfl) (by kernel_rfl) (fun _ _ _ h => h) (Or.inl ⟨by rfl, ?_⟩) hS ?_
          rotate_left
          · intro w' hSw; have qk0 := (hSw.cell (p := ⟨b1, 0, none⟩) l1).trans k0 ; have qk1 := (hSw.cell (p := ⟨b1, 1, none⟩) l1).trans k1 ; have qk2 := (hSw.cell (p := ⟨b1, 2, none⟩) l1).trans k2 ; have qj0 := (hSw.cell (p := ⟨b2, 0, none⟩) l2).trans j0 ; have qj1 := (hSw.cell (p := ⟨b2, 1, none⟩) l2).trans j1 ; have qj2 := (hSw.cell (p := ⟨b2, 2, none⟩) l2).trans j2; go_simp; try with_reducible rfl
          try simp only [Act.put, List.setIfInBounds_toArray, List.set_cons_zero, List.set_cons_succ]
          refine wpAnyF_take (i := 34) (oi := { dst := some 39, op := Go.Op.nilCheck (Go.Operand.tmp 38), type := 0, pos := "account.go:162", after := #[{ on := 33, ground := Go.Ground.data }, { on := 28, ground := Go.Ground.guard }], guard := some (28, true) }) (v := ?_) rfl (by kernel_rfl) (by kernel_rfl) (by kernel_rfl) (by kernel_rfl) (fun _ _ _ h => h) (Or.inl ⟨by rfl, ?_⟩) hS ?_
          rotate_left
          · intro w' hSw; have qk0 := (hSw.cell (p := ⟨b1, 0, none⟩) l1).trans k0 ; have qk1 := (hSw.cell (p := ⟨b1, 1, none⟩) l1).trans k1 ; have qk2 := (hSw.cell (p := ⟨b1, 2, none⟩) l1).trans k2 ; have qj0 := (hSw.cell (p := ⟨b2, 0, none⟩) l2).trans j0 ; have qj1 := (hSw.cell (p := ⟨b2, 1, none⟩) l2).trans j1 ; have qj2 := (hSw.cell (p := ⟨b2, 2, none⟩) l2).trans j2; go_simp; try with_reducible rfl
          try simp only [Act.put, List.setIfInBounds_toArray, List.set_cons_zero, List.set_cons_succ]
          refine wpAnyF_take (i := 35) (oi := { dst := some 40, op := Go.Op.fieldAddr 67 (Go.Operand.tmp 39) 2, type := 0, pos := "account.go:162", after := #[{ on := 34, ground := Go.Ground.data }, { on := 28, ground := Go.Ground.guard }], guard := some (28, true) }) (v := ?_) rfl (by kernel_rfl) (by kernel_rfl) (by kernel_rfl) (by kernel_rfl) (fun _ _ _ h => h) (Or.inl ⟨by rfl, ?_⟩) hS ?_
          rotate_left
          · intro w' hSw; have qk0 := (hSw.cell (p := ⟨b1, 0, none⟩) l1).trans k0 ; have qk1 := (hSw.cell (p := ⟨b1, 1, none⟩) l1).trans k1 ; have qk2 := (hSw.cell (p := ⟨b1, 2, none⟩) l1).trans k2 ; have qj0 := (hSw.cell (p := ⟨b2, 0, none⟩) l2).trans j0 ; have qj1 := (hSw.cell (p := ⟨b2, 1, none⟩) l2).trans j1 ; have qj2 := (hSw.cell (p := ⟨b2, 2, none⟩) l2).trans j2; go_simp; try with_reducible rfl
          try simp only [Act.put, List.setIfInBounds_toArray, List.set_cons_zero, List.set_cons_succ]
          refine wpAnyF_take (i := 36) (oi := { dst := some 41, op := Go.Op.load 65 (Go.Operand.tmp 40), type := 65, pos := "account.go:162", after := #[{ on := 35, ground := Go.Ground.data }, { on := 28, ground := Go.Ground.guard }], guard := some (28, true) }) (v := ?_) rfl (by kernel_rfl) (by kernel_rfl) (by kernel_rfl) (by kernel_rfl) (fun _ _ _ h => h) (Or.inl ⟨by rfl, ?_⟩) hS ?_
          rotate_left
          · intro w' hSw; have qk0 := (hSw.cell (p := ⟨b1, 0, none⟩) l1).trans k0 ; have qk1 := (hSw.cell (p := ⟨b1, 1, none⟩) l1).trans k1 ; have qk2 := (hSw.cell (p := ⟨b1, 2, none⟩) l1).trans k2 ; have qj0 := (hSw.cell (p := ⟨b2, 0, none⟩) l2).trans j0 ; have qj1 := (hSw.cell (p := ⟨b2, 1, none⟩) l2).trans j1 ; have qj2 := (hSw.cell (p := ⟨b2, 2, none⟩) l2).trans j2; go_simp; try with_reducible rfl
          try simp only [Act.put, List.setIfInBounds_toArray, List.set_cons_zero, List.set_cons_succ]
          refine wpAnyF_ready (rs := [37]) (by kernel_rfl) (by simp) ?_
          refine AllReadyF.cons (o := { dst := some 42, op := Go.Op.call { callee := Go.Callee.value (Go.Operand.func 39), args := #[Go.Operand.tmp 37, Go.Operand.tmp 41], argTypes := #[65, 65] }, type := 4, pos := "account.go:162", after := #[{ on := 32, ground := Go.Ground.data }, { on := 36, ground := Go.Ground.data }, { on := 28, ground := Go.Ground.chain }, { on := 28, ground := Go.Ground.guard }], guard := some (28, true) }) rfl (by rfl) (fun K hK => ?_) ?_
          · go_simp
            refine (equal_any (HA.out.grow hS) (HC.out.grow hS) HR1.out HR2.out).mono ?_
            rintro e w7 ⟨rfl, hb7⟩
            rw [← HM.out]
            refine hK.out _ _ ?_ (fun hS => ?_)
            · exact hS.trans (hb7.mono hS.size)
            clear hK K
            try simp only [Act.put, List.setIfInBounds_toArray, List.set_cons_zero, List.set_cons_succ]
            have HB7 := Lib.hid hS
            clear hb7
            refine wpAnyF_take (i := 38) (oi := { dst := some 43, op := Go.Op.pick (Go.Operand.tmp 33) (Go.Operand.tmp 42) (Go.Operand.const (Go.Value.bool false)), type := 4, pos := "account.go:162", after := #[{ on := 28, ground := Go.Ground.data }, { on := 37, ground := Go.Ground.data }], guard := none }) (v := ?_) rfl (by kernel_rfl) (by kernel_rfl) (by kernel_rfl) (by kernel_rfl) (fun _ _ _ h => h) (Or.inl ⟨by rfl, ?_⟩) hS ?_
            rotate_left
            · intro w' hSw; have qk0 := (hSw.cell (p := ⟨b1, 0, none⟩) l1).trans k0 ; have qk1 := (hSw.cell (p := ⟨b1, 1, none⟩) l1).trans k1 ; have qk2 := (hSw.cell (p := ⟨b1, 2, none⟩) l1).trans k2 ; have qj0 := (hSw.cell (p := ⟨b2, 0, none⟩) l2).trans j0 ; have qj1 := (hSw.cell (p := ⟨b2, 1, none⟩) l2).trans j1 ; have qj2 := (hSw.cell (p := ⟨b2, 2, none⟩) l2).trans j2; go_simp; try with_reducible rfl
            try simp only [Act.put, List.setIfInBounds_toArray, List.set_cons_zero, List.set_cons_succ]
            refine wpAnyF_take (i := 39) (oi := { dst := some 4, op := Go.Op.assign (Go.Operand.tmp 43), type := 4, pos := "account.go:162", after := #[{ on := 38, ground := Go.Ground.data }, { on := 37, ground := Go.Ground.chain }, { on := 0, ground := Go.Ground.phase }, { on := 1, ground := Go.Ground.phase }, { on := 2, ground := Go.Ground.phase }, { on := 3, ground := Go.Ground.phase }, { on := 4, ground := Go.Ground.phase }, { on := 5, ground := Go.Ground.phase }, { on := 6, ground := Go.Ground.phase }, { on := 7, ground := Go.Ground.phase }, { on := 8, ground := Go.Ground.phase }, { on := 9, ground := Go.Ground.phase }, { on := 10, ground := Go.Ground.phase }, { on := 11, ground := Go.Ground.phase }, { on := 12, ground := Go.Ground.phase }, { on := 13, ground := Go.Ground.phase }, { on := 14, ground := Go.Ground.phase }, { on := 15, ground := Go.Ground.phase }, { on := 16, ground := Go.Ground.phase }, { on := 17, ground := Go.Ground.phase }, { on := 18, ground := Go.Ground.phase }, { on := 19, ground := Go.Ground.phase }, { on := 20, ground := Go.Ground.phase }, { on := 21, ground := Go.Ground.phase }, { on := 22, ground := Go.Ground.phase }, { on := 23, ground := Go.Ground.phase }, { on := 24, ground := Go.Ground.phase }, { on := 25, ground := Go.Ground.phase }, { on := 26, ground := Go.Ground.phase }, { on := 27, ground := Go.Ground.phase }, { on := 28, ground := Go.Ground.phase }, { on := 29, ground := Go.Ground.phase }, { on := 30, ground := Go.Ground.phase }, { on := 31, ground := Go.Ground.phase }, { on := 32, ground := Go.Ground.phase }, { on := 33, ground := Go.Ground.phase }, { on := 34, ground := Go.Ground.phase }, { on := 35, ground := Go.Ground.phase }, { on := 36, ground := Go.Ground.phase }, { on := 37, ground := Go.Ground.phase }, { on := 38, ground := Go.Ground.phase }], guard := none }) (v := ?_) rfl (by kernel_rfl) (by kernel_rfl) (by kernel_rfl) (by kernel_rfl) (fun _ _ _ h => h) (Or.inl ⟨by rfl, ?_⟩) hS ?_
            rotate_left
            · intro w' hSw; have qk0 := (hSw.cell (p := ⟨b1, 0, none⟩) l1).trans k0 ; have qk1 := (hSw.cell (p := ⟨b1, 1, none⟩) l1).trans k1 ; have qk2 := (hSw.cell (p := ⟨b1, 2, none⟩) l1).trans k2 ; have qj0 := (hSw.cell (p := ⟨b2, 0, none⟩) l2).trans j0 ; have qj1 := (hSw.cell (p := ⟨b2, 1, none⟩) l2).trans j1 ; have qj2 := (hSw.cell (p := ⟨b2, 2, none⟩) l2).trans j2; go_simp; try with_reducible rfl
            try simp only [Act.put, List.setIfInBounds_toArray, List.set_cons_zero, List.set_cons_succ]
            refine wpAnyF_done (by kernel_rfl) ?_ _
            go_wp2_with fail
            go_ret
            exact ⟨by rw [HE.out]; rfl, HB7.out⟩
          exact AllReadyF.nil
        exact AllReadyF.nil
      exact AllReadyF.nil
    · have t1 : (x == y) = true := by simpa using e1
      have t1' : decide (x = y) = true := by simpa using e1
      have t2 : (p == q) = false := by simpa using e2
      have t2' : decide (p = q) = false := by simpa using e2
      have HE := Lib.hid (show ans = false from by rw [HS.out]; simp [e2])
      clear e1 e2
      refine wp_region_F (Below w.heap.size w) [] (by kernel_rfl) ((Below.refl _ _).drew) (fun hS => ?_)
      refine wpAnyF_take (i := 0) (oi := { dst := some 5, op := Go.Op.move (Go.Operand.tmp 0), type := 23, pos := "account.go:162", after := #[], guard := none }) (v := ?_) rfl (by kernel_rfl) (by kernel_rfl) (by kernel_rfl) (by kernel_rfl) (fun _ _ _ h => h) (Or.inl ⟨by rfl, ?_⟩) hS ?_
      rotate_left
      · intro w' hSw; have qk0 := (hSw.cell (p := ⟨b1, 0, none⟩) l1).trans k0 ; have qk1 := (hSw.cell (p := ⟨b1, 1, none⟩) l1).trans k1 ; have qk2 := (hSw.cell (p := ⟨b1, 2, none⟩) l1).trans k2 ; have qj0 := (hSw.cell (p := ⟨b2, 0, none⟩) l2).trans j0 ; have qj1 := (hSw.cell (p := ⟨b2, 1, none⟩) l2).trans j1 ; have qj2 := (hSw.cell (p := ⟨b2, 2, none⟩) l2).trans j2; go_simp; try with_reducible rfl
      try simp only [Act.put, List.setIfInBounds_toArray, List.set_cons_zero, List.set_cons_succ]
      refine wpAnyF_ready (rs := [1]) (by kernel_rfl) (by simp) ?_
      refine AllReadyF.cons (o := { dst := some 6, op := Go.Op.call { callee := Go.Callee.value (Go.Operand.func 38), args := #[Go.Operand.tmp 5], argTypes := #[23] }, type := 4, pos := "account.go:162", after := #[{ on := 0, ground := Go.Ground.data }], guard := none }) rfl (by rfl) (fun K hK => ?_) ?_
      · go_simp
        refine (there_any (H1.out.grow hS)).mono ?_
        rintro e w7 ⟨rfl, hw7⟩
        rw [hw7]
        clear hw7
        rw [H1T.out]
        refine hK.out _ _ ?_ (fun hS => ?_)
        · exact hS
        clear hK K
        try simp only [Act.put, List.setIfInBounds_toArray, List.set_cons_zero, List.set_cons_succ]
        refine wpAnyF_take (i := 2) (oi := { dst := some 7, op := Go.Op.move (Go.Operand.tmp 6), type := 4, pos := "account.go:162", after := #[{ on := 1, ground := Go.Ground.data }, { on := 1, ground := Go.Ground.chain }], guard := none }) (v := ?_) rfl (by kernel_rfl) (by kernel_rfl) (by kernel_rfl) (by kernel_rfl) (fun _ _ _ h => h) (Or.inl ⟨by rfl, ?_⟩) hS ?_
        rotate_left
        · intro w' hSw; have qk0 := (hSw.cell (p := ⟨b1, 0, none⟩) l1).trans k0 ; have qk1 := (hSw.cell (p := ⟨b1, 1, none⟩) l1).trans k1 ; have qk2 := (hSw.cell (p := ⟨b1, 2, none⟩) l1).trans k2 ; have qj0 := (hSw.cell (p := ⟨b2, 0, none⟩) l2).trans j0 ; have qj1 := (hSw.cell (p := ⟨b2, 1, none⟩) l2).trans j1 ; have qj2 := (hSw.cell (p := ⟨b2, 2, none⟩) l2).trans j2; go_simp; try with_reducible rfl
        try simp only [Act.put, List.setIfInBounds_toArray, List.set_cons_zero, List.set_cons_succ]
        refine wpAnyF_take (i := 3) (oi := { dst := some 8, op := Go.Op.move (Go.Operand.tmp 1), type := 23, pos := "account.go:162", after := #[{ on := 2, ground := Go.Ground.guard }], guard := some (2, true) }) (v := ?_) rfl (by kernel_rfl) (by kernel_rfl) (by kernel_rfl) (by kernel_rfl) (fun _ _ _ h => h) (Or.inl ⟨by rfl, ?_⟩) hS ?_
        rotate_left
        · intro w' hSw; have qk0 := (hSw.cell (p := ⟨b1, 0, none⟩) l1).trans k0 ; have qk1 := (hSw.cell (p := ⟨b1, 1, none⟩) l1).trans k1 ; have qk2 := (hSw.cell (p := ⟨b1, 2, none⟩) l1).trans k2 ; have qj0 := (hSw.cell (p := ⟨b2, 0, none⟩) l2).trans j0 ; have qj1 := (hSw.cell (p := ⟨b2, 1, none⟩) l2).trans j1 ; have qj2 := (hSw.cell (p := ⟨b2, 2, none⟩) l2).trans j2; go_simp; try with_reducible rfl
        try simp only [Act.put, List.setIfInBounds_toArray, List.set_cons_zero, List.set_cons_succ]
        refine wpAnyF_ready (rs := [4]) (by kernel_rfl) (by simp) ?_
        refine AllReadyF.cons (o := { dst := some 9, op := Go.Op.call { callee := Go.Callee.value (Go.Operand.func 38), args := #[Go.Operand.tmp 8], argTypes := #[23] }, type := 4, pos := "account.go:162", after := #[{ on := 3, ground := Go.Ground.data }, { on := 2, ground := Go.Ground.chain }, { on := 2, ground := Go.Ground.guard }], guard := some (2, true) }) rfl (by rfl) (fun K hK => ?_) ?_
        · go_simp
          refine (there_any (H2.out.grow hS)).mono ?_
          rintro e w7 ⟨rfl, hw7⟩
          rw [hw7]
          clear hw7
          rw [H2T.out]
          refine hK.out _ _ ?_ (fun hS => ?_)
          · exact hS
          clear hK K
          try simp only [Act.put, List.setIfInBounds_toArray, List.set_cons_zero, List.set_cons_succ]
          refine wpAnyF_take (i := 5) (oi := { dst := some 10, op := Go.Op.pick (Go.Operand.tmp 7) (Go.Operand.tmp 9) (Go.Operand.const (Go.Value.bool false)), type := 4, pos := "account.go:162", after := #[{ on := 2, ground := Go.Ground.data }, { on := 4, ground := Go.Ground.data }], guard := none }) (v := ?_) rfl (by kernel_rfl) (by kernel_rfl) (by kernel_rfl) (by kernel_rfl) (fun _ _ _ h => h) (Or.inl ⟨by rfl, ?_⟩) hS ?_
          rotate_left
          · intro w' hSw; have qk0 := (hSw.cell (p := ⟨b1, 0, none⟩) l1).trans k0 ; have qk1 := (hSw.cell (p := ⟨b1, 1, none⟩) l1).trans k1 ; have qk2 := (hSw.cell (p := ⟨b1, 2, none⟩) l1).trans k2 ; have qj0 := (hSw.cell (p := ⟨b2, 0, none⟩) l2).trans j0 ; have qj1 := (hSw.cell (p := ⟨b2, 1, none⟩) l2).trans j1 ; have qj2 := (hSw.cell (p := ⟨b2, 2, none⟩) l2).trans j2; go_simp; try with_reducible rfl
          try simp only [Act.put, List.setIfInBounds_toArray, List.set_cons_zero, List.set_cons_succ]
          refine wpAnyF_take (i := 6) (oi := { dst := some 11, op := Go.Op.move (Go.Operand.tmp 10), type := 4, pos := "account.go:162", after := #[{ on := 5, ground := Go.Ground.data }, { on := 4, ground := Go.Ground.chain }], guard := none }) (v := ?_) rfl (by kernel_rfl) (by kernel_rfl) (by kernel_rfl) (by kernel_rfl) (fun _ _ _ h => h) (Or.inl ⟨by rfl, ?_⟩) hS ?_
          rotate_left
          · intro w' hSw; have qk0 := (hSw.cell (p := ⟨b1, 0, none⟩) l1).trans k0 ; have qk1 := (hSw.cell (p := ⟨b1, 1, none⟩) l1).trans k1 ; have qk2 := (hSw.cell (p := ⟨b1, 2, none⟩) l1).trans k2 ; have qj0 := (hSw.cell (p := ⟨b2, 0, none⟩) l2).trans j0 ; have qj1 := (hSw.cell (p := ⟨b2, 1, none⟩) l2).trans j1 ; have qj2 := (hSw.cell (p := ⟨b2, 2, none⟩) l2).trans j2; go_simp; try with_reducible rfl
          try simp only [Act.put, List.setIfInBounds_toArray, List.set_cons_zero, List.set_cons_succ]
          refine wpAnyF_take (i := 7) (oi := { dst := some 12, op := Go.Op.move (Go.Operand.tmp 0), type := 23, pos := "account.go:162", after := #[{ on := 6, ground := Go.Ground.guard }], guard := some (6, true) }) (v := ?_) rfl (by kernel_rfl) (by kernel_rfl) (by kernel_rfl) (by kernel_rfl) (fun _ _ _ h => h) (Or.inl ⟨by rfl, ?_⟩) hS ?_
          rotate_left
          · intro w' hSw; have qk0 := (hSw.cell (p := ⟨b1, 0, none⟩) l1).trans k0 ; have qk1 := (hSw.cell (p := ⟨b1, 1, none⟩) l1).trans k1 ; have qk2 := (hSw.cell (p := ⟨b1, 2, none⟩) l1).trans k2 ; have qj0 := (hSw.cell (p := ⟨b2, 0, none⟩) l2).trans j0 ; have qj1 := (hSw.cell (p := ⟨b2, 1, none⟩) l2).trans j1 ; have qj2 := (hSw.cell (p := ⟨b2, 2, none⟩) l2).trans j2; go_simp; try with_reducible rfl
          try simp only [Act.put, List.setIfInBounds_toArray, List.set_cons_zero, List.set_cons_succ]
          refine wpAnyF_take (i := 8) (oi := { dst := some 13, op := Go.Op.nilCheck (Go.Operand.tmp 12), type := 0, pos := "account.go:162", after := #[{ on := 7, ground := Go.Ground.data }, { on := 6, ground := Go.Ground.guard }], guard := some (6, true) }) (v := ?_) rfl (by kernel_rfl) (by kernel_rfl) (by kernel_rfl) (by kernel_rfl) (fun _ _ _ h => h) (Or.inl ⟨by rfl, ?_⟩) hS ?_
          rotate_left
          · intro w' hSw; have qk0 := (hSw.cell (p := ⟨b1, 0, none⟩) l1).trans k0 ; have qk1 := (hSw.cell (p := ⟨b1, 1, none⟩) l1).trans k1 ; have qk2 := (hSw.cell (p := ⟨b1, 2, none⟩) l1).trans k2 ; have qj0 := (hSw.cell (p := ⟨b2, 0, none⟩) l2).trans j0 ; have qj1 := (hSw.cell (p := ⟨b2, 1, none⟩) l2).trans j1 ; have qj2 := (hSw.cell (p := ⟨b2, 2, none⟩) l2).trans j2; go_simp; try with_reducible rfl
          try simp only [Act.put, List.setIfInBounds_toArray, List.set_cons_zero, List.set_cons_succ]
          refine wpAnyF_take (i := 9) (oi := { dst := some 14, op := Go.Op.fieldAddr 67 (Go.Operand.tmp 13) 0, type := 0, pos := "account.go:162", after := #[{ on := 8, ground := Go.Ground.data }, { on := 6, ground := Go.Ground.guard }], guard := some (6, true) }) (v := ?_) rfl (by kernel_rfl) (by kernel_rfl) (by kernel_rfl) (by kernel_rfl) (fun _ _ _ h => h) (Or.inl ⟨by rfl, ?_⟩) hS ?_
          rotate_left
          · intro w' hSw; have qk0 := (hSw.cell (p := ⟨b1, 0, none⟩) l1).trans k0 ; have qk1 := (hSw.cell (p := ⟨b1, 1, none⟩) l1).trans k1 ; have qk2 := (hSw.cell (p := ⟨b1, 2, none⟩) l1).trans k2 ; have qj0 := (hSw.cell (p := ⟨b2, 0, none⟩) l2).trans j0 ; have qj1 := (hSw.cell (p := ⟨b2, 1, none⟩) l2).trans j1 ; have qj2 := (hSw.cell (p := ⟨b2, 2, none⟩) l2).trans j2; go_simp; try with_reducible rfl
          try simp only [Act.put, List.setIfInBounds_toArray, List.set_cons_zero, List.set_cons_succ]
          refine wpAnyF_take (i := 10) (oi := { dst := some 15, op := Go.Op.load 2 (Go.Operand.tmp 14), type := 2, pos := "account.go:162", after := #[{ on := 9, ground := Go.Ground.data }, { on := 6, ground := Go.Ground.guard }], guard := some (6, true) }) (v := ?_) rfl (by kernel_rfl) (by kernel_rfl) (by kernel_rfl) (by kernel_rfl) (fun _ _ _ h => h) (Or.inl ⟨by rfl, ?_⟩) hS ?_
          rotate_left
          · intro w' hSw; have qk0 := (hSw.cell (p := ⟨b1, 0, none⟩) l1).trans k0 ; have qk1 := (hSw.cell (p := ⟨b1, 1, none⟩) l1).trans k1 ; have qk2 := (hSw.cell (p := ⟨b1, 2, none⟩) l1).trans k2 ; have qj0 := (hSw.cell (p := ⟨b2, 0, none⟩) l2).trans j0 ; have qj1 := (hSw.cell (p := ⟨b2, 1, none⟩) l2).trans j1 ; have qj2 := (hSw.cell (p := ⟨b2, 2, none⟩) l2).trans j2; go_simp; try with_reducible rfl
          try simp only [Act.put, List.setIfInBounds_toArray, List.set_cons_zero, List.set_cons_succ]
          refine wpAnyF_take (i := 11) (oi := { dst := some 16, op := Go.Op.move (Go.Operand.tmp 1), type := 23, pos := "account.go:162", after := #[{ on := 6, ground := Go.Ground.guard }], guard := some (6, true) }) (v := ?_) rfl (by kernel_rfl) (by kernel_rfl) (by kernel_rfl) (by kernel_rfl) (fun _ _ _ h => h) (Or.inl ⟨by rfl, ?_⟩) hS ?_
          rotate_left
          · intro w' hSw; have qk0 := (hSw.cell (p := ⟨b1, 0, none⟩) l1).trans k0 ; have qk1 := (hSw.cell (p := ⟨b1, 1, none⟩) l1).trans k1 ; have qk2 := (hSw.cell (p := ⟨b1, 2, none⟩) l1).trans k2 ; have qj0 := (hSw.cell (p := ⟨b2, 0, none⟩) l2).trans j0 ; have qj1 := (hSw.cell (p := ⟨b2, 1, none⟩) l2).trans j1 ; have qj2 := (hSw.cell (p := ⟨b2, 2, none⟩) l2).trans j2; go_simp; try with_reducible rfl
          try simp only [Act.put, List.setIfInBounds_toArray, List.set_cons_zero, List.set_cons_succ]
          refine wpAnyF_take (i := 12) (oi := { dst := some 17, op := Go.Op.nilCheck (Go.Operand.tmp 16), type := 0, pos := "account.go:162", after := #[{ on := 11, ground := Go.Ground.data }, { on := 6, ground := Go.Ground.guard }], guard := some (6, true) }) (v := ?_) rfl (by kernel_rfl) (by kernel_rfl) (by kernel_rfl) (by kernel_rfl) (fun _ _ _ h => h) (Or.inl ⟨by rfl, ?_⟩) hS ?_
          rotate_left
          · intro w' hSw; have qk0 := (hSw.cell (p := ⟨b1, 0, none⟩) l1).trans k0 ; have qk1 := (hSw.cell (p := ⟨b1, 1, none⟩) l1).trans k1 ; have qk2 := (hSw.cell (p := ⟨b1, 2, none⟩) l1).trans k2 ; have qj0 := (hSw.cell (p := ⟨b2, 0, none⟩) l2).trans j0 ; have qj1 := (hSw.cell (p := ⟨b2, 1, none⟩) l2).trans j1 ; have qj2 := (hSw.cell (p := ⟨b2, 2, none⟩) l2).trans j2; go_simp; try with_reducible rfl
          try simp only [Act.put, List.setIfInBounds_toArray, List.set_cons_zero, List.set_cons_succ]
          refine wpAnyF_take (i := 13) (oi := { dst := some 18, op := Go.Op.fieldAddr 67 (Go.Operand.tmp 17) 0, type := 0, pos := "account.go:162", after := #[{ on := 12, ground := Go.Ground.data }, { on := 6, ground := Go.Ground.guard }], guard := some (6, true) }) (v := ?_) rfl (by kernel_rfl) (by kernel_rfl) (by kernel_rfl) (by kernel_rfl) (fun _ _ _ h => h) (Or.inl ⟨by rfl, ?_⟩) hS ?_
          rotate_left
          · intro w' hSw; have qk0 := (hSw.cell (p := ⟨b1, 0, none⟩) l1).trans k0 ; have qk1 := (hSw.cell (p := ⟨b1, 1, none⟩) l1).trans k1 ; have qk2 := (hSw.cell (p := ⟨b1, 2, none⟩) l1).trans k2 ; have qj0 := (hSw.cell (p := ⟨b2, 0, none⟩) l2).trans j0 ; have qj1 := (hSw.cell (p := ⟨b2, 1, none⟩) l2).trans j1 ; have qj2 := (hSw.cell (p := ⟨b2, 2, none⟩) l2).trans j2; go_simp; try with_reducible rfl
          try simp only [Act.put, List.setIfInBounds_toArray, List.set_cons_zero, List.set_cons_succ]
          refine wpAnyF_take (i := 14) (oi := { dst := some 19, op := Go.Op.load 2 (Go.Operand.tmp 18), type := 2, pos := "account.go:162", after := #[{ on := 13, ground := Go.Ground.data }, { on := 6, ground := Go.Ground.guard }], guard := some (6, true) }) (v := ?_) rfl (by kernel_rfl) (by kernel_rfl) (by kernel_rfl) (by kernel_rfl) (fun _ _ _ h => h) (Or.inl ⟨by rfl, ?_⟩) hS ?_
          rotate_left
          · intro w' hSw; have qk0 := (hSw.cell (p := ⟨b1, 0, none⟩) l1).trans k0 ; have qk1 := (hSw.cell (p := ⟨b1, 1, none⟩) l1).trans k1 ; have qk2 := (hSw.cell (p := ⟨b1, 2, none⟩) l1).trans k2 ; have qj0 := (hSw.cell (p := ⟨b2, 0, none⟩) l2).trans j0 ; have qj1 := (hSw.cell (p := ⟨b2, 1, none⟩) l2).trans j1 ; have qj2 := (hSw.cell (p := ⟨b2, 2, none⟩) l2).trans j2; go_simp; try with_reducible rfl
          try simp only [Act.put, List.setIfInBounds_toArray, List.set_cons_zero, List.set_cons_succ]
          refine wpAnyF_take (i := 15) (oi := { dst := some 20, op := Go.Op.binOp Go.BinOp.eql 2 (Go.Operand.tmp 15) (Go.Operand.tmp 19) 2, type := 4, pos := "account.go:162", after := #[{ on := 10, ground := Go.Ground.data }, { on := 14, ground := Go.Ground.data }, { on := 6, ground := Go.Ground.guard }], guard := some (6, true) }) (v := ?_) rfl (by kernel_rfl) (by kernel_rfl) (by kernel_rfl) (by kernel_rfl) (fun _ _ _ h => h) (Or.inl ⟨by rfl, ?_⟩) hS ?_
          rotate_left
          · intro w' hSw; have qk0 := (hSw.cell (p := ⟨b1, 0, none⟩) l1).trans k0 ; have qk1 := (hSw.cell (p := ⟨b1, 1, none⟩) l1).trans k1 ; have qk2 := (hSw.cell (p := ⟨b1, 2, none⟩) l1).trans k2 ; have qj0 := (hSw.cell (p := ⟨b2, 0, none⟩) l2).trans j0 ; have qj1 := (hSw.cell (p := ⟨b2, 1, none⟩) l2).trans j1 ; have qj2 := (hSw.cell (p := ⟨b2, 2, none⟩) l2).trans j2; go_simp; try with_reducible rfl
          try simp only [Act.put, List.setIfInBounds_toArray, List.set_cons_zero, List.set_cons_succ]
          refine wpAnyF_take (i := 16) (oi := { dst := some 21, op := Go.Op.pick (Go.Operand.tmp 11) (Go.Operand.tmp 20) (Go.Operand.const (Go.Value.bool false)), type := 4, pos := "account.go:162", after := #[{ on := 6, ground := Go.Ground.data }, { on := 15, ground := Go.Ground.data }], guard := none }) (v := ?_) rfl (by kernel_rfl) (by kernel_rfl) (by kernel_rfl) (by kernel_rfl) (fun _ _ _ h => h) (Or.inl ⟨by rfl, ?_⟩) hS ?_
          rotate_left
          · intro w' hSw; have qk0 := (hSw.cell (p := ⟨b1, 0, none⟩) l1).trans k0 ; have qk1 := (hSw.cell (p := ⟨b1, 1, none⟩) l1).trans k1 ; have qk2 := (hSw.cell (p := ⟨b1, 2, none⟩) l1).trans k2 ; have qj0 := (hSw.cell (p := ⟨b2, 0, none⟩) l2).trans j0 ; have qj1 := (hSw.cell (p := ⟨b2, 1, none⟩) l2).trans j1 ; have qj2 := (hSw.cell (p := ⟨b2, 2, none⟩) l2).trans j2; go_simp; try with_reducible rfl
          try simp only [Act.put, List.setIfInBounds_toArray, List.set_cons_zero, List.set_cons_succ]
          refine wpAnyF_take (i := 17) (oi := { dst := some 22, op := Go.Op.move (Go.Operand.tmp 21), type := 4, pos := "account.go:162", after := #[{ on := 16, ground := Go.Ground.data }, { on := 6, ground := Go.Ground.chain }], guard := none }) (v := ?_) rfl (by kernel_rfl) (by kernel_rfl) (by kernel_rfl) (by kernel_rfl) (fun _ _ _ h => h) (Or.inl ⟨by rfl, ?_⟩) hS ?_
          rotate_left
          · intro w' hSw; have qk0 := (hSw.cell (p := ⟨b1, 0, none⟩) l1).trans k0 ; have qk1 := (hSw.cell (p := ⟨b1, 1, none⟩) l1).trans k1 ; have qk2 := (hSw.cell (p := ⟨b1, 2, none⟩) l1).trans k2 ; have qj0 := (hSw.cell (p := ⟨b2, 0, none⟩) l2).trans j0 ; have qj1 := (hSw.cell (p := ⟨b2, 1, none⟩) l2).trans j1 ; have qj2 := (hSw.cell (p := ⟨b2, 2, none⟩) l2).trans j2; go_simp; try with_reducible rfl
          try simp only [Act.put, List.setIfInBounds_toArray, List.set_cons_zero, List.set_cons_succ]
          refine wpAnyF_take (i := 18) (oi := { dst := some 23, op := Go.Op.move (Go.Operand.tmp 0), type := 23, pos := "account.go:162", after := #[{ on := 17, ground := Go.Ground.guard }], guard := some (17, true) }) (v := ?_) rfl (by kernel_rfl) (by kernel_rfl) (by kernel_rfl) (by kernel_rfl) (fun _ _ _ h => h) (Or.inl ⟨by rfl, ?_⟩) hS ?_
          rotate_left
          · intro w' hSw; have qk0 := (hSw.cell (p := ⟨b1, 0, none⟩) l1).trans k0 ; have qk1 := (hSw.cell (p := ⟨b1, 1, none⟩) l1).trans k1 ; have qk2 := (hSw.cell (p := ⟨b1, 2, none⟩) l1).trans k2 ; have qj0 := (hSw.cell (p := ⟨b2, 0, none⟩) l2).trans j0 ; have qj1 := (hSw.cell (p := ⟨b2, 1, none⟩) l2).trans j1 ; have qj2 := (hSw.cell (p := ⟨b2, 2, none⟩) l2).trans j2; go_simp; try with_reducible rfl
          try simp only [Act.put, List.setIfInBounds_toArray, List.set_cons_zero, List.set_cons_succ]
          refine wpAnyF_take (i := 19) (oi := { dst := some 24, op := Go.Op.nilCheck (Go.Operand.tmp 23), type := 0, pos := "account.go:162", after := #[{ on := 18, ground := Go.Ground.data }, { on := 17, ground := Go.Ground.guard }], guard := some (17, true) }) (v := ?_) rfl (by kernel_rfl) (by kernel_rfl) (by kernel_rfl) (by kernel_rfl) (fun _ _ _ h => h) (Or.inl ⟨by rfl, ?_⟩) hS ?_
          rotate_left
          · intro w' hSw; have qk0 := (hSw.cell (p := ⟨b1, 0, none⟩) l1).trans k0 ; have qk1 := (hSw.cell (p := ⟨b1, 1, none⟩) l1).trans k1 ; have qk2 := (hSw.cell (p := ⟨b1, 2, none⟩) l1).trans k2 ; have qj0 := (hSw.cell (p := ⟨b2, 0, none⟩) l2).trans j0 ; have qj1 := (hSw.cell (p := ⟨b2, 1, none⟩) l2).trans j1 ; have qj2 := (hSw.cell (p := ⟨b2, 2, none⟩) l2).trans j2; go_simp; try with_reducible rfl
          try simp only [Act.put, List.setIfInBounds_toArray, List.set_cons_zero, List.set_cons_succ]
          refine wpAnyF_take (i := 20) (oi := { dst := some 25, op := Go.Op.fieldAddr 67 (Go.Operand.tmp 24) 1, type := 0, pos := "account.go:162", after := #[{ on := 19, ground := Go.Ground.data }, { on := 17, ground := Go.Ground.guard }], guard := some (17, true) }) (v := ?_) rfl (by kernel_rfl) (by kernel_rfl) (by kernel_rfl) (by kernel_rfl) (fun _ _ _ h => h) (Or.inl ⟨by rfl, ?_⟩) hS ?_
          rotate_left
          · intro w' hSw; have qk0 := (hSw.cell (p := ⟨b1, 0, none⟩) l1).trans k0 ; have qk1 := (hSw.cell (p := ⟨b1, 1, none⟩) l1).trans k1 ; have qk2 := (hSw.cell (p := ⟨b1, 2, none⟩) l1).trans k2 ; have qj0 := (hSw.cell (p := ⟨b2, 0, none⟩) l2).trans j0 ; have qj1 := (hSw.cell (p := ⟨b2, 1, none⟩) l2).trans j1 ; have qj2 := (hSw.cell (p := ⟨b2, 2, none⟩) l2).trans j2; go_simp; try with_reducible rfl
          try simp only [Act.put, List.setIfInBounds_toArray, List.set_cons_zero, List.set_cons_succ]
          refine wpAnyF_take (i := 21) (oi := { dst := some 26, op := Go.Op.load 2 (Go.Operand.tmp 25), type := 2, pos := "account.go:162", after := #[{ on := 20, ground := Go.Ground.data }, { on := 17, ground := Go.Ground.guard }], guard := some (17, true) }) (v := ?_) rfl (by kernel_rfl) (by kernel_rfl) (by kernel_rfl) (by kernel_rfl) (fun _ _ _ h => h) (Or.inl ⟨by rfl, ?_⟩) hS ?_
          rotate_left
          · intro w' hSw; have qk0 := (hSw.cell (p := ⟨b1, 0, none⟩) l1).trans k0 ; have qk1 := (hSw.cell (p := ⟨b1, 1, none⟩) l1).trans k1 ; have qk2 := (hSw.cell (p := ⟨b1, 2, none⟩) l1).trans k2 ; have qj0 := (hSw.cell (p := ⟨b2, 0, none⟩) l2).trans j0 ; have qj1 := (hSw.cell (p := ⟨b2, 1, none⟩) l2).trans j1 ; have qj2 := (hSw.cell (p := ⟨b2, 2, none⟩) l2).trans j2; go_simp; try with_reducible rfl
          try simp only [Act.put, List.setIfInBounds_toArray, List.set_cons_zero, List.set_cons_succ]
          refine wpAnyF_take (i := 22) (oi := { dst := some 27, op := Go.Op.move (Go.Operand.tmp 1), type := 23, pos := "account.go:162", after := #[{ on := 17, ground := Go.Ground.guard }], guard := some (17, true) }) (v := ?_) rfl (by kernel_rfl) (by kernel_rfl) (by kernel_rfl) (by kernel_rfl) (fun _ _ _ h => h) (Or.inl ⟨by rfl, ?_⟩) hS ?_
          rotate_left
          · intro w' hSw; have qk0 := (hSw.cell (p := ⟨b1, 0, none⟩) l1).trans k0 ; have qk1 := (hSw.cell (p := ⟨b1, 1, none⟩) l1).trans k1 ; have qk2 := (hSw.cell (p := ⟨b1, 2, none⟩) l1).trans k2 ; have qj0 := (hSw.cell (p := ⟨b2, 0, none⟩) l2).trans j0 ; have qj1 := (hSw.cell (p := ⟨b2, 1, none⟩) l2).trans j1 ; have qj2 := (hSw.cell (p := ⟨b2, 2, none⟩) l2).trans j2; go_simp; try with_reducible rfl
          try simp only [Act.put, List.setIfInBounds_toArray, List.set_cons_zero, List.set_cons_succ]
          refine wpAnyF_take (i := 23) (oi := { dst := some 28, op := Go.Op.nilCheck (Go.Operand.tmp 27), type := 0, pos := "account.go:162", after := #[{ on := 22, ground := Go.Ground.data }, { on := 17, ground := Go.Ground.guard }], guard := some (17, true) }) (v := ?_) rfl (by kernel_rfl) (by kernel_rfl) (by kernel_rfl) (by kernel_rfl) (fun _ _ _ h => h) (Or.inl ⟨by rfl, ?_⟩) hS ?_
          rotate_left
          · intro w' hSw; have qk0 := (hSw.cell (p := ⟨b1, 0, none⟩) l1).trans k0 ; have qk1 := (hSw.cell (p := ⟨b1, 1, none⟩) l1).trans k1 ; have qk2 := (hSw.cell (p := ⟨b1, 2, none⟩) l1).trans k2 ; have qj0 := (hSw.cell (p := ⟨b2, 0, none⟩) l2).trans j0 ; have qj1 := (hSw.cell (p := ⟨b2, 1, none⟩) l2).trans j1 ; have qj2 := (hSw.cell (p := ⟨b2, 2, none⟩) l2).trans j2; go_simp; try with_reducible rfl
          try simp only [Act.put, List.setIfInBounds_toArray, List.set_cons_zero, List.set_cons_succ]
          refine wpAnyF_take (i := 24) (oi := { dst := some 29, op := Go.Op.fieldAddr 67 (Go.Operand.tmp 28) 1, type := 0, pos := "account.go:162", after := #[{ on := 23, ground := Go.Ground.data }, { on := 17, ground := Go.Ground.guard }], guard := some (17, true) }) (v := ?_) rfl (by kernel_rfl) (by kernel_rfl) (by kernel_rfl) (by kernel_rfl) (fun _ _ _ h => h) (Or.inl ⟨by rfl, ?_⟩) hS ?_
          rotate_left
          · intro w' hSw; have qk0 := (hSw.cell (p := ⟨b1, 0, none⟩) l1).trans k0 ; have qk1 := (hSw.cell (p := ⟨b1, 1, none⟩) l1).trans k1 ; have qk2 := (hSw.cell (p := ⟨b1, 2, none⟩) l1).trans k2 ; have qj0 := (hSw.cell (p := ⟨b2, 0, none⟩) l2).trans j0 ; have qj1 := (hSw.cell (p := ⟨b2, 1, none⟩) l2).trans j1 ; have qj2 := (hSw.cell (p := ⟨b2, 2, none⟩) l2).trans j2; go_simp; try with_reducible rfl
          try simp only [Act.put, List.setIfInBounds_toArray, List.set_cons_zero, List.set_cons_succ]
          refine wpAnyF_take (i := 25) (oi := { dst := some 30, op := Go.Op.load 2 (Go.Operand.tmp 29), type := 2, pos := "account.go:162", after := #[{ on := 24, ground := Go.Ground.data }, { on := 17, ground := Go.Ground.guard }], guard := some (17, true) }) (v := ?_) rfl (by kernel_rfl) (by kernel_rfl) (by kernel_rfl) (by kernel_rfl) (fun _ _ _ h => h) (Or.inl ⟨by rfl, ?_⟩) hS ?_
          rotate_left
          · intro w' hSw; have qk0 := (hSw.cell (p := ⟨b1, 0, none⟩) l1).trans k0 ; have qk1 := (hSw.cell (p := ⟨b1, 1, none⟩) l1).trans k1 ; have qk2 := (hSw.cell (p := ⟨b1, 2, none⟩) l1).trans k2 ; have qj0 := (hSw.cell (p := ⟨b2, 0, none⟩) l2).trans j0 ; have qj1 := (hSw.cell (p := ⟨b2, 1, none⟩) l2).trans j1 ; have qj2 := (hSw.cell (p := ⟨b2, 2, none⟩) l2).trans j2; go_simp; try with_reducible rfl
          try simp only [Act.put, List.setIfInBounds_toArray, List.set_cons_zero, List.set_cons_succ]
          refine wpAnyF_take (i := 26) (oi := { dst := some 31, op := Go.Op.binOp Go.BinOp.eql 2 (Go.Operand.tmp 26) (Go.Operand.tmp 30) 2, type := 4, pos := "account.go:162", after := #[{ on := 21, ground := Go.Ground.data }, { on := 25, ground := Go.Ground.data }, { on := 17, ground := Go.Ground.guard }], guard := some (17, true) }) (v := ?_) rfl (by kernel_rfl) (by kernel_rfl) (by kernel_rfl) (by kernel_rfl) (fun _ _ _ h => h) (Or.inl ⟨by rfl, ?_⟩) hS ?_
          rotate_left
          · intro w' hSw; have qk0 := (hSw.cell (p := ⟨b1, 0, none⟩) l1).trans k0 ; have qk1 := (hSw.cell (p := ⟨b1, 1, none⟩) l1).trans k1 ; have qk2 := (hSw.cell (p := ⟨b1, 2, none⟩) l1).trans k2 ; have qj0 := (hSw.cell (p := ⟨b2, 0, none⟩) l2).trans j0 ; have qj1 := (hSw.cell (p := ⟨b2, 1, none⟩) l2).trans j1 ; have qj2 := (hSw.cell (p := ⟨b2, 2, none⟩) l2).trans j2; go_simp; try with_reducible rfl
          try simp only [Act.put, List.setIfInBounds_toArray, List.set_cons_zero, List.set_cons_succ]
          refine wpAnyF_take (i := 27) (oi := { dst := some 32, op := Go.Op.pick (Go.Operand.tmp 22) (Go.Operand.tmp 31) (Go.Operand.const (Go.Value.bool false)), type := 4, pos := "account.go:162", after := #[{ on := 17, ground := Go.Ground.data }, { on := 26, ground := Go.Ground.data }], guard := none }) (v := ?_) rfl (by kernel_rfl) (by kernel_rfl) (by kernel_rfl) (by kernel_rfl) (fun _ _ _ h => h) (Or.inl ⟨by rfl, ?_⟩) hS ?_
          rotate_left
          · intro w' hSw; have qk0 := (hSw.cell (p := ⟨b1, 0, none⟩) l1).trans k0 ; have qk1 := (hSw.cell (p := ⟨b1, 1, none⟩) l1).trans k1 ; have qk2 := (hSw.cell (p := ⟨b1, 2, none⟩) l1).trans k2 ; have qj0 := (hSw.cell (p := ⟨b2, 0, none⟩) l2).trans j0 ; have qj1 := (hSw.cell (p := ⟨b2, 1, none⟩) l2).trans j1 ; have qj2 := (hSw.cell (p := ⟨b2, 2, none⟩) l2).trans j2; go_simp; try with_reducible rfl
          try simp only [Act.put, List.setIfInBounds_toArray, List.set_cons_zero, List.set_cons_succ]
          refine wpAnyF_take (i := 28) (oi := { dst := some 33, op := Go.Op.move (Go.Operand.tmp 32), type := 4, pos := "account.go:162", after := #[{ on := 27, ground := Go.Ground.data }, { on := 17, ground := Go.Ground.chain }], guard := none }) (v := ?_) rfl (by kernel_rfl) (by kernel_rfl) (by kernel_rfl) (by kernel_rfl) (fun _ _ _ h => h) (Or.inl ⟨by rfl, ?_⟩) hS ?_
          rotate_left
          · intro w' hSw; have qk0 := (hSw.cell (p := ⟨b1, 0, none⟩) l1).trans k0 ; have qk1 := (hSw.cell (p := ⟨b1, 1, none⟩) l1).trans k1 ; have qk2 := (hSw.cell (p := ⟨b1, 2, none⟩) l1).trans k2 ; have qj0 := (hSw.cell (p := ⟨b2, 0, none⟩) l2).trans j0 ; have qj1 := (hSw.cell (p := ⟨b2, 1, none⟩) l2).trans j1 ; have qj2 := (hSw.cell (p := ⟨b2, 2, none⟩) l2).trans j2; go_simp; try with_reducible rfl
          try simp only [Act.put, List.setIfInBounds_toArray, List.set_cons_zero, List.set_cons_succ]
          refine wpAnyF_take (i := 29) (oi := { dst := some 34, op := Go.Op.move (Go.Operand.tmp 0), type := 23, pos := "account.go:162", after := #[{ on := 28, ground := Go.Ground.guard }], guard := some (28, true) }) (v := undef) rfl (by kernel_rfl) (by kernel_rfl) (by kernel_rfl) (by kernel_rfl) (fun _ _ _ h => h) (Or.inr ⟨by rfl, rfl⟩) hS ?_
          try simp only [Act.put, List.setIfInBounds_toArray, List.set_cons_zero, List.set_cons_succ]
          refine wpAnyF_take (i := 30) (oi := { dst := some 35, op := Go.Op.nilCheck (Go.Operand.tmp 34), type := 0, pos := "account.go:162", after := #[{ on := 29, ground := Go.Ground.data }, { on := 28, ground := Go.Ground.guard }], guard := some (28, true) }) (v := undef) rfl (by kernel_rfl) (by kernel_rfl) (by kernel_rfl) (by kernel_rfl) (fun _ _ _ h => h) (Or.inr ⟨by rfl, rfl⟩) hS ?_
          try simp only [Act.put, List.setIfInBounds_toArray, List.set_cons_zero, List.set_cons_succ]
          refine wpAnyF_take (i := 31) (oi := { dst := some 36, op := Go.Op.fieldAddr 67 (Go.Operand.tmp 35) 2, type := 0, pos := "account.go:162", after := #[{ on := 30, ground := Go.Ground.data }, { on := 28, ground := Go.Ground.guard }], guard := some (28, true) }) (v := undef) rfl (by kernel_rfl) (by kernel_rfl) (by kernel_rfl) (by kernel_rfl) (fun _ _ _ h => h) (Or.inr ⟨by rfl, rfl⟩) hS ?_
          try simp only [Act.put, List.setIfInBounds_toArray, List.set_cons_zero, List.set_cons_succ]
          refine wpAnyF_take (i := 32) (oi := { dst := some 37, op := Go.Op.load 65 (Go.Operand.tmp 36), type := 65, pos := "account.go:162", after := #[{ on := 31, ground := Go.Ground.data }, { on := 28, ground := Go.Ground.guard }], guard := some (28, true) }) (v := undef) rfl (by kernel_rfl) (by kernel_rfl) (by kernel_rfl) (by kernel_rfl) (fun _ _ _ h => h) (Or.inr ⟨by rfl, rfl⟩) hS ?_
          try simp only [Act.put, List.setIfInBounds_toArray, List.set_cons_zero, List.set_cons_succ]
          refine wpAnyF_take (i := 33) (oi := { dst := some 38, op := Go.Op.move (Go.Operand.tmp 1), type := 23, pos := "account.go:162", after := #[{ on := 28, ground := Go.Ground.guard }], guard := some (28, true) }) (v := undef) rfl (by kernel_rfl) (by kernel_rfl) (by kernel_rfl) (by kernel_rfl) (fun _ _ _ h => h) (Or.inr ⟨by rfl, rfl⟩) hS ?_
          try simp only [Act.put, List.setIfInBounds_toArray, List.set_cons_zero, List.set_cons_succ]
          refine wpAnyF_take (i := 34) (oi := { dst := some 39, op := Go.Op.nilCheck (Go.Operand.tmp 38), type := 0, pos := "account.go:162", after := #[{ on := 33, ground := Go.Ground.data }, { on := 28, ground := Go.Ground.guard }], guard := some (28, true) }) (v := undef) rfl (by kernel_rfl) (by kernel_rfl) (by kernel_rfl) (by kernel_rfl) (fun _ _ _ h => h) (Or.inr ⟨by rfl, rfl⟩) hS ?_
          try simp only [Act.put, List.setIfInBounds_toArray, List.set_cons_zero, List.set_cons_succ]
          refine wpAnyF_take (i := 35) (oi := { dst := some 40, op := Go.Op.fieldAddr 67 (Go.Operand.tmp 39) 2, type := 0, pos := "account.go:162", after := #[{ on := 34, ground := Go.Ground.data }, { on := 28, ground := Go.Ground.guard }], guard := some (28, true) }) (v := undef) rfl (by kernel_rfl) (by kernel_rfl) (by kernel_rfl) (by kernel_rfl) (fun _ _ _ h => h) (Or.inr ⟨by rfl, rfl⟩) hS ?_
          try simp only [Act.put, List.setIfInBounds_toArray, List.set_cons_zero, List.set_cons_succ]
          refine wpAnyF_take (i := 36) (oi := { dst := some 41, op := Go.Op.load 65 (Go.Operand.tmp 40), type := 65, pos := "account.go:162", after := #[{ on := 35, ground := Go.Ground.data }, { on := 28, ground := Go.Ground.guard }], guard := some (28, true) }) (v := undef) rfl (by kernel_rfl) (by kernel_rfl) (by kernel_rfl) (by kernel_rfl) (fun _ _ _ h => h) (Or.inr ⟨by rfl, rfl⟩) hS ?_
          try simp only [Act.put, List.setIfInBounds_toArray, List.set_cons_zero, List.set_cons_succ]
          refine wpAnyF_take (i := 37) (oi := { dst := some 42, op := Go.Op.call { callee := Go.Callee.value (Go.Operand.func 39), args := #[Go.Operand.tmp 37, Go.Operand.tmp 41], argTypes := #[65, 65] }, type := 4, pos := "account.go:162", after := #[{ on := 32, ground := Go.Ground.data }, { on := 36, ground := Go.Ground.data }, { on := 28, ground := Go.Ground.chain }, { on := 28, ground := Go.Ground.guard }], guard := some (28, true) }) (v := undef) rfl (by kernel_rfl) (by kernel_rfl) (by kernel_rfl) (by kernel_rfl) (fun _ _ _ h => h) (Or.inr ⟨by rfl, rfl⟩) hS ?_
          try simp only [Act.put, List.setIfInBounds_toArray, List.set_cons_zero, List.set_cons_succ]
          refine wpAnyF_take (i := 38) (oi := { dst := some 43, op := Go.Op.pick (Go.Operand.tmp 33) (Go.Operand.tmp 42) (Go.Operand.const (Go.Value.bool false)), type := 4, pos := "account.go:162", after := #[{ on := 28, ground := Go.Ground.data }, { on := 37, ground := Go.Ground.data }], guard := none }) (v := ?_) rfl (by kernel_rfl) (by kernel_rfl) (by kernel_rfl) (by kernel_rfl) (fun _ _ _ h => h) (Or.inl ⟨by rfl, ?_⟩) hS ?_
          rotate_left
          · intro w' hSw; have qk0 := (hSw.cell (p := ⟨b1, 0, none⟩) l1).trans k0 ; have qk1 := (hSw.cell (p := ⟨b1, 1, none⟩) l1).trans k1 ; have qk2 := (hSw.cell (p := ⟨b1, 2, none⟩) l1).trans k2 ; have qj0 := (hSw.cell (p := ⟨b2, 0, none⟩) l2).trans j0 ; have qj1 := (hSw.cell (p := ⟨b2, 1, none⟩) l2).trans j1 ; have qj2 := (hSw.cell (p := ⟨b2, 2, none⟩) l2).trans j2; go_simp; try with_reducible rfl
          try simp only [Act.put, List.setIfInBounds_toArray, List.set_cons_zero, List.set_cons_succ]
          refine wpAnyF_take (i := 39) (oi := { dst := some 4, op := Go.Op.assign (Go.Operand.tmp 43), type := 4, pos := "account.go:162", after := #[{ on := 38, ground := Go.Ground.data }, { on := 37, ground := Go.Ground.chain }, { on := 0, ground := Go.Ground.phase }, { on := 1, ground := Go.Ground.phase }, { on := 2, ground := Go.Ground.phase }, { on := 3, ground := Go.Ground.phase }, { on := 4, ground := Go.Ground.phase }, { on := 5, ground := Go.Ground.phase }, { on := 6, ground := Go.Ground.phase }, { on := 7, ground := Go.Ground.phase }, { on := 8, ground := Go.Ground.phase }, { on := 9, ground := Go.Ground.phase }, { on := 10, ground := Go.Ground.phase }, { on := 11, ground := Go.Ground.phase }, { on := 12, ground := Go.Ground.phase }, { on := 13, ground := Go.Ground.phase }, { on := 14, ground := Go.Ground.phase }, { on := 15, ground := Go.Ground.phase }, { on := 16, ground := Go.Ground.phase }, { on := 17, ground := Go.Ground.phase }, { on := 18, ground := Go.Ground.phase }, { on := 19, ground := Go.Ground.phase }, { on := 20, ground := Go.Ground.phase }, { on := 21, ground := Go.Ground.phase }, { on := 22, ground := Go.Ground.phase }, { on := 23, ground := Go.Ground.phase }, { on := 24, ground := Go.Ground.phase }, { on := 25, ground := Go.Ground.phase }, { on := 26, ground := Go.Ground.phase }, { on := 27, ground := Go.Ground.phase }, { on := 28, ground := Go.Ground.phase }, { on := 29, ground := Go.Ground.phase }, { on := 30, ground := Go.Ground.phase }, { on := 31, ground := Go.Ground.phase }, { on := 32, ground := Go.Ground.phase }, { on := 33, ground := Go.Ground.phase }, { on := 34, ground := Go.Ground.phase }, { on := 35, ground := Go.Ground.phase }, { on := 36, ground := Go.Ground.phase }, { on := 37, ground := Go.Ground.phase }, { on := 38, ground := Go.Ground.phase }], guard := none }) (v := ?_) rfl (by kernel_rfl) (by kernel_rfl) (by kernel_rfl) (by kernel_rfl) (fun _ _ _ h => h) (Or.inl ⟨by rfl, ?_⟩) hS ?_
          rotate_left
          · intro w' hSw; have qk0 := (hSw.cell (p := ⟨b1, 0, none⟩) l1).trans k0 ; have qk1 := (hSw.cell (p := ⟨b1, 1, none⟩) l1).trans k1 ; have qk2 := (hSw.cell (p := ⟨b1, 2, none⟩) l1).trans k2 ; have qj0 := (hSw.cell (p := ⟨b2, 0, none⟩) l2).trans j0 ; have qj1 := (hSw.cell (p := ⟨b2, 1, none⟩) l2).trans j1 ; have qj2 := (hSw.cell (p := ⟨b2, 2, none⟩) l2).trans j2; go_simp; try with_reducible rfl
          try simp only [Act.put, List.setIfInBounds_toArray, List.set_cons_zero, List.set_cons_succ]
          refine wpAnyF_done (by kernel_rfl) ?_ _
          go_wp2_with fail
          go_ret
          exact ⟨by rw [HE.out]; rfl, hS⟩
        exact AllReadyF.nil
      exact AllReadyF.nil
  · have t1 : (x == y) = false := by simpa using e1
    have t1' : decide (x = y) = false := by simpa using e1
    have HE := Lib.hid (show ans = false from by rw [HS.out]; simp [e1])
    clear e1
    refine wp_region_F (Below w.heap.size w) [] (by kernel_rfl) ((Below.refl _ _).drew) (fun hS => ?_)
    refine wpAnyF_take (i := 0) (oi := { dst := some 5, op := Go.Op.move (Go.Operand.tmp 0), type := 23, pos := "account.go:162", after := #[], guard := none }) (v := ?_) rfl (by kernel_rfl) (by kernel_rfl) (by kernel_rfl) (by kernel_rfl) (fun _ _ _ h => h) (Or.inl ⟨by rfl, ?_⟩) hS ?_
    rotate_left
    · intro w' hSw; have qk0 := (hSw.cell (p := ⟨b1, 0, none⟩) l1).trans k0 ; have qk1 := (hSw.cell (p := ⟨b1, 1, none⟩) l1).trans k1 ; have qk2 := (hSw.cell (p := ⟨b1, 2, none⟩) l1).trans k2 ; have qj0 := (hSw.cell (p := ⟨b2, 0, none⟩) l2).trans j0 ; have qj1 := (hSw.cell (p := ⟨b2, 1, none⟩) l2).trans j1 ; have qj2 := (hSw.cell (p := ⟨b2, 2, none⟩) l2).trans j2; go_simp; try with_reducible rfl
    try simp only [Act.put, List.setIfInBounds_toArray, List.set_cons_zero, List.set_cons_succ]
    refine wpAnyF_ready (rs := [1]) (by kernel_rfl) (by simp) ?_
    refine AllReadyF.cons (o := { dst := some 6, op := Go.Op.call { callee := Go.Callee.value (Go.Operand.func 38), args := #[Go.Operand.tmp 5], argTypes := #[23] }, type := 4, pos := "account.go:162", after := #[{ on := 0, ground := Go.Ground.data }], guard := none }) rfl (by rfl) (fun K hK => ?_) ?_
    · go_simp
      refine (there_any (H1.out.grow hS)).mono ?_
      rintro e w7 ⟨rfl, hw7⟩
      rw [hw7]
      clear hw7
      rw [H1T.out]
      refine hK.out _ _ ?_ (fun hS => ?_)
      · exact hS
      clear hK K
      try simp only [Act.put, List.setIfInBounds_toArray, List.set_cons_zero, List.set_cons_succ]
      refine wpAnyF_take (i := 2) (oi := { dst := some 7, op := Go.Op.move (Go.Operand.tmp 6), type := 4, pos := "account.go:162", after := #[{ on := 1, ground := Go.Ground.data }, { on := 1, ground := Go.Ground.chain }], guard := none }) (v := ?_) rfl (by kernel_rfl) (by kernel_rfl) (by kernel_rfl) (by kernel_rfl) (fun _ _ _ h => h) (Or.inl ⟨by rfl, ?_⟩) hS ?_
      rotate_left
      · intro w' hSw; have qk0 := (hSw.cell (p := ⟨b1, 0, none⟩) l1).trans k0 ; have qk1 := (hSw.cell (p := ⟨b1, 1, none⟩) l1).trans k1 ; have qk2 := (hSw.cell (p := ⟨b1, 2, none⟩) l1).trans k2 ; have qj0 := (hSw.cell (p := ⟨b2, 0, none⟩) l2).trans j0 ; have qj1 := (hSw.cell (p := ⟨b2, 1, none⟩) l2).trans j1 ; have qj2 := (hSw.cell (p := ⟨b2, 2, none⟩) l2).trans j2; go_simp; try with_reducible rfl
      try simp only [Act.put, List.setIfInBounds_toArray, List.set_cons_zero, List.set_cons_succ]
      refine wpAnyF_take (i := 3) (oi := { dst := some 8, op := Go.Op.move (Go.Operand.tmp 1), type := 23, pos := "account.go:162", after := #[{ on := 2, ground := Go.Ground.guard }], guard := some (2, true) }) (v := ?_) rfl (by kernel_rfl) (by kernel_rfl) (by kernel_rfl) (by kernel_rfl) (fun _ _ _ h => h) (Or.inl ⟨by rfl, ?_⟩) hS ?_
      rotate_left
      · intro w' hSw; have qk0 := (hSw.cell (p := ⟨b1, 0, none⟩) l1).trans k0 ; have qk1 := (hSw.cell (p := ⟨b1, 1, none⟩) l1).trans k1 ; have qk2 := (hSw.cell (p := ⟨b1, 2, none⟩) l1).trans k2 ; have qj0 := (hSw.cell (p := ⟨b2, 0, none⟩) l2).trans j0 ; have qj1 := (hSw.cell (p := ⟨b2, 1, none⟩) l2).trans j1 ; have qj2 := (hSw.cell (p := ⟨b2, 2, none⟩) l2).trans j2; go_simp; try with_reducible rfl
      try simp only [Act.put, List.setIfInBounds_toArray, List.set_cons_zero, List.set_cons_succ]
      refine wpAnyF_ready (rs := [4]) (by kernel_rfl) (by simp) ?_
      refine AllReadyF.cons (o := { dst := some 9, op := Go.Op.call { callee := Go.Callee.value (Go.Operand.func 38), args := #[Go.Operand.tmp 8], argTypes := #[23] }, type := 4, pos := "account.go:162", after := #[{ on := 3, ground := Go.Ground.data }, { on := 2, ground := Go.Ground.chain }, { on := 2, ground := Go.Ground.guard }], guard := some (2, true) }) rfl (by rfl) (fun K hK => ?_) ?_
      · go_simp
        refine (there_any (H2.out.grow hS)).mono ?_
        rintro e w7 ⟨rfl, hw7⟩
        rw [hw7]
        clear hw7
        rw [H2T.out]
        refine hK.out _ _ ?_ (fun hS => ?_)
        · exact hS
        clear hK K
        try simp only [Act.put, List.setIfInBounds_toArray, List.set_cons_zero, List.set_cons_succ]
        refine wpAnyF_take (i := 5) (oi := { dst := some 10, op := Go.Op.pick (Go.Operand.tmp 7) (Go.Operand.tmp 9) (Go.Operand.const (Go.Value.bool false)), type := 4, pos := "account.go:162", after := #[{ on := 2, ground := Go.Ground.data }, { on := 4, ground := Go.Ground.data }], guard := none }) (v := ?_) rfl (by kernel_rfl) (by kernel_rfl) (by kernel_rfl) (by kernel_rfl) (fun _ _ _ h => h) (Or.inl ⟨by rfl, ?_⟩) hS ?_
        rotate_left
        · intro w' hSw; have qk0 := (hSw.cell (p := ⟨b1, 0, none⟩) l1).trans k0 ; have qk1 := (hSw.cell (p := ⟨b1, 1, none⟩) l1).trans k1 ; have qk2 := (hSw.cell (p := ⟨b1, 2, none⟩) l1).trans k2 ; have qj0 := (hSw.cell (p := ⟨b2, 0, none⟩) l2).trans j0 ; have qj1 := (hSw.cell (p := ⟨b2, 1, none⟩) l2).trans j1 ; have qj2 := (hSw.cell (p := ⟨b2, 2, none⟩) l2).trans j2; go_simp; try with_reducible rfl
        try simp only [Act.put, List.setIfInBounds_toArray, List.set_cons_zero, List.set_cons_succ]
        refine wpAnyF_take (i := 6) (oi := { dst := some 11, op := Go.Op.move (Go.Operand.tmp 10), type := 4, pos := "account.go:162", after := #[{ on := 5, ground := Go.Ground.data }, { on := 4, ground := Go.Ground.chain }], guard := none }) (v := ?_) rfl (by kernel_rfl) (by kernel_rfl) (by kernel_rfl) (by kernel_rfl) (fun _ _ _ h => h) (Or.inl ⟨by rfl, ?_⟩) hS ?_
        rotate_left
        · intro w' hSw; have qk0 := (hSw.cell (p := ⟨b1, 0, none⟩) l1).trans k0 ; have qk1 := (hSw.cell (p := ⟨b1, 1, none⟩) l1).trans k1 ; have qk2 := (hSw.cell (p := ⟨b1, 2, none⟩) l1).trans k2 ; have qj0 := (hSw.cell (p := ⟨b2, 0, none⟩) l2).trans j0 ; have qj1 := (hSw.cell (p := ⟨b2, 1, none⟩) l2).trans j1 ; have qj2 := (hSw.cell (p := ⟨b2, 2, none⟩) l2).trans j2; go_simp; try with_reducible rfl
        try simp only [Act.put, List.setIfInBounds_toArray, List.set_cons_zero, List.set_cons_succ]
        refine wpAnyF_take (i := 7) (oi := { dst := some 12, op := Go.Op.move (Go.Operand.tmp 0), type := 23, pos := "account.go:162", after := #[{ on := 6, ground := Go.Ground.guard }], guard := some (6, true) }) (v := ?_) rfl (by kernel_rfl) (by kernel_rfl) (by kernel_rfl) (by kernel_rfl) (fun _ _ _ h => h) (Or.inl ⟨by rfl, ?_⟩) hS ?_
        rotate_left
        · intro w' hSw; have qk0 := (hSw.cell (p := ⟨b1, 0, none⟩) l1).trans k0 ; have qk1 := (hSw.cell (p := ⟨b1, 1, none⟩) l1).trans k1 ; have qk2 := (hSw.cell (p := ⟨b1, 2, none⟩) l1).trans k2 ; have qj0 := (hSw.cell (p := ⟨b2, 0, none⟩) l2).trans j0 ; have qj1 := (hSw.cell (p := ⟨b2, 1, none⟩) l2).trans j1 ; have qj2 := (hSw.cell (p := ⟨b2, 2, none⟩) l2).trans j2; go_simp; try with_reducible rfl
        try simp only [Act.put, List.setIfInBounds_toArray, List.set_cons_zero, List.set_cons_succ]
        refine wpAnyF_take (i := 8) (oi := { dst := some 13, op := Go.Op.nilCheck (Go.Operand.tmp 12), type := 0, pos := "account.go:162", after := #[{ on := 7, ground := Go.Ground.data }, { on := 6, ground := Go.Ground.guard }], guard := some (6, true) }) (v := ?_) rfl (by kernel_rfl) (by kernel_rfl) (by kernel_rfl) (by kernel_rfl) (fun _ _ _ h => h) (Or.inl ⟨by rfl, ?_⟩) hS ?_
        rotate_left
        · intro w' hSw; have qk0 := (hSw.cell (p := ⟨b1, 0, none⟩) l1).trans k0 ; have qk1 := (hSw.cell (p := ⟨b1, 1, none⟩) l1).trans k1 ; have qk2 := (hSw.cell (p := ⟨b1, 2, none⟩) l1).trans k2 ; have qj0 := (hSw.cell (p := ⟨b2, 0, none⟩) l2).trans j0 ; have qj1 := (hSw.cell (p := ⟨b2, 1, none⟩) l2).trans j1 ; have qj2 := (hSw.cell (p := ⟨b2, 2, none⟩) l2).trans j2; go_simp; try with_reducible rfl
        try simp only [Act.put, List.setIfInBounds_toArray, List.set_cons_zero, List.set_cons_succ]
        refine wpAnyF_take (i := 9) (oi := { dst := some 14, op := Go.Op.fieldAddr 67 (Go.Operand.tmp 13) 0, type := 0, pos := "account.go:162", after := #[{ on := 8, ground := Go.Ground.data }, { on := 6, ground := Go.Ground.guard }], guard := some (6, true) }) (v := ?_) rfl (by kernel_rfl) (by kernel_rfl) (by kernel_rfl) (by kernel_rfl) (fun _ _ _ h => h) (Or.inl ⟨by rfl, ?_⟩) hS ?_
        rotate_left
        · intro w' hSw; have qk0 := (hSw.cell (p := ⟨b1, 0, none⟩) l1).trans k0 ; have qk1 := (hSw.cell (p := ⟨b1, 1, none⟩) l1).trans k1 ; have qk2 := (hSw.cell (p := ⟨b1, 2, none⟩) l1).trans k2 ; have qj0 := (hSw.cell (p := ⟨b2, 0, none⟩) l2).trans j0 ; have qj1 := (hSw.cell (p := ⟨b2, 1, none⟩) l2).trans j1 ; have qj2 := (hSw.cell (p := ⟨b2, 2, none⟩) l2).trans j2; go_simp; try with_reducible rfl
        try simp only [Act.put, List.setIfInBounds_toArray, List.set_cons_zero, List.set_cons_succ]
        refine wpAnyF_take (i := 10) (oi := { dst := some 15, op := Go.Op.load 2 (Go.Operand.tmp 14), type := 2, pos := "account.go:162", after := #[{ on := 9, ground := Go.Ground.data }, { on := 6, ground := Go.Ground.guard }], guard := some (6, true) }) (v := ?_) rfl (by kernel_rfl) (by kernel_rfl) (by kernel_rfl) (by kernel_rfl) (fun _ _ _ h => h) (Or.inl ⟨by rfl, ?_⟩) hS ?_
        rotate_left
        · intro w' hSw; have qk0 := (hSw.cell (p := ⟨b1, 0, none⟩) l1).trans k0 ; have qk1 := (hSw.cell (p := ⟨b1, 1, none⟩) l1).trans k1 ; have qk2 := (hSw.cell (p := ⟨b1, 2, none⟩) l1).trans k2 ; have qj0 := (hSw.cell (p := ⟨b2, 0, none⟩) l2).trans j0 ; have qj1 := (hSw.cell (p := ⟨b2, 1, none⟩) l2).trans j1 ; have qj2 := (hSw.cell (p := ⟨b2, 2, none⟩) l2).trans j2; go_simp; try with_reducible rfl
        try simp only [Act.put, List.setIfInBounds_toArray, List.set_cons_zero, List.set_cons_succ]
        refine wpAnyF_take (i := 11) (oi := { dst := some 16, op := Go.Op.move (Go.Operand.tmp 1), type := 23, pos := "account.go:162", after := #[{ on := 6, ground := Go.Ground.guard }], guard := some (6, true) }) (v := ?_) rfl (by kernel_rfl) (by kernel_rfl) (by kernel_rfl) (by kernel_rfl) (fun _ _ _ h => h) (Or.inl ⟨by rfl, ?_⟩) hS ?_
        rotate_left
        · intro w' hSw; have qk0 := (hSw.cell (p := ⟨b1, 0, none⟩) l1).trans k0 ; have qk1 := (hSw.cell (p := ⟨b1, 1, none⟩) l1).trans k1 ; have qk2 := (hSw.cell (p := ⟨b1, 2, none⟩) l1).trans k2 ; have qj0 := (hSw.cell (p := ⟨b2, 0, none⟩) l2).trans j0 ; have qj1 := (hSw.cell (p := ⟨b2, 1, none⟩) l2).trans j1 ; have qj2 := (hSw.cell (p := ⟨b2, 2, none⟩) l2).trans j2; go_simp; try with_reducible rfl
        try simp only [Act.put, List.setIfInBounds_toArray, List.set_cons_zero, List.set_cons_succ]
        refine wpAnyF_take (i := 12) (oi := { dst := some 17, op := Go.Op.nilCheck (Go.Operand.tmp 16), type := 0, pos := "account.go:162", after := #[{ on := 11, ground := Go.Ground.data }, { on := 6, ground := Go.Ground.guard }], guard := some (6, true) }) (v := ?_) rfl (by kernel_rfl) (by kernel_rfl) (by kernel_rfl) (by kernel_rfl) (fun _ _ _ h => h) (Or.inl ⟨by rfl, ?_⟩) hS ?_
        rotate_left
        · intro w' hSw; have qk0 := (hSw.cell (p := ⟨b1, 0, none⟩) l1).trans k0 ; have qk1 := (hSw.cell (p := ⟨b1, 1, none⟩) l1).trans k1 ; have qk2 := (hSw.cell (p := ⟨b1, 2, none⟩) l1).trans k2 ; have qj0 := (hSw.cell (p := ⟨b2, 0, none⟩) l2).trans j0 ; have qj1 := (hSw.cell (p := ⟨b2, 1, none⟩) l2).trans j1 ; have qj2 := (hSw.cell (p := ⟨b2, 2, none⟩) l2).trans j2; go_simp; try with_reducible rfl
        try simp only [Act.put, List.setIfInBounds_toArray, List.set_cons_zero, List.set_cons_succ]
        refine wpAnyF_take (i := 13) (oi := { dst := some 18, op := Go.Op.fieldAddr 67 (Go.Operand.tmp 17) 0, type := 0, pos := "account.go:162", after := #[{ on := 12, ground := Go.Ground.data }, { on := 6, ground := Go.Ground.guard }], guard := some (6, true) }) (v := ?_) rfl (by kernel_rfl) (by kernel_rfl) (by kernel_rfl) (by kernel_rfl) (fun _ _ _ h => h) (Or.inl ⟨by rfl, ?_⟩) hS ?_
        rotate_left
        · intro w' hSw; have qk0 := (hSw.cell (p := ⟨b1, 0, none⟩) l1).trans k0 ; have qk1 := (hSw.cell (p := ⟨b1, 1, none⟩) l1).trans k1 ; have qk2 := (hSw.cell (p := ⟨b1, 2, none⟩) l1).trans k2 ; have qj0 := (hSw.cell (p := ⟨b2, 0, none⟩) l2).trans j0 ; have qj1 := (hSw.cell (p := ⟨b2, 1, none⟩) l2).trans j1 ; have qj2 := (hSw.cell (p := ⟨b2, 2, none⟩) l2).trans j2; go_simp; try with_reducible rfl
        try simp only [Act.put, List.setIfInBounds_toArray, List.set_cons_zero, List.set_cons_succ]
        refine wpAnyF_take (i := 14) (oi := { dst := some 19, op := Go.Op.load 2 (Go.Operand.tmp 18), type := 2, pos := "account.go:162", after := #[{ on := 13, ground := Go.Ground.data }, { on := 6, ground := Go.Ground.guard }], guard := some (6, true) }) (v := ?_) rfl (by kernel_rfl) (by kernel_rfl) (by kernel_rfl) (by kernel_rfl) (fun _ _ _ h => h) (Or.inl ⟨by rfl, ?_⟩) hS ?_
        rotate_left
        · intro w' hSw; have qk0 := (hSw.cell (p := ⟨b1, 0, none⟩) l1).trans k0 ; have qk1 := (hSw.cell (p := ⟨b1, 1, none⟩) l1).trans k1 ; have qk2 := (hSw.cell (p := ⟨b1, 2, none⟩) l1).trans k2 ; have qj0 := (hSw.cell (p := ⟨b2, 0, none⟩) l2).trans j0 ; have qj1 := (hSw.cell (p := ⟨b2, 1, none⟩) l2).trans j1 ; have qj2 := (hSw.cell (p := ⟨b2, 2, none⟩) l2).trans j2; go_simp; try with_reducible rfl
        try simp only [Act.put, List.setIfInBounds_toArray, List.set_cons_zero, List.set_cons_succ]
        refine wpAnyF_take (i := 15) (oi := { dst := some 20, op := Go.Op.binOp Go.BinOp.eql 2 (Go.Operand.tmp 15) (Go.Operand.tmp 19) 2, type := 4, pos := "account.go:162", after := #[{ on := 10, ground := Go.Ground.data }, { on := 14, ground := Go.Ground.data }, { on := 6, ground := Go.Ground.guard }], guard := some (6, true) }) (v := ?_) rfl (by kernel_rfl) (by kernel_rfl) (by kernel_rfl) (by kernel_rfl) (fun _ _ _ h => h) (Or.inl ⟨by rfl, ?_⟩) hS ?_
        rotate_left
        · intro w' hSw; have qk0 := (hSw.cell (p := ⟨b1, 0, none⟩) l1).trans k0 ; have qk1 := (hSw.cell (p := ⟨b1, 1, none⟩) l1).trans k1 ; have qk2 := (hSw.cell (p := ⟨b1, 2, none⟩) l1).trans k2 ; have qj0 := (hSw.cell (p := ⟨b2, 0, none⟩) l2).trans j0 ; have qj1 := (hSw.cell (p := ⟨b2, 1, none⟩) l2).trans j1 ; have qj2 := (hSw.cell (p := ⟨b2, 2, none⟩) l2).trans j2; go_simp; try with_reducible rfl
        try simp only [Act.put, List.setIfInBounds_toArray, List.set_cons_zero, List.set_cons_succ]
        refine wpAnyF_take (i := 16) (oi := { dst := some 21, op := Go.Op.pick (Go.Operand.tmp 11) (Go.Operand.tmp 20) (Go.Operand.const (Go.Value.bool false)), type := 4, pos := "account.go:162", after := #[{ on := 6, ground := Go.Ground.data }, { on := 15, ground := Go.Ground.data }], guard := none }) (v := ?_) rfl (by kernel_rfl) (by kernel_rfl) (by kernel_rfl) (by kernel_rfl) (fun _ _ _ h => h) (Or.inl ⟨by rfl, ?_⟩) hS ?_
        rotate_left
        · intro w' hSw; have qk0 := (hSw.cell (p := ⟨b1, 0, none⟩) l1).trans k0 ; have qk1 := (hSw.cell (p := ⟨b1, 1, none⟩) l1).trans k1 ; have qk2 := (hSw.cell (p := ⟨b1, 2, none⟩) l1).trans k2 ; have qj0 := (hSw.cell (p := ⟨b2, 0, none⟩) l2).trans j0 ; have qj1 := (hSw.cell (p := ⟨b2, 1, none⟩) l2).trans j1 ; have qj2 := (hSw.cell (p := ⟨b2, 2, none⟩) l2).trans j2; go_simp; try with_reducible rfl
        try simp only [Act.put, List.setIfInBounds_toArray, List.set_cons_zero, List.set_cons_succ]
        refine wpAnyF_take (i := 17) (oi := { dst := some 22, op := Go.Op.move (Go.Operand.tmp 21), type := 4, pos := "account.go:162", after := #[{ on := 16, ground := Go.Ground.data }, { on := 6, ground := Go.Ground.chain }], guard := none }) (v := ?_) rfl (by kernel_rfl) (by kernel_rfl) (by kernel_rfl) (by kernel_rfl) (fun _ _ _ h => h) (Or.inl ⟨by rfl, ?_⟩) hS ?_
        rotate_left
        · intro w' hSw; have qk0 := (hSw.cell (p := ⟨b1, 0, none⟩) l1).trans k0 ; have qk1 := (hSw.cell (p := ⟨b1, 1, none⟩) l1).trans k1 ; have qk2 := (hSw.cell (p := ⟨b1, 2, none⟩) l1).trans k2 ; have qj0 := (hSw.cell (p := ⟨b2, 0, none⟩) l2).trans j0 ; have qj1 := (hSw.cell (p := ⟨b2, 1, none⟩) l2).trans j1 ; have qj2 := (hSw.cell (p := ⟨b2, 2, none⟩) l2).trans j2; go_simp; try with_reducible rfl
        try simp only [Act.put, List.setIfInBounds_toArray, List.set_cons_zero, List.set_cons_succ]
        refine wpAnyF_take (i := 18) (oi := { dst := some 23, op := Go.Op.move (Go.Operand.tmp 0), type := 23, pos := "account.go:162", after := #[{ on := 17, ground := Go.Ground.guard }], guard := some (17, true) }) (v := undef) rfl (by kernel_rfl) (by kernel_rfl) (by kernel_rfl) (by kernel_rfl) (fun _ _ _ h => h) (Or.inr ⟨by rfl, rfl⟩) hS ?_
        try simp only [Act.put, List.setIfInBounds_toArray, List.set_cons_zero, List.set_cons_succ]
        refine wpAnyF_take (i := 19) (oi := { dst := some 24, op := Go.Op.nilCheck (Go.Operand.tmp 23), type := 0, pos := "account.go:162", after := #[{ on := 18, ground := Go.Ground.data }, { on := 17, ground := Go.Ground.guard }], guard := some (17, true) }) (v := undef) rfl (by kernel_rfl) (by kernel_rfl) (by kernel_rfl) (by kernel_rfl) (fun _ _ _ h => h) (Or.inr ⟨by rfl, rfl⟩) hS ?_
        try simp only [Act.put, List.setIfInBounds_toArray, List.set_cons_zero, List.set_cons_succ]
        refine wpAnyF_take (i := 20) (oi := { dst := some 25, op := Go.Op.fieldAddr 67 (Go.Operand.tmp 24) 1, type := 0, pos := "account.go:162", after := #[{ on := 19, ground := Go.Ground.data }, { on := 17, ground := Go.Ground.guard }], guard := some (17, true) }) (v := undef) rfl (by kernel_rfl) (by kernel_rfl) (by kernel_rfl) (by kernel_rfl) (fun _ _ _ h => h) (Or.inr ⟨by rfl, rfl⟩) hS ?_
        try simp only [Act.put, List.setIfInBounds_toArray, List.set_cons_zero, List.set_cons_succ]
        refine wpAnyF_take (i := 21) (oi := { dst := some 26, op := Go.Op.load 2 (Go.Operand.tmp 25), type := 2, pos := "account.go:162", after := #[{ on := 20, ground := Go.Ground.data }, { on := 17, ground := Go.Ground.guard }], guard := some (17, true) }) (v := undef) rfl (by kernel_rfl) (by kernel_rfl) (by kernel_rfl) (by kernel_rfl) (fun _ _ _ h => h) (Or.inr ⟨by rfl, rfl⟩) hS ?_
        try simp only [Act.put, List.setIfInBounds_toArray, List.set_cons_zero, List.set_cons_succ]
        refine wpAnyF_take (i := 22) (oi := { dst := some 27, op := Go.Op.move (Go.Operand.tmp 1), type := 23, pos := "account.go:162", after := #[{ on := 17, ground := Go.Ground.guard }], guard := some (17, true) }) (v := undef) rfl (by kernel_rfl) (by kernel_rfl) (by kernel_rfl) (by kernel_rfl) (fun _ _ _ h => h) (Or.inr ⟨by rfl, rfl⟩) hS ?_
        try simp only [Act.put, List.setIfInBounds_toArray, List.set_cons_zero, List.set_cons_succ]
        refine wpAnyF_take (i := 23) (oi := { dst := some 28, op := Go.Op.nilCheck (Go.Operand.tmp 27), type := 0, pos := "account.go:162", after := #[{ on := 22, ground := Go.Ground.data }, { on := 17, ground := Go.Ground.guard }], guard := some (17, true) }) (v := undef) rfl (by kernel_rfl) (by kernel_rfl) (by kernel_rfl) (by kernel_rfl) (fun _ _ _ h => h) (Or.inr ⟨by rfl, rfl⟩) hS ?_
        try simp only [Act.put, List.setIfInBounds_toArray, List.set_cons_zero, List.set_cons_succ]
        refine wpAnyF_take (i := 24) (oi := { dst := some 29, op := Go.Op.fieldAddr 67 (Go.Operand.tmp 28) 1, type := 0, pos := "account.go:162", after := #[{ on := 23, ground := Go.Ground.data }, { on := 17, ground := Go.Ground.guard }], guard := some (17, true) }) (v := undef) rfl (by kernel_rfl) (by kernel_rfl) (by kernel_rfl) (by kernel_rfl) (fun _ _ _ h => h) (Or.inr ⟨by rfl, rfl⟩) hS ?_
        try simp only [Act.put, List.setIfInBounds_toArray, List.set_cons_zero, List.set_cons_succ]
        refine wpAnyF_take (i := 25) (oi := { dst := some 30, op := Go.Op.load 2 (Go.Operand.tmp 29), type := 2, pos := "account.go:162", after := #[{ on := 24, ground := Go.Ground.data }, { on := 17, ground := Go.Ground.guard }], guard := some (17, true) }) (v := undef) rfl (by kernel_rfl) (by kernel_rfl) (by kernel_rfl) (by kernel_rfl) (fun _ _ _ h => h) (Or.inr ⟨by rfl, rfl⟩) hS ?_
        try simp only [Act.put, List.setIfInBounds_toArray, List.set_cons_zero, List.set_cons_succ]
        refine wpAnyF_take (i := 26) (oi := { dst := some 31, op := Go.Op.binOp Go.BinOp.eql 2 (Go.Operand.tmp 26) (Go.Operand.tmp 30) 2, type := 4, pos := "account.go:162", after := #[{ on := 21, ground := Go.Ground.data }, { on := 25, ground := Go.Ground.data }, { on := 17, ground := Go.Ground.guard }], guard := some (17, true) }) (v := undef) rfl (by kernel_rfl) (by kernel_rfl) (by kernel_rfl) (by kernel_rfl) (fun _ _ _ h => h) (Or.inr ⟨by rfl, rfl⟩) hS ?_
        try simp only [Act.put, List.setIfInBounds_toArray, List.set_cons_zero, List.set_cons_succ]
        refine wpAnyF_take (i := 27) (oi := { dst := some 32, op := Go.Op.pick (Go.Operand.tmp 22) (Go.Operand.tmp 31) (Go.Operand.const (Go.Value.bool false)), type := 4, pos := "account.go:162", after := #[{ on := 17, ground := Go.Ground.data }, { on := 26, ground := Go.Ground.data }], guard := none }) (v := ?_) rfl (by kernel_rfl) (by kernel_rfl) (by kernel_rfl) (by kernel_rfl) (fun _ _ _ h => h) (Or.inl ⟨by rfl, ?_⟩) hS ?_
        rotate_left
        · intro w' hSw; have qk0 := (hSw.cell (p := ⟨b1, 0, none⟩) l1).trans k0 ; have qk1 := (hSw.cell (p := ⟨b1, 1, none⟩) l1).trans k1 ; have qk2 := (hSw.cell (p := ⟨b1, 2, none⟩) l1).trans k2 ; have qj0 := (hSw.cell (p := ⟨b2, 0, none⟩) l2).trans j0 ; have qj1 := (hSw.cell (p := ⟨b2, 1, none⟩) l2).trans j1 ; have qj2 := (hSw.cell (p := ⟨b2, 2, none⟩) l2).trans j2; go_simp; try with_reducible rfl
        try simp only [Act.put, List.setIfInBounds_toArray, List.set_cons_zero, List.set_cons_succ]
        refine wpAnyF_take (i := 28) (oi := { dst := some 33, op := Go.Op.move (Go.Operand.tmp 32), type := 4, pos := "account.go:162", after := #[{ on := 27, ground := Go.Ground.data }, { on := 17, ground := Go.Ground.chain }], guard := none }) (v := ?_) rfl (by kernel_rfl) (by kernel_rfl) (by kernel_rfl) (by kernel_rfl) (fun _ _ _ h => h) (Or.inl ⟨by rfl, ?_⟩) hS ?_
        rotate_left
        · intro w' hSw; have qk0 := (hSw.cell (p := ⟨b1, 0, none⟩) l1).trans k0 ; have qk1 := (hSw.cell (p := ⟨b1, 1, none⟩) l1).trans k1 ; have qk2 := (hSw.cell (p := ⟨b1, 2, none⟩) l1).trans k2 ; have qj0 := (hSw.cell (p := ⟨b2, 0, none⟩) l2).trans j0 ; have qj1 := (hSw.cell (p := ⟨b2, 1, none⟩) l2).trans j1 ; have qj2 := (hSw.cell (p := ⟨b2, 2, none⟩) l2).trans j2; go_simp; try with_reducible rfl
        try simp only [Act.put, List.setIfInBounds_toArray, List.set_cons_zero, List.set_cons_succ]
        refine wpAnyF_take (i := 29) (oi := { dst := some 34, op := Go.Op.move (Go.Operand.tmp 0), type := 23, pos := "account.go:162", after := #[{ on := 28, ground := Go.Ground.guard }], guard := some (28, true) }) (v := undef) rfl (by kernel_rfl) (by kernel_rfl) (by kernel_rfl) (by kernel_rfl) (fun _ _ _ h => h) (Or.inr ⟨by rfl, rfl⟩) hS ?_
        try simp only [Act.put, List.setIfInBounds_toArray, List.set_cons_zero, List.set_cons_succ]
        refine wpAnyF_take (i := 30) (oi := { dst := some 35, op := Go.Op.nilCheck (Go.Operand.tmp 34), type := 0, pos := "account.go:162", after := #[{ on := 29, ground := Go.Ground.data }, { on := 28, ground := Go.Ground.guard }], guard := some (28, true) }) (v := undef) rfl (by kernel_rfl) (by kernel_rfl) (by kernel_rfl) (by kernel_rfl) (fun _ _ _ h => h) (Or.inr ⟨by rfl, rfl⟩) hS ?_
        try simp only [Act.put, List.setIfInBounds_toArray, List.set_cons_zero, List.set_cons_succ]
        refine wpAnyF_take (i := 31) (oi := { dst := some 36, op := Go.Op.fieldAddr 67 (Go.Operand.tmp 35) 2, type := 0, pos := "account.go:162", after := #[{ on := 30, ground := Go.Ground.data }, { on := 28, ground := Go.Ground.guard }], guard := some (28, true) }) (v := undef) rfl (by kernel_rfl) (by kernel_rfl) (by kernel_rfl) (by kernel_rfl) (fun _ _ _ h => h) (Or.inr ⟨by rfl, rfl⟩) hS ?_
        try simp only [Act.put, List.setIfInBounds_toArray, List.set_cons_zero, List.set_cons_succ]
        refine wpAnyF_take (i := 32) (oi := { dst := some 37, op := Go.Op.load 65 (Go.Operand.tmp 36), type := 65, pos := "account.go:162", after := #[{ on := 31, ground := Go.Ground.data }, { on := 28, ground := Go.Ground.guard }], guard := some (28, true) }) (v := undef) rfl (by kernel_rfl) (by kernel_rfl) (by kernel_rfl) (by kernel_rfl) (fun _ _ _ h => h) (Or.inr ⟨by rfl, rfl⟩) hS ?_
        try simp only [Act.put, List.setIfInBounds_toArray, List.set_cons_zero, List.set_cons_succ]
        refine wpAnyF_take (i := 33) (oi := { dst := some 38, op := Go.Op.move (Go.Operand.tmp 1), type := 23, pos := "account.go:162", after := #[{ on := 28, ground := Go.Ground.guard }], guard := some (28, true) }) (v := undef) rfl (by kernel_rfl) (by kernel_rfl) (by kernel_rfl) (by kernel_rfl) (fun _ _ _ h => h) (Or.inr ⟨by rfl, rfl⟩) hS ?_
        try simp only [Act.put, List.setIfInBounds_toArray, List.set_cons_zero, List.set_cons_succ]
        refine wpAnyF_take (i := 34) (oi := { dst := some 39, op := Go.Op.nilCheck (Go.Operand.tmp 38), type := 0, pos := "account.go:162", after := #[{ on := 33, ground := Go.Ground.data }, { on := 28, ground := Go.Ground.guard }], guard := some (28, true) }) (v := undef) rfl (by kernel_rfl) (by kernel_rfl) (by kernel_rfl) (by kernel_rfl) (fun _ _ _ h => h) (Or.inr ⟨by rfl, rfl⟩) hS ?_
        try simp only [Act.put, List.setIfInBounds_toArray, List.set_cons_zero, List.set_cons_succ]
        refine wpAnyF_take (i := 35) (oi := { dst := some 40, op := Go.Op.fieldAddr 67 (Go.Operand.tmp 39) 2, type := 0, pos := "account.go:162", after := #[{ on := 34, ground := Go.Ground.data }, { on := 28, ground := Go.Ground.guard }], guard := some (28, true) }) (v := undef) rfl (by kernel_rfl) (by kernel_rfl) (by kernel_rfl) (by kernel_rfl) (fun _ _ _ h => h) (Or.inr ⟨by rfl, rfl⟩) hS ?_
        try simp only [Act.put, List.setIfInBounds_toArray, List.set_cons_zero, List.set_cons_succ]
        refine wpAnyF_take (i := 36) (oi := { dst := some 41, op := Go.Op.load 65 (Go.Operand.tmp 40), type := 65, pos := "account.go:162", after := #[{ on := 35, ground := Go.Ground.data }, { on := 28, ground := Go.Ground.guard }], guard := some (28, true) }) (v := undef) rfl (by kernel_rfl) (by kernel_rfl) (by kernel_rfl) (by kernel_rfl) (fun _ _ _ h => h) (Or.inr ⟨by rfl, rfl⟩) hS ?_
        try simp only [Act.put, List.setIfInBounds_toArray, List.set_cons_zero, List.set_cons_succ]
        refine wpAnyF_take (i := 37) (oi := { dst := some 42, op := Go.Op.call { callee := Go.Callee.value (Go.Operand.func 39), args := #[Go.Operand.tmp 37, Go.Operand.tmp 41], argTypes := #[65, 65] }, type := 4, pos := "account.go:162", after := #[{ on := 32, ground := Go.Ground.data }, { on := 36, ground := Go.Ground.data }, { on := 28, ground := Go.Ground.chain }, { on := 28, ground := Go.Ground.guard }], guard := some (28, true) }) (v := undef) rfl (by kernel_rfl) (by kernel_rfl) (by kernel_rfl) (by kernel_rfl) (fun _ _ _ h => h) (Or.inr ⟨by rfl, rfl⟩) hS ?_
        try simp only [Act.put, List.setIfInBounds_toArray, List.set_cons_zero, List.set_cons_succ]
        refine wpAnyF_take (i := 38) (oi := { dst := some 43, op := Go.Op.pick (Go.Operand.tmp 33) (Go.Operand.tmp 42) (Go.Operand.const (Go.Value.bool false)), type := 4, pos := "account.go:162", after := #[{ on := 28, ground := Go.Ground.data }, { on := 37, ground := Go.Ground.data }], guard := none }) (v := ?_) rfl (by kernel_rfl) (by kernel_rfl) (by kernel_rfl) (by kernel_rfl) (fun _ _ _ h => h) (Or.inl ⟨by rfl, ?_⟩) hS ?_
        rotate_left
        · intro w' hSw; have qk0 := (hSw.cell (p := ⟨b1, 0, none⟩) l1).trans k0 ; have qk1 := (hSw.cell (p := ⟨b1, 1, none⟩) l1).trans k1 ; have qk2 := (hSw.cell (p := ⟨b1, 2, none⟩) l1).trans k2 ; have qj0 := (hSw.cell (p := ⟨b2, 0, none⟩) l2).trans j0 ; have qj1 := (hSw.cell (p := ⟨b2, 1, none⟩) l2).trans j1 ; have qj2 := (hSw.cell (p := ⟨b2, 2, none⟩) l2).trans j2; go_simp; try with_reducible rfl
        try simp only [Act.put, List.setIfInBounds_toArray, List.set_cons_zero, List.set_cons_succ]
        refine wpAnyF_take (i := 39) (oi := { dst := some 4, op := Go.Op.assign (Go.Operand.tmp 43), type := 4, pos := "account.go:162", after := #[{ on := 38, ground := Go.Ground.data }, { on := 37, ground := Go.Ground.chain }, { on := 0, ground := Go.Ground.phase }, { on := 1, ground := Go.Ground.phase }, { on := 2, ground := Go.Ground.phase }, { on := 3, ground := Go.Ground.phase }, { on := 4, ground := Go.Ground.phase }, { on := 5, ground := Go.Ground.phase }, { on := 6, ground := Go.Ground.phase }, { on := 7, ground := Go.Ground.phase }, { on := 8, ground := Go.Ground.phase }, { on := 9, ground := Go.Ground.phase }, { on := 10, ground := Go.Ground.phase }, { on := 11, ground := Go.Ground.phase }, { on := 12, ground := Go.Ground.phase }, { on := 13, ground := Go.Ground.phase }, { on := 14, ground := Go.Ground.phase }, { on := 15, ground := Go.Ground.phase }, { on := 16, ground := Go.Ground.phase }, { on := 17, ground := Go.Ground.phase }, { on := 18, ground := Go.Ground.phase }, { on := 19, ground := Go.Ground.phase }, { on := 20, ground := Go.Ground.phase }, { on := 21, ground := Go.Ground.phase }, { on := 22, ground := Go.Ground.phase }, { on := 23, ground := Go.Ground.phase }, { on := 24, ground := Go.Ground.phase }, { on := 25, ground := Go.Ground.phase }, { on := 26, ground := Go.Ground.phase }, { on := 27, ground := Go.Ground.phase }, { on := 28, ground := Go.Ground.phase }, { on := 29, ground := Go.Ground.phase }, { on := 30, ground := Go.Ground.phase }, { on := 31, ground := Go.Ground.phase }, { on := 32, ground := Go.Ground.phase }, { on := 33, ground := Go.Ground.phase }, { on := 34, ground := Go.Ground.phase }, { on := 35, ground := Go.Ground.phase }, { on := 36, ground := Go.Ground.phase }, { on := 37, ground := Go.Ground.phase }, { on := 38, ground := Go.Ground.phase }], guard := none }) (v := ?_) rfl (by kernel_rfl) (by kernel_rfl) (by kernel_rfl) (by kernel_rfl) (fun _ _ _ h => h) (Or.inl ⟨by rfl, ?_⟩) hS ?_
        rotate_left
        · intro w' hSw; have qk0 := (hSw.cell (p := ⟨b1, 0, none⟩) l1).trans k0 ; have qk1 := (hSw.cell (p := ⟨b1, 1, none⟩) l1).trans k1 ; have qk2 := (hSw.cell (p := ⟨b1, 2, none⟩) l1).trans k2 ; have qj0 := (hSw.cell (p := ⟨b2, 0, none⟩) l2).trans j0 ; have qj1 := (hSw.cell (p := ⟨b2, 1, none⟩) l2).trans j1 ; have qj2 := (hSw.cell (p := ⟨b2, 2, none⟩) l2).trans j2; go_simp; try with_reducible rfl
        try simp only [Act.put, List.setIfInBounds_toArray, List.set_cons_zero, List.set_cons_succ]
        refine wpAnyF_done (by kernel_rfl) ?_ _
        go_wp2_with fail
        go_ret
        exact ⟨by rw [HE.out]; rfl, hS⟩
      exact AllReadyF.nil
    exact AllReadyF.nil

theorem same_any {v u : Value} {f g : Fm} {w : World} (h1 : AtP w v f) (h2 : AtP w u g) (o1 : f.Ok) (o2 : g.Ok) :
    Calls Try.prog 10 #[v, u] w fun e w' => e = .returned (.bool (f.same g)) ∧ Below w.heap.size w w' := by
  cases f with
  | nil => exact same_dead1 h1 rfl
  | zero => exact same_dead1 h1 rfl
  | live a =>
    cases g with
    | nil => exact same_dead2 h1 rfl h2 rfl
    | zero => exact same_dead2 h1 rfl h2 rfl
    | live c =>
      obtain ⟨b1, m1, n1, rfl, h1⟩ := h1
      obtain ⟨b2, m2, n2, rfl, h2⟩ := h2
      exact same_live h1 h2 (Acc.Ok.rise o1) (Acc.Ok.rise o2)
end Go.Proofs.Ytibhmgeckghoeaa.Ac

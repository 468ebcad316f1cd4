/- Account: what accounts that are not there, and zero ones, answer. (Printed by tools/gen_dead.py.) -/
import Derived.Test.YtibhmgeckghoeaaAccS
namespace Go.Proofs.Ytibhmgeckghoeaa.Ac
open Go.RowKit Go.Shelf Go.Maps
open Go.Proofs.Ytibhmgeckghoeaa.Vb
attribute [local go_sem] Oper.semAt_some

theorem dead_M {f : Fm} (h : f.there = false) : f.M = [] := by
  cases f with
  | live a => cases h
  | nil => rfl
  | zero => rfl

set_option maxRecDepth 100000 in
set_option maxHeartbeats 2000000 in
theorem hold_dead {v : Value} {f : Fm} {w : World} (h : AtP w v f) (hf : f.there = false) {x y : Int} :
    Calls Try.prog 9 #[v, .int .i64 x, .int .i64 y] w fun e w' => e = .returned (.int .i64 1) ∧ Below w.heap.size w w' := by
  obtain ⟨p, rfl⟩ := h.ptr
  obtain ⟨U, hU⟩ : ∃ U, U = ((w.alloc (.cells #[.pointer p] 23)).alloc (.cells #[.int .i64 x] 3)).alloc (.cells #[.int .i64 y] 2) := ⟨_, rfl⟩
  have hB : Below w.heap.size w U := by rw [hU]; exact (((Below.refl _ _).alloc (Nat.le_refl _) _).alloc (by simp) _).alloc (by simp; omega) _
  have b0 : Blk U w.heap.size 23 #[.pointer p] := by rw [hU]; exact ((Blk.new w _ _).alloc _).alloc _
  have b1 : Blk U (w.heap.size + 1) 3 #[.int .i64 x] := by rw [hU]; exact (Blk.new' _ _ (by simp)).alloc _
  have b2 : Blk U (w.heap.size + 1 + 1) 2 #[.int .i64 y] := by rw [hU]; exact Blk.new' _ _ (by simp)
  have HB := Lib.hid hB
  have HU := Lib.hid hU
  have HV := Lib.hid (h.grow hB)
  have HF := Lib.hid hf
  have MAY := Lib.hid (fun (W : World) (hW : Below U.heap.size U W) (r : Bool) (fm fd : Value) (z : Int) => may_dead ((h.grow hB).grow hW) hf r fm fd z)
  have k0 : U.cell? ⟨w.heap.size, 0, none⟩ = some (.pointer p) := b0.cell 0
  have k1 : U.cell? ⟨w.heap.size + 1, 0, none⟩ = some (.int .i64 x) := b1.cell 0
  have k2 : U.cell? ⟨w.heap.size + 1 + 1, 0, none⟩ = some (.int .i64 y) := b2.cell 0
  have l0 := b0.lt
  have l1 := b1.lt
  clear h hf hU hB b0 b1 b2
  go_enter Try.func9, Try.ntmps9
  go_wp2_with fail
  rw [← HU.out]
  refine (MAY.out U (Below.refl _ _) _ _ _ _).mono ?_
  rintro e w5 ⟨rfl, hw5⟩
  rw [hw5]
  clear hw5
  go_wp2_with fail
  go_ret
  exact ⟨rfl, HB.out⟩

set_option maxRecDepth 100000 in
set_option maxHeartbeats 2000000 in
theorem can_dead {v : Value} {f : Fm} {w : World} (h : AtP w v f) (hf : f.there = false) {x y : Int} :
    Calls Try.prog 27 #[v, .int .i64 x, .int .i64 y] w fun e w' => e = .returned (.bool false) ∧ Below w.heap.size w w' := by
  obtain ⟨p, rfl⟩ := h.ptr
  obtain ⟨U, hU⟩ : ∃ U, U = (w.alloc (.cells #[.pointer p] 23)).alloc (.cells #[.int .i64 x] 3) := ⟨_, rfl⟩
  have hB : Below w.heap.size w U := by rw [hU]; exact ((Below.refl _ _).alloc (Nat.le_refl _) _).alloc (by simp) _
  have b0 : Blk U w.heap.size 23 #[.pointer p] := by rw [hU]; exact (Blk.new w _ _).alloc _
  have b1 : Blk U (w.heap.size + 1) 3 #[.int .i64 x] := by rw [hU]; exact Blk.new' _ _ (by simp)
  have HB := Lib.hid hB
  have HU := Lib.hid hU
  have HV := Lib.hid (h.grow hB)
  have HF := Lib.hid hf
  have MAY := Lib.hid (fun (W : World) (hW : Below U.heap.size U W) (r : Bool) (fm fd : Value) (z : Int) => may_dead ((h.grow hB).grow hW) hf r fm fd z)
  have k0 : U.cell? ⟨w.heap.size, 0, none⟩ = some (.pointer p) := b0.cell 0
  have k1 : U.cell? ⟨w.heap.size + 1, 0, none⟩ = some (.int .i64 x) := b1.cell 0
  have l0 := b0.lt
  have l1 := b1.lt
  clear h hf hU hB b0 b1
  go_enter Try.func27, Try.ntmps27
  go_wp2_with fail
  rw [← HU.out]
  refine (MAY.out U (Below.refl _ _) _ _ _ _).mono ?_
  rintro e w5 ⟨rfl, hw5⟩
  rw [hw5]
  clear hw5
  go_wp2_with fail
  go_ret
  exact ⟨rfl, HB.out⟩

set_option maxRecDepth 100000 in
set_option maxHeartbeats 2000000 in
theorem pay_dead {v : Value} {f : Fm} {w : World} (h : AtP w v f) (hf : f.there = false) {x y : Int} :
    Calls Try.prog 32 #[v, .int .i64 x, .int .i64 y] w fun e w' => e = .returned (.int .i64 1) ∧ Below w.heap.size w w' := by
  obtain ⟨p, rfl⟩ := h.ptr
  obtain ⟨U, hU⟩ : ∃ U, U = ((w.alloc (.cells #[.pointer p] 23)).alloc (.cells #[.int .i64 x] 3)).alloc (.cells #[.int .i64 y] 2) := ⟨_, rfl⟩
  have hB : Below w.heap.size w U := by rw [hU]; exact (((Below.refl _ _).alloc (Nat.le_refl _) _).alloc (by simp) _).alloc (by simp; omega) _
  have b0 : Blk U w.heap.size 23 #[.pointer p] := by rw [hU]; exact ((Blk.new w _ _).alloc _).alloc _
  have b1 : Blk U (w.heap.size + 1) 3 #[.int .i64 x] := by rw [hU]; exact (Blk.new' _ _ (by simp)).alloc _
  have b2 : Blk U (w.heap.size + 1 + 1) 2 #[.int .i64 y] := by rw [hU]; exact Blk.new' _ _ (by simp)
  have HB := Lib.hid hB
  have HU := Lib.hid hU
  have HV := Lib.hid (h.grow hB)
  have HF := Lib.hid hf
  have MAY := Lib.hid (fun (W : World) (hW : Below U.heap.size U W) (r : Bool) (fm fd : Value) (z : Int) => may_dead ((h.grow hB).grow hW) hf r fm fd z)
  have k0 : U.cell? ⟨w.heap.size, 0, none⟩ = some (.pointer p) := b0.cell 0
  have k1 : U.cell? ⟨w.heap.size + 1, 0, none⟩ = some (.int .i64 x) := b1.cell 0
  have k2 : U.cell? ⟨w.heap.size + 1 + 1, 0, none⟩ = some (.int .i64 y) := b2.cell 0
  have l0 := b0.lt
  have l1 := b1.lt
  clear h hf hU hB b0 b1 b2
  go_enter Try.func32, Try.ntmps32
  go_wp2_with fail
  rw [← HU.out]
  refine (MAY.out U (Below.refl _ _) _ _ _ _).mono ?_
  rintro e w5 ⟨rfl, hw5⟩
  rw [hw5]
  clear hw5
  go_wp2_with fail
  go_ret
  exact ⟨rfl, HB.out⟩

set_option maxRecDepth 100000 in
set_option maxHeartbeats 2000000 in
theorem take_dead {v : Value} {f : Fm} {w : World} (h : AtP w v f) (hf : f.there = false) {y : Int} :
    Calls Try.prog 48 #[v, .int .i64 y] w fun e w' => e = .returned (.int .i64 1) ∧ Below w.heap.size w w' := by
  obtain ⟨p, rfl⟩ := h.ptr
  obtain ⟨U, hU⟩ : ∃ U, U = (w.alloc (.cells #[.pointer p] 23)).alloc (.cells #[.int .i64 y] 2) := ⟨_, rfl⟩
  have hB : Below w.heap.size w U := by rw [hU]; exact ((Below.refl _ _).alloc (Nat.le_refl _) _).alloc (by simp) _
  have b0 : Blk U w.heap.size 23 #[.pointer p] := by rw [hU]; exact (Blk.new w _ _).alloc _
  have b1 : Blk U (w.heap.size + 1) 2 #[.int .i64 y] := by rw [hU]; exact Blk.new' _ _ (by simp)
  have HB := Lib.hid hB
  have HU := Lib.hid hU
  have HV := Lib.hid (h.grow hB)
  have HF := Lib.hid hf
  have MAY := Lib.hid (fun (W : World) (hW : Below U.heap.size U W) (r : Bool) (fm fd : Value) (z : Int) => may_dead ((h.grow hB).grow hW) hf r fm fd z)
  have k0 : U.cell? ⟨w.heap.size, 0, none⟩ = some (.pointer p) := b0.cell 0
  have k1 : U.cell? ⟨w.heap.size + 1, 0, none⟩ = some (.int .i64 y) := b1.cell 0
  have l0 := b0.lt
  have l1 := b1.lt
  clear h hf hU hB b0 b1
  go_enter Try.func48, Try.ntmps48
  go_wp2_with fail
  rw [← HU.out]
  refine (MAY.out U (Below.refl _ _) _ _ _ _).mono ?_
  rintro e w5 ⟨rfl, hw5⟩
  rw [hw5]
  clear hw5
  go_wp2_with fail
  go_ret
  exact ⟨rfl, HB.out⟩

set_option maxRecDepth 100000 in
set_option maxHeartbeats 2000000 in
theorem release_dead {v : Value} {f : Fm} {w : World} (h : AtP w v f) (hf : f.there = false) {x : Int} (hx : -9223372036854775808 ≤ x ∧ x ≤ 9223372036854775807) :
    Calls Try.prog 33 #[v, .int .i64 x] w fun e w' => e = .returned (.tuple #[.int .i64 0, .int .i64 1]) ∧ Below w.heap.size w w' := by
  obtain ⟨p, rfl⟩ := h.ptr
  obtain ⟨U, hU⟩ : ∃ U, U = (w.alloc (.cells #[.pointer p] 23)).alloc (.cells #[.int .i64 x] 3) := ⟨_, rfl⟩
  have hB : Below w.heap.size w U := by rw [hU]; exact ((Below.refl _ _).alloc (Nat.le_refl _) _).alloc (by simp) _
  have b0 : Blk U w.heap.size 23 #[.pointer p] := by rw [hU]; exact (Blk.new w _ _).alloc _
  have b1 : Blk U (w.heap.size + 1) 3 #[.int .i64 x] := by rw [hU]; exact Blk.new' _ _ (by simp)
  have HB := Lib.hid hB
  have HU := Lib.hid hU
  have HV := Lib.hid (h.grow hB)
  have HF := Lib.hid hf
  have MAY := Lib.hid (fun (W : World) (hW : Below U.heap.size U W) (r : Bool) (fm fd : Value) (z : Int) => may_dead ((h.grow hB).grow hW) hf r fm fd z)
  have k0 : U.cell? ⟨w.heap.size, 0, none⟩ = some (.pointer p) := b0.cell 0
  have k1 : U.cell? ⟨w.heap.size + 1, 0, none⟩ = some (.int .i64 x) := b1.cell 0
  have l0 := b0.lt
  have l1 := b1.lt
  clear h hf hU hB b0 b1
  go_enter Try.func33, Try.ntmps33
  go_wp2_with fail
  rw [← HU.out]
  refine (at_any HV.out hx).mono ?_
  rintro e w4 ⟨rfl, hw4⟩
  rw [hw4, dead_M HF.out]
  clear hw4 HU
  rw [show atM [] x = 0 from rfl]
  go_wp2_with fail
  refine (MAY.out U (Below.refl _ _) _ _ _ _).mono ?_
  rintro e w5 ⟨rfl, hw5⟩
  rw [hw5]
  clear hw5
  go_wp2_with fail
  exact bodyPost_ret (v := .tuple #[.int .i64 0, .int .i64 1]) (by simp [results, Try.results33, go_sem]) rfl ⟨rfl, HB.out⟩

set_option maxRecDepth 100000 in
set_option maxHeartbeats 2000000 in
theorem bring_dead {v : Value} {f : Fm} {w : World} (h : AtP w v f) (hf : f.there = false) {y : Int} :
    Calls Try.prog 43 #[v, .int .i64 y] w fun e w' => e = .returned (.int .i64 1) ∧ Below w.heap.size w w' := by
  obtain ⟨p, rfl⟩ := h.ptr
  obtain ⟨U, hU⟩ : ∃ U, U = (w.alloc (.cells #[.pointer p] 23)).alloc (.cells #[.int .i64 y] 2) := ⟨_, rfl⟩
  have hB : Below w.heap.size w U := by rw [hU]; exact ((Below.refl _ _).alloc (Nat.le_refl _) _).alloc (by simp) _
  have b0 : Blk U w.heap.size 23 #[.pointer p] := by rw [hU]; exact (Blk.new w _ _).alloc _
  have b1 : Blk U (w.heap.size + 1) 2 #[.int .i64 y] := by rw [hU]; exact Blk.new' _ _ (by simp)
  have HB := Lib.hid hB
  have HU := Lib.hid hU
  have HV := Lib.hid (h.grow hB)
  have HF := Lib.hid hf
  have MAY := Lib.hid (fun (W : World) (hW : Below U.heap.size U W) (r : Bool) (fm fd : Value) (z : Int) => may_dead ((h.grow hB).grow hW) hf r fm fd z)
  have k0 : U.cell? ⟨w.heap.size, 0, none⟩ = some (.pointer p) := b0.cell 0
  have k1 : U.cell? ⟨w.heap.size + 1, 0, none⟩ = some (.int .i64 y) := b1.cell 0
  have l0 := b0.lt
  have l1 := b1.lt
  clear h hf hU hB b0 b1
  go_enter Try.func43, Try.ntmps43
  go_wp2_with fail
  rw [← HU.out]
  refine wp_region_F (Below U.heap.size U) [] (by kernel_rfl) ((Below.refl _ _).drew) (fun hS => ?_)
  refine wpAnyF_take (i := 0) (oi := { dst := some 5, op := Go.Op.load 23 (Go.Operand.tmp 2), type := 23, pos := "account.go:76", after := #[], guard := none }) (v := ?_) rfl (by kernel_rfl) (by kernel_rfl) (by kernel_rfl) (by kernel_rfl) (fun _ _ _ h => h) (Or.inl ⟨by rfl, ?_⟩) hS ?_
  rotate_left
  · intro w' hSw; have q0 := (hSw.cell (p := ⟨w.heap.size, 0, none⟩) l0).trans k0; have q1 := (hSw.cell (p := ⟨w.heap.size + 1, 0, none⟩) l1).trans k1; go_simp; try with_reducible rfl
  try simp only [Act.put, List.setIfInBounds_toArray, List.set_cons_zero, List.set_cons_succ]
  refine wpAnyF_take (i := 1) (oi := { dst := some 6, op := Go.Op.load 23 (Go.Operand.tmp 2), type := 23, pos := "account.go:76", after := #[], guard := none }) (v := ?_) rfl (by kernel_rfl) (by kernel_rfl) (by kernel_rfl) (by kernel_rfl) (fun _ _ _ h => h) (Or.inl ⟨by rfl, ?_⟩) hS ?_
  rotate_left
  · intro w' hSw; have q0 := (hSw.cell (p := ⟨w.heap.size, 0, none⟩) l0).trans k0; have q1 := (hSw.cell (p := ⟨w.heap.size + 1, 0, none⟩) l1).trans k1; go_simp; try with_reducible rfl
  try simp only [Act.put, List.setIfInBounds_toArray, List.set_cons_zero, List.set_cons_succ]
  refine wpAnyF_take (i := 16) (oi := { dst := some 21, op := Go.Op.makeFunc (Go.Fn.func 64) #[] #[Go.Operand.tmp 3], type := 54, pos := "account.go:76", after := #[], guard := none }) (v := ?_) rfl (by kernel_rfl) (by kernel_rfl) (by kernel_rfl) (by kernel_rfl) (fun _ _ _ h => h) (Or.inl ⟨by rfl, ?_⟩) hS ?_
  rotate_left
  · intro w' hSw; have q0 := (hSw.cell (p := ⟨w.heap.size, 0, none⟩) l0).trans k0; have q1 := (hSw.cell (p := ⟨w.heap.size + 1, 0, none⟩) l1).trans k1; go_simp; try with_reducible rfl
  try simp only [Act.put, List.setIfInBounds_toArray, List.set_cons_zero, List.set_cons_succ]
  refine wpAnyF_take (i := 17) (oi := { dst := some 22, op := Go.Op.load 2 (Go.Operand.tmp 3), type := 2, pos := "account.go:76", after := #[], guard := none }) (v := ?_) rfl (by kernel_rfl) (by kernel_rfl) (by kernel_rfl) (by kernel_rfl) (fun _ _ _ h => h) (Or.inl ⟨by rfl, ?_⟩) hS ?_
  rotate_left
  · intro w' hSw; have q0 := (hSw.cell (p := ⟨w.heap.size, 0, none⟩) l0).trans k0; have q1 := (hSw.cell (p := ⟨w.heap.size + 1, 0, none⟩) l1).trans k1; go_simp; try with_reducible rfl
  try simp only [Act.put, List.setIfInBounds_toArray, List.set_cons_zero, List.set_cons_succ]
  refine wpAnyF_take (i := 18) (oi := { dst := some 23, op := Go.Op.makeFunc (Go.Fn.func 65) #[] #[Go.Operand.tmp 2, Go.Operand.tmp 3], type := 1, pos := "account.go:76", after := #[], guard := none }) (v := ?_) rfl (by kernel_rfl) (by kernel_rfl) (by kernel_rfl) (by kernel_rfl) (fun _ _ _ h => h) (Or.inl ⟨by rfl, ?_⟩) hS ?_
  rotate_left
  · intro w' hSw; have q0 := (hSw.cell (p := ⟨w.heap.size, 0, none⟩) l0).trans k0; have q1 := (hSw.cell (p := ⟨w.heap.size + 1, 0, none⟩) l1).trans k1; go_simp; try with_reducible rfl
  try simp only [Act.put, List.setIfInBounds_toArray, List.set_cons_zero, List.set_cons_succ]
  refine wpAnyF_ready (rs := [2]) (by kernel_rfl) (by simp) ?_
  refine AllReadyF.cons (o := { dst := some 7, op := Go.Op.call { callee := Go.Callee.value (Go.Operand.func 38), args := #[Go.Operand.tmp 6], argTypes := #[23] }, type := 4, pos := "account.go:76", after := #[{ on := 1, ground := Go.Ground.data }], guard := none }) rfl (by rfl) (fun K hK => ?_) ?_
  · go_simp
    refine (there_any (HV.out.grow hS)).mono ?_
    rintro e w7 ⟨rfl, hw7⟩
    rw [hw7]
    clear hw7
    rw [HF.out]
    refine hK.out _ _ ?_ (fun hS => ?_)
    · exact hS
    clear hK K
    try simp only [Act.put, List.setIfInBounds_toArray, List.set_cons_zero, List.set_cons_succ]
    refine wpAnyF_take (i := 3) (oi := { dst := some 8, op := Go.Op.move (Go.Operand.tmp 7), type := 4, pos := "account.go:76", after := #[{ on := 2, ground := Go.Ground.data }, { on := 2, ground := Go.Ground.chain }], guard := none }) (v := ?_) rfl (by kernel_rfl) (by kernel_rfl) (by kernel_rfl) (by kernel_rfl) (fun _ _ _ h => h) (Or.inl ⟨by rfl, ?_⟩) hS ?_
    rotate_left
    · intro w' hSw; have q0 := (hSw.cell (p := ⟨w.heap.size, 0, none⟩) l0).trans k0; have q1 := (hSw.cell (p := ⟨w.heap.size + 1, 0, none⟩) l1).trans k1; go_simp; try with_reducible rfl
    try simp only [Act.put, List.setIfInBounds_toArray, List.set_cons_zero, List.set_cons_succ]
    refine wpAnyF_take (i := 4) (oi := { dst := some 9, op := Go.Op.load 2 (Go.Operand.tmp 3), type := 2, pos := "account.go:76", after := #[{ on := 3, ground := Go.Ground.guard }], guard := some (3, true) }) (v := undef) rfl (by kernel_rfl) (by kernel_rfl) (by kernel_rfl) (by kernel_rfl) (fun _ _ _ h => h) (Or.inr ⟨by rfl, rfl⟩) hS ?_
    try simp only [Act.put, List.setIfInBounds_toArray, List.set_cons_zero, List.set_cons_succ]
    refine wpAnyF_take (i := 5) (oi := { dst := some 10, op := Go.Op.call { callee := Go.Callee.value (Go.Operand.func 40), args := #[Go.Operand.tmp 9], argTypes := #[2] }, type := 4, pos := "account.go:76", after := #[{ on := 4, ground := Go.Ground.data }, { on := 3, ground := Go.Ground.chain }, { on := 3, ground := Go.Ground.guard }], guard := some (3, true) }) (v := undef) rfl (by kernel_rfl) (by kernel_rfl) (by kernel_rfl) (by kernel_rfl) (fun _ _ _ h => h) (Or.inr ⟨by rfl, rfl⟩) hS ?_
    try simp only [Act.put, List.setIfInBounds_toArray, List.set_cons_zero, List.set_cons_succ]
    refine wpAnyF_take (i := 6) (oi := { dst := some 11, op := Go.Op.pick (Go.Operand.tmp 8) (Go.Operand.tmp 10) (Go.Operand.const (Go.Value.bool false)), type := 4, pos := "account.go:76", after := #[{ on := 3, ground := Go.Ground.data }, { on := 5, ground := Go.Ground.data }], guard := none }) (v := ?_) rfl (by kernel_rfl) (by kernel_rfl) (by kernel_rfl) (by kernel_rfl) (fun _ _ _ h => h) (Or.inl ⟨by rfl, ?_⟩) hS ?_
    rotate_left
    · intro w' hSw; have q0 := (hSw.cell (p := ⟨w.heap.size, 0, none⟩) l0).trans k0; have q1 := (hSw.cell (p := ⟨w.heap.size + 1, 0, none⟩) l1).trans k1; go_simp; try with_reducible rfl
    try simp only [Act.put, List.setIfInBounds_toArray, List.set_cons_zero, List.set_cons_succ]
    refine wpAnyF_take (i := 7) (oi := { dst := some 12, op := Go.Op.move (Go.Operand.tmp 11), type := 4, pos := "account.go:76", after := #[{ on := 6, ground := Go.Ground.data }, { on := 5, ground := Go.Ground.chain }], guard := none }) (v := ?_) rfl (by kernel_rfl) (by kernel_rfl) (by kernel_rfl) (by kernel_rfl) (fun _ _ _ h => h) (Or.inl ⟨by rfl, ?_⟩) hS ?_
    rotate_left
    · intro w' hSw; have q0 := (hSw.cell (p := ⟨w.heap.size, 0, none⟩) l0).trans k0; have q1 := (hSw.cell (p := ⟨w.heap.size + 1, 0, none⟩) l1).trans k1; go_simp; try with_reducible rfl
    try simp only [Act.put, List.setIfInBounds_toArray, List.set_cons_zero, List.set_cons_succ]
    refine wpAnyF_take (i := 8) (oi := { dst := some 13, op := Go.Op.load 23 (Go.Operand.tmp 2), type := 23, pos := "account.go:76", after := #[{ on := 7, ground := Go.Ground.guard }], guard := some (7, true) }) (v := undef) rfl (by kernel_rfl) (by kernel_rfl) (by kernel_rfl) (by kernel_rfl) (fun _ _ _ h => h) (Or.inr ⟨by rfl, rfl⟩) hS ?_
    try simp only [Act.put, List.setIfInBounds_toArray, List.set_cons_zero, List.set_cons_succ]
    refine wpAnyF_take (i := 9) (oi := { dst := some 14, op := Go.Op.nilCheck (Go.Operand.tmp 13), type := 0, pos := "account.go:76", after := #[{ on := 8, ground := Go.Ground.data }, { on := 7, ground := Go.Ground.guard }], guard := some (7, true) }) (v := undef) rfl (by kernel_rfl) (by kernel_rfl) (by kernel_rfl) (by kernel_rfl) (fun _ _ _ h => h) (Or.inr ⟨by rfl, rfl⟩) hS ?_
    try simp only [Act.put, List.setIfInBounds_toArray, List.set_cons_zero, List.set_cons_succ]
    refine wpAnyF_take (i := 10) (oi := { dst := some 15, op := Go.Op.fieldAddr 67 (Go.Operand.tmp 14) 0, type := 0, pos := "account.go:76", after := #[{ on := 9, ground := Go.Ground.data }, { on := 7, ground := Go.Ground.guard }], guard := some (7, true) }) (v := undef) rfl (by kernel_rfl) (by kernel_rfl) (by kernel_rfl) (by kernel_rfl) (fun _ _ _ h => h) (Or.inr ⟨by rfl, rfl⟩) hS ?_
    try simp only [Act.put, List.setIfInBounds_toArray, List.set_cons_zero, List.set_cons_succ]
    refine wpAnyF_take (i := 11) (oi := { dst := some 16, op := Go.Op.load 2 (Go.Operand.tmp 15), type := 2, pos := "account.go:76", after := #[{ on := 10, ground := Go.Ground.data }, { on := 7, ground := Go.Ground.guard }], guard := some (7, true) }) (v := undef) rfl (by kernel_rfl) (by kernel_rfl) (by kernel_rfl) (by kernel_rfl) (fun _ _ _ h => h) (Or.inr ⟨by rfl, rfl⟩) hS ?_
    try simp only [Act.put, List.setIfInBounds_toArray, List.set_cons_zero, List.set_cons_succ]
    refine wpAnyF_take (i := 12) (oi := { dst := some 17, op := Go.Op.load 2 (Go.Operand.tmp 3), type := 2, pos := "account.go:76", after := #[{ on := 7, ground := Go.Ground.guard }], guard := some (7, true) }) (v := undef) rfl (by kernel_rfl) (by kernel_rfl) (by kernel_rfl) (by kernel_rfl) (fun _ _ _ h => h) (Or.inr ⟨by rfl, rfl⟩) hS ?_
    try simp only [Act.put, List.setIfInBounds_toArray, List.set_cons_zero, List.set_cons_succ]
    refine wpAnyF_take (i := 13) (oi := { dst := some 18, op := Go.Op.binOp Go.BinOp.add 2 (Go.Operand.tmp 16) (Go.Operand.tmp 17) 2, type := 2, pos := "account.go:76", after := #[{ on := 11, ground := Go.Ground.data }, { on := 12, ground := Go.Ground.data }, { on := 7, ground := Go.Ground.guard }], guard := some (7, true) }) (v := undef) rfl (by kernel_rfl) (by kernel_rfl) (by kernel_rfl) (by kernel_rfl) (fun _ _ _ h => h) (Or.inr ⟨by rfl, rfl⟩) hS ?_
    try simp only [Act.put, List.setIfInBounds_toArray, List.set_cons_zero, List.set_cons_succ]
    refine wpAnyF_take (i := 14) (oi := { dst := some 19, op := Go.Op.call { callee := Go.Callee.value (Go.Operand.func 40), args := #[Go.Operand.tmp 18], argTypes := #[2] }, type := 4, pos := "account.go:76", after := #[{ on := 13, ground := Go.Ground.data }, { on := 7, ground := Go.Ground.chain }, { on := 7, ground := Go.Ground.guard }], guard := some (7, true) }) (v := undef) rfl (by kernel_rfl) (by kernel_rfl) (by kernel_rfl) (by kernel_rfl) (fun _ _ _ h => h) (Or.inr ⟨by rfl, rfl⟩) hS ?_
    try simp only [Act.put, List.setIfInBounds_toArray, List.set_cons_zero, List.set_cons_succ]
    refine wpAnyF_take (i := 15) (oi := { dst := some 20, op := Go.Op.pick (Go.Operand.tmp 12) (Go.Operand.tmp 19) (Go.Operand.const (Go.Value.bool false)), type := 4, pos := "account.go:76", after := #[{ on := 7, ground := Go.Ground.data }, { on := 14, ground := Go.Ground.data }], guard := none }) (v := ?_) rfl (by kernel_rfl) (by kernel_rfl) (by kernel_rfl) (by kernel_rfl) (fun _ _ _ h => h) (Or.inl ⟨by rfl, ?_⟩) hS ?_
    rotate_left
    · intro w' hSw; have q0 := (hSw.cell (p := ⟨w.heap.size, 0, none⟩) l0).trans k0; have q1 := (hSw.cell (p := ⟨w.heap.size + 1, 0, none⟩) l1).trans k1; go_simp; try with_reducible rfl
    try simp only [Act.put, List.setIfInBounds_toArray, List.set_cons_zero, List.set_cons_succ]
    refine wpAnyF_ready (rs := [19]) (by kernel_rfl) (by simp) ?_
    refine AllReadyF.cons (o := { dst := some 24, op := Go.Op.call { callee := Go.Callee.value (Go.Operand.func 34), args := #[Go.Operand.tmp 5, Go.Operand.tmp 20, Go.Operand.tmp 21, Go.Operand.tmp 22, Go.Operand.tmp 23], argTypes := #[23, 4, 54, 2, 1] }, type := 24, pos := "account.go:76", after := #[{ on := 0, ground := Go.Ground.data }, { on := 15, ground := Go.Ground.data }, { on := 16, ground := Go.Ground.data }, { on := 17, ground := Go.Ground.data }, { on := 18, ground := Go.Ground.data }, { on := 14, ground := Go.Ground.chain }], guard := none }) rfl (by rfl) (fun K hK => ?_) ?_
    · go_simp
      refine (MAY.out _ hS _ _ _ _).mono ?_
      rintro e w7 ⟨rfl, hw7⟩
      rw [hw7]
      clear hw7
      refine hK.out _ _ ?_ (fun hS => ?_)
      · exact hS
      clear hK K
      try simp only [Act.put, List.setIfInBounds_toArray, List.set_cons_zero, List.set_cons_succ]
      refine wpAnyF_take (i := 20) (oi := { dst := some 4, op := Go.Op.assign (Go.Operand.tmp 24), type := 24, pos := "account.go:76", after := #[{ on := 19, ground := Go.Ground.data }, { on := 19, ground := Go.Ground.chain }, { on := 0, ground := Go.Ground.phase }, { on := 1, ground := Go.Ground.phase }, { on := 2, ground := Go.Ground.phase }, { on := 3, ground := Go.Ground.phase }, { on := 4, ground := Go.Ground.phase }, { on := 5, ground := Go.Ground.phase }, { on := 6, ground := Go.Ground.phase }, { on := 7, ground := Go.Ground.phase }, { on := 8, ground := Go.Ground.phase }, { on := 9, ground := Go.Ground.phase }, { on := 10, ground := Go.Ground.phase }, { on := 11, ground := Go.Ground.phase }, { on := 12, ground := Go.Ground.phase }, { on := 13, ground := Go.Ground.phase }, { on := 14, ground := Go.Ground.phase }, { on := 15, ground := Go.Ground.phase }, { on := 16, ground := Go.Ground.phase }, { on := 17, ground := Go.Ground.phase }, { on := 18, ground := Go.Ground.phase }, { on := 19, ground := Go.Ground.phase }], guard := none }) (v := ?_) rfl (by kernel_rfl) (by kernel_rfl) (by kernel_rfl) (by kernel_rfl) (fun _ _ _ h => h) (Or.inl ⟨by rfl, ?_⟩) hS ?_
      rotate_left
      · intro w' hSw; have q0 := (hSw.cell (p := ⟨w.heap.size, 0, none⟩) l0).trans k0; have q1 := (hSw.cell (p := ⟨w.heap.size + 1, 0, none⟩) l1).trans k1; go_simp; try with_reducible rfl
      try simp only [Act.put, List.setIfInBounds_toArray, List.set_cons_zero, List.set_cons_succ]
      refine wpAnyF_done (by kernel_rfl) ?_ _
      go_wp2_with fail
      go_ret
      exact ⟨rfl, HB.out.trans (hS.mono HB.out.size)⟩
    exact AllReadyF.nil
  exact AllReadyF.nil
end Go.Proofs.Ytibhmgeckghoeaa.Ac

/- Account: Pay, Take. -/
import Derived.Test.YtibhmgeckghoeaaAccJ
namespace Go.Proofs.Ytibhmgeckghoeaa.Ac
open Go.RowKit Go.Shelf Go.Maps
open Go.Proofs.Ytibhmgeckghoeaa.Vb
attribute [local go_sem] Oper.semAt_some

theorem blk_ne_map {H : Type} {W : World} {g m n : Nat} {t : TypeId} {cs : Array Value} {P : Program} {k : TypeId} {R : Value → Option (DataW H × List MemPlace)} {D : DataW H} (h : Blk W g t cs) (ho : W.ownsMap P k R m n D) : g ≠ m := by
  rintro rfl
  obtain ⟨es, clock, h1, _⟩ := ho
  unfold Blk at h
  rw [h1] at h
  cases h
theorem AccAt.setSp {W : World} {b m n : Nat} {a : Acc} (h : AccAt W b m n a) (s : Int) : AccAt (W.setCell ⟨b, 1, none⟩ (.int .i64 s)) b m n { a with sp := s } :=
  ⟨h.blk.set_ 1 (.int .i64 s), Chg.ownsMap h.own (Chg.set W ⟨b, 1, none⟩ (.int .i64 s)) (fun e => h.ne e.symm)⟩
theorem AccAt.setBud {W : World} {b m n : Nat} {a : Acc} (h : AccAt W b m n a) (s : Int) : AccAt (W.setCell ⟨b, 0, none⟩ (.int .i64 s)) b m n { a with bud := s } :=
  ⟨h.blk.set_ 0 (.int .i64 s), Chg.ownsMap h.own (Chg.set W ⟨b, 0, none⟩ (.int .i64 s)) (fun e => h.ne e.symm)⟩
def Acc.pay (a : Acc) (x v : Int) : Acc := { a.set x 0 with sp := a.sp + v }
def Acc.take (a : Acc) (v : Int) : Acc := { a with sp := a.sp + v }
def Acc.bring (a : Acc) (v : Int) : Acc := { a with bud := a.bud + v }
theorem add_wrap {x y : Int} (hx : coin x) (hy : coin y) : IntKind.i64.wrap (x + y) = x + y := by
  obtain ⟨h1, h2⟩ := hx
  obtain ⟨h3, h4⟩ := hy
  exact IntWalk.i64_in _ (by omega)

set_option maxRecDepth 100000 in
set_option maxHeartbeats 2000000 in
theorem pay2_any {b m n g0 g1 g2 : Nat} {a : Acc} {w : World} (h : AccAt w b m n a) (ho : coin a.sp) (hn : n < maxLen) {x v : Int} (hx : -9223372036854775808 ≤ x ∧ x ≤ 9223372036854775807) (hv : coin v) (h0 : Blk w g0 23 #[.pointer (some ⟨b, 0, none⟩)]) (h1 : Blk w g1 3 #[.int .i64 x]) (h2 : Blk w g2 2 #[.int .i64 v]) :
    Calls Try.prog 60 #[.pointer (some ⟨g0, 0, none⟩), .pointer (some ⟨g1, 0, none⟩), .pointer (some ⟨g2, 0, none⟩)] w fun e w' => e = .returned (.tuple #[]) ∧ AccAt w' b m (n + 1) (a.pay x v) ∧ Chg (fun k => k = m ∨ k = b) w w' := by
  have k0 : w.cell? ⟨g0, 0, none⟩ = some (.pointer (some ⟨b, 0, none⟩)) := h0.cell 0
  have k1 : w.cell? ⟨g1, 0, none⟩ = some (.int .i64 x) := h1.cell 0
  have hw := add_wrap ho hv
  have n0 := blk_ne_map h0 h.own
  have n2 := blk_ne_map h2 h.own
  obtain ⟨q, hq⟩ : ∃ z, z = a.sp := ⟨_, rfl⟩
  rw [← hq] at hw
  have HQ := Lib.hid hq
  have HA := Lib.hid h
  have HX := Lib.hid hx
  have HN := Lib.hid hn
  have H0 := Lib.hid h0
  have H2 := Lib.hid h2
  have HN0 := Lib.hid n0
  have HN2 := Lib.hid n2
  clear h hx hv hn h0 h1 h2 ho hq n0 n2
  go_enter Try.func60, Try.ntmps60
  go_wp2_with fail
  refine (set_any HA.out HN.out HX.out (v := 0) (by omega)).mono ?_
  rintro e w1 ⟨rfl, h1, h2⟩
  have k3 : w1.cell? ⟨g0, 0, none⟩ = some (.pointer (some ⟨b, 0, none⟩)) := (H0.out.chg h2 HN0.out).cell 0
  have k4 : w1.cell? ⟨g2, 0, none⟩ = some (.int .i64 v) := (H2.out.chg h2 HN2.out).cell 0
  have k5 : w1.cell? ⟨b, 1, none⟩ = some (.int .i64 q) := by rw [HQ.out]; exact h1.blk.cell 1
  have k6 : w1.drew.frozen? ⟨b, 1, none⟩ = false := h1.blk.frozen 1
  have k7 : w1.drew.cell? ⟨b, 1, none⟩ = some (.int .i64 q) := k5
  have l3 := (H0.out.chg h2 HN0.out).lt
  have l4 := (H2.out.chg h2 HN2.out).lt
  have l5 := h1.blk.lt
  have hs := h1.setSp (q + v)
  have hcs : Chg (fun k => k = m ∨ k = b) w (w1.setCell ⟨b, 1, none⟩ (.int .i64 (q + v))).drew := ((h2.mono (Y := fun k => k = m ∨ k = b) fun k _ h => .inl h).step (Chg.set w1 ⟨b, 1, none⟩ (.int .i64 (q + v))) fun k _ h => .inr h).grow (Below.refl _ _).drew
  have HS := Lib.hid hs
  have HCS := Lib.hid hcs
  clear h1 h2 k0 k1 hs hcs
  go_wp2_with fail
  refine wp_region_F (Below w1.heap.size w1) [8] (by kernel_rfl) ((Below.refl _ _).drew) (fun hS => ?_)
  refine wpAnyF_take (i := 0) (oi := { dst := some 6, op := Go.Op.load 23 (Go.Operand.tmp 0), type := 23, pos := "account.go:100", after := #[], guard := none }) (v := ?_) rfl (by kernel_rfl) (by kernel_rfl) (by kernel_rfl) (by kernel_rfl) (fun _ _ _ h => h) (Or.inl ⟨by rfl, ?_⟩) hS ?_
  rotate_left
  · intro w' hSw; have q0 := (hSw.cell (p := ⟨g0, 0, none⟩) l3).trans k3; have q1 := (hSw.cell (p := ⟨g2, 0, none⟩) l4).trans k4; have q2 := (hSw.cell (p := ⟨b, 1, none⟩) l5).trans k5; go_simp; try with_reducible rfl
  try simp only [Act.put, List.setIfInBounds_toArray, List.set_cons_zero, List.set_cons_succ]
  refine wpAnyF_take (i := 1) (oi := { dst := some 7, op := Go.Op.nilCheck (Go.Operand.tmp 6), type := 0, pos := "account.go:100", after := #[{ on := 0, ground := Go.Ground.data }], guard := none }) (v := ?_) rfl (by kernel_rfl) (by kernel_rfl) (by kernel_rfl) (by kernel_rfl) (fun _ _ _ h => h) (Or.inl ⟨by rfl, ?_⟩) hS ?_
  rotate_left
  · intro w' hSw; have q0 := (hSw.cell (p := ⟨g0, 0, none⟩) l3).trans k3; have q1 := (hSw.cell (p := ⟨g2, 0, none⟩) l4).trans k4; have q2 := (hSw.cell (p := ⟨b, 1, none⟩) l5).trans k5; go_simp; try with_reducible rfl
  try simp only [Act.put, List.setIfInBounds_toArray, List.set_cons_zero, List.set_cons_succ]
  refine wpAnyF_take (i := 2) (oi := { dst := some 8, op := Go.Op.fieldAddr 67 (Go.Operand.tmp 7) 1, type := 0, pos := "account.go:100", after := #[{ on := 1, ground := Go.Ground.data }], guard := none }) (v := ?_) rfl (by kernel_rfl) (by kernel_rfl) (by kernel_rfl) (by kernel_rfl) (fun _ _ _ h => h) (Or.inl ⟨by rfl, ?_⟩) hS ?_
  rotate_left
  · intro w' hSw; have q0 := (hSw.cell (p := ⟨g0, 0, none⟩) l3).trans k3; have q1 := (hSw.cell (p := ⟨g2, 0, none⟩) l4).trans k4; have q2 := (hSw.cell (p := ⟨b, 1, none⟩) l5).trans k5; go_simp; try with_reducible rfl
  try simp only [Act.put, List.setIfInBounds_toArray, List.set_cons_zero, List.set_cons_succ]
  refine wpAnyF_take (i := 3) (oi := { dst := some 9, op := Go.Op.load 2 (Go.Operand.tmp 8), type := 2, pos := "account.go:100", after := #[{ on := 2, ground := Go.Ground.data }], guard := none }) (v := ?_) rfl (by kernel_rfl) (by kernel_rfl) (by kernel_rfl) (by kernel_rfl) (fun _ _ _ h => h) (Or.inl ⟨by rfl, ?_⟩) hS ?_
  rotate_left
  · intro w' hSw; have q0 := (hSw.cell (p := ⟨g0, 0, none⟩) l3).trans k3; have q1 := (hSw.cell (p := ⟨g2, 0, none⟩) l4).trans k4; have q2 := (hSw.cell (p := ⟨b, 1, none⟩) l5).trans k5; go_simp; try with_reducible rfl
  try simp only [Act.put, List.setIfInBounds_toArray, List.set_cons_zero, List.set_cons_succ]
  refine wpAnyF_take (i := 4) (oi := { dst := some 10, op := Go.Op.load 2 (Go.Operand.tmp 2), type := 2, pos := "account.go:100", after := #[], guard := none }) (v := ?_) rfl (by kernel_rfl) (by kernel_rfl) (by kernel_rfl) (by kernel_rfl) (fun _ _ _ h => h) (Or.inl ⟨by rfl, ?_⟩) hS ?_
  rotate_left
  · intro w' hSw; have q0 := (hSw.cell (p := ⟨g0, 0, none⟩) l3).trans k3; have q1 := (hSw.cell (p := ⟨g2, 0, none⟩) l4).trans k4; have q2 := (hSw.cell (p := ⟨b, 1, none⟩) l5).trans k5; go_simp; try with_reducible rfl
  try simp only [Act.put, List.setIfInBounds_toArray, List.set_cons_zero, List.set_cons_succ]
  refine wpAnyF_take (i := 5) (oi := { dst := some 11, op := Go.Op.binOp Go.BinOp.add 2 (Go.Operand.tmp 9) (Go.Operand.tmp 10) 2, type := 2, pos := "account.go:100", after := #[{ on := 3, ground := Go.Ground.data }, { on := 4, ground := Go.Ground.data }], guard := none }) (v := ?_) rfl (by kernel_rfl) (by kernel_rfl) (by kernel_rfl) (by kernel_rfl) (fun _ _ _ h => h) (Or.inl ⟨by rfl, ?_⟩) hS ?_
  rotate_left
  · intro w' hSw; have q0 := (hSw.cell (p := ⟨g0, 0, none⟩) l3).trans k3; have q1 := (hSw.cell (p := ⟨g2, 0, none⟩) l4).trans k4; have q2 := (hSw.cell (p := ⟨b, 1, none⟩) l5).trans k5; go_simp; try with_reducible rfl
  try simp only [Act.put, List.setIfInBounds_toArray, List.set_cons_zero, List.set_cons_succ]
  refine wpAnyF_ready (rs := [6]) (by kernel_rfl) (by simp) ?_
  refine AllReadyF.cons (o := { dst := some 12, op := Go.Op.nilCheck (Go.Operand.tmp 6), type := 0, pos := "account.go:100", after := #[{ on := 0, ground := Go.Ground.data }, { on := 0, ground := Go.Ground.phase }, { on := 1, ground := Go.Ground.phase }, { on := 2, ground := Go.Ground.phase }, { on := 3, ground := Go.Ground.phase }, { on := 4, ground := Go.Ground.phase }, { on := 5, ground := Go.Ground.phase }], guard := none }) rfl (by rfl) (fun K hK => ?_) ?_
  · go_simp
    refine hK.out _ _ ?_ (fun hS => ?_)
    · exact hS
    clear hK K
    try simp only [Act.put, List.setIfInBounds_toArray, List.set_cons_zero, List.set_cons_succ]
    refine wpAnyF_take (i := 7) (oi := { dst := some 13, op := Go.Op.fieldAddr 67 (Go.Operand.tmp 12) 1, type := 0, pos := "account.go:100", after := #[{ on := 6, ground := Go.Ground.data }, { on := 0, ground := Go.Ground.phase }, { on := 1, ground := Go.Ground.phase }, { on := 2, ground := Go.Ground.phase }, { on := 3, ground := Go.Ground.phase }, { on := 4, ground := Go.Ground.phase }, { on := 5, ground := Go.Ground.phase }], guard := none }) (v := ?_) rfl (by kernel_rfl) (by kernel_rfl) (by kernel_rfl) (by kernel_rfl) (fun _ _ _ h => h) (Or.inl ⟨by rfl, ?_⟩) hS ?_
    rotate_left
    · intro w' hSw; have q0 := (hSw.cell (p := ⟨g0, 0, none⟩) l3).trans k3; have q1 := (hSw.cell (p := ⟨g2, 0, none⟩) l4).trans k4; have q2 := (hSw.cell (p := ⟨b, 1, none⟩) l5).trans k5; go_simp; try with_reducible rfl
    try simp only [Act.put, List.setIfInBounds_toArray, List.set_cons_zero, List.set_cons_succ]
    refine wpAnyF_ready (rs := [8]) (by kernel_rfl) (by simp) ?_
    refine AllReadyF.fin (o := { dst := none, op := Go.Op.store 2 (Go.Operand.tmp 13) (Go.Operand.tmp 11), type := 0, pos := "account.go:100", after := #[{ on := 7, ground := Go.Ground.data }, { on := 5, ground := Go.Ground.data }, { on := 0, ground := Go.Ground.phase }, { on := 1, ground := Go.Ground.phase }, { on := 2, ground := Go.Ground.phase }, { on := 3, ground := Go.Ground.phase }, { on := 4, ground := Go.Ground.phase }, { on := 5, ground := Go.Ground.phase }], guard := none }) rfl (by rfl) (fun K hK => ?_) ?_
    · go_simp
      refine hK.out _ _ ?_
      clear hK K
      try simp only [Act.put, List.setIfInBounds_toArray, List.set_cons_zero, List.set_cons_succ]
      refine wpAnyF_done (by kernel_rfl) ?_ _
      go_wp2_with fail
      go_end0
      exact ⟨rfl, by unfold Acc.pay; rw [← HQ.out]; exact HS.out.grow (Below.refl _ _).drew, HCS.out⟩
    exact AllReadyF.nil
  exact AllReadyF.nil

set_option maxRecDepth 100000 in
set_option maxHeartbeats 2000000 in
theorem take1_any {b m n g0 g1 : Nat} {a : Acc} {w : World} (h : AccAt w b m n a) (ho : coin a.sp) {v : Int} (hv : coin v) (h0 : Blk w g0 23 #[.pointer (some ⟨b, 0, none⟩)]) (h1 : Blk w g1 2 #[.int .i64 v]) :
    Calls Try.prog 67 #[.pointer (some ⟨g0, 0, none⟩), .pointer (some ⟨g1, 0, none⟩)] w fun e w' => e = .returned (.tuple #[]) ∧ AccAt w' b m n (a.take v) ∧ Chg (· = b) w w' := by
  have k3 : w.cell? ⟨g0, 0, none⟩ = some (.pointer (some ⟨b, 0, none⟩)) := h0.cell 0
  have k4 : w.cell? ⟨g1, 0, none⟩ = some (.int .i64 v) := h1.cell 0
  have hw := add_wrap ho hv
  obtain ⟨q, hq⟩ : ∃ z, z = a.sp := ⟨_, rfl⟩
  rw [← hq] at hw
  have HQ := Lib.hid hq
  have k5 : w.cell? ⟨b, 1, none⟩ = some (.int .i64 q) := by rw [hq]; exact h.blk.cell 1
  have k6 : w.drew.frozen? ⟨b, 1, none⟩ = false := h.blk.frozen 1
  have k7 : w.drew.cell? ⟨b, 1, none⟩ = some (.int .i64 q) := k5
  have l3 := h0.lt
  have l4 := h1.lt
  have l5 := h.blk.lt
  have HS := Lib.hid (h.setSp (q + v))
  have HCS := Lib.hid (show Chg (· = b) w (w.setCell ⟨b, 1, none⟩ (.int .i64 (q + v))).drew from (Chg.set w ⟨b, 1, none⟩ (.int .i64 (q + v))).grow (Below.refl _ _).drew)
  clear h ho hv h0 h1 hq
  go_enter Try.func67, Try.ntmps67
  try go_wp2_with fail
  refine wp_region_F (Below w.heap.size w) [8] (by kernel_rfl) ((Below.refl _ _).drew) (fun hS => ?_)
  refine wpAnyF_take (i := 0) (oi := { dst := some 2, op := Go.Op.load 23 (Go.Operand.tmp 0), type := 23, pos := "account.go:106", after := #[], guard := none }) (v := ?_) rfl (by kernel_rfl) (by kernel_rfl) (by kernel_rfl) (by kernel_rfl) (fun _ _ _ h => h) (Or.inl ⟨by rfl, ?_⟩) hS ?_
  rotate_left
  · intro w' hSw; have q0 := (hSw.cell (p := ⟨g0, 0, none⟩) l3).trans k3; have q1 := (hSw.cell (p := ⟨g1, 0, none⟩) l4).trans k4; have q2 := (hSw.cell (p := ⟨b, 1, none⟩) l5).trans k5; go_simp; try with_reducible rfl
  try simp only [Act.put, List.setIfInBounds_toArray, List.set_cons_zero, List.set_cons_succ]
  refine wpAnyF_take (i := 1) (oi := { dst := some 3, op := Go.Op.nilCheck (Go.Operand.tmp 2), type := 0, pos := "account.go:106", after := #[{ on := 0, ground := Go.Ground.data }], guard := none }) (v := ?_) rfl (by kernel_rfl) (by kernel_rfl) (by kernel_rfl) (by kernel_rfl) (fun _ _ _ h => h) (Or.inl ⟨by rfl, ?_⟩) hS ?_
  rotate_left
  · intro w' hSw; have q0 := (hSw.cell (p := ⟨g0, 0, none⟩) l3).trans k3; have q1 := (hSw.cell (p := ⟨g1, 0, none⟩) l4).trans k4; have q2 := (hSw.cell (p := ⟨b, 1, none⟩) l5).trans k5; go_simp; try with_reducible rfl
  try simp only [Act.put, List.setIfInBounds_toArray, List.set_cons_zero, List.set_cons_succ]
  refine wpAnyF_take (i := 2) (oi := { dst := some 4, op := Go.Op.fieldAddr 67 (Go.Operand.tmp 3) 1, type := 0, pos := "account.go:106", after := #[{ on := 1, ground := Go.Ground.data }], guard := none }) (v := ?_) rfl (by kernel_rfl) (by kernel_rfl) (by kernel_rfl) (by kernel_rfl) (fun _ _ _ h => h) (Or.inl ⟨by rfl, ?_⟩) hS ?_
  rotate_left
  · intro w' hSw; have q0 := (hSw.cell (p := ⟨g0, 0, none⟩) l3).trans k3; have q1 := (hSw.cell (p := ⟨g1, 0, none⟩) l4).trans k4; have q2 := (hSw.cell (p := ⟨b, 1, none⟩) l5).trans k5; go_simp; try with_reducible rfl
  try simp only [Act.put, List.setIfInBounds_toArray, List.set_cons_zero, List.set_cons_succ]
  refine wpAnyF_take (i := 3) (oi := { dst := some 5, op := Go.Op.load 2 (Go.Operand.tmp 4), type := 2, pos := "account.go:106", after := #[{ on := 2, ground := Go.Ground.data }], guard := none }) (v := ?_) rfl (by kernel_rfl) (by kernel_rfl) (by kernel_rfl) (by kernel_rfl) (fun _ _ _ h => h) (Or.inl ⟨by rfl, ?_⟩) hS ?_
  rotate_left
  · intro w' hSw; have q0 := (hSw.cell (p := ⟨g0, 0, none⟩) l3).trans k3; have q1 := (hSw.cell (p := ⟨g1, 0, none⟩) l4).trans k4; have q2 := (hSw.cell (p := ⟨b, 1, none⟩) l5).trans k5; go_simp; try with_reducible rfl
  try simp only [Act.put, List.setIfInBounds_toArray, List.set_cons_zero, List.set_cons_succ]
  refine wpAnyF_take (i := 4) (oi := { dst := some 6, op := Go.Op.load 2 (Go.Operand.tmp 1), type := 2, pos := "account.go:106", after := #[], guard := none }) (v := ?_) rfl (by kernel_rfl) (by kernel_rfl) (by kernel_rfl) (by kernel_rfl) (fun _ _ _ h => h) (Or.inl ⟨by rfl, ?_⟩) hS ?_
  rotate_left
  · intro w' hSw; have q0 := (hSw.cell (p := ⟨g0, 0, none⟩) l3).trans k3; have q1 := (hSw.cell (p := ⟨g1, 0, none⟩) l4).trans k4; have q2 := (hSw.cell (p := ⟨b, 1, none⟩) l5).trans k5; go_simp; try with_reducible rfl
  try simp only [Act.put, List.setIfInBounds_toArray, List.set_cons_zero, List.set_cons_succ]
  refine wpAnyF_take (i := 5) (oi := { dst := some 7, op := Go.Op.binOp Go.BinOp.add 2 (Go.Operand.tmp 5) (Go.Operand.tmp 6) 2, type := 2, pos := "account.go:106", after := #[{ on := 3, ground := Go.Ground.data }, { on := 4, ground := Go.Ground.data }], guard := none }) (v := ?_) rfl (by kernel_rfl) (by kernel_rfl) (by kernel_rfl) (by kernel_rfl) (fun _ _ _ h => h) (Or.inl ⟨by rfl, ?_⟩) hS ?_
  rotate_left
  · intro w' hSw; have q0 := (hSw.cell (p := ⟨g0, 0, none⟩) l3).trans k3; have q1 := (hSw.cell (p := ⟨g1, 0, none⟩) l4).trans k4; have q2 := (hSw.cell (p := ⟨b, 1, none⟩) l5).trans k5; go_simp; try with_reducible rfl
  try simp only [Act.put, List.setIfInBounds_toArray, List.set_cons_zero, List.set_cons_succ]
  refine wpAnyF_ready (rs := [6]) (by kernel_rfl) (by simp) ?_
  refine AllReadyF.cons (o := { dst := some 8, op := Go.Op.nilCheck (Go.Operand.tmp 2), type := 0, pos := "account.go:106", after := #[{ on := 0, ground := Go.Ground.data }, { on := 0, ground := Go.Ground.phase }, { on := 1, ground := Go.Ground.phase }, { on := 2, ground := Go.Ground.phase }, { on := 3, ground := Go.Ground.phase }, { on := 4, ground := Go.Ground.phase }, { on := 5, ground := Go.Ground.phase }], guard := none }) rfl (by rfl) (fun K hK => ?_) ?_
  · go_simp
    refine hK.out _ _ ?_ (fun hS => ?_)
    · exact hS
    clear hK K
    try simp only [Act.put, List.setIfInBounds_toArray, List.set_cons_zero, List.set_cons_succ]
    refine wpAnyF_take (i := 7) (oi := { dst := some 9, op := Go.Op.fieldAddr 67 (Go.Operand.tmp 8) 1, type := 0, pos := "account.go:106", after := #[{ on := 6, ground := Go.Ground.data }, { on := 0, ground := Go.Ground.phase }, { on := 1, ground := Go.Ground.phase }, { on := 2, ground := Go.Ground.phase }, { on := 3, ground := Go.Ground.phase }, { on := 4, ground := Go.Ground.phase }, { on := 5, ground := Go.Ground.phase }], guard := none }) (v := ?_) rfl (by kernel_rfl) (by kernel_rfl) (by kernel_rfl) (by kernel_rfl) (fun _ _ _ h => h) (Or.inl ⟨by rfl, ?_⟩) hS ?_
    rotate_left
    · intro w' hSw; have q0 := (hSw.cell (p := ⟨g0, 0, none⟩) l3).trans k3; have q1 := (hSw.cell (p := ⟨g1, 0, none⟩) l4).trans k4; have q2 := (hSw.cell (p := ⟨b, 1, none⟩) l5).trans k5; go_simp; try with_reducible rfl
    try simp only [Act.put, List.setIfInBounds_toArray, List.set_cons_zero, List.set_cons_succ]
    refine wpAnyF_ready (rs := [8]) (by kernel_rfl) (by simp) ?_
    refine AllReadyF.fin (o := { dst := none, op := Go.Op.store 2 (Go.Operand.tmp 9) (Go.Operand.tmp 7), type := 0, pos := "account.go:106", after := #[{ on := 7, ground := Go.Ground.data }, { on := 5, ground := Go.Ground.data }, { on := 0, ground := Go.Ground.phase }, { on := 1, ground := Go.Ground.phase }, { on := 2, ground := Go.Ground.phase }, { on := 3, ground := Go.Ground.phase }, { on := 4, ground := Go.Ground.phase }, { on := 5, ground := Go.Ground.phase }], guard := none }) rfl (by rfl) (fun K hK => ?_) ?_
    · go_simp
      refine hK.out _ _ ?_
      clear hK K
      try simp only [Act.put, List.setIfInBounds_toArray, List.set_cons_zero, List.set_cons_succ]
      refine wpAnyF_done (by kernel_rfl) ?_ _
      go_wp2_with fail
      go_end0
      exact ⟨rfl, by unfold Acc.take; rw [← HQ.out]; exact HS.out.grow (Below.refl _ _).drew, HCS.out⟩
    exact AllReadyF.nil
  exact AllReadyF.nil

theorem bring1_any {g : Nat} {v : Int} {w : World} (h : Blk w g 2 #[.int .i64 v]) : Calls Try.prog 64 #[.pointer (some ⟨g, 0, none⟩)] w fun e w' => e = .returned (.int .i64 v) ∧ w' = w := by
  have k0 : w.cell? ⟨g, 0, none⟩ = some (.int .i64 v) := h.cell 0
  clear h
  go_enter Try.func64, Try.ntmps64
  go_wp2_with fail
  go_ret
  exact ⟨rfl, rfl⟩

set_option maxRecDepth 100000 in
set_option maxHeartbeats 2000000 in
theorem bring2_any {b m n g0 g1 : Nat} {a : Acc} {w : World} (h : AccAt w b m n a) (ho : coin a.bud) {v : Int} (hv : coin v) (h0 : Blk w g0 23 #[.pointer (some ⟨b, 0, none⟩)]) (h1 : Blk w g1 2 #[.int .i64 v]) :
    Calls Try.prog 65 #[.pointer (some ⟨g0, 0, none⟩), .pointer (some ⟨g1, 0, none⟩)] w fun e w' => e = .returned (.tuple #[]) ∧ AccAt w' b m n (a.bring v) ∧ Chg (· = b) w w' := by
  have k3 : w.cell? ⟨g0, 0, none⟩ = some (.pointer (some ⟨b, 0, none⟩)) := h0.cell 0
  have k4 : w.cell? ⟨g1, 0, none⟩ = some (.int .i64 v) := h1.cell 0
  have hw := add_wrap ho hv
  obtain ⟨q, hq⟩ : ∃ z, z = a.bud := ⟨_, rfl⟩
  rw [← hq] at hw
  have HQ := Lib.hid hq
  have k5 : w.cell? ⟨b, 0, none⟩ = some (.int .i64 q) := by rw [hq]; exact h.blk.cell 0
  have k6 : w.drew.frozen? ⟨b, 0, none⟩ = false := h.blk.frozen 0
  have k7 : w.drew.cell? ⟨b, 0, none⟩ = some (.int .i64 q) := k5
  have l3 := h0.lt
  have l4 := h1.lt
  have l5 := h.blk.lt
  have HS := Lib.hid (h.setBud (q + v))
  have HCS := Lib.hid (show Chg (· = b) w (w.setCell ⟨b, 0, none⟩ (.int .i64 (q + v))).drew from (Chg.set w ⟨b, 0, none⟩ (.int .i64 (q + v))).grow (Below.refl _ _).drew)
  clear h ho hv h0 h1 hq
  go_enter Try.func65, Try.ntmps65
  try go_wp2_with fail
  refine wp_region_F (Below w.heap.size w) [8] (by kernel_rfl) ((Below.refl _ _).drew) (fun hS => ?_)
  refine wpAnyF_take (i := 0) (oi := { dst := some 2, op := Go.Op.load 23 (Go.Operand.tmp 0), type := 23, pos := "account.go:76", after := #[], guard := none }) (v := ?_) rfl (by kernel_rfl) (by kernel_rfl) (by kernel_rfl) (by kernel_rfl) (fun _ _ _ h => h) (Or.inl ⟨by rfl, ?_⟩) hS ?_
  rotate_left
  · intro w' hSw; have q0 := (hSw.cell (p := ⟨g0, 0, none⟩) l3).trans k3; have q1 := (hSw.cell (p := ⟨g1, 0, none⟩) l4).trans k4; have q2 := (hSw.cell (p := ⟨b, 0, none⟩) l5).trans k5; go_simp; try with_reducible rfl
  try simp only [Act.put, List.setIfInBounds_toArray, List.set_cons_zero, List.set_cons_succ]
  refine wpAnyF_take (i := 1) (oi := { dst := some 3, op := Go.Op.nilCheck (Go.Operand.tmp 2), type := 0, pos := "account.go:76", after := #[{ on := 0, ground := Go.Ground.data }], guard := none }) (v := ?_) rfl (by kernel_rfl) (by kernel_rfl) (by kernel_rfl) (by kernel_rfl) (fun _ _ _ h => h) (Or.inl ⟨by rfl, ?_⟩) hS ?_
  rotate_left
  · intro w' hSw; have q0 := (hSw.cell (p := ⟨g0, 0, none⟩) l3).trans k3; have q1 := (hSw.cell (p := ⟨g1, 0, none⟩) l4).trans k4; have q2 := (hSw.cell (p := ⟨b, 0, none⟩) l5).trans k5; go_simp; try with_reducible rfl
  try simp only [Act.put, List.setIfInBounds_toArray, List.set_cons_zero, List.set_cons_succ]
  refine wpAnyF_take (i := 2) (oi := { dst := some 4, op := Go.Op.fieldAddr 67 (Go.Operand.tmp 3) 0, type := 0, pos := "account.go:76", after := #[{ on := 1, ground := Go.Ground.data }], guard := none }) (v := ?_) rfl (by kernel_rfl) (by kernel_rfl) (by kernel_rfl) (by kernel_rfl) (fun _ _ _ h => h) (Or.inl ⟨by rfl, ?_⟩) hS ?_
  rotate_left
  · intro w' hSw; have q0 := (hSw.cell (p := ⟨g0, 0, none⟩) l3).trans k3; have q1 := (hSw.cell (p := ⟨g1, 0, none⟩) l4).trans k4; have q2 := (hSw.cell (p := ⟨b, 0, none⟩) l5).trans k5; go_simp; try with_reducible rfl
  try simp only [Act.put, List.setIfInBounds_toArray, List.set_cons_zero, List.set_cons_succ]
  refine wpAnyF_take (i := 3) (oi := { dst := some 5, op := Go.Op.load 2 (Go.Operand.tmp 4), type := 2, pos := "account.go:76", after := #[{ on := 2, ground := Go.Ground.data }], guard := none }) (v := ?_) rfl (by kernel_rfl) (by kernel_rfl) (by kernel_rfl) (by kernel_rfl) (fun _ _ _ h => h) (Or.inl ⟨by rfl, ?_⟩) hS ?_
  rotate_left
  · intro w' hSw; have q0 := (hSw.cell (p := ⟨g0, 0, none⟩) l3).trans k3; have q1 := (hSw.cell (p := ⟨g1, 0, none⟩) l4).trans k4; have q2 := (hSw.cell (p := ⟨b, 0, none⟩) l5).trans k5; go_simp; try with_reducible rfl
  try simp only [Act.put, List.setIfInBounds_toArray, List.set_cons_zero, List.set_cons_succ]
  refine wpAnyF_take (i := 4) (oi := { dst := some 6, op := Go.Op.load 2 (Go.Operand.tmp 1), type := 2, pos := "account.go:76", after := #[], guard := none }) (v := ?_) rfl (by kernel_rfl) (by kernel_rfl) (by kernel_rfl) (by kernel_rfl) (fun _ _ _ h => h) (Or.inl ⟨by rfl, ?_⟩) hS ?_
  rotate_left
  · intro w' hSw; have q0 := (hSw.cell (p := ⟨g0, 0, none⟩) l3).trans k3; have q1 := (hSw.cell (p := ⟨g1, 0, none⟩) l4).trans k4; have q2 := (hSw.cell (p := ⟨b, 0, none⟩) l5).trans k5; go_simp; try with_reducible rfl
  try simp only [Act.put, List.setIfInBounds_toArray, List.set_cons_zero, List.set_cons_succ]
  refine wpAnyF_take (i := 5) (oi := { dst := some 7, op := Go.Op.binOp Go.BinOp.add 2 (Go.Operand.tmp 5) (Go.Operand.tmp 6) 2, type := 2, pos := "account.go:76", after := #[{ on := 3, ground := Go.Ground.data }, { on := 4, ground := Go.Ground.data }], guard := none }) (v := ?_) rfl (by kernel_rfl) (by kernel_rfl) (by kernel_rfl) (by kernel_rfl) (fun _ _ _ h => h) (Or.inl ⟨by rfl, ?_⟩) hS ?_
  rotate_left
  · intro w' hSw; have q0 := (hSw.cell (p := ⟨g0, 0, none⟩) l3).trans k3; have q1 := (hSw.cell (p := ⟨g1, 0, none⟩) l4).trans k4; have q2 := (hSw.cell (p := ⟨b, 0, none⟩) l5).trans k5; go_simp; try with_reducible rfl
  try simp only [Act.put, List.setIfInBounds_toArray, List.set_cons_zero, List.set_cons_succ]
  refine wpAnyF_ready (rs := [6]) (by kernel_rfl) (by simp) ?_
  refine AllReadyF.cons (o := { dst := some 8, op := Go.Op.nilCheck (Go.Operand.tmp 2), type := 0, pos := "account.go:76", after := #[{ on := 0, ground := Go.Ground.data }, { on := 0, ground := Go.Ground.phase }, { on := 1, ground := Go.Ground.phase }, { on := 2, ground := Go.Ground.phase }, { on := 3, ground := Go.Ground.phase }, { on := 4, ground := Go.Ground.phase }, { on := 5, ground := Go.Ground.phase }], guard := none }) rfl (by rfl) (fun K hK => ?_) ?_
  · go_simp
    refine hK.out _ _ ?_ (fun hS => ?_)
    · exact hS
    clear hK K
    try simp only [Act.put, List.setIfInBounds_toArray, List.set_cons_zero, List.set_cons_succ]
    refine wpAnyF_take (i := 7) (oi := { dst := some 9, op := Go.Op.fieldAddr 67 (Go.Operand.tmp 8) 0, type := 0, pos := "account.go:76", after := #[{ on := 6, ground := Go.Ground.data }, { on := 0, ground := Go.Ground.phase }, { on := 1, ground := Go.Ground.phase }, { on := 2, ground := Go.Ground.phase }, { on := 3, ground := Go.Ground.phase }, { on := 4, ground := Go.Ground.phase }, { on := 5, ground := Go.Ground.phase }], guard := none }) (v := ?_) rfl (by kernel_rfl) (by kernel_rfl) (by kernel_rfl) (by kernel_rfl) (fun _ _ _ h => h) (Or.inl ⟨by rfl, ?_⟩) hS ?_
    rotate_left
    · intro w' hSw; have q0 := (hSw.cell (p := ⟨g0, 0, none⟩) l3).trans k3; have q1 := (hSw.cell (p := ⟨g1, 0, none⟩) l4).trans k4; have q2 := (hSw.cell (p := ⟨b, 0, none⟩) l5).trans k5; go_simp; try with_reducible rfl
    try simp only [Act.put, List.setIfInBounds_toArray, List.set_cons_zero, List.set_cons_succ]
    refine wpAnyF_ready (rs := [8]) (by kernel_rfl) (by simp) ?_
    refine AllReadyF.fin (o := { dst := none, op := Go.Op.store 2 (Go.Operand.tmp 9) (Go.Operand.tmp 7), type := 0, pos := "account.go:76", after := #[{ on := 7, ground := Go.Ground.data }, { on := 5, ground := Go.Ground.data }, { on := 0, ground := Go.Ground.phase }, { on := 1, ground := Go.Ground.phase }, { on := 2, ground := Go.Ground.phase }, { on := 3, ground := Go.Ground.phase }, { on := 4, ground := Go.Ground.phase }, { on := 5, ground := Go.Ground.phase }], guard := none }) rfl (by rfl) (fun K hK => ?_) ?_
    · go_simp
      refine hK.out _ _ ?_
      clear hK K
      try simp only [Act.put, List.setIfInBounds_toArray, List.set_cons_zero, List.set_cons_succ]
      refine wpAnyF_done (by kernel_rfl) ?_ _
      go_wp2_with fail
      go_end0
      exact ⟨rfl, by unfold Acc.bring; rw [← HQ.out]; exact HS.out.grow (Below.refl _ _).drew, HCS.out⟩
    exact AllReadyF.nil
  exact AllReadyF.nil
end Go.Proofs.Ytibhmgeckghoeaa.Ac
